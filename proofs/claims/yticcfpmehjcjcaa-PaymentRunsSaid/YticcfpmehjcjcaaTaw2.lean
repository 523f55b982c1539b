/- Printed by gen.py of this repo: the walks that tie the functions to their specifications. -/
import Derived.Test.YticcfpmehjcjcaaTt
import Derived.Test.YticcfpmehjcjcaaTaw1
namespace Go.Proofs.Yticcfpmehjcjcaa
open Go.RowKit
set_option linter.unusedSimpArgs false
set_option linter.unusedVariables false
attribute [local irreducible] WP SemOk SemU Fn AN Upd vcR vcO vcOps vcPlan putK fillK resK inBlk forkOne Cell StAt Kept

theorem recyclinglaw56_PaymentTwo_fn {μ : Gh} {L : List Seg} {R : Value → Gh → List Seg → Prop}  {l1 : (List T_recyclinglaw56_Act)} {a1 : Int} {b1 : Int} {f_at1 : Int} {A1 : Option Addr} {c1 : Nat} {res1 : Bool}
    (hl1 : l1.length ≤ c1 ∧ c1 ≤ maxLen) (hA1 : Rds r_recyclinglaw56_Act μ L A1 l1) (h : recyclinglaw56_PaymentTwo l1 a1 b1 f_at1 = some res1)
    (hR : R (.bool res1) μ (L)) :
    Fn Try.prog 6 [.slice A1 l1.length c1, .int .u32 a1, .int .u32 b1, .int .i64 f_at1] μ (L) R := by
  unfold recyclinglaw56_PaymentTwo at h
  refine Fn.of_body Tt_ok Try.func6 (by kernel_rfl) rfl Try.ntmps6 (by simp) ?_
  simp only [Try.f6, argFr, List.zipIdx, List.map, Nat.reduceAdd]
  refine WP.seq_k (fun K891 hK891 => WP.region Tt_ok (O_cons (O_read rfl (R_assign rfl (P_some rfl (O_nil (hK891 _ _ _ (WP.seq_k (fun K892 hK892 => WP.region Tt_ok (O_cons (O_call (all := []) rfl rfl rfl ?_)))))))))))
  obtain ⟨r1, hx1, h⟩ := obind h
  refine payment_New_fn  hx1 (fun pv1 so1 hP1 => P_some rfl (O_cons (O_call (all := []) rfl rfl rfl ?_)))
  obtain ⟨r2, hx2, h⟩ := obind h
  refine payment_New_fn  hx2 (fun pv2 so2 hP2 => P_some rfl (O_cons (O_read rfl (R_assign rfl (P_some rfl (O_cons (O_read rfl (R_assign rfl (P_some rfl (O_nil (hK892 _ _ _ (WP.seq_k (fun K895 hK895 => WP.seq_k (fun K896 hK896 => ?_))))))))))))))
  obtain ⟨g1, A2, c2, ch1, g2, es1, cn1, hv1, rfl, hO1, hM1⟩ := hP2
  subst hv1
  refine WP.seg (L2 := ([(g1, .cells #[.slice A2 r2.f_open.length c2, .map (some g2), .int .i64 r2.credit, .int .i64 r2.last] 56 (0, 0))] :: ch1 :: [(g2, .map es1 cn1)] :: so1 :: L)) (SegSub.flat (by simp)) ?_
  obtain ⟨g3, A3, c3, ch2, g4, es2, cn2, hv2, rfl, hO2, hM2⟩ := hP1
  subst hv2
  refine WP.seg (L2 := ([(g1, .cells #[.slice A2 r2.f_open.length c2, .map (some g2), .int .i64 r2.credit, .int .i64 r2.last] 56 (0, 0))] :: ch1 :: [(g2, .map es1 cn1)] :: [(g3, .cells #[.slice A3 r1.f_open.length c3, .map (some g4), .int .i64 r1.credit, .int .i64 r1.last] 56 (0, 0))] :: ch2 :: [(g4, .map es2 cn2)] :: L)) (SegSub.flat (by simp)) ?_
  obtain ⟨o906, h906, h⟩ := obind h
  refine WP.cutK (fun fr_ μ_ L_ => ∃ (v1 : Bool), v1 = o906 ∧ SubFr [(0, .slice A1 l1.length c1), (1, .int .u32 a1), (2, .int .u32 b1), (3, .int .i64 f_at1), (9, .pointer (some ⟨g3, 0, none⟩)), (10, .pointer (some ⟨g1, 0, none⟩)), (29, .bool v1)] fr_ ∧ SegSub ([(g3, .cells #[.slice A3 r1.f_open.length c3, .map (some g4), .int .i64 r1.credit, .int .i64 r1.last] 56 (0, 0))] :: ch2 :: [(g4, .map es2 cn2)] :: [(g1, .cells #[.slice A2 r2.f_open.length c2, .map (some g2), .int .i64 r2.credit, .int .i64 r2.last] 56 (0, 0))] :: ch1 :: [(g2, .map es1 cn1)] :: L) L_ ∧ μ = μ_) ?_ ?_
  · refine WP.region Tt_ok (O_cons (O_read rfl (R_move rfl (P_some rfl (O_cons (O_read rfl (R_lenS rfl rfl rfl (P_some rfl (O_cons (O_read rfl (R_gtrD rfl rfl (P_some rfl (O_cons ?_)))))))))))))
    refine O_read rfl (R_move rfl (P_some rfl ?_))
    refine O_gv (z := (decide (100 < ((l1.length : Nat) : Int)))) rfl rfl (fun hc1 => ?_) (fun hc1 => ?_)
    · replace h906 := cond_f hc1 h906
      refine O_read rfl (R_move rfl (P_some rfl (O_gY rfl rfl hc1 (O_read rfl (R_eqP1 rfl rfl rfl rfl (P_some rfl (O_cons (O_read rfl (R_pick_F rfl hc1 rfl (P_some rfl (O_cons (O_read rfl (R_move rfl ?_)))))))))))))
      refine P_some rfl (O_gY rfl rfl rfl (O_read rfl (R_move rfl (P_some rfl (O_gY rfl rfl rfl (O_read rfl (R_eqP1 rfl rfl rfl rfl (P_some rfl (O_cons (O_read rfl (R_pick_F rfl rfl rfl (P_some rfl (O_nil ?_)))))))))))))
      have e_ := Option.some.inj h906
      subst e_
      exact ⟨false, rfl, SubFr.of ⟨rfl, rfl, rfl, rfl, rfl, rfl, rfl, trivial⟩, SegSub.sel _ [some 3, some 4, some 5, some 0, some 1, some 2] 6, rfl⟩
    replace h906 := cond_t hc1 h906
    refine P_some rfl (O_gN rfl rfl hc1 (P_some rfl (O_cons (O_read rfl (R_pick_T rfl hc1 rfl (P_some rfl (O_cons (O_read rfl (R_move rfl (P_some rfl (O_gN rfl rfl rfl (P_some rfl (O_gN rfl rfl rfl ?_)))))))))))))
    refine P_some rfl (O_cons (O_read rfl (R_pick_T rfl rfl rfl (P_some rfl (O_nil ?_)))))
    have e_ := Option.some.inj h906
    subst e_
    exact ⟨true, rfl, SubFr.of ⟨rfl, rfl, rfl, rfl, rfl, rfl, rfl, trivial⟩, SegSub.sel _ [some 3, some 4, some 5, some 0, some 1, some 2] 6, rfl⟩
  rintro fr906 μ906 L906 hm906 ⟨v1, ho906, hF906, hS906, hu906⟩
  subst ho906
  subst hu906
  refine hK896 _ _ _ (WP.at hF906 hS906 ?_)
  refine W_cond_v (b := v1) rfl (fun hc2 => ?_) (fun hc2 => ?_)
  · replace h := cond_t hc2 h
    refine WP.seq_k (fun K911 hK911 => WP.region Tt_ok (O_cons (O_call (all := []) rfl rfl rfl ?_)))
    obtain ⟨r3, hx3, h⟩ := obind h
    refine recyclinglaw56_awake_fn  hx3 ((P_some rfl (O_cons (O_read rfl (R_assign rfl (P_some rfl (O_nil (hK911 _ _ _ (WP.ret ?_)))))))))
    have e_ := Option.some.inj h
    subst e_
    refine S_tmp rfl (S_nil (Upd.selS [] 6 ?_))
    exact Upd.done hR
  replace h := cond_f hc2 h
  refine WP.skip (hK895 _ _ _ (WP.seq_k (fun K912 hK912 => WP.region Tt_ok (O_cons (O_read rfl (R_move rfl (P_some rfl (O_cons (O_read rfl (R_move rfl (P_some rfl (O_cons (O_call (all := [.pointer (some ⟨g3, 0, none⟩), .slice A1 l1.length c1]) rfl rfl rfl ?_)))))))))))))
  have hP3 : Obj_payment_Register μ (.pointer (some ⟨g3, 0, none⟩)) r1 ((g3, Obj.cells #[.slice A3 r1.f_open.length c3, .map (some g4), .int .i64 r1.credit, .int .i64 r1.last] 56 (0, 0)) :: (ch2 ++ ((g4, Obj.map es2 cn2) :: []))) := ⟨g3, A3, c3, ch2, g4, es2, cn2, rfl, rfl, hO2, hM2⟩
  refine Fn.seg (L2 := (((g3, Obj.cells #[.slice A3 r1.f_open.length c3, .map (some g4), .int .i64 r1.credit, .int .i64 r1.last] 56 (0, 0)) :: (ch2 ++ ((g4, Obj.map es2 cn2) :: []))) :: [(g1, .cells #[.slice A2 r2.f_open.length c2, .map (some g2), .int .i64 r2.credit, .int .i64 r2.last] 56 (0, 0))] :: ch1 :: [(g2, .map es1 cn1)] :: L)) (SegSub.trans (SegSub.flat (by simp [selS])) (SegSub.sel _ [some 0, some 1, some 2, some 3, some 4, some 5] 6)) ?_
  obtain ⟨⟨r4, r5, r6⟩, hx4, h⟩ := obind h
  replace h := oun_mk h
  replace h := oun_mk h
  refine recyclinglaw56_run_fn hP3 hl1 (Rds.push (Rds.push (Rds.push hA1))) hx4 (fun so3 hP4 => P_some rfl (O_nil (hK912 _ _ _ (WP.seq_k (fun K917 hK917 => WP.region Tt_ok (O_cons (O_read rfl (R_move rfl (P_some rfl (O_cons (O_read rfl (R_move rfl (P_some rfl ?_)))))))))))))
  refine O_cons (O_call (all := [.pointer (some ⟨g1, 0, none⟩), .slice A1 l1.length c1]) rfl rfl rfl ?_)
  have hP5 : Obj_payment_Register μ (.pointer (some ⟨g1, 0, none⟩)) r2 ((g1, Obj.cells #[.slice A2 r2.f_open.length c2, .map (some g2), .int .i64 r2.credit, .int .i64 r2.last] 56 (0, 0)) :: (ch1 ++ ((g2, Obj.map es1 cn1) :: []))) := ⟨g1, A2, c2, ch1, g2, es1, cn1, rfl, rfl, hO1, hM1⟩
  refine Fn.seg (L2 := (((g1, Obj.cells #[.slice A2 r2.f_open.length c2, .map (some g2), .int .i64 r2.credit, .int .i64 r2.last] 56 (0, 0)) :: (ch1 ++ ((g2, Obj.map es1 cn1) :: []))) :: so3 :: L)) (SegSub.trans (SegSub.flat (by simp [selS])) (SegSub.sel _ [some 1, some 2, some 3, some 0] 4)) ?_
  obtain ⟨⟨r7, r8, r9⟩, hx5, h⟩ := obind h
  replace h := oun_mk h
  replace h := oun_mk h
  refine recyclinglaw56_run_fn hP5 hl1 (Rds.push hA1) hx5 (fun so4 hP6 => P_some rfl (O_nil (hK917 _ _ _ (WP.seq_k (fun K922 hK922 => WP.region Tt_ok (O_cons (O_read rfl (R_move rfl (P_some rfl (O_cons (O_read rfl (R_move rfl (P_some rfl ?_)))))))))))))
  refine O_cons (O_read rfl (R_conv rfl rfl rfl rfl (P_some rfl (O_cons (O_read rfl (R_move rfl (P_some rfl (O_cons (O_call (all := [.pointer (some ⟨g3, 0, none⟩), .int .i64 (w64 (a1)), .int .i64 f_at1]) rfl rfl rfl (Fn.seg (L2 := (so3 :: so4 :: L)) (SegSub.sel _ [some 1, some 0] 2) ?_))))))))))
  obtain ⟨⟨r10, r11, r12⟩, hx6, h⟩ := obind h
  replace h := oun_mk h
  replace h := oun_mk h
  refine payment_Register_Pay_fn hP4 hx6 (fun A4 c4 ch3 so5 hO3 hP7 => P_some rfl (O_cons (O_read rfl (R_move rfl (P_some rfl (O_cons (O_read rfl (R_ext rfl rfl (P_some rfl (O_cons (O_read rfl (R_ext rfl rfl (P_some rfl ?_)))))))))))))
  refine O_cons (O_read rfl (R_assign rfl (P_some rfl (O_cons (O_read rfl (R_assign rfl (P_some rfl (O_nil (hK922 _ _ _ (WP.seq_k (fun K927 hK927 => WP.region Tt_ok (O_cons (O_read rfl ?_)))))))))))))
  refine R_move rfl (P_some rfl (O_cons (O_read rfl (R_move rfl (P_some rfl (O_cons (O_read rfl (R_conv rfl rfl rfl rfl (P_some rfl (O_cons (O_read rfl (R_move rfl (P_some rfl ?_)))))))))))))
  refine O_cons (O_call (all := [.pointer (some ⟨g3, 0, none⟩), .int .i64 (w64 (b1)), .int .i64 f_at1]) rfl rfl rfl (Fn.seg (L2 := (so5 :: ch3 :: so4 :: L)) (SegSub.sel _ [some 1, some 0, some 2] 3) ?_))
  obtain ⟨⟨r13, r14, r15⟩, hx7, h⟩ := obind h
  replace h := oun_mk h
  replace h := oun_mk h
  refine payment_Register_Pay_fn hP7 hx7 (fun A5 c5 ch4 so6 hO4 hP8 => P_some rfl (O_cons (O_read rfl (R_move rfl (P_some rfl (O_cons (O_read rfl (R_ext rfl rfl (P_some rfl (O_cons (O_read rfl (R_ext rfl rfl (P_some rfl ?_)))))))))))))
  refine O_cons (O_read rfl (R_assign rfl (P_some rfl (O_cons (O_read rfl (R_assign rfl (P_some rfl (O_nil (hK927 _ _ _ (WP.seq_k (fun K932 hK932 => WP.region Tt_ok (O_cons (O_read rfl ?_)))))))))))))
  refine R_move rfl (P_some rfl (O_cons (O_read rfl (R_move rfl (P_some rfl (O_cons (O_read rfl (R_conv rfl rfl rfl rfl (P_some rfl (O_cons (O_read rfl (R_move rfl (P_some rfl ?_)))))))))))))
  refine O_cons (O_read rfl (R_conv rfl rfl rfl rfl (P_some rfl (O_cons (O_read rfl (R_add rfl rfl (P_some rfl (O_cons (O_read rfl (R_move rfl (P_some rfl (O_cons (O_call (all := [.pointer (some ⟨g1, 0, none⟩), .int .i64 (w64 ((w64 (a1)) + (w64 (b1)))), .int .i64 f_at1]) rfl rfl rfl ?_)))))))))))))
  refine Fn.seg (L2 := (so4 :: ch4 :: so6 :: ch3 :: L)) (SegSub.sel _ [some 3, some 0, some 1, some 2] 4) ?_
  obtain ⟨⟨r16, r17, r18⟩, hx8, h⟩ := obind h
  replace h := oun_mk h
  replace h := oun_mk h
  refine payment_Register_Pay_fn hP6 hx8 (fun A6 c6 ch5 so7 hO5 hP9 => P_some rfl (O_cons (O_read rfl (R_move rfl (P_some rfl (O_cons (O_read rfl (R_ext rfl rfl (P_some rfl (O_cons (O_read rfl (R_ext rfl rfl (P_some rfl ?_)))))))))))))
  refine O_cons (O_read rfl (R_assign rfl (P_some rfl (O_cons (O_read rfl (R_assign rfl (P_some rfl (O_nil (hK932 _ _ _ (WP.seq_k (fun K937 hK937 => WP.seq_k (fun K938 hK938 => ?_))))))))))))
  obtain ⟨o939, h939, h⟩ := obind h
  refine WP.cutK (fun fr_ μ_ L_ => ∃ (v2 : Bool), v2 = o939 ∧ SubFr [(9, .pointer (some ⟨g3, 0, none⟩)), (10, .pointer (some ⟨g1, 0, none⟩)), (73, .bool v2)] fr_ ∧ SegSub (so6 :: so7 :: L) L_ ∧ μ = μ_) ?_ ?_
  · refine WP.region Tt_ok (O_cons (O_read rfl (R_move rfl (P_some rfl (O_cons (O_read rfl (R_neqD rfl rfl (P_some rfl (O_cons (O_read rfl (R_move rfl (P_some rfl ?_))))))))))))
    refine O_gv (z := !(decide (r11 = 0))) rfl rfl (fun hc3 => ?_) (fun hc3 => ?_)
    · replace h939 := cond_f hc3 h939
      refine O_read rfl (R_move rfl (P_some rfl (O_gY rfl rfl hc3 (O_read rfl (R_neqD rfl rfl (P_some rfl (O_cons (O_read rfl (R_pick_F rfl hc3 rfl (P_some rfl (O_cons (O_read rfl (R_move rfl ?_)))))))))))))
      apply P_some; exact rfl
      refine O_gv (z := !(decide (r14 = 0))) rfl rfl (fun hc4 => ?_) (fun hc4 => ?_)
      · replace h939 := cond_f hc4 h939
        refine O_read rfl (R_move rfl (P_some rfl (O_gY rfl rfl hc4 (O_read rfl (R_neqD rfl rfl (P_some rfl (O_cons (O_read rfl (R_pick_F rfl hc4 rfl (P_some rfl (O_nil ?_)))))))))))
        have e_ := Option.some.inj h939
        subst e_
        exact ⟨!(decide (r17 = 0)), rfl, SubFr.of ⟨rfl, rfl, rfl, trivial⟩, SegSub.sel _ [some 3, some 1] 5, rfl⟩
      replace h939 := cond_t hc4 h939
      refine P_some rfl (O_gN rfl rfl hc4 (P_some rfl (O_cons (O_read rfl (R_pick_T rfl hc4 rfl (P_some rfl (O_nil ?_)))))))
      have e_ := Option.some.inj h939
      subst e_
      exact ⟨true, rfl, SubFr.of ⟨rfl, rfl, rfl, trivial⟩, SegSub.sel _ [some 3, some 1] 5, rfl⟩
    replace h939 := cond_t hc3 h939
    refine P_some rfl (O_gN rfl rfl hc3 (P_some rfl (O_cons (O_read rfl (R_pick_T rfl hc3 rfl (P_some rfl (O_cons (O_read rfl (R_move rfl (P_some rfl (O_gN rfl rfl rfl (P_some rfl (O_gN rfl rfl rfl ?_)))))))))))))
    refine P_some rfl (O_cons (O_read rfl (R_pick_T rfl rfl rfl (P_some rfl (O_nil ?_)))))
    have e_ := Option.some.inj h939
    subst e_
    exact ⟨true, rfl, SubFr.of ⟨rfl, rfl, rfl, trivial⟩, SegSub.sel _ [some 3, some 1] 5, rfl⟩
  rintro fr939 μ939 L939 hm939 ⟨v2, ho939, hF939, hS939, hu939⟩
  subst ho939
  subst hu939
  refine hK938 _ _ _ (WP.at hF939 hS939 ?_)
  refine W_cond_v (b := v2) rfl (fun hc5 => ?_) (fun hc5 => ?_)
  · replace h := cond_t hc5 h
    refine WP.seq_k (fun K940 hK940 => WP.region Tt_ok (O_cons (O_call (all := []) rfl rfl rfl ?_)))
    obtain ⟨r19, hx9, h⟩ := obind h
    refine recyclinglaw56_awake_fn  hx9 ((P_some rfl (O_cons (O_read rfl (R_assign rfl (P_some rfl (O_nil (hK940 _ _ _ (WP.ret ?_)))))))))
    have e_ := Option.some.inj h
    subst e_
    refine S_tmp rfl (S_nil (Upd.selS [] 2 ?_))
    exact Upd.done hR
  replace h := cond_f hc5 h
  refine WP.skip (hK937 _ _ _ (WP.seq_k (fun K941 hK941 => ?_)))
  obtain ⟨o942, h942, h⟩ := obind h
  refine WP.cutK (fun fr_ μ_ L_ => ∃ (v3 : Bool), v3 = o942 ∧ SubFr [(8, .bool v3)] fr_ ∧ SegSub (L) L_ ∧ μ = μ_) ?_ ?_
  · refine WP.region Tt_ok (O_cons (O_read rfl (R_move rfl (P_some rfl (O_cons (O_call (all := [.pointer (some ⟨g3, 0, none⟩)]) rfl rfl rfl ?_))))))
    obtain ⟨⟨r20, r21⟩, hx10, h942⟩ := obind h942
    replace h942 := oun_mk h942
    refine payment_Register_Open_fn hP8 hx10 (fun A7 c7 ch6 so8 hO6 hP10 => P_some rfl (O_cons (O_read rfl (R_move rfl (P_some rfl (O_cons (O_call (all := [.pointer (some ⟨g1, 0, none⟩)]) rfl rfl rfl (Fn.seg (L2 := (so7 :: ch6 :: so8 :: L)) (SegSub.sel _ [some 2, some 0, some 1] 3) ?_))))))))
    obtain ⟨⟨r22, r23⟩, hx11, h942⟩ := obind h942
    replace h942 := oun_mk h942
    refine payment_Register_Open_fn hP9 hx11 (fun A8 c8 ch7 so9 hO7 hP11 => P_some rfl (O_cons (O_call (all := [.slice A7 r20.length c7, .slice A8 r22.length c8]) rfl rfl rfl ?_)))
    obtain ⟨r24, hx12, h942⟩ := obind h942
    refine recyclingref56_Same_fn (Own.lenOk hO6) (Own.rds (L := (ch7 :: so9 :: ch6 :: so8 :: L)) hO6 2 rfl) (Own.lenOk hO7) (Own.rds (L := (ch7 :: so9 :: ch6 :: so8 :: L)) hO7 0 rfl) hx12 ((P_some rfl (O_cons (O_read rfl (R_move rfl (P_some rfl ?_))))))
    refine O_gv (z := r24) rfl rfl (fun hc6 => ?_) (fun hc6 => ?_)
    · replace h942 := cond_t hc6 h942
      refine O_read rfl (R_move rfl (P_some rfl (O_gY rfl rfl hc6 (O_call (all := [.pointer (some ⟨g3, 0, none⟩)]) rfl rfl rfl (Fn.seg (L2 := (so8 :: ch7 :: so9 :: ch6 :: L)) (SegSub.sel _ [some 3, some 0, some 1, some 2] 4) ?_)))))
      obtain ⟨⟨r25, r26⟩, hx13, h942⟩ := obind h942
      replace h942 := oun_mk h942
      refine payment_Register_Balance_fn hP10 hx13 (fun so10 hP12 => P_some rfl (O_gY rfl rfl hc6 (O_read rfl (R_move rfl (P_some rfl (O_gY rfl rfl hc6 (O_call (all := [.pointer (some ⟨g1, 0, none⟩)]) rfl rfl rfl (Fn.seg (L2 := (so9 :: so10 :: ch7 :: ch6 :: L)) (SegSub.sel _ [some 2, some 0, some 1, some 3] 4) ?_))))))))
      obtain ⟨⟨r27, r28⟩, hx14, h942⟩ := obind h942
      replace h942 := oun_mk h942
      refine payment_Register_Balance_fn hP11 hx14 (fun so11 hP13 => P_some rfl (O_gY rfl rfl hc6 (O_read rfl (R_eqlD rfl rfl (P_some rfl (O_cons (O_read rfl (R_pick_T rfl hc6 rfl (P_some rfl (O_cons (O_read rfl (R_move rfl (P_some rfl ?_)))))))))))))
      refine O_gv (z := (decide (r25 = r27))) rfl rfl (fun hc7 => ?_) (fun hc7 => ?_)
      · replace h942 := cond_t hc7 h942
        apply O_call (all := []); exact rfl; exact rfl; exact rfl
        obtain ⟨r29, hx15, h942⟩ := obind h942
        refine recyclinglaw56_awake_fn  hx15 ((P_some rfl (O_cons (O_read rfl (R_pick_T rfl hc7 rfl (P_some rfl (O_cons (O_read rfl (R_assign rfl (P_some rfl (O_nil ?_)))))))))))
        have e_ := Option.some.inj h942
        subst e_
        exact ⟨r29, rfl, SubFr.of ⟨rfl, trivial⟩, SegSub.sel _ [] 4, rfl⟩
      replace h942 := cond_f hc7 h942
      refine P_some rfl (O_cons (O_read rfl (R_pick_F rfl hc7 rfl (P_some rfl (O_cons (O_read rfl (R_assign rfl (P_some rfl (O_nil ?_)))))))))
      have e_ := Option.some.inj h942
      subst e_
      exact ⟨false, rfl, SubFr.of ⟨rfl, trivial⟩, SegSub.sel _ [] 4, rfl⟩
    replace h942 := cond_f hc6 h942
    refine P_some rfl (O_gN rfl rfl hc6 (P_some rfl (O_gN rfl rfl hc6 (P_some rfl (O_gN rfl rfl hc6 (P_some rfl (O_gN rfl rfl hc6 (P_some rfl (O_cons (O_read rfl (R_pick_F rfl hc6 rfl (P_some rfl (O_cons ?_)))))))))))))
    refine O_read rfl (R_move rfl (P_some rfl (O_gN rfl rfl rfl (P_some rfl (O_cons (O_read rfl (R_pick_F rfl rfl rfl (P_some rfl (O_cons (O_read rfl (R_assign rfl (P_some rfl (O_nil ?_)))))))))))))
    have e_ := Option.some.inj h942
    subst e_
    exact ⟨false, rfl, SubFr.of ⟨rfl, trivial⟩, SegSub.sel _ [] 4, rfl⟩
  rintro fr942 μ942 L942 hm942 ⟨v3, ho942, hF942, hS942, hu942⟩
  subst ho942
  subst hu942
  refine hK941 _ _ _ (WP.at hF942 hS942 (WP.ret ?_))
  have e_ := Option.some.inj h
  subst e_
  refine S_tmp rfl (S_nil (Upd.selS [] 0 ?_))
  exact Upd.done hR

theorem recyclingref56_New_fn {μ : Gh} {L : List Seg} {R : Value → Gh → List Seg → Prop}    {res1 : T_recyclingref56_Register}
     (h : recyclingref56_New = some res1)
    (hR : ∀ (v0 : Value) (so0 : Seg), Obj_recyclingref56_Register μ v0 res1 so0 → R (v0) μ (so0 :: L)) :
    Fn Try.prog 10 [] μ (L) R := by
  unfold recyclingref56_New at h
  refine Fn.of_body Tt_ok Try.func10 (by kernel_rfl) rfl Try.ntmps10 (by simp) ?_
  simp only [Try.f10, argFr, List.zipIdx, List.map, Nat.reduceAdd]
  refine WP.seq_k (fun K959 hK959 => WP.region Tt_ok (O_cons (O_read rfl (R_assign rfl (P_some rfl (O_nil (hK959 _ _ _ (WP.seq_k (fun K960 hK960 => WP.region Tt_ok (O_cons (O_read rfl (R_build rfl rfl rfl rfl (F_nil ?_)))))))))))))
  refine P_some rfl (O_cons (O_box (cs := #[.slice none 0 0, .int .i64 0, .int .i64 0]) rfl rfl (fun g1 => P_some rfl (O_cons (O_read rfl (R_assign rfl (P_some rfl (O_nil (hK960 _ _ _ (WP.ret ?_))))))))))
  have e_ := Option.some.inj h
  subst e_
  refine S_tmp rfl (S_nil (Upd.selS [some 0] 1 ?_))
  exact Upd.done (hR (.pointer (some ⟨g1, 0, none⟩)) ((g1, Obj.cells #[.slice none 0 0, .int .i64 0, .int .i64 0] 58 (0, 0)) :: ([] ++ [])) (⟨g1, none, 0, [], rfl, rfl, Own.nil⟩))

theorem recyclingref56_moment_fn {μ : Gh} {L : List Seg} {R : Value → Gh → List Seg → Prop}  {t1 : Int}  {res1 : Bool}
     (h : recyclingref56_moment t1 = some res1)
    (hR : R (.bool res1) μ (L)) :
    Fn Try.prog 28 [.int .i64 t1] μ (L) R := by
  unfold recyclingref56_moment at h
  refine Fn.of_body Tt_ok Try.func28 (by kernel_rfl) rfl Try.ntmps28 (by simp) ?_
  simp only [Try.f28, argFr, List.zipIdx, List.map, Nat.reduceAdd]
  refine WP.seq_k (fun K1005 hK1005 => WP.region Tt_ok (O_cons (O_read rfl (R_assign rfl (P_some rfl (O_nil (hK1005 _ _ _ (WP.seq_k (fun K1006 hK1006 => ?_)))))))))
  obtain ⟨o1007, h1007, h⟩ := obind h
  refine WP.cutK (fun fr_ μ_ L_ => ∃ (v1 : Bool), v1 = o1007 ∧ SubFr [(2, .bool v1)] fr_ ∧ SegSub (L) L_ ∧ μ = μ_) ?_ ?_
  · refine WP.region Tt_ok (O_cons (O_read rfl (R_move rfl (P_some rfl (O_cons (O_read rfl (R_geqD rfl rfl (P_some rfl (O_cons (O_read rfl (R_move rfl (P_some rfl ?_))))))))))))
    refine O_gv (z := (decide (0 ≤ t1))) rfl rfl (fun hc1 => ?_) (fun hc1 => ?_)
    · replace h1007 := cond_t hc1 h1007
      refine O_read rfl (R_move rfl (P_some rfl (O_gY rfl rfl hc1 (O_read rfl (R_leqD rfl rfl (P_some rfl (O_cons (O_read rfl (R_pick_T rfl hc1 rfl (P_some rfl (O_cons (O_read rfl (R_assign rfl ?_)))))))))))))
      refine P_some rfl (O_nil ?_)
      have e_ := Option.some.inj h1007
      subst e_
      exact ⟨(decide (t1 ≤ 3155759999)), rfl, SubFr.of ⟨rfl, trivial⟩, SegSub.sel _ [] 0, rfl⟩
    replace h1007 := cond_f hc1 h1007
    refine P_some rfl (O_gN rfl rfl hc1 (P_some rfl (O_cons (O_read rfl (R_pick_F rfl hc1 rfl (P_some rfl (O_cons (O_read rfl (R_assign rfl (P_some rfl (O_nil ?_)))))))))))
    have e_ := Option.some.inj h1007
    subst e_
    exact ⟨false, rfl, SubFr.of ⟨rfl, trivial⟩, SegSub.sel _ [] 0, rfl⟩
  rintro fr1007 μ1007 L1007 hm1007 ⟨v1, ho1007, hF1007, hS1007, hu1007⟩
  subst ho1007
  subst hu1007
  refine hK1006 _ _ _ (WP.at hF1007 hS1007 (WP.ret ?_))
  have e_ := Option.some.inj h
  subst e_
  refine S_tmp rfl (S_nil (Upd.selS [] 0 ?_))
  exact Upd.done hR

theorem recyclingref56_before_fn {μ : Gh} {L : List Seg} {R : Value → Gh → List Seg → Prop}  {a1 : T_api_Open} {b1 : T_api_Open}  {res1 : Bool}
     (h : recyclingref56_before a1 b1 = some res1)
    (hR : R (.bool res1) μ (L)) :
    Fn Try.prog 29 [.agg #[.int .i64 a1.Bill, .int .i64 a1.Due, .int .i64 a1.Rest], .agg #[.int .i64 b1.Bill, .int .i64 b1.Due, .int .i64 b1.Rest]] μ (L) R := by
  unfold recyclingref56_before at h
  refine Fn.of_body Tt_ok Try.func29 (by kernel_rfl) rfl Try.ntmps29 (by simp) ?_
  simp only [Try.f29, argFr, List.zipIdx, List.map, Nat.reduceAdd]
  refine WP.seq_k (fun K1069 hK1069 => WP.region Tt_ok (O_cons (O_box (cs := #[.int .i64 a1.Bill, .int .i64 a1.Due, .int .i64 a1.Rest]) rfl rfl (fun g1 => P_some rfl (O_cons (O_box (cs := #[.int .i64 b1.Bill, .int .i64 b1.Due, .int .i64 b1.Rest]) rfl rfl (fun g2 => P_some rfl (O_cons (O_read rfl (R_assign rfl (P_some rfl (O_nil (hK1069 _ _ _ ?_)))))))))))))
  refine WP.seq_k ?_; intro K1072 hK1072
  obtain ⟨o1073, h1073, h⟩ := obind h
  refine WP.cutK (fun fr_ μ_ L_ => ∃ (v1 : Bool), v1 = o1073 ∧ SubFr [(4, .bool v1)] fr_ ∧ SegSub (L) L_ ∧ μ = μ_) ?_ ?_
  · refine WP.region Tt_ok (O_cons (O_read rfl (R_fa0 (o' := 1) rfl rfl rfl rfl rfl rfl (P_some rfl (O_cons (O_read rfl (R_load rfl rfl rfl (Ex.mk _ (Cell.seg 1 0 rfl rfl rfl) (P_some rfl (O_cons (O_read rfl (R_fa0 (o' := 1) rfl rfl rfl rfl rfl rfl (P_some rfl ?_)))))))))))))
    refine O_cons (O_read rfl (R_load rfl rfl rfl (Ex.mk _ (Cell.seg 0 0 rfl rfl rfl) (P_some rfl (O_cons (O_read rfl (R_lssD rfl rfl (P_some rfl (O_cons (O_read rfl (R_move rfl (P_some rfl ?_))))))))))))
    refine O_gv (z := (decide (a1.Due < b1.Due))) rfl rfl (fun hc1 => ?_) (fun hc1 => ?_)
    · replace h1073 := cond_f hc1 h1073
      refine O_read rfl (R_fa0 (o' := 1) rfl rfl rfl rfl rfl rfl (P_some rfl (O_gY rfl rfl hc1 (O_read rfl (R_load rfl rfl rfl (Ex.mk _ (Cell.seg 1 0 rfl rfl rfl) (P_some rfl (O_gY rfl rfl hc1 (O_read rfl (R_fa0 (o' := 1) rfl rfl rfl rfl rfl rfl (P_some rfl (O_gY rfl rfl hc1 (O_read rfl ?_)))))))))))))
      refine R_load rfl rfl rfl (Ex.mk _ (Cell.seg 0 0 rfl rfl rfl) (P_some rfl (O_gY rfl rfl hc1 (O_read rfl (R_eqlD rfl rfl (P_some rfl (O_gY rfl rfl hc1 (O_read rfl (R_move rfl (P_some rfl ?_))))))))))
      refine O_gv (z := (decide (a1.Due = b1.Due))) rfl rfl (fun hc2 => ?_) (fun hc2 => ?_)
      · replace h1073 := cond_t hc2 h1073
        refine O_read rfl (R_fa0 (o' := 0) rfl rfl rfl rfl rfl rfl (P_some rfl (O_gY rfl rfl hc2 (O_read rfl (R_load rfl rfl rfl (Ex.mk _ (Cell.seg 1 0 rfl rfl rfl) (P_some rfl (O_gY rfl rfl hc2 (O_read rfl (R_fa0 (o' := 0) rfl rfl rfl rfl rfl rfl (P_some rfl (O_gY rfl rfl hc2 (O_read rfl ?_)))))))))))))
        refine R_load rfl rfl rfl (Ex.mk _ (Cell.seg 0 0 rfl rfl rfl) (P_some rfl (O_gY rfl rfl hc2 (O_read rfl (R_lssD rfl rfl (P_some rfl (O_gY rfl rfl hc1 (O_read rfl (R_pick_T rfl hc2 rfl (P_some rfl (O_cons (O_read rfl (R_pick_F rfl hc1 rfl ?_)))))))))))))
        refine P_some rfl (O_cons (O_read rfl (R_assign rfl (P_some rfl (O_nil ?_)))))
        have e_ := Option.some.inj h1073
        subst e_
        exact ⟨(decide (a1.Bill < b1.Bill)), rfl, SubFr.of ⟨rfl, trivial⟩, SegSub.sel _ [] 2, rfl⟩
      replace h1073 := cond_f hc2 h1073
      refine P_some rfl (O_gN rfl rfl hc2 (P_some rfl (O_gN rfl rfl hc2 (P_some rfl (O_gN rfl rfl hc2 (P_some rfl (O_gN rfl rfl hc2 (P_some rfl (O_gY rfl rfl hc1 (O_read rfl (R_pick_F rfl hc2 rfl (P_some rfl (O_cons ?_)))))))))))))
      refine O_read rfl (R_pick_F rfl hc1 rfl (P_some rfl (O_cons (O_read rfl (R_assign rfl (P_some rfl (O_nil ?_)))))))
      have e_ := Option.some.inj h1073
      subst e_
      exact ⟨false, rfl, SubFr.of ⟨rfl, trivial⟩, SegSub.sel _ [] 2, rfl⟩
    replace h1073 := cond_t hc1 h1073
    refine P_some rfl (O_gN rfl rfl hc1 (P_some rfl (O_gN rfl rfl hc1 (P_some rfl (O_gN rfl rfl hc1 (P_some rfl (O_gN rfl rfl hc1 (P_some rfl (O_gN rfl rfl hc1 (P_some rfl (O_gu rfl rfl (P_some rfl (O_gu rfl rfl ?_)))))))))))))
    refine P_some rfl (O_gu rfl rfl (P_some rfl (O_gu rfl rfl (P_some rfl (O_gu rfl rfl (P_some rfl (O_gN rfl rfl hc1 (P_some rfl (O_cons (O_read rfl (R_pick_T rfl hc1 rfl (P_some rfl (O_cons ?_)))))))))))))
    refine O_read rfl (R_assign rfl (P_some rfl (O_nil ?_)))
    have e_ := Option.some.inj h1073
    subst e_
    exact ⟨true, rfl, SubFr.of ⟨rfl, trivial⟩, SegSub.sel _ [] 2, rfl⟩
  rintro fr1073 μ1073 L1073 hm1073 ⟨v1, ho1073, hF1073, hS1073, hu1073⟩
  subst ho1073
  subst hu1073
  refine hK1072 _ _ _ (WP.at hF1073 hS1073 (WP.ret ?_))
  have e_ := Option.some.inj h
  subst e_
  refine S_tmp rfl (S_nil (Upd.selS [] 0 ?_))
  exact Upd.done hR

theorem recyclingref56_Register_Charge_fn {μ : Gh} {L : List Seg} {R : Value → Gh → List Seg → Prop}  {r1 : T_recyclingref56_Register} {bill1 : Int} {amount1 : Int} {due1 : Int} {pv1 : Value} {so1 : Seg} {res1 : Int} {res2 : T_recyclingref56_Register}
    (hP1 : Obj_recyclingref56_Register μ pv1 r1 so1) (h : recyclingref56_Register_Charge r1 bill1 amount1 due1 = some (res1, res2))
    (hR : ∀ (sp0 : Seg), Obj_recyclingref56_Register μ pv1 res2 sp0 → R (.int .i64 res1) μ (sp0 :: L)) :
    Fn Try.prog 13 [pv1, .int .i64 bill1, .int .i64 amount1, .int .i64 due1] μ (so1 :: L) R := by
  unfold recyclingref56_Register_Charge at h
  refine Fn.of_body Tt_ok Try.func13 (by kernel_rfl) rfl Try.ntmps13 (by simp) ?_
  simp only [Try.f13, argFr, List.zipIdx, List.map, Nat.reduceAdd]
  refine WP.seq_k (fun K1148 hK1148 => WP.region Tt_ok (O_cons (O_read rfl (R_assign rfl (P_some rfl (O_nil (hK1148 _ _ _ (WP.seq_k (fun K1149 hK1149 => WP.seq_k (fun K1150 hK1150 => ?_))))))))))
  obtain ⟨g1, A1, c1, ch1, hv1, rfl, hO1⟩ := hP1
  subst hv1
  refine WP.seg (L2 := ([(g1, .cells #[.slice A1 r1.Bills.length c1, .int .i64 r1.Credit, .int .i64 r1.Last] 58 (0, 0))] :: ch1 :: L)) (SegSub.flat (by simp)) (WP.region Tt_ok (O_cons (O_read rfl (R_move rfl (P_some rfl (O_cons (O_read rfl (R_eqP1 rfl rfl rfl rfl (P_some rfl (O_nil (hK1150 _ _ _ (W_cond_f rfl (WP.skip ?_)))))))))))))
  refine hK1149 _ _ _ (WP.seq_k (fun K1154 hK1154 => WP.seq_k (fun K1155 hK1155 => ?_)))
  obtain ⟨o1156, h1156, h⟩ := obind h
  refine WP.cutK (fun fr_ μ_ L_ => ∃ (v1 : Bool), v1 = o1156 ∧ SubFr [(0, .pointer (some ⟨g1, 0, none⟩)), (1, .int .i64 bill1), (2, .int .i64 amount1), (3, .int .i64 due1), (36, .bool v1)] fr_ ∧ SegSub ([(g1, .cells #[.slice A1 r1.Bills.length c1, .int .i64 r1.Credit, .int .i64 r1.Last] 58 (0, 0))] :: ch1 :: L) L_ ∧ μ = μ_) ?_ ?_
  · refine WP.region Tt_ok (O_cons (O_read rfl (R_move rfl (P_some rfl (O_cons (O_read rfl (R_lssD rfl rfl (P_some rfl (O_cons (O_read rfl (R_move rfl (P_some rfl ?_))))))))))))
    refine O_gv (z := (decide (bill1 < 1))) rfl rfl (fun hc1 => ?_) (fun hc1 => ?_)
    · replace h1156 := cond_f hc1 h1156
      refine O_read rfl (R_move rfl (P_some rfl (O_gY rfl rfl hc1 (O_read rfl (R_gtrD rfl rfl (P_some rfl (O_cons (O_read rfl (R_pick_F rfl hc1 rfl (P_some rfl (O_cons (O_read rfl (R_move rfl ?_)))))))))))))
      apply P_some; exact rfl
      refine O_gv (z := (decide (1000000 < bill1))) rfl rfl (fun hc2 => ?_) (fun hc2 => ?_)
      · replace h1156 := cond_f hc2 h1156
        refine O_read rfl (R_move rfl (P_some rfl (O_gY rfl rfl hc2 (O_read rfl (R_lssD rfl rfl (P_some rfl (O_cons (O_read rfl (R_pick_F rfl hc2 rfl (P_some rfl (O_cons (O_read rfl (R_move rfl ?_)))))))))))))
        apply P_some; exact rfl
        refine O_gv (z := (decide (amount1 < 1))) rfl rfl (fun hc3 => ?_) (fun hc3 => ?_)
        · replace h1156 := cond_f hc3 h1156
          refine O_read rfl (R_move rfl (P_some rfl (O_gY rfl rfl hc3 (O_read rfl (R_gtrD rfl rfl (P_some rfl (O_cons (O_read rfl (R_pick_F rfl hc3 rfl (P_some rfl (O_cons (O_read rfl (R_move rfl ?_)))))))))))))
          apply P_some; exact rfl
          refine O_gv (z := (decide (1000000000000 < amount1))) rfl rfl (fun hc4 => ?_) (fun hc4 => ?_)
          · replace h1156 := cond_f hc4 h1156
            refine O_read rfl (R_move rfl (P_some rfl (O_gY rfl rfl hc4 (O_call (all := [.int .i64 due1]) rfl rfl rfl ?_))))
            obtain ⟨r2, hx1, h1156⟩ := obind h1156
            refine recyclingref56_moment_fn  hx1 ((P_some rfl (O_gY rfl rfl hc4 (O_read rfl (R_not rfl (P_some rfl (O_cons (O_read rfl (R_pick_F rfl hc4 rfl (P_some rfl (O_nil ?_)))))))))))
            have e_ := Option.some.inj h1156
            subst e_
            exact ⟨!r2, rfl, SubFr.of ⟨rfl, rfl, rfl, rfl, rfl, trivial⟩, SegSub.sel _ [some 0, some 1] 2, rfl⟩
          replace h1156 := cond_t hc4 h1156
          refine P_some rfl (O_gN rfl rfl hc4 (P_some rfl (O_gN rfl rfl hc4 (P_some rfl (O_cons (O_read rfl (R_pick_T rfl hc4 rfl (P_some rfl (O_nil ?_)))))))))
          have e_ := Option.some.inj h1156
          subst e_
          exact ⟨true, rfl, SubFr.of ⟨rfl, rfl, rfl, rfl, rfl, trivial⟩, SegSub.sel _ [some 0, some 1] 2, rfl⟩
        replace h1156 := cond_t hc3 h1156
        refine P_some rfl (O_gN rfl rfl hc3 (P_some rfl (O_cons (O_read rfl (R_pick_T rfl hc3 rfl (P_some rfl (O_cons (O_read rfl (R_move rfl (P_some rfl (O_gN rfl rfl rfl (P_some rfl (O_gN rfl rfl rfl ?_)))))))))))))
        refine P_some rfl (O_gN rfl rfl rfl (P_some rfl (O_cons (O_read rfl (R_pick_T rfl rfl rfl (P_some rfl (O_nil ?_)))))))
        have e_ := Option.some.inj h1156
        subst e_
        exact ⟨true, rfl, SubFr.of ⟨rfl, rfl, rfl, rfl, rfl, trivial⟩, SegSub.sel _ [some 0, some 1] 2, rfl⟩
      replace h1156 := cond_t hc2 h1156
      refine P_some rfl (O_gN rfl rfl hc2 (P_some rfl (O_cons (O_read rfl (R_pick_T rfl hc2 rfl (P_some rfl (O_cons (O_read rfl (R_move rfl (P_some rfl (O_gN rfl rfl rfl (P_some rfl (O_gN rfl rfl rfl ?_)))))))))))))
      refine P_some rfl (O_cons (O_read rfl (R_pick_T rfl rfl rfl (P_some rfl (O_cons (O_read rfl (R_move rfl (P_some rfl (O_gN rfl rfl rfl (P_some rfl (O_gN rfl rfl rfl (P_some rfl (O_gN rfl rfl rfl ?_)))))))))))))
      refine P_some rfl (O_cons (O_read rfl (R_pick_T rfl rfl rfl (P_some rfl (O_nil ?_)))))
      have e_ := Option.some.inj h1156
      subst e_
      exact ⟨true, rfl, SubFr.of ⟨rfl, rfl, rfl, rfl, rfl, trivial⟩, SegSub.sel _ [some 0, some 1] 2, rfl⟩
    replace h1156 := cond_t hc1 h1156
    refine P_some rfl (O_gN rfl rfl hc1 (P_some rfl (O_cons (O_read rfl (R_pick_T rfl hc1 rfl (P_some rfl (O_cons (O_read rfl (R_move rfl (P_some rfl (O_gN rfl rfl rfl (P_some rfl (O_gN rfl rfl rfl ?_)))))))))))))
    refine P_some rfl (O_cons (O_read rfl (R_pick_T rfl rfl rfl (P_some rfl (O_cons (O_read rfl (R_move rfl (P_some rfl (O_gN rfl rfl rfl (P_some rfl (O_gN rfl rfl rfl (P_some rfl (O_cons ?_)))))))))))))
    refine O_read rfl (R_pick_T rfl rfl rfl (P_some rfl (O_cons (O_read rfl (R_move rfl (P_some rfl (O_gN rfl rfl rfl (P_some rfl (O_gN rfl rfl rfl (P_some rfl (O_gN rfl rfl rfl (P_some rfl (O_cons ?_)))))))))))))
    refine O_read rfl (R_pick_T rfl rfl rfl (P_some rfl (O_nil ?_)))
    have e_ := Option.some.inj h1156
    subst e_
    exact ⟨true, rfl, SubFr.of ⟨rfl, rfl, rfl, rfl, rfl, trivial⟩, SegSub.sel _ [some 0, some 1] 2, rfl⟩
  rintro fr1156 μ1156 L1156 hm1156 ⟨v1, ho1156, hF1156, hS1156, hu1156⟩
  subst ho1156
  subst hu1156
  refine hK1155 _ _ _ (WP.at hF1156 hS1156 ?_)
  refine W_cond_v (b := v1) rfl (fun hc5 => ?_) (fun hc5 => ?_)
  · replace h := cond_t hc5 h
    refine WP.seq_k (fun K1159 hK1159 => WP.region Tt_ok (O_cons (O_read rfl (R_assign rfl (P_some rfl (O_nil (hK1159 _ _ _ (WP.ret ?_))))))))
    have e_ := Option.some.inj h
    obtain ⟨e0a_, e0b_⟩ := Prod.mk.inj e_
    clear e_
    subst e0a_
    subst e0b_
    refine S_tmp rfl (S_nil (Upd.seg (L2 := (((g1, Obj.cells #[.slice A1 r1.Bills.length c1, .int .i64 r1.Credit, .int .i64 r1.Last] 58 (0, 0)) :: (ch1 ++ [])) :: L)) (SegSub.trans (SegSub.flat (by simp [selS])) (SegSub.sel _ [some 0, some 1] 2)) ?_))
    exact Upd.done (hR ((g1, Obj.cells #[.slice A1 r1.Bills.length c1, .int .i64 r1.Credit, .int .i64 r1.Last] 58 (0, 0)) :: (ch1 ++ [])) (⟨g1, A1, c1, ch1, rfl, rfl, hO1⟩))
  replace h := cond_f hc5 h
  refine WP.skip (hK1154 _ _ _ (WP.seq_k (fun K1160 hK1160 => WP.seq_k (fun K1161 hK1161 => WP.region Tt_ok (O_cons (O_read rfl (R_move rfl (P_some rfl (O_cons (O_read rfl (R_nilP rfl (P_some rfl (O_cons ?_)))))))))))))
  refine O_read rfl (R_fa0 (o' := 0) rfl rfl rfl rfl rfl rfl (P_some rfl (O_cons (O_read rfl (R_load rfl rfl rfl (Ex.mk _ (Cell.seg 0 0 rfl rfl rfl) (P_some rfl (O_cons (O_read rfl (R_lenS rfl rfl rfl (P_some rfl (O_cons (O_read rfl ?_)))))))))))))
  refine R_move rfl (P_some rfl (O_nil (hK1161 _ _ _ ?_)))
  obtain ⟨o1162, h1162, h⟩ := obind h
  refine WP.cutK (fun fr_ μ_ L_ => (.inl ()) = o1162 ∧ SubFr [(0, .pointer (some ⟨g1, 0, none⟩)), (1, .int .i64 bill1), (2, .int .i64 amount1), (3, .int .i64 due1)] fr_ ∧ SegSub ([(g1, .cells #[.slice A1 r1.Bills.length c1, .int .i64 r1.Credit, .int .i64 r1.Last] 58 (0, 0))] :: ch1 :: L) L_ ∧ μ = μ_) ?_ ?_
  · refine WP.block (WP.iter h1162 (fun (v2 : Int) fr_ μ_ L_ => SubFr [(0, .pointer (some ⟨g1, 0, none⟩)), (1, .int .i64 bill1), (2, .int .i64 amount1), (3, .int .i64 due1), (40, .slice A1 r1.Bills.length c1), (41, .int .i64 ((r1.Bills.length : Nat) : Int)), (42, .int .i64 v2)] fr_ ∧ SegSub ([(g1, .cells #[.slice A1 r1.Bills.length c1, .int .i64 r1.Credit, .int .i64 r1.Last] 58 (0, 0))] :: ch1 :: L) L_ ∧ μ = μ_) ⟨SubFr.of ⟨rfl, rfl, rfl, rfl, rfl, rfl, rfl, trivial⟩, SegSub.sel _ [some 0, some 1] 2, rfl⟩ ?_)
    rintro v2 q1175 fr1175 μ1175 L1175 hm1175 ⟨hF1175, hS1175, hu1175⟩ hb1175 hq1175
    unfold recyclingref56_Register_Charge_l1 at hb1175
    subst hu1175
    refine WP.at hF1175 hS1175 (WP.seq_k (fun K1179 hK1179 => WP.region Tt_ok (O_cons (O_read rfl (R_lssD rfl rfl (P_some rfl (O_nil (hK1179 _ _ _ (WP.seq_k (fun K1180 hK1180 => ?_))))))))))
    refine W_cond_v (b := (decide (v2 < ((r1.Bills.length : Nat) : Int)))) rfl (fun hc6 => ?_) (fun hc6 => ?_)
    · replace hb1175 := cond_t hc6 hb1175
      refine WP.skip (hK1180 _ _ _ (WP.seq_k (fun K1181 hK1181 => WP.block (WP.seq_k (fun K1182 hK1182 => WP.region Tt_ok (O_cons ?_))))))
      obtain ⟨x1, hx2, hb1175⟩ := obind hb1175
      obtain ⟨a1, cs1, hA1, hr1, _, hc7⟩ := Rds.getI (Own.rds (L := ([(g1, .cells #[.slice A1 r1.Bills.length c1, .int .i64 r1.Credit, .int .i64 r1.Last] 58 (0, 0))] :: ch1 :: L)) hO1 1 rfl) hx2
      obtain rfl := hr1
      refine O_read rfl (R_iaG rfl rfl rfl rfl rfl rfl ⟨(getI_lt hx2).1, (getI_lt hx2).2.1⟩ hA1 (P_some rfl (O_cons (O_read rfl (R_loadA rfl rfl rfl rfl (Ex.mk [.int .i64 x1.Bill, .int .i64 x1.Due, .int .i64 x1.Rest] ⟨rfl, hc7⟩ (P_some rfl (O_cons (O_alloc (cs := #[.int .i64 0, .int .i64 0, .int .i64 0]) rfl rfl (fun g2 => P_some rfl (O_cons (O_store (vs := [.int .i64 x1.Bill, .int .i64 x1.Due, .int .i64 x1.Rest]) rfl rfl rfl rfl rfl rfl (ST_ (L' := ([(g2, .cells #[.int .i64 x1.Bill, .int .i64 x1.Due, .int .i64 x1.Rest] 49 (0, 0))] :: [(g1, .cells #[.slice A1 r1.Bills.length c1, .int .i64 r1.Credit, .int .i64 r1.Last] 58 (0, 0))] :: ch1 :: L)) 0 0 rfl rfl rfl rfl ?_)))))))))))))
      refine P_none (O_nil (hK1182 _ _ _ (WP.seq_k (fun K1185 hK1185 => WP.region Tt_ok (O_cons (O_read rfl (R_fa0 (o' := 0) rfl rfl rfl rfl rfl rfl (P_some rfl (O_cons (O_read rfl (R_load rfl rfl rfl (Ex.mk _ (Cell.seg 0 0 rfl rfl rfl) (P_some rfl ?_)))))))))))))
      refine O_cons (O_read rfl (R_move rfl (P_some rfl (O_cons (O_read rfl (R_eqlD rfl rfl (P_some rfl (O_nil (hK1185 _ _ _ ?_)))))))))
      refine W_cond_v (b := (decide (x1.Bill = bill1))) rfl (fun hc8 => ?_) (fun hc8 => ?_)
      · replace hb1175 := cond_t hc8 hb1175
        refine WP.seq_k (fun K1186 hK1186 => WP.region Tt_ok (O_cons (O_read rfl (R_assign rfl (P_some rfl (O_nil (hK1186 _ _ _ (WP.ret ?_))))))))
        have e_ := Option.some.inj hb1175
        subst e_
        have hq_ := hq1175 _ rfl
        subst hq_
        replace h := osum_r h
        have e_ := Option.some.inj h
        obtain ⟨e0a_, e0b_⟩ := Prod.mk.inj e_
        clear e_
        subst e0a_
        subst e0b_
        refine S_tmp rfl (S_nil (Upd.seg (L2 := (((g1, Obj.cells #[.slice A1 r1.Bills.length c1, .int .i64 r1.Credit, .int .i64 r1.Last] 58 (0, 0)) :: (ch1 ++ [])) :: L)) (SegSub.trans (SegSub.flat (by simp [selS])) (SegSub.sel _ [some 1, some 2] 3)) ?_))
        exact Upd.done (hR ((g1, Obj.cells #[.slice A1 r1.Bills.length c1, .int .i64 r1.Credit, .int .i64 r1.Last] 58 (0, 0)) :: (ch1 ++ [])) (⟨g1, A1, c1, ch1, rfl, rfl, hO1⟩))
      replace hb1175 := cond_f hc8 hb1175
      refine WP.skip (hK1181 _ _ _ (WP.region Tt_ok (O_cons (O_read rfl (R_add rfl rfl (P_some rfl (O_cons (O_read rfl (R_move rfl (P_some rfl (O_nil ?_)))))))))))
      have e_ := Option.some.inj hb1175
      subst e_
      exact ⟨_, rfl, SubFr.of ⟨rfl, rfl, rfl, rfl, rfl, rfl, rfl, trivial⟩, SegSub.sel _ [some 1, some 2] 3, rfl⟩
    replace hb1175 := cond_f hc6 hb1175
    refine WP.exit (B_here ?_)
    have e_ := Option.some.inj hb1175
    subst e_
    have hq_ := hq1175 _ rfl
    subst hq_
    exact ⟨rfl, SubFr.of ⟨rfl, rfl, rfl, rfl, trivial⟩, SegSub.sel _ [some 0, some 1] 2, rfl⟩
  rintro fr1162 μ1162 L1162 hm1162 ⟨ho1162, hF1162, hS1162, hu1162⟩
  subst ho1162
  replace h := osum_l h
  subst hu1162
  refine hK1160 _ _ _ (WP.at hF1162 hS1162 (WP.seq_k (fun K1189 hK1189 => WP.seq_k (fun K1190 hK1190 => WP.region Tt_ok (O_cons (O_read rfl (R_move rfl (P_some rfl (O_cons (O_read rfl (R_nilP rfl (P_some rfl (O_cons ?_)))))))))))))
  refine O_read rfl (R_fa0 (o' := 0) rfl rfl rfl rfl rfl rfl (P_some rfl (O_cons (O_read rfl (R_load rfl rfl rfl (Ex.mk _ (Cell.seg 0 0 rfl rfl rfl) (P_some rfl (O_cons (O_read rfl (R_lenS rfl rfl rfl (P_some rfl (O_cons (O_read rfl ?_)))))))))))))
  refine R_geqD rfl rfl (P_some rfl (O_nil (hK1190 _ _ _ ?_)))
  refine W_cond_v (b := (decide (512 ≤ ((r1.Bills.length : Nat) : Int)))) rfl (fun hc9 => ?_) (fun hc9 => ?_)
  · replace h := cond_t hc9 h
    refine WP.seq_k (fun K1191 hK1191 => WP.region Tt_ok (O_cons (O_read rfl (R_assign rfl (P_some rfl (O_nil (hK1191 _ _ _ (WP.ret ?_))))))))
    have e_ := Option.some.inj h
    obtain ⟨e0a_, e0b_⟩ := Prod.mk.inj e_
    clear e_
    subst e0a_
    subst e0b_
    refine S_tmp rfl (S_nil (Upd.seg (L2 := (((g1, Obj.cells #[.slice A1 r1.Bills.length c1, .int .i64 r1.Credit, .int .i64 r1.Last] 58 (0, 0)) :: (ch1 ++ [])) :: L)) (SegSub.trans (SegSub.flat (by simp [selS])) (SegSub.sel _ [some 0, some 1] 2)) ?_))
    exact Upd.done (hR ((g1, Obj.cells #[.slice A1 r1.Bills.length c1, .int .i64 r1.Credit, .int .i64 r1.Last] 58 (0, 0)) :: (ch1 ++ [])) (⟨g1, A1, c1, ch1, rfl, rfl, hO1⟩))
  replace h := cond_f hc9 h
  refine WP.skip (hK1189 _ _ _ (WP.seq_k (fun K1192 hK1192 => WP.region Tt_ok (O_cons (O_read rfl (R_move rfl (P_some rfl (O_cons (O_read rfl (R_move rfl (P_some rfl (O_cons (O_read rfl ?_)))))))))))))
  refine R_move rfl (P_some rfl (O_cons (O_read rfl (R_build rfl rfl rfl rfl (F_cons (cells' := [.int .i64 bill1, .int .i64 0, .int .i64 0]) rfl rfl rfl rfl (F_cons (cells' := [.int .i64 bill1, .int .i64 due1, .int .i64 0]) rfl rfl rfl rfl (F_cons (cells' := [.int .i64 bill1, .int .i64 due1, .int .i64 amount1]) rfl rfl rfl rfl (F_nil (P_some rfl (O_cons (O_alloc (cs := #[.int .i64 0, .int .i64 0, .int .i64 0]) rfl rfl (fun g3 => P_some rfl (O_cons ?_)))))))))))))
  refine O_store (vs := [.int .i64 bill1, .int .i64 due1, .int .i64 amount1]) rfl rfl rfl rfl rfl rfl (ST_ (L' := ([(g3, .cells #[.int .i64 bill1, .int .i64 due1, .int .i64 amount1] 49 (0, 0))] :: [(g1, .cells #[.slice A1 r1.Bills.length c1, .int .i64 r1.Credit, .int .i64 r1.Last] 58 (0, 0))] :: ch1 :: L)) 0 0 rfl rfl rfl rfl (P_none (O_nil (hK1192 _ _ _ (WP.seq_k (fun K1195 hK1195 => WP.region Tt_ok (O_cons (O_read rfl (R_assign rfl (P_some rfl (O_nil (hK1195 _ _ _ (WP.seq_k (fun K1198 hK1198 => ?_))))))))))))))
  refine WP.region Tt_ok (O_cons (O_read rfl (R_assign rfl (P_some rfl (O_nil (hK1198 _ _ _ (WP.seq_k (fun K1199 hK1199 => WP.seq_k (fun K1200 hK1200 => WP.region Tt_ok (O_cons (O_read rfl (R_move rfl (P_some rfl ?_)))))))))))))
  refine O_cons (O_read rfl (R_nilP rfl (P_some rfl (O_cons (O_read rfl (R_fa0 (o' := 0) rfl rfl rfl rfl rfl rfl (P_some rfl (O_cons (O_read rfl (R_load rfl rfl rfl (Ex.mk _ (Cell.seg 1 0 rfl rfl rfl) (P_some rfl (O_cons ?_)))))))))))))
  refine O_read rfl (R_lenS rfl rfl rfl (P_some rfl (O_cons (O_read rfl (R_move rfl (P_some rfl (O_nil (hK1200 _ _ _ ?_))))))))
  obtain ⟨o1201, h1201, h⟩ := obind h
  refine WP.cutK (fun fr_ μ_ L_ => ∃ (out3 : (List T_api_Open)) (done3 : Bool) (A6 : Option Addr) (c6 : Nat) (ch6 : Seg), (out3, done3) = o1201 ∧ SubFr [(0, .pointer (some ⟨g1, 0, none⟩)), (11, .pointer (some ⟨g3, 0, none⟩)), (12, .slice A6 out3.length c6), (13, .bool done3)] fr_ ∧ SegSub ([(g1, .cells #[.slice A1 r1.Bills.length c1, .int .i64 r1.Credit, .int .i64 r1.Last] 58 (0, 0))] :: ch1 :: [(g3, .cells #[.int .i64 bill1, .int .i64 due1, .int .i64 amount1] 49 (0, 0))] :: ch6 :: L) L_ ∧ Own r_api_Open 49 μ_ (.slice A6 out3.length c6) out3 ch6 ∧ μ = μ_) ?_ ?_
  · refine WP.block (WP.iter h1201 (fun (j_ : (List T_api_Open) × Bool × Int) fr_ μ_ L_ => ounP j_ fun out1 j_ => ounP j_ fun done1 v3 => ∃ (A2 : Option Addr) (c2 : Nat) (ch2 : Seg), SubFr [(0, .pointer (some ⟨g1, 0, none⟩)), (11, .pointer (some ⟨g3, 0, none⟩)), (12, .slice A2 out1.length c2), (13, .bool done1), (64, .slice A1 r1.Bills.length c1), (65, .int .i64 ((r1.Bills.length : Nat) : Int)), (66, .int .i64 v3)] fr_ ∧ SegSub ([(g1, .cells #[.slice A1 r1.Bills.length c1, .int .i64 r1.Credit, .int .i64 r1.Last] 58 (0, 0))] :: ch1 :: [(g3, .cells #[.int .i64 bill1, .int .i64 due1, .int .i64 amount1] 49 (0, 0))] :: ch2 :: L) L_ ∧ Own r_api_Open 49 μ_ (.slice A2 out1.length c2) out1 ch2 ∧ μ = μ_) ⟨none, 0, [], SubFr.of ⟨rfl, rfl, rfl, rfl, rfl, rfl, rfl, trivial⟩, SegSub.sel _ [some 1, some 2, some 0, none] 3, (Own.nil), rfl⟩ ?_)
    rintro ⟨out1, done1, v3⟩ q1238 fr1238 μ1238 L1238 hm1238 ⟨A2, c2, ch2, hF1238, hS1238, hO2, hu1238⟩ hb1238 hq1238
    unfold recyclingref56_Register_Charge_l2 at hb1238
    replace hb1238 := oun_mk hb1238
    replace hb1238 := oun_mk hb1238
    subst hu1238
    refine WP.at hF1238 hS1238 (WP.seq_k (fun K1247 hK1247 => WP.region Tt_ok (O_cons (O_read rfl (R_lssD rfl rfl (P_some rfl (O_nil (hK1247 _ _ _ (WP.seq_k (fun K1248 hK1248 => ?_))))))))))
    refine W_cond_v (b := (decide (v3 < ((r1.Bills.length : Nat) : Int)))) rfl (fun hc10 => ?_) (fun hc10 => ?_)
    · replace hb1238 := cond_t hc10 hb1238
      refine WP.skip (hK1248 _ _ _ (WP.seq_k (fun K1249 hK1249 => WP.block (WP.seq_k (fun K1250 hK1250 => WP.region Tt_ok (O_cons ?_))))))
      obtain ⟨x2, hx3, hb1238⟩ := obind hb1238
      obtain ⟨a2, cs2, hA2, hr2, _, hc11⟩ := Rds.getI (Own.rds (L := ([(g1, .cells #[.slice A1 r1.Bills.length c1, .int .i64 r1.Credit, .int .i64 r1.Last] 58 (0, 0))] :: ch1 :: [(g3, .cells #[.int .i64 bill1, .int .i64 due1, .int .i64 amount1] 49 (0, 0))] :: ch2 :: L)) hO1 1 rfl) hx3
      obtain rfl := hr2
      refine O_read rfl (R_iaG rfl rfl rfl rfl rfl rfl ⟨(getI_lt hx3).1, (getI_lt hx3).2.1⟩ hA2 (P_some rfl (O_cons (O_read rfl (R_loadA rfl rfl rfl rfl (Ex.mk [.int .i64 x2.Bill, .int .i64 x2.Due, .int .i64 x2.Rest] ⟨rfl, hc11⟩ (P_some rfl (O_cons (O_alloc (cs := #[.int .i64 0, .int .i64 0, .int .i64 0]) rfl rfl (fun g4 => P_some rfl (O_cons (O_store (vs := [.int .i64 x2.Bill, .int .i64 x2.Due, .int .i64 x2.Rest]) rfl rfl rfl rfl rfl rfl (ST_ (L' := ([(g4, .cells #[.int .i64 x2.Bill, .int .i64 x2.Due, .int .i64 x2.Rest] 49 (0, 0))] :: [(g1, .cells #[.slice A1 r1.Bills.length c1, .int .i64 r1.Credit, .int .i64 r1.Last] 58 (0, 0))] :: ch1 :: [(g3, .cells #[.int .i64 bill1, .int .i64 due1, .int .i64 amount1] 49 (0, 0))] :: ch2 :: L)) 0 0 rfl rfl rfl rfl ?_)))))))))))))
      refine P_none (O_nil (hK1250 _ _ _ (WP.seq_k (fun K1253 hK1253 => WP.seq_k (fun K1254 hK1254 => ?_)))))
      obtain ⟨o1255, h1255, hb1238⟩ := obind hb1238
      refine WP.cutK (fun fr_ μ_ L_ => ∃ (v4 : Bool), v4 = o1255 ∧ SubFr [(0, .pointer (some ⟨g1, 0, none⟩)), (11, .pointer (some ⟨g3, 0, none⟩)), (12, .slice A2 out1.length c2), (13, .bool done1), (15, .pointer (some ⟨g4, 0, none⟩)), (64, .slice A1 r1.Bills.length c1), (65, .int .i64 ((r1.Bills.length : Nat) : Int)), (66, .int .i64 v3), (76, .bool v4)] fr_ ∧ SegSub ([(g1, .cells #[.slice A1 r1.Bills.length c1, .int .i64 r1.Credit, .int .i64 r1.Last] 58 (0, 0))] :: ch1 :: [(g3, .cells #[.int .i64 bill1, .int .i64 due1, .int .i64 amount1] 49 (0, 0))] :: ch2 :: [(g4, .cells #[.int .i64 x2.Bill, .int .i64 x2.Due, .int .i64 x2.Rest] 49 (0, 0))] :: L) L_ ∧ μ = μ_) ?_ ?_
      · refine WP.region Tt_ok (O_cons (O_read rfl (R_move rfl (P_some rfl (O_cons (O_read rfl (R_not rfl (P_some rfl (O_cons (O_read rfl (R_move rfl (P_some rfl ?_))))))))))))
        refine O_gv (z := !done1) rfl rfl (fun hc12 => ?_) (fun hc12 => ?_)
        · replace h1255 := cond_t hc12 h1255
          refine O_read rfl (R_loadA rfl rfl rfl rfl (LA_ (vs := [.int .i64 bill1, .int .i64 due1, .int .i64 amount1]) 3 0 rfl rfl rfl rfl (P_some rfl (O_gY rfl rfl hc12 (O_read rfl (R_loadA rfl rfl rfl rfl (LA_ (vs := [.int .i64 x2.Bill, .int .i64 x2.Due, .int .i64 x2.Rest]) 0 0 rfl rfl rfl rfl (P_some rfl (O_gY rfl rfl hc12 (O_call (all := [.agg #[.int .i64 bill1, .int .i64 due1, .int .i64 amount1], .agg #[.int .i64 x2.Bill, .int .i64 x2.Due, .int .i64 x2.Rest]]) rfl rfl rfl ?_))))))))))
          obtain ⟨r3, hx4, h1255⟩ := obind h1255
          refine recyclingref56_before_fn  hx4 ((P_some rfl (O_cons (O_read rfl (R_pick_T rfl hc12 rfl (P_some rfl (O_nil ?_)))))))
          have e_ := Option.some.inj h1255
          subst e_
          exact ⟨r3, rfl, SubFr.of ⟨rfl, rfl, rfl, rfl, rfl, rfl, rfl, rfl, rfl, trivial⟩, SegSub.sel _ [some 1, some 2, some 3, some 4, some 0] 5, rfl⟩
        replace h1255 := cond_f hc12 h1255
        refine P_some rfl (O_gN rfl rfl hc12 (P_some rfl (O_gN rfl rfl hc12 (P_some rfl (O_cons (O_read rfl (R_pick_F rfl hc12 rfl (P_some rfl (O_nil ?_)))))))))
        have e_ := Option.some.inj h1255
        subst e_
        exact ⟨false, rfl, SubFr.of ⟨rfl, rfl, rfl, rfl, rfl, rfl, rfl, rfl, rfl, trivial⟩, SegSub.sel _ [some 1, some 2, some 3, some 4, some 0] 5, rfl⟩
      rintro fr1255 μ1255 L1255 hm1255 ⟨v4, ho1255, hF1255, hS1255, hu1255⟩
      subst ho1255
      subst hu1255
      refine hK1254 _ _ _ (WP.at hF1255 hS1255 ?_)
      obtain ⟨o1262, h1262, hb1238⟩ := obind hb1238
      refine WP.cutK (fun fr_ μ_ L_ => ∃ (out2 : (List T_api_Open)) (done2 : Bool) (A4 : Option Addr) (c4 : Nat) (ch4 : Seg), (out2, done2) = o1262 ∧ SubFr [(0, .pointer (some ⟨g1, 0, none⟩)), (11, .pointer (some ⟨g3, 0, none⟩)), (12, .slice A4 out2.length c4), (13, .bool done2), (15, .pointer (some ⟨g4, 0, none⟩)), (64, .slice A1 r1.Bills.length c1), (65, .int .i64 ((r1.Bills.length : Nat) : Int)), (66, .int .i64 v3)] fr_ ∧ SegSub ([(g1, .cells #[.slice A1 r1.Bills.length c1, .int .i64 r1.Credit, .int .i64 r1.Last] 58 (0, 0))] :: ch1 :: [(g3, .cells #[.int .i64 bill1, .int .i64 due1, .int .i64 amount1] 49 (0, 0))] :: ch4 :: [(g4, .cells #[.int .i64 x2.Bill, .int .i64 x2.Due, .int .i64 x2.Rest] 49 (0, 0))] :: L) L_ ∧ Own r_api_Open 49 μ_ (.slice A4 out2.length c4) out2 ch4 ∧ μ = μ_) ?_ ?_
      · refine W_cond_v (b := v4) rfl (fun hc13 => ?_) (fun hc13 => ?_)
        · replace h1262 := cond_t hc13 h1262
          refine WP.seq_k (fun K1263 hK1263 => WP.region Tt_ok (O_cons (O_read rfl (R_move rfl (P_some rfl (O_cons (O_read rfl (R_loadA rfl rfl rfl rfl (LA_ (vs := [.int .i64 bill1, .int .i64 due1, .int .i64 amount1]) 2 0 rfl rfl rfl rfl (P_some rfl (O_cons (O_bsl (z := [.int .i64 0, .int .i64 0, .int .i64 0]) rfl rfl rfl rfl rfl rfl rfl (F_cons (cells' := [.int .i64 bill1, .int .i64 due1, .int .i64 amount1]) rfl rfl rfl rfl ?_)))))))))))))
          refine F_nil (fun g5 => P_some rfl (O_cons (O_append rfl ?_)))
          obtain ⟨l1, hz1, h1262⟩ := obind h1262
          refine sem_appR (r := r_api_Open) Tt_ok rfl rfl rfl rfl (by decide) rfl rfl 4 rfl hO2 rfl (Own.rds (L := ([(g5, .cells #[.int .i64 bill1, .int .i64 due1, .int .i64 amount1] 49 (0, 0))] :: [(g1, .cells #[.slice A1 r1.Bills.length c1, .int .i64 r1.Credit, .int .i64 r1.Last] 58 (0, 0))] :: ch1 :: [(g3, .cells #[.int .i64 bill1, .int .i64 due1, .int .i64 amount1] 49 (0, 0))] :: ch2 :: [(g4, .cells #[.int .i64 x2.Bill, .int .i64 x2.Due, .int .i64 x2.Rest] 49 (0, 0))] :: L)) (Own.lit (r := r_api_Open) (e := 49) (g := g5) (xs := [(T_api_Open.mk bill1 due1 amount1)]) (cs := [.int .i64 bill1, .int .i64 due1, .int .i64 amount1]) (css := [[.int .i64 bill1, .int .i64 due1, .int .i64 amount1]]) rfl (All2.cons (rfl) (All2.nil)) rfl rfl) 0 rfl) hz1 fun A3 c3 ch3 hO3 => ?_
          refine P_some rfl (O_cons (O_read rfl (R_assign rfl (P_some rfl (O_nil (hK1263 _ _ _ (WP.region Tt_ok (O_cons (O_read rfl (R_assign rfl (P_some rfl (O_nil ?_))))))))))))
          have e_ := Option.some.inj h1262
          subst e_
          exact ⟨l1, true, A3, c3, ch3, rfl, SubFr.of ⟨rfl, rfl, rfl, rfl, rfl, rfl, rfl, rfl, trivial⟩, SegSub.sel _ [some 1, some 2, some 3, some 4, some 5] 6, (hO3), rfl⟩
        replace h1262 := cond_f hc13 h1262
        apply WP.skip
        have e_ := Option.some.inj h1262
        subst e_
        exact ⟨out1, done1, A2, c2, ch2, rfl, SubFr.of ⟨rfl, rfl, rfl, rfl, rfl, rfl, rfl, rfl, trivial⟩, SegSub.sel _ [some 0, some 1, some 2, some 3, some 4] 5, (hO2), rfl⟩
      rintro fr1262 μ1262 L1262 hm1262 ⟨out2, done2, A4, c4, ch4, ho1262, hF1262, hS1262, hO4, hu1262⟩
      subst ho1262
      replace hb1238 := oun_mk hb1238
      subst hu1262
      refine hK1253 _ _ _ (WP.at hF1262 hS1262 (WP.region Tt_ok (O_cons (O_read rfl (R_move rfl (P_some rfl (O_cons (O_read rfl (R_loadA rfl rfl rfl rfl (LA_ (vs := [.int .i64 x2.Bill, .int .i64 x2.Due, .int .i64 x2.Rest]) 4 0 rfl rfl rfl rfl (P_some rfl (O_cons (O_bsl (z := [.int .i64 0, .int .i64 0, .int .i64 0]) rfl rfl rfl rfl rfl rfl rfl ?_)))))))))))))
      refine F_cons (cells' := [.int .i64 x2.Bill, .int .i64 x2.Due, .int .i64 x2.Rest]) rfl rfl rfl rfl (F_nil (fun g6 => P_some rfl (O_cons (O_append rfl ?_))))
      obtain ⟨l2, hz2, hb1238⟩ := obind hb1238
      refine sem_appR (r := r_api_Open) Tt_ok rfl rfl rfl rfl (by decide) rfl rfl 4 rfl hO4 rfl (Own.rds (L := ([(g6, .cells #[.int .i64 x2.Bill, .int .i64 x2.Due, .int .i64 x2.Rest] 49 (0, 0))] :: [(g1, .cells #[.slice A1 r1.Bills.length c1, .int .i64 r1.Credit, .int .i64 r1.Last] 58 (0, 0))] :: ch1 :: [(g3, .cells #[.int .i64 bill1, .int .i64 due1, .int .i64 amount1] 49 (0, 0))] :: ch4 :: [(g4, .cells #[.int .i64 x2.Bill, .int .i64 x2.Due, .int .i64 x2.Rest] 49 (0, 0))] :: L)) (Own.lit (r := r_api_Open) (e := 49) (g := g6) (xs := [x2]) (cs := [.int .i64 x2.Bill, .int .i64 x2.Due, .int .i64 x2.Rest]) (css := [[.int .i64 x2.Bill, .int .i64 x2.Due, .int .i64 x2.Rest]]) rfl (All2.cons (rfl) (All2.nil)) rfl rfl) 0 rfl) hz2 fun A5 c5 ch5 hO5 => ?_
      refine P_some rfl (O_cons (O_read rfl (R_assign rfl (P_some rfl (O_nil (hK1249 _ _ _ (WP.region Tt_ok (O_cons (O_read rfl (R_add rfl rfl (P_some rfl (O_cons (O_read rfl ?_)))))))))))))
      refine R_move rfl (P_some rfl (O_nil ?_))
      have e_ := Option.some.inj hb1238
      subst e_
      exact ⟨_, rfl, A5, c5, ch5, SubFr.of ⟨rfl, rfl, rfl, rfl, rfl, rfl, rfl, trivial⟩, SegSub.sel _ [some 1, some 2, some 3, some 4] 6, (hO5), rfl⟩
    replace hb1238 := cond_f hc10 hb1238
    refine WP.exit (B_here ?_)
    have e_ := Option.some.inj hb1238
    subst e_
    have hq_ := hq1238 _ rfl
    subst hq_
    exact ⟨out1, done1, A2, c2, ch2, rfl, SubFr.of ⟨rfl, rfl, rfl, rfl, trivial⟩, SegSub.sel _ [some 0, some 1, some 2, some 3] 4, (hO2), rfl⟩
  rintro fr1201 μ1201 L1201 hm1201 ⟨out3, done3, A6, c6, ch6, ho1201, hF1201, hS1201, hO6, hu1201⟩
  subst ho1201
  replace h := oun_mk h
  subst hu1201
  refine hK1199 _ _ _ (WP.at hF1201 hS1201 (WP.seq_k (fun K1280 hK1280 => WP.seq_k (fun K1281 hK1281 => WP.region Tt_ok (O_cons (O_read rfl (R_move rfl (P_some rfl (O_cons (O_read rfl (R_not rfl (P_some rfl (O_nil ?_)))))))))))))
  refine hK1281 _ _ _ ?_
  obtain ⟨o1282, h1282, h⟩ := obind h
  refine WP.cutK (fun fr_ μ_ L_ => ∃ (out4 : (List T_api_Open)) (A8 : Option Addr) (c8 : Nat) (ch8 : Seg), out4 = o1282 ∧ SubFr [(0, .pointer (some ⟨g1, 0, none⟩)), (12, .slice A8 out4.length c8)] fr_ ∧ SegSub ([(g1, .cells #[.slice A1 r1.Bills.length c1, .int .i64 r1.Credit, .int .i64 r1.Last] 58 (0, 0))] :: ch1 :: ch8 :: L) L_ ∧ Own r_api_Open 49 μ_ (.slice A8 out4.length c8) out4 ch8 ∧ μ = μ_) ?_ ?_
  · refine W_cond_v (b := !done3) rfl (fun hc14 => ?_) (fun hc14 => ?_)
    · replace h1282 := cond_t hc14 h1282
      refine WP.region Tt_ok (O_cons (O_read rfl (R_move rfl (P_some rfl (O_cons (O_read rfl (R_loadA rfl rfl rfl rfl (LA_ (vs := [.int .i64 bill1, .int .i64 due1, .int .i64 amount1]) 2 0 rfl rfl rfl rfl (P_some rfl (O_cons (O_bsl (z := [.int .i64 0, .int .i64 0, .int .i64 0]) rfl rfl rfl rfl rfl rfl rfl (F_cons (cells' := [.int .i64 bill1, .int .i64 due1, .int .i64 amount1]) rfl rfl rfl rfl (F_nil (fun g7 => ?_))))))))))))))
      refine P_some rfl (O_cons (O_append rfl ?_))
      obtain ⟨l3, hz3, h1282⟩ := obind h1282
      refine sem_appR (r := r_api_Open) Tt_ok rfl rfl rfl rfl (by decide) rfl rfl 4 rfl hO6 rfl (Own.rds (L := ([(g7, .cells #[.int .i64 bill1, .int .i64 due1, .int .i64 amount1] 49 (0, 0))] :: [(g1, .cells #[.slice A1 r1.Bills.length c1, .int .i64 r1.Credit, .int .i64 r1.Last] 58 (0, 0))] :: ch1 :: [(g3, .cells #[.int .i64 bill1, .int .i64 due1, .int .i64 amount1] 49 (0, 0))] :: ch6 :: L)) (Own.lit (r := r_api_Open) (e := 49) (g := g7) (xs := [(T_api_Open.mk bill1 due1 amount1)]) (cs := [.int .i64 bill1, .int .i64 due1, .int .i64 amount1]) (css := [[.int .i64 bill1, .int .i64 due1, .int .i64 amount1]]) rfl (All2.cons (rfl) (All2.nil)) rfl rfl) 0 rfl) hz3 fun A7 c7 ch7 hO7 => P_some rfl (O_cons (O_read rfl ?_))
      refine R_assign rfl (P_some rfl (O_nil ?_))
      have e_ := Option.some.inj h1282
      subst e_
      exact ⟨l3, A7, c7, ch7, rfl, SubFr.of ⟨rfl, rfl, trivial⟩, SegSub.sel _ [some 1, some 2, some 4] 5, (hO7), rfl⟩
    replace h1282 := cond_f hc14 h1282
    apply WP.skip
    have e_ := Option.some.inj h1282
    subst e_
    exact ⟨out3, A6, c6, ch6, rfl, SubFr.of ⟨rfl, rfl, trivial⟩, SegSub.sel _ [some 0, some 1, some 3] 4, (hO6), rfl⟩
  rintro fr1282 μ1282 L1282 hm1282 ⟨out4, A8, c8, ch8, ho1282, hF1282, hS1282, hO8, hu1282⟩
  subst ho1282
  subst hu1282
  refine hK1280 _ _ _ (WP.at hF1282 hS1282 (WP.seq_k (fun K1288 hK1288 => WP.region Tt_ok (O_cons (O_read rfl (R_move rfl (P_some rfl (O_cons (O_read rfl (R_move rfl (P_some rfl (O_cons (O_read rfl ?_)))))))))))))
  refine R_nilP rfl (P_some rfl (O_cons (O_read rfl (R_fa0 (o' := 0) rfl rfl rfl rfl rfl rfl (P_some rfl (O_cons (O_store (vs := [.slice A8 out4.length c8]) rfl rfl rfl rfl rfl rfl (ST_ (L' := ([(g1, .cells #[.slice A8 out4.length c8, .int .i64 r1.Credit, .int .i64 r1.Last] 58 (0, 0))] :: ch1 :: ch8 :: L)) 0 0 rfl rfl rfl rfl (P_none (O_nil (hK1288 _ _ _ (WP.seq_k (fun K1290 hK1290 => WP.region Tt_ok ?_)))))))))))))
  refine O_cons (O_read rfl (R_assign rfl (P_some rfl (O_nil (hK1290 _ _ _ (WP.ret ?_))))))
  have e_ := Option.some.inj h
  obtain ⟨e0a_, e0b_⟩ := Prod.mk.inj e_
  clear e_
  subst e0a_
  subst e0b_
  refine S_tmp rfl (S_nil (Upd.seg (L2 := (((g1, Obj.cells #[.slice A8 out4.length c8, .int .i64 r1.Credit, .int .i64 r1.Last] 58 (0, 0)) :: (ch8 ++ [])) :: L)) (SegSub.trans (SegSub.flat (by simp [selS])) (SegSub.sel _ [some 0, some 2] 3)) ?_))
  exact Upd.done (hR ((g1, Obj.cells #[.slice A8 out4.length c8, .int .i64 r1.Credit, .int .i64 r1.Last] 58 (0, 0)) :: (ch8 ++ [])) (⟨g1, A8, c8, ch8, rfl, rfl, hO8⟩))

theorem recyclingref56_Register_Pay_fn {μ : Gh} {L : List Seg} {R : Value → Gh → List Seg → Prop}  {r1 : T_recyclingref56_Register} {amount1 : Int} {f_at1 : Int} {pv1 : Value} {so1 : Seg} {res1 : (List T_api_Open)} {res2 : Int} {res3 : T_recyclingref56_Register}
    (hP1 : Obj_recyclingref56_Register μ pv1 r1 so1) (h : recyclingref56_Register_Pay r1 amount1 f_at1 = some (res1, res2, res3))
    (hR : ∀ (A0 : Option Addr) (c0 : Nat) (ch0 : Seg) (sp0 : Seg), Own r_api_Open 49 μ (.slice A0 res1.length c0) res1 ch0 → Obj_recyclingref56_Register μ pv1 res3 sp0 → R (.tuple #[.slice A0 res1.length c0, .int .i64 res2]) μ (ch0 :: sp0 :: L)) :
    Fn Try.prog 15 [pv1, .int .i64 amount1, .int .i64 f_at1] μ (so1 :: L) R := by
  unfold recyclingref56_Register_Pay at h
  refine Fn.of_body Tt_ok Try.func15 (by kernel_rfl) rfl Try.ntmps15 (by simp) ?_
  simp only [Try.f15, argFr, List.zipIdx, List.map, Nat.reduceAdd]
  refine WP.seq_k (fun K1476 hK1476 => WP.region Tt_ok (O_cons (O_read rfl (R_assign rfl (P_some rfl (O_cons (O_read rfl (R_assign rfl (P_some rfl (O_nil (hK1476 _ _ _ (WP.seq_k (fun K1481 hK1481 => WP.seq_k (fun K1482 hK1482 => ?_))))))))))))))
  obtain ⟨g1, A1, c1, ch1, hv1, rfl, hO1⟩ := hP1
  subst hv1
  refine WP.seg (L2 := ([(g1, .cells #[.slice A1 r1.Bills.length c1, .int .i64 r1.Credit, .int .i64 r1.Last] 58 (0, 0))] :: ch1 :: L)) (SegSub.flat (by simp)) (WP.region Tt_ok (O_cons (O_read rfl (R_move rfl (P_some rfl (O_cons (O_read rfl (R_eqP1 rfl rfl rfl rfl (P_some rfl (O_nil (hK1482 _ _ _ (W_cond_f rfl (WP.skip ?_)))))))))))))
  refine hK1481 _ _ _ (WP.seq_k (fun K1486 hK1486 => WP.seq_k (fun K1487 hK1487 => ?_)))
  obtain ⟨o1488, h1488, h⟩ := obind h
  refine WP.cutK (fun fr_ μ_ L_ => ∃ (v1 : Bool), v1 = o1488 ∧ SubFr [(0, .pointer (some ⟨g1, 0, none⟩)), (1, .int .i64 amount1), (2, .int .i64 f_at1), (25, .bool v1)] fr_ ∧ SegSub ([(g1, .cells #[.slice A1 r1.Bills.length c1, .int .i64 r1.Credit, .int .i64 r1.Last] 58 (0, 0))] :: ch1 :: L) L_ ∧ μ = μ_) ?_ ?_
  · refine WP.region Tt_ok (O_cons (O_read rfl (R_move rfl (P_some rfl (O_cons (O_read rfl (R_lssD rfl rfl (P_some rfl (O_cons (O_read rfl (R_move rfl (P_some rfl ?_))))))))))))
    refine O_gv (z := (decide (amount1 < 0))) rfl rfl (fun hc1 => ?_) (fun hc1 => ?_)
    · replace h1488 := cond_f hc1 h1488
      refine O_read rfl (R_move rfl (P_some rfl (O_gY rfl rfl hc1 (O_read rfl (R_gtrD rfl rfl (P_some rfl (O_cons (O_read rfl (R_pick_F rfl hc1 rfl (P_some rfl (O_cons (O_read rfl (R_move rfl ?_)))))))))))))
      apply P_some; exact rfl
      refine O_gv (z := (decide (1000000000000 < amount1))) rfl rfl (fun hc2 => ?_) (fun hc2 => ?_)
      · replace h1488 := cond_f hc2 h1488
        refine O_read rfl (R_move rfl (P_some rfl (O_gY rfl rfl hc2 (O_call (all := [.int .i64 f_at1]) rfl rfl rfl ?_))))
        obtain ⟨r2, hx1, h1488⟩ := obind h1488
        refine recyclingref56_moment_fn  hx1 ((P_some rfl (O_gY rfl rfl hc2 (O_read rfl (R_not rfl (P_some rfl (O_cons (O_read rfl (R_pick_F rfl hc2 rfl (P_some rfl (O_nil ?_)))))))))))
        have e_ := Option.some.inj h1488
        subst e_
        exact ⟨!r2, rfl, SubFr.of ⟨rfl, rfl, rfl, rfl, trivial⟩, SegSub.sel _ [some 0, some 1] 2, rfl⟩
      replace h1488 := cond_t hc2 h1488
      refine P_some rfl (O_gN rfl rfl hc2 (P_some rfl (O_gN rfl rfl hc2 (P_some rfl (O_cons (O_read rfl (R_pick_T rfl hc2 rfl (P_some rfl (O_nil ?_)))))))))
      have e_ := Option.some.inj h1488
      subst e_
      exact ⟨true, rfl, SubFr.of ⟨rfl, rfl, rfl, rfl, trivial⟩, SegSub.sel _ [some 0, some 1] 2, rfl⟩
    replace h1488 := cond_t hc1 h1488
    refine P_some rfl (O_gN rfl rfl hc1 (P_some rfl (O_cons (O_read rfl (R_pick_T rfl hc1 rfl (P_some rfl (O_cons (O_read rfl (R_move rfl (P_some rfl (O_gN rfl rfl rfl (P_some rfl (O_gN rfl rfl rfl ?_)))))))))))))
    refine P_some rfl (O_gN rfl rfl rfl (P_some rfl (O_cons (O_read rfl (R_pick_T rfl rfl rfl (P_some rfl (O_nil ?_)))))))
    have e_ := Option.some.inj h1488
    subst e_
    exact ⟨true, rfl, SubFr.of ⟨rfl, rfl, rfl, rfl, trivial⟩, SegSub.sel _ [some 0, some 1] 2, rfl⟩
  rintro fr1488 μ1488 L1488 hm1488 ⟨v1, ho1488, hF1488, hS1488, hu1488⟩
  subst ho1488
  subst hu1488
  refine hK1487 _ _ _ (WP.at hF1488 hS1488 ?_)
  refine W_cond_v (b := v1) rfl (fun hc3 => ?_) (fun hc3 => ?_)
  · replace h := cond_t hc3 h
    refine WP.seq_k (fun K1491 hK1491 => WP.region Tt_ok (O_cons (O_read rfl (R_assign rfl (P_some rfl (O_cons (O_read rfl (R_assign rfl (P_some rfl (O_nil (hK1491 _ _ _ (WP.ret ?_))))))))))))
    have e_ := Option.some.inj h
    obtain ⟨e0a_, e0b_⟩ := Prod.mk.inj e_
    clear e_
    subst e0a_
    obtain ⟨e1a_, e1b_⟩ := Prod.mk.inj e0b_
    clear e0b_
    subst e1a_
    subst e1b_
    refine S_tmp rfl (S_tmp rfl (S_nil (Upd.seg (L2 := ([] :: ((g1, Obj.cells #[.slice A1 r1.Bills.length c1, .int .i64 r1.Credit, .int .i64 r1.Last] 58 (0, 0)) :: (ch1 ++ [])) :: L)) (SegSub.trans (SegSub.flat (by simp [selS])) (SegSub.sel _ [none, some 0, some 1] 2)) ?_)))
    exact Upd.done (hR none 0 [] ((g1, Obj.cells #[.slice A1 r1.Bills.length c1, .int .i64 r1.Credit, .int .i64 r1.Last] 58 (0, 0)) :: (ch1 ++ [])) (Own.nil) (⟨g1, A1, c1, ch1, rfl, rfl, hO1⟩))
  replace h := cond_f hc3 h
  refine WP.skip (hK1486 _ _ _ (WP.seq_k (fun K1494 hK1494 => WP.seq_k (fun K1495 hK1495 => WP.region Tt_ok (O_cons (O_read rfl (R_move rfl (P_some rfl (O_cons (O_read rfl (R_move rfl (P_some rfl (O_cons ?_)))))))))))))
  refine O_read rfl (R_nilP rfl (P_some rfl (O_cons (O_read rfl (R_fa0 (o' := 2) rfl rfl rfl rfl rfl rfl (P_some rfl (O_cons (O_read rfl (R_load rfl rfl rfl (Ex.mk _ (Cell.seg 0 0 rfl rfl rfl) (P_some rfl (O_cons (O_read rfl ?_)))))))))))))
  refine R_lssD rfl rfl (P_some rfl (O_nil (hK1495 _ _ _ ?_)))
  refine W_cond_v (b := (decide (f_at1 < r1.Last))) rfl (fun hc4 => ?_) (fun hc4 => ?_)
  · replace h := cond_t hc4 h
    refine WP.seq_k (fun K1496 hK1496 => WP.region Tt_ok (O_cons (O_read rfl (R_assign rfl (P_some rfl (O_cons (O_read rfl (R_assign rfl (P_some rfl (O_nil (hK1496 _ _ _ (WP.ret ?_))))))))))))
    have e_ := Option.some.inj h
    obtain ⟨e0a_, e0b_⟩ := Prod.mk.inj e_
    clear e_
    subst e0a_
    obtain ⟨e1a_, e1b_⟩ := Prod.mk.inj e0b_
    clear e0b_
    subst e1a_
    subst e1b_
    refine S_tmp rfl (S_tmp rfl (S_nil (Upd.seg (L2 := ([] :: ((g1, Obj.cells #[.slice A1 r1.Bills.length c1, .int .i64 r1.Credit, .int .i64 r1.Last] 58 (0, 0)) :: (ch1 ++ [])) :: L)) (SegSub.trans (SegSub.flat (by simp [selS])) (SegSub.sel _ [none, some 0, some 1] 2)) ?_)))
    exact Upd.done (hR none 0 [] ((g1, Obj.cells #[.slice A1 r1.Bills.length c1, .int .i64 r1.Credit, .int .i64 r1.Last] 58 (0, 0)) :: (ch1 ++ [])) (Own.nil) (⟨g1, A1, c1, ch1, rfl, rfl, hO1⟩))
  replace h := cond_f hc4 h
  refine WP.skip (hK1494 _ _ _ (WP.seq_k (fun K1499 hK1499 => WP.seq_k (fun K1500 hK1500 => WP.region Tt_ok (O_cons (O_read rfl (R_move rfl (P_some rfl (O_cons (O_read rfl (R_move rfl (P_some rfl (O_cons ?_)))))))))))))
  refine O_read rfl (R_nilP rfl (P_some rfl (O_cons (O_read rfl (R_fa0 (o' := 1) rfl rfl rfl rfl rfl rfl (P_some rfl (O_cons (O_read rfl (R_load rfl rfl rfl (Ex.mk _ (Cell.seg 0 0 rfl rfl rfl) (P_some rfl (O_cons (O_read rfl ?_)))))))))))))
  refine R_add rfl rfl (P_some rfl (O_cons (O_read rfl (R_gtrD rfl rfl (P_some rfl (O_nil (hK1500 _ _ _ ?_)))))))
  refine W_cond_v (b := (decide (1000000000000 < (w64 (amount1 + r1.Credit))))) rfl (fun hc5 => ?_) (fun hc5 => ?_)
  · replace h := cond_t hc5 h
    refine WP.seq_k (fun K1501 hK1501 => WP.region Tt_ok (O_cons (O_read rfl (R_assign rfl (P_some rfl (O_cons (O_read rfl (R_assign rfl (P_some rfl (O_nil (hK1501 _ _ _ (WP.ret ?_))))))))))))
    have e_ := Option.some.inj h
    obtain ⟨e0a_, e0b_⟩ := Prod.mk.inj e_
    clear e_
    subst e0a_
    obtain ⟨e1a_, e1b_⟩ := Prod.mk.inj e0b_
    clear e0b_
    subst e1a_
    subst e1b_
    refine S_tmp rfl (S_tmp rfl (S_nil (Upd.seg (L2 := ([] :: ((g1, Obj.cells #[.slice A1 r1.Bills.length c1, .int .i64 r1.Credit, .int .i64 r1.Last] 58 (0, 0)) :: (ch1 ++ [])) :: L)) (SegSub.trans (SegSub.flat (by simp [selS])) (SegSub.sel _ [none, some 0, some 1] 2)) ?_)))
    exact Upd.done (hR none 0 [] ((g1, Obj.cells #[.slice A1 r1.Bills.length c1, .int .i64 r1.Credit, .int .i64 r1.Last] 58 (0, 0)) :: (ch1 ++ [])) (Own.nil) (⟨g1, A1, c1, ch1, rfl, rfl, hO1⟩))
  replace h := cond_f hc5 h
  refine WP.skip (hK1499 _ _ _ (WP.seq_k (fun K1504 hK1504 => WP.region Tt_ok (O_cons (O_read rfl (R_move rfl (P_some rfl (O_cons (O_read rfl (R_move rfl (P_some rfl (O_cons (O_read rfl ?_)))))))))))))
  refine R_nilP rfl (P_some rfl (O_cons (O_read rfl (R_fa0 (o' := 1) rfl rfl rfl rfl rfl rfl (P_some rfl (O_cons (O_read rfl (R_load rfl rfl rfl (Ex.mk _ (Cell.seg 0 0 rfl rfl rfl) (P_some rfl (O_cons (O_read rfl (R_add rfl rfl ?_)))))))))))))
  refine P_some rfl (O_cons (O_read rfl (R_assign rfl (P_some rfl (O_nil (hK1504 _ _ _ (WP.seq_k (fun K1505 hK1505 => WP.region Tt_ok (O_cons (O_read rfl (R_assign rfl (P_some rfl (O_nil ?_)))))))))))))
  refine hK1505 _ _ _ (WP.seq_k (fun K1508 hK1508 => WP.seq_k (fun K1509 hK1509 => WP.region Tt_ok (O_cons (O_read rfl (R_move rfl (P_some rfl (O_cons (O_read rfl (R_nilP rfl (P_some rfl (O_cons (O_read rfl ?_)))))))))))))
  refine R_fa0 (o' := 0) rfl rfl rfl rfl rfl rfl (P_some rfl (O_cons (O_read rfl (R_load rfl rfl rfl (Ex.mk _ (Cell.seg 0 0 rfl rfl rfl) (P_some rfl (O_cons (O_read rfl (R_lenS rfl rfl rfl (P_some rfl (O_cons (O_read rfl (R_move rfl ?_)))))))))))))
  refine P_some rfl (O_nil (hK1509 _ _ _ ?_))
  obtain ⟨o1510, h1510, h⟩ := obind h
  refine WP.cutK (fun fr_ μ_ L_ => ∃ (f3 : (List T_api_Open)) (left3 : Int) (used3 : (List T_api_Open)) (A7 : Option Addr) (c7 : Nat) (ch8 : Seg) (A8 : Option Addr) (c8 : Nat) (ch9 : Seg), (f3, left3, used3) = o1510 ∧ SubFr [(0, .pointer (some ⟨g1, 0, none⟩)), (2, .int .i64 f_at1), (8, .int .i64 left3), (9, .slice A8 used3.length c8)] fr_ ∧ SegSub ([(g1, .cells #[.slice A7 f3.length c7, .int .i64 r1.Credit, .int .i64 r1.Last] 58 (0, 0))] :: ch8 :: ch9 :: L) L_ ∧ Own r_api_Open 49 μ_ (.slice A7 f3.length c7) f3 ch8 ∧ Own r_api_Open 49 μ_ (.slice A8 used3.length c8) used3 ch9 ∧ μ = μ_) ?_ ?_
  · refine WP.block (WP.iter h1510 (fun (j_ : (List T_api_Open) × Int × (List T_api_Open) × Int) fr_ μ_ L_ => ounP j_ fun f1 j_ => ounP j_ fun left1 j_ => ounP j_ fun used1 v2 => ∃ (A2 : Option Addr) (c2 : Nat) (ch2 : Seg) (A3 : Option Addr) (c3 : Nat) (ch3 : Seg), SubFr [(0, .pointer (some ⟨g1, 0, none⟩)), (2, .int .i64 f_at1), (8, .int .i64 left1), (9, .slice A3 used1.length c3), (48, .slice A2 f1.length c2), (49, .int .i64 ((r1.Bills.length : Nat) : Int)), (50, .int .i64 v2)] fr_ ∧ SegSub ([(g1, .cells #[.slice A2 f1.length c2, .int .i64 r1.Credit, .int .i64 r1.Last] 58 (0, 0))] :: ch2 :: ch3 :: L) L_ ∧ Own r_api_Open 49 μ_ (.slice A2 f1.length c2) f1 ch2 ∧ Own r_api_Open 49 μ_ (.slice A3 used1.length c3) used1 ch3 ∧ μ = μ_) ⟨A1, c1, ch1, none, 0, [], SubFr.of ⟨rfl, rfl, rfl, rfl, rfl, rfl, rfl, trivial⟩, SegSub.sel _ [some 0, some 1, none] 2, (hO1), (Own.nil), rfl⟩ ?_)
    rintro ⟨f1, left1, used1, v2⟩ q1557 fr1557 μ1557 L1557 hm1557 ⟨A2, c2, ch2, A3, c3, ch3, hF1557, hS1557, hO2, hO3, hu1557⟩ hb1557 hq1557
    unfold recyclingref56_Register_Pay_l1 at hb1557
    replace hb1557 := oun_mk hb1557
    replace hb1557 := oun_mk hb1557
    replace hb1557 := oun_mk hb1557
    subst hu1557
    refine WP.at hF1557 hS1557 (WP.seq_k (fun K1564 hK1564 => WP.region Tt_ok (O_cons (O_read rfl (R_lssD rfl rfl (P_some rfl (O_nil (hK1564 _ _ _ (WP.seq_k (fun K1565 hK1565 => ?_))))))))))
    refine W_cond_v (b := (decide (v2 < ((r1.Bills.length : Nat) : Int)))) rfl (fun hc6 => ?_) (fun hc6 => ?_)
    · replace hb1557 := cond_t hc6 hb1557
      refine WP.skip (hK1565 _ _ _ (WP.seq_k (fun K1566 hK1566 => ?_)))
      obtain ⟨o1567, h1567, hb1557⟩ := obind hb1557
      refine WP.cutK (fun fr_ μ_ L_ => ∃ (f2 : (List T_api_Open)) (left2 : Int) (used2 : (List T_api_Open)) (A5 : Option Addr) (c5 : Nat) (ch6 : Seg) (A6 : Option Addr) (c6 : Nat) (ch7 : Seg), (f2, left2, used2) = o1567 ∧ SubFr [(0, .pointer (some ⟨g1, 0, none⟩)), (2, .int .i64 f_at1), (8, .int .i64 left2), (9, .slice A6 used2.length c6), (48, .slice A5 f2.length c5), (49, .int .i64 ((r1.Bills.length : Nat) : Int)), (50, .int .i64 v2)] fr_ ∧ SegSub ([(g1, .cells #[.slice A5 f2.length c5, .int .i64 r1.Credit, .int .i64 r1.Last] 58 (0, 0))] :: ch6 :: ch7 :: L) L_ ∧ Own r_api_Open 49 μ_ (.slice A5 f2.length c5) f2 ch6 ∧ Own r_api_Open 49 μ_ (.slice A6 used2.length c6) used2 ch7 ∧ μ = μ_) ?_ ?_
      · refine WP.block (WP.seq_k (fun K1568 hK1568 => WP.region Tt_ok (O_cons (O_read rfl (R_move rfl (P_some rfl (O_cons ?_)))))))
        obtain ⟨x1, hx2, h1567⟩ := obind h1567
        obtain ⟨a1, cs1, hA1, hr1, _, hc7⟩ := Rds.getI (Own.rds (L := ([(g1, .cells #[.slice A2 f1.length c2, .int .i64 r1.Credit, .int .i64 r1.Last] 58 (0, 0))] :: ch2 :: ch3 :: L)) hO2 1 rfl) hx2
        obtain rfl := hr1
        refine O_read rfl (R_iaG rfl rfl rfl rfl rfl rfl ⟨(getI_lt hx2).1, (getI_lt hx2).2.1⟩ hA1 (P_some rfl (O_cons (O_read rfl (R_loadA rfl rfl rfl rfl (Ex.mk [.int .i64 x1.Bill, .int .i64 x1.Due, .int .i64 x1.Rest] ⟨rfl, hc7⟩ (P_some rfl (O_cons (O_alloc (cs := #[.int .i64 0, .int .i64 0, .int .i64 0]) rfl rfl (fun g2 => P_some rfl (O_cons (O_read rfl (R_assign rfl ?_)))))))))))))
        refine P_some rfl (O_cons (O_store (vs := [.int .i64 x1.Bill, .int .i64 x1.Due, .int .i64 x1.Rest]) rfl rfl rfl rfl rfl rfl (ST_ (L' := ([(g2, .cells #[.int .i64 x1.Bill, .int .i64 x1.Due, .int .i64 x1.Rest] 49 (0, 0))] :: [(g1, .cells #[.slice A2 f1.length c2, .int .i64 r1.Credit, .int .i64 r1.Last] 58 (0, 0))] :: ch2 :: ch3 :: L)) 0 0 rfl rfl rfl rfl (P_none (O_nil (hK1568 _ _ _ (WP.seq_k (fun K1571 hK1571 => WP.region Tt_ok (O_cons (O_read rfl (R_fa0 (o' := 2) rfl rfl rfl rfl rfl rfl (P_some rfl (O_cons ?_)))))))))))))
        refine O_read rfl (R_load rfl rfl rfl (Ex.mk _ (Cell.seg 0 0 rfl rfl rfl) (P_some rfl (O_cons (O_read rfl (R_move rfl (P_some rfl (O_cons (O_read rfl (R_minI rfl (P_some rfl (O_cons (O_read rfl ?_)))))))))))))
        refine R_assign rfl (P_some rfl (O_nil (hK1571 _ _ _ (WP.seq_k (fun K1572 hK1572 => WP.region Tt_ok (O_cons (O_read rfl (R_move rfl (P_some rfl (O_cons (O_read rfl (R_gtrD rfl rfl (P_some rfl ?_)))))))))))))
        refine O_nil (hK1572 _ _ _ ?_)
        refine W_cond_v (b := (decide (0 < (min x1.Rest left1)))) rfl (fun hc8 => ?_) (fun hc8 => ?_)
        · replace h1567 := cond_t hc8 h1567
          refine WP.seq_k (fun K1573 hK1573 => WP.region Tt_ok (O_cons (O_read rfl (R_move rfl (P_some rfl (O_cons (O_read rfl (R_fa0 (o' := 0) rfl rfl rfl rfl rfl rfl (P_some rfl (O_cons (O_read rfl (R_load rfl rfl rfl (Ex.mk _ (Cell.seg 0 0 rfl rfl rfl) ?_)))))))))))))
          refine P_some rfl (O_cons (O_read rfl (R_fa0 (o' := 1) rfl rfl rfl rfl rfl rfl (P_some rfl (O_cons (O_read rfl (R_load rfl rfl rfl (Ex.mk _ (Cell.seg 0 0 rfl rfl rfl) (P_some rfl (O_cons (O_read rfl (R_move rfl (P_some rfl ?_)))))))))))))
          refine O_cons (O_read rfl (R_build rfl rfl rfl rfl (F_cons (cells' := [.int .i64 x1.Bill, .int .i64 0, .int .i64 0]) rfl rfl rfl rfl (F_cons (cells' := [.int .i64 x1.Bill, .int .i64 x1.Due, .int .i64 0]) rfl rfl rfl rfl (F_cons (cells' := [.int .i64 x1.Bill, .int .i64 x1.Due, .int .i64 (min x1.Rest left1)]) rfl rfl rfl rfl (F_nil (P_some rfl (O_cons (O_bsl (z := [.int .i64 0, .int .i64 0, .int .i64 0]) rfl rfl rfl rfl rfl rfl rfl (F_cons (cells' := [.int .i64 x1.Bill, .int .i64 x1.Due, .int .i64 (min x1.Rest left1)]) rfl rfl rfl rfl (F_nil (fun g3 => P_some rfl (O_cons ?_)))))))))))))
          apply O_append; exact rfl
          obtain ⟨l1, hz1, h1567⟩ := obind h1567
          refine sem_appR (r := r_api_Open) Tt_ok rfl rfl rfl rfl (by decide) rfl rfl 4 rfl hO3 rfl (Own.rds (L := ([(g3, .cells #[.int .i64 x1.Bill, .int .i64 x1.Due, .int .i64 (min x1.Rest left1)] 49 (0, 0))] :: [(g2, .cells #[.int .i64 x1.Bill, .int .i64 x1.Due, .int .i64 x1.Rest] 49 (0, 0))] :: [(g1, .cells #[.slice A2 f1.length c2, .int .i64 r1.Credit, .int .i64 r1.Last] 58 (0, 0))] :: ch2 :: ch3 :: L)) (Own.lit (r := r_api_Open) (e := 49) (g := g3) (xs := [(T_api_Open.mk x1.Bill x1.Due (min x1.Rest left1))]) (cs := [.int .i64 x1.Bill, .int .i64 x1.Due, .int .i64 (min x1.Rest left1)]) (css := [[.int .i64 x1.Bill, .int .i64 x1.Due, .int .i64 (min x1.Rest left1)]]) rfl (All2.cons (rfl) (All2.nil)) rfl rfl) 0 rfl) hz1 fun A4 c4 ch4 hO4 => ?_
          refine P_some rfl (O_cons (O_read rfl (R_assign rfl (P_some rfl (O_nil (hK1573 _ _ _ (WP.seq_k (fun K1576 hK1576 => WP.drawn (id := 17) (l' := List.replicate 12 true) wide Tt_ok [[(g3, .cells #[.int .i64 x1.Bill, .int .i64 x1.Due, .int .i64 (min x1.Rest left1)] 49 (0, 0))], [(g2, .cells #[.int .i64 x1.Bill, .int .i64 x1.Due, .int .i64 x1.Rest] 49 (0, 0))], ch4] (Kept.of (by simp)) [(true, 0), (true, 1), (true, 2), (true, 4), (true, 5), (true, 6), (true, 7), (true, 8), (false, 3), (true, 9), (true, 10), (false, 11)] (by kernel_rfl) (by kernel_rfl) rfl (PL_t rfl (R_move rfl (P_some rfl (PL_t rfl (R_nilP rfl ?_)))))))))))))
          refine P_some rfl (PL_t rfl (R_fa0 (o' := 0) rfl rfl rfl rfl rfl rfl (P_some rfl (PL_t rfl (R_move rfl (P_some rfl (PL_t rfl (R_fa0 (o' := 2) rfl rfl rfl rfl rfl rfl (P_some rfl (PL_t rfl (R_load rfl rfl rfl (Ex.mk _ (Cell.seg 1 0 rfl rfl rfl) (P_some rfl ?_)))))))))))))
          refine PL_t rfl (R_move rfl (P_some rfl (PL_t rfl (R_sub rfl rfl (P_some rfl (PL_f rfl (O_read rfl (R_load rfl rfl rfl (Ex.mk _ (Cell.seg 2 0 rfl rfl rfl) ?_)))))))))
          refine ⟨Kept.of (by simp), ?_⟩
          refine P_some rfl (PL_t rfl ?_)
          obtain ⟨x2, hx3, h1567⟩ := obind h1567
          obtain ⟨a2, cs2, hA2, hr2, _, hc9⟩ := Rds.getI (Own.rds (L := ([(g3, .cells #[.int .i64 x1.Bill, .int .i64 x1.Due, .int .i64 (min x1.Rest left1)] 49 (0, 0))] :: [(g2, .cells #[.int .i64 x1.Bill, .int .i64 x1.Due, .int .i64 x1.Rest] 49 (0, 0))] :: [(g1, .cells #[.slice A2 f1.length c2, .int .i64 r1.Credit, .int .i64 r1.Last] 58 (0, 0))] :: ch2 :: ch4 :: L)) hO2 3 rfl) hx3
          obtain rfl := hr2
          refine R_iaG rfl rfl rfl rfl rfl rfl ⟨(getI_lt hx3).1, (getI_lt hx3).2.1⟩ hA2 (P_some rfl (PL_t rfl (R_fa rfl rfl rfl rfl rfl (P_some rfl (PL_f rfl (O_store (vs := [.int .i64 (w64 (x1.Rest - (min x1.Rest left1)))]) rfl rfl rfl rfl rfl rfl (Own.store (r := r_api_Open) (x' := (T_api_Open.mk x2.Bill x2.Due (w64 (x1.Rest - (min x1.Rest left1))))) (o := 2) (sz := 3) 3 rfl hO2 hA2 hx3 rfl rfl (by rintro _ rfl; rfl) fun ch5 hO5 => ?_)))))))
          rw [← length_setI f1 v2 (T_api_Open.mk x2.Bill x2.Due (w64 (x1.Rest - (min x1.Rest left1))))] at hO5 ⊢
          refine ⟨Kept.of (by simp), ?_⟩
          refine P_none (PL_nil (AN.done0 (by kernel_rfl) (hK1576 _ _ _ (WP.region Tt_ok (O_cons (O_read rfl (R_move rfl (P_some rfl (O_cons (O_read rfl (R_move rfl (P_some rfl (O_cons ?_)))))))))))))
          refine O_read rfl (R_sub rfl rfl (P_some rfl (O_cons (O_read rfl (R_assign rfl (P_some rfl (O_nil ?_)))))))
          have e_ := Option.some.inj h1567
          subst e_
          exact ⟨(setI f1 v2 (T_api_Open.mk x2.Bill x2.Due (w64 (x1.Rest - (min x1.Rest left1))))), w64 (left1 - (min x1.Rest left1)), l1, A2, c2, ch5, A4, c4, ch4, rfl, SubFr.of ⟨rfl, rfl, rfl, rfl, rfl, rfl, rfl, trivial⟩, SegSub.sel _ [some 2, some 3, some 4] 5, (hO5), (hO4), rfl⟩
        replace h1567 := cond_f hc8 h1567
        apply WP.skip
        have e_ := Option.some.inj h1567
        subst e_
        exact ⟨f1, left1, used1, A2, c2, ch2, A3, c3, ch3, rfl, SubFr.of ⟨rfl, rfl, rfl, rfl, rfl, rfl, rfl, trivial⟩, SegSub.sel _ [some 1, some 2, some 3] 4, (hO2), (hO3), rfl⟩
      rintro fr1567 μ1567 L1567 hm1567 ⟨f2, left2, used2, A5, c5, ch6, A6, c6, ch7, ho1567, hF1567, hS1567, hO6, hO7, hu1567⟩
      subst ho1567
      replace hb1557 := oun_mk hb1557
      replace hb1557 := oun_mk hb1557
      subst hu1567
      refine hK1566 _ _ _ (WP.at hF1567 hS1567 (WP.region Tt_ok (O_cons (O_read rfl (R_add rfl rfl (P_some rfl (O_cons (O_read rfl (R_move rfl (P_some rfl (O_nil ?_)))))))))))
      have e_ := Option.some.inj hb1557
      subst e_
      exact ⟨_, rfl, A5, c5, ch6, A6, c6, ch7, SubFr.of ⟨rfl, rfl, rfl, rfl, rfl, rfl, rfl, trivial⟩, SegSub.sel _ [some 0, some 1, some 2] 3, (hO6), (hO7), rfl⟩
    replace hb1557 := cond_f hc6 hb1557
    refine WP.exit (B_here ?_)
    have e_ := Option.some.inj hb1557
    subst e_
    have hq_ := hq1557 _ rfl
    subst hq_
    exact ⟨f1, left1, used1, A2, c2, ch2, A3, c3, ch3, rfl, SubFr.of ⟨rfl, rfl, rfl, rfl, trivial⟩, SegSub.sel _ [some 0, some 1, some 2] 3, (hO2), (hO3), rfl⟩
  rintro fr1510 μ1510 L1510 hm1510 ⟨f3, left3, used3, A7, c7, ch8, A8, c8, ch9, ho1510, hF1510, hS1510, hO8, hO9, hu1510⟩
  subst ho1510
  replace h := oun_mk h
  replace h := oun_mk h
  subst hu1510
  refine hK1508 _ _ _ (WP.at hF1510 hS1510 (WP.seq_k (fun K1609 hK1609 => WP.region Tt_ok (O_cons (O_read rfl (R_move rfl (P_some rfl (O_cons (O_read rfl (R_move rfl (P_some rfl (O_cons (O_read rfl ?_)))))))))))))
  refine R_nilP rfl (P_some rfl (O_cons (O_read rfl (R_fa0 (o' := 1) rfl rfl rfl rfl rfl rfl (P_some rfl (O_cons (O_store (vs := [.int .i64 left3]) rfl rfl rfl rfl rfl rfl (ST_ (L' := ([(g1, .cells #[.slice A7 f3.length c7, .int .i64 left3, .int .i64 r1.Last] 58 (0, 0))] :: ch8 :: ch9 :: L)) 0 0 rfl rfl rfl rfl (P_none (O_nil (hK1609 _ _ _ (WP.seq_k (fun K1611 hK1611 => WP.region Tt_ok ?_)))))))))))))
  refine O_cons (O_read rfl (R_move rfl (P_some rfl (O_cons (O_read rfl (R_move rfl (P_some rfl (O_cons (O_read rfl (R_nilP rfl (P_some rfl (O_cons (O_read rfl ?_)))))))))))))
  refine R_fa0 (o' := 2) rfl rfl rfl rfl rfl rfl (P_some rfl (O_cons (O_store (vs := [.int .i64 f_at1]) rfl rfl rfl rfl rfl rfl (ST_ (L' := ([(g1, .cells #[.slice A7 f3.length c7, .int .i64 left3, .int .i64 f_at1] 58 (0, 0))] :: ch8 :: ch9 :: L)) 0 0 rfl rfl rfl rfl (P_none (O_nil (hK1611 _ _ _ (WP.seq_k (fun K1613 hK1613 => WP.region Tt_ok (O_cons (O_read rfl (R_move rfl (P_some rfl ?_)))))))))))))
  refine O_cons (O_read rfl (R_assign rfl (P_some rfl (O_cons (O_read rfl (R_assign rfl (P_some rfl (O_nil (hK1613 _ _ _ (WP.ret ?_))))))))))
  have e_ := Option.some.inj h
  obtain ⟨e0a_, e0b_⟩ := Prod.mk.inj e_
  clear e_
  subst e0a_
  obtain ⟨e1a_, e1b_⟩ := Prod.mk.inj e0b_
  clear e0b_
  subst e1a_
  subst e1b_
  refine S_tmp rfl (S_tmp rfl (S_nil (Upd.seg (L2 := (ch9 :: ((g1, Obj.cells #[.slice A7 f3.length c7, .int .i64 left3, .int .i64 f_at1] 58 (0, 0)) :: (ch8 ++ [])) :: L)) (SegSub.trans (SegSub.flat (by simp [selS])) (SegSub.sel _ [some 2, some 0, some 1] 3)) ?_)))
  exact Upd.done (hR A8 c8 ch9 ((g1, Obj.cells #[.slice A7 f3.length c7, .int .i64 left3, .int .i64 f_at1] 58 (0, 0)) :: (ch8 ++ [])) (hO9) (⟨g1, A7, c7, ch8, rfl, rfl, hO8⟩))

theorem recyclingref56_Register_Late_fn {μ : Gh} {L : List Seg} {R : Value → Gh → List Seg → Prop}  {r1 : T_recyclingref56_Register} {f_at1 : Int} {days1 : Int} {pv1 : Value} {so1 : Seg} {res1 : (List Int)} {res2 : Int} {res3 : T_recyclingref56_Register}
    (hP1 : Obj_recyclingref56_Register μ pv1 r1 so1) (h : recyclingref56_Register_Late r1 f_at1 days1 = some (res1, res2, res3))
    (hR : ∀ (A0 : Option Addr) (c0 : Nat) (ch0 : Seg) (sp0 : Seg), Own rInt 3 μ (.slice A0 res1.length c0) res1 ch0 → Obj_recyclingref56_Register μ pv1 res3 sp0 → R (.tuple #[.slice A0 res1.length c0, .int .i64 res2]) μ (ch0 :: sp0 :: L)) :
    Fn Try.prog 18 [pv1, .int .i64 f_at1, .int .i64 days1] μ (so1 :: L) R := by
  unfold recyclingref56_Register_Late at h
  refine Fn.of_body Tt_ok Try.func18 (by kernel_rfl) rfl Try.ntmps18 (by simp) ?_
  simp only [Try.f18, argFr, List.zipIdx, List.map, Nat.reduceAdd]
  refine WP.seq_k (fun K1712 hK1712 => WP.region Tt_ok (O_cons (O_read rfl (R_assign rfl (P_some rfl (O_cons (O_read rfl (R_assign rfl (P_some rfl (O_nil (hK1712 _ _ _ (WP.seq_k (fun K1717 hK1717 => WP.seq_k (fun K1718 hK1718 => ?_))))))))))))))
  obtain ⟨g1, A1, c1, ch1, hv1, rfl, hO1⟩ := hP1
  subst hv1
  refine WP.seg (L2 := ([(g1, .cells #[.slice A1 r1.Bills.length c1, .int .i64 r1.Credit, .int .i64 r1.Last] 58 (0, 0))] :: ch1 :: L)) (SegSub.flat (by simp)) (WP.region Tt_ok (O_cons (O_read rfl (R_move rfl (P_some rfl (O_cons (O_read rfl (R_eqP1 rfl rfl rfl rfl (P_some rfl (O_nil (hK1718 _ _ _ (W_cond_f rfl (WP.skip ?_)))))))))))))
  refine hK1717 _ _ _ (WP.seq_k (fun K1722 hK1722 => WP.seq_k (fun K1723 hK1723 => ?_)))
  obtain ⟨o1724, h1724, h⟩ := obind h
  refine WP.cutK (fun fr_ μ_ L_ => ∃ (v1 : Bool), v1 = o1724 ∧ SubFr [(0, .pointer (some ⟨g1, 0, none⟩)), (1, .int .i64 f_at1), (2, .int .i64 days1), (23, .bool v1)] fr_ ∧ SegSub ([(g1, .cells #[.slice A1 r1.Bills.length c1, .int .i64 r1.Credit, .int .i64 r1.Last] 58 (0, 0))] :: ch1 :: L) L_ ∧ μ = μ_) ?_ ?_
  · refine WP.region Tt_ok (O_cons (O_read rfl (R_move rfl (P_some rfl (O_cons (O_call (all := [.int .i64 f_at1]) rfl rfl rfl ?_))))))
    obtain ⟨r2, hx1, h1724⟩ := obind h1724
    refine recyclingref56_moment_fn  hx1 ((P_some rfl (O_cons (O_read rfl (R_not rfl (P_some rfl (O_cons (O_read rfl (R_move rfl (P_some rfl ?_))))))))))
    refine O_gv (z := !r2) rfl rfl (fun hc1 => ?_) (fun hc1 => ?_)
    · replace h1724 := cond_f hc1 h1724
      refine O_read rfl (R_move rfl (P_some rfl (O_gY rfl rfl hc1 (O_read rfl (R_lssD rfl rfl (P_some rfl (O_cons (O_read rfl (R_pick_F rfl hc1 rfl (P_some rfl (O_cons (O_read rfl (R_move rfl ?_)))))))))))))
      apply P_some; exact rfl
      refine O_gv (z := (decide (days1 < 0))) rfl rfl (fun hc2 => ?_) (fun hc2 => ?_)
      · replace h1724 := cond_f hc2 h1724
        refine O_read rfl (R_move rfl (P_some rfl (O_gY rfl rfl hc2 (O_read rfl (R_gtrD rfl rfl (P_some rfl (O_cons (O_read rfl (R_pick_F rfl hc2 rfl (P_some rfl (O_nil ?_)))))))))))
        have e_ := Option.some.inj h1724
        subst e_
        exact ⟨(decide (36524 < days1)), rfl, SubFr.of ⟨rfl, rfl, rfl, rfl, trivial⟩, SegSub.sel _ [some 0, some 1] 2, rfl⟩
      replace h1724 := cond_t hc2 h1724
      refine P_some rfl (O_gN rfl rfl hc2 (P_some rfl (O_cons (O_read rfl (R_pick_T rfl hc2 rfl (P_some rfl (O_nil ?_)))))))
      have e_ := Option.some.inj h1724
      subst e_
      exact ⟨true, rfl, SubFr.of ⟨rfl, rfl, rfl, rfl, trivial⟩, SegSub.sel _ [some 0, some 1] 2, rfl⟩
    replace h1724 := cond_t hc1 h1724
    refine P_some rfl (O_gN rfl rfl hc1 (P_some rfl (O_cons (O_read rfl (R_pick_T rfl hc1 rfl (P_some rfl (O_cons (O_read rfl (R_move rfl (P_some rfl (O_gN rfl rfl rfl (P_some rfl (O_gN rfl rfl rfl ?_)))))))))))))
    refine P_some rfl (O_cons (O_read rfl (R_pick_T rfl rfl rfl (P_some rfl (O_nil ?_)))))
    have e_ := Option.some.inj h1724
    subst e_
    exact ⟨true, rfl, SubFr.of ⟨rfl, rfl, rfl, rfl, trivial⟩, SegSub.sel _ [some 0, some 1] 2, rfl⟩
  rintro fr1724 μ1724 L1724 hm1724 ⟨v1, ho1724, hF1724, hS1724, hu1724⟩
  subst ho1724
  subst hu1724
  refine hK1723 _ _ _ (WP.at hF1724 hS1724 ?_)
  refine W_cond_v (b := v1) rfl (fun hc3 => ?_) (fun hc3 => ?_)
  · replace h := cond_t hc3 h
    refine WP.seq_k (fun K1727 hK1727 => WP.region Tt_ok (O_cons (O_read rfl (R_assign rfl (P_some rfl (O_cons (O_read rfl (R_assign rfl (P_some rfl (O_nil (hK1727 _ _ _ (WP.ret ?_))))))))))))
    have e_ := Option.some.inj h
    obtain ⟨e0a_, e0b_⟩ := Prod.mk.inj e_
    clear e_
    subst e0a_
    obtain ⟨e1a_, e1b_⟩ := Prod.mk.inj e0b_
    clear e0b_
    subst e1a_
    subst e1b_
    refine S_tmp rfl (S_tmp rfl (S_nil (Upd.seg (L2 := ([] :: ((g1, Obj.cells #[.slice A1 r1.Bills.length c1, .int .i64 r1.Credit, .int .i64 r1.Last] 58 (0, 0)) :: (ch1 ++ [])) :: L)) (SegSub.trans (SegSub.flat (by simp [selS])) (SegSub.sel _ [none, some 0, some 1] 2)) ?_)))
    exact Upd.done (hR none 0 [] ((g1, Obj.cells #[.slice A1 r1.Bills.length c1, .int .i64 r1.Credit, .int .i64 r1.Last] 58 (0, 0)) :: (ch1 ++ [])) (Own.nil) (⟨g1, A1, c1, ch1, rfl, rfl, hO1⟩))
  replace h := cond_f hc3 h
  refine WP.skip (hK1722 _ _ _ (WP.seq_k (fun K1730 hK1730 => WP.region Tt_ok (O_cons (O_read rfl (R_assign rfl (P_some rfl (O_nil (hK1730 _ _ _ (WP.seq_k (fun K1733 hK1733 => WP.seq_k (fun K1734 hK1734 => WP.region Tt_ok (O_cons ?_)))))))))))))
  refine O_read rfl (R_move rfl (P_some rfl (O_cons (O_read rfl (R_nilP rfl (P_some rfl (O_cons (O_read rfl (R_fa0 (o' := 0) rfl rfl rfl rfl rfl rfl (P_some rfl (O_cons (O_read rfl (R_load rfl rfl rfl ?_)))))))))))))
  refine Ex.mk _ (Cell.seg 0 0 rfl rfl rfl) (P_some rfl (O_cons (O_read rfl (R_lenS rfl rfl rfl (P_some rfl (O_cons (O_read rfl (R_move rfl (P_some rfl (O_nil (hK1734 _ _ _ ?_)))))))))))
  obtain ⟨o1735, h1735, h⟩ := obind h
  refine WP.cutK (fun fr_ μ_ L_ => ∃ (out3 : (List Int)) (A5 : Option Addr) (c5 : Nat) (ch5 : Seg), out3 = o1735 ∧ SubFr [(8, .slice A5 out3.length c5)] fr_ ∧ SegSub (ch5 :: [(g1, .cells #[.slice A1 r1.Bills.length c1, .int .i64 r1.Credit, .int .i64 r1.Last] 58 (0, 0))] :: ch1 :: L) L_ ∧ Own rInt 3 μ_ (.slice A5 out3.length c5) out3 ch5 ∧ μ = μ_) ?_ ?_
  · refine WP.block (WP.iter h1735 (fun (j_ : (List Int) × Int) fr_ μ_ L_ => ounP j_ fun out1 v2 => ∃ (A2 : Option Addr) (c2 : Nat) (ch2 : Seg), SubFr [(1, .int .i64 f_at1), (2, .int .i64 days1), (8, .slice A2 out1.length c2), (27, .slice A1 r1.Bills.length c1), (28, .int .i64 ((r1.Bills.length : Nat) : Int)), (29, .int .i64 v2)] fr_ ∧ SegSub (ch2 :: ch1 :: [(g1, .cells #[.slice A1 r1.Bills.length c1, .int .i64 r1.Credit, .int .i64 r1.Last] 58 (0, 0))] :: L) L_ ∧ Own rInt 3 μ_ (.slice A2 out1.length c2) out1 ch2 ∧ μ = μ_) ⟨none, 0, [], SubFr.of ⟨rfl, rfl, rfl, rfl, rfl, rfl, trivial⟩, SegSub.sel _ [none, some 1, some 0] 2, (Own.nil), rfl⟩ ?_)
    rintro ⟨out1, v2⟩ q1759 fr1759 μ1759 L1759 hm1759 ⟨A2, c2, ch2, hF1759, hS1759, hO2, hu1759⟩ hb1759 hq1759
    unfold recyclingref56_Register_Late_l1 at hb1759
    replace hb1759 := oun_mk hb1759
    subst hu1759
    refine WP.at hF1759 hS1759 (WP.seq_k (fun K1765 hK1765 => WP.region Tt_ok (O_cons (O_read rfl (R_lssD rfl rfl (P_some rfl (O_nil (hK1765 _ _ _ (WP.seq_k (fun K1766 hK1766 => ?_))))))))))
    refine W_cond_v (b := (decide (v2 < ((r1.Bills.length : Nat) : Int)))) rfl (fun hc4 => ?_) (fun hc4 => ?_)
    · replace hb1759 := cond_t hc4 hb1759
      refine WP.skip (hK1766 _ _ _ (WP.seq_k (fun K1767 hK1767 => ?_)))
      obtain ⟨o1768, h1768, hb1759⟩ := obind hb1759
      refine WP.cutK (fun fr_ μ_ L_ => ∃ (out2 : (List Int)) (A4 : Option Addr) (c4 : Nat) (ch4 : Seg), out2 = o1768 ∧ SubFr [(1, .int .i64 f_at1), (2, .int .i64 days1), (8, .slice A4 out2.length c4), (27, .slice A1 r1.Bills.length c1), (28, .int .i64 ((r1.Bills.length : Nat) : Int)), (29, .int .i64 v2)] fr_ ∧ SegSub (ch4 :: ch1 :: [(g1, .cells #[.slice A1 r1.Bills.length c1, .int .i64 r1.Credit, .int .i64 r1.Last] 58 (0, 0))] :: L) L_ ∧ Own rInt 3 μ_ (.slice A4 out2.length c4) out2 ch4 ∧ μ = μ_) ?_ ?_
      · refine WP.block (WP.seq_k (fun K1769 hK1769 => WP.region Tt_ok (O_cons ?_)))
        obtain ⟨x1, hx2, h1768⟩ := obind h1768
        obtain ⟨a1, cs1, hA1, hr1, _, hc5⟩ := Rds.getI (Own.rds (L := (ch2 :: ch1 :: [(g1, .cells #[.slice A1 r1.Bills.length c1, .int .i64 r1.Credit, .int .i64 r1.Last] 58 (0, 0))] :: L)) hO1 1 rfl) hx2
        obtain rfl := hr1
        refine O_read rfl (R_iaG rfl rfl rfl rfl rfl rfl ⟨(getI_lt hx2).1, (getI_lt hx2).2.1⟩ hA1 (P_some rfl (O_cons (O_read rfl (R_loadA rfl rfl rfl rfl (Ex.mk [.int .i64 x1.Bill, .int .i64 x1.Due, .int .i64 x1.Rest] ⟨rfl, hc5⟩ (P_some rfl (O_cons (O_alloc (cs := #[.int .i64 0, .int .i64 0, .int .i64 0]) rfl rfl (fun g2 => P_some rfl (O_cons (O_store (vs := [.int .i64 x1.Bill, .int .i64 x1.Due, .int .i64 x1.Rest]) rfl rfl rfl rfl rfl rfl (ST_ (L' := ([(g2, .cells #[.int .i64 x1.Bill, .int .i64 x1.Due, .int .i64 x1.Rest] 49 (0, 0))] :: ch2 :: ch1 :: [(g1, .cells #[.slice A1 r1.Bills.length c1, .int .i64 r1.Credit, .int .i64 r1.Last] 58 (0, 0))] :: L)) 0 0 rfl rfl rfl rfl ?_)))))))))))))
        refine P_none (O_nil (hK1769 _ _ _ (WP.seq_k (fun K1772 hK1772 => ?_))))
        obtain ⟨o1773, h1773, h1768⟩ := obind h1768
        refine WP.cutK (fun fr_ μ_ L_ => ∃ (v3 : Bool), v3 = o1773 ∧ SubFr [(1, .int .i64 f_at1), (2, .int .i64 days1), (8, .slice A2 out1.length c2), (10, .pointer (some ⟨g2, 0, none⟩)), (27, .slice A1 r1.Bills.length c1), (28, .int .i64 ((r1.Bills.length : Nat) : Int)), (29, .int .i64 v2), (44, .bool v3)] fr_ ∧ SegSub (ch2 :: [(g2, .cells #[.int .i64 x1.Bill, .int .i64 x1.Due, .int .i64 x1.Rest] 49 (0, 0))] :: ch1 :: [(g1, .cells #[.slice A1 r1.Bills.length c1, .int .i64 r1.Credit, .int .i64 r1.Last] 58 (0, 0))] :: L) L_ ∧ μ = μ_) ?_ ?_
        · refine WP.region Tt_ok (O_cons (O_read rfl (R_fa0 (o' := 2) rfl rfl rfl rfl rfl rfl (P_some rfl (O_cons (O_read rfl (R_load rfl rfl rfl (Ex.mk _ (Cell.seg 0 0 rfl rfl rfl) (P_some rfl (O_cons (O_read rfl (R_gtrD rfl rfl (P_some rfl ?_)))))))))))))
          refine O_cons (O_read rfl (R_move rfl (P_some rfl ?_)))
          refine O_gv (z := (decide (0 < x1.Rest))) rfl rfl (fun hc6 => ?_) (fun hc6 => ?_)
          · replace h1773 := cond_t hc6 h1773
            refine O_read rfl (R_move rfl (P_some rfl (O_gY rfl rfl hc6 (O_read rfl (R_fa0 (o' := 1) rfl rfl rfl rfl rfl rfl (P_some rfl (O_gY rfl rfl hc6 (O_read rfl (R_load rfl rfl rfl (Ex.mk _ (Cell.seg 0 0 rfl rfl rfl) (P_some rfl (O_gY rfl rfl hc6 (O_read rfl ?_)))))))))))))
            refine R_sub rfl rfl (P_some rfl (O_gY rfl rfl hc6 (O_read rfl (R_move rfl (P_some rfl (O_gY rfl rfl hc6 (O_read rfl (R_mul rfl rfl (P_some rfl (O_gY rfl rfl hc6 (O_read rfl (R_geqD rfl rfl (P_some rfl ?_)))))))))))))
            refine O_cons (O_read rfl (R_pick_T rfl hc6 rfl (P_some rfl (O_nil ?_))))
            have e_ := Option.some.inj h1773
            subst e_
            exact ⟨(decide ((w64 (days1 * 86400)) ≤ (w64 (f_at1 - x1.Due)))), rfl, SubFr.of ⟨rfl, rfl, rfl, rfl, rfl, rfl, rfl, rfl, trivial⟩, SegSub.sel _ [some 1, some 0, some 2, some 3] 4, rfl⟩
          replace h1773 := cond_f hc6 h1773
          refine P_some rfl (O_gN rfl rfl hc6 (P_some rfl (O_gN rfl rfl hc6 (P_some rfl (O_gN rfl rfl hc6 (P_some rfl (O_gN rfl rfl hc6 (P_some rfl (O_gN rfl rfl hc6 (P_some rfl (O_gN rfl rfl hc6 (P_some rfl (O_cons ?_)))))))))))))
          refine O_read rfl (R_pick_F rfl hc6 rfl (P_some rfl (O_nil ?_)))
          have e_ := Option.some.inj h1773
          subst e_
          exact ⟨false, rfl, SubFr.of ⟨rfl, rfl, rfl, rfl, rfl, rfl, rfl, rfl, trivial⟩, SegSub.sel _ [some 1, some 0, some 2, some 3] 4, rfl⟩
        rintro fr1773 μ1773 L1773 hm1773 ⟨v3, ho1773, hF1773, hS1773, hu1773⟩
        subst ho1773
        subst hu1773
        refine hK1772 _ _ _ (WP.at hF1773 hS1773 ?_)
        refine W_cond_v (b := v3) rfl (fun hc7 => ?_) (fun hc7 => ?_)
        · replace h1768 := cond_t hc7 h1768
          refine WP.region Tt_ok (O_cons (O_read rfl (R_move rfl (P_some rfl (O_cons (O_read rfl (R_fa0 (o' := 0) rfl rfl rfl rfl rfl rfl (P_some rfl (O_cons (O_read rfl (R_load rfl rfl rfl (Ex.mk _ (Cell.seg 1 0 rfl rfl rfl) (P_some rfl ?_)))))))))))))
          refine O_cons (O_bsl (z := [.int .i64 0]) rfl rfl rfl rfl rfl rfl rfl (F_cons (cells' := [.int .i64 x1.Bill]) rfl rfl rfl rfl (F_nil (fun g3 => P_some rfl (O_cons (O_append rfl ?_))))))
          obtain ⟨l1, hz1, h1768⟩ := obind h1768
          refine sem_appR (r := rInt) Tt_ok rfl rfl rfl rfl (by decide) rfl rfl 1 rfl hO2 rfl (Own.rds (L := ([(g3, .cells #[.int .i64 x1.Bill] 3 (0, 0))] :: ch2 :: [(g2, .cells #[.int .i64 x1.Bill, .int .i64 x1.Due, .int .i64 x1.Rest] 49 (0, 0))] :: ch1 :: [(g1, .cells #[.slice A1 r1.Bills.length c1, .int .i64 r1.Credit, .int .i64 r1.Last] 58 (0, 0))] :: L)) (Own.lit (r := rInt) (e := 3) (g := g3) (xs := [x1.Bill]) (cs := [.int .i64 x1.Bill]) (css := [[.int .i64 x1.Bill]]) rfl (All2.cons (rfl) (All2.nil)) rfl rfl) 0 rfl) hz1 fun A3 c3 ch3 hO3 => P_some rfl (O_cons (O_read rfl (R_assign rfl (P_some rfl (O_nil ?_)))))
          have e_ := Option.some.inj h1768
          subst e_
          exact ⟨l1, A3, c3, ch3, rfl, SubFr.of ⟨rfl, rfl, rfl, rfl, rfl, rfl, trivial⟩, SegSub.sel _ [some 1, some 3, some 4] 5, (hO3), rfl⟩
        replace h1768 := cond_f hc7 h1768
        apply WP.skip
        have e_ := Option.some.inj h1768
        subst e_
        exact ⟨out1, A2, c2, ch2, rfl, SubFr.of ⟨rfl, rfl, rfl, rfl, rfl, rfl, trivial⟩, SegSub.sel _ [some 0, some 2, some 3] 4, (hO2), rfl⟩
      rintro fr1768 μ1768 L1768 hm1768 ⟨out2, A4, c4, ch4, ho1768, hF1768, hS1768, hO4, hu1768⟩
      subst ho1768
      subst hu1768
      refine hK1767 _ _ _ (WP.at hF1768 hS1768 (WP.region Tt_ok (O_cons (O_read rfl (R_add rfl rfl (P_some rfl (O_cons (O_read rfl (R_move rfl (P_some rfl (O_nil ?_)))))))))))
      have e_ := Option.some.inj hb1759
      subst e_
      exact ⟨_, rfl, A4, c4, ch4, SubFr.of ⟨rfl, rfl, rfl, rfl, rfl, rfl, trivial⟩, SegSub.sel _ [some 0, some 1, some 2] 3, (hO4), rfl⟩
    replace hb1759 := cond_f hc4 hb1759
    refine WP.exit (B_here ?_)
    have e_ := Option.some.inj hb1759
    subst e_
    have hq_ := hq1759 _ rfl
    subst hq_
    exact ⟨out1, A2, c2, ch2, rfl, SubFr.of ⟨rfl, trivial⟩, SegSub.sel _ [some 0, some 2, some 1] 3, (hO2), rfl⟩
  rintro fr1735 μ1735 L1735 hm1735 ⟨out3, A5, c5, ch5, ho1735, hF1735, hS1735, hO5, hu1735⟩
  subst ho1735
  subst hu1735
  refine hK1733 _ _ _ (WP.at hF1735 hS1735 (WP.seq_k (fun K1786 hK1786 => WP.region Tt_ok (O_cons (O_read rfl (R_move rfl (P_some rfl (O_cons (O_read rfl (R_assign rfl (P_some rfl (O_cons (O_read rfl ?_)))))))))))))
  refine R_assign rfl (P_some rfl (O_nil (hK1786 _ _ _ (WP.ret ?_))))
  have e_ := Option.some.inj h
  obtain ⟨e0a_, e0b_⟩ := Prod.mk.inj e_
  clear e_
  subst e0a_
  obtain ⟨e1a_, e1b_⟩ := Prod.mk.inj e0b_
  clear e0b_
  subst e1a_
  subst e1b_
  refine S_tmp rfl (S_tmp rfl (S_nil (Upd.seg (L2 := (ch5 :: ((g1, Obj.cells #[.slice A1 r1.Bills.length c1, .int .i64 r1.Credit, .int .i64 r1.Last] 58 (0, 0)) :: (ch1 ++ [])) :: L)) (SegSub.trans (SegSub.flat (by simp [selS])) (SegSub.sel _ [some 0, some 1, some 2] 3)) ?_)))
  exact Upd.done (hR A5 c5 ch5 ((g1, Obj.cells #[.slice A1 r1.Bills.length c1, .int .i64 r1.Credit, .int .i64 r1.Last] 58 (0, 0)) :: (ch1 ++ [])) (hO5) (⟨g1, A1, c1, ch1, rfl, rfl, hO1⟩))

theorem recyclingref56_Register_Open_fn {μ : Gh} {L : List Seg} {R : Value → Gh → List Seg → Prop}  {r1 : T_recyclingref56_Register} {pv1 : Value} {so1 : Seg} {res1 : (List T_api_Open)} {res2 : T_recyclingref56_Register}
    (hP1 : Obj_recyclingref56_Register μ pv1 r1 so1) (h : recyclingref56_Register_Open r1 = some (res1, res2))
    (hR : ∀ (A0 : Option Addr) (c0 : Nat) (ch0 : Seg) (sp0 : Seg), Own r_api_Open 49 μ (.slice A0 res1.length c0) res1 ch0 → Obj_recyclingref56_Register μ pv1 res2 sp0 → R (.slice A0 res1.length c0) μ (ch0 :: sp0 :: L)) :
    Fn Try.prog 21 [pv1] μ (so1 :: L) R := by
  unfold recyclingref56_Register_Open at h
  refine Fn.of_body Tt_ok Try.func21 (by kernel_rfl) rfl Try.ntmps21 (by simp) ?_
  simp only [Try.f21, argFr, List.zipIdx, List.map, Nat.reduceAdd]
  refine WP.seq_k (fun K1863 hK1863 => WP.region Tt_ok (O_cons (O_read rfl (R_assign rfl (P_some rfl (O_nil (hK1863 _ _ _ (WP.seq_k (fun K1868 hK1868 => WP.seq_k (fun K1869 hK1869 => ?_))))))))))
  obtain ⟨g1, A1, c1, ch1, hv1, rfl, hO1⟩ := hP1
  subst hv1
  refine WP.seg (L2 := ([(g1, .cells #[.slice A1 r1.Bills.length c1, .int .i64 r1.Credit, .int .i64 r1.Last] 58 (0, 0))] :: ch1 :: L)) (SegSub.flat (by simp)) (WP.region Tt_ok (O_cons (O_read rfl (R_move rfl (P_some rfl (O_cons (O_read rfl (R_eqP1 rfl rfl rfl rfl (P_some rfl (O_nil (hK1869 _ _ _ (W_cond_f rfl (WP.skip ?_)))))))))))))
  refine hK1868 _ _ _ (WP.seq_k (fun K1873 hK1873 => WP.region Tt_ok (O_cons (O_read rfl (R_assign rfl (P_some rfl (O_nil (hK1873 _ _ _ (WP.seq_k (fun K1876 hK1876 => WP.seq_k (fun K1877 hK1877 => WP.region Tt_ok (O_cons (O_read rfl ?_)))))))))))))
  refine R_move rfl (P_some rfl (O_cons (O_read rfl (R_nilP rfl (P_some rfl (O_cons (O_read rfl (R_fa0 (o' := 0) rfl rfl rfl rfl rfl rfl (P_some rfl (O_cons (O_read rfl (R_load rfl rfl rfl (Ex.mk _ (Cell.seg 0 0 rfl rfl rfl) ?_)))))))))))))
  refine P_some rfl (O_cons (O_read rfl (R_lenS rfl rfl rfl (P_some rfl (O_cons (O_read rfl (R_move rfl (P_some rfl (O_nil (hK1877 _ _ _ ?_))))))))))
  obtain ⟨o1878, h1878, h⟩ := obind h
  refine WP.cutK (fun fr_ μ_ L_ => ∃ (out3 : (List T_api_Open)) (A5 : Option Addr) (c5 : Nat) (ch5 : Seg), out3 = o1878 ∧ SubFr [(3, .slice A5 out3.length c5)] fr_ ∧ SegSub (ch5 :: [(g1, .cells #[.slice A1 r1.Bills.length c1, .int .i64 r1.Credit, .int .i64 r1.Last] 58 (0, 0))] :: ch1 :: L) L_ ∧ Own r_api_Open 49 μ_ (.slice A5 out3.length c5) out3 ch5 ∧ μ = μ_) ?_ ?_
  · refine WP.block (WP.iter h1878 (fun (j_ : (List T_api_Open) × Int) fr_ μ_ L_ => ounP j_ fun out1 v1 => ∃ (A2 : Option Addr) (c2 : Nat) (ch2 : Seg), SubFr [(3, .slice A2 out1.length c2), (11, .slice A1 r1.Bills.length c1), (12, .int .i64 ((r1.Bills.length : Nat) : Int)), (13, .int .i64 v1)] fr_ ∧ SegSub (ch2 :: ch1 :: [(g1, .cells #[.slice A1 r1.Bills.length c1, .int .i64 r1.Credit, .int .i64 r1.Last] 58 (0, 0))] :: L) L_ ∧ Own r_api_Open 49 μ_ (.slice A2 out1.length c2) out1 ch2 ∧ μ = μ_) ⟨none, 0, [], SubFr.of ⟨rfl, rfl, rfl, rfl, trivial⟩, SegSub.sel _ [none, some 1, some 0] 2, (Own.nil), rfl⟩ ?_)
    rintro ⟨out1, v1⟩ q1897 fr1897 μ1897 L1897 hm1897 ⟨A2, c2, ch2, hF1897, hS1897, hO2, hu1897⟩ hb1897 hq1897
    unfold recyclingref56_Register_Open_l1 at hb1897
    replace hb1897 := oun_mk hb1897
    subst hu1897
    refine WP.at hF1897 hS1897 (WP.seq_k (fun K1903 hK1903 => WP.region Tt_ok (O_cons (O_read rfl (R_lssD rfl rfl (P_some rfl (O_nil (hK1903 _ _ _ (WP.seq_k (fun K1904 hK1904 => ?_))))))))))
    refine W_cond_v (b := (decide (v1 < ((r1.Bills.length : Nat) : Int)))) rfl (fun hc1 => ?_) (fun hc1 => ?_)
    · replace hb1897 := cond_t hc1 hb1897
      refine WP.skip (hK1904 _ _ _ (WP.seq_k (fun K1905 hK1905 => ?_)))
      obtain ⟨o1906, h1906, hb1897⟩ := obind hb1897
      refine WP.cutK (fun fr_ μ_ L_ => ∃ (out2 : (List T_api_Open)) (A4 : Option Addr) (c4 : Nat) (ch4 : Seg), out2 = o1906 ∧ SubFr [(3, .slice A4 out2.length c4), (11, .slice A1 r1.Bills.length c1), (12, .int .i64 ((r1.Bills.length : Nat) : Int)), (13, .int .i64 v1)] fr_ ∧ SegSub (ch4 :: ch1 :: [(g1, .cells #[.slice A1 r1.Bills.length c1, .int .i64 r1.Credit, .int .i64 r1.Last] 58 (0, 0))] :: L) L_ ∧ Own r_api_Open 49 μ_ (.slice A4 out2.length c4) out2 ch4 ∧ μ = μ_) ?_ ?_
      · refine WP.block (WP.seq_k (fun K1907 hK1907 => WP.region Tt_ok (O_cons ?_)))
        obtain ⟨x1, hx1, h1906⟩ := obind h1906
        obtain ⟨a1, cs1, hA1, hr1, _, hc2⟩ := Rds.getI (Own.rds (L := (ch2 :: ch1 :: [(g1, .cells #[.slice A1 r1.Bills.length c1, .int .i64 r1.Credit, .int .i64 r1.Last] 58 (0, 0))] :: L)) hO1 1 rfl) hx1
        obtain rfl := hr1
        refine O_read rfl (R_iaG rfl rfl rfl rfl rfl rfl ⟨(getI_lt hx1).1, (getI_lt hx1).2.1⟩ hA1 (P_some rfl (O_cons (O_read rfl (R_loadA rfl rfl rfl rfl (Ex.mk [.int .i64 x1.Bill, .int .i64 x1.Due, .int .i64 x1.Rest] ⟨rfl, hc2⟩ (P_some rfl (O_cons (O_alloc (cs := #[.int .i64 0, .int .i64 0, .int .i64 0]) rfl rfl (fun g2 => P_some rfl (O_cons (O_store (vs := [.int .i64 x1.Bill, .int .i64 x1.Due, .int .i64 x1.Rest]) rfl rfl rfl rfl rfl rfl (ST_ (L' := ([(g2, .cells #[.int .i64 x1.Bill, .int .i64 x1.Due, .int .i64 x1.Rest] 49 (0, 0))] :: ch2 :: ch1 :: [(g1, .cells #[.slice A1 r1.Bills.length c1, .int .i64 r1.Credit, .int .i64 r1.Last] 58 (0, 0))] :: L)) 0 0 rfl rfl rfl rfl ?_)))))))))))))
        refine P_none (O_nil (hK1907 _ _ _ (WP.seq_k (fun K1910 hK1910 => WP.region Tt_ok (O_cons (O_read rfl (R_fa0 (o' := 2) rfl rfl rfl rfl rfl rfl (P_some rfl (O_cons (O_read rfl (R_load rfl rfl rfl (Ex.mk _ (Cell.seg 0 0 rfl rfl rfl) (P_some rfl ?_)))))))))))))
        refine O_cons (O_read rfl (R_gtrD rfl rfl (P_some rfl (O_nil (hK1910 _ _ _ ?_)))))
        refine W_cond_v (b := (decide (0 < x1.Rest))) rfl (fun hc3 => ?_) (fun hc3 => ?_)
        · replace h1906 := cond_t hc3 h1906
          refine WP.region Tt_ok (O_cons (O_read rfl (R_move rfl (P_some rfl (O_cons (O_read rfl (R_loadA rfl rfl rfl rfl (LA_ (vs := [.int .i64 x1.Bill, .int .i64 x1.Due, .int .i64 x1.Rest]) 0 0 rfl rfl rfl rfl (P_some rfl (O_cons (O_bsl (z := [.int .i64 0, .int .i64 0, .int .i64 0]) rfl rfl rfl rfl rfl rfl rfl (F_cons (cells' := [.int .i64 x1.Bill, .int .i64 x1.Due, .int .i64 x1.Rest]) rfl rfl rfl rfl (F_nil (fun g3 => ?_))))))))))))))
          refine P_some rfl (O_cons (O_append rfl ?_))
          obtain ⟨l1, hz1, h1906⟩ := obind h1906
          refine sem_appR (r := r_api_Open) Tt_ok rfl rfl rfl rfl (by decide) rfl rfl 2 rfl hO2 rfl (Own.rds (L := ([(g3, .cells #[.int .i64 x1.Bill, .int .i64 x1.Due, .int .i64 x1.Rest] 49 (0, 0))] :: [(g2, .cells #[.int .i64 x1.Bill, .int .i64 x1.Due, .int .i64 x1.Rest] 49 (0, 0))] :: ch2 :: ch1 :: [(g1, .cells #[.slice A1 r1.Bills.length c1, .int .i64 r1.Credit, .int .i64 r1.Last] 58 (0, 0))] :: L)) (Own.lit (r := r_api_Open) (e := 49) (g := g3) (xs := [x1]) (cs := [.int .i64 x1.Bill, .int .i64 x1.Due, .int .i64 x1.Rest]) (css := [[.int .i64 x1.Bill, .int .i64 x1.Due, .int .i64 x1.Rest]]) rfl (All2.cons (rfl) (All2.nil)) rfl rfl) 0 rfl) hz1 fun A3 c3 ch3 hO3 => P_some rfl (O_cons (O_read rfl (R_assign rfl ?_)))
          refine P_some rfl (O_nil ?_)
          have e_ := Option.some.inj h1906
          subst e_
          exact ⟨l1, A3, c3, ch3, rfl, SubFr.of ⟨rfl, rfl, rfl, rfl, trivial⟩, SegSub.sel _ [some 2, some 3, some 4] 5, (hO3), rfl⟩
        replace h1906 := cond_f hc3 h1906
        apply WP.skip
        have e_ := Option.some.inj h1906
        subst e_
        exact ⟨out1, A2, c2, ch2, rfl, SubFr.of ⟨rfl, rfl, rfl, rfl, trivial⟩, SegSub.sel _ [some 1, some 2, some 3] 4, (hO2), rfl⟩
      rintro fr1906 μ1906 L1906 hm1906 ⟨out2, A4, c4, ch4, ho1906, hF1906, hS1906, hO4, hu1906⟩
      subst ho1906
      subst hu1906
      refine hK1905 _ _ _ (WP.at hF1906 hS1906 (WP.region Tt_ok (O_cons (O_read rfl (R_add rfl rfl (P_some rfl (O_cons (O_read rfl (R_move rfl (P_some rfl (O_nil ?_)))))))))))
      have e_ := Option.some.inj hb1897
      subst e_
      exact ⟨_, rfl, A4, c4, ch4, SubFr.of ⟨rfl, rfl, rfl, rfl, trivial⟩, SegSub.sel _ [some 0, some 1, some 2] 3, (hO4), rfl⟩
    replace hb1897 := cond_f hc1 hb1897
    refine WP.exit (B_here ?_)
    have e_ := Option.some.inj hb1897
    subst e_
    have hq_ := hq1897 _ rfl
    subst hq_
    exact ⟨out1, A2, c2, ch2, rfl, SubFr.of ⟨rfl, trivial⟩, SegSub.sel _ [some 0, some 2, some 1] 3, (hO2), rfl⟩
  rintro fr1878 μ1878 L1878 hm1878 ⟨out3, A5, c5, ch5, ho1878, hF1878, hS1878, hO5, hu1878⟩
  subst ho1878
  subst hu1878
  refine hK1876 _ _ _ (WP.at hF1878 hS1878 (WP.seq_k (fun K1919 hK1919 => WP.region Tt_ok (O_cons (O_read rfl (R_move rfl (P_some rfl (O_cons (O_read rfl (R_assign rfl (P_some rfl (O_nil (hK1919 _ _ _ ?_)))))))))))))
  apply WP.ret
  have e_ := Option.some.inj h
  obtain ⟨e0a_, e0b_⟩ := Prod.mk.inj e_
  clear e_
  subst e0a_
  subst e0b_
  refine S_tmp rfl (S_nil (Upd.seg (L2 := (ch5 :: ((g1, Obj.cells #[.slice A1 r1.Bills.length c1, .int .i64 r1.Credit, .int .i64 r1.Last] 58 (0, 0)) :: (ch1 ++ [])) :: L)) (SegSub.trans (SegSub.flat (by simp [selS])) (SegSub.sel _ [some 0, some 1, some 2] 3)) ?_))
  exact Upd.done (hR A5 c5 ch5 ((g1, Obj.cells #[.slice A1 r1.Bills.length c1, .int .i64 r1.Credit, .int .i64 r1.Last] 58 (0, 0)) :: (ch1 ++ [])) (hO5) (⟨g1, A1, c1, ch1, rfl, rfl, hO1⟩))

theorem recyclingref56_Register_Balance_fn {μ : Gh} {L : List Seg} {R : Value → Gh → List Seg → Prop}  {r1 : T_recyclingref56_Register} {pv1 : Value} {so1 : Seg} {res1 : Int} {res2 : T_recyclingref56_Register}
    (hP1 : Obj_recyclingref56_Register μ pv1 r1 so1) (h : recyclingref56_Register_Balance r1 = some (res1, res2))
    (hR : ∀ (sp0 : Seg), Obj_recyclingref56_Register μ pv1 res2 sp0 → R (.int .i64 res1) μ (sp0 :: L)) :
    Fn Try.prog 23 [pv1] μ (so1 :: L) R := by
  unfold recyclingref56_Register_Balance at h
  refine Fn.of_body Tt_ok Try.func23 (by kernel_rfl) rfl Try.ntmps23 (by simp) ?_
  simp only [Try.f23, argFr, List.zipIdx, List.map, Nat.reduceAdd]
  refine WP.seq_k (fun K1958 hK1958 => WP.region Tt_ok (O_cons (O_read rfl (R_assign rfl (P_some rfl (O_nil (hK1958 _ _ _ (WP.seq_k (fun K1959 hK1959 => WP.seq_k (fun K1960 hK1960 => ?_))))))))))
  obtain ⟨g1, A1, c1, ch1, hv1, rfl, hO1⟩ := hP1
  subst hv1
  refine WP.seg (L2 := ([(g1, .cells #[.slice A1 r1.Bills.length c1, .int .i64 r1.Credit, .int .i64 r1.Last] 58 (0, 0))] :: ch1 :: L)) (SegSub.flat (by simp)) (WP.region Tt_ok (O_cons (O_read rfl (R_move rfl (P_some rfl (O_cons (O_read rfl (R_eqP1 rfl rfl rfl rfl (P_some rfl (O_nil (hK1960 _ _ _ (W_cond_f rfl (WP.skip ?_)))))))))))))
  refine hK1959 _ _ _ (WP.seq_k (fun K1964 hK1964 => WP.region Tt_ok (O_cons (O_read rfl (R_move rfl (P_some rfl (O_cons (O_read rfl (R_nilP rfl (P_some rfl (O_cons (O_read rfl (R_fa0 (o' := 1) rfl rfl rfl rfl rfl rfl ?_)))))))))))))
  refine P_some rfl (O_cons (O_read rfl (R_load rfl rfl rfl (Ex.mk _ (Cell.seg 0 0 rfl rfl rfl) (P_some rfl (O_cons (O_read rfl (R_assign rfl (P_some rfl (O_nil (hK1964 _ _ _ (WP.seq_k (fun K1965 hK1965 => WP.seq_k (fun K1966 hK1966 => ?_))))))))))))))
  refine WP.region Tt_ok (O_cons (O_read rfl (R_move rfl (P_some rfl (O_cons (O_read rfl (R_nilP rfl (P_some rfl (O_cons (O_read rfl (R_fa0 (o' := 0) rfl rfl rfl rfl rfl rfl (P_some rfl (O_cons ?_)))))))))))))
  refine O_read rfl (R_load rfl rfl rfl (Ex.mk _ (Cell.seg 0 0 rfl rfl rfl) (P_some rfl (O_cons (O_read rfl (R_lenS rfl rfl rfl (P_some rfl (O_cons (O_read rfl (R_move rfl (P_some rfl (O_nil (hK1966 _ _ _ ?_)))))))))))))
  obtain ⟨o1967, h1967, h⟩ := obind h
  refine WP.cutK (fun fr_ μ_ L_ => ∃ (n2 : Int), n2 = o1967 ∧ SubFr [(3, .int .i64 n2)] fr_ ∧ SegSub ([(g1, .cells #[.slice A1 r1.Bills.length c1, .int .i64 r1.Credit, .int .i64 r1.Last] 58 (0, 0))] :: ch1 :: L) L_ ∧ μ = μ_) ?_ ?_
  · refine WP.block (WP.iter h1967 (fun (j_ : Int × Int) fr_ μ_ L_ => ounP j_ fun n1 v1 => SubFr [(3, .int .i64 n1), (15, .slice A1 r1.Bills.length c1), (16, .int .i64 ((r1.Bills.length : Nat) : Int)), (17, .int .i64 v1)] fr_ ∧ SegSub (ch1 :: [(g1, .cells #[.slice A1 r1.Bills.length c1, .int .i64 r1.Credit, .int .i64 r1.Last] 58 (0, 0))] :: L) L_ ∧ μ = μ_) ⟨SubFr.of ⟨rfl, rfl, rfl, rfl, trivial⟩, SegSub.sel _ [some 1, some 0] 2, rfl⟩ ?_)
    rintro ⟨n1, v1⟩ q1978 fr1978 μ1978 L1978 hm1978 ⟨hF1978, hS1978, hu1978⟩ hb1978 hq1978
    unfold recyclingref56_Register_Balance_l1 at hb1978
    replace hb1978 := oun_mk hb1978
    subst hu1978
    refine WP.at hF1978 hS1978 (WP.seq_k (fun K1982 hK1982 => WP.region Tt_ok (O_cons (O_read rfl (R_lssD rfl rfl (P_some rfl (O_nil (hK1982 _ _ _ (WP.seq_k (fun K1983 hK1983 => ?_))))))))))
    refine W_cond_v (b := (decide (v1 < ((r1.Bills.length : Nat) : Int)))) rfl (fun hc1 => ?_) (fun hc1 => ?_)
    · replace hb1978 := cond_t hc1 hb1978
      refine WP.skip (hK1983 _ _ _ (WP.seq_k (fun K1984 hK1984 => WP.block (WP.seq_k (fun K1985 hK1985 => WP.region Tt_ok (O_cons ?_))))))
      obtain ⟨x1, hx1, hb1978⟩ := obind hb1978
      obtain ⟨a1, cs1, hA1, hr1, _, hc2⟩ := Rds.getI (Own.rds (L := (ch1 :: [(g1, .cells #[.slice A1 r1.Bills.length c1, .int .i64 r1.Credit, .int .i64 r1.Last] 58 (0, 0))] :: L)) hO1 0 rfl) hx1
      obtain rfl := hr1
      refine O_read rfl (R_iaG rfl rfl rfl rfl rfl rfl ⟨(getI_lt hx1).1, (getI_lt hx1).2.1⟩ hA1 (P_some rfl (O_cons (O_read rfl (R_loadA rfl rfl rfl rfl (Ex.mk [.int .i64 x1.Bill, .int .i64 x1.Due, .int .i64 x1.Rest] ⟨rfl, hc2⟩ (P_some rfl (O_cons (O_alloc (cs := #[.int .i64 0, .int .i64 0, .int .i64 0]) rfl rfl (fun g2 => P_some rfl (O_cons (O_store (vs := [.int .i64 x1.Bill, .int .i64 x1.Due, .int .i64 x1.Rest]) rfl rfl rfl rfl rfl rfl (ST_ (L' := ([(g2, .cells #[.int .i64 x1.Bill, .int .i64 x1.Due, .int .i64 x1.Rest] 49 (0, 0))] :: ch1 :: [(g1, .cells #[.slice A1 r1.Bills.length c1, .int .i64 r1.Credit, .int .i64 r1.Last] 58 (0, 0))] :: L)) 0 0 rfl rfl rfl rfl ?_)))))))))))))
      refine P_none (O_nil (hK1985 _ _ _ (WP.region Tt_ok (O_cons (O_read rfl (R_move rfl (P_some rfl (O_cons (O_read rfl (R_fa0 (o' := 2) rfl rfl rfl rfl rfl rfl (P_some rfl (O_cons (O_read rfl ?_)))))))))))))
      refine R_load rfl rfl rfl (Ex.mk _ (Cell.seg 0 0 rfl rfl rfl) (P_some rfl (O_cons (O_read rfl (R_sub rfl rfl (P_some rfl (O_cons (O_read rfl (R_assign rfl (P_some rfl (O_nil (hK1984 _ _ _ (WP.region Tt_ok ?_)))))))))))))
      refine O_cons (O_read rfl (R_add rfl rfl (P_some rfl (O_cons (O_read rfl (R_move rfl (P_some rfl (O_nil ?_))))))))
      have e_ := Option.some.inj hb1978
      subst e_
      exact ⟨_, rfl, SubFr.of ⟨rfl, rfl, rfl, rfl, trivial⟩, SegSub.sel _ [some 1, some 2] 3, rfl⟩
    replace hb1978 := cond_f hc1 hb1978
    refine WP.exit (B_here ?_)
    have e_ := Option.some.inj hb1978
    subst e_
    have hq_ := hq1978 _ rfl
    subst hq_
    exact ⟨n1, rfl, SubFr.of ⟨rfl, trivial⟩, SegSub.sel _ [some 1, some 0] 2, rfl⟩
  rintro fr1967 μ1967 L1967 hm1967 ⟨n2, ho1967, hF1967, hS1967, hu1967⟩
  subst ho1967
  subst hu1967
  refine hK1965 _ _ _ (WP.at hF1967 hS1967 (WP.seq_k (fun K1990 hK1990 => WP.region Tt_ok (O_cons (O_read rfl (R_move rfl (P_some rfl (O_cons (O_read rfl (R_assign rfl (P_some rfl (O_nil (hK1990 _ _ _ ?_)))))))))))))
  apply WP.ret
  have e_ := Option.some.inj h
  obtain ⟨e0a_, e0b_⟩ := Prod.mk.inj e_
  clear e_
  subst e0a_
  subst e0b_
  refine S_tmp rfl (S_nil (Upd.seg (L2 := (((g1, Obj.cells #[.slice A1 r1.Bills.length c1, .int .i64 r1.Credit, .int .i64 r1.Last] 58 (0, 0)) :: (ch1 ++ [])) :: L)) (SegSub.trans (SegSub.flat (by simp [selS])) (SegSub.sel _ [some 0, some 1] 2)) ?_))
  exact Upd.done (hR ((g1, Obj.cells #[.slice A1 r1.Bills.length c1, .int .i64 r1.Credit, .int .i64 r1.Last] 58 (0, 0)) :: (ch1 ++ [])) (⟨g1, A1, c1, ch1, rfl, rfl, hO1⟩))

theorem recyclinglaw56_PaymentRuns_fn {μ : Gh} {L : List Seg} {R : Value → Gh → List Seg → Prop}  {l1 : (List T_recyclinglaw56_Act)} {A1 : Option Addr} {c1 : Nat} {res1 : Bool}
    (hl1 : l1.length ≤ c1 ∧ c1 ≤ maxLen) (hA1 : Rds r_recyclinglaw56_Act μ L A1 l1) (h : recyclinglaw56_PaymentRuns l1 = some res1)
    (hR : R (.bool res1) μ (L)) :
    Fn Try.prog 3 [.slice A1 l1.length c1] μ (L) R := by
  unfold recyclinglaw56_PaymentRuns at h
  refine Fn.of_body Tt_ok Try.func3 (by kernel_rfl) rfl Try.ntmps3 (by simp) ?_
  simp only [Try.f3, argFr, List.zipIdx, List.map, Nat.reduceAdd]
  refine WP.seq_k (fun K2120 hK2120 => WP.region Tt_ok (O_cons (O_read rfl (R_assign rfl (P_some rfl (O_nil (hK2120 _ _ _ (WP.seq_k (fun K2121 hK2121 => WP.region Tt_ok (O_cons (O_call (all := []) rfl rfl rfl ?_)))))))))))
  obtain ⟨r1, hx1, h⟩ := obind h
  refine payment_New_fn  hx1 (fun pv1 so1 hP1 => P_some rfl (O_cons (O_call (all := []) rfl rfl rfl ?_)))
  obtain ⟨r2, hx2, h⟩ := obind h
  refine recyclingref56_New_fn  hx2 (fun pv2 so2 hP2 => P_some rfl (O_cons (O_read rfl (R_assign rfl (P_some rfl (O_cons (O_read rfl (R_assign rfl (P_some rfl (O_nil (hK2121 _ _ _ (WP.seq_k (fun K2124 hK2124 => WP.seq_k (fun K2125 hK2125 => ?_))))))))))))))
  obtain ⟨g1, A2, c2, ch1, g2, es1, cn1, hv1, rfl, hO1, hM1⟩ := hP1
  subst hv1
  refine WP.seg (L2 := (so2 :: [(g1, .cells #[.slice A2 r1.f_open.length c2, .map (some g2), .int .i64 r1.credit, .int .i64 r1.last] 56 (0, 0))] :: ch1 :: [(g2, .map es1 cn1)] :: L)) (SegSub.flat (by simp)) ?_
  obtain ⟨o2130, h2130, h⟩ := obind h
  refine WP.cutK (fun fr_ μ_ L_ => ∃ (v1 : Bool), v1 = o2130 ∧ SubFr [(0, .slice A1 l1.length c1), (3, .pointer (some ⟨g1, 0, none⟩)), (4, pv2), (23, .bool v1)] fr_ ∧ SegSub ([(g1, .cells #[.slice A2 r1.f_open.length c2, .map (some g2), .int .i64 r1.credit, .int .i64 r1.last] 56 (0, 0))] :: ch1 :: [(g2, .map es1 cn1)] :: so2 :: L) L_ ∧ μ = μ_) ?_ ?_
  · refine WP.region Tt_ok (O_cons (O_read rfl (R_move rfl (P_some rfl (O_cons (O_read rfl (R_lenS rfl rfl rfl (P_some rfl (O_cons (O_read rfl (R_gtrD rfl rfl (P_some rfl (O_cons ?_)))))))))))))
    refine O_read rfl (R_move rfl (P_some rfl ?_))
    refine O_gv (z := (decide (100 < ((l1.length : Nat) : Int)))) rfl rfl (fun hc1 => ?_) (fun hc1 => ?_)
    · replace h2130 := cond_f hc1 h2130
      refine O_read rfl (R_move rfl (P_some rfl (O_gY rfl rfl hc1 (O_read rfl (R_eqP1 rfl rfl rfl rfl (P_some rfl (O_cons (O_read rfl (R_pick_F rfl hc1 rfl (P_some rfl (O_nil ?_)))))))))))
      have e_ := Option.some.inj h2130
      subst e_
      exact ⟨false, rfl, SubFr.of ⟨rfl, rfl, rfl, rfl, trivial⟩, SegSub.sel _ [some 1, some 2, some 3, some 0] 4, rfl⟩
    replace h2130 := cond_t hc1 h2130
    refine P_some rfl (O_gN rfl rfl hc1 (P_some rfl (O_cons (O_read rfl (R_pick_T rfl hc1 rfl (P_some rfl (O_nil ?_)))))))
    have e_ := Option.some.inj h2130
    subst e_
    exact ⟨true, rfl, SubFr.of ⟨rfl, rfl, rfl, rfl, trivial⟩, SegSub.sel _ [some 1, some 2, some 3, some 0] 4, rfl⟩
  rintro fr2130 μ2130 L2130 hm2130 ⟨v1, ho2130, hF2130, hS2130, hu2130⟩
  subst ho2130
  subst hu2130
  refine hK2125 _ _ _ (WP.at hF2130 hS2130 ?_)
  refine W_cond_v (b := v1) rfl (fun hc2 => ?_) (fun hc2 => ?_)
  · replace h := cond_t hc2 h
    refine WP.seq_k (fun K2133 hK2133 => WP.region Tt_ok (O_cons (O_call (all := []) rfl rfl rfl ?_)))
    obtain ⟨r3, hx3, h⟩ := obind h
    refine recyclinglaw56_awake_fn  hx3 ((P_some rfl (O_cons (O_read rfl (R_assign rfl (P_some rfl (O_nil (hK2133 _ _ _ (WP.ret ?_)))))))))
    have e_ := Option.some.inj h
    subst e_
    refine S_tmp rfl (S_nil (Upd.selS [] 4 ?_))
    exact Upd.done hR
  replace h := cond_f hc2 h
  refine WP.skip (hK2124 _ _ _ (WP.seq_k (fun K2134 hK2134 => WP.seq_k (fun K2135 hK2135 => WP.region Tt_ok (O_cons (O_read rfl (R_move rfl (P_some rfl (O_cons (O_read rfl (R_lenS rfl rfl rfl (P_some rfl (O_cons ?_)))))))))))))
  refine O_read rfl (R_move rfl (P_some rfl (O_nil (hK2135 _ _ _ ?_))))
  have hP3 : Obj_payment_Register μ (.pointer (some ⟨g1, 0, none⟩)) r1 ((g1, Obj.cells #[.slice A2 r1.f_open.length c2, .map (some g2), .int .i64 r1.credit, .int .i64 r1.last] 56 (0, 0)) :: (ch1 ++ ((g2, Obj.map es1 cn1) :: []))) := ⟨g1, A2, c2, ch1, g2, es1, cn1, rfl, rfl, hO1, hM1⟩
  refine WP.seg (L2 := (((g1, Obj.cells #[.slice A2 r1.f_open.length c2, .map (some g2), .int .i64 r1.credit, .int .i64 r1.last] 56 (0, 0)) :: (ch1 ++ ((g2, Obj.map es1 cn1) :: []))) :: so2 :: L)) (SegSub.trans (SegSub.flat (by simp [selS])) (SegSub.sel _ [some 0, some 1, some 2, some 3] 4)) ?_
  obtain ⟨o2137, h2137, h⟩ := obind h
  refine WP.cutK (fun fr_ μ_ L_ => (.inl ()) = o2137 ∧ SubFr [] fr_ ∧ SegSub (L) L_ ∧ μ = μ_) ?_ ?_
  · refine WP.block (WP.iter h2137 (fun (j_ : T_payment_Register × T_recyclingref56_Register × Int) fr_ μ_ L_ => ounP j_ fun q1 j_ => ounP j_ fun q2 v2 => ∃ (so3 : Seg) (so4 : Seg), SubFr [(3, .pointer (some ⟨g1, 0, none⟩)), (4, pv2), (25, .slice A1 l1.length c1), (26, .int .i64 ((l1.length : Nat) : Int)), (27, .int .i64 v2)] fr_ ∧ SegSub (so3 :: so4 :: L) L_ ∧ Obj_payment_Register μ_ (.pointer (some ⟨g1, 0, none⟩)) q1 so3 ∧ Obj_recyclingref56_Register μ_ pv2 q2 so4 ∧ μ = μ_) ⟨((g1, Obj.cells #[.slice A2 r1.f_open.length c2, .map (some g2), .int .i64 r1.credit, .int .i64 r1.last] 56 (0, 0)) :: (ch1 ++ ((g2, Obj.map es1 cn1) :: []))), so2, SubFr.of ⟨rfl, rfl, rfl, rfl, rfl, trivial⟩, SegSub.sel _ [some 0, some 1] 2, (hP3), (hP2), rfl⟩ ?_)
    rintro ⟨q1, q2, v2⟩ q2251 fr2251 μ2251 L2251 hm2251 ⟨so3, so4, hF2251, hS2251, hP4, hP5, hu2251⟩ hb2251 hq2251
    unfold recyclinglaw56_PaymentRuns_l1 at hb2251
    replace hb2251 := oun_mk hb2251
    replace hb2251 := oun_mk hb2251
    subst hu2251
    refine WP.at hF2251 hS2251 (WP.seq_k (fun K2256 hK2256 => WP.region Tt_ok (O_cons (O_read rfl (R_lssD rfl rfl (P_some rfl (O_nil (hK2256 _ _ _ (WP.seq_k (fun K2257 hK2257 => ?_))))))))))
    refine W_cond_v (b := (decide (v2 < ((l1.length : Nat) : Int)))) rfl (fun hc3 => ?_) (fun hc3 => ?_)
    · replace hb2251 := cond_t hc3 hb2251
      refine WP.skip (hK2257 _ _ _ (WP.seq_k (fun K2258 hK2258 => WP.block (WP.seq_k (fun K2259 hK2259 => WP.region Tt_ok (O_cons ?_))))))
      obtain ⟨x1, hx4, hb2251⟩ := obind hb2251
      obtain ⟨a1, cs1, hA2, hr1, _, hc4⟩ := Rds.getI (Rds.push (Rds.push hA1)) hx4
      obtain rfl := hr1
      refine O_read rfl (R_iaG rfl rfl rfl rfl rfl rfl ⟨(getI_lt hx4).1, (getI_lt hx4).2.1⟩ hA2 (P_some rfl (O_cons (O_read rfl (R_loadA rfl rfl rfl rfl (Ex.mk [.int .i64 x1.Kind, .int .i64 x1.Bill, .int .i64 x1.Amount, .int .i64 x1.At] ⟨rfl, hc4⟩ (P_some rfl (O_cons (O_alloc (cs := #[.int .i64 0, .int .i64 0, .int .i64 0, .int .i64 0]) rfl rfl (fun g3 => P_some rfl (O_cons (O_store (vs := [.int .i64 x1.Kind, .int .i64 x1.Bill, .int .i64 x1.Amount, .int .i64 x1.At]) rfl rfl rfl rfl rfl rfl (ST_ (L' := ([(g3, .cells #[.int .i64 x1.Kind, .int .i64 x1.Bill, .int .i64 x1.Amount, .int .i64 x1.At] 29 (0, 0))] :: so3 :: so4 :: L)) 0 0 rfl rfl rfl rfl ?_)))))))))))))
      refine P_none (O_nil (hK2259 _ _ _ (WP.seq_k (fun K2264 hK2264 => WP.seq_k (fun K2265 hK2265 => WP.region Tt_ok (O_cons (O_read rfl (R_fa0 (o' := 0) rfl rfl rfl rfl rfl rfl (P_some rfl (O_cons (O_read rfl (R_load rfl rfl rfl (Ex.mk _ (Cell.seg 0 0 rfl rfl rfl) ?_)))))))))))))
      refine P_some rfl (O_nil (hK2265 _ _ _ ?_))
      obtain ⟨o2266, h2266, hb2251⟩ := obind hb2251
      refine WP.cutK (fun fr_ μ_ L_ => ∃ (q3 : T_payment_Register) (q4 : T_recyclingref56_Register) (so11 : Seg) (so12 : Seg), (.inl (q3, q4)) = o2266 ∧ SubFr [(3, .pointer (some ⟨g1, 0, none⟩)), (4, pv2), (25, .slice A1 l1.length c1), (26, .int .i64 ((l1.length : Nat) : Int)), (27, .int .i64 v2)] fr_ ∧ SegSub (so11 :: so12 :: L) L_ ∧ Obj_payment_Register μ_ (.pointer (some ⟨g1, 0, none⟩)) q3 so11 ∧ Obj_recyclingref56_Register μ_ pv2 q4 so12 ∧ μ = μ_) ?_ ?_
      · refine WP.block (WP.seq_k (fun K2267 hK2267 => WP.region Tt_ok (O_cons (O_read rfl (R_eqlD rfl rfl (P_some rfl (O_cons (O_read rfl (R_assign rfl (P_some rfl (O_nil (hK2267 _ _ _ ?_))))))))))))
        refine W_cond_v (b := (decide (x1.Kind = 0))) rfl (fun hc5 => ?_) (fun hc5 => ?_)
        · replace h2266 := cond_t hc5 h2266
          refine WP.seq_k (fun K2268 hK2268 => WP.drawn (id := 13) (l' := List.replicate 17 true) wide Tt_ok [[(g3, .cells #[.int .i64 x1.Kind, .int .i64 x1.Bill, .int .i64 x1.Amount, .int .i64 x1.At] 29 (0, 0))]] (Kept.of (by simp)) [(true, 0), (true, 1), (true, 2), (true, 3), (true, 4), (true, 5), (true, 6), (true, 8), (true, 9), (true, 10), (true, 11), (true, 12), (true, 13), (true, 14), (false, 7), (false, 15), (true, 16)] (by kernel_rfl) (by kernel_rfl) rfl (PL_t rfl (R_move rfl (P_some rfl (PL_t rfl (R_fa0 (o' := 1) rfl rfl rfl rfl rfl rfl (P_some rfl (PL_t rfl (R_load rfl rfl rfl (Ex.mk _ (Cell.seg 0 0 rfl rfl rfl) (P_some rfl (PL_t rfl (R_fa0 (o' := 2) rfl rfl rfl rfl rfl rfl ?_)))))))))))))
          refine P_some rfl (PL_t rfl (R_load rfl rfl rfl (Ex.mk _ (Cell.seg 0 0 rfl rfl rfl) (P_some rfl (PL_t rfl (R_fa0 (o' := 3) rfl rfl rfl rfl rfl rfl (P_some rfl (PL_t rfl (R_load rfl rfl rfl (Ex.mk _ (Cell.seg 0 0 rfl rfl rfl) (P_some rfl (PL_t rfl (R_move rfl ?_)))))))))))))
          refine P_some rfl (PL_t rfl (R_fa0 (o' := 1) rfl rfl rfl rfl rfl rfl (P_some rfl (PL_t rfl (R_load rfl rfl rfl (Ex.mk _ (Cell.seg 0 0 rfl rfl rfl) (P_some rfl (PL_t rfl (R_fa0 (o' := 2) rfl rfl rfl rfl rfl rfl (P_some rfl (PL_t rfl (R_load rfl rfl rfl (Ex.mk _ (Cell.seg 0 0 rfl rfl rfl) ?_)))))))))))))
          refine P_some rfl (PL_t rfl (R_fa0 (o' := 3) rfl rfl rfl rfl rfl rfl (P_some rfl (PL_t rfl (R_load rfl rfl rfl (Ex.mk _ (Cell.seg 0 0 rfl rfl rfl) (P_some rfl (PL_f rfl (O_call (all := [.pointer (some ⟨g1, 0, none⟩), .int .i64 x1.Bill, .int .i64 x1.Amount, .int .i64 x1.At]) rfl rfl rfl (Fn.seg (L2 := (so3 :: [(g3, .cells #[.int .i64 x1.Kind, .int .i64 x1.Bill, .int .i64 x1.Amount, .int .i64 x1.At] 29 (0, 0))] :: so4 :: L)) (SegSub.sel _ [some 1, some 0, some 2] 3) ?_))))))))))
          obtain ⟨⟨r4, r5⟩, hx5, h2266⟩ := obind h2266
          replace h2266 := oun_mk h2266
          refine payment_Register_Charge_fn hP4 hx5 (fun so5 hP6 => ?_)
          refine ⟨Kept.of (by simp), ?_⟩
          refine P_some rfl (PL_f rfl (O_call (all := [pv2, .int .i64 x1.Bill, .int .i64 x1.Amount, .int .i64 x1.At]) rfl rfl rfl (Fn.seg (L2 := (so4 :: so5 :: [(g3, .cells #[.int .i64 x1.Kind, .int .i64 x1.Bill, .int .i64 x1.Amount, .int .i64 x1.At] 29 (0, 0))] :: L)) (SegSub.sel _ [some 2, some 0, some 1] 3) ?_)))
          obtain ⟨⟨r6, r7⟩, hx6, h2266⟩ := obind h2266
          replace h2266 := oun_mk h2266
          refine recyclingref56_Register_Charge_fn hP5 hx6 (fun so6 hP7 => ?_)
          refine ⟨Kept.of (by simp), ?_⟩
          refine P_some rfl (PL_t rfl (R_neqD rfl rfl (P_some rfl (PL_nil (AN.done0 (by kernel_rfl) (hK2268 _ _ _ ?_))))))
          refine W_cond_v (b := !(decide (r4 = r6))) rfl (fun hc6 => ?_) (fun hc6 => ?_)
          · replace h2266 := cond_t hc6 h2266
            refine WP.seq_k (fun K2305 hK2305 => WP.region Tt_ok (O_cons (O_read rfl (R_assign rfl (P_some rfl (O_nil (hK2305 _ _ _ (WP.ret ?_))))))))
            have e_ := Option.some.inj h2266
            subst e_
            replace hb2251 := osum_r hb2251
            have e_ := Option.some.inj hb2251
            subst e_
            have hq_ := hq2251 _ rfl
            subst hq_
            replace h := osum_r h
            have e_ := Option.some.inj h
            subst e_
            refine S_tmp rfl (S_nil (Upd.selS [] 3 ?_))
            exact Upd.done hR
          replace h2266 := cond_f hc6 h2266
          apply WP.skip
          have e_ := Option.some.inj h2266
          subst e_
          exact ⟨r5, r7, so5, so6, rfl, SubFr.of ⟨rfl, rfl, rfl, rfl, rfl, trivial⟩, SegSub.sel _ [some 1, some 0] 3, (hP6), (hP7), rfl⟩
        replace h2266 := cond_f hc5 h2266
        refine WP.seq_k (fun K2306 hK2306 => WP.region Tt_ok (O_cons (O_read rfl (R_eqlD rfl rfl (P_some rfl (O_cons (O_read rfl (R_assign rfl (P_some rfl (O_nil (hK2306 _ _ _ ?_)))))))))))
        refine W_cond_v (b := (decide (x1.Kind = 1))) rfl (fun hc7 => ?_) (fun hc7 => ?_)
        · replace h2266 := cond_t hc7 h2266
          refine WP.seq_k (fun K2307 hK2307 => WP.region Tt_ok (O_cons (O_read rfl (R_move rfl (P_some rfl (O_cons (O_read rfl (R_fa0 (o' := 2) rfl rfl rfl rfl rfl rfl (P_some rfl (O_cons (O_read rfl (R_load rfl rfl rfl (Ex.mk _ (Cell.seg 0 0 rfl rfl rfl) ?_)))))))))))))
          refine P_some rfl (O_cons (O_read rfl (R_fa0 (o' := 3) rfl rfl rfl rfl rfl rfl (P_some rfl (O_cons (O_read rfl (R_load rfl rfl rfl (Ex.mk _ (Cell.seg 0 0 rfl rfl rfl) (P_some rfl (O_cons (O_call (all := [.pointer (some ⟨g1, 0, none⟩), .int .i64 x1.Amount, .int .i64 x1.At]) rfl rfl rfl (Fn.seg (L2 := (so3 :: [(g3, .cells #[.int .i64 x1.Kind, .int .i64 x1.Bill, .int .i64 x1.Amount, .int .i64 x1.At] 29 (0, 0))] :: so4 :: L)) (SegSub.sel _ [some 1, some 0, some 2] 3) ?_))))))))))))
          obtain ⟨⟨r8, r9, r10⟩, hx7, h2266⟩ := obind h2266
          replace h2266 := oun_mk h2266
          replace h2266 := oun_mk h2266
          refine payment_Register_Pay_fn hP4 hx7 (fun A3 c3 ch2 so7 hO2 hP8 => P_some rfl (O_cons (O_read rfl (R_move rfl (P_some rfl (O_cons (O_read rfl (R_ext rfl rfl (P_some rfl (O_cons (O_read rfl (R_ext rfl rfl (P_some rfl ?_)))))))))))))
          refine O_cons (O_read rfl (R_assign rfl (P_some rfl (O_cons (O_read rfl (R_assign rfl (P_some rfl (O_nil (hK2307 _ _ _ (WP.seq_k (fun K2316 hK2316 => WP.region Tt_ok (O_cons (O_read rfl ?_)))))))))))))
          refine R_move rfl (P_some rfl (O_cons (O_read rfl (R_fa0 (o' := 2) rfl rfl rfl rfl rfl rfl (P_some rfl (O_cons (O_read rfl (R_load rfl rfl rfl (Ex.mk _ (Cell.seg 2 0 rfl rfl rfl) (P_some rfl (O_cons (O_read rfl (R_fa0 (o' := 3) rfl rfl rfl rfl rfl rfl ?_)))))))))))))
          refine P_some rfl (O_cons (O_read rfl (R_load rfl rfl rfl (Ex.mk _ (Cell.seg 2 0 rfl rfl rfl) (P_some rfl (O_cons (O_call (all := [pv2, .int .i64 x1.Amount, .int .i64 x1.At]) rfl rfl rfl (Fn.seg (L2 := (so4 :: ch2 :: so7 :: [(g3, .cells #[.int .i64 x1.Kind, .int .i64 x1.Bill, .int .i64 x1.Amount, .int .i64 x1.At] 29 (0, 0))] :: L)) (SegSub.sel _ [some 3, some 0, some 1, some 2] 4) ?_))))))))
          obtain ⟨⟨r11, r12, r13⟩, hx8, h2266⟩ := obind h2266
          replace h2266 := oun_mk h2266
          replace h2266 := oun_mk h2266
          refine recyclingref56_Register_Pay_fn hP5 hx8 (fun A4 c4 ch3 so8 hO3 hP9 => P_some rfl (O_cons (O_read rfl (R_move rfl (P_some rfl (O_cons (O_read rfl (R_ext rfl rfl (P_some rfl (O_cons (O_read rfl (R_ext rfl rfl (P_some rfl ?_)))))))))))))
          refine O_cons (O_read rfl (R_assign rfl (P_some rfl (O_cons (O_read rfl (R_assign rfl (P_some rfl (O_nil (hK2316 _ _ _ (WP.seq_k (fun K2325 hK2325 => ?_)))))))))))
          obtain ⟨o2326, h2326, h2266⟩ := obind h2266
          refine WP.cutK (fun fr_ μ_ L_ => ∃ (v3 : Bool), v3 = o2326 ∧ SubFr [(3, .pointer (some ⟨g1, 0, none⟩)), (4, pv2), (25, .slice A1 l1.length c1), (26, .int .i64 ((l1.length : Nat) : Int)), (27, .int .i64 v2), (107, .bool v3)] fr_ ∧ SegSub (so7 :: so8 :: L) L_ ∧ μ = μ_) ?_ ?_
          · refine WP.region Tt_ok (O_cons (O_read rfl (R_move rfl (P_some rfl (O_cons (O_read rfl (R_move rfl (P_some rfl (O_cons (O_read rfl (R_neqD rfl rfl (P_some rfl (O_cons ?_)))))))))))))
            refine O_read rfl (R_move rfl (P_some rfl ?_))
            refine O_gv (z := !(decide (r9 = r12))) rfl rfl (fun hc8 => ?_) (fun hc8 => ?_)
            · replace h2326 := cond_f hc8 h2326
              refine O_read rfl (R_move rfl (P_some rfl (O_gY rfl rfl hc8 (O_read rfl (R_move rfl (P_some rfl (O_gY rfl rfl hc8 (O_call (all := [.slice A3 r8.length c3, .slice A4 r11.length c4]) rfl rfl rfl ?_))))))))
              obtain ⟨r14, hx9, h2326⟩ := obind h2326
              refine recyclingref56_Same_fn (Own.lenOk hO2) (Own.rds (L := (ch3 :: so8 :: ch2 :: so7 :: [(g3, .cells #[.int .i64 x1.Kind, .int .i64 x1.Bill, .int .i64 x1.Amount, .int .i64 x1.At] 29 (0, 0))] :: L)) hO2 2 rfl) (Own.lenOk hO3) (Own.rds (L := (ch3 :: so8 :: ch2 :: so7 :: [(g3, .cells #[.int .i64 x1.Kind, .int .i64 x1.Bill, .int .i64 x1.Amount, .int .i64 x1.At] 29 (0, 0))] :: L)) hO3 0 rfl) hx9 ((P_some rfl (O_gY rfl rfl hc8 (O_read rfl (R_not rfl (P_some rfl (O_cons (O_read rfl (R_pick_F rfl hc8 rfl (P_some rfl (O_nil ?_)))))))))))
              have e_ := Option.some.inj h2326
              subst e_
              exact ⟨!r14, rfl, SubFr.of ⟨rfl, rfl, rfl, rfl, rfl, rfl, trivial⟩, SegSub.sel _ [some 3, some 1] 5, rfl⟩
            replace h2326 := cond_t hc8 h2326
            refine P_some rfl (O_gN rfl rfl hc8 (P_some rfl (O_gN rfl rfl hc8 (P_some rfl (O_gN rfl rfl hc8 (P_some rfl (O_cons (O_read rfl (R_pick_T rfl hc8 rfl (P_some rfl (O_nil ?_)))))))))))
            have e_ := Option.some.inj h2326
            subst e_
            exact ⟨true, rfl, SubFr.of ⟨rfl, rfl, rfl, rfl, rfl, rfl, trivial⟩, SegSub.sel _ [some 3, some 1] 5, rfl⟩
          rintro fr2326 μ2326 L2326 hm2326 ⟨v3, ho2326, hF2326, hS2326, hu2326⟩
          subst ho2326
          subst hu2326
          refine hK2325 _ _ _ (WP.at hF2326 hS2326 ?_)
          refine W_cond_v (b := v3) rfl (fun hc9 => ?_) (fun hc9 => ?_)
          · replace h2266 := cond_t hc9 h2266
            refine WP.seq_k (fun K2327 hK2327 => WP.region Tt_ok (O_cons (O_read rfl (R_assign rfl (P_some rfl (O_nil (hK2327 _ _ _ (WP.ret ?_))))))))
            have e_ := Option.some.inj h2266
            subst e_
            replace hb2251 := osum_r hb2251
            have e_ := Option.some.inj hb2251
            subst e_
            have hq_ := hq2251 _ rfl
            subst hq_
            replace h := osum_r h
            have e_ := Option.some.inj h
            subst e_
            refine S_tmp rfl (S_nil (Upd.selS [] 2 ?_))
            exact Upd.done hR
          replace h2266 := cond_f hc9 h2266
          apply WP.skip
          have e_ := Option.some.inj h2266
          subst e_
          exact ⟨r10, r13, so7, so8, rfl, SubFr.of ⟨rfl, rfl, rfl, rfl, rfl, trivial⟩, SegSub.sel _ [some 0, some 1] 2, (hP8), (hP9), rfl⟩
        replace h2266 := cond_f hc7 h2266
        refine WP.seq_k (fun K2328 hK2328 => WP.region Tt_ok (O_cons (O_read rfl (R_move rfl (P_some rfl (O_cons (O_read rfl (R_fa0 (o' := 3) rfl rfl rfl rfl rfl rfl (P_some rfl (O_cons (O_read rfl (R_load rfl rfl rfl (Ex.mk _ (Cell.seg 0 0 rfl rfl rfl) ?_)))))))))))))
        refine P_some rfl (O_cons (O_read rfl (R_fa0 (o' := 1) rfl rfl rfl rfl rfl rfl (P_some rfl (O_cons (O_read rfl (R_load rfl rfl rfl (Ex.mk _ (Cell.seg 0 0 rfl rfl rfl) (P_some rfl (O_cons (O_call (all := [.pointer (some ⟨g1, 0, none⟩), .int .i64 x1.At, .int .i64 x1.Bill]) rfl rfl rfl (Fn.seg (L2 := (so3 :: [(g3, .cells #[.int .i64 x1.Kind, .int .i64 x1.Bill, .int .i64 x1.Amount, .int .i64 x1.At] 29 (0, 0))] :: so4 :: L)) (SegSub.sel _ [some 1, some 0, some 2] 3) ?_))))))))))))
        obtain ⟨⟨r15, r16, r17⟩, hx10, h2266⟩ := obind h2266
        replace h2266 := oun_mk h2266
        replace h2266 := oun_mk h2266
        refine payment_Register_Late_fn hP4 hx10 (fun A5 c5 ch4 so9 hO4 hP10 => P_some rfl (O_cons (O_read rfl (R_move rfl (P_some rfl (O_cons (O_read rfl (R_ext rfl rfl (P_some rfl (O_cons (O_read rfl (R_ext rfl rfl (P_some rfl ?_)))))))))))))
        refine O_cons (O_read rfl (R_assign rfl (P_some rfl (O_cons (O_read rfl (R_assign rfl (P_some rfl (O_nil (hK2328 _ _ _ (WP.seq_k (fun K2337 hK2337 => WP.region Tt_ok (O_cons (O_read rfl ?_)))))))))))))
        refine R_move rfl (P_some rfl (O_cons (O_read rfl (R_fa0 (o' := 3) rfl rfl rfl rfl rfl rfl (P_some rfl (O_cons (O_read rfl (R_load rfl rfl rfl (Ex.mk _ (Cell.seg 2 0 rfl rfl rfl) (P_some rfl (O_cons (O_read rfl (R_fa0 (o' := 1) rfl rfl rfl rfl rfl rfl ?_)))))))))))))
        refine P_some rfl (O_cons (O_read rfl (R_load rfl rfl rfl (Ex.mk _ (Cell.seg 2 0 rfl rfl rfl) (P_some rfl (O_cons (O_call (all := [pv2, .int .i64 x1.At, .int .i64 x1.Bill]) rfl rfl rfl (Fn.seg (L2 := (so4 :: ch4 :: so9 :: [(g3, .cells #[.int .i64 x1.Kind, .int .i64 x1.Bill, .int .i64 x1.Amount, .int .i64 x1.At] 29 (0, 0))] :: L)) (SegSub.sel _ [some 3, some 0, some 1, some 2] 4) ?_))))))))
        obtain ⟨⟨r18, r19, r20⟩, hx11, h2266⟩ := obind h2266
        replace h2266 := oun_mk h2266
        replace h2266 := oun_mk h2266
        refine recyclingref56_Register_Late_fn hP5 hx11 (fun A6 c6 ch5 so10 hO5 hP11 => P_some rfl (O_cons (O_read rfl (R_move rfl (P_some rfl (O_cons (O_read rfl (R_ext rfl rfl (P_some rfl (O_cons (O_read rfl (R_ext rfl rfl (P_some rfl ?_)))))))))))))
        refine O_cons (O_read rfl (R_assign rfl (P_some rfl (O_cons (O_read rfl (R_assign rfl (P_some rfl (O_nil (hK2337 _ _ _ (WP.seq_k (fun K2346 hK2346 => ?_)))))))))))
        obtain ⟨o2347, h2347, h2266⟩ := obind h2266
        refine WP.cutK (fun fr_ μ_ L_ => ∃ (v4 : Bool), v4 = o2347 ∧ SubFr [(3, .pointer (some ⟨g1, 0, none⟩)), (4, pv2), (25, .slice A1 l1.length c1), (26, .int .i64 ((l1.length : Nat) : Int)), (27, .int .i64 v2), (59, .bool v4)] fr_ ∧ SegSub (so9 :: so10 :: L) L_ ∧ μ = μ_) ?_ ?_
        · refine WP.region Tt_ok (O_cons (O_read rfl (R_move rfl (P_some rfl (O_cons (O_read rfl (R_move rfl (P_some rfl (O_cons (O_read rfl (R_neqD rfl rfl (P_some rfl (O_cons ?_)))))))))))))
          refine O_read rfl (R_move rfl (P_some rfl ?_))
          refine O_gv (z := !(decide (r16 = r19))) rfl rfl (fun hc10 => ?_) (fun hc10 => ?_)
          · replace h2347 := cond_f hc10 h2347
            refine O_read rfl (R_move rfl (P_some rfl (O_gY rfl rfl hc10 (O_read rfl (R_move rfl (P_some rfl (O_gY rfl rfl hc10 (O_call (all := [.slice A5 r15.length c5, .slice A6 r18.length c6]) rfl rfl rfl ?_))))))))
            obtain ⟨r21, hx12, h2347⟩ := obind h2347
            refine recyclingref56_Ints_fn (Own.lenOk hO4) (Own.rds (L := (ch5 :: so10 :: ch4 :: so9 :: [(g3, .cells #[.int .i64 x1.Kind, .int .i64 x1.Bill, .int .i64 x1.Amount, .int .i64 x1.At] 29 (0, 0))] :: L)) hO4 2 rfl) (Own.lenOk hO5) (Own.rds (L := (ch5 :: so10 :: ch4 :: so9 :: [(g3, .cells #[.int .i64 x1.Kind, .int .i64 x1.Bill, .int .i64 x1.Amount, .int .i64 x1.At] 29 (0, 0))] :: L)) hO5 0 rfl) hx12 ((P_some rfl (O_gY rfl rfl hc10 (O_read rfl (R_not rfl (P_some rfl (O_cons (O_read rfl (R_pick_F rfl hc10 rfl (P_some rfl (O_nil ?_)))))))))))
            have e_ := Option.some.inj h2347
            subst e_
            exact ⟨!r21, rfl, SubFr.of ⟨rfl, rfl, rfl, rfl, rfl, rfl, trivial⟩, SegSub.sel _ [some 3, some 1] 5, rfl⟩
          replace h2347 := cond_t hc10 h2347
          refine P_some rfl (O_gN rfl rfl hc10 (P_some rfl (O_gN rfl rfl hc10 (P_some rfl (O_gN rfl rfl hc10 (P_some rfl (O_cons (O_read rfl (R_pick_T rfl hc10 rfl (P_some rfl (O_nil ?_)))))))))))
          have e_ := Option.some.inj h2347
          subst e_
          exact ⟨true, rfl, SubFr.of ⟨rfl, rfl, rfl, rfl, rfl, rfl, trivial⟩, SegSub.sel _ [some 3, some 1] 5, rfl⟩
        rintro fr2347 μ2347 L2347 hm2347 ⟨v4, ho2347, hF2347, hS2347, hu2347⟩
        subst ho2347
        subst hu2347
        refine hK2346 _ _ _ (WP.at hF2347 hS2347 ?_)
        refine W_cond_v (b := v4) rfl (fun hc11 => ?_) (fun hc11 => ?_)
        · replace h2266 := cond_t hc11 h2266
          refine WP.seq_k (fun K2348 hK2348 => WP.region Tt_ok (O_cons (O_read rfl (R_assign rfl (P_some rfl (O_nil (hK2348 _ _ _ (WP.ret ?_))))))))
          have e_ := Option.some.inj h2266
          subst e_
          replace hb2251 := osum_r hb2251
          have e_ := Option.some.inj hb2251
          subst e_
          have hq_ := hq2251 _ rfl
          subst hq_
          replace h := osum_r h
          have e_ := Option.some.inj h
          subst e_
          refine S_tmp rfl (S_nil (Upd.selS [] 2 ?_))
          exact Upd.done hR
        replace h2266 := cond_f hc11 h2266
        apply WP.skip
        have e_ := Option.some.inj h2266
        subst e_
        exact ⟨r17, r20, so9, so10, rfl, SubFr.of ⟨rfl, rfl, rfl, rfl, rfl, trivial⟩, SegSub.sel _ [some 0, some 1] 2, (hP10), (hP11), rfl⟩
      rintro fr2266 μ2266 L2266 hm2266 ⟨q3, q4, so11, so12, ho2266, hF2266, hS2266, hP12, hP13, hu2266⟩
      subst ho2266
      replace hb2251 := osum_l hb2251
      replace hb2251 := oun_mk hb2251
      subst hu2266
      refine hK2264 _ _ _ (WP.at hF2266 hS2266 (WP.seq_k (fun K2351 hK2351 => ?_)))
      obtain ⟨o2352, h2352, hb2251⟩ := obind hb2251
      refine WP.cutK (fun fr_ μ_ L_ => ∃ (q5 : T_payment_Register) (q6 : T_recyclingref56_Register) (v5 : Bool) (so17 : Seg) (so18 : Seg), (q5, q6, v5) = o2352 ∧ SubFr [(3, .pointer (some ⟨g1, 0, none⟩)), (4, pv2), (25, .slice A1 l1.length c1), (26, .int .i64 ((l1.length : Nat) : Int)), (27, .int .i64 v2), (120, .bool v5)] fr_ ∧ SegSub (so17 :: so18 :: L) L_ ∧ Obj_payment_Register μ_ (.pointer (some ⟨g1, 0, none⟩)) q5 so17 ∧ Obj_recyclingref56_Register μ_ pv2 q6 so18 ∧ μ = μ_) ?_ ?_
      · refine WP.region Tt_ok (O_cons (O_read rfl (R_move rfl (P_some rfl (O_cons (O_call (all := [.pointer (some ⟨g1, 0, none⟩)]) rfl rfl rfl ?_))))))
        obtain ⟨⟨r22, r23⟩, hx13, h2352⟩ := obind h2352
        replace h2352 := oun_mk h2352
        refine payment_Register_Open_fn hP12 hx13 (fun A7 c7 ch6 so13 hO6 hP14 => P_some rfl (O_cons (O_read rfl (R_move rfl (P_some rfl (O_cons (O_call (all := [pv2]) rfl rfl rfl (Fn.seg (L2 := (so12 :: ch6 :: so13 :: L)) (SegSub.sel _ [some 2, some 0, some 1] 3) ?_))))))))
        obtain ⟨⟨r24, r25⟩, hx14, h2352⟩ := obind h2352
        replace h2352 := oun_mk h2352
        refine recyclingref56_Register_Open_fn hP13 hx14 (fun A8 c8 ch7 so14 hO7 hP15 => P_some rfl (O_cons (O_call (all := [.slice A7 r22.length c7, .slice A8 r24.length c8]) rfl rfl rfl ?_)))
        obtain ⟨r26, hx15, h2352⟩ := obind h2352
        refine recyclingref56_Same_fn (Own.lenOk hO6) (Own.rds (L := (ch7 :: so14 :: ch6 :: so13 :: L)) hO6 2 rfl) (Own.lenOk hO7) (Own.rds (L := (ch7 :: so14 :: ch6 :: so13 :: L)) hO7 0 rfl) hx15 ((P_some rfl (O_cons (O_read rfl (R_not rfl (P_some rfl (O_cons (O_read rfl (R_move rfl (P_some rfl ?_))))))))))
        refine O_gv (z := !r26) rfl rfl (fun hc12 => ?_) (fun hc12 => ?_)
        · replace h2352 := cond_f hc12 h2352
          refine O_read rfl (R_move rfl (P_some rfl (O_gY rfl rfl hc12 (O_call (all := [.pointer (some ⟨g1, 0, none⟩)]) rfl rfl rfl (Fn.seg (L2 := (so13 :: ch7 :: so14 :: ch6 :: L)) (SegSub.sel _ [some 3, some 0, some 1, some 2] 4) ?_)))))
          obtain ⟨⟨r27, r28⟩, hx16, h2352⟩ := obind h2352
          replace h2352 := oun_mk h2352
          refine payment_Register_Balance_fn hP14 hx16 (fun so15 hP16 => P_some rfl (O_gY rfl rfl hc12 (O_read rfl (R_move rfl (P_some rfl (O_gY rfl rfl hc12 (O_call (all := [pv2]) rfl rfl rfl (Fn.seg (L2 := (so14 :: so15 :: ch7 :: ch6 :: L)) (SegSub.sel _ [some 2, some 0, some 1, some 3] 4) ?_))))))))
          obtain ⟨⟨r29, r30⟩, hx17, h2352⟩ := obind h2352
          replace h2352 := oun_mk h2352
          refine recyclingref56_Register_Balance_fn hP15 hx17 (fun so16 hP17 => P_some rfl (O_gY rfl rfl hc12 (O_read rfl (R_neqD rfl rfl (P_some rfl (O_cons (O_read rfl (R_pick_F rfl hc12 rfl (P_some rfl (O_nil ?_))))))))))
          have e_ := Option.some.inj h2352
          subst e_
          exact ⟨r28, r30, !(decide (r27 = r29)), so15, so16, rfl, SubFr.of ⟨rfl, rfl, rfl, rfl, rfl, rfl, trivial⟩, SegSub.sel _ [some 1, some 0] 4, (hP16), (hP17), rfl⟩
        replace h2352 := cond_t hc12 h2352
        refine P_some rfl (O_gN rfl rfl hc12 (P_some rfl (O_gN rfl rfl hc12 (P_some rfl (O_gN rfl rfl hc12 (P_some rfl (O_gN rfl rfl hc12 (P_some rfl (O_cons (O_read rfl (R_pick_T rfl hc12 rfl (P_some rfl (O_nil ?_)))))))))))))
        have e_ := Option.some.inj h2352
        subst e_
        exact ⟨r23, r25, true, so13, so14, rfl, SubFr.of ⟨rfl, rfl, rfl, rfl, rfl, rfl, trivial⟩, SegSub.sel _ [some 3, some 1] 4, (hP14), (hP15), rfl⟩
      rintro fr2352 μ2352 L2352 hm2352 ⟨q5, q6, v5, so17, so18, ho2352, hF2352, hS2352, hP18, hP19, hu2352⟩
      subst ho2352
      replace hb2251 := oun_mk hb2251
      replace hb2251 := oun_mk hb2251
      subst hu2352
      refine hK2351 _ _ _ (WP.at hF2352 hS2352 ?_)
      refine W_cond_v (b := v5) rfl (fun hc13 => ?_) (fun hc13 => ?_)
      · replace hb2251 := cond_t hc13 hb2251
        refine WP.seq_k (fun K2367 hK2367 => WP.region Tt_ok (O_cons (O_read rfl (R_assign rfl (P_some rfl (O_nil (hK2367 _ _ _ (WP.ret ?_))))))))
        have e_ := Option.some.inj hb2251
        subst e_
        have hq_ := hq2251 _ rfl
        subst hq_
        replace h := osum_r h
        have e_ := Option.some.inj h
        subst e_
        refine S_tmp rfl (S_nil (Upd.selS [] 2 ?_))
        exact Upd.done hR
      replace hb2251 := cond_f hc13 hb2251
      refine WP.skip (hK2258 _ _ _ (WP.region Tt_ok (O_cons (O_read rfl (R_add rfl rfl (P_some rfl (O_cons (O_read rfl (R_move rfl (P_some rfl (O_nil ?_)))))))))))
      have e_ := Option.some.inj hb2251
      subst e_
      exact ⟨_, rfl, so17, so18, SubFr.of ⟨rfl, rfl, rfl, rfl, rfl, trivial⟩, SegSub.sel _ [some 0, some 1] 2, (hP18), (hP19), rfl⟩
    replace hb2251 := cond_f hc3 hb2251
    refine WP.exit (B_here ?_)
    have e_ := Option.some.inj hb2251
    subst e_
    have hq_ := hq2251 _ rfl
    subst hq_
    exact ⟨rfl, SubFr.of trivial, SegSub.sel _ [] 2, rfl⟩
  rintro fr2137 μ2137 L2137 hm2137 ⟨ho2137, hF2137, hS2137, hu2137⟩
  subst ho2137
  replace h := osum_l h
  subst hu2137
  refine hK2134 _ _ _ (WP.at hF2137 hS2137 (WP.seq_k (fun K2368 hK2368 => WP.region Tt_ok (O_cons (O_call (all := []) rfl rfl rfl ?_)))))
  obtain ⟨r31, hx18, h⟩ := obind h
  refine recyclinglaw56_awake_fn  hx18 ((P_some rfl (O_cons (O_read rfl (R_assign rfl (P_some rfl (O_nil (hK2368 _ _ _ (WP.ret ?_)))))))))
  have e_ := Option.some.inj h
  subst e_
  refine S_tmp rfl (S_nil (Upd.selS [] 0 ?_))
  exact Upd.done hR

end Go.Proofs.Yticcfpmehjcjcaa
