/- Printed by gen.py of this repo: the walks that tie the functions to their specifications. -/
import Derived.Test.YticcfpmehjcjcaaTt
import Derived.Test.YticcfpmehjcjcaaTaw1
namespace Go.Proofs.Yticcfpmehjcjcaa
open Go.RowKit
set_option linter.unusedSimpArgs false
set_option linter.unusedVariables false
attribute [local irreducible] WP SemOk SemU Fn AN Upd vcR vcO vcOps vcPlan putK fillK resK inBlk forkOne Cell StAt Kept

theorem recyclinglaw56_PaymentTwo_fn {μ : Gh} {L : List Seg} {R : Value → Gh → List Seg → Prop}  {l1 : (List T_recyclinglaw56_Act)} {a1 : Int} {b1 : Int} {f_at1 : Int} {A1 : Option Addr} {c1 : Nat} {res1 : Bool}
    (hl1 : l1.length ≤ c1 ∧ c1 ≤ maxLen) (hA1 : Rds r_recyclinglaw56_Act μ L A1 l1) (h : recyclinglaw56_PaymentTwo l1 a1 b1 f_at1 = some res1)
    (hR : R (.bool res1) μ (L)) :
    Fn Try.prog 6 [.slice A1 l1.length c1, .int .u32 a1, .int .u32 b1, .int .i64 f_at1] μ (L) R := by
  unfold recyclinglaw56_PaymentTwo at h
  refine Fn.of_body Tt_ok Try.func6 (by kernel_rfl) rfl Try.ntmps6 (by simp) ?_
  simp only [Try.f6, argFr, List.zipIdx, List.map, Nat.reduceAdd]
  refine WP.seq_k (fun K891 hK891 => WP.region Tt_ok (O_cons (O_read rfl (R_assign rfl (P_some rfl (O_nil (hK891 _ _ _ (WP.seq_k (fun K892 hK892 => WP.region Tt_ok (O_cons (O_call (all := []) rfl rfl rfl ?_)))))))))))
  obtain ⟨r1, hx1, h⟩ := obind h
  refine payment_New_fn  hx1 (fun pv1 so1 hP1 => P_some rfl (O_cons (O_call (all := []) rfl rfl rfl ?_)))
  obtain ⟨r2, hx2, h⟩ := obind h
  refine payment_New_fn  hx2 (fun pv2 so2 hP2 => P_some rfl (O_cons (O_read rfl (R_assign rfl (P_some rfl (O_cons (O_read rfl (R_assign rfl (P_some rfl (O_nil (hK892 _ _ _ (WP.seq_k (fun K895 hK895 => WP.seq_k (fun K896 hK896 => ?_))))))))))))))
  obtain ⟨g1, A2, c2, ch1, g2, es1, cn1, hv1, rfl, hO1, hM1⟩ := hP2
  subst hv1
  refine WP.seg (L2 := ([(g1, .cells #[.slice A2 r2.f_open.length c2, .map (some g2), .int .i64 r2.credit, .int .i64 r2.last] 56 (0, 0))] :: ch1 :: [(g2, .map es1 cn1)] :: so1 :: L)) (SegSub.flat (by simp)) ?_
  obtain ⟨g3, A3, c3, ch2, g4, es2, cn2, hv2, rfl, hO2, hM2⟩ := hP1
  subst hv2
  refine WP.seg (L2 := ([(g1, .cells #[.slice A2 r2.f_open.length c2, .map (some g2), .int .i64 r2.credit, .int .i64 r2.last] 56 (0, 0))] :: ch1 :: [(g2, .map es1 cn1)] :: [(g3, .cells #[.slice A3 r1.f_open.length c3, .map (some g4), .int .i64 r1.credit, .int .i64 r1.last] 56 (0, 0))] :: ch2 :: [(g4, .map es2 cn2)] :: L)) (SegSub.flat (by simp)) ?_
  obtain ⟨o906, h906, h⟩ := obind h
  refine WP.cutK (fun fr_ μ_ L_ => ∃ (v1 : Bool), v1 = o906 ∧ SubFr [(0, .slice A1 l1.length c1), (1, .int .u32 a1), (2, .int .u32 b1), (3, .int .i64 f_at1), (9, .pointer (some ⟨g3, 0, none⟩)), (10, .pointer (some ⟨g1, 0, none⟩)), (29, .bool v1)] fr_ ∧ SegSub ([(g3, .cells #[.slice A3 r1.f_open.length c3, .map (some g4), .int .i64 r1.credit, .int .i64 r1.last] 56 (0, 0))] :: ch2 :: [(g4, .map es2 cn2)] :: [(g1, .cells #[.slice A2 r2.f_open.length c2, .map (some g2), .int .i64 r2.credit, .int .i64 r2.last] 56 (0, 0))] :: ch1 :: [(g2, .map es1 cn1)] :: L) L_ ∧ μ = μ_) ?_ ?_
  · refine WP.region Tt_ok (O_cons (O_read rfl (R_move rfl (P_some rfl (O_cons (O_read rfl (R_lenS rfl rfl rfl (P_some rfl (O_cons (O_read rfl (R_gtrD rfl rfl (P_some rfl (O_cons ?_)))))))))))))
    refine O_read rfl (R_move rfl (P_some rfl ?_))
    refine O_gv (z := (decide (100 < ((l1.length : Nat) : Int)))) rfl rfl (fun hc1 => ?_) (fun hc1 => ?_)
    · replace h906 := cond_f hc1 h906
      refine O_read rfl (R_move rfl (P_some rfl (O_gY rfl rfl hc1 (O_read rfl (R_eqP1 rfl rfl rfl rfl (P_some rfl (O_cons (O_read rfl (R_pick_F rfl hc1 rfl (P_some rfl (O_cons (O_read rfl (R_move rfl ?_)))))))))))))
      refine P_some rfl (O_gY rfl rfl rfl (O_read rfl (R_move rfl (P_some rfl (O_gY rfl rfl rfl (O_read rfl (R_eqP1 rfl rfl rfl rfl (P_some rfl (O_cons (O_read rfl (R_pick_F rfl rfl rfl (P_some rfl (O_nil ?_)))))))))))))
      have e_ := Option.some.inj h906
      subst e_
      exact ⟨false, rfl, SubFr.of ⟨rfl, rfl, rfl, rfl, rfl, rfl, rfl, trivial⟩, SegSub.sel _ [some 3, some 4, some 5, some 0, some 1, some 2] 6, rfl⟩
    replace h906 := cond_t hc1 h906
    refine P_some rfl (O_gN rfl rfl hc1 (P_some rfl (O_cons (O_read rfl (R_pick_T rfl hc1 rfl (P_some rfl (O_cons (O_read rfl (R_move rfl (P_some rfl (O_gN rfl rfl rfl (P_some rfl (O_gN rfl rfl rfl ?_)))))))))))))
    refine P_some rfl (O_cons (O_read rfl (R_pick_T rfl rfl rfl (P_some rfl (O_nil ?_)))))
    have e_ := Option.some.inj h906
    subst e_
    exact ⟨true, rfl, SubFr.of ⟨rfl, rfl, rfl, rfl, rfl, rfl, rfl, trivial⟩, SegSub.sel _ [some 3, some 4, some 5, some 0, some 1, some 2] 6, rfl⟩
  rintro fr906 μ906 L906 hm906 ⟨v1, ho906, hF906, hS906, hu906⟩
  subst ho906
  subst hu906
  refine hK896 _ _ _ (WP.at hF906 hS906 ?_)
  refine W_cond_v (b := v1) rfl (fun hc2 => ?_) (fun hc2 => ?_)
  · replace h := cond_t hc2 h
    refine WP.seq_k (fun K911 hK911 => WP.region Tt_ok (O_cons (O_call (all := []) rfl rfl rfl ?_)))
    obtain ⟨r3, hx3, h⟩ := obind h
    refine recyclinglaw56_awake_fn  hx3 ((P_some rfl (O_cons (O_read rfl (R_assign rfl (P_some rfl (O_nil (hK911 _ _ _ (WP.ret ?_)))))))))
    have e_ := Option.some.inj h
    subst e_
    refine S_tmp rfl (S_nil (Upd.selS [] 6 ?_))
    exact Upd.done hR
  replace h := cond_f hc2 h
  refine WP.skip (hK895 _ _ _ (WP.seq_k (fun K912 hK912 => WP.region Tt_ok (O_cons (O_read rfl (R_move rfl (P_some rfl (O_cons (O_read rfl (R_move rfl (P_some rfl (O_cons (O_call (all := [.pointer (some ⟨g3, 0, none⟩), .slice A1 l1.length c1]) rfl rfl rfl ?_)))))))))))))
  have hP3 : Obj_payment_Register μ (.pointer (some ⟨g3, 0, none⟩)) r1 ((g3, Obj.cells #[.slice A3 r1.f_open.length c3, .map (some g4), .int .i64 r1.credit, .int .i64 r1.last] 56 (0, 0)) :: (ch2 ++ ((g4, Obj.map es2 cn2) :: []))) := ⟨g3, A3, c3, ch2, g4, es2, cn2, rfl, rfl, hO2, hM2⟩
  refine Fn.seg (L2 := (((g3, Obj.cells #[.slice A3 r1.f_open.length c3, .map (some g4), .int .i64 r1.credit, .int .i64 r1.last] 56 (0, 0)) :: (ch2 ++ ((g4, Obj.map es2 cn2) :: []))) :: [(g1, .cells #[.slice A2 r2.f_open.length c2, .map (some g2), .int .i64 r2.credit, .int .i64 r2.last] 56 (0, 0))] :: ch1 :: [(g2, .map es1 cn1)] :: L)) (SegSub.trans (SegSub.flat (by simp [selS])) (SegSub.sel _ [some 0, some 1, some 2, some 3, some 4, some 5] 6)) ?_
  obtain ⟨⟨r4, r5, r6⟩, hx4, h⟩ := obind h
  replace h := oun_mk h
  replace h := oun_mk h
  refine recyclinglaw56_run_fn hP3 hl1 (Rds.push (Rds.push (Rds.push hA1))) hx4 (fun so3 hP4 => P_some rfl (O_nil (hK912 _ _ _ (WP.seq_k (fun K917 hK917 => WP.region Tt_ok (O_cons (O_read rfl (R_move rfl (P_some rfl (O_cons (O_read rfl (R_move rfl (P_some rfl ?_)))))))))))))
  refine O_cons (O_call (all := [.pointer (some ⟨g1, 0, none⟩), .slice A1 l1.length c1]) rfl rfl rfl ?_)
  have hP5 : Obj_payment_Register μ (.pointer (some ⟨g1, 0, none⟩)) r2 ((g1, Obj.cells #[.slice A2 r2.f_open.length c2, .map (some g2), .int .i64 r2.credit, .int .i64 r2.last] 56 (0, 0)) :: (ch1 ++ ((g2, Obj.map es1 cn1) :: []))) := ⟨g1, A2, c2, ch1, g2, es1, cn1, rfl, rfl, hO1, hM1⟩
  refine Fn.seg (L2 := (((g1, Obj.cells #[.slice A2 r2.f_open.length c2, .map (some g2), .int .i64 r2.credit, .int .i64 r2.last] 56 (0, 0)) :: (ch1 ++ ((g2, Obj.map es1 cn1) :: []))) :: so3 :: L)) (SegSub.trans (SegSub.flat (by simp [selS])) (SegSub.sel _ [some 1, some 2, some 3, some 0] 4)) ?_
  obtain ⟨⟨r7, r8, r9⟩, hx5, h⟩ := obind h
  replace h := oun_mk h
  replace h := oun_mk h
  refine recyclinglaw56_run_fn hP5 hl1 (Rds.push hA1) hx5 (fun so4 hP6 => P_some rfl (O_nil (hK917 _ _ _ (WP.seq_k (fun K922 hK922 => WP.region Tt_ok (O_cons (O_read rfl (R_move rfl (P_some rfl (O_cons (O_read rfl (R_move rfl (P_some rfl ?_)))))))))))))
  refine O_cons (O_read rfl (R_conv rfl rfl rfl rfl (P_some rfl (O_cons (O_read rfl (R_move rfl (P_some rfl (O_cons (O_call (all := [.pointer (some ⟨g3, 0, none⟩), .int .i64 (w64 (a1)), .int .i64 f_at1]) rfl rfl rfl (Fn.seg (L2 := (so3 :: so4 :: L)) (SegSub.sel _ [some 1, some 0] 2) ?_))))))))))
  obtain ⟨⟨r10, r11, r12⟩, hx6, h⟩ := obind h
  replace h := oun_mk h
  replace h := oun_mk h
  refine payment_Register_Pay_fn hP4 hx6 (fun A4 c4 ch3 so5 hO3 hP7 => P_some rfl (O_cons (O_read rfl (R_move rfl (P_some rfl (O_cons (O_read rfl (R_ext rfl rfl (P_some rfl (O_cons (O_read rfl (R_ext rfl rfl (P_some rfl ?_)))))))))))))
  refine O_cons (O_read rfl (R_assign rfl (P_some rfl (O_cons (O_read rfl (R_assign rfl (P_some rfl (O_nil (hK922 _ _ _ (WP.seq_k (fun K927 hK927 => WP.region Tt_ok (O_cons (O_read rfl ?_)))))))))))))
  refine R_move rfl (P_some rfl (O_cons (O_read rfl (R_move rfl (P_some rfl (O_cons (O_read rfl (R_conv rfl rfl rfl rfl (P_some rfl (O_cons (O_read rfl (R_move rfl (P_some rfl ?_)))))))))))))
  refine O_cons (O_call (all := [.pointer (some ⟨g3, 0, none⟩), .int .i64 (w64 (b1)), .int .i64 f_at1]) rfl rfl rfl (Fn.seg (L2 := (so5 :: ch3 :: so4 :: L)) (SegSub.sel _ [some 1, some 0, some 2] 3) ?_))
  obtain ⟨⟨r13, r14, r15⟩, hx7, h⟩ := obind h
  replace h := oun_mk h
  replace h := oun_mk h
  refine payment_Register_Pay_fn hP7 hx7 (fun A5 c5 ch4 so6 hO4 hP8 => P_some rfl (O_cons (O_read rfl (R_move rfl (P_some rfl (O_cons (O_read rfl (R_ext rfl rfl (P_some rfl (O_cons (O_read rfl (R_ext rfl rfl (P_some rfl ?_)))))))))))))
  refine O_cons (O_read rfl (R_assign rfl (P_some rfl (O_cons (O_read rfl (R_assign rfl (P_some rfl (O_nil (hK927 _ _ _ (WP.seq_k (fun K932 hK932 => WP.region Tt_ok (O_cons (O_read rfl ?_)))))))))))))
  refine R_move rfl (P_some rfl (O_cons (O_read rfl (R_move rfl (P_some rfl (O_cons (O_read rfl (R_conv rfl rfl rfl rfl (P_some rfl (O_cons (O_read rfl (R_move rfl (P_some rfl ?_)))))))))))))
  refine O_cons (O_read rfl (R_conv rfl rfl rfl rfl (P_some rfl (O_cons (O_read rfl (R_add rfl rfl (P_some rfl (O_cons (O_read rfl (R_move rfl (P_some rfl (O_cons (O_call (all := [.pointer (some ⟨g1, 0, none⟩), .int .i64 (w64 ((w64 (a1)) + (w64 (b1)))), .int .i64 f_at1]) rfl rfl rfl ?_)))))))))))))
  refine Fn.seg (L2 := (so4 :: ch4 :: so6 :: ch3 :: L)) (SegSub.sel _ [some 3, some 0, some 1, some 2] 4) ?_
  obtain ⟨⟨r16, r17, r18⟩, hx8, h⟩ := obind h
  replace h := oun_mk h
  replace h := oun_mk h
  refine payment_Register_Pay_fn hP6 hx8 (fun A6 c6 ch5 so7 hO5 hP9 => P_some rfl (O_cons (O_read rfl (R_move rfl (P_some rfl (O_cons (O_read rfl (R_ext rfl rfl (P_some rfl (O_cons (O_read rfl (R_ext rfl rfl (P_some rfl ?_)))))))))))))
  refine O_cons (O_read rfl (R_assign rfl (P_some rfl (O_cons (O_read rfl (R_assign rfl (P_some rfl (O_nil (hK932 _ _ _ (WP.seq_k (fun K937 hK937 => WP.seq_k (fun K938 hK938 => ?_))))))))))))
  obtain ⟨o939, h939, h⟩ := obind h
  refine WP.cutK (fun fr_ μ_ L_ => ∃ (v2 : Bool), v2 = o939 ∧ SubFr [(9, .pointer (some ⟨g3, 0, none⟩)), (10, .pointer (some ⟨g1, 0, none⟩)), (73, .bool v2)] fr_ ∧ SegSub (so6 :: so7 :: L) L_ ∧ μ = μ_) ?_ ?_
  · refine WP.region Tt_ok (O_cons (O_read rfl (R_move rfl (P_some rfl (O_cons (O_read rfl (R_neqD rfl rfl (P_some rfl (O_cons (O_read rfl (R_move rfl (P_some rfl ?_))))))))))))
    refine O_gv (z := !(decide (r11 = 0))) rfl rfl (fun hc3 => ?_) (fun hc3 => ?_)
    · replace h939 := cond_f hc3 h939
      refine O_read rfl (R_move rfl (P_some rfl (O_gY rfl rfl hc3 (O_read rfl (R_neqD rfl rfl (P_some rfl (O_cons (O_read rfl (R_pick_F rfl hc3 rfl (P_some rfl (O_cons (O_read rfl (R_move rfl ?_)))))))))))))
      apply P_some; exact rfl
      refine O_gv (z := !(decide (r14 = 0))) rfl rfl (fun hc4 => ?_) (fun hc4 => ?_)
      · replace h939 := cond_f hc4 h939
        refine O_read rfl (R_move rfl (P_some rfl (O_gY rfl rfl hc4 (O_read rfl (R_neqD rfl rfl (P_some rfl (O_cons (O_read rfl (R_pick_F rfl hc4 rfl (P_some rfl (O_nil ?_)))))))))))
        have e_ := Option.some.inj h939
        subst e_
        exact ⟨!(decide (r17 = 0)), rfl, SubFr.of ⟨rfl, rfl, rfl, trivial⟩, SegSub.sel _ [some 3, some 1] 5, rfl⟩
      replace h939 := cond_t hc4 h939
      refine P_some rfl (O_gN rfl rfl hc4 (P_some rfl (O_cons (O_read rfl (R_pick_T rfl hc4 rfl (P_some rfl (O_nil ?_)))))))
      have e_ := Option.some.inj h939
      subst e_
      exact ⟨true, rfl, SubFr.of ⟨rfl, rfl, rfl, trivial⟩, SegSub.sel _ [some 3, some 1] 5, rfl⟩
    replace h939 := cond_t hc3 h939
    refine P_some rfl (O_gN rfl rfl hc3 (P_some rfl (O_cons (O_read rfl (R_pick_T rfl hc3 rfl (P_some rfl (O_cons (O_read rfl (R_move rfl (P_some rfl (O_gN rfl rfl rfl (P_some rfl (O_gN rfl rfl rfl ?_)))))))))))))
    refine P_some rfl (O_cons (O_read rfl (R_pick_T rfl rfl rfl (P_some rfl (O_nil ?_)))))
    have e_ := Option.some.inj h939
    subst e_
    exact ⟨true, rfl, SubFr.of ⟨rfl, rfl, rfl, trivial⟩, SegSub.sel _ [some 3, some 1] 5, rfl⟩
  rintro fr939 μ939 L939 hm939 ⟨v2, ho939, hF939, hS939, hu939⟩
  subst ho939
  subst hu939
  refine hK938 _ _ _ (WP.at hF939 hS939 ?_)
  refine W_cond_v (b := v2) rfl (fun hc5 => ?_) (fun hc5 => ?_)
  · replace h := cond_t hc5 h
    refine WP.seq_k (fun K940 hK940 => WP.region Tt_ok (O_cons (O_call (all := []) rfl rfl rfl ?_)))
    obtain ⟨r19, hx9, h⟩ := obind h
    refine recyclinglaw56_awake_fn  hx9 ((P_some rfl (O_cons (O_read rfl (R_assign rfl (P_some rfl (O_nil (hK940 _ _ _ (WP.ret ?_)))))))))
    have e_ := Option.some.inj h
    subst e_
    refine S_tmp rfl (S_nil (Upd.selS [] 2 ?_))
    exact Upd.done hR
  replace h := cond_f hc5 h
  refine WP.skip (hK937 _ _ _ (WP.seq_k (fun K941 hK941 => ?_)))
  obtain ⟨o942, h942, h⟩ := obind h
  refine WP.cutK (fun fr_ μ_ L_ => ∃ (v3 : Bool), v3 = o942 ∧ SubFr [(8, .bool v3)] fr_ ∧ SegSub (L) L_ ∧ μ = μ_) ?_ ?_
  · refine WP.region Tt_ok (O_cons (O_read rfl (R_move rfl (P_some rfl (O_cons (O_call (all := [.pointer (some ⟨g3, 0, none⟩)]) rfl rfl rfl ?_))))))
    obtain ⟨⟨r20, r21⟩, hx10, h942⟩ := obind h942
    replace h942 := oun_mk h942
    refine payment_Register_Open_fn hP8 hx10 (fun A7 c7 ch6 so8 hO6 hP10 => P_some rfl (O_cons (O_read rfl (R_move rfl (P_some rfl (O_cons (O_call (all := [.pointer (some ⟨g1, 0, none⟩)]) rfl rfl rfl (Fn.seg (L2 := (so7 :: ch6 :: so8 :: L)) (SegSub.sel _ [some 2, some 0, some 1] 3) ?_))))))))
    obtain ⟨⟨r22, r23⟩, hx11, h942⟩ := obind h942
    replace h942 := oun_mk h942
    refine payment_Register_Open_fn hP9 hx11 (fun A8 c8 ch7 so9 hO7 hP11 => P_some rfl (O_cons (O_call (all := [.slice A7 r20.length c7, .slice A8 r22.length c8]) rfl rfl rfl ?_)))
    obtain ⟨r24, hx12, h942⟩ := obind h942
    refine recyclingref56_Same_fn (Own.lenOk hO6) (Own.rds (L := (ch7 :: so9 :: ch6 :: so8 :: L)) hO6 2 rfl) (Own.lenOk hO7) (Own.rds (L := (ch7 :: so9 :: ch6 :: so8 :: L)) hO7 0 rfl) hx12 ((P_some rfl (O_cons (O_read rfl (R_move rfl (P_some rfl ?_))))))
    refine O_gv (z := r24) rfl rfl (fun hc6 => ?_) (fun hc6 => ?_)
    · replace h942 := cond_t hc6 h942
      refine O_read rfl (R_move rfl (P_some rfl (O_gY rfl rfl hc6 (O_call (all := [.pointer (some ⟨g3, 0, none⟩)]) rfl rfl rfl (Fn.seg (L2 := (so8 :: ch7 :: so9 :: ch6 :: L)) (SegSub.sel _ [some 3, some 0, some 1, some 2] 4) ?_)))))
      obtain ⟨⟨r25, r26⟩, hx13, h942⟩ := obind h942
      replace h942 := oun_mk h942
      refine payment_Register_Balance_fn hP10 hx13 (fun so10 hP12 => P_some rfl (O_gY rfl rfl hc6 (O_read rfl (R_move rfl (P_some rfl (O_gY rfl rfl hc6 (O_call (all := [.pointer (some ⟨g1, 0, none⟩)]) rfl rfl rfl (Fn.seg (L2 := (so9 :: so10 :: ch7 :: ch6 :: L)) (SegSub.sel _ [some 2, some 0, some 1, some 3] 4) ?_))))))))
      obtain ⟨⟨r27, r28⟩, hx14, h942⟩ := obind h942
      replace h942 := oun_mk h942
      refine payment_Register_Balance_fn hP11 hx14 (fun so11 hP13 => P_some rfl (O_gY rfl rfl hc6 (O_read rfl (R_eqlD rfl rfl (P_some rfl (O_cons (O_read rfl (R_pick_T rfl hc6 rfl (P_some rfl (O_cons (O_read rfl (R_move rfl (P_some rfl ?_)))))))))))))
      refine O_gv (z := (decide (r25 = r27))) rfl rfl (fun hc7 => ?_) (fun hc7 => ?_)
      · replace h942 := cond_t hc7 h942
        apply O_call (all := []); exact rfl; exact rfl; exact rfl
        obtain ⟨r29, hx15, h942⟩ := obind h942
        refine recyclinglaw56_awake_fn  hx15 ((P_some rfl (O_cons (O_read rfl (R_pick_T rfl hc7 rfl (P_some rfl (O_cons (O_read rfl (R_assign rfl (P_some rfl (O_nil ?_)))))))))))
        have e_ := Option.some.inj h942
        subst e_
        exact ⟨r29, rfl, SubFr.of ⟨rfl, trivial⟩, SegSub.sel _ [] 4, rfl⟩
      replace h942 := cond_f hc7 h942
      refine P_some rfl (O_cons (O_read rfl (R_pick_F rfl hc7 rfl (P_some rfl (O_cons (O_read rfl (R_assign rfl (P_some rfl (O_nil ?_)))))))))
      have e_ := Option.some.inj h942
      subst e_
      exact ⟨false, rfl, SubFr.of ⟨rfl, trivial⟩, SegSub.sel _ [] 4, rfl⟩
    replace h942 := cond_f hc6 h942
    refine P_some rfl (O_gN rfl rfl hc6 (P_some rfl (O_gN rfl rfl hc6 (P_some rfl (O_gN rfl rfl hc6 (P_some rfl (O_gN rfl rfl hc6 (P_some rfl (O_cons (O_read rfl (R_pick_F rfl hc6 rfl (P_some rfl (O_cons ?_)))))))))))))
    refine O_read rfl (R_move rfl (P_some rfl (O_gN rfl rfl rfl (P_some rfl (O_cons (O_read rfl (R_pick_F rfl rfl rfl (P_some rfl (O_cons (O_read rfl (R_assign rfl (P_some rfl (O_nil ?_)))))))))))))
    have e_ := Option.some.inj h942
    subst e_
    exact ⟨false, rfl, SubFr.of ⟨rfl, trivial⟩, SegSub.sel _ [] 4, rfl⟩
  rintro fr942 μ942 L942 hm942 ⟨v3, ho942, hF942, hS942, hu942⟩
  subst ho942
  subst hu942
  refine hK941 _ _ _ (WP.at hF942 hS942 (WP.ret ?_))
  have e_ := Option.some.inj h
  subst e_
  refine S_tmp rfl (S_nil (Upd.selS [] 0 ?_))
  exact Upd.done hR

end Go.Proofs.Yticcfpmehjcjcaa
