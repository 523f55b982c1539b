/- Printed by gen.py of this repo: the walks that tie the functions to their specifications. -/
import Derived.Test.YtpcajjnanljajaaTt
import Derived.Test.YtpcajjnanljajaaTas
import Derived.Test.YtpcajjnanljajaaGs
import Derived.Test.YtpcajjnanljajaaSh
namespace Go.Proofs.Ytpcajjnanljajaa
open Go.RowKit
set_option linter.unusedSimpArgs false
set_option linter.unusedVariables false
attribute [local irreducible] WP SemOk SemU Fn AN Upd vcR vcO vcOps vcPlan putK fillK resK inBlk forkOne Cell StAt Kept

theorem schedule_day_fn {μ : Gh} {L : List Seg} {R : Value → Gh → List Seg → Prop}  {d1 : Int}  {res1 : Bool}
     (h : schedule_day d1 = some res1)
    (hR : R (.bool res1) μ (L)) :
    Fn Try.prog 21 [.int .i64 d1] μ L R := by
  unfold schedule_day at h
  refine Fn.of_body Tt_ok Try.func21 (by kernel_rfl) rfl Try.ntmps21 (by simp) ?_
  simp only [Try.f21, argFr, List.zipIdx, List.map, Nat.reduceAdd]
  refine WP.seq_k (fun K12 hK12 => WP.region Tt_ok (O_cons (O_read rfl (R_assign rfl (P_some rfl (O_nil (hK12 _ _ _ (WP.seq_k (fun K13 hK13 => ?_)))))))))
  obtain ⟨o14, h14, h⟩ := obind h
  refine WP.cutK (fun fr_ μ_ L_ => ∃ (v1 : Bool), v1 = o14 ∧ SubFr [(2, .bool v1)] fr_ ∧ SegSub (L) L_ ∧ μ = μ_) ?_ ?_
  · refine WP.region Tt_ok (O_cons (O_read rfl (R_move rfl (P_some rfl (O_cons (O_read rfl (R_leqD rfl rfl (P_some rfl (O_cons (O_read rfl (R_move rfl (P_some rfl ?_))))))))))))
    refine O_gv (z := (decide (0 ≤ d1))) rfl rfl (fun hc1 => ?_) (fun hc1 => ?_)
    · replace h14 := cond_t hc1 h14
      refine O_read rfl (R_move rfl (P_some rfl (O_gY rfl rfl hc1 (O_read rfl (R_leqD rfl rfl (P_some rfl (O_cons (O_read rfl (R_pick_T rfl hc1 rfl (P_some rfl (O_cons (O_read rfl (R_assign rfl ?_)))))))))))))
      refine P_some rfl (O_nil ?_)
      have e_ := Option.some.inj h14
      subst e_
      exact ⟨(decide (d1 ≤ 36524)), rfl, SubFr.of ⟨rfl, trivial⟩, SegSub.sel _ [] 0, rfl⟩
    replace h14 := cond_f hc1 h14
    refine P_some rfl (O_gN rfl rfl hc1 (P_some rfl (O_cons (O_read rfl (R_pick_F rfl hc1 rfl (P_some rfl (O_cons (O_read rfl (R_assign rfl (P_some rfl (O_nil ?_)))))))))))
    have e_ := Option.some.inj h14
    subst e_
    exact ⟨false, rfl, SubFr.of ⟨rfl, trivial⟩, SegSub.sel _ [] 0, rfl⟩
  rintro fr14 μ14 L14 hm14 ⟨v1, ho14, hF14, hS14, hu14⟩
  subst ho14
  subst hu14
  refine hK13 _ _ _ (WP.at hF14 hS14 (WP.ret ?_))
  have e_ := Option.some.inj h
  subst e_
  refine S_tmp rfl (S_nil (Upd.selS [] 0 ?_))
  exact Upd.done hR

theorem schedule_pattern_fn {μ : Gh} {L : List Seg} {R : Value → Gh → List Seg → Prop}  {s1 : T_api_Schedule} {d1 : Int} {A1 : Option Addr} {c1 : Nat} {res1 : Bool}
    (hl1 : s1.Moves.length ≤ c1 ∧ c1 ≤ maxLen) (hA1 : ArrR r_api_Move μ A1 s1.Moves) (h : schedule_pattern s1 d1 = some res1)
    (hR : R (.bool res1) μ (L)) :
    Fn Try.prog 22 [.agg #[.int .i64 s1.Container, .int .i64 s1.Start, .int .i64 s1.Every, .slice A1 s1.Moves.length c1], .int .i64 d1] μ L R := by
  unfold schedule_pattern at h
  refine Fn.of_body Tt_ok Try.func22 (by kernel_rfl) rfl Try.ntmps22 (by simp) ?_
  simp only [Try.f22, argFr, List.zipIdx, List.map, Nat.reduceAdd]
  refine WP.seq_k (fun K37 hK37 => WP.region Tt_ok (O_cons (O_box (cs := #[.int .i64 s1.Container, .int .i64 s1.Start, .int .i64 s1.Every, .slice A1 s1.Moves.length c1]) rfl rfl (fun g1 => P_some rfl (O_cons (O_read rfl (R_assign rfl (P_some rfl (O_nil (hK37 _ _ _ (WP.seq_k (fun K39 hK39 => ?_))))))))))))
  obtain ⟨o40, h40, h⟩ := obind h
  refine WP.cutK (fun fr_ μ_ L_ => ∃ (v1 : Bool), v1 = o40 ∧ SubFr [(4, .bool v1)] fr_ ∧ SegSub (L) L_ ∧ μ = μ_) ?_ ?_
  · refine WP.region Tt_ok (O_cons (O_read rfl (R_move rfl (P_some rfl (O_cons (O_call (all := [.int .i64 d1]) rfl rfl rfl ?_))))))
    obtain ⟨r1, hx1, h40⟩ := obind h40
    refine schedule_day_fn  hx1 ((P_some rfl (O_cons (O_read rfl (R_move rfl (P_some rfl ?_))))))
    refine O_gv (z := r1) rfl rfl (fun hc1 => ?_) (fun hc1 => ?_)
    · replace h40 := cond_t hc1 h40
      refine O_read rfl (R_move rfl (P_some rfl (O_gY rfl rfl hc1 (O_read rfl (R_fa0 (o' := 1) rfl rfl rfl rfl rfl rfl (P_some rfl (O_gY rfl rfl hc1 (O_read rfl (R_load rfl rfl rfl (Ex.mk _ (Cell.seg 0 0 rfl rfl rfl) (P_some rfl (O_gY rfl rfl hc1 (O_read rfl ?_)))))))))))))
      refine R_geqD rfl rfl (P_some rfl (O_cons (O_read rfl (R_pick_T rfl hc1 rfl (P_some rfl (O_cons (O_read rfl (R_move rfl (P_some rfl ?_)))))))))
      refine O_gv (z := (decide (s1.Start ≤ d1))) rfl rfl (fun hc2 => ?_) (fun hc2 => ?_)
      · replace h40 := cond_t hc2 h40
        refine O_read rfl (R_move rfl (P_some rfl (O_gY rfl rfl hc2 (O_read rfl (R_fa0 (o' := 1) rfl rfl rfl rfl rfl rfl (P_some rfl (O_gY rfl rfl hc2 (O_read rfl (R_load rfl rfl rfl (Ex.mk _ (Cell.seg 0 0 rfl rfl rfl) (P_some rfl (O_gY rfl rfl hc2 (O_read rfl ?_)))))))))))))
        refine R_sub rfl rfl (P_some rfl (O_gY rfl rfl hc2 (O_read rfl (R_fa0 (o' := 2) rfl rfl rfl rfl rfl rfl (P_some rfl (O_gY rfl rfl hc2 (O_read rfl (R_load rfl rfl rfl (Ex.mk _ (Cell.seg 0 0 rfl rfl rfl) (P_some rfl (O_gY rfl rfl hc2 (O_read rfl (R_rem rfl rfl ?_)))))))))))))
        obtain ⟨u1, hg1, h40⟩ := obind h40
        refine ⟨guardO_some hg1, ?_⟩
        refine P_some rfl (O_gY rfl rfl hc2 (O_read rfl (R_eqlD rfl rfl (P_some rfl (O_cons (O_read rfl (R_pick_T rfl hc2 rfl (P_some rfl (O_cons (O_read rfl (R_assign rfl (P_some rfl (O_nil ?_)))))))))))))
        have e_ := Option.some.inj h40
        subst e_
        exact ⟨(decide ((Int.tmod (w64 (d1 - s1.Start)) s1.Every) = 0)), rfl, SubFr.of ⟨rfl, trivial⟩, SegSub.sel _ [] 1, rfl⟩
      replace h40 := cond_f hc2 h40
      refine P_some rfl (O_gN rfl rfl hc2 (P_some rfl (O_gN rfl rfl hc2 (P_some rfl (O_gN rfl rfl hc2 (P_some rfl (O_gN rfl rfl hc2 (P_some rfl (O_gN rfl rfl hc2 (P_some rfl (O_gN rfl rfl hc2 (P_some rfl (O_gN rfl rfl hc2 ?_)))))))))))))
      refine P_some rfl (O_cons (O_read rfl (R_pick_F rfl hc2 rfl (P_some rfl (O_cons (O_read rfl (R_assign rfl (P_some rfl (O_nil ?_)))))))))
      have e_ := Option.some.inj h40
      subst e_
      exact ⟨false, rfl, SubFr.of ⟨rfl, trivial⟩, SegSub.sel _ [] 1, rfl⟩
    replace h40 := cond_f hc1 h40
    refine P_some rfl (O_gN rfl rfl hc1 (P_some rfl (O_gN rfl rfl hc1 (P_some rfl (O_gN rfl rfl hc1 (P_some rfl (O_cons (O_read rfl (R_pick_F rfl hc1 rfl (P_some rfl (O_cons (O_read rfl (R_move rfl ?_)))))))))))))
    refine P_some rfl (O_gN rfl rfl rfl (P_some rfl (O_gN rfl rfl rfl (P_some rfl (O_gN rfl rfl rfl (P_some rfl (O_gN rfl rfl rfl (P_some rfl (O_gN rfl rfl rfl (P_some rfl (O_gN rfl rfl rfl (P_some rfl (O_gN rfl rfl rfl ?_)))))))))))))
    refine P_some rfl (O_gN rfl rfl rfl (P_some rfl (O_cons (O_read rfl (R_pick_F rfl rfl rfl (P_some rfl (O_cons (O_read rfl (R_assign rfl (P_some rfl (O_nil ?_)))))))))))
    have e_ := Option.some.inj h40
    subst e_
    exact ⟨false, rfl, SubFr.of ⟨rfl, trivial⟩, SegSub.sel _ [] 1, rfl⟩
  rintro fr40 μ40 L40 hm40 ⟨v1, ho40, hF40, hS40, hu40⟩
  subst ho40
  subst hu40
  refine hK39 _ _ _ (WP.at hF40 hS40 (WP.ret ?_))
  have e_ := Option.some.inj h
  subst e_
  refine S_tmp rfl (S_nil (Upd.selS [] 0 ?_))
  exact Upd.done hR

theorem schedule_Check_fn {μ : Gh} {L : List Seg} {R : Value → Gh → List Seg → Prop}  {s1 : T_api_Schedule} {A1 : Option Addr} {c1 : Nat} {res1 : Int}
    (hl1 : s1.Moves.length ≤ c1 ∧ c1 ≤ maxLen) (hA1 : ArrR r_api_Move μ A1 s1.Moves) (h : schedule_Check s1 = some res1)
    (hR : R (.int .i64 res1) μ (L)) :
    Fn Try.prog 10 [.agg #[.int .i64 s1.Container, .int .i64 s1.Start, .int .i64 s1.Every, .slice A1 s1.Moves.length c1]] μ L R := by
  unfold schedule_Check at h
  refine Fn.of_body Tt_ok Try.func10 (by kernel_rfl) rfl Try.ntmps10 (by simp) ?_
  simp only [Try.f10, argFr, List.zipIdx, List.map, Nat.reduceAdd]
  refine WP.seq_k (fun K7 hK7 => WP.region Tt_ok (O_cons (O_box (cs := #[.int .i64 s1.Container, .int .i64 s1.Start, .int .i64 s1.Every, .slice A1 s1.Moves.length c1]) rfl rfl (fun g1 => P_some rfl (O_cons (O_read rfl (R_assign rfl (P_some rfl (O_nil (hK7 _ _ _ (WP.seq_k (fun K9 hK9 => WP.seq_k (fun K10 hK10 => ?_)))))))))))))
  obtain ⟨o11, h11, h⟩ := obind h
  refine WP.cutK (fun fr_ μ_ L_ => ∃ (v1 : Bool), v1 = o11 ∧ SubFr [(1, .pointer (some ⟨g1, 0, none⟩)), (32, .bool v1)] fr_ ∧ SegSub ([(g1, .cells #[.int .i64 s1.Container, .int .i64 s1.Start, .int .i64 s1.Every, .slice A1 s1.Moves.length c1] 24 (0, 0))] :: L) L_ ∧ μ = μ_) ?_ ?_
  · refine WP.region Tt_ok (O_cons (O_read rfl (R_fa0 (o' := 0) rfl rfl rfl rfl rfl rfl (P_some rfl (O_cons (O_read rfl (R_load rfl rfl rfl (Ex.mk _ (Cell.seg 0 0 rfl rfl rfl) (P_some rfl (O_cons (O_read rfl (R_lssD rfl rfl (P_some rfl ?_)))))))))))))
    refine O_cons (O_read rfl (R_move rfl (P_some rfl ?_)))
    refine O_gv (z := (decide (s1.Container < 0))) rfl rfl (fun hc1 => ?_) (fun hc1 => ?_)
    · replace h11 := cond_f hc1 h11
      refine O_read rfl (R_fa0 (o' := 0) rfl rfl rfl rfl rfl rfl (P_some rfl (O_gY rfl rfl hc1 (O_read rfl (R_load rfl rfl rfl (Ex.mk _ (Cell.seg 0 0 rfl rfl rfl) (P_some rfl (O_gY rfl rfl hc1 (O_read rfl (R_geqD rfl rfl (P_some rfl (O_cons (O_read rfl ?_)))))))))))))
      refine R_pick_F rfl hc1 rfl (P_some rfl (O_cons (O_read rfl (R_move rfl (P_some rfl ?_)))))
      refine O_gv (z := (decide (256 ≤ s1.Container))) rfl rfl (fun hc2 => ?_) (fun hc2 => ?_)
      · replace h11 := cond_f hc2 h11
        refine O_read rfl (R_fa0 (o' := 1) rfl rfl rfl rfl rfl rfl (P_some rfl (O_gY rfl rfl hc2 (O_read rfl (R_load rfl rfl rfl (Ex.mk _ (Cell.seg 0 0 rfl rfl rfl) (P_some rfl (O_gY rfl rfl hc2 (O_call (all := [.int .i64 s1.Start]) rfl rfl rfl ?_)))))))))
        obtain ⟨r1, hx1, h11⟩ := obind h11
        refine schedule_day_fn  hx1 ((P_some rfl (O_gY rfl rfl hc2 (O_read rfl (R_not rfl (P_some rfl (O_cons (O_read rfl (R_pick_F rfl hc2 rfl (P_some rfl (O_cons (O_read rfl (R_move rfl (P_some rfl ?_))))))))))))))
        refine O_gv (z := !r1) rfl rfl (fun hc3 => ?_) (fun hc3 => ?_)
        · replace h11 := cond_f hc3 h11
          refine O_read rfl (R_fa0 (o' := 2) rfl rfl rfl rfl rfl rfl (P_some rfl (O_gY rfl rfl hc3 (O_read rfl (R_load rfl rfl rfl (Ex.mk _ (Cell.seg 0 0 rfl rfl rfl) (P_some rfl (O_gY rfl rfl hc3 (O_read rfl (R_lssD rfl rfl (P_some rfl (O_cons (O_read rfl ?_)))))))))))))
          refine R_pick_F rfl hc3 rfl (P_some rfl (O_cons (O_read rfl (R_move rfl (P_some rfl ?_)))))
          refine O_gv (z := (decide (s1.Every < 1))) rfl rfl (fun hc4 => ?_) (fun hc4 => ?_)
          · replace h11 := cond_f hc4 h11
            refine O_read rfl (R_fa0 (o' := 2) rfl rfl rfl rfl rfl rfl (P_some rfl (O_gY rfl rfl hc4 (O_read rfl (R_load rfl rfl rfl (Ex.mk _ (Cell.seg 0 0 rfl rfl rfl) (P_some rfl (O_gY rfl rfl hc4 (O_read rfl (R_gtrD rfl rfl (P_some rfl (O_cons (O_read rfl ?_)))))))))))))
            refine R_pick_F rfl hc4 rfl (P_some rfl (O_nil ?_))
            have e_ := Option.some.inj h11
            subst e_
            exact ⟨(decide (365 < s1.Every)), rfl, SubFr.of ⟨rfl, rfl, trivial⟩, SegSub.sel _ [some 0] 1, rfl⟩
          replace h11 := cond_t hc4 h11
          refine P_some rfl (O_gN rfl rfl hc4 (P_some rfl (O_gN rfl rfl hc4 (P_some rfl (O_cons (O_read rfl (R_pick_T rfl hc4 rfl (P_some rfl (O_nil ?_)))))))))
          have e_ := Option.some.inj h11
          subst e_
          exact ⟨true, rfl, SubFr.of ⟨rfl, rfl, trivial⟩, SegSub.sel _ [some 0] 1, rfl⟩
        replace h11 := cond_t hc3 h11
        refine P_some rfl (O_gN rfl rfl hc3 (P_some rfl (O_gN rfl rfl hc3 (P_some rfl (O_cons (O_read rfl (R_pick_T rfl hc3 rfl (P_some rfl (O_cons (O_read rfl (R_move rfl (P_some rfl (O_gN rfl rfl rfl ?_)))))))))))))
        refine P_some rfl (O_gN rfl rfl rfl (P_some rfl (O_gN rfl rfl rfl (P_some rfl (O_cons (O_read rfl (R_pick_T rfl rfl rfl (P_some rfl (O_nil ?_)))))))))
        have e_ := Option.some.inj h11
        subst e_
        exact ⟨true, rfl, SubFr.of ⟨rfl, rfl, trivial⟩, SegSub.sel _ [some 0] 1, rfl⟩
      replace h11 := cond_t hc2 h11
      refine P_some rfl (O_gN rfl rfl hc2 (P_some rfl (O_gN rfl rfl hc2 (P_some rfl (O_gN rfl rfl hc2 (P_some rfl (O_cons (O_read rfl (R_pick_T rfl hc2 rfl (P_some rfl (O_cons (O_read rfl (R_move rfl ?_)))))))))))))
      refine P_some rfl (O_gN rfl rfl rfl (P_some rfl (O_gN rfl rfl rfl (P_some rfl (O_gN rfl rfl rfl (P_some rfl (O_cons (O_read rfl (R_pick_T rfl rfl rfl (P_some rfl (O_cons (O_read rfl (R_move rfl ?_)))))))))))))
      refine P_some rfl (O_gN rfl rfl rfl (P_some rfl (O_gN rfl rfl rfl (P_some rfl (O_gN rfl rfl rfl (P_some rfl (O_cons (O_read rfl (R_pick_T rfl rfl rfl (P_some rfl (O_nil ?_)))))))))))
      have e_ := Option.some.inj h11
      subst e_
      exact ⟨true, rfl, SubFr.of ⟨rfl, rfl, trivial⟩, SegSub.sel _ [some 0] 1, rfl⟩
    replace h11 := cond_t hc1 h11
    refine P_some rfl (O_gN rfl rfl hc1 (P_some rfl (O_gN rfl rfl hc1 (P_some rfl (O_cons (O_read rfl (R_pick_T rfl hc1 rfl (P_some rfl (O_cons (O_read rfl (R_move rfl (P_some rfl (O_gN rfl rfl rfl ?_)))))))))))))
    refine P_some rfl (O_gN rfl rfl rfl (P_some rfl (O_gN rfl rfl rfl (P_some rfl (O_gN rfl rfl rfl (P_some rfl (O_cons (O_read rfl (R_pick_T rfl rfl rfl (P_some rfl (O_cons (O_read rfl (R_move rfl ?_)))))))))))))
    refine P_some rfl (O_gN rfl rfl rfl (P_some rfl (O_gN rfl rfl rfl (P_some rfl (O_gN rfl rfl rfl (P_some rfl (O_cons (O_read rfl (R_pick_T rfl rfl rfl (P_some rfl (O_cons (O_read rfl (R_move rfl ?_)))))))))))))
    refine P_some rfl (O_gN rfl rfl rfl (P_some rfl (O_gN rfl rfl rfl (P_some rfl (O_gN rfl rfl rfl (P_some rfl (O_cons (O_read rfl (R_pick_T rfl rfl rfl (P_some rfl (O_nil ?_)))))))))))
    have e_ := Option.some.inj h11
    subst e_
    exact ⟨true, rfl, SubFr.of ⟨rfl, rfl, trivial⟩, SegSub.sel _ [some 0] 1, rfl⟩
  rintro fr11 μ11 L11 hm11 ⟨v1, ho11, hF11, hS11, hu11⟩
  subst ho11
  subst hu11
  refine hK10 _ _ _ (WP.at hF11 hS11 ?_)
  refine W_cond_v (b := v1) rfl (fun hc5 => ?_) (fun hc5 => ?_)
  · replace h := cond_t hc5 h
    refine WP.seq_k (fun K17 hK17 => WP.region Tt_ok (O_cons (O_read rfl (R_assign rfl (P_some rfl (O_nil (hK17 _ _ _ (WP.ret ?_))))))))
    have e_ := Option.some.inj h
    subst e_
    refine S_tmp rfl (S_nil (Upd.selS [] 1 ?_))
    exact Upd.done hR
  replace h := cond_f hc5 h
  refine WP.skip (hK9 _ _ _ (WP.seq_k (fun K18 hK18 => WP.seq_k (fun K19 hK19 => WP.region Tt_ok (O_cons (O_read rfl (R_fa0 (o' := 3) rfl rfl rfl rfl rfl rfl (P_some rfl (O_cons (O_read rfl (R_load rfl rfl rfl (Ex.mk _ (Cell.seg 0 0 rfl rfl rfl) (P_some rfl ?_)))))))))))))
  refine O_cons (O_read rfl (R_lenS rfl rfl rfl (P_some rfl (O_cons (O_read rfl (R_gtrD rfl rfl (P_some rfl (O_nil (hK19 _ _ _ ?_)))))))))
  refine W_cond_v (b := (decide (32 < ((s1.Moves.length : Nat) : Int)))) rfl (fun hc6 => ?_) (fun hc6 => ?_)
  · replace h := cond_t hc6 h
    refine WP.seq_k (fun K20 hK20 => WP.region Tt_ok (O_cons (O_read rfl (R_assign rfl (P_some rfl (O_nil (hK20 _ _ _ (WP.ret ?_))))))))
    have e_ := Option.some.inj h
    subst e_
    refine S_tmp rfl (S_nil (Upd.selS [] 1 ?_))
    exact Upd.done hR
  replace h := cond_f hc6 h
  refine WP.skip (hK18 _ _ _ (WP.seq_k (fun K21 hK21 => WP.seq_k (fun K22 hK22 => WP.region Tt_ok (O_cons (O_read rfl (R_fa0 (o' := 3) rfl rfl rfl rfl rfl rfl (P_some rfl (O_cons (O_read rfl (R_load rfl rfl rfl (Ex.mk _ (Cell.seg 0 0 rfl rfl rfl) (P_some rfl ?_)))))))))))))
  refine O_cons (O_read rfl (R_lenS rfl rfl rfl (P_some rfl (O_cons (O_read rfl (R_move rfl (P_some rfl (O_nil (hK22 _ _ _ ?_)))))))))
  obtain ⟨o23, h23, h⟩ := obind h
  refine WP.cutK (fun fr_ μ_ L_ => (.inl ()) = o23 ∧ SubFr [(1, .pointer (some ⟨g1, 0, none⟩))] fr_ ∧ SegSub ([(g1, .cells #[.int .i64 s1.Container, .int .i64 s1.Start, .int .i64 s1.Every, .slice A1 s1.Moves.length c1] 24 (0, 0))] :: L) L_ ∧ μ = μ_) ?_ ?_
  · refine WP.block (WP.iter h23 (fun (v2 : Int) fr_ μ_ L_ => SubFr [(1, .pointer (some ⟨g1, 0, none⟩)), (38, .slice A1 s1.Moves.length c1), (39, .int .i64 ((s1.Moves.length : Nat) : Int)), (40, .int .i64 v2)] fr_ ∧ SegSub ([(g1, .cells #[.int .i64 s1.Container, .int .i64 s1.Start, .int .i64 s1.Every, .slice A1 s1.Moves.length c1] 24 (0, 0))] :: L) L_ ∧ μ = μ_) ⟨SubFr.of ⟨rfl, rfl, rfl, rfl, trivial⟩, SegSub.sel _ [some 0] 1, rfl⟩ ?_)
    rintro v2 q47 fr47 μ47 L47 hm47 ⟨hF47, hS47, hu47⟩ hb47 hq47
    unfold schedule_Check_l1 at hb47
    subst hu47
    refine WP.at hF47 hS47 (WP.seq_k (fun K51 hK51 => WP.region Tt_ok (O_cons (O_read rfl (R_lssD rfl rfl (P_some rfl (O_nil (hK51 _ _ _ (WP.seq_k (fun K52 hK52 => ?_))))))))))
    refine W_cond_v (b := (decide (v2 < ((s1.Moves.length : Nat) : Int)))) rfl (fun hc7 => ?_) (fun hc7 => ?_)
    · replace hb47 := cond_t hc7 hb47
      refine WP.skip (hK52 _ _ _ (WP.seq_k (fun K53 hK53 => WP.block (WP.seq_k (fun K54 hK54 => WP.region Tt_ok (O_cons ?_))))))
      obtain ⟨x1, hx2, hb47⟩ := obind hb47
      obtain ⟨a1, cs1, hA2, hr1, _, hc8⟩ := Rds.getI (ArrR.rds hA1 ([(g1, .cells #[.int .i64 s1.Container, .int .i64 s1.Start, .int .i64 s1.Every, .slice A1 s1.Moves.length c1] 24 (0, 0))] :: L)) hx2
      obtain rfl := hr1
      refine O_read rfl (R_iaG rfl rfl rfl rfl rfl rfl ⟨(getI_lt hx2).1, (getI_lt hx2).2.1⟩ hA2 (P_some rfl (O_cons (O_read rfl (R_loadA rfl rfl rfl rfl (Ex.mk [.int .i64 x1.From, .int .i64 x1.To] ⟨rfl, hc8⟩ (P_some rfl (O_cons (O_alloc (cs := #[.int .i64 0, .int .i64 0]) rfl rfl (fun g2 => P_some rfl (O_cons (O_store (vs := [.int .i64 x1.From, .int .i64 x1.To]) rfl rfl rfl rfl rfl rfl (ST_ (L' := ([(g2, .cells #[.int .i64 x1.From, .int .i64 x1.To] 39 (0, 0))] :: [(g1, .cells #[.int .i64 s1.Container, .int .i64 s1.Start, .int .i64 s1.Every, .slice A1 s1.Moves.length c1] 24 (0, 0))] :: L)) 0 0 rfl rfl rfl rfl ?_)))))))))))))
      refine P_none (O_nil (hK54 _ _ _ (WP.seq_k (fun K57 hK57 => WP.seq_k (fun K58 hK58 => WP.region Tt_ok (O_cons (O_read rfl (R_loadA rfl rfl rfl rfl (LA_ (vs := [.int .i64 s1.Container, .int .i64 s1.Start, .int .i64 s1.Every, .slice A1 s1.Moves.length c1]) 1 0 rfl rfl rfl rfl (P_some rfl (O_cons (O_read rfl (R_fa0 (o' := 0) rfl rfl rfl rfl rfl rfl ?_)))))))))))))
      refine P_some rfl (O_cons (O_read rfl (R_load rfl rfl rfl (Ex.mk _ (Cell.seg 0 0 rfl rfl rfl) (P_some rfl (O_cons (O_call (all := [.agg #[.int .i64 s1.Container, .int .i64 s1.Start, .int .i64 s1.Every, .slice A1 s1.Moves.length c1], .int .i64 x1.From]) rfl rfl rfl ?_)))))))
      obtain ⟨r2, hx3, hb47⟩ := obind hb47
      refine schedule_pattern_fn hl1 hA1 hx3 ((P_some rfl (O_cons (O_read rfl (R_not rfl (P_some rfl (O_nil (hK58 _ _ _ ?_))))))))
      refine W_cond_v (b := !r2) rfl (fun hc9 => ?_) (fun hc9 => ?_)
      · replace hb47 := cond_t hc9 hb47
        refine WP.seq_k (fun K59 hK59 => WP.region Tt_ok (O_cons (O_read rfl (R_assign rfl (P_some rfl (O_nil (hK59 _ _ _ (WP.ret ?_))))))))
        have e_ := Option.some.inj hb47
        subst e_
        have hq_ := hq47 _ rfl
        subst hq_
        replace h := osum_r h
        have e_ := Option.some.inj h
        subst e_
        refine S_tmp rfl (S_nil (Upd.selS [] 2 ?_))
        exact Upd.done hR
      replace hb47 := cond_f hc9 hb47
      refine WP.skip (hK57 _ _ _ (WP.seq_k (fun K60 hK60 => WP.seq_k (fun K61 hK61 => WP.region Tt_ok (O_cons (O_read rfl (R_fa0 (o' := 1) rfl rfl rfl rfl rfl rfl (P_some rfl (O_cons (O_read rfl (R_load rfl rfl rfl (Ex.mk _ (Cell.seg 0 0 rfl rfl rfl) (P_some rfl ?_)))))))))))))
      refine O_cons (O_call (all := [.int .i64 x1.To]) rfl rfl rfl ?_)
      obtain ⟨r3, hx4, hb47⟩ := obind hb47
      refine schedule_day_fn  hx4 ((P_some rfl (O_cons (O_read rfl (R_not rfl (P_some rfl (O_nil (hK61 _ _ _ ?_))))))))
      refine W_cond_v (b := !r3) rfl (fun hc10 => ?_) (fun hc10 => ?_)
      · replace hb47 := cond_t hc10 hb47
        refine WP.seq_k (fun K62 hK62 => WP.region Tt_ok (O_cons (O_read rfl (R_assign rfl (P_some rfl (O_nil (hK62 _ _ _ (WP.ret ?_))))))))
        have e_ := Option.some.inj hb47
        subst e_
        have hq_ := hq47 _ rfl
        subst hq_
        replace h := osum_r h
        have e_ := Option.some.inj h
        subst e_
        refine S_tmp rfl (S_nil (Upd.selS [] 2 ?_))
        exact Upd.done hR
      replace hb47 := cond_f hc10 hb47
      refine WP.skip (hK60 _ _ _ (WP.seq_k (fun K63 hK63 => WP.region Tt_ok (O_cons (O_read rfl (R_loadA rfl rfl rfl rfl (LA_ (vs := [.int .i64 s1.Container, .int .i64 s1.Start, .int .i64 s1.Every, .slice A1 s1.Moves.length c1]) 1 0 rfl rfl rfl rfl (P_some rfl (O_cons (O_read rfl (R_fa0 (o' := 1) rfl rfl rfl rfl rfl rfl (P_some rfl (O_cons ?_)))))))))))))
      refine O_read rfl (R_load rfl rfl rfl (Ex.mk _ (Cell.seg 0 0 rfl rfl rfl) (P_some rfl (O_cons (O_call (all := [.agg #[.int .i64 s1.Container, .int .i64 s1.Start, .int .i64 s1.Every, .slice A1 s1.Moves.length c1], .int .i64 x1.To]) rfl rfl rfl ?_)))))
      obtain ⟨r4, hx5, hb47⟩ := obind hb47
      refine schedule_pattern_fn hl1 hA1 hx5 ((P_some rfl (O_nil (hK63 _ _ _ ?_))))
      refine W_cond_v (b := r4) rfl (fun hc11 => ?_) (fun hc11 => ?_)
      · replace hb47 := cond_t hc11 hb47
        refine WP.seq_k (fun K64 hK64 => WP.region Tt_ok (O_cons (O_read rfl (R_assign rfl (P_some rfl (O_nil (hK64 _ _ _ (WP.ret ?_))))))))
        have e_ := Option.some.inj hb47
        subst e_
        have hq_ := hq47 _ rfl
        subst hq_
        replace h := osum_r h
        have e_ := Option.some.inj h
        subst e_
        refine S_tmp rfl (S_nil (Upd.selS [] 2 ?_))
        exact Upd.done hR
      replace hb47 := cond_f hc11 hb47
      refine WP.skip (hK53 _ _ _ (WP.region Tt_ok (O_cons (O_read rfl (R_add rfl rfl (P_some rfl (O_cons (O_read rfl (R_move rfl (P_some rfl (O_nil ?_)))))))))))
      have e_ := Option.some.inj hb47
      subst e_
      exact ⟨_, rfl, SubFr.of ⟨rfl, rfl, rfl, rfl, trivial⟩, SegSub.sel _ [some 1] 2, rfl⟩
    replace hb47 := cond_f hc7 hb47
    refine WP.exit (B_here ?_)
    have e_ := Option.some.inj hb47
    subst e_
    have hq_ := hq47 _ rfl
    subst hq_
    exact ⟨rfl, SubFr.of ⟨rfl, trivial⟩, SegSub.sel _ [some 0] 1, rfl⟩
  rintro fr23 μ23 L23 hm23 ⟨ho23, hF23, hS23, hu23⟩
  subst ho23
  replace h := osum_l h
  subst hu23
  refine hK21 _ _ _ (WP.at hF23 hS23 (WP.seq_k (fun K67 hK67 => WP.region Tt_ok (O_cons (O_mkmap (fun g3 => P_some rfl (O_cons (O_mkmap (fun g4 => P_some rfl (O_cons (O_read rfl (R_assign rfl (P_some rfl ?_)))))))))))))
  refine O_cons (O_read rfl (R_assign rfl (P_some rfl (O_nil (hK67 _ _ _ (WP.seq_k (fun K70 hK70 => WP.seq_k (fun K71 hK71 => WP.region Tt_ok (O_cons (O_read rfl (R_fa0 (o' := 3) rfl rfl rfl rfl rfl rfl (P_some rfl (O_cons ?_)))))))))))))
  refine O_read rfl (R_load rfl rfl rfl (Ex.mk _ (Cell.seg 2 0 rfl rfl rfl) (P_some rfl (O_cons (O_read rfl (R_lenS rfl rfl rfl (P_some rfl (O_cons (O_read rfl (R_move rfl (P_some rfl (O_nil (hK71 _ _ _ ?_)))))))))))))
  obtain ⟨o72, h72, h⟩ := obind h
  refine WP.cutK (fun fr_ μ_ L_ => (.inl ()) = o72 ∧ SubFr [] fr_ ∧ SegSub (L) L_ ∧ μ = μ_) ?_ ?_
  · refine WP.block (WP.iter h72 (fun (j_ : (List (Int × Bool)) × (List (Int × Bool)) × Int) fr_ μ_ L_ => ounP j_ fun m1 j_ => ounP j_ fun m2 v3 => ∃ (es1 : Array MapEntry) (cn1 : Nat) (es2 : Array MapEntry) (cn2 : Nat), SubFr [(5, .map (some g3)), (6, .map (some g4)), (61, .slice A1 s1.Moves.length c1), (62, .int .i64 ((s1.Moves.length : Nat) : Int)), (63, .int .i64 v3)] fr_ ∧ SegSub ([(g3, .map es1 cn1)] :: [(g4, .map es2 cn2)] :: L) L_ ∧ MapB Value.bool es1 cn1 m1 ∧ MapB Value.bool es2 cn2 m2 ∧ μ = μ_) ⟨#[], 0, #[], 0, SubFr.of ⟨rfl, rfl, rfl, rfl, rfl, trivial⟩, SegSub.sel _ [some 1, some 0] 3, ((MapB.nil (enc := Value.bool))), ((MapB.nil (enc := Value.bool))), rfl⟩ ?_)
    rintro ⟨m1, m2, v3⟩ q91 fr91 μ91 L91 hm91 ⟨es1, cn1, es2, cn2, hF91, hS91, hM1, hM2, hu91⟩ hb91 hq91
    unfold schedule_Check_l2 at hb91
    replace hb91 := oun_mk hb91
    replace hb91 := oun_mk hb91
    subst hu91
    refine WP.at hF91 hS91 (WP.seq_k (fun K97 hK97 => WP.region Tt_ok (O_cons (O_read rfl (R_lssD rfl rfl (P_some rfl (O_nil (hK97 _ _ _ (WP.seq_k (fun K98 hK98 => ?_))))))))))
    refine W_cond_v (b := (decide (v3 < ((s1.Moves.length : Nat) : Int)))) rfl (fun hc12 => ?_) (fun hc12 => ?_)
    · replace hb91 := cond_t hc12 hb91
      refine WP.skip (hK98 _ _ _ (WP.seq_k (fun K99 hK99 => WP.block (WP.seq_k (fun K100 hK100 => WP.region Tt_ok (O_cons ?_))))))
      obtain ⟨x2, hx6, hb91⟩ := obind hb91
      obtain ⟨a2, cs2, hA3, hr2, _, hc13⟩ := Rds.getI (ArrR.rds hA1 ([(g3, .map es1 cn1)] :: [(g4, .map es2 cn2)] :: L)) hx6
      obtain rfl := hr2
      refine O_read rfl (R_iaG rfl rfl rfl rfl rfl rfl ⟨(getI_lt hx6).1, (getI_lt hx6).2.1⟩ hA3 (P_some rfl (O_cons (O_read rfl (R_loadA rfl rfl rfl rfl (Ex.mk [.int .i64 x2.From, .int .i64 x2.To] ⟨rfl, hc13⟩ (P_some rfl (O_cons (O_alloc (cs := #[.int .i64 0, .int .i64 0]) rfl rfl (fun g5 => P_some rfl (O_cons (O_store (vs := [.int .i64 x2.From, .int .i64 x2.To]) rfl rfl rfl rfl rfl rfl (ST_ (L' := ([(g5, .cells #[.int .i64 x2.From, .int .i64 x2.To] 39 (0, 0))] :: [(g3, .map es1 cn1)] :: [(g4, .map es2 cn2)] :: L)) 0 0 rfl rfl rfl rfl ?_)))))))))))))
      refine P_none (O_nil (hK100 _ _ _ (WP.seq_k (fun K103 hK103 => WP.seq_k (fun K104 hK104 => ?_)))))
      obtain ⟨o105, h105, hb91⟩ := obind hb91
      refine WP.cutK (fun fr_ μ_ L_ => ∃ (v4 : Bool), v4 = o105 ∧ SubFr [(5, .map (some g3)), (6, .map (some g4)), (8, .pointer (some ⟨g5, 0, none⟩)), (61, .slice A1 s1.Moves.length c1), (62, .int .i64 ((s1.Moves.length : Nat) : Int)), (63, .int .i64 v3), (76, .bool v4)] fr_ ∧ SegSub ([(g3, .map es1 cn1)] :: [(g4, .map es2 cn2)] :: [(g5, .cells #[.int .i64 x2.From, .int .i64 x2.To] 39 (0, 0))] :: L) L_ ∧ μ = μ_) ?_ ?_
      · refine WP.region Tt_ok (O_cons (O_read rfl (R_move rfl (P_some rfl (O_cons (O_read rfl (R_fa0 (o' := 0) rfl rfl rfl rfl rfl rfl (P_some rfl (O_cons (O_read rfl (R_load rfl rfl rfl (Ex.mk _ (Cell.seg 0 0 rfl rfl rfl) (P_some rfl ?_)))))))))))))
        refine O_cons (O_read rfl (R_look rfl rfl rfl rfl rfl rfl rfl rfl (Ex.mk _ (hM1.look (ObjAt.seg 1 0 rfl rfl) (zb := false) rfl x2.From) (P_some rfl (O_cons (O_read rfl (R_move rfl (P_some rfl ?_))))))))
        refine O_gv (z := (mget x2.From m1).getD false) rfl rfl (fun hc14 => ?_) (fun hc14 => ?_)
        · replace h105 := cond_f hc14 h105
          refine O_read rfl (R_move rfl (P_some rfl (O_gY rfl rfl hc14 (O_read rfl (R_fa0 (o' := 1) rfl rfl rfl rfl rfl rfl (P_some rfl (O_gY rfl rfl hc14 (O_read rfl (R_load rfl rfl rfl (Ex.mk _ (Cell.seg 0 0 rfl rfl rfl) (P_some rfl (O_gY rfl rfl hc14 (O_read rfl ?_)))))))))))))
          refine R_look rfl rfl rfl rfl rfl rfl rfl rfl (Ex.mk _ (hM2.look (ObjAt.seg 2 0 rfl rfl) (zb := false) rfl x2.To) (P_some rfl (O_cons (O_read rfl (R_pick_F rfl hc14 rfl (P_some rfl (O_nil ?_)))))))
          have e_ := Option.some.inj h105
          subst e_
          exact ⟨(mget x2.To m2).getD false, rfl, SubFr.of ⟨rfl, rfl, rfl, rfl, rfl, rfl, rfl, trivial⟩, SegSub.sel _ [some 1, some 2, some 0] 3, rfl⟩
        replace h105 := cond_t hc14 h105
        refine P_some rfl (O_gN rfl rfl hc14 (P_some rfl (O_gN rfl rfl hc14 (P_some rfl (O_gN rfl rfl hc14 (P_some rfl (O_cons (O_read rfl (R_pick_T rfl hc14 rfl (P_some rfl (O_nil ?_)))))))))))
        have e_ := Option.some.inj h105
        subst e_
        exact ⟨true, rfl, SubFr.of ⟨rfl, rfl, rfl, rfl, rfl, rfl, rfl, trivial⟩, SegSub.sel _ [some 1, some 2, some 0] 3, rfl⟩
      rintro fr105 μ105 L105 hm105 ⟨v4, ho105, hF105, hS105, hu105⟩
      subst ho105
      subst hu105
      refine hK104 _ _ _ (WP.at hF105 hS105 ?_)
      refine W_cond_v (b := v4) rfl (fun hc15 => ?_) (fun hc15 => ?_)
      · replace hb91 := cond_t hc15 hb91
        refine WP.seq_k (fun K108 hK108 => WP.region Tt_ok (O_cons (O_read rfl (R_assign rfl (P_some rfl (O_nil (hK108 _ _ _ (WP.ret ?_))))))))
        have e_ := Option.some.inj hb91
        subst e_
        have hq_ := hq91 _ rfl
        subst hq_
        replace h := osum_r h
        have e_ := Option.some.inj h
        subst e_
        refine S_tmp rfl (S_nil (Upd.selS [] 3 ?_))
        exact Upd.done hR
      replace hb91 := cond_f hc15 hb91
      refine WP.skip (hK103 _ _ _ (WP.drawn (id := 21) (l' := List.replicate 8 true) wide Tt_ok [[(g5, .cells #[.int .i64 x2.From, .int .i64 x2.To] 39 (0, 0))]] (Kept.of (by simp)) [(true, 0), (true, 1), (true, 2), (true, 3), (true, 4), (true, 5), (false, 6), (false, 7)] (by kernel_rfl) (by kernel_rfl) rfl (PL_t rfl (R_move rfl (P_some rfl (PL_t rfl (R_fa0 (o' := 0) rfl rfl rfl rfl rfl rfl (P_some rfl (PL_t rfl (R_load rfl rfl rfl (Ex.mk _ (Cell.seg 0 0 rfl rfl rfl) (P_some rfl (PL_t rfl ?_)))))))))))))
      refine R_move rfl (P_some rfl (PL_t rfl (R_fa0 (o' := 1) rfl rfl rfl rfl rfl rfl (P_some rfl (PL_t rfl (R_load rfl rfl rfl (Ex.mk _ (Cell.seg 0 0 rfl rfl rfl) (P_some rfl (PL_f rfl (O_mapUpdate rfl rfl rfl (semu_mapB Tt_ok rfl rfl rfl rfl 0 (b := true) rfl hM1 rfl fun es3 cn3 hM3 => ?_)))))))))))
      refine ⟨Kept.of (by simp), ?_⟩
      refine P_none (PL_f rfl (O_mapUpdate rfl rfl rfl (semu_mapB Tt_ok rfl rfl rfl rfl 1 (b := true) rfl hM2 rfl fun es4 cn4 hM4 => ?_)))
      refine ⟨Kept.of (by simp), ?_⟩
      refine P_none (PL_nil (AN.done0 (by kernel_rfl) (hK99 _ _ _ (WP.region Tt_ok (O_cons (O_read rfl (R_add rfl rfl (P_some rfl (O_cons (O_read rfl (R_move rfl (P_some rfl (O_nil ?_)))))))))))))
      have e_ := Option.some.inj hb91
      subst e_
      exact ⟨_, rfl, es3, cn3, es4, cn4, SubFr.of ⟨rfl, rfl, rfl, rfl, rfl, trivial⟩, SegSub.sel _ [some 0, some 1] 3, (hM3), (hM4), rfl⟩
    replace hb91 := cond_f hc12 hb91
    refine WP.exit (B_here ?_)
    have e_ := Option.some.inj hb91
    subst e_
    have hq_ := hq91 _ rfl
    subst hq_
    exact ⟨rfl, SubFr.of trivial, SegSub.sel _ [] 2, rfl⟩
  rintro fr72 μ72 L72 hm72 ⟨ho72, hF72, hS72, hu72⟩
  subst ho72
  replace h := osum_l h
  subst hu72
  refine hK70 _ _ _ (WP.at hF72 hS72 (WP.seq_k (fun K113 hK113 => WP.region Tt_ok (O_cons (O_read rfl (R_assign rfl (P_some rfl (O_nil (hK113 _ _ _ (WP.ret ?_))))))))))
  have e_ := Option.some.inj h
  subst e_
  refine S_tmp rfl (S_nil (Upd.selS [] 0 ?_))
  exact Upd.done hR

theorem recyclingref17_valid_fn {μ : Gh} {L : List Seg} {R : Value → Gh → List Seg → Prop}  {day1 : Int}  {res1 : Bool}
     (h : recyclingref17_valid day1 = some res1)
    (hR : R (.bool res1) μ (L)) :
    Fn Try.prog 23 [.int .i64 day1] μ L R := by
  unfold recyclingref17_valid at h
  refine Fn.of_body Tt_ok Try.func23 (by kernel_rfl) rfl Try.ntmps23 (by simp) ?_
  simp only [Try.f23, argFr, List.zipIdx, List.map, Nat.reduceAdd]
  refine WP.seq_k (fun K120 hK120 => WP.region Tt_ok (O_cons (O_read rfl (R_assign rfl (P_some rfl (O_nil (hK120 _ _ _ (WP.seq_k (fun K121 hK121 => ?_)))))))))
  obtain ⟨o122, h122, h⟩ := obind h
  refine WP.cutK (fun fr_ μ_ L_ => ∃ (v1 : Bool), v1 = o122 ∧ SubFr [(2, .bool v1)] fr_ ∧ SegSub (L) L_ ∧ μ = μ_) ?_ ?_
  · refine WP.region Tt_ok (O_cons (O_read rfl (R_move rfl (P_some rfl (O_cons (O_read rfl (R_geqD rfl rfl (P_some rfl (O_cons (O_read rfl (R_move rfl (P_some rfl ?_))))))))))))
    refine O_gv (z := (decide (0 ≤ day1))) rfl rfl (fun hc1 => ?_) (fun hc1 => ?_)
    · replace h122 := cond_t hc1 h122
      refine O_read rfl (R_move rfl (P_some rfl (O_gY rfl rfl hc1 (O_read rfl (R_leqD rfl rfl (P_some rfl (O_cons (O_read rfl (R_pick_T rfl hc1 rfl (P_some rfl (O_cons (O_read rfl (R_assign rfl ?_)))))))))))))
      refine P_some rfl (O_nil ?_)
      have e_ := Option.some.inj h122
      subst e_
      exact ⟨(decide (day1 ≤ 36524)), rfl, SubFr.of ⟨rfl, trivial⟩, SegSub.sel _ [] 0, rfl⟩
    replace h122 := cond_f hc1 h122
    refine P_some rfl (O_gN rfl rfl hc1 (P_some rfl (O_cons (O_read rfl (R_pick_F rfl hc1 rfl (P_some rfl (O_cons (O_read rfl (R_assign rfl (P_some rfl (O_nil ?_)))))))))))
    have e_ := Option.some.inj h122
    subst e_
    exact ⟨false, rfl, SubFr.of ⟨rfl, trivial⟩, SegSub.sel _ [] 0, rfl⟩
  rintro fr122 μ122 L122 hm122 ⟨v1, ho122, hF122, hS122, hu122⟩
  subst ho122
  subst hu122
  refine hK121 _ _ _ (WP.at hF122 hS122 (WP.ret ?_))
  have e_ := Option.some.inj h
  subst e_
  refine S_tmp rfl (S_nil (Upd.selS [] 0 ?_))
  exact Upd.done hR

theorem recyclingref17_Pattern_fn {μ : Gh} {L : List Seg} {R : Value → Gh → List Seg → Prop}  {s1 : T_api_Schedule} {day1 : Int} {A1 : Option Addr} {c1 : Nat} {res1 : Bool}
    (hl1 : s1.Moves.length ≤ c1 ∧ c1 ≤ maxLen) (hA1 : ArrR r_api_Move μ A1 s1.Moves) (h : recyclingref17_Pattern s1 day1 = some res1)
    (hR : R (.bool res1) μ (L)) :
    Fn Try.prog 24 [.agg #[.int .i64 s1.Container, .int .i64 s1.Start, .int .i64 s1.Every, .slice A1 s1.Moves.length c1], .int .i64 day1] μ L R := by
  unfold recyclingref17_Pattern at h
  refine Fn.of_body Tt_ok Try.func24 (by kernel_rfl) rfl Try.ntmps24 (by simp) ?_
  simp only [Try.f24, argFr, List.zipIdx, List.map, Nat.reduceAdd]
  refine WP.seq_k (fun K142 hK142 => WP.region Tt_ok (O_cons (O_box (cs := #[.int .i64 s1.Container, .int .i64 s1.Start, .int .i64 s1.Every, .slice A1 s1.Moves.length c1]) rfl rfl (fun g1 => P_some rfl (O_cons (O_read rfl (R_assign rfl (P_some rfl (O_nil (hK142 _ _ _ (WP.seq_k (fun K144 hK144 => ?_))))))))))))
  obtain ⟨o145, h145, h⟩ := obind h
  refine WP.cutK (fun fr_ μ_ L_ => ∃ (v1 : Bool), v1 = o145 ∧ SubFr [(4, .bool v1)] fr_ ∧ SegSub (L) L_ ∧ μ = μ_) ?_ ?_
  · refine WP.region Tt_ok (O_cons (O_read rfl (R_move rfl (P_some rfl (O_cons (O_call (all := [.int .i64 day1]) rfl rfl rfl ?_))))))
    obtain ⟨r1, hx1, h145⟩ := obind h145
    refine recyclingref17_valid_fn  hx1 ((P_some rfl (O_cons (O_read rfl (R_move rfl (P_some rfl ?_))))))
    refine O_gv (z := r1) rfl rfl (fun hc1 => ?_) (fun hc1 => ?_)
    · replace h145 := cond_t hc1 h145
      refine O_read rfl (R_move rfl (P_some rfl (O_gY rfl rfl hc1 (O_read rfl (R_fa0 (o' := 1) rfl rfl rfl rfl rfl rfl (P_some rfl (O_gY rfl rfl hc1 (O_read rfl (R_load rfl rfl rfl (Ex.mk _ (Cell.seg 0 0 rfl rfl rfl) (P_some rfl (O_gY rfl rfl hc1 (O_read rfl ?_)))))))))))))
      refine R_geqD rfl rfl (P_some rfl (O_cons (O_read rfl (R_pick_T rfl hc1 rfl (P_some rfl (O_cons (O_read rfl (R_move rfl (P_some rfl ?_)))))))))
      refine O_gv (z := (decide (s1.Start ≤ day1))) rfl rfl (fun hc2 => ?_) (fun hc2 => ?_)
      · replace h145 := cond_t hc2 h145
        refine O_read rfl (R_move rfl (P_some rfl (O_gY rfl rfl hc2 (O_read rfl (R_fa0 (o' := 1) rfl rfl rfl rfl rfl rfl (P_some rfl (O_gY rfl rfl hc2 (O_read rfl (R_load rfl rfl rfl (Ex.mk _ (Cell.seg 0 0 rfl rfl rfl) (P_some rfl (O_gY rfl rfl hc2 (O_read rfl ?_)))))))))))))
        refine R_sub rfl rfl (P_some rfl (O_gY rfl rfl hc2 (O_read rfl (R_fa0 (o' := 2) rfl rfl rfl rfl rfl rfl (P_some rfl (O_gY rfl rfl hc2 (O_read rfl (R_load rfl rfl rfl (Ex.mk _ (Cell.seg 0 0 rfl rfl rfl) (P_some rfl (O_gY rfl rfl hc2 (O_read rfl (R_rem rfl rfl ?_)))))))))))))
        obtain ⟨u1, hg1, h145⟩ := obind h145
        refine ⟨guardO_some hg1, ?_⟩
        refine P_some rfl (O_gY rfl rfl hc2 (O_read rfl (R_eqlD rfl rfl (P_some rfl (O_cons (O_read rfl (R_pick_T rfl hc2 rfl (P_some rfl (O_cons (O_read rfl (R_assign rfl (P_some rfl (O_nil ?_)))))))))))))
        have e_ := Option.some.inj h145
        subst e_
        exact ⟨(decide ((Int.tmod (w64 (day1 - s1.Start)) s1.Every) = 0)), rfl, SubFr.of ⟨rfl, trivial⟩, SegSub.sel _ [] 1, rfl⟩
      replace h145 := cond_f hc2 h145
      refine P_some rfl (O_gN rfl rfl hc2 (P_some rfl (O_gN rfl rfl hc2 (P_some rfl (O_gN rfl rfl hc2 (P_some rfl (O_gN rfl rfl hc2 (P_some rfl (O_gN rfl rfl hc2 (P_some rfl (O_gN rfl rfl hc2 (P_some rfl (O_gN rfl rfl hc2 ?_)))))))))))))
      refine P_some rfl (O_cons (O_read rfl (R_pick_F rfl hc2 rfl (P_some rfl (O_cons (O_read rfl (R_assign rfl (P_some rfl (O_nil ?_)))))))))
      have e_ := Option.some.inj h145
      subst e_
      exact ⟨false, rfl, SubFr.of ⟨rfl, trivial⟩, SegSub.sel _ [] 1, rfl⟩
    replace h145 := cond_f hc1 h145
    refine P_some rfl (O_gN rfl rfl hc1 (P_some rfl (O_gN rfl rfl hc1 (P_some rfl (O_gN rfl rfl hc1 (P_some rfl (O_cons (O_read rfl (R_pick_F rfl hc1 rfl (P_some rfl (O_cons (O_read rfl (R_move rfl ?_)))))))))))))
    refine P_some rfl (O_gN rfl rfl rfl (P_some rfl (O_gN rfl rfl rfl (P_some rfl (O_gN rfl rfl rfl (P_some rfl (O_gN rfl rfl rfl (P_some rfl (O_gN rfl rfl rfl (P_some rfl (O_gN rfl rfl rfl (P_some rfl (O_gN rfl rfl rfl ?_)))))))))))))
    refine P_some rfl (O_gN rfl rfl rfl (P_some rfl (O_cons (O_read rfl (R_pick_F rfl rfl rfl (P_some rfl (O_cons (O_read rfl (R_assign rfl (P_some rfl (O_nil ?_)))))))))))
    have e_ := Option.some.inj h145
    subst e_
    exact ⟨false, rfl, SubFr.of ⟨rfl, trivial⟩, SegSub.sel _ [] 1, rfl⟩
  rintro fr145 μ145 L145 hm145 ⟨v1, ho145, hF145, hS145, hu145⟩
  subst ho145
  subst hu145
  refine hK144 _ _ _ (WP.at hF145 hS145 (WP.ret ?_))
  have e_ := Option.some.inj h
  subst e_
  refine S_tmp rfl (S_nil (Upd.selS [] 0 ?_))
  exact Upd.done hR

theorem recyclingref17_Check_fn {μ : Gh} {L : List Seg} {R : Value → Gh → List Seg → Prop}  {s1 : T_api_Schedule} {A1 : Option Addr} {c1 : Nat} {res1 : Int}
    (hl1 : s1.Moves.length ≤ c1 ∧ c1 ≤ maxLen) (hA1 : ArrR r_api_Move μ A1 s1.Moves) (h : recyclingref17_Check s1 = some res1)
    (hR : R (.int .i64 res1) μ (L)) :
    Fn Try.prog 11 [.agg #[.int .i64 s1.Container, .int .i64 s1.Start, .int .i64 s1.Every, .slice A1 s1.Moves.length c1]] μ L R := by
  unfold recyclingref17_Check at h
  refine Fn.of_body Tt_ok Try.func11 (by kernel_rfl) rfl Try.ntmps11 (by simp) ?_
  simp only [Try.f11, argFr, List.zipIdx, List.map, Nat.reduceAdd]
  refine WP.seq_k (fun K115 hK115 => WP.region Tt_ok (O_cons (O_box (cs := #[.int .i64 s1.Container, .int .i64 s1.Start, .int .i64 s1.Every, .slice A1 s1.Moves.length c1]) rfl rfl (fun g1 => P_some rfl (O_cons (O_read rfl (R_assign rfl (P_some rfl (O_nil (hK115 _ _ _ (WP.seq_k (fun K117 hK117 => WP.seq_k (fun K118 hK118 => ?_)))))))))))))
  obtain ⟨o119, h119, h⟩ := obind h
  refine WP.cutK (fun fr_ μ_ L_ => ∃ (v1 : Bool), v1 = o119 ∧ SubFr [(1, .pointer (some ⟨g1, 0, none⟩)), (29, .bool v1)] fr_ ∧ SegSub ([(g1, .cells #[.int .i64 s1.Container, .int .i64 s1.Start, .int .i64 s1.Every, .slice A1 s1.Moves.length c1] 24 (0, 0))] :: L) L_ ∧ μ = μ_) ?_ ?_
  · refine WP.region Tt_ok (O_cons (O_read rfl (R_fa0 (o' := 0) rfl rfl rfl rfl rfl rfl (P_some rfl (O_cons (O_read rfl (R_load rfl rfl rfl (Ex.mk _ (Cell.seg 0 0 rfl rfl rfl) (P_some rfl (O_cons (O_read rfl (R_lssD rfl rfl (P_some rfl ?_)))))))))))))
    refine O_cons (O_read rfl (R_move rfl (P_some rfl ?_)))
    refine O_gv (z := (decide (s1.Container < 0))) rfl rfl (fun hc1 => ?_) (fun hc1 => ?_)
    · replace h119 := cond_f hc1 h119
      refine O_read rfl (R_fa0 (o' := 0) rfl rfl rfl rfl rfl rfl (P_some rfl (O_gY rfl rfl hc1 (O_read rfl (R_load rfl rfl rfl (Ex.mk _ (Cell.seg 0 0 rfl rfl rfl) (P_some rfl (O_gY rfl rfl hc1 (O_read rfl (R_geqD rfl rfl (P_some rfl (O_cons (O_read rfl ?_)))))))))))))
      refine R_pick_F rfl hc1 rfl (P_some rfl (O_cons (O_read rfl (R_move rfl (P_some rfl ?_)))))
      refine O_gv (z := (decide (256 ≤ s1.Container))) rfl rfl (fun hc2 => ?_) (fun hc2 => ?_)
      · replace h119 := cond_f hc2 h119
        refine O_read rfl (R_fa0 (o' := 1) rfl rfl rfl rfl rfl rfl (P_some rfl (O_gY rfl rfl hc2 (O_read rfl (R_load rfl rfl rfl (Ex.mk _ (Cell.seg 0 0 rfl rfl rfl) (P_some rfl (O_gY rfl rfl hc2 (O_call (all := [.int .i64 s1.Start]) rfl rfl rfl ?_)))))))))
        obtain ⟨r1, hx1, h119⟩ := obind h119
        refine recyclingref17_valid_fn  hx1 ((P_some rfl (O_gY rfl rfl hc2 (O_read rfl (R_not rfl (P_some rfl (O_cons (O_read rfl (R_pick_F rfl hc2 rfl (P_some rfl (O_cons (O_read rfl (R_move rfl (P_some rfl ?_))))))))))))))
        refine O_gv (z := !r1) rfl rfl (fun hc3 => ?_) (fun hc3 => ?_)
        · replace h119 := cond_f hc3 h119
          refine O_read rfl (R_fa0 (o' := 2) rfl rfl rfl rfl rfl rfl (P_some rfl (O_gY rfl rfl hc3 (O_read rfl (R_load rfl rfl rfl (Ex.mk _ (Cell.seg 0 0 rfl rfl rfl) (P_some rfl (O_gY rfl rfl hc3 (O_read rfl (R_lssD rfl rfl (P_some rfl (O_cons (O_read rfl ?_)))))))))))))
          refine R_pick_F rfl hc3 rfl (P_some rfl (O_cons (O_read rfl (R_move rfl (P_some rfl ?_)))))
          refine O_gv (z := (decide (s1.Every < 1))) rfl rfl (fun hc4 => ?_) (fun hc4 => ?_)
          · replace h119 := cond_f hc4 h119
            refine O_read rfl (R_fa0 (o' := 2) rfl rfl rfl rfl rfl rfl (P_some rfl (O_gY rfl rfl hc4 (O_read rfl (R_load rfl rfl rfl (Ex.mk _ (Cell.seg 0 0 rfl rfl rfl) (P_some rfl (O_gY rfl rfl hc4 (O_read rfl (R_gtrD rfl rfl (P_some rfl (O_cons (O_read rfl ?_)))))))))))))
            refine R_pick_F rfl hc4 rfl (P_some rfl (O_nil ?_))
            have e_ := Option.some.inj h119
            subst e_
            exact ⟨(decide (365 < s1.Every)), rfl, SubFr.of ⟨rfl, rfl, trivial⟩, SegSub.sel _ [some 0] 1, rfl⟩
          replace h119 := cond_t hc4 h119
          refine P_some rfl (O_gN rfl rfl hc4 (P_some rfl (O_gN rfl rfl hc4 (P_some rfl (O_cons (O_read rfl (R_pick_T rfl hc4 rfl (P_some rfl (O_nil ?_)))))))))
          have e_ := Option.some.inj h119
          subst e_
          exact ⟨true, rfl, SubFr.of ⟨rfl, rfl, trivial⟩, SegSub.sel _ [some 0] 1, rfl⟩
        replace h119 := cond_t hc3 h119
        refine P_some rfl (O_gN rfl rfl hc3 (P_some rfl (O_gN rfl rfl hc3 (P_some rfl (O_cons (O_read rfl (R_pick_T rfl hc3 rfl (P_some rfl (O_cons (O_read rfl (R_move rfl (P_some rfl (O_gN rfl rfl rfl ?_)))))))))))))
        refine P_some rfl (O_gN rfl rfl rfl (P_some rfl (O_gN rfl rfl rfl (P_some rfl (O_cons (O_read rfl (R_pick_T rfl rfl rfl (P_some rfl (O_nil ?_)))))))))
        have e_ := Option.some.inj h119
        subst e_
        exact ⟨true, rfl, SubFr.of ⟨rfl, rfl, trivial⟩, SegSub.sel _ [some 0] 1, rfl⟩
      replace h119 := cond_t hc2 h119
      refine P_some rfl (O_gN rfl rfl hc2 (P_some rfl (O_gN rfl rfl hc2 (P_some rfl (O_gN rfl rfl hc2 (P_some rfl (O_cons (O_read rfl (R_pick_T rfl hc2 rfl (P_some rfl (O_cons (O_read rfl (R_move rfl ?_)))))))))))))
      refine P_some rfl (O_gN rfl rfl rfl (P_some rfl (O_gN rfl rfl rfl (P_some rfl (O_gN rfl rfl rfl (P_some rfl (O_cons (O_read rfl (R_pick_T rfl rfl rfl (P_some rfl (O_cons (O_read rfl (R_move rfl ?_)))))))))))))
      refine P_some rfl (O_gN rfl rfl rfl (P_some rfl (O_gN rfl rfl rfl (P_some rfl (O_gN rfl rfl rfl (P_some rfl (O_cons (O_read rfl (R_pick_T rfl rfl rfl (P_some rfl (O_nil ?_)))))))))))
      have e_ := Option.some.inj h119
      subst e_
      exact ⟨true, rfl, SubFr.of ⟨rfl, rfl, trivial⟩, SegSub.sel _ [some 0] 1, rfl⟩
    replace h119 := cond_t hc1 h119
    refine P_some rfl (O_gN rfl rfl hc1 (P_some rfl (O_gN rfl rfl hc1 (P_some rfl (O_cons (O_read rfl (R_pick_T rfl hc1 rfl (P_some rfl (O_cons (O_read rfl (R_move rfl (P_some rfl (O_gN rfl rfl rfl ?_)))))))))))))
    refine P_some rfl (O_gN rfl rfl rfl (P_some rfl (O_gN rfl rfl rfl (P_some rfl (O_gN rfl rfl rfl (P_some rfl (O_cons (O_read rfl (R_pick_T rfl rfl rfl (P_some rfl (O_cons (O_read rfl (R_move rfl ?_)))))))))))))
    refine P_some rfl (O_gN rfl rfl rfl (P_some rfl (O_gN rfl rfl rfl (P_some rfl (O_gN rfl rfl rfl (P_some rfl (O_cons (O_read rfl (R_pick_T rfl rfl rfl (P_some rfl (O_cons (O_read rfl (R_move rfl ?_)))))))))))))
    refine P_some rfl (O_gN rfl rfl rfl (P_some rfl (O_gN rfl rfl rfl (P_some rfl (O_gN rfl rfl rfl (P_some rfl (O_cons (O_read rfl (R_pick_T rfl rfl rfl (P_some rfl (O_nil ?_)))))))))))
    have e_ := Option.some.inj h119
    subst e_
    exact ⟨true, rfl, SubFr.of ⟨rfl, rfl, trivial⟩, SegSub.sel _ [some 0] 1, rfl⟩
  rintro fr119 μ119 L119 hm119 ⟨v1, ho119, hF119, hS119, hu119⟩
  subst ho119
  subst hu119
  refine hK118 _ _ _ (WP.at hF119 hS119 ?_)
  refine W_cond_v (b := v1) rfl (fun hc5 => ?_) (fun hc5 => ?_)
  · replace h := cond_t hc5 h
    refine WP.seq_k (fun K125 hK125 => WP.region Tt_ok (O_cons (O_read rfl (R_assign rfl (P_some rfl (O_nil (hK125 _ _ _ (WP.ret ?_))))))))
    have e_ := Option.some.inj h
    subst e_
    refine S_tmp rfl (S_nil (Upd.selS [] 1 ?_))
    exact Upd.done hR
  replace h := cond_f hc5 h
  refine WP.skip (hK117 _ _ _ (WP.seq_k (fun K126 hK126 => WP.seq_k (fun K127 hK127 => WP.region Tt_ok (O_cons (O_read rfl (R_fa0 (o' := 3) rfl rfl rfl rfl rfl rfl (P_some rfl (O_cons (O_read rfl (R_load rfl rfl rfl (Ex.mk _ (Cell.seg 0 0 rfl rfl rfl) (P_some rfl ?_)))))))))))))
  refine O_cons (O_read rfl (R_lenS rfl rfl rfl (P_some rfl (O_cons (O_read rfl (R_gtrD rfl rfl (P_some rfl (O_nil (hK127 _ _ _ ?_)))))))))
  refine W_cond_v (b := (decide (32 < ((s1.Moves.length : Nat) : Int)))) rfl (fun hc6 => ?_) (fun hc6 => ?_)
  · replace h := cond_t hc6 h
    refine WP.seq_k (fun K128 hK128 => WP.region Tt_ok (O_cons (O_read rfl (R_assign rfl (P_some rfl (O_nil (hK128 _ _ _ (WP.ret ?_))))))))
    have e_ := Option.some.inj h
    subst e_
    refine S_tmp rfl (S_nil (Upd.selS [] 1 ?_))
    exact Upd.done hR
  replace h := cond_f hc6 h
  refine WP.skip (hK126 _ _ _ (WP.seq_k (fun K129 hK129 => WP.seq_k (fun K130 hK130 => WP.region Tt_ok (O_cons (O_read rfl (R_assign rfl (P_some rfl (O_nil (hK130 _ _ _ ?_))))))))))
  obtain ⟨o131, h131, h⟩ := obind h
  refine WP.cutK (fun fr_ μ_ L_ => (.inl ()) = o131 ∧ SubFr [(1, .pointer (some ⟨g1, 0, none⟩))] fr_ ∧ SegSub ([(g1, .cells #[.int .i64 s1.Container, .int .i64 s1.Start, .int .i64 s1.Every, .slice A1 s1.Moves.length c1] 24 (0, 0))] :: L) L_ ∧ μ = μ_) ?_ ?_
  · refine WP.block (WP.iter h131 (fun (i1 : Int) fr_ μ_ L_ => SubFr [(1, .pointer (some ⟨g1, 0, none⟩)), (3, .int .i64 i1)] fr_ ∧ SegSub ([(g1, .cells #[.int .i64 s1.Container, .int .i64 s1.Start, .int .i64 s1.Every, .slice A1 s1.Moves.length c1] 24 (0, 0))] :: L) L_ ∧ μ = μ_) ⟨SubFr.of ⟨rfl, rfl, trivial⟩, SegSub.sel _ [some 0] 1, rfl⟩ ?_)
    rintro i1 q152 fr152 μ152 L152 hm152 ⟨hF152, hS152, hu152⟩ hb152 hq152
    unfold recyclingref17_Check_l1 at hb152
    subst hu152
    refine WP.at hF152 hS152 (WP.seq_k (fun K156 hK156 => WP.seq_k (fun K157 hK157 => WP.region Tt_ok (O_cons (O_read rfl (R_move rfl (P_some rfl (O_cons (O_read rfl (R_fa0 (o' := 3) rfl rfl rfl rfl rfl rfl (P_some rfl (O_cons (O_read rfl ?_)))))))))))))
    refine R_load rfl rfl rfl (Ex.mk _ (Cell.seg 0 0 rfl rfl rfl) (P_some rfl (O_cons (O_read rfl (R_lenS rfl rfl rfl (P_some rfl (O_cons (O_read rfl (R_lssD rfl rfl (P_some rfl (O_nil (hK157 _ _ _ ?_))))))))))))
    refine W_cond_v (b := (decide (i1 < ((s1.Moves.length : Nat) : Int)))) rfl (fun hc7 => ?_) (fun hc7 => ?_)
    · replace hb152 := cond_t hc7 hb152
      refine WP.skip (hK156 _ _ _ (WP.seq_k (fun K158 hK158 => WP.block (WP.seq_k (fun K159 hK159 => WP.seq_k (fun K160 hK160 => WP.drawn (id := 8) (l' := List.replicate 9 true) wide Tt_ok _ Kept.refl [(true, 0), (true, 1), (true, 2), (true, 3), (true, 4), (true, 5), (true, 6), (false, 7), (true, 8)] (by kernel_rfl) (by kernel_rfl) rfl (PL_t rfl (R_loadA rfl rfl rfl rfl (LA_ (vs := [.int .i64 s1.Container, .int .i64 s1.Start, .int .i64 s1.Every, .slice A1 s1.Moves.length c1]) 0 0 rfl rfl rfl rfl (P_some rfl (PL_t rfl (R_fa0 (o' := 3) rfl rfl rfl rfl rfl rfl (P_some rfl ?_)))))))))))))
      refine PL_t rfl (R_load rfl rfl rfl (Ex.mk _ (Cell.seg 0 0 rfl rfl rfl) (P_some rfl (PL_t rfl (R_move rfl (P_some rfl (PL_t rfl ?_)))))))
      obtain ⟨x1, hx2, hb152⟩ := obind hb152
      obtain ⟨a1, cs1, hA2, hr1, _, hc8⟩ := Rds.getI (ArrR.rds hA1 ([(g1, .cells #[.int .i64 s1.Container, .int .i64 s1.Start, .int .i64 s1.Every, .slice A1 s1.Moves.length c1] 24 (0, 0))] :: L)) hx2
      obtain rfl := hr1
      refine R_iaG rfl rfl rfl rfl rfl rfl ⟨(getI_lt hx2).1, (getI_lt hx2).2.1⟩ hA2 (P_some rfl (PL_t rfl (R_faz rfl rfl rfl rfl rfl (P_some rfl (PL_t rfl (R_load rfl rfl rfl (Ex.mk _ (Cell.of_cells0 (hc8) rfl) (P_some rfl (PL_f rfl (O_call (all := [.agg #[.int .i64 s1.Container, .int .i64 s1.Start, .int .i64 s1.Every, .slice A1 s1.Moves.length c1], .int .i64 x1.From]) rfl rfl rfl ?_))))))))))
      obtain ⟨r2, hx3, hb152⟩ := obind hb152
      refine recyclingref17_Pattern_fn hl1 hA1 hx3 (?_)
      refine ⟨Kept.refl, ?_⟩
      refine P_some rfl (PL_t rfl (R_not rfl (P_some rfl (PL_nil (AN.done0 (by kernel_rfl) (hK160 _ _ _ ?_))))))
      refine W_cond_v (b := !r2) rfl (fun hc9 => ?_) (fun hc9 => ?_)
      · replace hb152 := cond_t hc9 hb152
        refine WP.seq_k (fun K161 hK161 => WP.region Tt_ok (O_cons (O_read rfl (R_assign rfl (P_some rfl (O_nil (hK161 _ _ _ (WP.ret ?_))))))))
        have e_ := Option.some.inj hb152
        subst e_
        have hq_ := hq152 _ rfl
        subst hq_
        replace h := osum_r h
        have e_ := Option.some.inj h
        subst e_
        refine S_tmp rfl (S_nil (Upd.selS [] 1 ?_))
        exact Upd.done hR
      replace hb152 := cond_f hc9 hb152
      refine WP.skip (hK159 _ _ _ (WP.seq_k (fun K162 hK162 => WP.seq_k (fun K163 hK163 => WP.region Tt_ok (O_cons (O_read rfl (R_fa0 (o' := 3) rfl rfl rfl rfl rfl rfl (P_some rfl (O_cons (O_read rfl (R_load rfl rfl rfl (Ex.mk _ (Cell.seg 0 0 rfl rfl rfl) (P_some rfl ?_)))))))))))))
      refine O_cons (O_read rfl (R_move rfl (P_some rfl (O_cons ?_))))
      obtain ⟨x2, hx4, hb152⟩ := obind hb152
      obtain ⟨a2, cs2, hA3, hr2, _, hc10⟩ := Rds.getI (ArrR.rds hA1 ([(g1, .cells #[.int .i64 s1.Container, .int .i64 s1.Start, .int .i64 s1.Every, .slice A1 s1.Moves.length c1] 24 (0, 0))] :: L)) hx4
      obtain rfl := hr2
      refine O_read rfl (R_iaG rfl rfl rfl rfl rfl rfl ⟨(getI_lt hx4).1, (getI_lt hx4).2.1⟩ hA3 (P_some rfl (O_cons (O_read rfl (R_fa rfl rfl rfl rfl rfl (P_some rfl (O_cons (O_read rfl (R_load rfl rfl rfl (Ex.mk _ (Cell.of_cells hc10 1 rfl) (P_some rfl (O_cons (O_call (all := [.int .i64 x2.To]) rfl rfl rfl ?_)))))))))))))
      obtain ⟨r3, hx5, hb152⟩ := obind hb152
      refine recyclingref17_valid_fn  hx5 ((P_some rfl (O_cons (O_read rfl (R_not rfl (P_some rfl (O_nil (hK163 _ _ _ ?_))))))))
      refine W_cond_v (b := !r3) rfl (fun hc11 => ?_) (fun hc11 => ?_)
      · replace hb152 := cond_t hc11 hb152
        refine WP.seq_k (fun K164 hK164 => WP.region Tt_ok (O_cons (O_read rfl (R_assign rfl (P_some rfl (O_nil (hK164 _ _ _ (WP.ret ?_))))))))
        have e_ := Option.some.inj hb152
        subst e_
        have hq_ := hq152 _ rfl
        subst hq_
        replace h := osum_r h
        have e_ := Option.some.inj h
        subst e_
        refine S_tmp rfl (S_nil (Upd.selS [] 1 ?_))
        exact Upd.done hR
      replace hb152 := cond_f hc11 hb152
      refine WP.skip (hK162 _ _ _ (WP.seq_k (fun K165 hK165 => WP.drawn (id := 12) (l' := List.replicate 8 true) wide Tt_ok _ Kept.refl [(true, 0), (true, 1), (true, 2), (true, 3), (true, 4), (true, 5), (true, 6), (false, 7)] (by kernel_rfl) (by kernel_rfl) rfl (PL_t rfl (R_loadA rfl rfl rfl rfl (LA_ (vs := [.int .i64 s1.Container, .int .i64 s1.Start, .int .i64 s1.Every, .slice A1 s1.Moves.length c1]) 0 0 rfl rfl rfl rfl (P_some rfl (PL_t rfl (R_fa0 (o' := 3) rfl rfl rfl rfl rfl rfl (P_some rfl (PL_t rfl (R_load rfl rfl rfl (Ex.mk _ (Cell.seg 0 0 rfl rfl rfl) ?_)))))))))))))
      refine P_some rfl (PL_t rfl (R_move rfl (P_some rfl (PL_t rfl ?_))))
      obtain ⟨x3, hx6, hb152⟩ := obind hb152
      obtain ⟨a3, cs3, hA4, hr3, _, hc12⟩ := Rds.getI (ArrR.rds hA1 ([(g1, .cells #[.int .i64 s1.Container, .int .i64 s1.Start, .int .i64 s1.Every, .slice A1 s1.Moves.length c1] 24 (0, 0))] :: L)) hx6
      obtain rfl := hr3
      refine R_iaG rfl rfl rfl rfl rfl rfl ⟨(getI_lt hx6).1, (getI_lt hx6).2.1⟩ hA4 (P_some rfl (PL_t rfl (R_fa rfl rfl rfl rfl rfl (P_some rfl (PL_t rfl (R_load rfl rfl rfl (Ex.mk _ (Cell.of_cells (hc12) 1 rfl) (P_some rfl (PL_f rfl (O_call (all := [.agg #[.int .i64 s1.Container, .int .i64 s1.Start, .int .i64 s1.Every, .slice A1 s1.Moves.length c1], .int .i64 x3.To]) rfl rfl rfl ?_))))))))))
      obtain ⟨r4, hx7, hb152⟩ := obind hb152
      refine recyclingref17_Pattern_fn hl1 hA1 hx7 (?_)
      refine ⟨Kept.refl, ?_⟩
      refine P_some rfl (PL_nil (AN.done0 (by kernel_rfl) (hK165 _ _ _ ?_)))
      refine W_cond_v (b := r4) rfl (fun hc13 => ?_) (fun hc13 => ?_)
      · replace hb152 := cond_t hc13 hb152
        refine WP.seq_k (fun K166 hK166 => WP.region Tt_ok (O_cons (O_read rfl (R_assign rfl (P_some rfl (O_nil (hK166 _ _ _ (WP.ret ?_))))))))
        have e_ := Option.some.inj hb152
        subst e_
        have hq_ := hq152 _ rfl
        subst hq_
        replace h := osum_r h
        have e_ := Option.some.inj h
        subst e_
        refine S_tmp rfl (S_nil (Upd.selS [] 1 ?_))
        exact Upd.done hR
      replace hb152 := cond_f hc13 hb152
      refine WP.skip (hK158 _ _ _ (WP.region Tt_ok (O_cons (O_read rfl (R_move rfl (P_some rfl (O_cons (O_read rfl (R_add rfl rfl (P_some rfl (O_cons (O_read rfl (R_assign rfl ?_)))))))))))))
      refine P_some rfl (O_nil ?_)
      have e_ := Option.some.inj hb152
      subst e_
      exact ⟨_, rfl, SubFr.of ⟨rfl, rfl, trivial⟩, SegSub.sel _ [some 0] 1, rfl⟩
    replace hb152 := cond_f hc7 hb152
    refine WP.exit (B_here ?_)
    have e_ := Option.some.inj hb152
    subst e_
    have hq_ := hq152 _ rfl
    subst hq_
    exact ⟨rfl, SubFr.of ⟨rfl, trivial⟩, SegSub.sel _ [some 0] 1, rfl⟩
  rintro fr131 μ131 L131 hm131 ⟨ho131, hF131, hS131, hu131⟩
  subst ho131
  replace h := osum_l h
  subst hu131
  refine hK129 _ _ _ (WP.at hF131 hS131 (WP.seq_k (fun K169 hK169 => WP.seq_k (fun K170 hK170 => WP.region Tt_ok (O_cons (O_read rfl (R_assign rfl (P_some rfl (O_nil (hK170 _ _ _ ?_))))))))))
  obtain ⟨o171, h171, h⟩ := obind h
  refine WP.cutK (fun fr_ μ_ L_ => (.inl ()) = o171 ∧ SubFr [] fr_ ∧ SegSub (L) L_ ∧ μ = μ_) ?_ ?_
  · refine WP.block (WP.iter h171 (fun (i2 : Int) fr_ μ_ L_ => SubFr [(1, .pointer (some ⟨g1, 0, none⟩)), (4, .int .i64 i2)] fr_ ∧ SegSub ([(g1, .cells #[.int .i64 s1.Container, .int .i64 s1.Start, .int .i64 s1.Every, .slice A1 s1.Moves.length c1] 24 (0, 0))] :: L) L_ ∧ μ = μ_) ⟨SubFr.of ⟨rfl, rfl, trivial⟩, SegSub.sel _ [some 0] 1, rfl⟩ ?_)
    rintro i2 q210 fr210 μ210 L210 hm210 ⟨hF210, hS210, hu210⟩ hb210 hq210
    unfold recyclingref17_Check_l3 at hb210
    subst hu210
    refine WP.at hF210 hS210 (WP.seq_k (fun K214 hK214 => WP.seq_k (fun K215 hK215 => WP.region Tt_ok (O_cons (O_read rfl (R_move rfl (P_some rfl (O_cons (O_read rfl (R_fa0 (o' := 3) rfl rfl rfl rfl rfl rfl (P_some rfl (O_cons (O_read rfl ?_)))))))))))))
    refine R_load rfl rfl rfl (Ex.mk _ (Cell.seg 0 0 rfl rfl rfl) (P_some rfl (O_cons (O_read rfl (R_lenS rfl rfl rfl (P_some rfl (O_cons (O_read rfl (R_lssD rfl rfl (P_some rfl (O_nil (hK215 _ _ _ ?_))))))))))))
    refine W_cond_v (b := (decide (i2 < ((s1.Moves.length : Nat) : Int)))) rfl (fun hc14 => ?_) (fun hc14 => ?_)
    · replace hb210 := cond_t hc14 hb210
      refine WP.skip (hK214 _ _ _ (WP.seq_k (fun K216 hK216 => ?_)))
      obtain ⟨o217, h217, hb210⟩ := obind hb210
      refine WP.cutK (fun fr_ μ_ L_ => (.inl ()) = o217 ∧ SubFr [(1, .pointer (some ⟨g1, 0, none⟩)), (4, .int .i64 i2)] fr_ ∧ SegSub ([(g1, .cells #[.int .i64 s1.Container, .int .i64 s1.Start, .int .i64 s1.Every, .slice A1 s1.Moves.length c1] 24 (0, 0))] :: L) L_ ∧ μ = μ_) ?_ ?_
      · refine WP.block (WP.seq_k (fun K218 hK218 => WP.region Tt_ok (O_cons (O_read rfl (R_assign rfl (P_some rfl (O_nil (hK218 _ _ _ ?_))))))))
        obtain ⟨o219, h219, h217⟩ := obind h217
        refine WP.cutK (fun fr_ μ_ L_ => (.inl ()) = o219 ∧ SubFr [(1, .pointer (some ⟨g1, 0, none⟩)), (4, .int .i64 i2)] fr_ ∧ SegSub ([(g1, .cells #[.int .i64 s1.Container, .int .i64 s1.Start, .int .i64 s1.Every, .slice A1 s1.Moves.length c1] 24 (0, 0))] :: L) L_ ∧ μ = μ_) ?_ ?_
        · refine WP.block (WP.iter h219 (fun (k1 : Int) fr_ μ_ L_ => SubFr [(1, .pointer (some ⟨g1, 0, none⟩)), (4, .int .i64 i2), (5, .int .i64 k1)] fr_ ∧ SegSub ([(g1, .cells #[.int .i64 s1.Container, .int .i64 s1.Start, .int .i64 s1.Every, .slice A1 s1.Moves.length c1] 24 (0, 0))] :: L) L_ ∧ μ = μ_) ⟨SubFr.of ⟨rfl, rfl, rfl, trivial⟩, SegSub.sel _ [some 0] 1, rfl⟩ ?_)
          rintro k1 q232 fr232 μ232 L232 hm232 ⟨hF232, hS232, hu232⟩ hb232 hq232
          unfold recyclingref17_Check_l2 at hb232
          subst hu232
          refine WP.at hF232 hS232 (WP.seq_k (fun K236 hK236 => WP.seq_k (fun K237 hK237 => WP.region Tt_ok (O_cons (O_read rfl (R_move rfl (P_some rfl (O_cons (O_read rfl (R_move rfl (P_some rfl (O_cons (O_read rfl ?_)))))))))))))
          refine R_lssD rfl rfl (P_some rfl (O_nil (hK237 _ _ _ ?_)))
          refine W_cond_v (b := (decide (k1 < i2))) rfl (fun hc15 => ?_) (fun hc15 => ?_)
          · replace hb232 := cond_t hc15 hb232
            refine WP.skip (hK236 _ _ _ (WP.seq_k (fun K238 hK238 => WP.block (WP.seq_k (fun K239 hK239 => ?_)))))
            obtain ⟨o240, h240, hb232⟩ := obind hb232
            refine WP.cutK (fun fr_ μ_ L_ => ∃ (v2 : Bool), v2 = o240 ∧ SubFr [(1, .pointer (some ⟨g1, 0, none⟩)), (4, .int .i64 i2), (5, .int .i64 k1), (105, .bool v2)] fr_ ∧ SegSub ([(g1, .cells #[.int .i64 s1.Container, .int .i64 s1.Start, .int .i64 s1.Every, .slice A1 s1.Moves.length c1] 24 (0, 0))] :: L) L_ ∧ μ = μ_) ?_ ?_
            · refine WP.drawn (id := 20) (l' := List.replicate 28 true) wide Tt_ok _ Kept.refl [(true, 0), (true, 1), (true, 2), (true, 3), (true, 4), (true, 5), (true, 6), (true, 7), (true, 8), (true, 9), (true, 10), (true, 11), (true, 12), (true, 13), (true, 14), (true, 15), (true, 16), (true, 17), (true, 18), (true, 19), (true, 20), (true, 21), (true, 22), (true, 23), (true, 24), (true, 25), (true, 26), (true, 27)] (by kernel_rfl) (by kernel_rfl) rfl (PL_t rfl (R_fa0 (o' := 3) rfl rfl rfl rfl rfl rfl (P_some rfl (PL_t rfl (R_load rfl rfl rfl (Ex.mk _ (Cell.seg 0 0 rfl rfl rfl) (P_some rfl (PL_t rfl (R_move rfl (P_some rfl (PL_t rfl ?_)))))))))))
              obtain ⟨x4, hx8, h240⟩ := obind h240
              obtain ⟨a4, cs4, hA5, hr4, _, hc16⟩ := Rds.getI (ArrR.rds hA1 ([(g1, .cells #[.int .i64 s1.Container, .int .i64 s1.Start, .int .i64 s1.Every, .slice A1 s1.Moves.length c1] 24 (0, 0))] :: L)) hx8
              obtain rfl := hr4
              refine R_iaG rfl rfl rfl rfl rfl rfl ⟨(getI_lt hx8).1, (getI_lt hx8).2.1⟩ hA5 (P_some rfl (PL_t rfl (R_faz rfl rfl rfl rfl rfl (P_some rfl (PL_t rfl (R_load rfl rfl rfl (Ex.mk _ (Cell.of_cells0 (hc16) rfl) (P_some rfl (PL_t rfl (R_fa0 (o' := 3) rfl rfl rfl rfl rfl rfl (P_some rfl (PL_t rfl (R_load rfl rfl rfl ?_)))))))))))))
              refine Ex.mk _ (Cell.seg 0 0 rfl rfl rfl) (P_some rfl (PL_t rfl (R_move rfl (P_some rfl (PL_t rfl ?_)))))
              obtain ⟨x5, hx9, h240⟩ := obind h240
              obtain ⟨a5, cs5, hA6, hr5, _, hc17⟩ := Rds.getI (ArrR.rds hA1 ([(g1, .cells #[.int .i64 s1.Container, .int .i64 s1.Start, .int .i64 s1.Every, .slice A1 s1.Moves.length c1] 24 (0, 0))] :: L)) hx9
              obtain rfl := hr5
              refine R_iaG rfl rfl rfl rfl rfl rfl ⟨(getI_lt hx9).1, (getI_lt hx9).2.1⟩ hA6 (P_some rfl (PL_t rfl (R_faz rfl rfl rfl rfl rfl (P_some rfl (PL_t rfl (R_load rfl rfl rfl (Ex.mk _ (Cell.of_cells0 (hc17) rfl) (P_some rfl (PL_t rfl (R_eqlD rfl rfl (P_some rfl (PL_t rfl (R_move rfl ?_)))))))))))))
              apply P_some; exact rfl
              refine PL_tv (z := (decide (x4.From = x5.From))) rfl rfl rfl (fun hc18 => ?_) (fun hc18 => ?_)
              · replace h240 := cond_f hc18 h240
                refine R_fa0 (o' := 3) rfl rfl rfl rfl rfl rfl (P_some rfl (PL_tY rfl rfl rfl hc18 (R_load rfl rfl rfl (Ex.mk _ (Cell.seg 0 0 rfl rfl rfl) (P_some rfl (PL_tY rfl rfl rfl hc18 (R_move rfl (P_some rfl (PL_tY rfl rfl rfl hc18 ?_)))))))))
                obtain ⟨x6, hx10, h240⟩ := obind h240
                obtain ⟨a6, cs6, hA7, hr6, _, hc19⟩ := Rds.getI (ArrR.rds hA1 ([(g1, .cells #[.int .i64 s1.Container, .int .i64 s1.Start, .int .i64 s1.Every, .slice A1 s1.Moves.length c1] 24 (0, 0))] :: L)) hx10
                obtain rfl := hr6
                refine R_iaG rfl rfl rfl rfl rfl rfl ⟨(getI_lt hx10).1, (getI_lt hx10).2.1⟩ hA7 (P_some rfl (PL_tY rfl rfl rfl hc18 (R_fa rfl rfl rfl rfl rfl (P_some rfl (PL_tY rfl rfl rfl hc18 (R_load rfl rfl rfl (Ex.mk _ (Cell.of_cells (hc19) 1 rfl) (P_some rfl (PL_tY rfl rfl rfl hc18 (R_fa0 (o' := 3) rfl rfl rfl rfl rfl rfl (P_some rfl (PL_tY rfl rfl rfl hc18 (R_load rfl rfl rfl ?_)))))))))))))
                refine Ex.mk _ (Cell.seg 0 0 rfl rfl rfl) (P_some rfl (PL_tY rfl rfl rfl hc18 (R_move rfl (P_some rfl (PL_tY rfl rfl rfl hc18 ?_)))))
                obtain ⟨x7, hx11, h240⟩ := obind h240
                obtain ⟨a7, cs7, hA8, hr7, _, hc20⟩ := Rds.getI (ArrR.rds hA1 ([(g1, .cells #[.int .i64 s1.Container, .int .i64 s1.Start, .int .i64 s1.Every, .slice A1 s1.Moves.length c1] 24 (0, 0))] :: L)) hx11
                obtain rfl := hr7
                refine R_iaG rfl rfl rfl rfl rfl rfl ⟨(getI_lt hx11).1, (getI_lt hx11).2.1⟩ hA8 (P_some rfl (PL_tY rfl rfl rfl hc18 (R_fa rfl rfl rfl rfl rfl (P_some rfl (PL_tY rfl rfl rfl hc18 (R_load rfl rfl rfl (Ex.mk _ (Cell.of_cells (hc20) 1 rfl) (P_some rfl (PL_tY rfl rfl rfl hc18 (R_eqlD rfl rfl (P_some rfl (PL_t rfl (R_pick_F rfl hc18 rfl ?_)))))))))))))
                refine P_some rfl (PL_nil (AN.done0 (by kernel_rfl) ?_))
                have e_ := Option.some.inj h240
                subst e_
                exact ⟨(decide (x6.To = x7.To)), rfl, SubFr.of ⟨rfl, rfl, rfl, rfl, trivial⟩, SegSub.sel _ [some 0] 1, rfl⟩
              replace h240 := cond_t hc18 h240
              refine P_some rfl (PL_tN rfl rfl rfl hc18 (P_some rfl (PL_tN rfl rfl rfl hc18 (P_some rfl (PL_tN rfl rfl rfl hc18 (P_some rfl (PL_tN rfl rfl rfl hc18 (P_some rfl (PL_tN rfl rfl rfl hc18 (P_some rfl (PL_tN rfl rfl rfl hc18 (P_some rfl (PL_tN rfl rfl rfl hc18 ?_)))))))))))))
              refine P_some rfl (PL_tN rfl rfl rfl hc18 (P_some rfl (PL_tN rfl rfl rfl hc18 (P_some rfl (PL_tN rfl rfl rfl hc18 (P_some rfl (PL_tN rfl rfl rfl hc18 (P_some rfl (PL_tN rfl rfl rfl hc18 (P_some rfl (PL_t rfl (R_pick_T rfl hc18 rfl (P_some rfl ?_)))))))))))))
              refine PL_nil (AN.done0 (by kernel_rfl) ?_)
              have e_ := Option.some.inj h240
              subst e_
              exact ⟨true, rfl, SubFr.of ⟨rfl, rfl, rfl, rfl, trivial⟩, SegSub.sel _ [some 0] 1, rfl⟩
            rintro fr240 μ240 L240 hm240 ⟨v2, ho240, hF240, hS240, hu240⟩
            subst ho240
            subst hu240
            refine hK239 _ _ _ (WP.at hF240 hS240 ?_)
            refine W_cond_v (b := v2) rfl (fun hc21 => ?_) (fun hc21 => ?_)
            · replace hb232 := cond_t hc21 hb232
              refine WP.seq_k (fun K243 hK243 => WP.region Tt_ok (O_cons (O_read rfl (R_assign rfl (P_some rfl (O_nil (hK243 _ _ _ (WP.ret ?_))))))))
              have e_ := Option.some.inj hb232
              subst e_
              have hq_ := hq232 _ rfl
              subst hq_
              replace h217 := osum_r h217
              have e_ := Option.some.inj h217
              subst e_
              replace hb210 := osum_r hb210
              have e_ := Option.some.inj hb210
              subst e_
              have hq_ := hq210 _ rfl
              subst hq_
              replace h := osum_r h
              have e_ := Option.some.inj h
              subst e_
              refine S_tmp rfl (S_nil (Upd.selS [] 1 ?_))
              exact Upd.done hR
            replace hb232 := cond_f hc21 hb232
            refine WP.skip (hK238 _ _ _ (WP.region Tt_ok (O_cons (O_read rfl (R_move rfl (P_some rfl (O_cons (O_read rfl (R_add rfl rfl (P_some rfl (O_cons (O_read rfl (R_assign rfl ?_)))))))))))))
            refine P_some rfl (O_nil ?_)
            have e_ := Option.some.inj hb232
            subst e_
            exact ⟨_, rfl, SubFr.of ⟨rfl, rfl, rfl, trivial⟩, SegSub.sel _ [some 0] 1, rfl⟩
          replace hb232 := cond_f hc15 hb232
          refine WP.exit (B_here ?_)
          have e_ := Option.some.inj hb232
          subst e_
          have hq_ := hq232 _ rfl
          subst hq_
          exact ⟨rfl, SubFr.of ⟨rfl, rfl, trivial⟩, SegSub.sel _ [some 0] 1, rfl⟩
        rintro fr219 μ219 L219 hm219 ⟨ho219, hF219, hS219, hu219⟩
        subst ho219
        replace h217 := osum_l h217
        subst hu219
        have e_ := Option.some.inj h217
        subst e_
        exact ⟨rfl, SubFr.trans (fr := [(1, .pointer (some ⟨g1, 0, none⟩)), (4, .int .i64 i2)]) (SubFr.of ⟨rfl, rfl, trivial⟩) hF219, SegSub.trans (M := ([(g1, .cells #[.int .i64 s1.Container, .int .i64 s1.Start, .int .i64 s1.Every, .slice A1 s1.Moves.length c1] 24 (0, 0))] :: L)) (SegSub.sel _ [some 0] 1) hS219, rfl⟩
      rintro fr217 μ217 L217 hm217 ⟨ho217, hF217, hS217, hu217⟩
      subst ho217
      replace hb210 := osum_l hb210
      subst hu217
      refine hK216 _ _ _ (WP.at hF217 hS217 (WP.region Tt_ok (O_cons (O_read rfl (R_move rfl (P_some rfl (O_cons (O_read rfl (R_add rfl rfl (P_some rfl (O_cons (O_read rfl (R_assign rfl ?_)))))))))))))
      refine P_some rfl (O_nil ?_)
      have e_ := Option.some.inj hb210
      subst e_
      exact ⟨_, rfl, SubFr.of ⟨rfl, rfl, trivial⟩, SegSub.sel _ [some 0] 1, rfl⟩
    replace hb210 := cond_f hc14 hb210
    refine WP.exit (B_here ?_)
    have e_ := Option.some.inj hb210
    subst e_
    have hq_ := hq210 _ rfl
    subst hq_
    exact ⟨rfl, SubFr.of trivial, SegSub.sel _ [] 1, rfl⟩
  rintro fr171 μ171 L171 hm171 ⟨ho171, hF171, hS171, hu171⟩
  subst ho171
  replace h := osum_l h
  subst hu171
  refine hK169 _ _ _ (WP.at hF171 hS171 (WP.seq_k (fun K248 hK248 => WP.region Tt_ok (O_cons (O_read rfl (R_assign rfl (P_some rfl (O_nil (hK248 _ _ _ (WP.ret ?_))))))))))
  have e_ := Option.some.inj h
  subst e_
  refine S_tmp rfl (S_nil (Upd.selS [] 0 ?_))
  exact Upd.done hR

theorem recyclinglaw17_sample_fn {μ : Gh} {L : List Seg} {R : Value → Gh → List Seg → Prop}    {res1 : T_api_Schedule}
     (h : recyclinglaw17_sample = some res1)
    (hR : ∀ (μ' : Gh) (A0_3 : Option Addr) (c0_3 : Nat), μ.le μ' → (res1.Moves.length ≤ c0_3 ∧ c0_3 ≤ maxLen) → ArrR r_api_Move μ' A0_3 res1.Moves → R (.agg #[.int .i64 res1.Container, .int .i64 res1.Start, .int .i64 res1.Every, .slice A0_3 res1.Moves.length c0_3]) μ' (L)) :
    Fn Try.prog 25 [] μ L R := by
  unfold recyclinglaw17_sample at h
  refine Fn.of_body Tt_ok Try.func25 (by kernel_rfl) rfl Try.ntmps25 (by simp) ?_
  simp only [Try.f25, argFr, List.zipIdx, List.map, Nat.reduceAdd]
  refine WP.seq_k (fun K261 hK261 => WP.region Tt_ok (O_cons (O_alloc (cs := #[.int .i64 0, .int .i64 0, .int .i64 0, .slice none 0 0]) rfl rfl (fun g1 => P_some rfl (O_nil (hK261 _ _ _ (WP.seq_k (fun K264 hK264 => WP.region Tt_ok (O_cons (O_read rfl (R_build rfl rfl rfl rfl (F_cons (cells' := [.int .i64 9, .int .i64 0]) rfl rfl rfl rfl (F_cons (cells' := [.int .i64 9, .int .i64 10]) rfl rfl rfl rfl ?_)))))))))))))
  refine F_nil (P_some rfl (O_cons (O_bsl (z := [.int .i64 0, .int .i64 0]) rfl rfl rfl rfl rfl rfl rfl (F_cons (cells' := [.int .i64 9, .int .i64 10]) rfl rfl rfl rfl (F_nil (fun g2 => P_some rfl (O_cons (O_read rfl (R_build rfl rfl rfl rfl (F_cons (cells' := [.int .i64 0, .int .i64 2, .int .i64 0, .slice none 0 0]) rfl rfl rfl rfl (F_cons (cells' := [.int .i64 0, .int .i64 2, .int .i64 7, .slice none 0 0]) rfl rfl rfl rfl (F_cons (cells' := [.int .i64 0, .int .i64 2, .int .i64 7, .slice (some ⟨g2, 0, none⟩) 1 1]) rfl rfl rfl rfl (F_nil ?_)))))))))))))
  refine P_some rfl (O_cons (O_store (vs := [.int .i64 0, .int .i64 2, .int .i64 7, .slice (some ⟨g2, 0, none⟩) 1 1]) rfl rfl rfl rfl rfl rfl (ST_ (L' := ([(g2, .cells #[.int .i64 9, .int .i64 10] 39 (0, 0))] :: [(g1, .cells #[.int .i64 0, .int .i64 2, .int .i64 7, .slice (some ⟨g2, 0, none⟩) 1 1] 24 (0, 0))] :: L)) 1 0 rfl rfl rfl rfl (P_none (O_nil (hK264 _ _ _ (WP.ret ?_)))))))
  have e_ := Option.some.inj h
  subst e_
  refine S_cell rfl rfl rfl rfl (LA_ (vs := [.int .i64 0, .int .i64 2, .int .i64 7, .slice (some ⟨g2, 0, none⟩) 1 1]) 1 0 rfl rfl rfl rfl (S_nil ?_))
  have hl1 : [(T_api_Move.mk 9 10)].length ≤ 1 ∧ 1 ≤ maxLen := ⟨Nat.le_refl _, by unfold maxLen; omega⟩
  refine Upd.frzOwn 0 rfl (Own.lit (r := r_api_Move) (e := 39) (g := g2) (xs := [(T_api_Move.mk 9 10)]) (cs := [.int .i64 9, .int .i64 10]) (css := [[.int .i64 9, .int .i64 10]]) rfl (All2.cons (rfl) (All2.nil)) rfl rfl) fun v1 hm_1 hA1 => Upd.selS [] 2 ?_
  exact Upd.done (hR _ (some ⟨g2, 0, none⟩) 1 (hm_1) (hl1) (hA1))

theorem schedule_held_fn {μ : Gh} {L : List Seg} {R : Value → Gh → List Seg → Prop}  {s1 : T_api_Schedule} {A1 : Option Addr} {c1 : Nat} {res1 : (List (Int × Bool))}
    (hl1 : s1.Moves.length ≤ c1 ∧ c1 ≤ maxLen) (hA1 : ArrR r_api_Move μ A1 s1.Moves) (h : schedule_held s1 = some res1)
    (hR : ∀ (g0 : Nat) (es0 : Array MapEntry) (cn0 : Nat), MapB Value.bool es0 cn0 res1 → R (.map (some g0)) μ ([(g0, .map es0 cn0)] :: L)) :
    Fn Try.prog 27 [.agg #[.int .i64 s1.Container, .int .i64 s1.Start, .int .i64 s1.Every, .slice A1 s1.Moves.length c1]] μ L R := by
  unfold schedule_held at h
  refine Fn.of_body Tt_ok Try.func27 (by kernel_rfl) rfl Try.ntmps27 (by simp) ?_
  simp only [Try.f27, argFr, List.zipIdx, List.map, Nat.reduceAdd]
  refine WP.seq_k (fun K303 hK303 => WP.region Tt_ok (O_cons (O_box (cs := #[.int .i64 s1.Container, .int .i64 s1.Start, .int .i64 s1.Every, .slice A1 s1.Moves.length c1]) rfl rfl (fun g1 => P_some rfl (O_cons (O_read rfl (R_assign rfl (P_some rfl (O_nil (hK303 _ _ _ (WP.seq_k (fun K305 hK305 => WP.region Tt_ok (O_cons ?_)))))))))))))
  refine O_mkmap (fun g2 => P_some rfl (O_cons (O_read rfl (R_assign rfl (P_some rfl (O_nil (hK305 _ _ _ (WP.seq_k (fun K307 hK307 => WP.seq_k (fun K308 hK308 => WP.region Tt_ok (O_cons (O_read rfl (R_fa0 (o' := 3) rfl rfl rfl rfl rfl rfl ?_)))))))))))))
  refine P_some rfl (O_cons (O_read rfl (R_load rfl rfl rfl (Ex.mk _ (Cell.seg 1 0 rfl rfl rfl) (P_some rfl (O_cons (O_read rfl (R_lenS rfl rfl rfl (P_some rfl (O_cons (O_read rfl (R_move rfl (P_some rfl ?_)))))))))))))
  refine O_nil (hK308 _ _ _ ?_)
  obtain ⟨o309, h309, h⟩ := obind h
  refine WP.cutK (fun fr_ μ_ L_ => ∃ (m2 : (List (Int × Bool))) (es4 : Array MapEntry) (cn4 : Nat), m2 = o309 ∧ SubFr [(3, .map (some g2))] fr_ ∧ SegSub ([(g2, .map es4 cn4)] :: L) L_ ∧ MapB Value.bool es4 cn4 m2 ∧ μ = μ_) ?_ ?_
  · refine WP.block (WP.iter h309 (fun (j_ : (List (Int × Bool)) × Int) fr_ μ_ L_ => ounP j_ fun m1 v1 => ∃ (es1 : Array MapEntry) (cn1 : Nat), SubFr [(3, .map (some g2)), (8, .slice A1 s1.Moves.length c1), (9, .int .i64 ((s1.Moves.length : Nat) : Int)), (10, .int .i64 v1)] fr_ ∧ SegSub ([(g2, .map es1 cn1)] :: L) L_ ∧ MapB Value.bool es1 cn1 m1 ∧ μ = μ_) ⟨#[], 0, SubFr.of ⟨rfl, rfl, rfl, rfl, trivial⟩, SegSub.sel _ [some 0] 2, ((MapB.nil (enc := Value.bool))), rfl⟩ ?_)
    rintro ⟨m1, v1⟩ q322 fr322 μ322 L322 hm322 ⟨es1, cn1, hF322, hS322, hM1, hu322⟩ hb322 hq322
    unfold schedule_held_l1 at hb322
    replace hb322 := oun_mk hb322
    subst hu322
    refine WP.at hF322 hS322 (WP.seq_k (fun K326 hK326 => WP.region Tt_ok (O_cons (O_read rfl (R_lssD rfl rfl (P_some rfl (O_nil (hK326 _ _ _ (WP.seq_k (fun K327 hK327 => ?_))))))))))
    refine W_cond_v (b := (decide (v1 < ((s1.Moves.length : Nat) : Int)))) rfl (fun hc1 => ?_) (fun hc1 => ?_)
    · replace hb322 := cond_t hc1 hb322
      refine WP.skip (hK327 _ _ _ (WP.seq_k (fun K328 hK328 => WP.block (WP.seq_k (fun K329 hK329 => WP.region Tt_ok (O_cons ?_))))))
      obtain ⟨x1, hx1, hb322⟩ := obind hb322
      obtain ⟨a1, cs1, hA2, hr1, _, hc2⟩ := Rds.getI (ArrR.rds hA1 ([(g2, .map es1 cn1)] :: L)) hx1
      obtain rfl := hr1
      refine O_read rfl (R_iaG rfl rfl rfl rfl rfl rfl ⟨(getI_lt hx1).1, (getI_lt hx1).2.1⟩ hA2 (P_some rfl (O_cons (O_read rfl (R_loadA rfl rfl rfl rfl (Ex.mk [.int .i64 x1.From, .int .i64 x1.To] ⟨rfl, hc2⟩ (P_some rfl (O_cons (O_alloc (cs := #[.int .i64 0, .int .i64 0]) rfl rfl (fun g3 => P_some rfl (O_cons (O_store (vs := [.int .i64 x1.From, .int .i64 x1.To]) rfl rfl rfl rfl rfl rfl (ST_ (L' := ([(g3, .cells #[.int .i64 x1.From, .int .i64 x1.To] 39 (0, 0))] :: [(g2, .map es1 cn1)] :: L)) 0 0 rfl rfl rfl rfl ?_)))))))))))))
      refine P_none (O_nil (hK329 _ _ _ (WP.drawn (id := 5) (l' := List.replicate 8 true) wide Tt_ok [[(g3, .cells #[.int .i64 x1.From, .int .i64 x1.To] 39 (0, 0))]] (Kept.of (by simp)) [(true, 0), (true, 1), (true, 2), (true, 3), (true, 4), (true, 5), (false, 6), (false, 7)] (by kernel_rfl) (by kernel_rfl) rfl (PL_t rfl (R_move rfl (P_some rfl (PL_t rfl (R_fa0 (o' := 0) rfl rfl rfl rfl rfl rfl (P_some rfl (PL_t rfl (R_load rfl rfl rfl (Ex.mk _ (Cell.seg 0 0 rfl rfl rfl) (P_some rfl ?_)))))))))))))
      refine PL_t rfl (R_move rfl (P_some rfl (PL_t rfl (R_fa0 (o' := 1) rfl rfl rfl rfl rfl rfl (P_some rfl (PL_t rfl (R_load rfl rfl rfl (Ex.mk _ (Cell.seg 0 0 rfl rfl rfl) (P_some rfl (PL_f rfl (O_mapUpdate rfl rfl rfl (semu_mapB Tt_ok rfl rfl rfl rfl 1 (b := false) rfl hM1 rfl fun es2 cn2 hM2 => ?_))))))))))))
      refine ⟨Kept.of (by simp), ?_⟩
      refine P_none (PL_f rfl (O_mapUpdate rfl rfl rfl (semu_mapB Tt_ok rfl rfl rfl rfl 1 (b := true) rfl hM2 rfl fun es3 cn3 hM3 => ?_)))
      refine ⟨Kept.of (by simp), ?_⟩
      refine P_none (PL_nil (AN.done0 (by kernel_rfl) (hK328 _ _ _ (WP.region Tt_ok (O_cons (O_read rfl (R_add rfl rfl (P_some rfl (O_cons (O_read rfl (R_move rfl (P_some rfl (O_nil ?_)))))))))))))
      have e_ := Option.some.inj hb322
      subst e_
      exact ⟨_, rfl, es3, cn3, SubFr.of ⟨rfl, rfl, rfl, rfl, trivial⟩, SegSub.sel _ [some 1] 2, (hM3), rfl⟩
    replace hb322 := cond_f hc1 hb322
    refine WP.exit (B_here ?_)
    have e_ := Option.some.inj hb322
    subst e_
    have hq_ := hq322 _ rfl
    subst hq_
    exact ⟨m1, es1, cn1, rfl, SubFr.of ⟨rfl, trivial⟩, SegSub.sel _ [some 0] 1, (hM1), rfl⟩
  rintro fr309 μ309 L309 hm309 ⟨m2, es4, cn4, ho309, hF309, hS309, hM4, hu309⟩
  subst ho309
  subst hu309
  refine hK307 _ _ _ (WP.at hF309 hS309 (WP.seq_k (fun K337 hK337 => WP.region Tt_ok (O_cons (O_read rfl (R_move rfl (P_some rfl (O_cons (O_read rfl (R_assign rfl (P_some rfl (O_nil (hK337 _ _ _ ?_)))))))))))))
  apply WP.ret
  have e_ := Option.some.inj h
  subst e_
  refine S_tmp rfl (S_nil (Upd.selS [some 0] 1 ?_))
  exact Upd.done (hR g2 es4 cn4 (hM4))

theorem schedule_due_fn {μ : Gh} {L : List Seg} {R : Value → Gh → List Seg → Prop}  {s1 : T_api_Schedule} {moved1 : (List (Int × Bool))} {d1 : Int} {A1 : Option Addr} {c1 : Nat} {g1 : Nat} {es1 : Array MapEntry} {cn1 : Nat} {res1 : Bool}
    (hl1 : s1.Moves.length ≤ c1 ∧ c1 ≤ maxLen) (hA1 : ArrR r_api_Move μ A1 s1.Moves) (ho1 : ObjAt μ L g1 (.map es1 cn1)) (hM1 : MapB Value.bool es1 cn1 moved1) (h : schedule_due s1 moved1 d1 = some res1)
    (hR : R (.bool res1) μ (L)) :
    Fn Try.prog 26 [.agg #[.int .i64 s1.Container, .int .i64 s1.Start, .int .i64 s1.Every, .slice A1 s1.Moves.length c1], .map (some g1), .int .i64 d1] μ L R := by
  unfold schedule_due at h
  refine Fn.of_body Tt_ok Try.func26 (by kernel_rfl) rfl Try.ntmps26 (by simp) ?_
  simp only [Try.f26, argFr, List.zipIdx, List.map, Nat.reduceAdd]
  refine WP.seq_k (fun K362 hK362 => WP.region Tt_ok (O_cons (O_box (cs := #[.int .i64 s1.Container, .int .i64 s1.Start, .int .i64 s1.Every, .slice A1 s1.Moves.length c1]) rfl rfl (fun g2 => P_some rfl (O_cons (O_read rfl (R_assign rfl (P_some rfl (O_nil (hK362 _ _ _ (WP.seq_k (fun K364 hK364 => WP.seq_k (fun K365 hK365 => WP.region Tt_ok ?_)))))))))))))
  refine O_cons (O_read rfl (R_move rfl (P_some rfl (O_cons (O_read rfl (R_move rfl (P_some rfl (O_cons (O_read rfl (R_look rfl rfl rfl rfl rfl rfl rfl rfl (Ex.mk _ (hM1.look (ObjAt.push ho1) (zb := false) rfl d1) (P_some rfl (O_cons ?_)))))))))))))
  refine O_read rfl (R_move rfl (P_some rfl (O_cons (O_read rfl (R_ext rfl rfl (P_some rfl (O_cons (O_read rfl (R_ext rfl rfl (P_some rfl (O_cons (O_read rfl (R_assign rfl ?_)))))))))))))
  refine P_some rfl (O_cons (O_read rfl (R_assign rfl (P_some rfl (O_nil (hK365 _ _ _ (WP.seq_k (fun K366 hK366 => WP.region Tt_ok (O_cons (O_read rfl (R_move rfl (P_some rfl (O_nil ?_)))))))))))))
  refine hK366 _ _ _ ?_
  refine W_cond_v (b := (mget d1 moved1).isSome) rfl (fun hc1 => ?_) (fun hc1 => ?_)
  · replace h := cond_t hc1 h
    refine WP.seq_k (fun K367 hK367 => WP.region Tt_ok (O_cons (O_read rfl (R_move rfl (P_some rfl (O_cons (O_read rfl (R_assign rfl (P_some rfl (O_nil (hK367 _ _ _ (WP.ret ?_))))))))))))
    have e_ := Option.some.inj h
    subst e_
    refine S_tmp rfl (S_nil (Upd.selS [] 1 ?_))
    exact Upd.done hR
  replace h := cond_f hc1 h
  refine WP.skip (hK364 _ _ _ (WP.seq_k (fun K368 hK368 => WP.region Tt_ok (O_cons (O_read rfl (R_loadA rfl rfl rfl rfl (LA_ (vs := [.int .i64 s1.Container, .int .i64 s1.Start, .int .i64 s1.Every, .slice A1 s1.Moves.length c1]) 0 0 rfl rfl rfl rfl (P_some rfl (O_cons (O_read rfl (R_move rfl (P_some rfl (O_cons ?_)))))))))))))
  apply O_call (all := [.agg #[.int .i64 s1.Container, .int .i64 s1.Start, .int .i64 s1.Every, .slice A1 s1.Moves.length c1], .int .i64 d1]); exact rfl; exact rfl; exact rfl
  obtain ⟨r1, hx1, h⟩ := obind h
  refine schedule_pattern_fn hl1 hA1 hx1 ((P_some rfl (O_cons (O_read rfl (R_assign rfl (P_some rfl (O_nil (hK368 _ _ _ (WP.ret ?_)))))))))
  have e_ := Option.some.inj h
  subst e_
  refine S_tmp rfl (S_nil (Upd.selS [] 1 ?_))
  exact Upd.done hR

theorem schedule_Days_fn {μ : Gh} {L : List Seg} {R : Value → Gh → List Seg → Prop} {F : Nat} {s1 : T_api_Schedule} {f_from1 : Int} {f_to1 : Int} {A1 : Option Addr} {c1 : Nat} {res1 : (List Int)} {res2 : Int}
    (hl1 : s1.Moves.length ≤ c1 ∧ c1 ≤ maxLen) (hA1 : ArrR r_api_Move μ A1 s1.Moves) (h : schedule_Days F s1 f_from1 f_to1 = some (res1, res2))
    (hR : ∀ (A0 : Option Addr) (c0 : Nat) (ch0 : Seg), Own rInt 3 μ (.slice A0 res1.length c0) res1 ch0 → R (.tuple #[.slice A0 res1.length c0, .int .i64 res2]) μ (ch0 :: L)) :
    Fn Try.prog 15 [.agg #[.int .i64 s1.Container, .int .i64 s1.Start, .int .i64 s1.Every, .slice A1 s1.Moves.length c1], .int .i64 f_from1, .int .i64 f_to1] μ L R := by
  unfold schedule_Days at h
  refine Fn.of_body Tt_ok Try.func15 (by kernel_rfl) rfl Try.ntmps15 (by simp) ?_
  simp only [Try.f15, argFr, List.zipIdx, List.map, Nat.reduceAdd]
  refine WP.seq_k (fun K283 hK283 => WP.region Tt_ok (O_cons (O_box (cs := #[.int .i64 s1.Container, .int .i64 s1.Start, .int .i64 s1.Every, .slice A1 s1.Moves.length c1]) rfl rfl (fun g1 => P_some rfl (O_cons (O_read rfl (R_assign rfl (P_some rfl (O_cons (O_read rfl (R_assign rfl (P_some rfl (O_nil ?_)))))))))))))
  refine hK283 _ _ _ (WP.seq_k (fun K287 hK287 => WP.seq_k (fun K288 hK288 => WP.region Tt_ok (O_cons (O_read rfl (R_loadA rfl rfl rfl rfl (LA_ (vs := [.int .i64 s1.Container, .int .i64 s1.Start, .int .i64 s1.Every, .slice A1 s1.Moves.length c1]) 0 0 rfl rfl rfl rfl (P_some rfl (O_cons (O_call (all := [.agg #[.int .i64 s1.Container, .int .i64 s1.Start, .int .i64 s1.Every, .slice A1 s1.Moves.length c1]]) rfl rfl rfl ?_))))))))))
  obtain ⟨r1, hx1, h⟩ := obind h
  refine schedule_Check_fn hl1 hA1 hx1 ((P_some rfl (O_cons (O_read rfl (R_assign rfl (P_some rfl (O_nil (hK288 _ _ _ (WP.seq_k (fun K289 hK289 => WP.region Tt_ok (O_cons (O_read rfl (R_move rfl (P_some rfl ?_))))))))))))))
  refine O_cons (O_read rfl (R_neqD rfl rfl (P_some rfl (O_nil (hK289 _ _ _ ?_)))))
  refine W_cond_v (b := !(decide (r1 = 0))) rfl (fun hc1 => ?_) (fun hc1 => ?_)
  · replace h := cond_t hc1 h
    refine WP.seq_k (fun K290 hK290 => WP.region Tt_ok (O_cons (O_read rfl (R_move rfl (P_some rfl (O_cons (O_read rfl (R_assign rfl (P_some rfl (O_cons (O_read rfl (R_assign rfl (P_some rfl ?_)))))))))))))
    refine O_nil (hK290 _ _ _ (WP.ret ?_))
    have e_ := Option.some.inj h
    obtain ⟨e0a_, e0b_⟩ := Prod.mk.inj e_
    clear e_
    subst e0a_
    subst e0b_
    refine S_tmp rfl (S_tmp rfl (S_nil (Upd.selS [none] 1 ?_)))
    exact Upd.done (hR none 0 [] (Own.nil))
  replace h := cond_f hc1 h
  refine WP.skip (hK287 _ _ _ (WP.seq_k (fun K293 hK293 => WP.seq_k (fun K294 hK294 => ?_))))
  obtain ⟨o295, h295, h⟩ := obind h
  refine WP.cutK (fun fr_ μ_ L_ => ∃ (v1 : Bool), v1 = o295 ∧ SubFr [(1, .int .i64 f_from1), (2, .int .i64 f_to1), (3, .pointer (some ⟨g1, 0, none⟩)), (30, .bool v1)] fr_ ∧ SegSub ([(g1, .cells #[.int .i64 s1.Container, .int .i64 s1.Start, .int .i64 s1.Every, .slice A1 s1.Moves.length c1] 24 (0, 0))] :: L) L_ ∧ μ = μ_) ?_ ?_
  · refine WP.region Tt_ok (O_cons (O_read rfl (R_move rfl (P_some rfl (O_cons (O_read rfl (R_lssD rfl rfl (P_some rfl (O_cons (O_read rfl (R_move rfl (P_some rfl ?_))))))))))))
    refine O_gv (z := (decide (f_from1 < 0))) rfl rfl (fun hc2 => ?_) (fun hc2 => ?_)
    · replace h295 := cond_f hc2 h295
      refine O_read rfl (R_move rfl (P_some rfl (O_gY rfl rfl hc2 (O_read rfl (R_move rfl (P_some rfl (O_gY rfl rfl hc2 (O_read rfl (R_gtrD rfl rfl (P_some rfl (O_cons (O_read rfl (R_pick_F rfl hc2 rfl ?_)))))))))))))
      refine P_some rfl (O_cons (O_read rfl (R_move rfl (P_some rfl ?_))))
      refine O_gv (z := (decide (f_to1 < f_from1))) rfl rfl (fun hc3 => ?_) (fun hc3 => ?_)
      · replace h295 := cond_f hc3 h295
        refine O_read rfl (R_move rfl (P_some rfl (O_gY rfl rfl hc3 (O_read rfl (R_gtrD rfl rfl (P_some rfl (O_cons (O_read rfl (R_pick_F rfl hc3 rfl (P_some rfl (O_nil ?_)))))))))))
        have e_ := Option.some.inj h295
        subst e_
        exact ⟨(decide (36525 < f_to1)), rfl, SubFr.of ⟨rfl, rfl, rfl, rfl, trivial⟩, SegSub.sel _ [some 0] 1, rfl⟩
      replace h295 := cond_t hc3 h295
      refine P_some rfl (O_gN rfl rfl hc3 (P_some rfl (O_cons (O_read rfl (R_pick_T rfl hc3 rfl (P_some rfl (O_nil ?_)))))))
      have e_ := Option.some.inj h295
      subst e_
      exact ⟨true, rfl, SubFr.of ⟨rfl, rfl, rfl, rfl, trivial⟩, SegSub.sel _ [some 0] 1, rfl⟩
    replace h295 := cond_t hc2 h295
    refine P_some rfl (O_gN rfl rfl hc2 (P_some rfl (O_gN rfl rfl hc2 (P_some rfl (O_cons (O_read rfl (R_pick_T rfl hc2 rfl (P_some rfl (O_cons (O_read rfl (R_move rfl (P_some rfl (O_gN rfl rfl rfl ?_)))))))))))))
    refine P_some rfl (O_gN rfl rfl rfl (P_some rfl (O_cons (O_read rfl (R_pick_T rfl rfl rfl (P_some rfl (O_nil ?_)))))))
    have e_ := Option.some.inj h295
    subst e_
    exact ⟨true, rfl, SubFr.of ⟨rfl, rfl, rfl, rfl, trivial⟩, SegSub.sel _ [some 0] 1, rfl⟩
  rintro fr295 μ295 L295 hm295 ⟨v1, ho295, hF295, hS295, hu295⟩
  subst ho295
  subst hu295
  refine hK294 _ _ _ (WP.at hF295 hS295 ?_)
  refine W_cond_v (b := v1) rfl (fun hc4 => ?_) (fun hc4 => ?_)
  · replace h := cond_t hc4 h
    refine WP.seq_k (fun K298 hK298 => WP.region Tt_ok (O_cons (O_read rfl (R_assign rfl (P_some rfl (O_cons (O_read rfl (R_assign rfl (P_some rfl (O_nil (hK298 _ _ _ (WP.ret ?_))))))))))))
    have e_ := Option.some.inj h
    obtain ⟨e0a_, e0b_⟩ := Prod.mk.inj e_
    clear e_
    subst e0a_
    subst e0b_
    refine S_tmp rfl (S_tmp rfl (S_nil (Upd.selS [none] 1 ?_)))
    exact Upd.done (hR none 0 [] (Own.nil))
  replace h := cond_f hc4 h
  refine WP.skip (hK293 _ _ _ (WP.seq_k (fun K301 hK301 => WP.region Tt_ok (O_cons (O_read rfl (R_loadA rfl rfl rfl rfl (LA_ (vs := [.int .i64 s1.Container, .int .i64 s1.Start, .int .i64 s1.Every, .slice A1 s1.Moves.length c1]) 0 0 rfl rfl rfl rfl (P_some rfl (O_cons (O_call (all := [.agg #[.int .i64 s1.Container, .int .i64 s1.Start, .int .i64 s1.Every, .slice A1 s1.Moves.length c1]]) rfl rfl rfl ?_))))))))))
  obtain ⟨r2, hx2, h⟩ := obind h
  refine schedule_held_fn hl1 hA1 hx2 (fun g2 es1 cn1 hM1 => P_some rfl (O_cons (O_read rfl (R_assign rfl (P_some rfl (O_nil (hK301 _ _ _ (WP.seq_k (fun K339 hK339 => WP.region Tt_ok (O_cons (O_read rfl (R_assign rfl (P_some rfl ?_)))))))))))))
  refine O_nil (hK339 _ _ _ (WP.seq_k (fun K342 hK342 => WP.region Tt_ok (O_cons (O_read rfl (R_fa0 (o' := 1) rfl rfl rfl rfl rfl rfl (P_some rfl (O_cons (O_read rfl (R_load rfl rfl rfl (Ex.mk _ (Cell.seg 1 0 rfl rfl rfl) (P_some rfl (O_cons ?_)))))))))))))
  refine O_read rfl (R_assign rfl (P_some rfl (O_nil (hK342 _ _ _ (WP.seq_k (fun K343 hK343 => WP.seq_k (fun K344 hK344 => WP.region Tt_ok (O_cons (O_read rfl (R_move rfl (P_some rfl (O_cons (O_read rfl ?_)))))))))))))
  refine R_move rfl (P_some rfl (O_cons (O_read rfl (R_gtrD rfl rfl (P_some rfl (O_nil (hK344 _ _ _ ?_)))))))
  obtain ⟨o345, h345, h⟩ := obind h
  refine WP.cutK (fun fr_ μ_ L_ => ∃ (first1 : Int), first1 = o345 ∧ SubFr [(1, .int .i64 f_from1), (2, .int .i64 f_to1), (3, .pointer (some ⟨g1, 0, none⟩)), (9, .map (some g2)), (10, .slice none 0 0), (11, .int .i64 first1)] fr_ ∧ SegSub ([(g1, .cells #[.int .i64 s1.Container, .int .i64 s1.Start, .int .i64 s1.Every, .slice A1 s1.Moves.length c1] 24 (0, 0))] :: [(g2, .map es1 cn1)] :: L) L_ ∧ μ = μ_) ?_ ?_
  · refine W_cond_v (b := (decide (s1.Start < f_from1))) rfl (fun hc5 => ?_) (fun hc5 => ?_)
    · replace h345 := cond_t hc5 h345
      refine WP.drawn (id := 10) (l' := List.replicate 16 true) wide Tt_ok _ Kept.refl [(true, 0), (true, 1), (true, 2), (true, 3), (true, 4), (true, 5), (true, 6), (true, 7), (true, 8), (true, 9), (true, 10), (true, 11), (true, 12), (true, 13), (true, 14), (true, 15)] (by kernel_rfl) (by kernel_rfl) rfl (PL_t rfl (R_move rfl (P_some rfl (PL_t rfl (R_move rfl (P_some rfl (PL_t rfl (R_move rfl (P_some rfl (PL_t rfl (R_sub rfl rfl (P_some rfl (PL_t rfl ?_)))))))))))))
      refine R_fa0 (o' := 2) rfl rfl rfl rfl rfl rfl (P_some rfl (PL_t rfl (R_load rfl rfl rfl (Ex.mk _ (Cell.seg 1 0 rfl rfl rfl) (P_some rfl (PL_t rfl (R_add rfl rfl (P_some rfl (PL_t rfl (R_sub rfl rfl (P_some rfl (PL_t rfl (R_fa0 (o' := 2) rfl rfl rfl rfl rfl rfl ?_)))))))))))))
      refine P_some rfl (PL_t rfl (R_load rfl rfl rfl (Ex.mk _ (Cell.seg 1 0 rfl rfl rfl) (P_some rfl (PL_t rfl (R_quo rfl rfl ?_))))))
      obtain ⟨u1, hg1, h345⟩ := obind h345
      refine ⟨guardO_some hg1, ?_⟩
      refine P_some rfl (PL_t rfl (R_fa0 (o' := 2) rfl rfl rfl rfl rfl rfl (P_some rfl (PL_t rfl (R_load rfl rfl rfl (Ex.mk _ (Cell.seg 1 0 rfl rfl rfl) (P_some rfl (PL_t rfl (R_mul rfl rfl (P_some rfl (PL_t rfl (R_add rfl rfl (P_some rfl ?_)))))))))))))
      refine PL_t rfl (R_assign rfl (P_some rfl (PL_nil (AN.done0 (by kernel_rfl) ?_))))
      have e_ := Option.some.inj h345
      subst e_
      exact ⟨w64 (s1.Start + (w64 ((w64 (Int.tdiv (w64 ((w64 ((w64 (f_from1 - s1.Start)) + s1.Every)) - 1)) s1.Every)) * s1.Every))), rfl, SubFr.of ⟨rfl, rfl, rfl, rfl, rfl, rfl, trivial⟩, SegSub.sel _ [some 1, some 0] 2, rfl⟩
    replace h345 := cond_f hc5 h345
    apply WP.skip
    have e_ := Option.some.inj h345
    subst e_
    exact ⟨s1.Start, rfl, SubFr.of ⟨rfl, rfl, rfl, rfl, rfl, rfl, trivial⟩, SegSub.sel _ [some 1, some 0] 2, rfl⟩
  rintro fr345 μ345 L345 hm345 ⟨first1, ho345, hF345, hS345, hu345⟩
  subst ho345
  subst hu345
  refine hK343 _ _ _ (WP.at hF345 hS345 (WP.seq_k (fun K348 hK348 => WP.seq_k (fun K349 hK349 => WP.region Tt_ok (O_cons (O_read rfl (R_move rfl (P_some rfl (O_cons (O_read rfl (R_assign rfl (P_some rfl (O_nil ?_)))))))))))))
  refine hK349 _ _ _ ?_
  obtain ⟨o350, h350, h⟩ := obind h
  refine WP.cutK (fun fr_ μ_ L_ => ∃ (out3 : (List Int)) (A5 : Option Addr) (c5 : Nat) (ch4 : Seg), out3 = o350 ∧ SubFr [(1, .int .i64 f_from1), (2, .int .i64 f_to1), (3, .pointer (some ⟨g1, 0, none⟩)), (10, .slice A5 out3.length c5)] fr_ ∧ SegSub ([(g1, .cells #[.int .i64 s1.Container, .int .i64 s1.Start, .int .i64 s1.Every, .slice A1 s1.Moves.length c1] 24 (0, 0))] :: ch4 :: L) L_ ∧ Own rInt 3 μ_ (.slice A5 out3.length c5) out3 ch4 ∧ μ = μ_) ?_ ?_
  · refine WP.block (WP.iter h350 (fun (j_ : (List Int) × Int) fr_ μ_ L_ => ounP j_ fun out1 d1 => ∃ (A2 : Option Addr) (c2 : Nat) (ch1 : Seg), SubFr [(1, .int .i64 f_from1), (2, .int .i64 f_to1), (3, .pointer (some ⟨g1, 0, none⟩)), (9, .map (some g2)), (10, .slice A2 out1.length c2), (12, .int .i64 d1)] fr_ ∧ SegSub ([(g1, .cells #[.int .i64 s1.Container, .int .i64 s1.Start, .int .i64 s1.Every, .slice A1 s1.Moves.length c1] 24 (0, 0))] :: [(g2, .map es1 cn1)] :: ch1 :: L) L_ ∧ Own rInt 3 μ_ (.slice A2 out1.length c2) out1 ch1 ∧ μ = μ_) ⟨none, 0, [], SubFr.of ⟨rfl, rfl, rfl, rfl, rfl, rfl, trivial⟩, SegSub.sel _ [some 0, some 1, none] 2, (Own.nil), rfl⟩ ?_)
    rintro ⟨out1, d1⟩ q375 fr375 μ375 L375 hm375 ⟨A2, c2, ch1, hF375, hS375, hO1, hu375⟩ hb375 hq375
    unfold schedule_Days_l1 at hb375
    replace hb375 := oun_mk hb375
    subst hu375
    refine WP.at hF375 hS375 (WP.seq_k (fun K381 hK381 => WP.seq_k (fun K382 hK382 => WP.region Tt_ok (O_cons (O_read rfl (R_move rfl (P_some rfl (O_cons (O_read rfl (R_move rfl (P_some rfl (O_cons (O_read rfl ?_)))))))))))))
    refine R_lssD rfl rfl (P_some rfl (O_nil (hK382 _ _ _ ?_)))
    refine W_cond_v (b := (decide (d1 < f_to1))) rfl (fun hc6 => ?_) (fun hc6 => ?_)
    · replace hb375 := cond_t hc6 hb375
      refine WP.skip (hK381 _ _ _ (WP.seq_k (fun K383 hK383 => ?_)))
      obtain ⟨o384, h384, hb375⟩ := obind hb375
      refine WP.cutK (fun fr_ μ_ L_ => ∃ (out2 : (List Int)) (A4 : Option Addr) (c4 : Nat) (ch3 : Seg), out2 = o384 ∧ SubFr [(1, .int .i64 f_from1), (2, .int .i64 f_to1), (3, .pointer (some ⟨g1, 0, none⟩)), (9, .map (some g2)), (10, .slice A4 out2.length c4), (12, .int .i64 d1)] fr_ ∧ SegSub ([(g1, .cells #[.int .i64 s1.Container, .int .i64 s1.Start, .int .i64 s1.Every, .slice A1 s1.Moves.length c1] 24 (0, 0))] :: [(g2, .map es1 cn1)] :: ch3 :: L) L_ ∧ Own rInt 3 μ_ (.slice A4 out2.length c4) out2 ch3 ∧ μ = μ_) ?_ ?_
      · refine WP.block (WP.seq_k (fun K385 hK385 => WP.region Tt_ok (O_cons (O_read rfl (R_loadA rfl rfl rfl rfl (LA_ (vs := [.int .i64 s1.Container, .int .i64 s1.Start, .int .i64 s1.Every, .slice A1 s1.Moves.length c1]) 0 0 rfl rfl rfl rfl (P_some rfl (O_cons (O_read rfl (R_move rfl (P_some rfl (O_cons (O_read rfl ?_)))))))))))))
        refine R_move rfl (P_some rfl (O_cons (O_call (all := [.agg #[.int .i64 s1.Container, .int .i64 s1.Start, .int .i64 s1.Every, .slice A1 s1.Moves.length c1], .map (some g2), .int .i64 d1]) rfl rfl rfl ?_)))
        obtain ⟨r3, hx3, h384⟩ := obind h384
        refine schedule_due_fn hl1 hA1 (ObjAt.seg 1 0 rfl rfl) hM1 hx3 ((P_some rfl (O_nil (hK385 _ _ _ ?_))))
        refine W_cond_v (b := r3) rfl (fun hc7 => ?_) (fun hc7 => ?_)
        · replace h384 := cond_t hc7 h384
          refine WP.region Tt_ok (O_cons (O_read rfl (R_move rfl (P_some rfl (O_cons (O_read rfl (R_move rfl (P_some rfl (O_cons (O_bsl (z := [.int .i64 0]) rfl rfl rfl rfl rfl rfl rfl (F_cons (cells' := [.int .i64 d1]) rfl rfl rfl rfl (F_nil (fun g3 => P_some rfl ?_)))))))))))))
          refine O_cons (O_append rfl ?_)
          obtain ⟨l1, hz1, h384⟩ := obind h384
          refine sem_appR (r := rInt) Tt_ok rfl rfl rfl rfl (by decide) rfl rfl 3 rfl hO1 rfl (Own.rds (L := ([(g3, .cells #[.int .i64 d1] 3 (0, 0))] :: [(g1, .cells #[.int .i64 s1.Container, .int .i64 s1.Start, .int .i64 s1.Every, .slice A1 s1.Moves.length c1] 24 (0, 0))] :: [(g2, .map es1 cn1)] :: ch1 :: L)) (Own.lit (r := rInt) (e := 3) (g := g3) (xs := [d1]) (cs := [.int .i64 d1]) (css := [[.int .i64 d1]]) rfl (All2.cons (rfl) (All2.nil)) rfl rfl) 0 rfl) hz1 fun A3 c3 ch2 hO2 => P_some rfl (O_cons (O_read rfl (R_assign rfl (P_some rfl (O_nil ?_)))))
          have e_ := Option.some.inj h384
          subst e_
          exact ⟨l1, A3, c3, ch2, rfl, SubFr.of ⟨rfl, rfl, rfl, rfl, rfl, rfl, trivial⟩, SegSub.sel _ [some 1, some 2, some 3] 4, (hO2), rfl⟩
        replace h384 := cond_f hc7 h384
        apply WP.skip
        have e_ := Option.some.inj h384
        subst e_
        exact ⟨out1, A2, c2, ch1, rfl, SubFr.of ⟨rfl, rfl, rfl, rfl, rfl, rfl, trivial⟩, SegSub.sel _ [some 0, some 1, some 2] 3, (hO1), rfl⟩
      rintro fr384 μ384 L384 hm384 ⟨out2, A4, c4, ch3, ho384, hF384, hS384, hO3, hu384⟩
      subst ho384
      subst hu384
      refine hK383 _ _ _ (WP.at hF384 hS384 (WP.region Tt_ok (O_cons (O_read rfl (R_move rfl (P_some rfl (O_cons (O_read rfl (R_fa0 (o' := 2) rfl rfl rfl rfl rfl rfl (P_some rfl (O_cons (O_read rfl (R_load rfl rfl rfl ?_)))))))))))))
      refine Ex.mk _ (Cell.seg 0 0 rfl rfl rfl) (P_some rfl (O_cons (O_read rfl (R_add rfl rfl (P_some rfl (O_cons (O_read rfl (R_assign rfl (P_some rfl (O_nil ?_))))))))))
      have e_ := Option.some.inj hb375
      subst e_
      exact ⟨_, rfl, A4, c4, ch3, SubFr.of ⟨rfl, rfl, rfl, rfl, rfl, rfl, trivial⟩, SegSub.sel _ [some 0, some 1, some 2] 3, (hO3), rfl⟩
    replace hb375 := cond_f hc6 hb375
    refine WP.exit (B_here ?_)
    have e_ := Option.some.inj hb375
    subst e_
    have hq_ := hq375 _ rfl
    subst hq_
    exact ⟨out1, A2, c2, ch1, rfl, SubFr.of ⟨rfl, rfl, rfl, rfl, trivial⟩, SegSub.sel _ [some 0, some 2] 3, (hO1), rfl⟩
  rintro fr350 μ350 L350 hm350 ⟨out3, A5, c5, ch4, ho350, hF350, hS350, hO4, hu350⟩
  subst ho350
  subst hu350
  refine hK348 _ _ _ (WP.at hF350 hS350 (WP.seq_k (fun K394 hK394 => WP.seq_k (fun K395 hK395 => WP.region Tt_ok (O_cons (O_read rfl (R_fa0 (o' := 3) rfl rfl rfl rfl rfl rfl (P_some rfl (O_cons (O_read rfl (R_load rfl rfl rfl (Ex.mk _ (Cell.seg 0 0 rfl rfl rfl) (P_some rfl ?_)))))))))))))
  refine O_cons (O_read rfl (R_lenS rfl rfl rfl (P_some rfl (O_cons (O_read rfl (R_move rfl (P_some rfl (O_nil (hK395 _ _ _ ?_)))))))))
  obtain ⟨o396, h396, h⟩ := obind h
  refine WP.cutK (fun fr_ μ_ L_ => ∃ (out6 : (List Int)) (A9 : Option Addr) (c9 : Nat) (ch8 : Seg), out6 = o396 ∧ SubFr [(10, .slice A9 out6.length c9)] fr_ ∧ SegSub (ch8 :: L) L_ ∧ Own rInt 3 μ_ (.slice A9 out6.length c9) out6 ch8 ∧ μ = μ_) ?_ ?_
  · refine WP.block (WP.iter h396 (fun (j_ : (List Int) × Int) fr_ μ_ L_ => ounP j_ fun out4 v2 => ∃ (A6 : Option Addr) (c6 : Nat) (ch5 : Seg), SubFr [(1, .int .i64 f_from1), (2, .int .i64 f_to1), (10, .slice A6 out4.length c6), (70, .slice A1 s1.Moves.length c1), (71, .int .i64 ((s1.Moves.length : Nat) : Int)), (72, .int .i64 v2)] fr_ ∧ SegSub (ch5 :: L) L_ ∧ Own rInt 3 μ_ (.slice A6 out4.length c6) out4 ch5 ∧ μ = μ_) ⟨A5, c5, ch4, SubFr.of ⟨rfl, rfl, rfl, rfl, rfl, rfl, trivial⟩, SegSub.sel _ [some 1] 2, (hO4), rfl⟩ ?_)
    rintro ⟨out4, v2⟩ q413 fr413 μ413 L413 hm413 ⟨A6, c6, ch5, hF413, hS413, hO5, hu413⟩ hb413 hq413
    unfold schedule_Days_l2 at hb413
    replace hb413 := oun_mk hb413
    subst hu413
    refine WP.at hF413 hS413 (WP.seq_k (fun K416 hK416 => WP.region Tt_ok (O_cons (O_read rfl (R_lssD rfl rfl (P_some rfl (O_nil (hK416 _ _ _ (WP.seq_k (fun K417 hK417 => ?_))))))))))
    refine W_cond_v (b := (decide (v2 < ((s1.Moves.length : Nat) : Int)))) rfl (fun hc8 => ?_) (fun hc8 => ?_)
    · replace hb413 := cond_t hc8 hb413
      refine WP.skip (hK417 _ _ _ (WP.seq_k (fun K418 hK418 => ?_)))
      obtain ⟨o419, h419, hb413⟩ := obind hb413
      refine WP.cutK (fun fr_ μ_ L_ => ∃ (out5 : (List Int)) (A8 : Option Addr) (c8 : Nat) (ch7 : Seg), out5 = o419 ∧ SubFr [(1, .int .i64 f_from1), (2, .int .i64 f_to1), (10, .slice A8 out5.length c8), (70, .slice A1 s1.Moves.length c1), (71, .int .i64 ((s1.Moves.length : Nat) : Int)), (72, .int .i64 v2)] fr_ ∧ SegSub (ch7 :: L) L_ ∧ Own rInt 3 μ_ (.slice A8 out5.length c8) out5 ch7 ∧ μ = μ_) ?_ ?_
      · refine WP.block (WP.seq_k (fun K420 hK420 => WP.region Tt_ok (O_cons ?_)))
        obtain ⟨x1, hx4, h419⟩ := obind h419
        obtain ⟨a1, cs1, hA2, hr1, _, hc9⟩ := Rds.getI (ArrR.rds hA1 (ch5 :: L)) hx4
        obtain rfl := hr1
        refine O_read rfl (R_iaG rfl rfl rfl rfl rfl rfl ⟨(getI_lt hx4).1, (getI_lt hx4).2.1⟩ hA2 (P_some rfl (O_cons (O_read rfl (R_loadA rfl rfl rfl rfl (Ex.mk [.int .i64 x1.From, .int .i64 x1.To] ⟨rfl, hc9⟩ (P_some rfl (O_cons (O_alloc (cs := #[.int .i64 0, .int .i64 0]) rfl rfl (fun g4 => P_some rfl (O_cons (O_store (vs := [.int .i64 x1.From, .int .i64 x1.To]) rfl rfl rfl rfl rfl rfl (ST_ (L' := ([(g4, .cells #[.int .i64 x1.From, .int .i64 x1.To] 39 (0, 0))] :: ch5 :: L)) 0 0 rfl rfl rfl rfl ?_)))))))))))))
        refine P_none (O_nil (hK420 _ _ _ (WP.seq_k (fun K423 hK423 => ?_))))
        obtain ⟨o424, h424, h419⟩ := obind h419
        refine WP.cutK (fun fr_ μ_ L_ => ∃ (v3 : Bool), v3 = o424 ∧ SubFr [(1, .int .i64 f_from1), (2, .int .i64 f_to1), (10, .slice A6 out4.length c6), (14, .pointer (some ⟨g4, 0, none⟩)), (70, .slice A1 s1.Moves.length c1), (71, .int .i64 ((s1.Moves.length : Nat) : Int)), (72, .int .i64 v2), (85, .bool v3)] fr_ ∧ SegSub (ch5 :: [(g4, .cells #[.int .i64 x1.From, .int .i64 x1.To] 39 (0, 0))] :: L) L_ ∧ μ = μ_) ?_ ?_
        · refine WP.region Tt_ok (O_cons (O_read rfl (R_move rfl (P_some rfl (O_cons (O_read rfl (R_fa0 (o' := 1) rfl rfl rfl rfl rfl rfl (P_some rfl (O_cons (O_read rfl (R_load rfl rfl rfl (Ex.mk _ (Cell.seg 0 0 rfl rfl rfl) (P_some rfl ?_)))))))))))))
          refine O_cons (O_read rfl (R_leqD rfl rfl (P_some rfl (O_cons (O_read rfl (R_move rfl (P_some rfl ?_)))))))
          refine O_gv (z := (decide (f_from1 ≤ x1.To))) rfl rfl (fun hc10 => ?_) (fun hc10 => ?_)
          · replace h424 := cond_t hc10 h424
            refine O_read rfl (R_fa0 (o' := 1) rfl rfl rfl rfl rfl rfl (P_some rfl (O_gY rfl rfl hc10 (O_read rfl (R_load rfl rfl rfl (Ex.mk _ (Cell.seg 0 0 rfl rfl rfl) (P_some rfl (O_gY rfl rfl hc10 (O_read rfl (R_move rfl (P_some rfl (O_gY rfl rfl hc10 (O_read rfl ?_)))))))))))))
            refine R_lssD rfl rfl (P_some rfl (O_cons (O_read rfl (R_pick_T rfl hc10 rfl (P_some rfl (O_nil ?_))))))
            have e_ := Option.some.inj h424
            subst e_
            exact ⟨(decide (x1.To < f_to1)), rfl, SubFr.of ⟨rfl, rfl, rfl, rfl, rfl, rfl, rfl, rfl, trivial⟩, SegSub.sel _ [some 1, some 0] 2, rfl⟩
          replace h424 := cond_f hc10 h424
          refine P_some rfl (O_gN rfl rfl hc10 (P_some rfl (O_gN rfl rfl hc10 (P_some rfl (O_gN rfl rfl hc10 (P_some rfl (O_cons (O_read rfl (R_pick_F rfl hc10 rfl (P_some rfl (O_nil ?_)))))))))))
          have e_ := Option.some.inj h424
          subst e_
          exact ⟨false, rfl, SubFr.of ⟨rfl, rfl, rfl, rfl, rfl, rfl, rfl, rfl, trivial⟩, SegSub.sel _ [some 1, some 0] 2, rfl⟩
        rintro fr424 μ424 L424 hm424 ⟨v3, ho424, hF424, hS424, hu424⟩
        subst ho424
        subst hu424
        refine hK423 _ _ _ (WP.at hF424 hS424 ?_)
        refine W_cond_v (b := v3) rfl (fun hc11 => ?_) (fun hc11 => ?_)
        · replace h419 := cond_t hc11 h419
          refine WP.region Tt_ok (O_cons (O_read rfl (R_move rfl (P_some rfl (O_cons (O_read rfl (R_fa0 (o' := 1) rfl rfl rfl rfl rfl rfl (P_some rfl (O_cons (O_read rfl (R_load rfl rfl rfl (Ex.mk _ (Cell.seg 1 0 rfl rfl rfl) (P_some rfl ?_)))))))))))))
          refine O_cons (O_bsl (z := [.int .i64 0]) rfl rfl rfl rfl rfl rfl rfl (F_cons (cells' := [.int .i64 x1.To]) rfl rfl rfl rfl (F_nil (fun g5 => P_some rfl (O_cons (O_append rfl ?_))))))
          obtain ⟨l2, hz2, h419⟩ := obind h419
          refine sem_appR (r := rInt) Tt_ok rfl rfl rfl rfl (by decide) rfl rfl 1 rfl hO5 rfl (Own.rds (L := ([(g5, .cells #[.int .i64 x1.To] 3 (0, 0))] :: ch5 :: [(g4, .cells #[.int .i64 x1.From, .int .i64 x1.To] 39 (0, 0))] :: L)) (Own.lit (r := rInt) (e := 3) (g := g5) (xs := [x1.To]) (cs := [.int .i64 x1.To]) (css := [[.int .i64 x1.To]]) rfl (All2.cons (rfl) (All2.nil)) rfl rfl) 0 rfl) hz2 fun A7 c7 ch6 hO6 => P_some rfl (O_cons (O_read rfl (R_assign rfl (P_some rfl (O_nil ?_)))))
          have e_ := Option.some.inj h419
          subst e_
          exact ⟨l2, A7, c7, ch6, rfl, SubFr.of ⟨rfl, rfl, rfl, rfl, rfl, rfl, trivial⟩, SegSub.sel _ [some 1] 3, (hO6), rfl⟩
        replace h419 := cond_f hc11 h419
        apply WP.skip
        have e_ := Option.some.inj h419
        subst e_
        exact ⟨out4, A6, c6, ch5, rfl, SubFr.of ⟨rfl, rfl, rfl, rfl, rfl, rfl, trivial⟩, SegSub.sel _ [some 0] 2, (hO5), rfl⟩
      rintro fr419 μ419 L419 hm419 ⟨out5, A8, c8, ch7, ho419, hF419, hS419, hO7, hu419⟩
      subst ho419
      subst hu419
      refine hK418 _ _ _ (WP.at hF419 hS419 (WP.region Tt_ok (O_cons (O_read rfl (R_add rfl rfl (P_some rfl (O_cons (O_read rfl (R_move rfl (P_some rfl (O_nil ?_)))))))))))
      have e_ := Option.some.inj hb413
      subst e_
      exact ⟨_, rfl, A8, c8, ch7, SubFr.of ⟨rfl, rfl, rfl, rfl, rfl, rfl, trivial⟩, SegSub.sel _ [some 0] 1, (hO7), rfl⟩
    replace hb413 := cond_f hc8 hb413
    refine WP.exit (B_here ?_)
    have e_ := Option.some.inj hb413
    subst e_
    have hq_ := hq413 _ rfl
    subst hq_
    exact ⟨out4, A6, c6, ch5, rfl, SubFr.of ⟨rfl, trivial⟩, SegSub.sel _ [some 0] 1, (hO5), rfl⟩
  rintro fr396 μ396 L396 hm396 ⟨out6, A9, c9, ch8, ho396, hF396, hS396, hO8, hu396⟩
  subst ho396
  subst hu396
  refine hK394 _ _ _ (WP.at hF396 hS396 (WP.seq_k (fun K431 hK431 => WP.region Tt_ok (O_cons (O_read rfl (R_move rfl (P_some rfl (O_cons (O_call (all := [.slice A9 out6.length c9]) rfl rfl rfl ?_)))))))))
  obtain ⟨l3, hs1, h⟩ := obind h
  refine sortI_fn Try.func29 (by kernel_rfl) rfl Try.slices_Sort_int Try.slices_Sort_int_none 0 rfl hO8 hs1 fun ch9 hO9 => ?_
  rw [length_sortO hs1]
  refine P_some rfl (O_nil (hK431 _ _ _ (WP.seq_k (fun K433 hK433 => WP.region Tt_ok (O_cons (O_read rfl (R_move rfl (P_some rfl (O_cons (O_read rfl (R_assign rfl (P_some rfl (O_cons ?_)))))))))))))
  refine O_read rfl (R_assign rfl (P_some rfl (O_nil (hK433 _ _ _ (WP.ret ?_)))))
  have e_ := Option.some.inj h
  obtain ⟨e0a_, e0b_⟩ := Prod.mk.inj e_
  clear e_
  subst e0a_
  subst e0b_
  refine S_tmp rfl (S_tmp rfl (S_nil (Upd.selS [some 0] 1 ?_)))
  exact Upd.done (hR A9 c9 ch9 (hO9))

theorem schedule_Count_fn {μ : Gh} {L : List Seg} {R : Value → Gh → List Seg → Prop} {F : Nat} {s1 : T_api_Schedule} {f_from1 : Int} {f_to1 : Int} {A1 : Option Addr} {c1 : Nat} {res1 : Int} {res2 : Int}
    (hl1 : s1.Moves.length ≤ c1 ∧ c1 ≤ maxLen) (hA1 : ArrR r_api_Move μ A1 s1.Moves) (h : schedule_Count F s1 f_from1 f_to1 = some (res1, res2))
    (hR : R (.tuple #[.int .i64 res1, .int .i64 res2]) μ (L)) :
    Fn Try.prog 17 [.agg #[.int .i64 s1.Container, .int .i64 s1.Start, .int .i64 s1.Every, .slice A1 s1.Moves.length c1], .int .i64 f_from1, .int .i64 f_to1] μ L R := by
  unfold schedule_Count at h
  refine Fn.of_body Tt_ok Try.func17 (by kernel_rfl) rfl Try.ntmps17 (by simp) ?_
  simp only [Try.f17, argFr, List.zipIdx, List.map, Nat.reduceAdd]
  refine WP.seq_k (fun K437 hK437 => WP.region Tt_ok (O_cons (O_box (cs := #[.int .i64 s1.Container, .int .i64 s1.Start, .int .i64 s1.Every, .slice A1 s1.Moves.length c1]) rfl rfl (fun g1 => P_some rfl (O_cons (O_read rfl (R_assign rfl (P_some rfl (O_cons (O_read rfl (R_assign rfl (P_some rfl (O_nil ?_)))))))))))))
  refine hK437 _ _ _ (WP.seq_k (fun K439 hK439 => WP.region Tt_ok (O_cons (O_read rfl (R_loadA rfl rfl rfl rfl (LA_ (vs := [.int .i64 s1.Container, .int .i64 s1.Start, .int .i64 s1.Every, .slice A1 s1.Moves.length c1]) 0 0 rfl rfl rfl rfl (P_some rfl (O_cons (O_read rfl (R_move rfl (P_some rfl (O_cons (O_read rfl ?_)))))))))))))
  refine R_move rfl (P_some rfl (O_cons (O_call (all := [.agg #[.int .i64 s1.Container, .int .i64 s1.Start, .int .i64 s1.Every, .slice A1 s1.Moves.length c1], .int .i64 f_from1, .int .i64 f_to1]) rfl rfl rfl ?_)))
  obtain ⟨⟨r1, r2⟩, hx1, h⟩ := obind h
  replace h := oun_mk h
  refine schedule_Days_fn hl1 hA1 hx1 (fun A2 c2 ch1 hO1 => P_some rfl (O_cons (O_read rfl (R_move rfl (P_some rfl (O_cons (O_read rfl (R_ext rfl rfl (P_some rfl (O_cons (O_read rfl (R_ext rfl rfl (P_some rfl ?_)))))))))))))
  refine O_cons (O_read rfl (R_assign rfl (P_some rfl (O_cons (O_read rfl (R_assign rfl (P_some rfl (O_nil (hK439 _ _ _ (WP.seq_k (fun K441 hK441 => WP.region Tt_ok (O_cons (O_read rfl ?_)))))))))))))
  refine R_move rfl (P_some rfl (O_cons (O_read rfl (R_lenS rfl rfl rfl (P_some rfl (O_cons (O_read rfl (R_move rfl (P_some rfl (O_cons (O_read rfl (R_assign rfl (P_some rfl ?_)))))))))))))
  refine O_cons (O_read rfl (R_assign rfl (P_some rfl (O_nil (hK441 _ _ _ (WP.ret ?_))))))
  have e_ := Option.some.inj h
  obtain ⟨e0a_, e0b_⟩ := Prod.mk.inj e_
  clear e_
  subst e0a_
  subst e0b_
  refine S_tmp rfl (S_tmp rfl (S_nil (Upd.selS [] 2 ?_)))
  exact Upd.done hR

theorem schedule_Next_fn {μ : Gh} {L : List Seg} {R : Value → Gh → List Seg → Prop} {F : Nat} {s1 : T_api_Schedule} {d1 : Int} {A1 : Option Addr} {c1 : Nat} {res1 : Int} {res2 : Int}
    (hl1 : s1.Moves.length ≤ c1 ∧ c1 ≤ maxLen) (hA1 : ArrR r_api_Move μ A1 s1.Moves) (h : schedule_Next F s1 d1 = some (res1, res2))
    (hR : R (.tuple #[.int .i64 res1, .int .i64 res2]) μ (L)) :
    Fn Try.prog 19 [.agg #[.int .i64 s1.Container, .int .i64 s1.Start, .int .i64 s1.Every, .slice A1 s1.Moves.length c1], .int .i64 d1] μ L R := by
  unfold schedule_Next at h
  refine Fn.of_body Tt_ok Try.func19 (by kernel_rfl) rfl Try.ntmps19 (by simp) ?_
  simp only [Try.f19, argFr, List.zipIdx, List.map, Nat.reduceAdd]
  refine WP.seq_k (fun K444 hK444 => WP.region Tt_ok (O_cons (O_box (cs := #[.int .i64 s1.Container, .int .i64 s1.Start, .int .i64 s1.Every, .slice A1 s1.Moves.length c1]) rfl rfl (fun g1 => P_some rfl (O_cons (O_read rfl (R_assign rfl (P_some rfl (O_cons (O_read rfl (R_assign rfl (P_some rfl (O_nil ?_)))))))))))))
  refine hK444 _ _ _ (WP.seq_k (fun K446 hK446 => WP.seq_k (fun K447 hK447 => WP.region Tt_ok (O_cons (O_read rfl (R_loadA rfl rfl rfl rfl (LA_ (vs := [.int .i64 s1.Container, .int .i64 s1.Start, .int .i64 s1.Every, .slice A1 s1.Moves.length c1]) 0 0 rfl rfl rfl rfl (P_some rfl (O_cons (O_call (all := [.agg #[.int .i64 s1.Container, .int .i64 s1.Start, .int .i64 s1.Every, .slice A1 s1.Moves.length c1]]) rfl rfl rfl ?_))))))))))
  obtain ⟨r1, hx1, h⟩ := obind h
  refine schedule_Check_fn hl1 hA1 hx1 ((P_some rfl (O_cons (O_read rfl (R_assign rfl (P_some rfl (O_nil (hK447 _ _ _ (WP.seq_k (fun K448 hK448 => WP.region Tt_ok (O_cons (O_read rfl (R_move rfl (P_some rfl ?_))))))))))))))
  refine O_cons (O_read rfl (R_neqD rfl rfl (P_some rfl (O_nil (hK448 _ _ _ ?_)))))
  refine W_cond_v (b := !(decide (r1 = 0))) rfl (fun hc1 => ?_) (fun hc1 => ?_)
  · replace h := cond_t hc1 h
    refine WP.seq_k (fun K449 hK449 => WP.region Tt_ok (O_cons (O_read rfl (R_move rfl (P_some rfl (O_cons (O_read rfl (R_assign rfl (P_some rfl (O_cons (O_read rfl (R_assign rfl (P_some rfl ?_)))))))))))))
    refine O_nil (hK449 _ _ _ (WP.ret ?_))
    have e_ := Option.some.inj h
    obtain ⟨e0a_, e0b_⟩ := Prod.mk.inj e_
    clear e_
    subst e0a_
    subst e0b_
    refine S_tmp rfl (S_tmp rfl (S_nil (Upd.selS [] 1 ?_)))
    exact Upd.done hR
  replace h := cond_f hc1 h
  refine WP.skip (hK446 _ _ _ (WP.seq_k (fun K450 hK450 => WP.seq_k (fun K451 hK451 => WP.region Tt_ok (O_cons (O_read rfl (R_move rfl (P_some rfl (O_cons (O_call (all := [.int .i64 d1]) rfl rfl rfl ?_))))))))))
  obtain ⟨r2, hx2, h⟩ := obind h
  refine schedule_day_fn  hx2 ((P_some rfl (O_cons (O_read rfl (R_not rfl (P_some rfl (O_nil (hK451 _ _ _ ?_))))))))
  refine W_cond_v (b := !r2) rfl (fun hc2 => ?_) (fun hc2 => ?_)
  · replace h := cond_t hc2 h
    refine WP.seq_k (fun K452 hK452 => WP.region Tt_ok (O_cons (O_read rfl (R_assign rfl (P_some rfl (O_cons (O_read rfl (R_assign rfl (P_some rfl (O_nil (hK452 _ _ _ (WP.ret ?_))))))))))))
    have e_ := Option.some.inj h
    obtain ⟨e0a_, e0b_⟩ := Prod.mk.inj e_
    clear e_
    subst e0a_
    subst e0b_
    refine S_tmp rfl (S_tmp rfl (S_nil (Upd.selS [] 1 ?_)))
    exact Upd.done hR
  replace h := cond_f hc2 h
  refine WP.skip (hK450 _ _ _ (WP.seq_k (fun K453 hK453 => WP.region Tt_ok (O_cons (O_read rfl (R_loadA rfl rfl rfl rfl (LA_ (vs := [.int .i64 s1.Container, .int .i64 s1.Start, .int .i64 s1.Every, .slice A1 s1.Moves.length c1]) 0 0 rfl rfl rfl rfl (P_some rfl (O_cons (O_read rfl (R_move rfl (P_some rfl (O_cons ?_)))))))))))))
  apply O_call (all := [.agg #[.int .i64 s1.Container, .int .i64 s1.Start, .int .i64 s1.Every, .slice A1 s1.Moves.length c1], .int .i64 d1, .int .i64 36525]); exact rfl; exact rfl; exact rfl
  obtain ⟨⟨r3, r4⟩, hx3, h⟩ := obind h
  replace h := oun_mk h
  refine schedule_Days_fn hl1 hA1 hx3 (fun A2 c2 ch1 hO1 => P_some rfl (O_cons (O_read rfl (R_move rfl (P_some rfl (O_cons (O_read rfl (R_ext rfl rfl (P_some rfl (O_cons (O_read rfl (R_ext rfl rfl (P_some rfl ?_)))))))))))))
  refine O_cons (O_read rfl (R_assign rfl (P_some rfl (O_cons (O_read rfl (R_assign rfl (P_some rfl (O_nil (hK453 _ _ _ (WP.seq_k (fun K455 hK455 => WP.seq_k (fun K456 hK456 => WP.region Tt_ok (O_cons ?_)))))))))))))
  refine O_read rfl (R_move rfl (P_some rfl (O_cons (O_read rfl (R_lenS rfl rfl rfl (P_some rfl (O_cons (O_read rfl (R_eqlD rfl rfl (P_some rfl (O_nil (hK456 _ _ _ ?_))))))))))))
  refine W_cond_v (b := (decide (((r3.length : Nat) : Int) = 0))) rfl (fun hc3 => ?_) (fun hc3 => ?_)
  · replace h := cond_t hc3 h
    refine WP.seq_k (fun K457 hK457 => WP.region Tt_ok (O_cons (O_read rfl (R_assign rfl (P_some rfl (O_cons (O_read rfl (R_assign rfl (P_some rfl (O_nil (hK457 _ _ _ (WP.ret ?_))))))))))))
    have e_ := Option.some.inj h
    obtain ⟨e0a_, e0b_⟩ := Prod.mk.inj e_
    clear e_
    subst e0a_
    subst e0b_
    refine S_tmp rfl (S_tmp rfl (S_nil (Upd.selS [] 2 ?_)))
    exact Upd.done hR
  replace h := cond_f hc3 h
  refine WP.skip (hK455 _ _ _ (WP.seq_k (fun K458 hK458 => WP.region Tt_ok (O_cons (O_read rfl (R_move rfl (P_some rfl (O_cons ?_))))))))
  obtain ⟨x1, hx4, h⟩ := obind h
  obtain ⟨a1, cs1, hA2, hr1, _, hc4⟩ := Rds.getI (Own.rds (L := (ch1 :: [(g1, .cells #[.int .i64 s1.Container, .int .i64 s1.Start, .int .i64 s1.Every, .slice A1 s1.Moves.length c1] 24 (0, 0))] :: L)) hO1 0 rfl) hx4
  obtain rfl := hr1
  refine O_read rfl (R_iaG rfl rfl rfl rfl rfl rfl ⟨(getI_lt hx4).1, (getI_lt hx4).2.1⟩ hA2 (P_some rfl (O_cons (O_read rfl (R_load rfl rfl rfl (Ex.mk _ (Cell.of_cells0 hc4 rfl) (P_some rfl (O_cons (O_read rfl (R_assign rfl (P_some rfl (O_cons (O_read rfl ?_)))))))))))))
  refine R_assign rfl (P_some rfl (O_nil (hK458 _ _ _ (WP.ret ?_))))
  have e_ := Option.some.inj h
  obtain ⟨e0a_, e0b_⟩ := Prod.mk.inj e_
  clear e_
  subst e0a_
  subst e0b_
  refine S_tmp rfl (S_tmp rfl (S_nil (Upd.selS [] 2 ?_)))
  exact Upd.done hR

theorem schedule_Due_fn {μ : Gh} {L : List Seg} {R : Value → Gh → List Seg → Prop}  {s1 : T_api_Schedule} {d1 : Int} {A1 : Option Addr} {c1 : Nat} {res1 : Bool}
    (hl1 : s1.Moves.length ≤ c1 ∧ c1 ≤ maxLen) (hA1 : ArrR r_api_Move μ A1 s1.Moves) (h : schedule_Due s1 d1 = some res1)
    (hR : R (.bool res1) μ (L)) :
    Fn Try.prog 13 [.agg #[.int .i64 s1.Container, .int .i64 s1.Start, .int .i64 s1.Every, .slice A1 s1.Moves.length c1], .int .i64 d1] μ L R := by
  unfold schedule_Due at h
  refine Fn.of_body Tt_ok Try.func13 (by kernel_rfl) rfl Try.ntmps13 (by simp) ?_
  simp only [Try.f13, argFr, List.zipIdx, List.map, Nat.reduceAdd]
  refine WP.seq_k (fun K468 hK468 => WP.region Tt_ok (O_cons (O_box (cs := #[.int .i64 s1.Container, .int .i64 s1.Start, .int .i64 s1.Every, .slice A1 s1.Moves.length c1]) rfl rfl (fun g1 => P_some rfl (O_cons (O_read rfl (R_assign rfl (P_some rfl (O_nil (hK468 _ _ _ (WP.seq_k (fun K470 hK470 => ?_))))))))))))
  obtain ⟨o471, h471, h⟩ := obind h
  refine WP.cutK (fun fr_ μ_ L_ => ∃ (v1 : Bool), v1 = o471 ∧ SubFr [(4, .bool v1)] fr_ ∧ SegSub (L) L_ ∧ μ = μ_) ?_ ?_
  · refine WP.drawn (id := 1) (l' := List.replicate 11 true) wide Tt_ok _ Kept.refl [(true, 0), (false, 1), (true, 2), (true, 3), (true, 4), (true, 5), (true, 7), (false, 6), (false, 8), (true, 9), (true, 10)] (by kernel_rfl) (by kernel_rfl) rfl (PL_t rfl (R_loadA rfl rfl rfl rfl (LA_ (vs := [.int .i64 s1.Container, .int .i64 s1.Start, .int .i64 s1.Every, .slice A1 s1.Moves.length c1]) 0 0 rfl rfl rfl rfl (P_some rfl (PL_f rfl (O_call (all := [.agg #[.int .i64 s1.Container, .int .i64 s1.Start, .int .i64 s1.Every, .slice A1 s1.Moves.length c1]]) rfl rfl rfl ?_))))))
    obtain ⟨r1, hx1, h471⟩ := obind h471
    refine schedule_Check_fn hl1 hA1 hx1 (?_)
    refine ⟨Kept.refl, ?_⟩
    refine P_some rfl (PL_t rfl (R_eqlD rfl rfl (P_some rfl (PL_t rfl (R_move rfl (P_some rfl ?_))))))
    refine PL_tv (z := (decide (r1 = 0))) rfl rfl rfl (fun hc1 => ?_) (fun hc1 => ?_)
    · replace h471 := cond_t hc1 h471
      refine R_loadA rfl rfl rfl rfl (LA_ (vs := [.int .i64 s1.Container, .int .i64 s1.Start, .int .i64 s1.Every, .slice A1 s1.Moves.length c1]) 0 0 rfl rfl rfl rfl (P_some rfl (PL_tY rfl rfl rfl hc1 (R_loadA rfl rfl rfl rfl (LA_ (vs := [.int .i64 s1.Container, .int .i64 s1.Start, .int .i64 s1.Every, .slice A1 s1.Moves.length c1]) 0 0 rfl rfl rfl rfl (P_some rfl (PL_tY rfl rfl rfl hc1 (R_move rfl (P_some rfl (PL_fY rfl rfl rfl hc1 (O_call (all := [.agg #[.int .i64 s1.Container, .int .i64 s1.Start, .int .i64 s1.Every, .slice A1 s1.Moves.length c1]]) rfl rfl rfl ?_)))))))))))
      obtain ⟨r2, hx2, h471⟩ := obind h471
      refine schedule_held_fn hl1 hA1 hx2 (fun g2 es1 cn1 hM1 => ?_)
      refine ⟨Kept.more (Kept.refl), ?_⟩
      refine P_some rfl (PL_fY rfl rfl rfl hc1 (O_call (all := [.agg #[.int .i64 s1.Container, .int .i64 s1.Start, .int .i64 s1.Every, .slice A1 s1.Moves.length c1], .map (some g2), .int .i64 d1]) rfl rfl rfl ?_))
      obtain ⟨r3, hx3, h471⟩ := obind h471
      refine schedule_due_fn hl1 hA1 (ObjAt.seg 0 0 rfl rfl) hM1 hx3 (?_)
      refine ⟨Kept.more (Kept.refl), ?_⟩
      refine P_some rfl (PL_t rfl (R_pick_T rfl hc1 rfl (P_some rfl (PL_t rfl (R_assign rfl (P_some rfl (PL_nil (AN.done0 (by kernel_rfl) ?_))))))))
      have e_ := Option.some.inj h471
      subst e_
      exact ⟨r3, rfl, SubFr.of ⟨rfl, trivial⟩, SegSub.sel _ [] 2, rfl⟩
    replace h471 := cond_f hc1 h471
    refine P_some rfl (PL_tN rfl rfl rfl hc1 (P_some rfl (PL_tN rfl rfl rfl hc1 (P_some rfl (PL_fN rfl rfl rfl hc1 (P_some rfl (PL_fN rfl rfl rfl hc1 (P_some rfl (PL_t rfl (R_pick_F rfl hc1 rfl (P_some rfl (PL_t rfl (R_assign rfl ?_)))))))))))))
    refine P_some rfl (PL_nil (AN.done0 (by kernel_rfl) ?_))
    have e_ := Option.some.inj h471
    subst e_
    exact ⟨false, rfl, SubFr.of ⟨rfl, trivial⟩, SegSub.sel _ [] 1, rfl⟩
  rintro fr471 μ471 L471 hm471 ⟨v1, ho471, hF471, hS471, hu471⟩
  subst ho471
  subst hu471
  refine hK470 _ _ _ (WP.at hF471 hS471 (WP.ret ?_))
  have e_ := Option.some.inj h
  subst e_
  refine S_tmp rfl (S_nil (Upd.selS [] 0 ?_))
  exact Upd.done hR

theorem recyclingref17_Same_fn {μ : Gh} {L : List Seg} {R : Value → Gh → List Seg → Prop}  {a1 : (List Int)} {b1 : (List Int)} {A1 : Option Addr} {c1 : Nat} {A2 : Option Addr} {c2 : Nat} {res1 : Bool}
    (hl1 : a1.length ≤ c1 ∧ c1 ≤ maxLen) (hA1 : Rds rInt μ L A1 a1) (hl2 : b1.length ≤ c2 ∧ c2 ≤ maxLen) (hA2 : Rds rInt μ L A2 b1) (h : recyclingref17_Same a1 b1 = some res1)
    (hR : R (.bool res1) μ (L)) :
    Fn Try.prog 18 [.slice A1 a1.length c1, .slice A2 b1.length c2] μ L R := by
  unfold recyclingref17_Same at h
  refine Fn.of_body Tt_ok Try.func18 (by kernel_rfl) rfl Try.ntmps18 (by simp) ?_
  simp only [Try.f18, argFr, List.zipIdx, List.map, Nat.reduceAdd]
  refine WP.seq_k (fun K476 hK476 => WP.region Tt_ok (O_cons (O_read rfl (R_assign rfl (P_some rfl (O_nil (hK476 _ _ _ (WP.seq_k (fun K477 hK477 => WP.seq_k (fun K478 hK478 => WP.region Tt_ok (O_cons (O_read rfl (R_move rfl ?_)))))))))))))
  refine P_some rfl (O_cons (O_read rfl (R_lenS rfl rfl rfl (P_some rfl (O_cons (O_read rfl (R_move rfl (P_some rfl (O_cons (O_read rfl (R_lenS rfl rfl rfl (P_some rfl (O_cons ?_)))))))))))))
  refine O_read rfl (R_neqD rfl rfl (P_some rfl (O_nil (hK478 _ _ _ ?_))))
  refine W_cond_v (b := !(decide (((a1.length : Nat) : Int) = ((b1.length : Nat) : Int)))) rfl (fun hc1 => ?_) (fun hc1 => ?_)
  · replace h := cond_t hc1 h
    refine WP.seq_k (fun K479 hK479 => WP.region Tt_ok (O_cons (O_read rfl (R_assign rfl (P_some rfl (O_nil (hK479 _ _ _ (WP.ret ?_))))))))
    have e_ := Option.some.inj h
    subst e_
    refine S_tmp rfl (S_nil (Upd.selS [] 0 ?_))
    exact Upd.done hR
  replace h := cond_f hc1 h
  refine WP.skip (hK477 _ _ _ (WP.seq_k (fun K480 hK480 => WP.seq_k (fun K481 hK481 => WP.region Tt_ok (O_cons (O_read rfl (R_assign rfl (P_some rfl (O_nil (hK481 _ _ _ ?_))))))))))
  obtain ⟨o482, h482, h⟩ := obind h
  refine WP.cutK (fun fr_ μ_ L_ => (.inl ()) = o482 ∧ SubFr [] fr_ ∧ SegSub (L) L_ ∧ μ = μ_) ?_ ?_
  · refine WP.block (WP.iter h482 (fun (i1 : Int) fr_ μ_ L_ => SubFr [(0, .slice A1 a1.length c1), (1, .slice A2 b1.length c2), (5, .int .i64 i1)] fr_ ∧ SegSub (L) L_ ∧ μ = μ_) ⟨SubFr.of ⟨rfl, rfl, rfl, trivial⟩, SegSub.sel _ [] 0, rfl⟩ ?_)
    rintro i1 q489 fr489 μ489 L489 hm489 ⟨hF489, hS489, hu489⟩ hb489 hq489
    unfold recyclingref17_Same_l1 at hb489
    subst hu489
    refine WP.at hF489 hS489 (WP.seq_k (fun K490 hK490 => WP.seq_k (fun K491 hK491 => WP.region Tt_ok (O_cons (O_read rfl (R_move rfl (P_some rfl (O_cons (O_read rfl (R_move rfl (P_some rfl (O_cons (O_read rfl ?_)))))))))))))
    refine R_lenS rfl rfl rfl (P_some rfl (O_cons (O_read rfl (R_lssD rfl rfl (P_some rfl (O_nil (hK491 _ _ _ ?_)))))))
    refine W_cond_v (b := (decide (i1 < ((a1.length : Nat) : Int)))) rfl (fun hc2 => ?_) (fun hc2 => ?_)
    · replace hb489 := cond_t hc2 hb489
      refine WP.skip (hK490 _ _ _ (WP.seq_k (fun K492 hK492 => WP.block (WP.seq_k (fun K493 hK493 => WP.drawn (id := 6) (l' := List.replicate 9 true) wide Tt_ok _ Kept.refl [(true, 0), (true, 1), (true, 2), (true, 3), (true, 4), (true, 5), (true, 6), (true, 7), (true, 8)] (by kernel_rfl) (by kernel_rfl) rfl (PL_t rfl (R_move rfl (P_some rfl (PL_t rfl (R_move rfl (P_some rfl (PL_t rfl ?_))))))))))))
      obtain ⟨x1, hx1, hb489⟩ := obind hb489
      obtain ⟨a2, cs1, hA3, hr1, _, hc3⟩ := Rds.getI hA1 hx1
      obtain rfl := hr1
      refine R_iaG rfl rfl rfl rfl rfl rfl ⟨(getI_lt hx1).1, (getI_lt hx1).2.1⟩ hA3 (P_some rfl (PL_t rfl (R_load rfl rfl rfl (Ex.mk _ (Cell.of_cells0 (hc3) rfl) (P_some rfl (PL_t rfl (R_move rfl (P_some rfl (PL_t rfl (R_move rfl (P_some rfl (PL_t rfl ?_))))))))))))
      obtain ⟨x2, hx2, hb489⟩ := obind hb489
      obtain ⟨a3, cs2, hA4, hr2, _, hc4⟩ := Rds.getI hA2 hx2
      obtain rfl := hr2
      refine R_iaG rfl rfl rfl rfl rfl rfl ⟨(getI_lt hx2).1, (getI_lt hx2).2.1⟩ hA4 (P_some rfl (PL_t rfl (R_load rfl rfl rfl (Ex.mk _ (Cell.of_cells0 (hc4) rfl) (P_some rfl (PL_t rfl (R_neqD rfl rfl (P_some rfl (PL_nil (AN.done0 (by kernel_rfl) (hK493 _ _ _ ?_)))))))))))
      refine W_cond_v (b := !(decide (x1 = x2))) rfl (fun hc5 => ?_) (fun hc5 => ?_)
      · replace hb489 := cond_t hc5 hb489
        refine WP.seq_k (fun K494 hK494 => WP.region Tt_ok (O_cons (O_read rfl (R_assign rfl (P_some rfl (O_nil (hK494 _ _ _ (WP.ret ?_))))))))
        have e_ := Option.some.inj hb489
        subst e_
        have hq_ := hq489 _ rfl
        subst hq_
        replace h := osum_r h
        have e_ := Option.some.inj h
        subst e_
        refine S_tmp rfl (S_nil (Upd.selS [] 0 ?_))
        exact Upd.done hR
      replace hb489 := cond_f hc5 hb489
      refine WP.skip (hK492 _ _ _ (WP.region Tt_ok (O_cons (O_read rfl (R_move rfl (P_some rfl (O_cons (O_read rfl (R_add rfl rfl (P_some rfl (O_cons (O_read rfl (R_assign rfl ?_)))))))))))))
      refine P_some rfl (O_nil ?_)
      have e_ := Option.some.inj hb489
      subst e_
      exact ⟨_, rfl, SubFr.of ⟨rfl, rfl, rfl, trivial⟩, SegSub.sel _ [] 0, rfl⟩
    replace hb489 := cond_f hc2 hb489
    refine WP.exit (B_here ?_)
    have e_ := Option.some.inj hb489
    subst e_
    have hq_ := hq489 _ rfl
    subst hq_
    exact ⟨rfl, SubFr.of trivial, SegSub.sel _ [] 0, rfl⟩
  rintro fr482 μ482 L482 hm482 ⟨ho482, hF482, hS482, hu482⟩
  subst ho482
  replace h := osum_l h
  subst hu482
  refine hK480 _ _ _ (WP.at hF482 hS482 (WP.seq_k (fun K495 hK495 => WP.region Tt_ok (O_cons (O_read rfl (R_assign rfl (P_some rfl (O_nil (hK495 _ _ _ (WP.ret ?_))))))))))
  have e_ := Option.some.inj h
  subst e_
  refine S_tmp rfl (S_nil (Upd.selS [] 0 ?_))
  exact Upd.done hR

theorem recyclinglaw17_awake_fn {μ : Gh} {L : List Seg} {R : Value → Gh → List Seg → Prop} {F : Nat}   {res1 : Bool}
     (h : recyclinglaw17_awake F = some res1)
    (hR : ∀ (μ' : Gh) , μ.le μ' → R (.bool res1) μ' (L)) :
    Fn Try.prog 12 [] μ L R := by
  unfold recyclinglaw17_awake at h
  refine Fn.of_body Tt_ok Try.func12 (by kernel_rfl) rfl Try.ntmps12 (by simp) ?_
  simp only [Try.f12, argFr, List.zipIdx, List.map, Nat.reduceAdd]
  refine WP.seq_k (fun K496 hK496 => WP.region Tt_ok (O_cons (O_read rfl (R_assign rfl (P_some rfl (O_nil (hK496 _ _ _ (WP.seq_k (fun K497 hK497 => WP.region Tt_ok (O_cons (O_call (all := []) rfl rfl rfl ?_)))))))))))
  obtain ⟨r1, hx1, h⟩ := obind h
  refine recyclinglaw17_sample_fn  hx1 (fun v1 A1 c1 hm_1 hl1 hA1 => P_some rfl (O_cons (O_alloc (cs := #[.int .i64 0, .int .i64 0, .int .i64 0, .slice none 0 0]) rfl rfl (fun g1 => P_some rfl (O_cons (O_store (vs := [.int .i64 r1.Container, .int .i64 r1.Start, .int .i64 r1.Every, .slice A1 r1.Moves.length c1]) rfl rfl rfl rfl rfl rfl (ST_ (L' := ([(g1, .cells #[.int .i64 r1.Container, .int .i64 r1.Start, .int .i64 r1.Every, .slice A1 r1.Moves.length c1] 24 (0, 0))] :: L)) 0 0 rfl rfl rfl rfl (P_none (O_nil (hK497 _ _ _ (WP.seq_k (fun K502 hK502 => WP.region Tt_ok (O_cons ?_)))))))))))))
  refine O_read rfl (R_build rfl rfl rfl rfl (F_cons (cells' := [.int .i64 8, .int .i64 0]) rfl rfl rfl rfl (F_cons (cells' := [.int .i64 8, .int .i64 10]) rfl rfl rfl rfl (F_nil (P_some rfl (O_cons (O_bsl (z := [.int .i64 0, .int .i64 0]) rfl rfl rfl rfl rfl rfl rfl (F_cons (cells' := [.int .i64 8, .int .i64 10]) rfl rfl rfl rfl (F_nil (fun g2 => P_some rfl (O_cons (O_read rfl (R_build rfl rfl rfl rfl ?_)))))))))))))
  refine F_cons (cells' := [.int .i64 0, .int .i64 2, .int .i64 0, .slice none 0 0]) rfl rfl rfl rfl (F_cons (cells' := [.int .i64 0, .int .i64 2, .int .i64 7, .slice none 0 0]) rfl rfl rfl rfl (F_cons (cells' := [.int .i64 0, .int .i64 2, .int .i64 7, .slice (some ⟨g2, 0, none⟩) 1 1]) rfl rfl rfl rfl (F_nil (P_some rfl (O_cons (O_alloc (cs := #[.int .i64 0, .int .i64 0, .int .i64 0, .slice none 0 0]) rfl rfl (fun g3 => P_some rfl (O_cons (O_store (vs := [.int .i64 0, .int .i64 2, .int .i64 7, .slice (some ⟨g2, 0, none⟩) 1 1]) rfl rfl rfl rfl rfl rfl (ST_ (L' := ([(g3, .cells #[.int .i64 0, .int .i64 2, .int .i64 7, .slice (some ⟨g2, 0, none⟩) 1 1] 24 (0, 0))] :: [(g2, .cells #[.int .i64 8, .int .i64 10] 39 (0, 0))] :: [(g1, .cells #[.int .i64 r1.Container, .int .i64 r1.Start, .int .i64 r1.Every, .slice A1 r1.Moves.length c1] 24 (0, 0))] :: L)) 0 0 rfl rfl rfl rfl ?_))))))))))
  refine P_none (O_nil (hK502 _ _ _ (WP.seq_k (fun K508 hK508 => WP.region Tt_ok (O_cons (O_read rfl (R_loadA rfl rfl rfl rfl (LA_ (vs := [.int .i64 r1.Container, .int .i64 r1.Start, .int .i64 r1.Every, .slice A1 r1.Moves.length c1]) 2 0 rfl rfl rfl rfl (P_some rfl (O_cons (O_call (all := [.agg #[.int .i64 r1.Container, .int .i64 r1.Start, .int .i64 r1.Every, .slice A1 r1.Moves.length c1], .int .i64 3, .int .i64 24]) rfl rfl rfl ?_)))))))))))
  obtain ⟨⟨r2, r3⟩, hx2, h⟩ := obind h
  replace h := oun_mk h
  refine schedule_Days_fn hl1 hA1 hx2 (fun A2 c2 ch1 hO1 => P_some rfl (O_cons (O_read rfl (R_move rfl (P_some rfl (O_cons (O_read rfl (R_ext rfl rfl (P_some rfl (O_cons (O_read rfl (R_ext rfl rfl (P_some rfl ?_)))))))))))))
  refine O_cons (O_read rfl (R_assign rfl (P_some rfl (O_cons (O_read rfl (R_assign rfl (P_some rfl (O_nil (hK508 _ _ _ (WP.seq_k (fun K510 hK510 => WP.region Tt_ok (O_cons (O_read rfl ?_)))))))))))))
  refine R_loadA rfl rfl rfl rfl (LA_ (vs := [.int .i64 r1.Container, .int .i64 r1.Start, .int .i64 r1.Every, .slice A1 r1.Moves.length c1]) 3 0 rfl rfl rfl rfl (P_some rfl (O_cons (O_call (all := [.agg #[.int .i64 r1.Container, .int .i64 r1.Start, .int .i64 r1.Every, .slice A1 r1.Moves.length c1], .int .i64 3, .int .i64 24]) rfl rfl rfl ?_))))
  obtain ⟨⟨r4, r5⟩, hx3, h⟩ := obind h
  replace h := oun_mk h
  refine schedule_Count_fn hl1 hA1 hx3 ((P_some rfl (O_cons (O_read rfl (R_move rfl (P_some rfl (O_cons (O_read rfl (R_ext rfl rfl (P_some rfl (O_cons (O_read rfl (R_ext rfl rfl (P_some rfl ?_))))))))))))))
  refine O_cons (O_read rfl (R_assign rfl (P_some rfl (O_cons (O_read rfl (R_assign rfl (P_some rfl (O_nil (hK510 _ _ _ (WP.seq_k (fun K511 hK511 => WP.region Tt_ok (O_cons (O_read rfl ?_)))))))))))))
  refine R_loadA rfl rfl rfl rfl (LA_ (vs := [.int .i64 r1.Container, .int .i64 r1.Start, .int .i64 r1.Every, .slice A1 r1.Moves.length c1]) 3 0 rfl rfl rfl rfl (P_some rfl (O_cons (O_call (all := [.agg #[.int .i64 r1.Container, .int .i64 r1.Start, .int .i64 r1.Every, .slice A1 r1.Moves.length c1], .int .i64 11]) rfl rfl rfl ?_))))
  obtain ⟨⟨r6, r7⟩, hx4, h⟩ := obind h
  replace h := oun_mk h
  refine schedule_Next_fn hl1 hA1 hx4 ((P_some rfl (O_cons (O_read rfl (R_move rfl (P_some rfl (O_cons (O_read rfl (R_ext rfl rfl (P_some rfl (O_cons (O_read rfl (R_ext rfl rfl (P_some rfl ?_))))))))))))))
  refine O_cons (O_read rfl (R_assign rfl (P_some rfl (O_cons (O_read rfl (R_assign rfl (P_some rfl (O_nil (hK511 _ _ _ (WP.seq_k (fun K512 hK512 => WP.region Tt_ok (O_cons (O_read rfl ?_)))))))))))))
  refine R_build rfl rfl rfl rfl (F_cons (cells' := [.int .i64 0, .int .i64 36520, .int .i64 0, .slice none 0 0]) rfl rfl rfl rfl (F_cons (cells' := [.int .i64 0, .int .i64 36520, .int .i64 7, .slice none 0 0]) rfl rfl rfl rfl (F_nil (P_some rfl (O_cons (O_call (all := [.agg #[.int .i64 0, .int .i64 36520, .int .i64 7, .slice none 0 0], .int .i64 36521]) rfl rfl rfl ?_))))))
  obtain ⟨⟨r8, r9⟩, hx5, h⟩ := obind h
  replace h := oun_mk h
  refine schedule_Next_fn ⟨Nat.le_refl _, Nat.zero_le _⟩ ArrR.nil hx5 ((P_some rfl (O_cons (O_read rfl (R_move rfl (P_some rfl (O_cons (O_read rfl (R_ext rfl rfl (P_some rfl (O_cons (O_read rfl (R_ext rfl rfl (P_some rfl ?_))))))))))))))
  refine O_cons (O_read rfl (R_assign rfl (P_some rfl (O_cons (O_read rfl (R_assign rfl (P_some rfl (O_nil (hK512 _ _ _ (WP.seq_k (fun K514 hK514 => ?_)))))))))))
  obtain ⟨o515, h515, h⟩ := obind h
  refine WP.cutK (fun fr_ μ_ L_ => ∃ (v3 : Bool), v3 = o515 ∧ SubFr [(0, .bool v3)] fr_ ∧ SegSub (L) L_) ?_ ?_
  · refine WP.region Tt_ok (O_cons (O_read rfl (R_loadA rfl rfl rfl rfl (LA_ (vs := [.int .i64 r1.Container, .int .i64 r1.Start, .int .i64 r1.Every, .slice A1 r1.Moves.length c1]) 3 0 rfl rfl rfl rfl (P_some rfl (O_cons (O_call (all := [.agg #[.int .i64 r1.Container, .int .i64 r1.Start, .int .i64 r1.Every, .slice A1 r1.Moves.length c1]]) rfl rfl rfl ?_)))))))
    obtain ⟨r10, hx6, h515⟩ := obind h515
    refine schedule_Check_fn hl1 hA1 hx6 ((P_some rfl (O_cons (O_read rfl (R_eqlD rfl rfl (P_some rfl (O_cons (O_read rfl (R_move rfl (P_some rfl ?_))))))))))
    refine O_gv (z := (decide (r10 = 0))) rfl rfl (fun hc1 => ?_) (fun hc1 => ?_)
    · replace h515 := cond_t hc1 h515
      refine O_read rfl (R_loadA rfl rfl rfl rfl (LA_ (vs := [.int .i64 0, .int .i64 2, .int .i64 7, .slice (some ⟨g2, 0, none⟩) 1 1]) 1 0 rfl rfl rfl rfl (P_some rfl (O_gY rfl rfl hc1 (O_call (all := [.agg #[.int .i64 0, .int .i64 2, .int .i64 7, .slice (some ⟨g2, 0, none⟩) 1 1]]) rfl rfl rfl ?_)))))
      have hl2 : [(T_api_Move.mk 8 10)].length ≤ 1 ∧ 1 ≤ maxLen := ⟨Nat.le_refl _, by unfold maxLen; omega⟩
      refine Fn.pre Try.func10 (by kernel_rfl) rfl (Upd.frzOwn 2 rfl (Own.lit (r := r_api_Move) (e := 39) (g := g2) (xs := [(T_api_Move.mk 8 10)]) (cs := [.int .i64 8, .int .i64 10]) (css := [[.int .i64 8, .int .i64 10]]) rfl (All2.cons (rfl) (All2.nil)) rfl rfl) fun v2 hm_2 hA2 => Upd.done ?_)
      replace hA1 := hA1.mono hm_2
      replace hO1 := hO1.mono hm_2
      obtain ⟨r11, hx7, h515⟩ := obind h515
      refine schedule_Check_fn hl2 hA2 hx7 ((P_some rfl (O_gY rfl rfl hc1 (O_read rfl (R_eqlD rfl rfl (P_some rfl (O_cons (O_read rfl (R_pick_T rfl hc1 rfl (P_some rfl (O_cons (O_read rfl (R_move rfl (P_some rfl ?_))))))))))))))
      refine O_gv (z := (decide (r11 = 7))) rfl rfl (fun hc2 => ?_) (fun hc2 => ?_)
      · replace h515 := cond_t hc2 h515
        refine O_read rfl (R_loadA rfl rfl rfl rfl (LA_ (vs := [.int .i64 r1.Container, .int .i64 r1.Start, .int .i64 r1.Every, .slice A1 r1.Moves.length c1]) 3 0 rfl rfl rfl rfl (P_some rfl (O_gY rfl rfl hc2 (O_call (all := [.agg #[.int .i64 r1.Container, .int .i64 r1.Start, .int .i64 r1.Every, .slice A1 r1.Moves.length c1], .int .i64 2]) rfl rfl rfl ?_)))))
        obtain ⟨r12, hx8, h515⟩ := obind h515
        refine schedule_Due_fn hl1 hA1 hx8 ((P_some rfl (O_cons (O_read rfl (R_pick_T rfl hc2 rfl (P_some rfl (O_cons (O_read rfl (R_move rfl (P_some rfl ?_))))))))))
        refine O_gv (z := r12) rfl rfl (fun hc3 => ?_) (fun hc3 => ?_)
        · replace h515 := cond_t hc3 h515
          refine O_read rfl (R_loadA rfl rfl rfl rfl (LA_ (vs := [.int .i64 r1.Container, .int .i64 r1.Start, .int .i64 r1.Every, .slice A1 r1.Moves.length c1]) 3 0 rfl rfl rfl rfl (P_some rfl (O_gY rfl rfl hc3 (O_call (all := [.agg #[.int .i64 r1.Container, .int .i64 r1.Start, .int .i64 r1.Every, .slice A1 r1.Moves.length c1], .int .i64 9]) rfl rfl rfl ?_)))))
          obtain ⟨r13, hx9, h515⟩ := obind h515
          refine schedule_Due_fn hl1 hA1 hx9 ((P_some rfl (O_gY rfl rfl hc3 (O_read rfl (R_not rfl (P_some rfl (O_cons (O_read rfl (R_pick_T rfl hc3 rfl (P_some rfl (O_cons (O_read rfl (R_move rfl (P_some rfl ?_))))))))))))))
          refine O_gv (z := !r13) rfl rfl (fun hc4 => ?_) (fun hc4 => ?_)
          · replace h515 := cond_t hc4 h515
            refine O_read rfl (R_loadA rfl rfl rfl rfl (LA_ (vs := [.int .i64 r1.Container, .int .i64 r1.Start, .int .i64 r1.Every, .slice A1 r1.Moves.length c1]) 3 0 rfl rfl rfl rfl (P_some rfl (O_gY rfl rfl hc4 (O_call (all := [.agg #[.int .i64 r1.Container, .int .i64 r1.Start, .int .i64 r1.Every, .slice A1 r1.Moves.length c1], .int .i64 10]) rfl rfl rfl ?_)))))
            obtain ⟨r14, hx10, h515⟩ := obind h515
            refine schedule_Due_fn hl1 hA1 hx10 ((P_some rfl (O_cons (O_read rfl (R_pick_T rfl hc4 rfl (P_some rfl (O_cons (O_read rfl (R_move rfl (P_some rfl ?_))))))))))
            refine O_gv (z := r14) rfl rfl (fun hc5 => ?_) (fun hc5 => ?_)
            · replace h515 := cond_t hc5 h515
              refine O_read rfl (R_move rfl (P_some rfl (O_gY rfl rfl hc5 (O_bsl (z := [.int .i64 0, .int .i64 0, .int .i64 0]) rfl rfl rfl rfl rfl rfl rfl (F_cons (cells' := [.int .i64 10, .int .i64 0, .int .i64 0]) rfl rfl rfl rfl (F_cons (cells' := [.int .i64 10, .int .i64 16, .int .i64 0]) rfl rfl rfl rfl (F_cons (cells' := [.int .i64 10, .int .i64 16, .int .i64 23]) rfl rfl rfl rfl (F_nil (fun g4 => P_some rfl (O_gY rfl rfl hc5 (O_call (all := [.slice A2 r2.length c2, .slice (some ⟨g4, 0, none⟩) 3 3]) rfl rfl rfl ?_)))))))))))
              obtain ⟨r15, hx11, h515⟩ := obind h515
              refine recyclingref17_Same_fn (Own.lenOk hO1) (Own.rds (L := ([(g4, .cells #[.int .i64 10, .int .i64 16, .int .i64 23] 3 (0, 0))] :: ch1 :: [(g3, .cells #[.int .i64 0, .int .i64 2, .int .i64 7, .slice (some ⟨g2, 0, none⟩) 1 1] 24 (0, 0))] :: [] :: [(g1, .cells #[.int .i64 r1.Container, .int .i64 r1.Start, .int .i64 r1.Every, .slice A1 r1.Moves.length c1] 24 (0, 0))] :: L)) hO1 1 rfl) (lenLit (c := 3) rfl rfl) (Own.rds (L := ([(g4, .cells #[.int .i64 10, .int .i64 16, .int .i64 23] 3 (0, 0))] :: ch1 :: [(g3, .cells #[.int .i64 0, .int .i64 2, .int .i64 7, .slice (some ⟨g2, 0, none⟩) 1 1] 24 (0, 0))] :: [] :: [(g1, .cells #[.int .i64 r1.Container, .int .i64 r1.Start, .int .i64 r1.Every, .slice A1 r1.Moves.length c1] 24 (0, 0))] :: L)) (Own.lit (r := rInt) (e := 3) (g := g4) (xs := [10, 16, 23]) (cs := [.int .i64 10, .int .i64 16, .int .i64 23]) (css := [[.int .i64 10], [.int .i64 16], [.int .i64 23]]) rfl (All2.cons (rfl) (All2.cons (rfl) (All2.cons (rfl) (All2.nil)))) rfl rfl) 0 rfl) hx11 (?_)
              refine P_some rfl (O_cons (O_read rfl (R_pick_T rfl hc5 rfl (P_some rfl (O_cons (O_read rfl (R_move rfl (P_some rfl ?_))))))))
              refine O_gv (z := r15) rfl rfl (fun hc6 => ?_) (fun hc6 => ?_)
              · replace h515 := cond_t hc6 h515
                refine O_read rfl (R_move rfl (P_some rfl (O_gY rfl rfl hc6 (O_read rfl (R_eqlD rfl rfl (P_some rfl (O_cons (O_read rfl (R_pick_T rfl hc6 rfl (P_some rfl (O_cons (O_read rfl (R_move rfl ?_)))))))))))))
                apply P_some; exact rfl
                refine O_gv (z := (decide (r3 = 0))) rfl rfl (fun hc7 => ?_) (fun hc7 => ?_)
                · replace h515 := cond_t hc7 h515
                  refine O_read rfl (R_move rfl (P_some rfl (O_gY rfl rfl hc7 (O_read rfl (R_eqlD rfl rfl (P_some rfl (O_cons (O_read rfl (R_pick_T rfl hc7 rfl (P_some rfl (O_cons (O_read rfl (R_move rfl ?_)))))))))))))
                  apply P_some; exact rfl
                  refine O_gv (z := (decide (r4 = 3))) rfl rfl (fun hc8 => ?_) (fun hc8 => ?_)
                  · replace h515 := cond_t hc8 h515
                    refine O_read rfl (R_move rfl (P_some rfl (O_gY rfl rfl hc8 (O_read rfl (R_eqlD rfl rfl (P_some rfl (O_cons (O_read rfl (R_pick_T rfl hc8 rfl (P_some rfl (O_cons (O_read rfl (R_move rfl ?_)))))))))))))
                    apply P_some; exact rfl
                    refine O_gv (z := (decide (r5 = 0))) rfl rfl (fun hc9 => ?_) (fun hc9 => ?_)
                    · replace h515 := cond_t hc9 h515
                      refine O_read rfl (R_move rfl (P_some rfl (O_gY rfl rfl hc9 (O_read rfl (R_eqlD rfl rfl (P_some rfl (O_cons (O_read rfl (R_pick_T rfl hc9 rfl (P_some rfl (O_cons (O_read rfl (R_move rfl ?_)))))))))))))
                      apply P_some; exact rfl
                      refine O_gv (z := (decide (r6 = 16))) rfl rfl (fun hc10 => ?_) (fun hc10 => ?_)
                      · replace h515 := cond_t hc10 h515
                        refine O_read rfl (R_move rfl (P_some rfl (O_gY rfl rfl hc10 (O_read rfl (R_eqlD rfl rfl (P_some rfl (O_cons (O_read rfl (R_pick_T rfl hc10 rfl (P_some rfl (O_cons (O_read rfl (R_move rfl ?_)))))))))))))
                        apply P_some; exact rfl
                        refine O_gv (z := (decide (r7 = 0))) rfl rfl (fun hc11 => ?_) (fun hc11 => ?_)
                        · replace h515 := cond_t hc11 h515
                          refine O_read rfl (R_move rfl (P_some rfl (O_gY rfl rfl hc11 (O_read rfl (R_eqlD rfl rfl (P_some rfl (O_cons (O_read rfl (R_pick_T rfl hc11 rfl (P_some rfl (O_cons (O_read rfl (R_assign rfl ?_)))))))))))))
                          refine P_some rfl (O_nil ?_)
                          have e_ := Option.some.inj h515
                          subst e_
                          exact ⟨(decide (r9 = 7)), rfl, SubFr.of ⟨rfl, trivial⟩, SegSub.sel _ [] 5⟩
                        replace h515 := cond_f hc11 h515
                        refine P_some rfl (O_gN rfl rfl hc11 (P_some rfl (O_cons (O_read rfl (R_pick_F rfl hc11 rfl (P_some rfl (O_cons (O_read rfl (R_assign rfl (P_some rfl (O_nil ?_)))))))))))
                        have e_ := Option.some.inj h515
                        subst e_
                        exact ⟨false, rfl, SubFr.of ⟨rfl, trivial⟩, SegSub.sel _ [] 5⟩
                      replace h515 := cond_f hc10 h515
                      refine P_some rfl (O_gN rfl rfl hc10 (P_some rfl (O_cons (O_read rfl (R_pick_F rfl hc10 rfl (P_some rfl (O_cons (O_read rfl (R_move rfl (P_some rfl (O_gN rfl rfl rfl (P_some rfl (O_gN rfl rfl rfl ?_)))))))))))))
                      refine P_some rfl (O_cons (O_read rfl (R_pick_F rfl rfl rfl (P_some rfl (O_cons (O_read rfl (R_assign rfl (P_some rfl (O_nil ?_)))))))))
                      have e_ := Option.some.inj h515
                      subst e_
                      exact ⟨false, rfl, SubFr.of ⟨rfl, trivial⟩, SegSub.sel _ [] 5⟩
                    replace h515 := cond_f hc9 h515
                    refine P_some rfl (O_gN rfl rfl hc9 (P_some rfl (O_cons (O_read rfl (R_pick_F rfl hc9 rfl (P_some rfl (O_cons (O_read rfl (R_move rfl (P_some rfl (O_gN rfl rfl rfl (P_some rfl (O_gN rfl rfl rfl ?_)))))))))))))
                    refine P_some rfl (O_cons (O_read rfl (R_pick_F rfl rfl rfl (P_some rfl (O_cons (O_read rfl (R_move rfl (P_some rfl (O_gN rfl rfl rfl (P_some rfl (O_gN rfl rfl rfl (P_some rfl (O_cons ?_)))))))))))))
                    refine O_read rfl (R_pick_F rfl rfl rfl (P_some rfl (O_cons (O_read rfl (R_assign rfl (P_some rfl (O_nil ?_)))))))
                    have e_ := Option.some.inj h515
                    subst e_
                    exact ⟨false, rfl, SubFr.of ⟨rfl, trivial⟩, SegSub.sel _ [] 5⟩
                  replace h515 := cond_f hc8 h515
                  refine P_some rfl (O_gN rfl rfl hc8 (P_some rfl (O_cons (O_read rfl (R_pick_F rfl hc8 rfl (P_some rfl (O_cons (O_read rfl (R_move rfl (P_some rfl (O_gN rfl rfl rfl (P_some rfl (O_gN rfl rfl rfl ?_)))))))))))))
                  refine P_some rfl (O_cons (O_read rfl (R_pick_F rfl rfl rfl (P_some rfl (O_cons (O_read rfl (R_move rfl (P_some rfl (O_gN rfl rfl rfl (P_some rfl (O_gN rfl rfl rfl (P_some rfl (O_cons ?_)))))))))))))
                  refine O_read rfl (R_pick_F rfl rfl rfl (P_some rfl (O_cons (O_read rfl (R_move rfl (P_some rfl (O_gN rfl rfl rfl (P_some rfl (O_gN rfl rfl rfl (P_some rfl (O_cons (O_read rfl (R_pick_F rfl rfl rfl ?_)))))))))))))
                  refine P_some rfl (O_cons (O_read rfl (R_assign rfl (P_some rfl (O_nil ?_)))))
                  have e_ := Option.some.inj h515
                  subst e_
                  exact ⟨false, rfl, SubFr.of ⟨rfl, trivial⟩, SegSub.sel _ [] 5⟩
                replace h515 := cond_f hc7 h515
                refine P_some rfl (O_gN rfl rfl hc7 (P_some rfl (O_cons (O_read rfl (R_pick_F rfl hc7 rfl (P_some rfl (O_cons (O_read rfl (R_move rfl (P_some rfl (O_gN rfl rfl rfl (P_some rfl (O_gN rfl rfl rfl ?_)))))))))))))
                refine P_some rfl (O_cons (O_read rfl (R_pick_F rfl rfl rfl (P_some rfl (O_cons (O_read rfl (R_move rfl (P_some rfl (O_gN rfl rfl rfl (P_some rfl (O_gN rfl rfl rfl (P_some rfl (O_cons ?_)))))))))))))
                refine O_read rfl (R_pick_F rfl rfl rfl (P_some rfl (O_cons (O_read rfl (R_move rfl (P_some rfl (O_gN rfl rfl rfl (P_some rfl (O_gN rfl rfl rfl (P_some rfl (O_cons (O_read rfl (R_pick_F rfl rfl rfl ?_)))))))))))))
                refine P_some rfl (O_cons (O_read rfl (R_move rfl (P_some rfl (O_gN rfl rfl rfl (P_some rfl (O_gN rfl rfl rfl (P_some rfl (O_cons (O_read rfl (R_pick_F rfl rfl rfl (P_some rfl (O_cons ?_)))))))))))))
                refine O_read rfl (R_assign rfl (P_some rfl (O_nil ?_)))
                have e_ := Option.some.inj h515
                subst e_
                exact ⟨false, rfl, SubFr.of ⟨rfl, trivial⟩, SegSub.sel _ [] 5⟩
              replace h515 := cond_f hc6 h515
              refine P_some rfl (O_gN rfl rfl hc6 (P_some rfl (O_cons (O_read rfl (R_pick_F rfl hc6 rfl (P_some rfl (O_cons (O_read rfl (R_move rfl (P_some rfl (O_gN rfl rfl rfl (P_some rfl (O_gN rfl rfl rfl ?_)))))))))))))
              refine P_some rfl (O_cons (O_read rfl (R_pick_F rfl rfl rfl (P_some rfl (O_cons (O_read rfl (R_move rfl (P_some rfl (O_gN rfl rfl rfl (P_some rfl (O_gN rfl rfl rfl (P_some rfl (O_cons ?_)))))))))))))
              refine O_read rfl (R_pick_F rfl rfl rfl (P_some rfl (O_cons (O_read rfl (R_move rfl (P_some rfl (O_gN rfl rfl rfl (P_some rfl (O_gN rfl rfl rfl (P_some rfl (O_cons (O_read rfl (R_pick_F rfl rfl rfl ?_)))))))))))))
              refine P_some rfl (O_cons (O_read rfl (R_move rfl (P_some rfl (O_gN rfl rfl rfl (P_some rfl (O_gN rfl rfl rfl (P_some rfl (O_cons (O_read rfl (R_pick_F rfl rfl rfl (P_some rfl (O_cons ?_)))))))))))))
              refine O_read rfl (R_move rfl (P_some rfl (O_gN rfl rfl rfl (P_some rfl (O_gN rfl rfl rfl (P_some rfl (O_cons (O_read rfl (R_pick_F rfl rfl rfl (P_some rfl (O_cons (O_read rfl (R_assign rfl ?_)))))))))))))
              refine P_some rfl (O_nil ?_)
              have e_ := Option.some.inj h515
              subst e_
              exact ⟨false, rfl, SubFr.of ⟨rfl, trivial⟩, SegSub.sel _ [] 5⟩
            replace h515 := cond_f hc5 h515
            refine P_some rfl (O_gN rfl rfl hc5 (P_some rfl (O_gN rfl rfl hc5 (P_some rfl (O_cons (O_read rfl (R_pick_F rfl hc5 rfl (P_some rfl (O_cons (O_read rfl (R_move rfl (P_some rfl (O_gN rfl rfl rfl ?_)))))))))))))
            refine P_some rfl (O_gN rfl rfl rfl (P_some rfl (O_cons (O_read rfl (R_pick_F rfl rfl rfl (P_some rfl (O_cons (O_read rfl (R_move rfl (P_some rfl (O_gN rfl rfl rfl (P_some rfl (O_gN rfl rfl rfl ?_)))))))))))))
            refine P_some rfl (O_cons (O_read rfl (R_pick_F rfl rfl rfl (P_some rfl (O_cons (O_read rfl (R_move rfl (P_some rfl (O_gN rfl rfl rfl (P_some rfl (O_gN rfl rfl rfl (P_some rfl (O_cons ?_)))))))))))))
            refine O_read rfl (R_pick_F rfl rfl rfl (P_some rfl (O_cons (O_read rfl (R_move rfl (P_some rfl (O_gN rfl rfl rfl (P_some rfl (O_gN rfl rfl rfl (P_some rfl (O_cons (O_read rfl (R_pick_F rfl rfl rfl ?_)))))))))))))
            refine P_some rfl (O_cons (O_read rfl (R_move rfl (P_some rfl (O_gN rfl rfl rfl (P_some rfl (O_gN rfl rfl rfl (P_some rfl (O_cons (O_read rfl (R_pick_F rfl rfl rfl (P_some rfl (O_cons ?_)))))))))))))
            refine O_read rfl (R_move rfl (P_some rfl (O_gN rfl rfl rfl (P_some rfl (O_gN rfl rfl rfl (P_some rfl (O_cons (O_read rfl (R_pick_F rfl rfl rfl (P_some rfl (O_cons (O_read rfl (R_assign rfl ?_)))))))))))))
            refine P_some rfl (O_nil ?_)
            have e_ := Option.some.inj h515
            subst e_
            exact ⟨false, rfl, SubFr.of ⟨rfl, trivial⟩, SegSub.sel _ [] 4⟩
          replace h515 := cond_f hc4 h515
          refine P_some rfl (O_gN rfl rfl hc4 (P_some rfl (O_cons (O_read rfl (R_pick_F rfl hc4 rfl (P_some rfl (O_cons (O_read rfl (R_move rfl (P_some rfl (O_gN rfl rfl rfl (P_some rfl (O_gN rfl rfl rfl ?_)))))))))))))
          refine P_some rfl (O_gN rfl rfl rfl (P_some rfl (O_cons (O_read rfl (R_pick_F rfl rfl rfl (P_some rfl (O_cons (O_read rfl (R_move rfl (P_some rfl (O_gN rfl rfl rfl (P_some rfl (O_gN rfl rfl rfl ?_)))))))))))))
          refine P_some rfl (O_cons (O_read rfl (R_pick_F rfl rfl rfl (P_some rfl (O_cons (O_read rfl (R_move rfl (P_some rfl (O_gN rfl rfl rfl (P_some rfl (O_gN rfl rfl rfl (P_some rfl (O_cons ?_)))))))))))))
          refine O_read rfl (R_pick_F rfl rfl rfl (P_some rfl (O_cons (O_read rfl (R_move rfl (P_some rfl (O_gN rfl rfl rfl (P_some rfl (O_gN rfl rfl rfl (P_some rfl (O_cons (O_read rfl (R_pick_F rfl rfl rfl ?_)))))))))))))
          refine P_some rfl (O_cons (O_read rfl (R_move rfl (P_some rfl (O_gN rfl rfl rfl (P_some rfl (O_gN rfl rfl rfl (P_some rfl (O_cons (O_read rfl (R_pick_F rfl rfl rfl (P_some rfl (O_cons ?_)))))))))))))
          refine O_read rfl (R_move rfl (P_some rfl (O_gN rfl rfl rfl (P_some rfl (O_gN rfl rfl rfl (P_some rfl (O_cons (O_read rfl (R_pick_F rfl rfl rfl (P_some rfl (O_cons (O_read rfl (R_move rfl ?_)))))))))))))
          refine P_some rfl (O_gN rfl rfl rfl (P_some rfl (O_gN rfl rfl rfl (P_some rfl (O_cons (O_read rfl (R_pick_F rfl rfl rfl (P_some rfl (O_cons (O_read rfl (R_assign rfl (P_some rfl (O_nil ?_)))))))))))))
          have e_ := Option.some.inj h515
          subst e_
          exact ⟨false, rfl, SubFr.of ⟨rfl, trivial⟩, SegSub.sel _ [] 4⟩
        replace h515 := cond_f hc3 h515
        refine P_some rfl (O_gN rfl rfl hc3 (P_some rfl (O_gN rfl rfl hc3 (P_some rfl (O_cons (O_read rfl (R_pick_F rfl hc3 rfl (P_some rfl (O_cons (O_read rfl (R_move rfl (P_some rfl (O_gN rfl rfl rfl ?_)))))))))))))
        refine P_some rfl (O_gN rfl rfl rfl (P_some rfl (O_cons (O_read rfl (R_pick_F rfl rfl rfl (P_some rfl (O_cons (O_read rfl (R_move rfl (P_some rfl (O_gN rfl rfl rfl (P_some rfl (O_gN rfl rfl rfl ?_)))))))))))))
        refine P_some rfl (O_gN rfl rfl rfl (P_some rfl (O_cons (O_read rfl (R_pick_F rfl rfl rfl (P_some rfl (O_cons (O_read rfl (R_move rfl (P_some rfl (O_gN rfl rfl rfl (P_some rfl (O_gN rfl rfl rfl ?_)))))))))))))
        refine P_some rfl (O_cons (O_read rfl (R_pick_F rfl rfl rfl (P_some rfl (O_cons (O_read rfl (R_move rfl (P_some rfl (O_gN rfl rfl rfl (P_some rfl (O_gN rfl rfl rfl (P_some rfl (O_cons ?_)))))))))))))
        refine O_read rfl (R_pick_F rfl rfl rfl (P_some rfl (O_cons (O_read rfl (R_move rfl (P_some rfl (O_gN rfl rfl rfl (P_some rfl (O_gN rfl rfl rfl (P_some rfl (O_cons (O_read rfl (R_pick_F rfl rfl rfl ?_)))))))))))))
        refine P_some rfl (O_cons (O_read rfl (R_move rfl (P_some rfl (O_gN rfl rfl rfl (P_some rfl (O_gN rfl rfl rfl (P_some rfl (O_cons (O_read rfl (R_pick_F rfl rfl rfl (P_some rfl (O_cons ?_)))))))))))))
        refine O_read rfl (R_move rfl (P_some rfl (O_gN rfl rfl rfl (P_some rfl (O_gN rfl rfl rfl (P_some rfl (O_cons (O_read rfl (R_pick_F rfl rfl rfl (P_some rfl (O_cons (O_read rfl (R_move rfl ?_)))))))))))))
        refine P_some rfl (O_gN rfl rfl rfl (P_some rfl (O_gN rfl rfl rfl (P_some rfl (O_cons (O_read rfl (R_pick_F rfl rfl rfl (P_some rfl (O_cons (O_read rfl (R_assign rfl (P_some rfl (O_nil ?_)))))))))))))
        have e_ := Option.some.inj h515
        subst e_
        exact ⟨false, rfl, SubFr.of ⟨rfl, trivial⟩, SegSub.sel _ [] 4⟩
      replace h515 := cond_f hc2 h515
      refine P_some rfl (O_gN rfl rfl hc2 (P_some rfl (O_cons (O_read rfl (R_pick_F rfl hc2 rfl (P_some rfl (O_cons (O_read rfl (R_move rfl (P_some rfl (O_gN rfl rfl rfl (P_some rfl (O_gN rfl rfl rfl ?_)))))))))))))
      refine P_some rfl (O_gN rfl rfl rfl (P_some rfl (O_cons (O_read rfl (R_pick_F rfl rfl rfl (P_some rfl (O_cons (O_read rfl (R_move rfl (P_some rfl (O_gN rfl rfl rfl (P_some rfl (O_gN rfl rfl rfl ?_)))))))))))))
      refine P_some rfl (O_cons (O_read rfl (R_pick_F rfl rfl rfl (P_some rfl (O_cons (O_read rfl (R_move rfl (P_some rfl (O_gN rfl rfl rfl (P_some rfl (O_gN rfl rfl rfl (P_some rfl (O_gN rfl rfl rfl ?_)))))))))))))
      refine P_some rfl (O_cons (O_read rfl (R_pick_F rfl rfl rfl (P_some rfl (O_cons (O_read rfl (R_move rfl (P_some rfl (O_gN rfl rfl rfl (P_some rfl (O_gN rfl rfl rfl (P_some rfl (O_cons ?_)))))))))))))
      refine O_read rfl (R_pick_F rfl rfl rfl (P_some rfl (O_cons (O_read rfl (R_move rfl (P_some rfl (O_gN rfl rfl rfl (P_some rfl (O_gN rfl rfl rfl (P_some rfl (O_cons (O_read rfl (R_pick_F rfl rfl rfl ?_)))))))))))))
      refine P_some rfl (O_cons (O_read rfl (R_move rfl (P_some rfl (O_gN rfl rfl rfl (P_some rfl (O_gN rfl rfl rfl (P_some rfl (O_cons (O_read rfl (R_pick_F rfl rfl rfl (P_some rfl (O_cons ?_)))))))))))))
      refine O_read rfl (R_move rfl (P_some rfl (O_gN rfl rfl rfl (P_some rfl (O_gN rfl rfl rfl (P_some rfl (O_cons (O_read rfl (R_pick_F rfl rfl rfl (P_some rfl (O_cons (O_read rfl (R_move rfl ?_)))))))))))))
      refine P_some rfl (O_gN rfl rfl rfl (P_some rfl (O_gN rfl rfl rfl (P_some rfl (O_cons (O_read rfl (R_pick_F rfl rfl rfl (P_some rfl (O_cons (O_read rfl (R_move rfl (P_some rfl (O_gN rfl rfl rfl ?_)))))))))))))
      refine P_some rfl (O_gN rfl rfl rfl (P_some rfl (O_cons (O_read rfl (R_pick_F rfl rfl rfl (P_some rfl (O_cons (O_read rfl (R_assign rfl (P_some rfl (O_nil ?_)))))))))))
      have e_ := Option.some.inj h515
      subst e_
      exact ⟨false, rfl, SubFr.of ⟨rfl, trivial⟩, SegSub.sel _ [] 4⟩
    replace h515 := cond_f hc1 h515
    refine P_some rfl (O_gN rfl rfl hc1 (P_some rfl (O_gN rfl rfl hc1 (P_some rfl (O_cons (O_read rfl (R_pick_F rfl hc1 rfl (P_some rfl (O_cons (O_read rfl (R_move rfl (P_some rfl (O_gN rfl rfl rfl ?_)))))))))))))
    refine P_some rfl (O_gN rfl rfl rfl (P_some rfl (O_cons (O_read rfl (R_pick_F rfl rfl rfl (P_some rfl (O_cons (O_read rfl (R_move rfl (P_some rfl (O_gN rfl rfl rfl (P_some rfl (O_gN rfl rfl rfl ?_)))))))))))))
    refine P_some rfl (O_gN rfl rfl rfl (P_some rfl (O_cons (O_read rfl (R_pick_F rfl rfl rfl (P_some rfl (O_cons (O_read rfl (R_move rfl (P_some rfl (O_gN rfl rfl rfl (P_some rfl (O_gN rfl rfl rfl ?_)))))))))))))
    refine P_some rfl (O_cons (O_read rfl (R_pick_F rfl rfl rfl (P_some rfl (O_cons (O_read rfl (R_move rfl (P_some rfl (O_gN rfl rfl rfl (P_some rfl (O_gN rfl rfl rfl (P_some rfl (O_gN rfl rfl rfl ?_)))))))))))))
    refine P_some rfl (O_cons (O_read rfl (R_pick_F rfl rfl rfl (P_some rfl (O_cons (O_read rfl (R_move rfl (P_some rfl (O_gN rfl rfl rfl (P_some rfl (O_gN rfl rfl rfl (P_some rfl (O_cons ?_)))))))))))))
    refine O_read rfl (R_pick_F rfl rfl rfl (P_some rfl (O_cons (O_read rfl (R_move rfl (P_some rfl (O_gN rfl rfl rfl (P_some rfl (O_gN rfl rfl rfl (P_some rfl (O_cons (O_read rfl (R_pick_F rfl rfl rfl ?_)))))))))))))
    refine P_some rfl (O_cons (O_read rfl (R_move rfl (P_some rfl (O_gN rfl rfl rfl (P_some rfl (O_gN rfl rfl rfl (P_some rfl (O_cons (O_read rfl (R_pick_F rfl rfl rfl (P_some rfl (O_cons ?_)))))))))))))
    refine O_read rfl (R_move rfl (P_some rfl (O_gN rfl rfl rfl (P_some rfl (O_gN rfl rfl rfl (P_some rfl (O_cons (O_read rfl (R_pick_F rfl rfl rfl (P_some rfl (O_cons (O_read rfl (R_move rfl ?_)))))))))))))
    refine P_some rfl (O_gN rfl rfl rfl (P_some rfl (O_gN rfl rfl rfl (P_some rfl (O_cons (O_read rfl (R_pick_F rfl rfl rfl (P_some rfl (O_cons (O_read rfl (R_move rfl (P_some rfl (O_gN rfl rfl rfl ?_)))))))))))))
    refine P_some rfl (O_gN rfl rfl rfl (P_some rfl (O_cons (O_read rfl (R_pick_F rfl rfl rfl (P_some rfl (O_cons (O_read rfl (R_assign rfl (P_some rfl (O_nil ?_)))))))))))
    have e_ := Option.some.inj h515
    subst e_
    exact ⟨false, rfl, SubFr.of ⟨rfl, trivial⟩, SegSub.sel _ [] 4⟩
  rintro fr515 μ515 L515 hm515 ⟨v3, ho515, hF515, hS515⟩
  subst ho515
  replace hA1 := hA1.mono hm515
  replace hO1 := hO1.mono hm515
  refine hK514 _ _ _ (WP.at hF515 hS515 (WP.ret ?_))
  have e_ := Option.some.inj h
  subst e_
  refine S_tmp rfl (S_nil (Upd.selS [] 0 ?_))
  exact Upd.done (hR _ (Gh.le.trans hm_1 (hm515)))

theorem recyclinglaw17_ScheduleChecks_fn {μ : Gh} {L : List Seg} {R : Value → Gh → List Seg → Prop} {F : Nat} {s1 : T_api_Schedule} {A1 : Option Addr} {c1 : Nat} {res1 : Bool}
    (hl1 : s1.Moves.length ≤ c1 ∧ c1 ≤ maxLen) (hA1 : ArrR r_api_Move μ A1 s1.Moves) (h : recyclinglaw17_ScheduleChecks F s1 = some res1)
    (hR : ∀ (μ' : Gh) , μ.le μ' → R (.bool res1) μ' (L)) :
    Fn Try.prog 3 [.agg #[.int .i64 s1.Container, .int .i64 s1.Start, .int .i64 s1.Every, .slice A1 s1.Moves.length c1]] μ L R := by
  unfold recyclinglaw17_ScheduleChecks at h
  refine Fn.of_body Tt_ok Try.func3 (by kernel_rfl) rfl Try.ntmps3 (by simp) ?_
  simp only [Try.f3, argFr, List.zipIdx, List.map, Nat.reduceAdd]
  refine WP.seq_k (fun K522 hK522 => WP.region Tt_ok (O_cons (O_box (cs := #[.int .i64 s1.Container, .int .i64 s1.Start, .int .i64 s1.Every, .slice A1 s1.Moves.length c1]) rfl rfl (fun g1 => P_some rfl (O_cons (O_read rfl (R_assign rfl (P_some rfl (O_nil (hK522 _ _ _ (WP.seq_k (fun K524 hK524 => ?_))))))))))))
  obtain ⟨o525, h525, h⟩ := obind h
  refine WP.cutK (fun fr_ μ_ L_ => ∃ (v3 : Bool), v3 = o525 ∧ SubFr [(2, .bool v3)] fr_ ∧ SegSub (L) L_) ?_ ?_
  · refine WP.drawn (id := 1) (l' := List.replicate 15 true) wide Tt_ok _ Kept.refl [(true, 0), (true, 1), (true, 2), (true, 3), (true, 4), (true, 5), (true, 7), (false, 6), (false, 8), (true, 9), (true, 10), (true, 11), (false, 12), (true, 13), (true, 14)] (by kernel_rfl) (by kernel_rfl) rfl (PL_t rfl (R_fa0 (o' := 3) rfl rfl rfl rfl rfl rfl (P_some rfl (PL_t rfl (R_load rfl rfl rfl (Ex.mk _ (Cell.seg 0 0 rfl rfl rfl) (P_some rfl (PL_t rfl (R_lenS rfl rfl rfl (P_some rfl (PL_t rfl (R_gtrD rfl rfl (P_some rfl ?_)))))))))))))
    refine PL_t rfl (R_move rfl (P_some rfl ?_))
    refine PL_tv (z := (decide (200 < ((s1.Moves.length : Nat) : Int)))) rfl rfl rfl (fun hc1 => ?_) (fun hc1 => ?_)
    · replace h525 := cond_f hc1 h525
      refine R_loadA rfl rfl rfl rfl (LA_ (vs := [.int .i64 s1.Container, .int .i64 s1.Start, .int .i64 s1.Every, .slice A1 s1.Moves.length c1]) 0 0 rfl rfl rfl rfl (P_some rfl (PL_tY rfl rfl rfl hc1 (R_loadA rfl rfl rfl rfl (LA_ (vs := [.int .i64 s1.Container, .int .i64 s1.Start, .int .i64 s1.Every, .slice A1 s1.Moves.length c1]) 0 0 rfl rfl rfl rfl (P_some rfl (PL_fY rfl rfl rfl hc1 (O_call (all := [.agg #[.int .i64 s1.Container, .int .i64 s1.Start, .int .i64 s1.Every, .slice A1 s1.Moves.length c1]]) rfl rfl rfl ?_))))))))
      obtain ⟨r1, hx1, h525⟩ := obind h525
      refine schedule_Check_fn hl1 hA1 hx1 (?_)
      refine ⟨Kept.refl, ?_⟩
      refine P_some rfl (PL_fY rfl rfl rfl hc1 (O_call (all := [.agg #[.int .i64 s1.Container, .int .i64 s1.Start, .int .i64 s1.Every, .slice A1 s1.Moves.length c1]]) rfl rfl rfl ?_))
      obtain ⟨r2, hx2, h525⟩ := obind h525
      refine recyclingref17_Check_fn hl1 hA1 hx2 (?_)
      refine ⟨Kept.refl, ?_⟩
      refine P_some rfl (PL_tY rfl rfl rfl hc1 (R_eqlD rfl rfl (P_some rfl (PL_t rfl (R_pick_F rfl hc1 rfl (P_some rfl (PL_t rfl (R_move rfl (P_some rfl ?_)))))))))
      refine PL_fv (z := (decide (r1 = r2))) rfl rfl rfl (fun hc2 => ?_) (fun hc2 => ?_)
      · replace h525 := cond_t hc2 h525
        apply O_call (all := []); exact rfl; exact rfl; exact rfl
        obtain ⟨r3, hx3, h525⟩ := obind h525
        refine recyclinglaw17_awake_fn  hx3 (fun v1 hm_1 => ?_)
        replace hA1 := hA1.mono hm_1
        refine ⟨Kept.refl, ?_⟩
        refine P_some rfl (PL_t rfl (R_pick_T rfl hc2 rfl (P_some rfl (PL_t rfl (R_assign rfl (P_some rfl (PL_nil (AN.done0 (by kernel_rfl) ?_))))))))
        have e_ := Option.some.inj h525
        subst e_
        exact ⟨r3, rfl, SubFr.of ⟨rfl, trivial⟩, SegSub.sel _ [] 1⟩
      replace h525 := cond_f hc2 h525
      refine P_some rfl (PL_t rfl (R_pick_F rfl hc2 rfl (P_some rfl (PL_t rfl (R_assign rfl (P_some rfl (PL_nil (AN.done0 (by kernel_rfl) ?_))))))))
      have e_ := Option.some.inj h525
      subst e_
      exact ⟨false, rfl, SubFr.of ⟨rfl, trivial⟩, SegSub.sel _ [] 1⟩
    replace h525 := cond_t hc1 h525
    refine P_some rfl (PL_tN rfl rfl rfl hc1 (P_some rfl (PL_fN rfl rfl rfl hc1 (P_some rfl (PL_fN rfl rfl rfl hc1 (P_some rfl (PL_tN rfl rfl rfl hc1 (P_some rfl (PL_t rfl (R_pick_T rfl hc1 rfl (P_some rfl (PL_t rfl (R_move rfl ?_)))))))))))))
    refine P_some rfl (PL_fY rfl rfl rfl rfl (O_call (all := []) rfl rfl rfl ?_))
    obtain ⟨r4, hx4, h525⟩ := obind h525
    refine recyclinglaw17_awake_fn  hx4 (fun v2 hm_2 => ?_)
    replace hA1 := hA1.mono hm_2
    refine ⟨Kept.refl, ?_⟩
    refine P_some rfl (PL_t rfl (R_pick_T rfl rfl rfl (P_some rfl (PL_t rfl (R_assign rfl (P_some rfl (PL_nil (AN.done0 (by kernel_rfl) ?_))))))))
    have e_ := Option.some.inj h525
    subst e_
    exact ⟨r4, rfl, SubFr.of ⟨rfl, trivial⟩, SegSub.sel _ [] 1⟩
  rintro fr525 μ525 L525 hm525 ⟨v3, ho525, hF525, hS525⟩
  subst ho525
  replace hA1 := hA1.mono hm525
  refine hK524 _ _ _ (WP.at hF525 hS525 (WP.ret ?_))
  have e_ := Option.some.inj h
  subst e_
  refine S_tmp rfl (S_nil (Upd.selS [] 0 ?_))
  exact Upd.done (hR _ (hm525))

theorem recyclingref17_day_fn {μ : Gh} {L : List Seg} {R : Value → Gh → List Seg → Prop}  {s1 : T_api_Schedule} {d1 : Int} {A1 : Option Addr} {c1 : Nat} {res1 : Bool}
    (hl1 : s1.Moves.length ≤ c1 ∧ c1 ≤ maxLen) (hA1 : ArrR r_api_Move μ A1 s1.Moves) (h : recyclingref17_day s1 d1 = some res1)
    (hR : R (.bool res1) μ (L)) :
    Fn Try.prog 28 [.agg #[.int .i64 s1.Container, .int .i64 s1.Start, .int .i64 s1.Every, .slice A1 s1.Moves.length c1], .int .i64 d1] μ L R := by
  unfold recyclingref17_day at h
  refine Fn.of_body Tt_ok Try.func28 (by kernel_rfl) rfl Try.ntmps28 (by simp) ?_
  simp only [Try.f28, argFr, List.zipIdx, List.map, Nat.reduceAdd]
  refine WP.seq_k (fun K537 hK537 => WP.region Tt_ok (O_cons (O_box (cs := #[.int .i64 s1.Container, .int .i64 s1.Start, .int .i64 s1.Every, .slice A1 s1.Moves.length c1]) rfl rfl (fun g1 => P_some rfl (O_cons (O_read rfl (R_assign rfl (P_some rfl (O_nil (hK537 _ _ _ (WP.seq_k (fun K539 hK539 => WP.region Tt_ok (O_cons ?_)))))))))))))
  refine O_read rfl (R_loadA rfl rfl rfl rfl (LA_ (vs := [.int .i64 s1.Container, .int .i64 s1.Start, .int .i64 s1.Every, .slice A1 s1.Moves.length c1]) 0 0 rfl rfl rfl rfl (P_some rfl (O_cons (O_read rfl (R_move rfl (P_some rfl (O_cons (O_call (all := [.agg #[.int .i64 s1.Container, .int .i64 s1.Start, .int .i64 s1.Every, .slice A1 s1.Moves.length c1], .int .i64 d1]) rfl rfl rfl ?_)))))))))
  obtain ⟨r1, hx1, h⟩ := obind h
  refine recyclingref17_Pattern_fn hl1 hA1 hx1 ((P_some rfl (O_cons (O_read rfl (R_assign rfl (P_some rfl (O_nil (hK539 _ _ _ (WP.seq_k (fun K540 hK540 => WP.seq_k (fun K541 hK541 => WP.region Tt_ok (O_cons (O_read rfl (R_assign rfl ?_))))))))))))))
  refine P_some rfl (O_nil (hK541 _ _ _ ?_))
  obtain ⟨o542, h542, h⟩ := obind h
  refine WP.cutK (fun fr_ μ_ L_ => ∃ (is4 : Bool), is4 = o542 ∧ SubFr [(5, .bool is4)] fr_ ∧ SegSub (L) L_ ∧ μ = μ_) ?_ ?_
  · refine WP.block (WP.iter h542 (fun (j_ : Bool × Int) fr_ μ_ L_ => ounP j_ fun is1 i1 => SubFr [(1, .int .i64 d1), (2, .pointer (some ⟨g1, 0, none⟩)), (5, .bool is1), (6, .int .i64 i1)] fr_ ∧ SegSub ([(g1, .cells #[.int .i64 s1.Container, .int .i64 s1.Start, .int .i64 s1.Every, .slice A1 s1.Moves.length c1] 24 (0, 0))] :: L) L_ ∧ μ = μ_) ⟨SubFr.of ⟨rfl, rfl, rfl, rfl, trivial⟩, SegSub.sel _ [some 0] 1, rfl⟩ ?_)
    rintro ⟨is1, i1⟩ q559 fr559 μ559 L559 hm559 ⟨hF559, hS559, hu559⟩ hb559 hq559
    unfold recyclingref17_day_l1 at hb559
    replace hb559 := oun_mk hb559
    subst hu559
    refine WP.at hF559 hS559 (WP.seq_k (fun K563 hK563 => WP.seq_k (fun K564 hK564 => WP.region Tt_ok (O_cons (O_read rfl (R_move rfl (P_some rfl (O_cons (O_read rfl (R_fa0 (o' := 3) rfl rfl rfl rfl rfl rfl (P_some rfl (O_cons (O_read rfl ?_)))))))))))))
    refine R_load rfl rfl rfl (Ex.mk _ (Cell.seg 0 0 rfl rfl rfl) (P_some rfl (O_cons (O_read rfl (R_lenS rfl rfl rfl (P_some rfl (O_cons (O_read rfl (R_lssD rfl rfl (P_some rfl (O_nil (hK564 _ _ _ ?_))))))))))))
    refine W_cond_v (b := (decide (i1 < ((s1.Moves.length : Nat) : Int)))) rfl (fun hc1 => ?_) (fun hc1 => ?_)
    · replace hb559 := cond_t hc1 hb559
      refine WP.skip (hK563 _ _ _ (WP.seq_k (fun K565 hK565 => ?_)))
      obtain ⟨o566, h566, hb559⟩ := obind hb559
      refine WP.cutK (fun fr_ μ_ L_ => ∃ (is3 : Bool), is3 = o566 ∧ SubFr [(1, .int .i64 d1), (2, .pointer (some ⟨g1, 0, none⟩)), (5, .bool is3), (6, .int .i64 i1)] fr_ ∧ SegSub ([(g1, .cells #[.int .i64 s1.Container, .int .i64 s1.Start, .int .i64 s1.Every, .slice A1 s1.Moves.length c1] 24 (0, 0))] :: L) L_ ∧ μ = μ_) ?_ ?_
      · refine WP.block (WP.seq_k (fun K567 hK567 => WP.seq_k (fun K568 hK568 => WP.region Tt_ok (O_cons (O_read rfl (R_fa0 (o' := 3) rfl rfl rfl rfl rfl rfl (P_some rfl (O_cons (O_read rfl (R_load rfl rfl rfl (Ex.mk _ (Cell.seg 0 0 rfl rfl rfl) (P_some rfl (O_cons ?_)))))))))))))
        refine O_read rfl (R_move rfl (P_some rfl (O_cons ?_)))
        obtain ⟨x1, hx2, h566⟩ := obind h566
        obtain ⟨a1, cs1, hA2, hr1, _, hc2⟩ := Rds.getI (ArrR.rds hA1 ([(g1, .cells #[.int .i64 s1.Container, .int .i64 s1.Start, .int .i64 s1.Every, .slice A1 s1.Moves.length c1] 24 (0, 0))] :: L)) hx2
        obtain rfl := hr1
        refine O_read rfl (R_iaG rfl rfl rfl rfl rfl rfl ⟨(getI_lt hx2).1, (getI_lt hx2).2.1⟩ hA2 (P_some rfl (O_cons (O_read rfl (R_faz rfl rfl rfl rfl rfl (P_some rfl (O_cons (O_read rfl (R_load rfl rfl rfl (Ex.mk _ (Cell.of_cells0 hc2 rfl) (P_some rfl (O_cons (O_read rfl ?_)))))))))))))
        refine R_move rfl (P_some rfl (O_cons (O_read rfl (R_eqlD rfl rfl (P_some rfl (O_nil (hK568 _ _ _ ?_)))))))
        obtain ⟨o569, h569, h566⟩ := obind h566
        refine WP.cutK (fun fr_ μ_ L_ => ∃ (is2 : Bool), is2 = o569 ∧ SubFr [(1, .int .i64 d1), (2, .pointer (some ⟨g1, 0, none⟩)), (5, .bool is2), (6, .int .i64 i1)] fr_ ∧ SegSub ([(g1, .cells #[.int .i64 s1.Container, .int .i64 s1.Start, .int .i64 s1.Every, .slice A1 s1.Moves.length c1] 24 (0, 0))] :: L) L_ ∧ μ = μ_) ?_ ?_
        · refine W_cond_v (b := (decide (x1.From = d1))) rfl (fun hc3 => ?_) (fun hc3 => ?_)
          · replace h569 := cond_t hc3 h569
            refine WP.region Tt_ok (O_cons (O_read rfl (R_assign rfl (P_some rfl (O_nil ?_)))))
            have e_ := Option.some.inj h569
            subst e_
            exact ⟨false, rfl, SubFr.of ⟨rfl, rfl, rfl, rfl, trivial⟩, SegSub.sel _ [some 0] 1, rfl⟩
          replace h569 := cond_f hc3 h569
          apply WP.skip
          have e_ := Option.some.inj h569
          subst e_
          exact ⟨is1, rfl, SubFr.of ⟨rfl, rfl, rfl, rfl, trivial⟩, SegSub.sel _ [some 0] 1, rfl⟩
        rintro fr569 μ569 L569 hm569 ⟨is2, ho569, hF569, hS569, hu569⟩
        subst ho569
        subst hu569
        refine hK567 _ _ _ (WP.at hF569 hS569 (WP.seq_k (fun K572 hK572 => WP.region Tt_ok (O_cons (O_read rfl (R_fa0 (o' := 3) rfl rfl rfl rfl rfl rfl (P_some rfl (O_cons (O_read rfl (R_load rfl rfl rfl (Ex.mk _ (Cell.seg 0 0 rfl rfl rfl) (P_some rfl (O_cons ?_)))))))))))))
        refine O_read rfl (R_move rfl (P_some rfl (O_cons ?_)))
        obtain ⟨x2, hx3, h566⟩ := obind h566
        obtain ⟨a2, cs2, hA3, hr2, _, hc4⟩ := Rds.getI (ArrR.rds hA1 ([(g1, .cells #[.int .i64 s1.Container, .int .i64 s1.Start, .int .i64 s1.Every, .slice A1 s1.Moves.length c1] 24 (0, 0))] :: L)) hx3
        obtain rfl := hr2
        refine O_read rfl (R_iaG rfl rfl rfl rfl rfl rfl ⟨(getI_lt hx3).1, (getI_lt hx3).2.1⟩ hA3 (P_some rfl (O_cons (O_read rfl (R_fa rfl rfl rfl rfl rfl (P_some rfl (O_cons (O_read rfl (R_load rfl rfl rfl (Ex.mk _ (Cell.of_cells hc4 1 rfl) (P_some rfl (O_cons (O_read rfl ?_)))))))))))))
        refine R_move rfl (P_some rfl (O_cons (O_read rfl (R_eqlD rfl rfl (P_some rfl (O_nil (hK572 _ _ _ ?_)))))))
        refine W_cond_v (b := (decide (x2.To = d1))) rfl (fun hc5 => ?_) (fun hc5 => ?_)
        · replace h566 := cond_t hc5 h566
          refine WP.region Tt_ok (O_cons (O_read rfl (R_assign rfl (P_some rfl (O_nil ?_)))))
          have e_ := Option.some.inj h566
          subst e_
          exact ⟨true, rfl, SubFr.of ⟨rfl, rfl, rfl, rfl, trivial⟩, SegSub.sel _ [some 0] 1, rfl⟩
        replace h566 := cond_f hc5 h566
        apply WP.skip
        have e_ := Option.some.inj h566
        subst e_
        exact ⟨is2, rfl, SubFr.of ⟨rfl, rfl, rfl, rfl, trivial⟩, SegSub.sel _ [some 0] 1, rfl⟩
      rintro fr566 μ566 L566 hm566 ⟨is3, ho566, hF566, hS566, hu566⟩
      subst ho566
      subst hu566
      refine hK565 _ _ _ (WP.at hF566 hS566 (WP.region Tt_ok (O_cons (O_read rfl (R_move rfl (P_some rfl (O_cons (O_read rfl (R_add rfl rfl (P_some rfl (O_cons (O_read rfl (R_assign rfl ?_)))))))))))))
      refine P_some rfl (O_nil ?_)
      have e_ := Option.some.inj hb559
      subst e_
      exact ⟨_, rfl, SubFr.of ⟨rfl, rfl, rfl, rfl, trivial⟩, SegSub.sel _ [some 0] 1, rfl⟩
    replace hb559 := cond_f hc1 hb559
    refine WP.exit (B_here ?_)
    have e_ := Option.some.inj hb559
    subst e_
    have hq_ := hq559 _ rfl
    subst hq_
    exact ⟨is1, rfl, SubFr.of ⟨rfl, trivial⟩, SegSub.sel _ [] 1, rfl⟩
  rintro fr542 μ542 L542 hm542 ⟨is4, ho542, hF542, hS542, hu542⟩
  subst ho542
  subst hu542
  refine hK540 _ _ _ (WP.at hF542 hS542 (WP.seq_k (fun K575 hK575 => WP.region Tt_ok (O_cons (O_read rfl (R_move rfl (P_some rfl (O_cons (O_read rfl (R_assign rfl (P_some rfl (O_nil (hK575 _ _ _ ?_)))))))))))))
  apply WP.ret
  have e_ := Option.some.inj h
  subst e_
  refine S_tmp rfl (S_nil (Upd.selS [] 0 ?_))
  exact Upd.done hR

theorem recyclingref17_Due_fn {μ : Gh} {L : List Seg} {R : Value → Gh → List Seg → Prop}  {s1 : T_api_Schedule} {d1 : Int} {A1 : Option Addr} {c1 : Nat} {res1 : Bool}
    (hl1 : s1.Moves.length ≤ c1 ∧ c1 ≤ maxLen) (hA1 : ArrR r_api_Move μ A1 s1.Moves) (h : recyclingref17_Due s1 d1 = some res1)
    (hR : R (.bool res1) μ (L)) :
    Fn Try.prog 14 [.agg #[.int .i64 s1.Container, .int .i64 s1.Start, .int .i64 s1.Every, .slice A1 s1.Moves.length c1], .int .i64 d1] μ L R := by
  unfold recyclingref17_Due at h
  refine Fn.of_body Tt_ok Try.func14 (by kernel_rfl) rfl Try.ntmps14 (by simp) ?_
  simp only [Try.f14, argFr, List.zipIdx, List.map, Nat.reduceAdd]
  refine WP.seq_k (fun K532 hK532 => WP.region Tt_ok (O_cons (O_box (cs := #[.int .i64 s1.Container, .int .i64 s1.Start, .int .i64 s1.Every, .slice A1 s1.Moves.length c1]) rfl rfl (fun g1 => P_some rfl (O_cons (O_read rfl (R_assign rfl (P_some rfl (O_nil (hK532 _ _ _ (WP.seq_k (fun K534 hK534 => ?_))))))))))))
  obtain ⟨o535, h535, h⟩ := obind h
  refine WP.cutK (fun fr_ μ_ L_ => ∃ (v1 : Bool), v1 = o535 ∧ SubFr [(4, .bool v1)] fr_ ∧ SegSub (L) L_ ∧ μ = μ_) ?_ ?_
  · refine WP.region Tt_ok (O_cons (O_read rfl (R_loadA rfl rfl rfl rfl (LA_ (vs := [.int .i64 s1.Container, .int .i64 s1.Start, .int .i64 s1.Every, .slice A1 s1.Moves.length c1]) 0 0 rfl rfl rfl rfl (P_some rfl (O_cons (O_call (all := [.agg #[.int .i64 s1.Container, .int .i64 s1.Start, .int .i64 s1.Every, .slice A1 s1.Moves.length c1]]) rfl rfl rfl ?_)))))))
    obtain ⟨r1, hx1, h535⟩ := obind h535
    refine recyclingref17_Check_fn hl1 hA1 hx1 ((P_some rfl (O_cons (O_read rfl (R_eqlD rfl rfl (P_some rfl (O_cons (O_read rfl (R_move rfl (P_some rfl ?_))))))))))
    refine O_gv (z := (decide (r1 = 0))) rfl rfl (fun hc1 => ?_) (fun hc1 => ?_)
    · replace h535 := cond_t hc1 h535
      refine O_read rfl (R_loadA rfl rfl rfl rfl (LA_ (vs := [.int .i64 s1.Container, .int .i64 s1.Start, .int .i64 s1.Every, .slice A1 s1.Moves.length c1]) 0 0 rfl rfl rfl rfl (P_some rfl (O_gY rfl rfl hc1 (O_read rfl (R_move rfl (P_some rfl (O_gY rfl rfl hc1 (O_call (all := [.agg #[.int .i64 s1.Container, .int .i64 s1.Start, .int .i64 s1.Every, .slice A1 s1.Moves.length c1], .int .i64 d1]) rfl rfl rfl ?_)))))))))
      obtain ⟨r2, hx2, h535⟩ := obind h535
      refine recyclingref17_day_fn hl1 hA1 hx2 ((P_some rfl (O_cons (O_read rfl (R_pick_T rfl hc1 rfl (P_some rfl (O_cons (O_read rfl (R_assign rfl (P_some rfl (O_nil ?_)))))))))))
      have e_ := Option.some.inj h535
      subst e_
      exact ⟨r2, rfl, SubFr.of ⟨rfl, trivial⟩, SegSub.sel _ [] 1, rfl⟩
    replace h535 := cond_f hc1 h535
    refine P_some rfl (O_gN rfl rfl hc1 (P_some rfl (O_gN rfl rfl hc1 (P_some rfl (O_cons (O_read rfl (R_pick_F rfl hc1 rfl (P_some rfl (O_cons (O_read rfl (R_assign rfl (P_some rfl (O_nil ?_)))))))))))))
    have e_ := Option.some.inj h535
    subst e_
    exact ⟨false, rfl, SubFr.of ⟨rfl, trivial⟩, SegSub.sel _ [] 1, rfl⟩
  rintro fr535 μ535 L535 hm535 ⟨v1, ho535, hF535, hS535, hu535⟩
  subst ho535
  subst hu535
  refine hK534 _ _ _ (WP.at hF535 hS535 (WP.ret ?_))
  have e_ := Option.some.inj h
  subst e_
  refine S_tmp rfl (S_nil (Upd.selS [] 0 ?_))
  exact Upd.done hR

theorem recyclinglaw17_ScheduleDues_fn {μ : Gh} {L : List Seg} {R : Value → Gh → List Seg → Prop} {F : Nat} {s1 : T_api_Schedule} {day1 : Int} {A1 : Option Addr} {c1 : Nat} {res1 : Bool}
    (hl1 : s1.Moves.length ≤ c1 ∧ c1 ≤ maxLen) (hA1 : ArrR r_api_Move μ A1 s1.Moves) (h : recyclinglaw17_ScheduleDues F s1 day1 = some res1)
    (hR : ∀ (μ' : Gh) , μ.le μ' → R (.bool res1) μ' (L)) :
    Fn Try.prog 4 [.agg #[.int .i64 s1.Container, .int .i64 s1.Start, .int .i64 s1.Every, .slice A1 s1.Moves.length c1], .int .i64 day1] μ L R := by
  unfold recyclinglaw17_ScheduleDues at h
  refine Fn.of_body Tt_ok Try.func4 (by kernel_rfl) rfl Try.ntmps4 (by simp) ?_
  simp only [Try.f4, argFr, List.zipIdx, List.map, Nat.reduceAdd]
  refine WP.seq_k (fun K577 hK577 => WP.region Tt_ok (O_cons (O_box (cs := #[.int .i64 s1.Container, .int .i64 s1.Start, .int .i64 s1.Every, .slice A1 s1.Moves.length c1]) rfl rfl (fun g1 => P_some rfl (O_cons (O_read rfl (R_assign rfl (P_some rfl (O_nil (hK577 _ _ _ (WP.seq_k (fun K579 hK579 => ?_))))))))))))
  obtain ⟨o580, h580, h⟩ := obind h
  refine WP.cutK (fun fr_ μ_ L_ => ∃ (v3 : Bool), v3 = o580 ∧ SubFr [(4, .bool v3)] fr_ ∧ SegSub (L) L_) ?_ ?_
  · refine WP.drawn (id := 1) (l' := List.replicate 17 true) wide Tt_ok _ Kept.refl [(true, 0), (true, 1), (true, 2), (true, 3), (true, 4), (true, 5), (true, 6), (true, 8), (true, 9), (false, 7), (false, 10), (true, 11), (true, 12), (true, 13), (false, 14), (true, 15), (true, 16)] (by kernel_rfl) (by kernel_rfl) rfl (PL_t rfl (R_fa0 (o' := 3) rfl rfl rfl rfl rfl rfl (P_some rfl (PL_t rfl (R_load rfl rfl rfl (Ex.mk _ (Cell.seg 0 0 rfl rfl rfl) (P_some rfl (PL_t rfl (R_lenS rfl rfl rfl (P_some rfl (PL_t rfl (R_gtrD rfl rfl (P_some rfl ?_)))))))))))))
    refine PL_t rfl (R_move rfl (P_some rfl ?_))
    refine PL_tv (z := (decide (200 < ((s1.Moves.length : Nat) : Int)))) rfl rfl rfl (fun hc1 => ?_) (fun hc1 => ?_)
    · replace h580 := cond_f hc1 h580
      refine R_loadA rfl rfl rfl rfl (LA_ (vs := [.int .i64 s1.Container, .int .i64 s1.Start, .int .i64 s1.Every, .slice A1 s1.Moves.length c1]) 0 0 rfl rfl rfl rfl (P_some rfl (PL_tY rfl rfl rfl hc1 (R_move rfl (P_some rfl (PL_tY rfl rfl rfl hc1 (R_loadA rfl rfl rfl rfl (LA_ (vs := [.int .i64 s1.Container, .int .i64 s1.Start, .int .i64 s1.Every, .slice A1 s1.Moves.length c1]) 0 0 rfl rfl rfl rfl (P_some rfl (PL_tY rfl rfl rfl hc1 (R_move rfl (P_some rfl (PL_fY rfl rfl rfl hc1 ?_)))))))))))))
      apply O_call (all := [.agg #[.int .i64 s1.Container, .int .i64 s1.Start, .int .i64 s1.Every, .slice A1 s1.Moves.length c1], .int .i64 day1]); exact rfl; exact rfl; exact rfl
      obtain ⟨r1, hx1, h580⟩ := obind h580
      refine schedule_Due_fn hl1 hA1 hx1 (?_)
      refine ⟨Kept.refl, ?_⟩
      refine P_some rfl (PL_fY rfl rfl rfl hc1 (O_call (all := [.agg #[.int .i64 s1.Container, .int .i64 s1.Start, .int .i64 s1.Every, .slice A1 s1.Moves.length c1], .int .i64 day1]) rfl rfl rfl ?_))
      obtain ⟨r2, hx2, h580⟩ := obind h580
      refine recyclingref17_Due_fn hl1 hA1 hx2 (?_)
      refine ⟨Kept.refl, ?_⟩
      refine P_some rfl (PL_tY rfl rfl rfl hc1 (R_eqBD rfl rfl rfl rfl (P_some rfl (PL_t rfl (R_pick_F rfl hc1 rfl (P_some rfl (PL_t rfl (R_move rfl (P_some rfl ?_)))))))))
      refine PL_fv (z := (r1 == r2)) rfl rfl rfl (fun hc2 => ?_) (fun hc2 => ?_)
      · replace h580 := cond_t hc2 h580
        apply O_call (all := []); exact rfl; exact rfl; exact rfl
        obtain ⟨r3, hx3, h580⟩ := obind h580
        refine recyclinglaw17_awake_fn  hx3 (fun v1 hm_1 => ?_)
        replace hA1 := hA1.mono hm_1
        refine ⟨Kept.refl, ?_⟩
        refine P_some rfl (PL_t rfl (R_pick_T rfl hc2 rfl (P_some rfl (PL_t rfl (R_assign rfl (P_some rfl (PL_nil (AN.done0 (by kernel_rfl) ?_))))))))
        have e_ := Option.some.inj h580
        subst e_
        exact ⟨r3, rfl, SubFr.of ⟨rfl, trivial⟩, SegSub.sel _ [] 1⟩
      replace h580 := cond_f hc2 h580
      refine P_some rfl (PL_t rfl (R_pick_F rfl hc2 rfl (P_some rfl (PL_t rfl (R_assign rfl (P_some rfl (PL_nil (AN.done0 (by kernel_rfl) ?_))))))))
      have e_ := Option.some.inj h580
      subst e_
      exact ⟨false, rfl, SubFr.of ⟨rfl, trivial⟩, SegSub.sel _ [] 1⟩
    replace h580 := cond_t hc1 h580
    refine P_some rfl (PL_tN rfl rfl rfl hc1 (P_some rfl (PL_tN rfl rfl rfl hc1 (P_some rfl (PL_tN rfl rfl rfl hc1 (P_some rfl (PL_fN rfl rfl rfl hc1 (P_some rfl (PL_fN rfl rfl rfl hc1 (P_some rfl (PL_tN rfl rfl rfl hc1 (P_some rfl (PL_t rfl ?_)))))))))))))
    refine R_pick_T rfl hc1 rfl (P_some rfl (PL_t rfl (R_move rfl (P_some rfl (PL_fY rfl rfl rfl rfl (O_call (all := []) rfl rfl rfl ?_))))))
    obtain ⟨r4, hx4, h580⟩ := obind h580
    refine recyclinglaw17_awake_fn  hx4 (fun v2 hm_2 => ?_)
    replace hA1 := hA1.mono hm_2
    refine ⟨Kept.refl, ?_⟩
    refine P_some rfl (PL_t rfl (R_pick_T rfl rfl rfl (P_some rfl (PL_t rfl (R_assign rfl (P_some rfl (PL_nil (AN.done0 (by kernel_rfl) ?_))))))))
    have e_ := Option.some.inj h580
    subst e_
    exact ⟨r4, rfl, SubFr.of ⟨rfl, trivial⟩, SegSub.sel _ [] 1⟩
  rintro fr580 μ580 L580 hm580 ⟨v3, ho580, hF580, hS580⟩
  subst ho580
  replace hA1 := hA1.mono hm580
  refine hK579 _ _ _ (WP.at hF580 hS580 (WP.ret ?_))
  have e_ := Option.some.inj h
  subst e_
  refine S_tmp rfl (S_nil (Upd.selS [] 0 ?_))
  exact Upd.done (hR _ (hm580))

theorem recyclingref17_Days_fn {μ : Gh} {L : List Seg} {R : Value → Gh → List Seg → Prop} {F : Nat} {s1 : T_api_Schedule} {f_from1 : Int} {f_to1 : Int} {A1 : Option Addr} {c1 : Nat} {res1 : (List Int)} {res2 : Int}
    (hl1 : s1.Moves.length ≤ c1 ∧ c1 ≤ maxLen) (hA1 : ArrR r_api_Move μ A1 s1.Moves) (h : recyclingref17_Days F s1 f_from1 f_to1 = some (res1, res2))
    (hR : ∀ (A0 : Option Addr) (c0 : Nat) (ch0 : Seg), Own rInt 3 μ (.slice A0 res1.length c0) res1 ch0 → R (.tuple #[.slice A0 res1.length c0, .int .i64 res2]) μ (ch0 :: L)) :
    Fn Try.prog 16 [.agg #[.int .i64 s1.Container, .int .i64 s1.Start, .int .i64 s1.Every, .slice A1 s1.Moves.length c1], .int .i64 f_from1, .int .i64 f_to1] μ L R := by
  unfold recyclingref17_Days at h
  refine Fn.of_body Tt_ok Try.func16 (by kernel_rfl) rfl Try.ntmps16 (by simp) ?_
  simp only [Try.f16, argFr, List.zipIdx, List.map, Nat.reduceAdd]
  refine WP.seq_k (fun K591 hK591 => WP.region Tt_ok (O_cons (O_box (cs := #[.int .i64 s1.Container, .int .i64 s1.Start, .int .i64 s1.Every, .slice A1 s1.Moves.length c1]) rfl rfl (fun g1 => P_some rfl (O_cons (O_read rfl (R_assign rfl (P_some rfl (O_cons (O_read rfl (R_assign rfl (P_some rfl (O_nil ?_)))))))))))))
  refine hK591 _ _ _ (WP.seq_k (fun K595 hK595 => WP.region Tt_ok (O_cons (O_read rfl (R_loadA rfl rfl rfl rfl (LA_ (vs := [.int .i64 s1.Container, .int .i64 s1.Start, .int .i64 s1.Every, .slice A1 s1.Moves.length c1]) 0 0 rfl rfl rfl rfl (P_some rfl (O_cons (O_call (all := [.agg #[.int .i64 s1.Container, .int .i64 s1.Start, .int .i64 s1.Every, .slice A1 s1.Moves.length c1]]) rfl rfl rfl ?_)))))))))
  obtain ⟨r1, hx1, h⟩ := obind h
  refine recyclingref17_Check_fn hl1 hA1 hx1 ((P_some rfl (O_cons (O_read rfl (R_assign rfl (P_some rfl (O_nil (hK595 _ _ _ (WP.seq_k (fun K596 hK596 => WP.seq_k (fun K597 hK597 => WP.region Tt_ok (O_cons (O_read rfl (R_move rfl ?_))))))))))))))
  refine P_some rfl (O_cons (O_read rfl (R_neqD rfl rfl (P_some rfl (O_nil (hK597 _ _ _ ?_))))))
  refine W_cond_v (b := !(decide (r1 = 0))) rfl (fun hc1 => ?_) (fun hc1 => ?_)
  · replace h := cond_t hc1 h
    refine WP.seq_k (fun K598 hK598 => WP.region Tt_ok (O_cons (O_read rfl (R_move rfl (P_some rfl (O_cons (O_read rfl (R_assign rfl (P_some rfl (O_cons (O_read rfl (R_assign rfl (P_some rfl ?_)))))))))))))
    refine O_nil (hK598 _ _ _ (WP.ret ?_))
    have e_ := Option.some.inj h
    obtain ⟨e0a_, e0b_⟩ := Prod.mk.inj e_
    clear e_
    subst e0a_
    subst e0b_
    refine S_tmp rfl (S_tmp rfl (S_nil (Upd.selS [none] 1 ?_)))
    exact Upd.done (hR none 0 [] (Own.nil))
  replace h := cond_f hc1 h
  refine WP.skip (hK596 _ _ _ (WP.seq_k (fun K601 hK601 => WP.seq_k (fun K602 hK602 => ?_))))
  obtain ⟨o603, h603, h⟩ := obind h
  refine WP.cutK (fun fr_ μ_ L_ => ∃ (v1 : Bool), v1 = o603 ∧ SubFr [(1, .int .i64 f_from1), (2, .int .i64 f_to1), (3, .pointer (some ⟨g1, 0, none⟩)), (26, .bool v1)] fr_ ∧ SegSub ([(g1, .cells #[.int .i64 s1.Container, .int .i64 s1.Start, .int .i64 s1.Every, .slice A1 s1.Moves.length c1] 24 (0, 0))] :: L) L_ ∧ μ = μ_) ?_ ?_
  · refine WP.region Tt_ok (O_cons (O_read rfl (R_move rfl (P_some rfl (O_cons (O_read rfl (R_lssD rfl rfl (P_some rfl (O_cons (O_read rfl (R_move rfl (P_some rfl ?_))))))))))))
    refine O_gv (z := (decide (f_from1 < 0))) rfl rfl (fun hc2 => ?_) (fun hc2 => ?_)
    · replace h603 := cond_f hc2 h603
      refine O_read rfl (R_move rfl (P_some rfl (O_gY rfl rfl hc2 (O_read rfl (R_move rfl (P_some rfl (O_gY rfl rfl hc2 (O_read rfl (R_gtrD rfl rfl (P_some rfl (O_cons (O_read rfl (R_pick_F rfl hc2 rfl ?_)))))))))))))
      refine P_some rfl (O_cons (O_read rfl (R_move rfl (P_some rfl ?_))))
      refine O_gv (z := (decide (f_to1 < f_from1))) rfl rfl (fun hc3 => ?_) (fun hc3 => ?_)
      · replace h603 := cond_f hc3 h603
        refine O_read rfl (R_move rfl (P_some rfl (O_gY rfl rfl hc3 (O_read rfl (R_gtrD rfl rfl (P_some rfl (O_cons (O_read rfl (R_pick_F rfl hc3 rfl (P_some rfl (O_nil ?_)))))))))))
        have e_ := Option.some.inj h603
        subst e_
        exact ⟨(decide (36525 < f_to1)), rfl, SubFr.of ⟨rfl, rfl, rfl, rfl, trivial⟩, SegSub.sel _ [some 0] 1, rfl⟩
      replace h603 := cond_t hc3 h603
      refine P_some rfl (O_gN rfl rfl hc3 (P_some rfl (O_cons (O_read rfl (R_pick_T rfl hc3 rfl (P_some rfl (O_nil ?_)))))))
      have e_ := Option.some.inj h603
      subst e_
      exact ⟨true, rfl, SubFr.of ⟨rfl, rfl, rfl, rfl, trivial⟩, SegSub.sel _ [some 0] 1, rfl⟩
    replace h603 := cond_t hc2 h603
    refine P_some rfl (O_gN rfl rfl hc2 (P_some rfl (O_gN rfl rfl hc2 (P_some rfl (O_cons (O_read rfl (R_pick_T rfl hc2 rfl (P_some rfl (O_cons (O_read rfl (R_move rfl (P_some rfl (O_gN rfl rfl rfl ?_)))))))))))))
    refine P_some rfl (O_gN rfl rfl rfl (P_some rfl (O_cons (O_read rfl (R_pick_T rfl rfl rfl (P_some rfl (O_nil ?_)))))))
    have e_ := Option.some.inj h603
    subst e_
    exact ⟨true, rfl, SubFr.of ⟨rfl, rfl, rfl, rfl, trivial⟩, SegSub.sel _ [some 0] 1, rfl⟩
  rintro fr603 μ603 L603 hm603 ⟨v1, ho603, hF603, hS603, hu603⟩
  subst ho603
  subst hu603
  refine hK602 _ _ _ (WP.at hF603 hS603 ?_)
  refine W_cond_v (b := v1) rfl (fun hc4 => ?_) (fun hc4 => ?_)
  · replace h := cond_t hc4 h
    refine WP.seq_k (fun K606 hK606 => WP.region Tt_ok (O_cons (O_read rfl (R_assign rfl (P_some rfl (O_cons (O_read rfl (R_assign rfl (P_some rfl (O_nil (hK606 _ _ _ (WP.ret ?_))))))))))))
    have e_ := Option.some.inj h
    obtain ⟨e0a_, e0b_⟩ := Prod.mk.inj e_
    clear e_
    subst e0a_
    subst e0b_
    refine S_tmp rfl (S_tmp rfl (S_nil (Upd.selS [none] 1 ?_)))
    exact Upd.done (hR none 0 [] (Own.nil))
  replace h := cond_f hc4 h
  refine WP.skip (hK601 _ _ _ (WP.seq_k (fun K609 hK609 => WP.region Tt_ok (O_cons (O_read rfl (R_assign rfl (P_some rfl (O_nil (hK609 _ _ _ (WP.seq_k (fun K612 hK612 => WP.seq_k (fun K613 hK613 => WP.region Tt_ok (O_cons ?_)))))))))))))
  refine O_read rfl (R_move rfl (P_some rfl (O_cons (O_read rfl (R_assign rfl (P_some rfl (O_nil (hK613 _ _ _ ?_))))))))
  obtain ⟨o614, h614, h⟩ := obind h
  refine WP.cutK (fun fr_ μ_ L_ => ∃ (out3 : (List Int)) (A5 : Option Addr) (c5 : Nat) (ch4 : Seg), out3 = o614 ∧ SubFr [(9, .slice A5 out3.length c5)] fr_ ∧ SegSub (ch4 :: L) L_ ∧ Own rInt 3 μ_ (.slice A5 out3.length c5) out3 ch4 ∧ μ = μ_) ?_ ?_
  · refine WP.block (WP.iter h614 (fun (j_ : (List Int) × Int) fr_ μ_ L_ => ounP j_ fun out1 d1 => ∃ (A2 : Option Addr) (c2 : Nat) (ch1 : Seg), SubFr [(2, .int .i64 f_to1), (3, .pointer (some ⟨g1, 0, none⟩)), (9, .slice A2 out1.length c2), (10, .int .i64 d1)] fr_ ∧ SegSub ([(g1, .cells #[.int .i64 s1.Container, .int .i64 s1.Start, .int .i64 s1.Every, .slice A1 s1.Moves.length c1] 24 (0, 0))] :: ch1 :: L) L_ ∧ Own rInt 3 μ_ (.slice A2 out1.length c2) out1 ch1 ∧ μ = μ_) ⟨none, 0, [], SubFr.of ⟨rfl, rfl, rfl, rfl, trivial⟩, SegSub.sel _ [some 0, none] 1, (Own.nil), rfl⟩ ?_)
    rintro ⟨out1, d1⟩ q630 fr630 μ630 L630 hm630 ⟨A2, c2, ch1, hF630, hS630, hO1, hu630⟩ hb630 hq630
    unfold recyclingref17_Days_l1 at hb630
    replace hb630 := oun_mk hb630
    subst hu630
    refine WP.at hF630 hS630 (WP.seq_k (fun K636 hK636 => WP.seq_k (fun K637 hK637 => WP.region Tt_ok (O_cons (O_read rfl (R_move rfl (P_some rfl (O_cons (O_read rfl (R_move rfl (P_some rfl (O_cons (O_read rfl ?_)))))))))))))
    refine R_lssD rfl rfl (P_some rfl (O_nil (hK637 _ _ _ ?_)))
    refine W_cond_v (b := (decide (d1 < f_to1))) rfl (fun hc5 => ?_) (fun hc5 => ?_)
    · replace hb630 := cond_t hc5 hb630
      refine WP.skip (hK636 _ _ _ (WP.seq_k (fun K638 hK638 => ?_)))
      obtain ⟨o639, h639, hb630⟩ := obind hb630
      refine WP.cutK (fun fr_ μ_ L_ => ∃ (out2 : (List Int)) (A4 : Option Addr) (c4 : Nat) (ch3 : Seg), out2 = o639 ∧ SubFr [(2, .int .i64 f_to1), (3, .pointer (some ⟨g1, 0, none⟩)), (9, .slice A4 out2.length c4), (10, .int .i64 d1)] fr_ ∧ SegSub ([(g1, .cells #[.int .i64 s1.Container, .int .i64 s1.Start, .int .i64 s1.Every, .slice A1 s1.Moves.length c1] 24 (0, 0))] :: ch3 :: L) L_ ∧ Own rInt 3 μ_ (.slice A4 out2.length c4) out2 ch3 ∧ μ = μ_) ?_ ?_
      · refine WP.block (WP.seq_k (fun K640 hK640 => WP.region Tt_ok (O_cons (O_read rfl (R_loadA rfl rfl rfl rfl (LA_ (vs := [.int .i64 s1.Container, .int .i64 s1.Start, .int .i64 s1.Every, .slice A1 s1.Moves.length c1]) 0 0 rfl rfl rfl rfl (P_some rfl (O_cons (O_read rfl (R_move rfl (P_some rfl (O_cons (O_call (all := [.agg #[.int .i64 s1.Container, .int .i64 s1.Start, .int .i64 s1.Every, .slice A1 s1.Moves.length c1], .int .i64 d1]) rfl rfl rfl ?_)))))))))))))
        obtain ⟨r2, hx2, h639⟩ := obind h639
        refine recyclingref17_day_fn hl1 hA1 hx2 ((P_some rfl (O_nil (hK640 _ _ _ ?_))))
        refine W_cond_v (b := r2) rfl (fun hc6 => ?_) (fun hc6 => ?_)
        · replace h639 := cond_t hc6 h639
          refine WP.region Tt_ok (O_cons (O_read rfl (R_move rfl (P_some rfl (O_cons (O_read rfl (R_move rfl (P_some rfl (O_cons (O_bsl (z := [.int .i64 0]) rfl rfl rfl rfl rfl rfl rfl (F_cons (cells' := [.int .i64 d1]) rfl rfl rfl rfl (F_nil (fun g2 => P_some rfl ?_)))))))))))))
          refine O_cons (O_append rfl ?_)
          obtain ⟨l1, hz1, h639⟩ := obind h639
          refine sem_appR (r := rInt) Tt_ok rfl rfl rfl rfl (by decide) rfl rfl 2 rfl hO1 rfl (Own.rds (L := ([(g2, .cells #[.int .i64 d1] 3 (0, 0))] :: [(g1, .cells #[.int .i64 s1.Container, .int .i64 s1.Start, .int .i64 s1.Every, .slice A1 s1.Moves.length c1] 24 (0, 0))] :: ch1 :: L)) (Own.lit (r := rInt) (e := 3) (g := g2) (xs := [d1]) (cs := [.int .i64 d1]) (css := [[.int .i64 d1]]) rfl (All2.cons (rfl) (All2.nil)) rfl rfl) 0 rfl) hz1 fun A3 c3 ch2 hO2 => P_some rfl (O_cons (O_read rfl (R_assign rfl (P_some rfl (O_nil ?_)))))
          have e_ := Option.some.inj h639
          subst e_
          exact ⟨l1, A3, c3, ch2, rfl, SubFr.of ⟨rfl, rfl, rfl, rfl, trivial⟩, SegSub.sel _ [some 1, some 2] 3, (hO2), rfl⟩
        replace h639 := cond_f hc6 h639
        apply WP.skip
        have e_ := Option.some.inj h639
        subst e_
        exact ⟨out1, A2, c2, ch1, rfl, SubFr.of ⟨rfl, rfl, rfl, rfl, trivial⟩, SegSub.sel _ [some 0, some 1] 2, (hO1), rfl⟩
      rintro fr639 μ639 L639 hm639 ⟨out2, A4, c4, ch3, ho639, hF639, hS639, hO3, hu639⟩
      subst ho639
      subst hu639
      refine hK638 _ _ _ (WP.at hF639 hS639 (WP.region Tt_ok (O_cons (O_read rfl (R_move rfl (P_some rfl (O_cons (O_read rfl (R_add rfl rfl (P_some rfl (O_cons (O_read rfl (R_assign rfl ?_)))))))))))))
      refine P_some rfl (O_nil ?_)
      have e_ := Option.some.inj hb630
      subst e_
      exact ⟨_, rfl, A4, c4, ch3, SubFr.of ⟨rfl, rfl, rfl, rfl, trivial⟩, SegSub.sel _ [some 0, some 1] 2, (hO3), rfl⟩
    replace hb630 := cond_f hc5 hb630
    refine WP.exit (B_here ?_)
    have e_ := Option.some.inj hb630
    subst e_
    have hq_ := hq630 _ rfl
    subst hq_
    exact ⟨out1, A2, c2, ch1, rfl, SubFr.of ⟨rfl, trivial⟩, SegSub.sel _ [some 1] 2, (hO1), rfl⟩
  rintro fr614 μ614 L614 hm614 ⟨out3, A5, c5, ch4, ho614, hF614, hS614, hO4, hu614⟩
  subst ho614
  subst hu614
  refine hK612 _ _ _ (WP.at hF614 hS614 (WP.seq_k (fun K647 hK647 => WP.region Tt_ok (O_cons (O_read rfl (R_move rfl (P_some rfl (O_cons (O_read rfl (R_assign rfl (P_some rfl (O_cons (O_read rfl ?_)))))))))))))
  refine R_assign rfl (P_some rfl (O_nil (hK647 _ _ _ (WP.ret ?_))))
  have e_ := Option.some.inj h
  obtain ⟨e0a_, e0b_⟩ := Prod.mk.inj e_
  clear e_
  subst e0a_
  subst e0b_
  refine S_tmp rfl (S_tmp rfl (S_nil (Upd.selS [some 0] 1 ?_)))
  exact Upd.done (hR A5 c5 ch4 (hO4))

theorem recyclinglaw17_ScheduleDays_fn {μ : Gh} {L : List Seg} {R : Value → Gh → List Seg → Prop} {F : Nat} {s1 : T_api_Schedule} {f_from1 : Int} {f_to1 : Int} {A1 : Option Addr} {c1 : Nat} {res1 : Bool}
    (hl1 : s1.Moves.length ≤ c1 ∧ c1 ≤ maxLen) (hA1 : ArrR r_api_Move μ A1 s1.Moves) (h : recyclinglaw17_ScheduleDays F s1 f_from1 f_to1 = some res1)
    (hR : ∀ (μ' : Gh) , μ.le μ' → R (.bool res1) μ' (L)) :
    Fn Try.prog 5 [.agg #[.int .i64 s1.Container, .int .i64 s1.Start, .int .i64 s1.Every, .slice A1 s1.Moves.length c1], .int .i64 f_from1, .int .i64 f_to1] μ L R := by
  unfold recyclinglaw17_ScheduleDays at h
  refine Fn.of_body Tt_ok Try.func5 (by kernel_rfl) rfl Try.ntmps5 (by simp) ?_
  simp only [Try.f5, argFr, List.zipIdx, List.map, Nat.reduceAdd]
  refine WP.seq_k (fun K653 hK653 => WP.region Tt_ok (O_cons (O_box (cs := #[.int .i64 s1.Container, .int .i64 s1.Start, .int .i64 s1.Every, .slice A1 s1.Moves.length c1]) rfl rfl (fun g1 => P_some rfl (O_cons (O_read rfl (R_assign rfl (P_some rfl (O_nil (hK653 _ _ _ (WP.seq_k (fun K655 hK655 => WP.seq_k (fun K656 hK656 => WP.region Tt_ok ?_)))))))))))))
  refine O_cons (O_read rfl (R_fa0 (o' := 3) rfl rfl rfl rfl rfl rfl (P_some rfl (O_cons (O_read rfl (R_load rfl rfl rfl (Ex.mk _ (Cell.seg 0 0 rfl rfl rfl) (P_some rfl (O_cons (O_read rfl (R_lenS rfl rfl rfl (P_some rfl (O_cons ?_)))))))))))))
  refine O_read rfl (R_gtrD rfl rfl (P_some rfl (O_nil (hK656 _ _ _ ?_))))
  refine W_cond_v (b := (decide (200 < ((s1.Moves.length : Nat) : Int)))) rfl (fun hc1 => ?_) (fun hc1 => ?_)
  · replace h := cond_t hc1 h
    refine WP.seq_k (fun K657 hK657 => WP.region Tt_ok (O_cons (O_call (all := []) rfl rfl rfl ?_)))
    obtain ⟨r1, hx1, h⟩ := obind h
    refine recyclinglaw17_awake_fn  hx1 (fun v1 hm_1 => ?_)
    replace hA1 := hA1.mono hm_1
    refine P_some rfl (O_cons (O_read rfl (R_assign rfl (P_some rfl (O_nil (hK657 _ _ _ (WP.ret ?_)))))))
    have e_ := Option.some.inj h
    subst e_
    refine S_tmp rfl (S_nil (Upd.selS [] 1 ?_))
    exact Upd.done (hR _ (hm_1))
  replace h := cond_f hc1 h
  refine WP.skip (hK655 _ _ _ (WP.seq_k (fun K658 hK658 => WP.region Tt_ok (O_cons (O_read rfl (R_loadA rfl rfl rfl rfl (LA_ (vs := [.int .i64 s1.Container, .int .i64 s1.Start, .int .i64 s1.Every, .slice A1 s1.Moves.length c1]) 0 0 rfl rfl rfl rfl (P_some rfl (O_cons (O_read rfl (R_move rfl (P_some rfl (O_cons ?_)))))))))))))
  refine O_read rfl (R_move rfl (P_some rfl (O_cons (O_call (all := [.agg #[.int .i64 s1.Container, .int .i64 s1.Start, .int .i64 s1.Every, .slice A1 s1.Moves.length c1], .int .i64 f_from1, .int .i64 f_to1]) rfl rfl rfl ?_))))
  obtain ⟨⟨r2, r3⟩, hx2, h⟩ := obind h
  replace h := oun_mk h
  refine schedule_Days_fn hl1 hA1 hx2 (fun A2 c2 ch1 hO1 => P_some rfl (O_cons (O_read rfl (R_move rfl (P_some rfl (O_cons (O_read rfl (R_ext rfl rfl (P_some rfl (O_cons (O_read rfl (R_ext rfl rfl (P_some rfl ?_)))))))))))))
  refine O_cons (O_read rfl (R_assign rfl (P_some rfl (O_cons (O_read rfl (R_assign rfl (P_some rfl (O_nil (hK658 _ _ _ (WP.seq_k (fun K660 hK660 => WP.region Tt_ok (O_cons (O_read rfl ?_)))))))))))))
  refine R_loadA rfl rfl rfl rfl (LA_ (vs := [.int .i64 s1.Container, .int .i64 s1.Start, .int .i64 s1.Every, .slice A1 s1.Moves.length c1]) 1 0 rfl rfl rfl rfl (P_some rfl (O_cons (O_read rfl (R_move rfl (P_some rfl (O_cons (O_read rfl (R_move rfl (P_some rfl (O_cons (O_call (all := [.agg #[.int .i64 s1.Container, .int .i64 s1.Start, .int .i64 s1.Every, .slice A1 s1.Moves.length c1], .int .i64 f_from1, .int .i64 f_to1]) rfl rfl rfl ?_))))))))))))
  obtain ⟨⟨r4, r5⟩, hx3, h⟩ := obind h
  replace h := oun_mk h
  refine recyclingref17_Days_fn hl1 hA1 hx3 (fun A3 c3 ch2 hO2 => P_some rfl (O_cons (O_read rfl (R_move rfl (P_some rfl (O_cons (O_read rfl (R_ext rfl rfl (P_some rfl (O_cons (O_read rfl (R_ext rfl rfl (P_some rfl ?_)))))))))))))
  refine O_cons (O_read rfl (R_assign rfl (P_some rfl (O_cons (O_read rfl (R_assign rfl (P_some rfl (O_nil (hK660 _ _ _ (WP.seq_k (fun K662 hK662 => WP.region Tt_ok (O_cons (O_read rfl ?_)))))))))))))
  refine R_loadA rfl rfl rfl rfl (LA_ (vs := [.int .i64 s1.Container, .int .i64 s1.Start, .int .i64 s1.Every, .slice A1 s1.Moves.length c1]) 2 0 rfl rfl rfl rfl (P_some rfl (O_cons (O_read rfl (R_move rfl (P_some rfl (O_cons (O_read rfl (R_move rfl (P_some rfl (O_cons (O_call (all := [.agg #[.int .i64 s1.Container, .int .i64 s1.Start, .int .i64 s1.Every, .slice A1 s1.Moves.length c1], .int .i64 f_from1, .int .i64 f_to1]) rfl rfl rfl ?_))))))))))))
  obtain ⟨⟨r6, r7⟩, hx4, h⟩ := obind h
  replace h := oun_mk h
  refine schedule_Count_fn hl1 hA1 hx4 ((P_some rfl (O_cons (O_read rfl (R_move rfl (P_some rfl (O_cons (O_read rfl (R_ext rfl rfl (P_some rfl (O_cons (O_read rfl (R_ext rfl rfl (P_some rfl ?_))))))))))))))
  refine O_cons (O_read rfl (R_assign rfl (P_some rfl (O_cons (O_read rfl (R_assign rfl (P_some rfl (O_nil (hK662 _ _ _ (WP.seq_k (fun K663 hK663 => ?_)))))))))))
  obtain ⟨o664, h664, h⟩ := obind h
  refine WP.cutK (fun fr_ μ_ L_ => ∃ (v3 : Bool), v3 = o664 ∧ SubFr [(6, .bool v3)] fr_ ∧ SegSub (L) L_) ?_ ?_
  · refine WP.region Tt_ok (O_cons (O_read rfl (R_move rfl (P_some rfl (O_cons (O_read rfl (R_move rfl (P_some rfl (O_cons (O_call (all := [.slice A2 r2.length c2, .slice A3 r4.length c3]) rfl rfl rfl ?_))))))))))
    obtain ⟨r8, hx5, h664⟩ := obind h664
    refine recyclingref17_Same_fn (Own.lenOk hO1) (Own.rds (L := (ch2 :: ch1 :: [(g1, .cells #[.int .i64 s1.Container, .int .i64 s1.Start, .int .i64 s1.Every, .slice A1 s1.Moves.length c1] 24 (0, 0))] :: L)) hO1 1 rfl) (Own.lenOk hO2) (Own.rds (L := (ch2 :: ch1 :: [(g1, .cells #[.int .i64 s1.Container, .int .i64 s1.Start, .int .i64 s1.Every, .slice A1 s1.Moves.length c1] 24 (0, 0))] :: L)) hO2 0 rfl) hx5 ((P_some rfl (O_cons (O_read rfl (R_move rfl (P_some rfl ?_))))))
    refine O_gv (z := r8) rfl rfl (fun hc2 => ?_) (fun hc2 => ?_)
    · replace h664 := cond_t hc2 h664
      refine O_read rfl (R_move rfl (P_some rfl (O_gY rfl rfl hc2 (O_read rfl (R_move rfl (P_some rfl (O_gY rfl rfl hc2 (O_read rfl (R_eqlD rfl rfl (P_some rfl (O_cons (O_read rfl (R_pick_T rfl hc2 rfl ?_)))))))))))))
      refine P_some rfl (O_cons (O_read rfl (R_move rfl (P_some rfl ?_))))
      refine O_gv (z := (decide (r3 = r5))) rfl rfl (fun hc3 => ?_) (fun hc3 => ?_)
      · replace h664 := cond_t hc3 h664
        refine O_read rfl (R_move rfl (P_some rfl (O_gY rfl rfl hc3 (O_read rfl (R_move rfl (P_some rfl (O_gY rfl rfl hc3 (O_read rfl (R_lenS rfl rfl rfl (P_some rfl (O_gY rfl rfl hc3 (O_read rfl (R_eqlD rfl rfl ?_)))))))))))))
        refine P_some rfl (O_cons (O_read rfl (R_pick_T rfl hc3 rfl (P_some rfl (O_cons (O_read rfl (R_move rfl (P_some rfl ?_))))))))
        refine O_gv (z := (decide (r6 = ((r4.length : Nat) : Int)))) rfl rfl (fun hc4 => ?_) (fun hc4 => ?_)
        · replace h664 := cond_t hc4 h664
          refine O_read rfl (R_move rfl (P_some rfl (O_gY rfl rfl hc4 (O_read rfl (R_move rfl (P_some rfl (O_gY rfl rfl hc4 (O_read rfl (R_eqlD rfl rfl (P_some rfl (O_cons (O_read rfl (R_pick_T rfl hc4 rfl ?_)))))))))))))
          refine P_some rfl (O_cons (O_read rfl (R_move rfl (P_some rfl ?_))))
          refine O_gv (z := (decide (r7 = r5))) rfl rfl (fun hc5 => ?_) (fun hc5 => ?_)
          · replace h664 := cond_t hc5 h664
            apply O_call (all := []); exact rfl; exact rfl; exact rfl
            obtain ⟨r9, hx6, h664⟩ := obind h664
            refine recyclinglaw17_awake_fn  hx6 (fun v2 hm_2 => ?_)
            replace hA1 := hA1.mono hm_2
            replace hO1 := hO1.mono hm_2
            replace hO2 := hO2.mono hm_2
            refine P_some rfl (O_cons (O_read rfl (R_pick_T rfl hc5 rfl (P_some rfl (O_cons (O_read rfl (R_assign rfl (P_some rfl (O_nil ?_)))))))))
            have e_ := Option.some.inj h664
            subst e_
            exact ⟨r9, rfl, SubFr.of ⟨rfl, trivial⟩, SegSub.sel _ [] 3⟩
          replace h664 := cond_f hc5 h664
          refine P_some rfl (O_cons (O_read rfl (R_pick_F rfl hc5 rfl (P_some rfl (O_cons (O_read rfl (R_assign rfl (P_some rfl (O_nil ?_)))))))))
          have e_ := Option.some.inj h664
          subst e_
          exact ⟨false, rfl, SubFr.of ⟨rfl, trivial⟩, SegSub.sel _ [] 3⟩
        replace h664 := cond_f hc4 h664
        refine P_some rfl (O_gN rfl rfl hc4 (P_some rfl (O_gN rfl rfl hc4 (P_some rfl (O_cons (O_read rfl (R_pick_F rfl hc4 rfl (P_some rfl (O_cons (O_read rfl (R_move rfl (P_some rfl (O_gN rfl rfl rfl ?_)))))))))))))
        refine P_some rfl (O_cons (O_read rfl (R_pick_F rfl rfl rfl (P_some rfl (O_cons (O_read rfl (R_assign rfl (P_some rfl (O_nil ?_)))))))))
        have e_ := Option.some.inj h664
        subst e_
        exact ⟨false, rfl, SubFr.of ⟨rfl, trivial⟩, SegSub.sel _ [] 3⟩
      replace h664 := cond_f hc3 h664
      refine P_some rfl (O_gN rfl rfl hc3 (P_some rfl (O_gN rfl rfl hc3 (P_some rfl (O_gN rfl rfl hc3 (P_some rfl (O_cons (O_read rfl (R_pick_F rfl hc3 rfl (P_some rfl (O_cons (O_read rfl (R_move rfl ?_)))))))))))))
      refine P_some rfl (O_gN rfl rfl rfl (P_some rfl (O_gN rfl rfl rfl (P_some rfl (O_gN rfl rfl rfl (P_some rfl (O_cons (O_read rfl (R_pick_F rfl rfl rfl (P_some rfl (O_cons (O_read rfl (R_move rfl ?_)))))))))))))
      refine P_some rfl (O_gN rfl rfl rfl (P_some rfl (O_cons (O_read rfl (R_pick_F rfl rfl rfl (P_some rfl (O_cons (O_read rfl (R_assign rfl (P_some rfl (O_nil ?_)))))))))))
      have e_ := Option.some.inj h664
      subst e_
      exact ⟨false, rfl, SubFr.of ⟨rfl, trivial⟩, SegSub.sel _ [] 3⟩
    replace h664 := cond_f hc2 h664
    refine P_some rfl (O_gN rfl rfl hc2 (P_some rfl (O_gN rfl rfl hc2 (P_some rfl (O_cons (O_read rfl (R_pick_F rfl hc2 rfl (P_some rfl (O_cons (O_read rfl (R_move rfl (P_some rfl (O_gN rfl rfl rfl ?_)))))))))))))
    refine P_some rfl (O_gN rfl rfl rfl (P_some rfl (O_gN rfl rfl rfl (P_some rfl (O_gN rfl rfl rfl (P_some rfl (O_cons (O_read rfl (R_pick_F rfl rfl rfl (P_some rfl (O_cons (O_read rfl (R_move rfl ?_)))))))))))))
    refine P_some rfl (O_gN rfl rfl rfl (P_some rfl (O_gN rfl rfl rfl (P_some rfl (O_gN rfl rfl rfl (P_some rfl (O_cons (O_read rfl (R_pick_F rfl rfl rfl (P_some rfl (O_cons (O_read rfl (R_move rfl ?_)))))))))))))
    refine P_some rfl (O_gN rfl rfl rfl (P_some rfl (O_cons (O_read rfl (R_pick_F rfl rfl rfl (P_some rfl (O_cons (O_read rfl (R_assign rfl (P_some rfl (O_nil ?_)))))))))))
    have e_ := Option.some.inj h664
    subst e_
    exact ⟨false, rfl, SubFr.of ⟨rfl, trivial⟩, SegSub.sel _ [] 3⟩
  rintro fr664 μ664 L664 hm664 ⟨v3, ho664, hF664, hS664⟩
  subst ho664
  replace hA1 := hA1.mono hm664
  replace hO1 := hO1.mono hm664
  replace hO2 := hO2.mono hm664
  refine hK663 _ _ _ (WP.at hF664 hS664 (WP.ret ?_))
  have e_ := Option.some.inj h
  subst e_
  refine S_tmp rfl (S_nil (Upd.selS [] 0 ?_))
  exact Upd.done (hR _ (hm664))

end Go.Proofs.Ytpcajjnanljajaa
