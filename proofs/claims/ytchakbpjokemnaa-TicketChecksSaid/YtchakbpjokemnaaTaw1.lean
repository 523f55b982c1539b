/- Printed by gen.py of this repo: the walks that tie the functions to their specifications. -/
import Derived.Laws.StructEq
import Derived.Test.YtchakbpjokemnaaTt
import Derived.Test.YtchakbpjokemnaaTas
import Derived.Test.YtchakbpjokemnaaGr
import Derived.Test.YtchakbpjokemnaaGs
import Derived.Test.YtchakbpjokemnaaGv
import Derived.Test.YtchakbpjokemnaaGw
import Derived.Test.YtchakbpjokemnaaGx
import Derived.Test.YtchakbpjokemnaaSh
namespace Go.Proofs.Ytchakbpjokemnaa
open Go.RowKit
set_option linter.unusedSimpArgs false
set_option linter.unusedVariables false
attribute [local irreducible] WP SemOk SemU Fn AN Upd vcR vcO vcOps vcPlan putK fillK resK inBlk forkOne Cell StAt Kept

theorem eqRun_T_api_Span (a b : T_api_Span) : PureRun Try.prog (do eqGuard .eql 31 (.tmp 0) (.tmp 0) (.agg #[.int .i64 a.Lo, .int .i64 a.Hi]) (.agg #[.int .i64 b.Lo, .int .i64 b.Hi]); binOp .eql 31 (.agg #[.int .i64 a.Lo, .int .i64 a.Hi]) (.agg #[.int .i64 b.Lo, .int .i64 b.Hi])) (.bool (decide (a = b))) := by
  obtain ⟨x0, x1⟩ := a
  obtain ⟨y0, y1⟩ := b
  intro w
  rw [Sem.run_bind, run_eqGuard_agg w _ _ _ _ _ _ (by kernel_rfl), Result.andThen_ok]
  simp only [binOp, Op.equal, Op.maxDepth, Sem.run_bind]
  rw [run_equalIn_struct w 9999 _ _ _ (by kernel_rfl) (by kernel_rfl)]
  by_cases h0 : x0 = y0 <;> by_cases h1 : x1 = y1 <;> simp [Program.fieldsOf, Try.underlying31, go_sem, h0, h1]

theorem neRun_T_api_Span (a b : T_api_Span) : PureRun Try.prog (do eqGuard .neq 31 (.tmp 0) (.tmp 0) (.agg #[.int .i64 a.Lo, .int .i64 a.Hi]) (.agg #[.int .i64 b.Lo, .int .i64 b.Hi]); binOp .neq 31 (.agg #[.int .i64 a.Lo, .int .i64 a.Hi]) (.agg #[.int .i64 b.Lo, .int .i64 b.Hi])) (.bool (!(decide (a = b)))) := by
  obtain ⟨x0, x1⟩ := a
  obtain ⟨y0, y1⟩ := b
  intro w
  rw [Sem.run_bind, run_eqGuard_agg w _ _ _ _ _ _ (by kernel_rfl), Result.andThen_ok]
  simp only [binOp, Op.equal, Op.maxDepth, Sem.run_bind]
  rw [run_equalIn_struct w 9999 _ _ _ (by kernel_rfl) (by kernel_rfl)]
  by_cases h0 : x0 = y0 <;> by_cases h1 : x1 = y1 <;> simp [Program.fieldsOf, Try.underlying31, go_sem, h0, h1]
theorem recyclinglaw27_great_fn {μ : Gh} {L : List Seg} {R : Value → Gh → List Seg → Prop}  {s1 : (List T_api_Scale)} {l1 : (List T_api_Ticket)} {A1 : Option Addr} {c1 : Nat} {A2 : Option Addr} {c2 : Nat} {res1 : Bool}
    (hl1 : s1.length ≤ c1 ∧ c1 ≤ maxLen) (hA1 : Rds r_api_Scale μ L A1 s1) (hl2 : l1.length ≤ c2 ∧ c2 ≤ maxLen) (hA2 : Rds r_api_Ticket μ L A2 l1) (h : recyclinglaw27_great s1 l1 = some res1)
    (hR : R (.bool res1) μ (L)) :
    Fn Try.prog 11 [.slice A1 s1.length c1, .slice A2 l1.length c2] μ (L) R := by
  unfold recyclinglaw27_great at h
  refine Fn.of_body Tt_ok Try.func11 (by kernel_rfl) rfl Try.ntmps11 (by simp) ?_
  simp only [Try.f11, argFr, List.zipIdx, List.map, Nat.reduceAdd]
  refine WP.seq_k (fun K8 hK8 => WP.region Tt_ok (O_cons (O_read rfl (R_assign rfl (P_some rfl (O_nil (hK8 _ _ _ (WP.seq_k (fun K9 hK9 => ?_)))))))))
  obtain ⟨o10, h10, h⟩ := obind h
  refine WP.cutK (fun fr_ μ_ L_ => ∃ (v1 : Bool), v1 = o10 ∧ SubFr [(4, .bool v1)] fr_ ∧ SegSub (L) L_ ∧ μ = μ_) ?_ ?_
  · refine WP.region Tt_ok (O_cons (O_read rfl (R_move rfl (P_some rfl (O_cons (O_read rfl (R_lenS rfl rfl rfl (P_some rfl (O_cons (O_read rfl (R_gtrD rfl rfl (P_some rfl (O_cons ?_)))))))))))))
    refine O_read rfl (R_move rfl (P_some rfl ?_))
    refine O_gv (z := (decide (20 < ((s1.length : Nat) : Int)))) rfl rfl (fun hc1 => ?_) (fun hc1 => ?_)
    · replace h10 := cond_f hc1 h10
      refine O_read rfl (R_move rfl (P_some rfl (O_gY rfl rfl hc1 (O_read rfl (R_lenS rfl rfl rfl (P_some rfl (O_gY rfl rfl hc1 (O_read rfl (R_gtrD rfl rfl (P_some rfl (O_cons (O_read rfl (R_pick_F rfl hc1 rfl ?_)))))))))))))
      refine P_some rfl (O_cons (O_read rfl (R_assign rfl (P_some rfl (O_nil ?_)))))
      have e_ := Option.some.inj h10
      subst e_
      exact ⟨(decide (60 < ((l1.length : Nat) : Int))), rfl, SubFr.of ⟨rfl, trivial⟩, SegSub.sel _ [] 0, rfl⟩
    replace h10 := cond_t hc1 h10
    refine P_some rfl (O_gN rfl rfl hc1 (P_some rfl (O_gN rfl rfl hc1 (P_some rfl (O_cons (O_read rfl (R_pick_T rfl hc1 rfl (P_some rfl (O_cons (O_read rfl (R_assign rfl (P_some rfl (O_nil ?_)))))))))))))
    have e_ := Option.some.inj h10
    subst e_
    exact ⟨true, rfl, SubFr.of ⟨rfl, trivial⟩, SegSub.sel _ [] 0, rfl⟩
  rintro fr10 μ10 L10 hm10 ⟨v1, ho10, hF10, hS10, hu10⟩
  subst ho10
  subst hu10
  refine hK9 _ _ _ (WP.at hF10 hS10 (WP.ret ?_))
  have e_ := Option.some.inj h
  subst e_
  refine S_tmp rfl (S_nil (Upd.selS [] 0 ?_))
  exact Upd.done hR

theorem scale_between_fn {μ : Gh} {L : List Seg} {R : Value → Gh → List Seg → Prop}  {lo1 : Int} {n1 : Int} {hi1 : Int}  {res1 : Bool}
     (h : scale_between lo1 n1 hi1 = some res1)
    (hR : R (.bool res1) μ (L)) :
    Fn Try.prog 55 [.int .i64 lo1, .int .i64 n1, .int .i64 hi1] μ (L) R := by
  unfold scale_between at h
  refine Fn.of_body Tt_ok Try.func55 (by kernel_rfl) rfl Try.ntmps55 (by simp) ?_
  simp only [Try.f55, argFr, List.zipIdx, List.map, Nat.reduceAdd]
  refine WP.seq_k (fun K45 hK45 => WP.region Tt_ok (O_cons (O_read rfl (R_assign rfl (P_some rfl (O_nil (hK45 _ _ _ (WP.seq_k (fun K46 hK46 => ?_)))))))))
  obtain ⟨o47, h47, h⟩ := obind h
  refine WP.cutK (fun fr_ μ_ L_ => ∃ (v1 : Bool), v1 = o47 ∧ SubFr [(6, .bool v1)] fr_ ∧ SegSub (L) L_ ∧ μ = μ_) ?_ ?_
  · refine WP.region Tt_ok (O_cons (O_read rfl (R_move rfl (P_some rfl (O_cons (O_read rfl (R_move rfl (P_some rfl (O_cons (O_read rfl (R_leqD rfl rfl (P_some rfl (O_cons ?_)))))))))))))
    refine O_read rfl (R_move rfl (P_some rfl ?_))
    refine O_gv (z := (decide (lo1 ≤ n1))) rfl rfl (fun hc1 => ?_) (fun hc1 => ?_)
    · replace h47 := cond_t hc1 h47
      refine O_read rfl (R_move rfl (P_some rfl (O_gY rfl rfl hc1 (O_read rfl (R_move rfl (P_some rfl (O_gY rfl rfl hc1 (O_read rfl (R_leqD rfl rfl (P_some rfl (O_cons (O_read rfl (R_pick_T rfl hc1 rfl ?_)))))))))))))
      refine P_some rfl (O_cons (O_read rfl (R_assign rfl (P_some rfl (O_nil ?_)))))
      have e_ := Option.some.inj h47
      subst e_
      exact ⟨(decide (n1 ≤ hi1)), rfl, SubFr.of ⟨rfl, trivial⟩, SegSub.sel _ [] 0, rfl⟩
    replace h47 := cond_f hc1 h47
    refine P_some rfl (O_gN rfl rfl hc1 (P_some rfl (O_gN rfl rfl hc1 (P_some rfl (O_cons (O_read rfl (R_pick_F rfl hc1 rfl (P_some rfl (O_cons (O_read rfl (R_assign rfl (P_some rfl (O_nil ?_)))))))))))))
    have e_ := Option.some.inj h47
    subst e_
    exact ⟨false, rfl, SubFr.of ⟨rfl, trivial⟩, SegSub.sel _ [] 0, rfl⟩
  rintro fr47 μ47 L47 hm47 ⟨v1, ho47, hF47, hS47, hu47⟩
  subst ho47
  subst hu47
  refine hK46 _ _ _ (WP.at hF47 hS47 (WP.ret ?_))
  have e_ := Option.some.inj h
  subst e_
  refine S_tmp rfl (S_nil (Upd.selS [] 0 ?_))
  exact Upd.done hR

theorem scale_Check_fn {μ : Gh} {L : List Seg} {R : Value → Gh → List Seg → Prop}  {s1 : T_api_Scale}  {res1 : Int}
     (h : scale_Check s1 = some res1)
    (hR : R (.int .i64 res1) μ (L)) :
    Fn Try.prog 42 [.agg #[.int .i64 s1.Step, .int .i64 s1.Max, .int .i64 s1.Base, .int .i64 s1.Slope, .int .i64 s1.Drift, .int .i64 s1.Checked]] μ (L) R := by
  unfold scale_Check at h
  refine Fn.of_body Tt_ok Try.func42 (by kernel_rfl) rfl Try.ntmps42 (by simp) ?_
  simp only [Try.f42, argFr, List.zipIdx, List.map, Nat.reduceAdd]
  refine WP.seq_k (fun K40 hK40 => WP.region Tt_ok (O_cons (O_box (cs := #[.int .i64 s1.Step, .int .i64 s1.Max, .int .i64 s1.Base, .int .i64 s1.Slope, .int .i64 s1.Drift, .int .i64 s1.Checked]) rfl rfl (fun g1 => P_some rfl (O_cons (O_read rfl (R_assign rfl (P_some rfl (O_nil (hK40 _ _ _ (WP.seq_k (fun K42 hK42 => WP.seq_k (fun K43 hK43 => ?_)))))))))))))
  obtain ⟨o44, h44, h⟩ := obind h
  refine WP.cutK (fun fr_ μ_ L_ => ∃ (v1 : Bool), v1 = o44 ∧ SubFr [(38, .bool v1)] fr_ ∧ SegSub (L) L_ ∧ μ = μ_) ?_ ?_
  · refine WP.region Tt_ok (O_cons (O_read rfl (R_fa0 (o' := 0) rfl rfl rfl rfl rfl rfl (P_some rfl (O_cons (O_read rfl (R_load rfl rfl rfl (Ex.mk _ (Cell.seg 0 0 rfl rfl rfl) (P_some rfl (O_cons (O_call (all := [.int .i64 1, .int .i64 s1.Step, .int .i64 10000]) rfl rfl rfl ?_)))))))))))
    obtain ⟨r1, hx1, h44⟩ := obind h44
    refine scale_between_fn  hx1 ((P_some rfl (O_cons (O_read rfl (R_not rfl (P_some rfl (O_cons (O_read rfl (R_move rfl (P_some rfl ?_))))))))))
    refine O_gv (z := !r1) rfl rfl (fun hc1 => ?_) (fun hc1 => ?_)
    · replace h44 := cond_f hc1 h44
      refine O_read rfl (R_fa0 (o' := 0) rfl rfl rfl rfl rfl rfl (P_some rfl (O_gY rfl rfl hc1 (O_read rfl (R_load rfl rfl rfl (Ex.mk _ (Cell.seg 0 0 rfl rfl rfl) (P_some rfl (O_gY rfl rfl hc1 (O_read rfl (R_fa0 (o' := 1) rfl rfl rfl rfl rfl rfl (P_some rfl (O_gY rfl rfl hc1 (O_read rfl ?_)))))))))))))
      refine R_load rfl rfl rfl (Ex.mk _ (Cell.seg 0 0 rfl rfl rfl) (P_some rfl (O_gY rfl rfl hc1 (O_call (all := [.int .i64 s1.Step, .int .i64 s1.Max, .int .i64 1073741824]) rfl rfl rfl ?_))))
      obtain ⟨r2, hx2, h44⟩ := obind h44
      refine scale_between_fn  hx2 ((P_some rfl (O_gY rfl rfl hc1 (O_read rfl (R_not rfl (P_some rfl (O_cons (O_read rfl (R_pick_F rfl hc1 rfl (P_some rfl (O_cons (O_read rfl (R_move rfl (P_some rfl ?_))))))))))))))
      refine O_gv (z := !r2) rfl rfl (fun hc2 => ?_) (fun hc2 => ?_)
      · replace h44 := cond_f hc2 h44
        refine O_read rfl (R_fa0 (o' := 2) rfl rfl rfl rfl rfl rfl (P_some rfl (O_gY rfl rfl hc2 (O_read rfl (R_load rfl rfl rfl (Ex.mk _ (Cell.seg 0 0 rfl rfl rfl) (P_some rfl (O_gY rfl rfl hc2 (O_call (all := [.int .i64 0, .int .i64 s1.Base, .int .i64 100000]) rfl rfl rfl ?_)))))))))
        obtain ⟨r3, hx3, h44⟩ := obind h44
        refine scale_between_fn  hx3 ((P_some rfl (O_gY rfl rfl hc2 (O_read rfl (R_not rfl (P_some rfl (O_cons (O_read rfl (R_pick_F rfl hc2 rfl (P_some rfl (O_cons (O_read rfl (R_move rfl (P_some rfl ?_))))))))))))))
        refine O_gv (z := !r3) rfl rfl (fun hc3 => ?_) (fun hc3 => ?_)
        · replace h44 := cond_f hc3 h44
          refine O_read rfl (R_fa0 (o' := 3) rfl rfl rfl rfl rfl rfl (P_some rfl (O_gY rfl rfl hc3 (O_read rfl (R_load rfl rfl rfl (Ex.mk _ (Cell.seg 0 0 rfl rfl rfl) (P_some rfl (O_gY rfl rfl hc3 (O_call (all := [.int .i64 0, .int .i64 s1.Slope, .int .i64 100]) rfl rfl rfl ?_)))))))))
          obtain ⟨r4, hx4, h44⟩ := obind h44
          refine scale_between_fn  hx4 ((P_some rfl (O_gY rfl rfl hc3 (O_read rfl (R_not rfl (P_some rfl (O_cons (O_read rfl (R_pick_F rfl hc3 rfl (P_some rfl (O_cons (O_read rfl (R_move rfl (P_some rfl ?_))))))))))))))
          refine O_gv (z := !r4) rfl rfl (fun hc4 => ?_) (fun hc4 => ?_)
          · replace h44 := cond_f hc4 h44
            refine O_read rfl (R_fa0 (o' := 4) rfl rfl rfl rfl rfl rfl (P_some rfl (O_gY rfl rfl hc4 (O_read rfl (R_load rfl rfl rfl (Ex.mk _ (Cell.seg 0 0 rfl rfl rfl) (P_some rfl (O_gY rfl rfl hc4 (O_call (all := [.int .i64 0, .int .i64 s1.Drift, .int .i64 100000]) rfl rfl rfl ?_)))))))))
            obtain ⟨r5, hx5, h44⟩ := obind h44
            refine scale_between_fn  hx5 ((P_some rfl (O_gY rfl rfl hc4 (O_read rfl (R_not rfl (P_some rfl (O_cons (O_read rfl (R_pick_F rfl hc4 rfl (P_some rfl (O_cons (O_read rfl (R_move rfl (P_some rfl ?_))))))))))))))
            refine O_gv (z := !r5) rfl rfl (fun hc5 => ?_) (fun hc5 => ?_)
            · replace h44 := cond_f hc5 h44
              refine O_read rfl (R_fa0 (o' := 5) rfl rfl rfl rfl rfl rfl (P_some rfl (O_gY rfl rfl hc5 (O_read rfl (R_load rfl rfl rfl (Ex.mk _ (Cell.seg 0 0 rfl rfl rfl) (P_some rfl (O_gY rfl rfl hc5 (O_call (all := [.int .i64 0, .int .i64 s1.Checked, .int .i64 3155759999]) rfl rfl rfl ?_)))))))))
              obtain ⟨r6, hx6, h44⟩ := obind h44
              refine scale_between_fn  hx6 ((P_some rfl (O_gY rfl rfl hc5 (O_read rfl (R_not rfl (P_some rfl (O_cons (O_read rfl (R_pick_F rfl hc5 rfl (P_some rfl (O_nil ?_)))))))))))
              have e_ := Option.some.inj h44
              subst e_
              exact ⟨!r6, rfl, SubFr.of ⟨rfl, trivial⟩, SegSub.sel _ [] 1, rfl⟩
            replace h44 := cond_t hc5 h44
            refine P_some rfl (O_gN rfl rfl hc5 (P_some rfl (O_gN rfl rfl hc5 (P_some rfl (O_gN rfl rfl hc5 (P_some rfl (O_cons (O_read rfl (R_pick_T rfl hc5 rfl (P_some rfl (O_nil ?_)))))))))))
            have e_ := Option.some.inj h44
            subst e_
            exact ⟨true, rfl, SubFr.of ⟨rfl, trivial⟩, SegSub.sel _ [] 1, rfl⟩
          replace h44 := cond_t hc4 h44
          refine P_some rfl (O_gN rfl rfl hc4 (P_some rfl (O_gN rfl rfl hc4 (P_some rfl (O_gN rfl rfl hc4 (P_some rfl (O_cons (O_read rfl (R_pick_T rfl hc4 rfl (P_some rfl (O_cons (O_read rfl (R_move rfl ?_)))))))))))))
          refine P_some rfl (O_gN rfl rfl rfl (P_some rfl (O_gN rfl rfl rfl (P_some rfl (O_gN rfl rfl rfl (P_some rfl (O_gN rfl rfl rfl (P_some rfl (O_cons (O_read rfl (R_pick_T rfl rfl rfl (P_some rfl (O_nil ?_)))))))))))))
          have e_ := Option.some.inj h44
          subst e_
          exact ⟨true, rfl, SubFr.of ⟨rfl, trivial⟩, SegSub.sel _ [] 1, rfl⟩
        replace h44 := cond_t hc3 h44
        refine P_some rfl (O_gN rfl rfl hc3 (P_some rfl (O_gN rfl rfl hc3 (P_some rfl (O_gN rfl rfl hc3 (P_some rfl (O_cons (O_read rfl (R_pick_T rfl hc3 rfl (P_some rfl (O_cons (O_read rfl (R_move rfl ?_)))))))))))))
        refine P_some rfl (O_gN rfl rfl rfl (P_some rfl (O_gN rfl rfl rfl (P_some rfl (O_gN rfl rfl rfl (P_some rfl (O_gN rfl rfl rfl (P_some rfl (O_cons (O_read rfl (R_pick_T rfl rfl rfl (P_some rfl (O_cons ?_)))))))))))))
        refine O_read rfl (R_move rfl (P_some rfl (O_gN rfl rfl rfl (P_some rfl (O_gN rfl rfl rfl (P_some rfl (O_gN rfl rfl rfl (P_some rfl (O_gN rfl rfl rfl (P_some rfl (O_cons (O_read rfl (R_pick_T rfl rfl rfl ?_)))))))))))))
        refine P_some rfl (O_nil ?_)
        have e_ := Option.some.inj h44
        subst e_
        exact ⟨true, rfl, SubFr.of ⟨rfl, trivial⟩, SegSub.sel _ [] 1, rfl⟩
      replace h44 := cond_t hc2 h44
      refine P_some rfl (O_gN rfl rfl hc2 (P_some rfl (O_gN rfl rfl hc2 (P_some rfl (O_gN rfl rfl hc2 (P_some rfl (O_cons (O_read rfl (R_pick_T rfl hc2 rfl (P_some rfl (O_cons (O_read rfl (R_move rfl ?_)))))))))))))
      refine P_some rfl (O_gN rfl rfl rfl (P_some rfl (O_gN rfl rfl rfl (P_some rfl (O_gN rfl rfl rfl (P_some rfl (O_gN rfl rfl rfl (P_some rfl (O_cons (O_read rfl (R_pick_T rfl rfl rfl (P_some rfl (O_cons ?_)))))))))))))
      refine O_read rfl (R_move rfl (P_some rfl (O_gN rfl rfl rfl (P_some rfl (O_gN rfl rfl rfl (P_some rfl (O_gN rfl rfl rfl (P_some rfl (O_gN rfl rfl rfl (P_some rfl (O_cons (O_read rfl (R_pick_T rfl rfl rfl ?_)))))))))))))
      refine P_some rfl (O_cons (O_read rfl (R_move rfl (P_some rfl (O_gN rfl rfl rfl (P_some rfl (O_gN rfl rfl rfl (P_some rfl (O_gN rfl rfl rfl (P_some rfl (O_gN rfl rfl rfl (P_some rfl (O_cons ?_)))))))))))))
      refine O_read rfl (R_pick_T rfl rfl rfl (P_some rfl (O_nil ?_)))
      have e_ := Option.some.inj h44
      subst e_
      exact ⟨true, rfl, SubFr.of ⟨rfl, trivial⟩, SegSub.sel _ [] 1, rfl⟩
    replace h44 := cond_t hc1 h44
    refine P_some rfl (O_gN rfl rfl hc1 (P_some rfl (O_gN rfl rfl hc1 (P_some rfl (O_gN rfl rfl hc1 (P_some rfl (O_gN rfl rfl hc1 (P_some rfl (O_gN rfl rfl hc1 (P_some rfl (O_cons (O_read rfl (R_pick_T rfl hc1 rfl ?_)))))))))))))
    refine P_some rfl (O_cons (O_read rfl (R_move rfl (P_some rfl (O_gN rfl rfl rfl (P_some rfl (O_gN rfl rfl rfl (P_some rfl (O_gN rfl rfl rfl (P_some rfl (O_gN rfl rfl rfl (P_some rfl (O_cons ?_)))))))))))))
    refine O_read rfl (R_pick_T rfl rfl rfl (P_some rfl (O_cons (O_read rfl (R_move rfl (P_some rfl (O_gN rfl rfl rfl (P_some rfl (O_gN rfl rfl rfl (P_some rfl (O_gN rfl rfl rfl (P_some rfl (O_gN rfl rfl rfl ?_)))))))))))))
    refine P_some rfl (O_cons (O_read rfl (R_pick_T rfl rfl rfl (P_some rfl (O_cons (O_read rfl (R_move rfl (P_some rfl (O_gN rfl rfl rfl (P_some rfl (O_gN rfl rfl rfl (P_some rfl (O_gN rfl rfl rfl ?_)))))))))))))
    refine P_some rfl (O_gN rfl rfl rfl (P_some rfl (O_cons (O_read rfl (R_pick_T rfl rfl rfl (P_some rfl (O_cons (O_read rfl (R_move rfl (P_some rfl (O_gN rfl rfl rfl (P_some rfl (O_gN rfl rfl rfl ?_)))))))))))))
    refine P_some rfl (O_gN rfl rfl rfl (P_some rfl (O_gN rfl rfl rfl (P_some rfl (O_cons (O_read rfl (R_pick_T rfl rfl rfl (P_some rfl (O_nil ?_)))))))))
    have e_ := Option.some.inj h44
    subst e_
    exact ⟨true, rfl, SubFr.of ⟨rfl, trivial⟩, SegSub.sel _ [] 1, rfl⟩
  rintro fr44 μ44 L44 hm44 ⟨v1, ho44, hF44, hS44, hu44⟩
  subst ho44
  subst hu44
  refine hK43 _ _ _ (WP.at hF44 hS44 ?_)
  refine W_cond_v (b := v1) rfl (fun hc6 => ?_) (fun hc6 => ?_)
  · replace h := cond_t hc6 h
    refine WP.seq_k (fun K48 hK48 => WP.region Tt_ok (O_cons (O_read rfl (R_assign rfl (P_some rfl (O_nil (hK48 _ _ _ (WP.ret ?_))))))))
    have e_ := Option.some.inj h
    subst e_
    refine S_tmp rfl (S_nil (Upd.selS [] 0 ?_))
    exact Upd.done hR
  replace h := cond_f hc6 h
  refine WP.skip (hK42 _ _ _ (WP.seq_k (fun K49 hK49 => WP.region Tt_ok (O_cons (O_read rfl (R_assign rfl (P_some rfl (O_nil (hK49 _ _ _ (WP.ret ?_))))))))))
  have e_ := Option.some.inj h
  subst e_
  refine S_tmp rfl (S_nil (Upd.selS [] 0 ?_))
  exact Upd.done hR

theorem ticket_scales_fn {μ : Gh} {L : List Seg} {R : Value → Gh → List Seg → Prop}  {s1 : (List T_api_Scale)} {A1 : Option Addr} {c1 : Nat} {res1 : Int}
    (hl1 : s1.length ≤ c1 ∧ c1 ≤ maxLen) (hA1 : Rds r_api_Scale μ L A1 s1) (h : ticket_scales s1 = some res1)
    (hR : R (.int .i64 res1) μ (L)) :
    Fn Try.prog 26 [.slice A1 s1.length c1] μ (L) R := by
  unfold ticket_scales at h
  refine Fn.of_body Tt_ok Try.func26 (by kernel_rfl) rfl Try.ntmps26 (by simp) ?_
  simp only [Try.f26, argFr, List.zipIdx, List.map, Nat.reduceAdd]
  refine WP.seq_k (fun K25 hK25 => WP.region Tt_ok (O_cons (O_read rfl (R_assign rfl (P_some rfl (O_nil (hK25 _ _ _ (WP.seq_k (fun K26 hK26 => WP.seq_k (fun K27 hK27 => WP.region Tt_ok (O_cons (O_read rfl (R_move rfl ?_)))))))))))))
  refine P_some rfl (O_cons (O_read rfl (R_lenS rfl rfl rfl (P_some rfl (O_cons (O_read rfl (R_gtrD rfl rfl (P_some rfl (O_nil (hK27 _ _ _ ?_))))))))))
  refine W_cond_v (b := (decide (16 < ((s1.length : Nat) : Int)))) rfl (fun hc1 => ?_) (fun hc1 => ?_)
  · replace h := cond_t hc1 h
    refine WP.seq_k (fun K28 hK28 => WP.region Tt_ok (O_cons (O_read rfl (R_assign rfl (P_some rfl (O_nil (hK28 _ _ _ (WP.ret ?_))))))))
    have e_ := Option.some.inj h
    subst e_
    refine S_tmp rfl (S_nil (Upd.selS [] 0 ?_))
    exact Upd.done hR
  replace h := cond_f hc1 h
  refine WP.skip (hK26 _ _ _ (WP.seq_k (fun K29 hK29 => WP.seq_k (fun K30 hK30 => WP.region Tt_ok (O_cons (O_read rfl (R_move rfl (P_some rfl (O_cons (O_read rfl (R_lenS rfl rfl rfl (P_some rfl (O_cons ?_)))))))))))))
  refine O_read rfl (R_move rfl (P_some rfl (O_nil (hK30 _ _ _ ?_))))
  obtain ⟨o31, h31, h⟩ := obind h
  refine WP.cutK (fun fr_ μ_ L_ => (.inl ()) = o31 ∧ SubFr [] fr_ ∧ SegSub (L) L_ ∧ μ = μ_) ?_ ?_
  · refine WP.block (WP.iter h31 (fun (v1 : Int) fr_ μ_ L_ => SubFr [(9, .slice A1 s1.length c1), (10, .int .i64 ((s1.length : Nat) : Int)), (11, .int .i64 v1)] fr_ ∧ SegSub (L) L_ ∧ μ = μ_) ⟨SubFr.of ⟨rfl, rfl, rfl, trivial⟩, SegSub.sel _ [] 0, rfl⟩ ?_)
    rintro v1 q52 fr52 μ52 L52 hm52 ⟨hF52, hS52, hu52⟩ hb52 hq52
    unfold ticket_scales_l1 at hb52
    subst hu52
    refine WP.at hF52 hS52 (WP.seq_k (fun K53 hK53 => WP.region Tt_ok (O_cons (O_read rfl (R_lssD rfl rfl (P_some rfl (O_nil (hK53 _ _ _ (WP.seq_k (fun K54 hK54 => ?_))))))))))
    refine W_cond_v (b := (decide (v1 < ((s1.length : Nat) : Int)))) rfl (fun hc2 => ?_) (fun hc2 => ?_)
    · replace hb52 := cond_t hc2 hb52
      refine WP.skip (hK54 _ _ _ (WP.seq_k (fun K55 hK55 => WP.block (WP.seq_k (fun K56 hK56 => WP.region Tt_ok (O_cons ?_))))))
      obtain ⟨x1, hx1, hb52⟩ := obind hb52
      obtain ⟨a1, cs1, hA2, hr1, _, hc3⟩ := Rds.getI hA1 hx1
      obtain rfl := hr1
      refine O_read rfl (R_iaG rfl rfl rfl rfl rfl rfl ⟨(getI_lt hx1).1, (getI_lt hx1).2.1⟩ hA2 (P_some rfl (O_cons (O_read rfl (R_loadA rfl rfl rfl rfl (Ex.mk [.int .i64 x1.Step, .int .i64 x1.Max, .int .i64 x1.Base, .int .i64 x1.Slope, .int .i64 x1.Drift, .int .i64 x1.Checked] ⟨rfl, hc3⟩ (P_some rfl (O_cons (O_alloc (cs := #[.int .i64 0, .int .i64 0, .int .i64 0, .int .i64 0, .int .i64 0, .int .i64 0]) rfl rfl (fun g1 => P_some rfl (O_cons (O_store (vs := [.int .i64 x1.Step, .int .i64 x1.Max, .int .i64 x1.Base, .int .i64 x1.Slope, .int .i64 x1.Drift, .int .i64 x1.Checked]) rfl rfl rfl rfl rfl rfl (ST_ (L' := ([(g1, .cells #[.int .i64 x1.Step, .int .i64 x1.Max, .int .i64 x1.Base, .int .i64 x1.Slope, .int .i64 x1.Drift, .int .i64 x1.Checked] 52 (0, 0))] :: L)) 0 0 rfl rfl rfl rfl ?_)))))))))))))
      refine P_none (O_nil (hK56 _ _ _ (WP.seq_k (fun K59 hK59 => WP.region Tt_ok (O_cons (O_read rfl (R_loadA rfl rfl rfl rfl (LA_ (vs := [.int .i64 x1.Step, .int .i64 x1.Max, .int .i64 x1.Base, .int .i64 x1.Slope, .int .i64 x1.Drift, .int .i64 x1.Checked]) 0 0 rfl rfl rfl rfl (P_some rfl (O_cons (O_call (all := [.agg #[.int .i64 x1.Step, .int .i64 x1.Max, .int .i64 x1.Base, .int .i64 x1.Slope, .int .i64 x1.Drift, .int .i64 x1.Checked]]) rfl rfl rfl ?_)))))))))))
      obtain ⟨r1, hx2, hb52⟩ := obind hb52
      refine scale_Check_fn  hx2 ((P_some rfl (O_cons (O_read rfl (R_assign rfl (P_some rfl (O_nil (hK59 _ _ _ (WP.seq_k (fun K60 hK60 => WP.region Tt_ok (O_cons (O_read rfl (R_move rfl (P_some rfl ?_))))))))))))))
      refine O_cons (O_read rfl (R_neqD rfl rfl (P_some rfl (O_nil (hK60 _ _ _ ?_)))))
      refine W_cond_v (b := !(decide (r1 = 0))) rfl (fun hc4 => ?_) (fun hc4 => ?_)
      · replace hb52 := cond_t hc4 hb52
        refine WP.seq_k (fun K61 hK61 => WP.region Tt_ok (O_cons (O_read rfl (R_move rfl (P_some rfl (O_cons (O_read rfl (R_assign rfl (P_some rfl (O_nil (hK61 _ _ _ (WP.ret ?_))))))))))))
        have e_ := Option.some.inj hb52
        subst e_
        have hq_ := hq52 _ rfl
        subst hq_
        replace h := osum_r h
        have e_ := Option.some.inj h
        subst e_
        refine S_tmp rfl (S_nil (Upd.selS [] 1 ?_))
        exact Upd.done hR
      replace hb52 := cond_f hc4 hb52
      refine WP.skip (hK55 _ _ _ (WP.region Tt_ok (O_cons (O_read rfl (R_add rfl rfl (P_some rfl (O_cons (O_read rfl (R_move rfl (P_some rfl (O_nil ?_)))))))))))
      have e_ := Option.some.inj hb52
      subst e_
      exact ⟨_, rfl, SubFr.of ⟨rfl, rfl, rfl, trivial⟩, SegSub.sel _ [] 1, rfl⟩
    replace hb52 := cond_f hc2 hb52
    refine WP.exit (B_here ?_)
    have e_ := Option.some.inj hb52
    subst e_
    have hq_ := hq52 _ rfl
    subst hq_
    exact ⟨rfl, SubFr.of trivial, SegSub.sel _ [] 0, rfl⟩
  rintro fr31 μ31 L31 hm31 ⟨ho31, hF31, hS31, hu31⟩
  subst ho31
  replace h := osum_l h
  subst hu31
  refine hK29 _ _ _ (WP.at hF31 hS31 (WP.seq_k (fun K62 hK62 => WP.region Tt_ok (O_cons (O_read rfl (R_assign rfl (P_some rfl (O_nil (hK62 _ _ _ (WP.ret ?_))))))))))
  have e_ := Option.some.inj h
  subst e_
  refine S_tmp rfl (S_nil (Upd.selS [] 0 ?_))
  exact Upd.done hR

theorem scale_shows_fn {μ : Gh} {L : List Seg} {R : Value → Gh → List Seg → Prop}  {s1 : T_api_Scale} {n1 : Int}  {res1 : Bool}
     (h : scale_shows s1 n1 = some res1)
    (hR : R (.bool res1) μ (L)) :
    Fn Try.prog 40 [.agg #[.int .i64 s1.Step, .int .i64 s1.Max, .int .i64 s1.Base, .int .i64 s1.Slope, .int .i64 s1.Drift, .int .i64 s1.Checked], .int .i64 n1] μ (L) R := by
  unfold scale_shows at h
  refine Fn.of_body Tt_ok Try.func40 (by kernel_rfl) rfl Try.ntmps40 (by simp) ?_
  simp only [Try.f40, argFr, List.zipIdx, List.map, Nat.reduceAdd]
  refine WP.seq_k (fun K145 hK145 => WP.region Tt_ok (O_cons (O_box (cs := #[.int .i64 s1.Step, .int .i64 s1.Max, .int .i64 s1.Base, .int .i64 s1.Slope, .int .i64 s1.Drift, .int .i64 s1.Checked]) rfl rfl (fun g1 => P_some rfl (O_cons (O_read rfl (R_assign rfl (P_some rfl (O_nil (hK145 _ _ _ (WP.seq_k (fun K147 hK147 => ?_))))))))))))
  obtain ⟨o148, h148, h⟩ := obind h
  refine WP.cutK (fun fr_ μ_ L_ => ∃ (v1 : Bool), v1 = o148 ∧ SubFr [(4, .bool v1)] fr_ ∧ SegSub (L) L_ ∧ μ = μ_) ?_ ?_
  · refine WP.region Tt_ok (O_cons (O_read rfl (R_move rfl (P_some rfl (O_cons (O_read rfl (R_fa0 (o' := 1) rfl rfl rfl rfl rfl rfl (P_some rfl (O_cons (O_read rfl (R_load rfl rfl rfl (Ex.mk _ (Cell.seg 0 0 rfl rfl rfl) (P_some rfl ?_)))))))))))))
    refine O_cons (O_call (all := [.int .i64 0, .int .i64 n1, .int .i64 s1.Max]) rfl rfl rfl ?_)
    obtain ⟨r1, hx1, h148⟩ := obind h148
    refine scale_between_fn  hx1 ((P_some rfl (O_cons (O_read rfl (R_move rfl (P_some rfl ?_))))))
    refine O_gv (z := r1) rfl rfl (fun hc1 => ?_) (fun hc1 => ?_)
    · replace h148 := cond_t hc1 h148
      refine O_read rfl (R_move rfl (P_some rfl (O_gY rfl rfl hc1 (O_read rfl (R_fa0 (o' := 0) rfl rfl rfl rfl rfl rfl (P_some rfl (O_gY rfl rfl hc1 (O_read rfl (R_load rfl rfl rfl (Ex.mk _ (Cell.seg 0 0 rfl rfl rfl) (P_some rfl (O_gY rfl rfl hc1 (O_read rfl ?_)))))))))))))
      apply R_rem; exact rfl; exact rfl
      obtain ⟨u1, hg1, h148⟩ := obind h148
      refine ⟨guardO_some hg1, ?_⟩
      refine P_some rfl (O_gY rfl rfl hc1 (O_read rfl (R_eqlD rfl rfl (P_some rfl (O_cons (O_read rfl (R_pick_T rfl hc1 rfl (P_some rfl (O_cons (O_read rfl (R_assign rfl (P_some rfl (O_nil ?_)))))))))))))
      have e_ := Option.some.inj h148
      subst e_
      exact ⟨(decide ((Int.tmod n1 s1.Step) = 0)), rfl, SubFr.of ⟨rfl, trivial⟩, SegSub.sel _ [] 1, rfl⟩
    replace h148 := cond_f hc1 h148
    refine P_some rfl (O_gN rfl rfl hc1 (P_some rfl (O_gN rfl rfl hc1 (P_some rfl (O_gN rfl rfl hc1 (P_some rfl (O_gN rfl rfl hc1 (P_some rfl (O_cons (O_read rfl (R_pick_F rfl hc1 rfl (P_some rfl (O_cons ?_)))))))))))))
    refine O_read rfl (R_assign rfl (P_some rfl (O_nil ?_)))
    have e_ := Option.some.inj h148
    subst e_
    exact ⟨false, rfl, SubFr.of ⟨rfl, trivial⟩, SegSub.sel _ [] 1, rfl⟩
  rintro fr148 μ148 L148 hm148 ⟨v1, ho148, hF148, hS148, hu148⟩
  subst ho148
  subst hu148
  refine hK147 _ _ _ (WP.at hF148 hS148 (WP.ret ?_))
  have e_ := Option.some.inj h
  subst e_
  refine S_tmp rfl (S_nil (Upd.selS [] 0 ?_))
  exact Upd.done hR

theorem scale_bound_fn {μ : Gh} {L : List Seg} {R : Value → Gh → List Seg → Prop}  {s1 : T_api_Scale} {mass1 : Int} {t1 : Int}  {res1 : Int}
     (h : scale_bound s1 mass1 t1 = some res1)
    (hR : R (.int .i64 res1) μ (L)) :
    Fn Try.prog 56 [.agg #[.int .i64 s1.Step, .int .i64 s1.Max, .int .i64 s1.Base, .int .i64 s1.Slope, .int .i64 s1.Drift, .int .i64 s1.Checked], .int .i64 mass1, .int .i64 t1] μ (L) R := by
  unfold scale_bound at h
  refine Fn.of_body Tt_ok Try.func56 (by kernel_rfl) rfl Try.ntmps56 (by simp) ?_
  simp only [Try.f56, argFr, List.zipIdx, List.map, Nat.reduceAdd]
  refine WP.seq_k (fun K193 hK193 => WP.region Tt_ok (O_cons (O_box (cs := #[.int .i64 s1.Step, .int .i64 s1.Max, .int .i64 s1.Base, .int .i64 s1.Slope, .int .i64 s1.Drift, .int .i64 s1.Checked]) rfl rfl (fun g1 => P_some rfl (O_cons (O_read rfl (R_assign rfl (P_some rfl (O_nil (hK193 _ _ _ (WP.seq_k (fun K195 hK195 => WP.region Tt_ok (O_cons ?_)))))))))))))
  refine O_read rfl (R_move rfl (P_some rfl (O_cons (O_read rfl (R_fa0 (o' := 5) rfl rfl rfl rfl rfl rfl (P_some rfl (O_cons (O_read rfl (R_load rfl rfl rfl (Ex.mk _ (Cell.seg 0 0 rfl rfl rfl) (P_some rfl (O_cons (O_read rfl ?_)))))))))))))
  refine R_sub rfl rfl (P_some rfl (O_cons (O_read rfl (R_add rfl rfl (P_some rfl (O_cons (O_read rfl (R_sub rfl rfl (P_some rfl (O_cons (O_read rfl (R_quo rfl rfl ?_))))))))))))
  refine ⟨by decide, ?_⟩
  refine P_some rfl (O_cons (O_read rfl (R_assign rfl (P_some rfl (O_nil (hK195 _ _ _ (WP.seq_k (fun K196 hK196 => WP.region Tt_ok (O_cons (O_read rfl (R_fa0 (o' := 2) rfl rfl rfl rfl rfl rfl (P_some rfl (O_cons ?_)))))))))))))
  refine O_read rfl (R_load rfl rfl rfl (Ex.mk _ (Cell.seg 0 0 rfl rfl rfl) (P_some rfl (O_cons (O_read rfl (R_move rfl (P_some rfl (O_cons (O_read rfl (R_fa0 (o' := 3) rfl rfl rfl rfl rfl rfl (P_some rfl (O_cons (O_read rfl ?_)))))))))))))
  refine R_load rfl rfl rfl (Ex.mk _ (Cell.seg 0 0 rfl rfl rfl) (P_some rfl (O_cons (O_read rfl (R_mul rfl rfl (P_some rfl (O_cons (O_read rfl (R_add rfl rfl (P_some rfl (O_cons (O_read rfl (R_quo rfl rfl ?_)))))))))))))
  refine ⟨by decide, ?_⟩
  refine P_some rfl (O_cons (O_read rfl (R_add rfl rfl (P_some rfl (O_cons (O_read rfl (R_fa0 (o' := 4) rfl rfl rfl rfl rfl rfl (P_some rfl (O_cons (O_read rfl (R_load rfl rfl rfl (Ex.mk _ (Cell.seg 0 0 rfl rfl rfl) (P_some rfl ?_)))))))))))))
  refine O_cons (O_read rfl (R_move rfl (P_some rfl (O_cons (O_read rfl (R_mul rfl rfl (P_some rfl (O_cons (O_read rfl (R_add rfl rfl (P_some rfl (O_cons (O_read rfl ?_)))))))))))))
  refine R_assign rfl (P_some rfl (O_nil (hK196 _ _ _ (WP.ret ?_))))
  have e_ := Option.some.inj h
  subst e_
  refine S_tmp rfl (S_nil (Upd.selS [] 1 ?_))
  exact Upd.done hR

theorem scale_near_fn {μ : Gh} {L : List Seg} {R : Value → Gh → List Seg → Prop}  {s1 : T_api_Scale} {mass1 : Int} {n1 : Int} {t1 : Int}  {res1 : Bool}
     (h : scale_near s1 mass1 n1 t1 = some res1)
    (hR : R (.bool res1) μ (L)) :
    Fn Try.prog 41 [.agg #[.int .i64 s1.Step, .int .i64 s1.Max, .int .i64 s1.Base, .int .i64 s1.Slope, .int .i64 s1.Drift, .int .i64 s1.Checked], .int .i64 mass1, .int .i64 n1, .int .i64 t1] μ (L) R := by
  unfold scale_near at h
  refine Fn.of_body Tt_ok Try.func41 (by kernel_rfl) rfl Try.ntmps41 (by simp) ?_
  simp only [Try.f41, argFr, List.zipIdx, List.map, Nat.reduceAdd]
  refine WP.seq_k (fun K189 hK189 => WP.region Tt_ok (O_cons (O_box (cs := #[.int .i64 s1.Step, .int .i64 s1.Max, .int .i64 s1.Base, .int .i64 s1.Slope, .int .i64 s1.Drift, .int .i64 s1.Checked]) rfl rfl (fun g1 => P_some rfl (O_cons (O_read rfl (R_assign rfl (P_some rfl (O_nil (hK189 _ _ _ (WP.seq_k (fun K191 hK191 => WP.region Tt_ok (O_cons ?_)))))))))))))
  refine O_read rfl (R_move rfl (P_some rfl (O_cons (O_read rfl (R_move rfl (P_some rfl (O_cons (O_read rfl (R_sub rfl rfl (P_some rfl (O_cons (O_read rfl (R_move rfl ?_)))))))))))))
  refine P_some rfl (O_cons (O_read rfl (R_move rfl (P_some rfl (O_cons (O_read rfl (R_sub rfl rfl (P_some rfl (O_cons (O_read rfl (R_maxI rfl (P_some rfl (O_cons ?_)))))))))))))
  refine O_read rfl (R_assign rfl (P_some rfl (O_nil (hK191 _ _ _ (WP.seq_k (fun K192 hK192 => WP.drawn (id := 2) (l' := List.replicate 12 true) wide Tt_ok _ Kept.refl [(true, 0), (true, 1), (true, 2), (true, 3), (true, 4), (true, 7), (true, 8), (false, 5), (true, 6), (true, 9), (true, 10), (true, 11)] (by kernel_rfl) (by kernel_rfl) rfl (PL_t rfl (R_move rfl (P_some rfl (PL_t rfl (R_mul rfl rfl (P_some rfl (PL_t rfl ?_)))))))))))))
  refine R_loadA rfl rfl rfl rfl (LA_ (vs := [.int .i64 s1.Step, .int .i64 s1.Max, .int .i64 s1.Base, .int .i64 s1.Slope, .int .i64 s1.Drift, .int .i64 s1.Checked]) 0 0 rfl rfl rfl rfl (P_some rfl (PL_t rfl (R_move rfl (P_some rfl (PL_t rfl (R_move rfl (P_some rfl (PL_t rfl (R_fa0 (o' := 0) rfl rfl rfl rfl rfl rfl (P_some rfl (PL_t rfl (R_load rfl rfl rfl ?_)))))))))))))
  refine Ex.mk _ (Cell.seg 0 0 rfl rfl rfl) (P_some rfl (PL_f rfl (O_call (all := [.agg #[.int .i64 s1.Step, .int .i64 s1.Max, .int .i64 s1.Base, .int .i64 s1.Slope, .int .i64 s1.Drift, .int .i64 s1.Checked], .int .i64 mass1, .int .i64 t1]) rfl rfl rfl ?_)))
  obtain ⟨r1, hx1, h⟩ := obind h
  refine scale_bound_fn  hx1 (?_)
  refine ⟨Kept.refl, ?_⟩
  refine P_some rfl (PL_t rfl (R_mul rfl rfl (P_some rfl (PL_t rfl (R_add rfl rfl (P_some rfl (PL_t rfl (R_leqD rfl rfl (P_some rfl (PL_t rfl (R_assign rfl (P_some rfl (PL_nil ?_)))))))))))))
  refine AN.done0 (by kernel_rfl) (hK192 _ _ _ (WP.ret ?_))
  have e_ := Option.some.inj h
  subst e_
  refine S_tmp rfl (S_nil (Upd.selS [] 1 ?_))
  exact Upd.done hR

theorem scale_True_1_fn {μ : Gh} {L : List Seg} {R : Value → Gh → List Seg → Prop}  {n1 : Int} {b1 : T_api_Scale} {b2 : Int} {b3 : Int} {g1 : Nat} {g2 : Nat} {g3 : Nat} {res1 : Bool}
     (h : scale_True_1 n1 b1 b2 b3 = some res1)
    (hR : R (.bool res1) μ ([(g1, .cells #[.int .i64 b1.Step, .int .i64 b1.Max, .int .i64 b1.Base, .int .i64 b1.Slope, .int .i64 b1.Drift, .int .i64 b1.Checked] 52 (0, 0))] :: [(g2, .cells #[.int .i64 b2] 3 (0, 0))] :: [(g3, .cells #[.int .i64 b3] 3 (0, 0))] :: L)) :
    Fn Try.prog 58 [.int .i64 n1, .pointer (some ⟨g1, 0, none⟩), .pointer (some ⟨g2, 0, none⟩), .pointer (some ⟨g3, 0, none⟩)] μ ([(g1, .cells #[.int .i64 b1.Step, .int .i64 b1.Max, .int .i64 b1.Base, .int .i64 b1.Slope, .int .i64 b1.Drift, .int .i64 b1.Checked] 52 (0, 0))] :: [(g2, .cells #[.int .i64 b2] 3 (0, 0))] :: [(g3, .cells #[.int .i64 b3] 3 (0, 0))] :: L) R := by
  unfold scale_True_1 at h
  refine Fn.of_body Tt_ok Try.func58 (by kernel_rfl) rfl Try.ntmps58 (by simp) ?_
  simp only [Try.f58, argFr, List.zipIdx, List.map, Nat.reduceAdd]
  refine WP.seq_k (fun K187 hK187 => WP.region Tt_ok (O_cons (O_read rfl (R_assign rfl (P_some rfl (O_nil (hK187 _ _ _ (WP.seq_k (fun K188 hK188 => WP.region Tt_ok (O_cons (O_read rfl (R_loadA rfl rfl rfl rfl (LA_ (vs := [.int .i64 b1.Step, .int .i64 b1.Max, .int .i64 b1.Base, .int .i64 b1.Slope, .int .i64 b1.Drift, .int .i64 b1.Checked]) 0 0 rfl rfl rfl rfl ?_)))))))))))))
  refine P_some rfl (O_cons (O_read rfl (R_move rfl (P_some rfl (O_cons (O_read rfl (R_load rfl rfl rfl (Ex.mk _ (Cell.seg 1 0 rfl rfl rfl) (P_some rfl (O_cons (O_read rfl (R_load rfl rfl rfl (Ex.mk _ (Cell.seg 2 0 rfl rfl rfl) ?_)))))))))))))
  refine P_some rfl (O_cons (O_call (all := [.agg #[.int .i64 b1.Step, .int .i64 b1.Max, .int .i64 b1.Base, .int .i64 b1.Slope, .int .i64 b1.Drift, .int .i64 b1.Checked], .int .i64 n1, .int .i64 b2, .int .i64 b3]) rfl rfl rfl ?_))
  obtain ⟨r1, hx1, h⟩ := obind h
  refine scale_near_fn  hx1 ((P_some rfl (O_cons (O_read rfl (R_assign rfl (P_some rfl (O_nil (hK188 _ _ _ (WP.ret ?_)))))))))
  have e_ := Option.some.inj h
  subst e_
  refine S_tmp rfl (S_nil (Upd.seg (L2 := ([(g1, .cells #[.int .i64 b1.Step, .int .i64 b1.Max, .int .i64 b1.Base, .int .i64 b1.Slope, .int .i64 b1.Drift, .int .i64 b1.Checked] 52 (0, 0))] :: [(g2, .cells #[.int .i64 b2] 3 (0, 0))] :: [(g3, .cells #[.int .i64 b3] 3 (0, 0))] :: L)) (SegSub.trans (SegSub.flat (by simp [selS])) (SegSub.sel _ [some 0, some 1, some 2] 3)) ?_))
  exact Upd.done hR

theorem scale_first_c58_fn {μ : Gh} {L : List Seg} {R : Value → Gh → List Seg → Prop} {F : Nat} {lo1 : Int} {hi1 : Int} {b1 : T_api_Scale} {b2 : Int} {b3 : Int} {g1 : Nat} {g2 : Nat} {g3 : Nat} {res1 : Int}
     (h : scale_first_c58 F lo1 hi1 b1 b2 b3 = some res1)
    (hR : R (.int .i64 res1) μ ([(g1, .cells #[.int .i64 b1.Step, .int .i64 b1.Max, .int .i64 b1.Base, .int .i64 b1.Slope, .int .i64 b1.Drift, .int .i64 b1.Checked] 52 (0, 0))] :: [(g2, .cells #[.int .i64 b2] 3 (0, 0))] :: [(g3, .cells #[.int .i64 b3] 3 (0, 0))] :: L)) :
    Fn Try.prog 57 [.int .i64 lo1, .int .i64 hi1, .func (.func 58) #[] #[.pointer (some ⟨g1, 0, none⟩), .pointer (some ⟨g2, 0, none⟩), .pointer (some ⟨g3, 0, none⟩)]] μ ([(g1, .cells #[.int .i64 b1.Step, .int .i64 b1.Max, .int .i64 b1.Base, .int .i64 b1.Slope, .int .i64 b1.Drift, .int .i64 b1.Checked] 52 (0, 0))] :: [(g2, .cells #[.int .i64 b2] 3 (0, 0))] :: [(g3, .cells #[.int .i64 b3] 3 (0, 0))] :: L) R := by
  unfold scale_first_c58 at h
  refine Fn.of_body Tt_ok Try.func57 (by kernel_rfl) rfl Try.ntmps57 (by simp) ?_
  simp only [Try.f57, argFr, List.zipIdx, List.map, Nat.reduceAdd]
  refine WP.seq_k (fun K167 hK167 => WP.region Tt_ok (O_cons (O_read rfl (R_assign rfl (P_some rfl (O_nil (hK167 _ _ _ (WP.seq_k (fun K168 hK168 => ?_)))))))))
  obtain ⟨o169, h169, h⟩ := obind h
  refine WP.cutK (fun fr_ μ_ L_ => ∃ (lo3 : Int), lo3 = o169 ∧ SubFr [(0, .int .i64 lo3)] fr_ ∧ SegSub ([(g1, .cells #[.int .i64 b1.Step, .int .i64 b1.Max, .int .i64 b1.Base, .int .i64 b1.Slope, .int .i64 b1.Drift, .int .i64 b1.Checked] 52 (0, 0))] :: [(g2, .cells #[.int .i64 b2] 3 (0, 0))] :: [(g3, .cells #[.int .i64 b3] 3 (0, 0))] :: L) L_ ∧ μ = μ_) ?_ ?_
  · refine WP.block (WP.iter h169 (fun (j_ : Int × Int) fr_ μ_ L_ => ounP j_ fun lo2 hi2 => SubFr [(0, .int .i64 lo2), (1, .int .i64 hi2), (2, .func (.func 58) #[] #[.pointer (some ⟨g1, 0, none⟩), .pointer (some ⟨g2, 0, none⟩), .pointer (some ⟨g3, 0, none⟩)])] fr_ ∧ SegSub ([(g1, .cells #[.int .i64 b1.Step, .int .i64 b1.Max, .int .i64 b1.Base, .int .i64 b1.Slope, .int .i64 b1.Drift, .int .i64 b1.Checked] 52 (0, 0))] :: [(g2, .cells #[.int .i64 b2] 3 (0, 0))] :: [(g3, .cells #[.int .i64 b3] 3 (0, 0))] :: L) L_ ∧ μ = μ_) ⟨SubFr.of ⟨rfl, rfl, rfl, trivial⟩, SegSub.sel _ [some 0, some 1, some 2] 3, rfl⟩ ?_)
    rintro ⟨lo2, hi2⟩ q206 fr206 μ206 L206 hm206 ⟨hF206, hS206, hu206⟩ hb206 hq206
    unfold scale_first_c58_l1 at hb206
    replace hb206 := oun_mk hb206
    subst hu206
    refine WP.at hF206 hS206 (WP.seq_k (fun K216 hK216 => WP.seq_k (fun K217 hK217 => WP.region Tt_ok (O_cons (O_read rfl (R_move rfl (P_some rfl (O_cons (O_read rfl (R_move rfl (P_some rfl (O_cons (O_read rfl ?_)))))))))))))
    refine R_leqD rfl rfl (P_some rfl (O_nil (hK217 _ _ _ ?_)))
    refine W_cond_v (b := (decide (lo2 ≤ hi2))) rfl (fun hc1 => ?_) (fun hc1 => ?_)
    · replace hb206 := cond_t hc1 hb206
      refine WP.skip (hK216 _ _ _ (WP.block (WP.seq_k (fun K218 hK218 => WP.region Tt_ok (O_cons (O_read rfl (R_move rfl (P_some rfl (O_cons (O_read rfl (R_move rfl (P_some rfl (O_cons ?_)))))))))))))
      refine O_read rfl (R_move rfl (P_some rfl (O_cons (O_read rfl (R_sub rfl rfl (P_some rfl (O_cons (O_read rfl (R_quo rfl rfl ?_)))))))))
      refine ⟨by decide, ?_⟩
      refine P_some rfl (O_cons (O_read rfl (R_add rfl rfl (P_some rfl (O_cons (O_read rfl (R_assign rfl (P_some rfl (O_nil (hK218 _ _ _ (WP.seq_k (fun K219 hK219 => WP.region Tt_ok (O_cons ?_)))))))))))))
      refine O_read rfl (R_move rfl (P_some rfl (O_cons (O_read rfl (R_move rfl (P_some rfl (O_cons (O_call (all := [.int .i64 (w64 (lo2 + (w64 (Int.tdiv (w64 (hi2 - lo2)) 2)))), .pointer (some ⟨g1, 0, none⟩), .pointer (some ⟨g2, 0, none⟩), .pointer (some ⟨g3, 0, none⟩)]) rfl rfl rfl ?_))))))))
      obtain ⟨r1, hx1, hb206⟩ := obind hb206
      refine scale_True_1_fn  hx1 ((P_some rfl (O_nil (hK219 _ _ _ ?_))))
      refine W_cond_v (b := r1) rfl (fun hc2 => ?_) (fun hc2 => ?_)
      · replace hb206 := cond_t hc2 hb206
        refine WP.region Tt_ok (O_cons (O_read rfl (R_move rfl (P_some rfl (O_cons (O_read rfl (R_sub rfl rfl (P_some rfl (O_cons (O_read rfl (R_assign rfl (P_some rfl (O_nil ?_)))))))))))))
        have e_ := Option.some.inj hb206
        subst e_
        exact ⟨_, rfl, SubFr.of ⟨rfl, rfl, rfl, trivial⟩, SegSub.sel _ [some 0, some 1, some 2] 3, rfl⟩
      replace hb206 := cond_f hc2 hb206
      refine WP.region Tt_ok (O_cons (O_read rfl (R_move rfl (P_some rfl (O_cons (O_read rfl (R_add rfl rfl (P_some rfl (O_cons (O_read rfl (R_assign rfl (P_some rfl (O_nil ?_)))))))))))))
      have e_ := Option.some.inj hb206
      subst e_
      exact ⟨_, rfl, SubFr.of ⟨rfl, rfl, rfl, trivial⟩, SegSub.sel _ [some 0, some 1, some 2] 3, rfl⟩
    replace hb206 := cond_f hc1 hb206
    refine WP.exit (B_here ?_)
    have e_ := Option.some.inj hb206
    subst e_
    have hq_ := hq206 _ rfl
    subst hq_
    exact ⟨lo2, rfl, SubFr.of ⟨rfl, trivial⟩, SegSub.sel _ [some 0, some 1, some 2] 3, rfl⟩
  rintro fr169 μ169 L169 hm169 ⟨lo3, ho169, hF169, hS169, hu169⟩
  subst ho169
  subst hu169
  refine hK168 _ _ _ (WP.at hF169 hS169 (WP.seq_k (fun K235 hK235 => WP.region Tt_ok (O_cons (O_read rfl (R_move rfl (P_some rfl (O_cons (O_read rfl (R_assign rfl (P_some rfl (O_nil (hK235 _ _ _ ?_)))))))))))))
  apply WP.ret
  have e_ := Option.some.inj h
  subst e_
  refine S_tmp rfl (S_nil (Upd.seg (L2 := ([(g1, .cells #[.int .i64 b1.Step, .int .i64 b1.Max, .int .i64 b1.Base, .int .i64 b1.Slope, .int .i64 b1.Drift, .int .i64 b1.Checked] 52 (0, 0))] :: [(g2, .cells #[.int .i64 b2] 3 (0, 0))] :: [(g3, .cells #[.int .i64 b3] 3 (0, 0))] :: L)) (SegSub.trans (SegSub.flat (by simp [selS])) (SegSub.sel _ [some 0, some 1, some 2] 3)) ?_))
  exact Upd.done hR

theorem scale_True_2_fn {μ : Gh} {L : List Seg} {R : Value → Gh → List Seg → Prop}  {n1 : Int} {b1 : T_api_Scale} {b2 : Int} {b3 : Int} {g1 : Nat} {g2 : Nat} {g3 : Nat} {res1 : Bool}
     (h : scale_True_2 n1 b1 b2 b3 = some res1)
    (hR : R (.bool res1) μ ([(g1, .cells #[.int .i64 b1.Step, .int .i64 b1.Max, .int .i64 b1.Base, .int .i64 b1.Slope, .int .i64 b1.Drift, .int .i64 b1.Checked] 52 (0, 0))] :: [(g2, .cells #[.int .i64 b2] 3 (0, 0))] :: [(g3, .cells #[.int .i64 b3] 3 (0, 0))] :: L)) :
    Fn Try.prog 59 [.int .i64 n1, .pointer (some ⟨g1, 0, none⟩), .pointer (some ⟨g2, 0, none⟩), .pointer (some ⟨g3, 0, none⟩)] μ ([(g1, .cells #[.int .i64 b1.Step, .int .i64 b1.Max, .int .i64 b1.Base, .int .i64 b1.Slope, .int .i64 b1.Drift, .int .i64 b1.Checked] 52 (0, 0))] :: [(g2, .cells #[.int .i64 b2] 3 (0, 0))] :: [(g3, .cells #[.int .i64 b3] 3 (0, 0))] :: L) R := by
  unfold scale_True_2 at h
  refine Fn.of_body Tt_ok Try.func59 (by kernel_rfl) rfl Try.ntmps59 (by simp) ?_
  simp only [Try.f59, argFr, List.zipIdx, List.map, Nat.reduceAdd]
  refine WP.seq_k (fun K272 hK272 => WP.region Tt_ok (O_cons (O_read rfl (R_assign rfl (P_some rfl (O_nil (hK272 _ _ _ (WP.seq_k (fun K273 hK273 => WP.region Tt_ok (O_cons (O_read rfl (R_loadA rfl rfl rfl rfl (LA_ (vs := [.int .i64 b1.Step, .int .i64 b1.Max, .int .i64 b1.Base, .int .i64 b1.Slope, .int .i64 b1.Drift, .int .i64 b1.Checked]) 0 0 rfl rfl rfl rfl ?_)))))))))))))
  refine P_some rfl (O_cons (O_read rfl (R_move rfl (P_some rfl (O_cons (O_read rfl (R_load rfl rfl rfl (Ex.mk _ (Cell.seg 1 0 rfl rfl rfl) (P_some rfl (O_cons (O_read rfl (R_load rfl rfl rfl (Ex.mk _ (Cell.seg 2 0 rfl rfl rfl) ?_)))))))))))))
  refine P_some rfl (O_cons (O_call (all := [.agg #[.int .i64 b1.Step, .int .i64 b1.Max, .int .i64 b1.Base, .int .i64 b1.Slope, .int .i64 b1.Drift, .int .i64 b1.Checked], .int .i64 n1, .int .i64 b2, .int .i64 b3]) rfl rfl rfl ?_))
  obtain ⟨r1, hx1, h⟩ := obind h
  refine scale_near_fn  hx1 ((P_some rfl (O_cons (O_read rfl (R_not rfl (P_some rfl (O_cons (O_read rfl (R_assign rfl (P_some rfl (O_nil (hK273 _ _ _ (WP.ret ?_)))))))))))))
  have e_ := Option.some.inj h
  subst e_
  refine S_tmp rfl (S_nil (Upd.seg (L2 := ([(g1, .cells #[.int .i64 b1.Step, .int .i64 b1.Max, .int .i64 b1.Base, .int .i64 b1.Slope, .int .i64 b1.Drift, .int .i64 b1.Checked] 52 (0, 0))] :: [(g2, .cells #[.int .i64 b2] 3 (0, 0))] :: [(g3, .cells #[.int .i64 b3] 3 (0, 0))] :: L)) (SegSub.trans (SegSub.flat (by simp [selS])) (SegSub.sel _ [some 0, some 1, some 2] 3)) ?_))
  exact Upd.done hR

theorem scale_first_c59_fn {μ : Gh} {L : List Seg} {R : Value → Gh → List Seg → Prop} {F : Nat} {lo1 : Int} {hi1 : Int} {b1 : T_api_Scale} {b2 : Int} {b3 : Int} {g1 : Nat} {g2 : Nat} {g3 : Nat} {res1 : Int}
     (h : scale_first_c59 F lo1 hi1 b1 b2 b3 = some res1)
    (hR : R (.int .i64 res1) μ ([(g1, .cells #[.int .i64 b1.Step, .int .i64 b1.Max, .int .i64 b1.Base, .int .i64 b1.Slope, .int .i64 b1.Drift, .int .i64 b1.Checked] 52 (0, 0))] :: [(g2, .cells #[.int .i64 b2] 3 (0, 0))] :: [(g3, .cells #[.int .i64 b3] 3 (0, 0))] :: L)) :
    Fn Try.prog 57 [.int .i64 lo1, .int .i64 hi1, .func (.func 59) #[] #[.pointer (some ⟨g1, 0, none⟩), .pointer (some ⟨g2, 0, none⟩), .pointer (some ⟨g3, 0, none⟩)]] μ ([(g1, .cells #[.int .i64 b1.Step, .int .i64 b1.Max, .int .i64 b1.Base, .int .i64 b1.Slope, .int .i64 b1.Drift, .int .i64 b1.Checked] 52 (0, 0))] :: [(g2, .cells #[.int .i64 b2] 3 (0, 0))] :: [(g3, .cells #[.int .i64 b3] 3 (0, 0))] :: L) R := by
  unfold scale_first_c59 at h
  refine Fn.of_body Tt_ok Try.func57 (by kernel_rfl) rfl Try.ntmps57 (by simp) ?_
  simp only [Try.f57, argFr, List.zipIdx, List.map, Nat.reduceAdd]
  refine WP.seq_k (fun K252 hK252 => WP.region Tt_ok (O_cons (O_read rfl (R_assign rfl (P_some rfl (O_nil (hK252 _ _ _ (WP.seq_k (fun K253 hK253 => ?_)))))))))
  obtain ⟨o254, h254, h⟩ := obind h
  refine WP.cutK (fun fr_ μ_ L_ => ∃ (lo3 : Int), lo3 = o254 ∧ SubFr [(0, .int .i64 lo3)] fr_ ∧ SegSub ([(g1, .cells #[.int .i64 b1.Step, .int .i64 b1.Max, .int .i64 b1.Base, .int .i64 b1.Slope, .int .i64 b1.Drift, .int .i64 b1.Checked] 52 (0, 0))] :: [(g2, .cells #[.int .i64 b2] 3 (0, 0))] :: [(g3, .cells #[.int .i64 b3] 3 (0, 0))] :: L) L_ ∧ μ = μ_) ?_ ?_
  · refine WP.block (WP.iter h254 (fun (j_ : Int × Int) fr_ μ_ L_ => ounP j_ fun lo2 hi2 => SubFr [(0, .int .i64 lo2), (1, .int .i64 hi2), (2, .func (.func 59) #[] #[.pointer (some ⟨g1, 0, none⟩), .pointer (some ⟨g2, 0, none⟩), .pointer (some ⟨g3, 0, none⟩)])] fr_ ∧ SegSub ([(g1, .cells #[.int .i64 b1.Step, .int .i64 b1.Max, .int .i64 b1.Base, .int .i64 b1.Slope, .int .i64 b1.Drift, .int .i64 b1.Checked] 52 (0, 0))] :: [(g2, .cells #[.int .i64 b2] 3 (0, 0))] :: [(g3, .cells #[.int .i64 b3] 3 (0, 0))] :: L) L_ ∧ μ = μ_) ⟨SubFr.of ⟨rfl, rfl, rfl, trivial⟩, SegSub.sel _ [some 0, some 1, some 2] 3, rfl⟩ ?_)
    rintro ⟨lo2, hi2⟩ q283 fr283 μ283 L283 hm283 ⟨hF283, hS283, hu283⟩ hb283 hq283
    unfold scale_first_c59_l1 at hb283
    replace hb283 := oun_mk hb283
    subst hu283
    refine WP.at hF283 hS283 (WP.seq_k (fun K293 hK293 => WP.seq_k (fun K294 hK294 => WP.region Tt_ok (O_cons (O_read rfl (R_move rfl (P_some rfl (O_cons (O_read rfl (R_move rfl (P_some rfl (O_cons (O_read rfl ?_)))))))))))))
    refine R_leqD rfl rfl (P_some rfl (O_nil (hK294 _ _ _ ?_)))
    refine W_cond_v (b := (decide (lo2 ≤ hi2))) rfl (fun hc1 => ?_) (fun hc1 => ?_)
    · replace hb283 := cond_t hc1 hb283
      refine WP.skip (hK293 _ _ _ (WP.block (WP.seq_k (fun K295 hK295 => WP.region Tt_ok (O_cons (O_read rfl (R_move rfl (P_some rfl (O_cons (O_read rfl (R_move rfl (P_some rfl (O_cons ?_)))))))))))))
      refine O_read rfl (R_move rfl (P_some rfl (O_cons (O_read rfl (R_sub rfl rfl (P_some rfl (O_cons (O_read rfl (R_quo rfl rfl ?_)))))))))
      refine ⟨by decide, ?_⟩
      refine P_some rfl (O_cons (O_read rfl (R_add rfl rfl (P_some rfl (O_cons (O_read rfl (R_assign rfl (P_some rfl (O_nil (hK295 _ _ _ (WP.seq_k (fun K296 hK296 => WP.region Tt_ok (O_cons ?_)))))))))))))
      refine O_read rfl (R_move rfl (P_some rfl (O_cons (O_read rfl (R_move rfl (P_some rfl (O_cons (O_call (all := [.int .i64 (w64 (lo2 + (w64 (Int.tdiv (w64 (hi2 - lo2)) 2)))), .pointer (some ⟨g1, 0, none⟩), .pointer (some ⟨g2, 0, none⟩), .pointer (some ⟨g3, 0, none⟩)]) rfl rfl rfl ?_))))))))
      obtain ⟨r1, hx1, hb283⟩ := obind hb283
      refine scale_True_2_fn  hx1 ((P_some rfl (O_nil (hK296 _ _ _ ?_))))
      refine W_cond_v (b := r1) rfl (fun hc2 => ?_) (fun hc2 => ?_)
      · replace hb283 := cond_t hc2 hb283
        refine WP.region Tt_ok (O_cons (O_read rfl (R_move rfl (P_some rfl (O_cons (O_read rfl (R_sub rfl rfl (P_some rfl (O_cons (O_read rfl (R_assign rfl (P_some rfl (O_nil ?_)))))))))))))
        have e_ := Option.some.inj hb283
        subst e_
        exact ⟨_, rfl, SubFr.of ⟨rfl, rfl, rfl, trivial⟩, SegSub.sel _ [some 0, some 1, some 2] 3, rfl⟩
      replace hb283 := cond_f hc2 hb283
      refine WP.region Tt_ok (O_cons (O_read rfl (R_move rfl (P_some rfl (O_cons (O_read rfl (R_add rfl rfl (P_some rfl (O_cons (O_read rfl (R_assign rfl (P_some rfl (O_nil ?_)))))))))))))
      have e_ := Option.some.inj hb283
      subst e_
      exact ⟨_, rfl, SubFr.of ⟨rfl, rfl, rfl, trivial⟩, SegSub.sel _ [some 0, some 1, some 2] 3, rfl⟩
    replace hb283 := cond_f hc1 hb283
    refine WP.exit (B_here ?_)
    have e_ := Option.some.inj hb283
    subst e_
    have hq_ := hq283 _ rfl
    subst hq_
    exact ⟨lo2, rfl, SubFr.of ⟨rfl, trivial⟩, SegSub.sel _ [some 0, some 1, some 2] 3, rfl⟩
  rintro fr254 μ254 L254 hm254 ⟨lo3, ho254, hF254, hS254, hu254⟩
  subst ho254
  subst hu254
  refine hK253 _ _ _ (WP.at hF254 hS254 (WP.seq_k (fun K312 hK312 => WP.region Tt_ok (O_cons (O_read rfl (R_move rfl (P_some rfl (O_cons (O_read rfl (R_assign rfl (P_some rfl (O_nil (hK312 _ _ _ ?_)))))))))))))
  apply WP.ret
  have e_ := Option.some.inj h
  subst e_
  refine S_tmp rfl (S_nil (Upd.seg (L2 := ([(g1, .cells #[.int .i64 b1.Step, .int .i64 b1.Max, .int .i64 b1.Base, .int .i64 b1.Slope, .int .i64 b1.Drift, .int .i64 b1.Checked] 52 (0, 0))] :: [(g2, .cells #[.int .i64 b2] 3 (0, 0))] :: [(g3, .cells #[.int .i64 b3] 3 (0, 0))] :: L)) (SegSub.trans (SegSub.flat (by simp [selS])) (SegSub.sel _ [some 0, some 1, some 2] 3)) ?_))
  exact Upd.done hR

theorem scale_True_fn {μ : Gh} {L : List Seg} {R : Value → Gh → List Seg → Prop} {F : Nat} {s1 : T_api_Scale} {shown1 : Int} {t1 : Int}  {res1 : T_api_Span} {res2 : Int}
     (h : scale_True F s1 shown1 t1 = some (res1, res2))
    (hR : R (.tuple #[.agg #[.int .i64 res1.Lo, .int .i64 res1.Hi], .int .i64 res2]) μ (L)) :
    Fn Try.prog 43 [.agg #[.int .i64 s1.Step, .int .i64 s1.Max, .int .i64 s1.Base, .int .i64 s1.Slope, .int .i64 s1.Drift, .int .i64 s1.Checked], .int .i64 shown1, .int .i64 t1] μ (L) R := by
  unfold scale_True at h
  refine Fn.of_body Tt_ok Try.func43 (by kernel_rfl) rfl Try.ntmps43 (by simp) ?_
  simp only [Try.f43, argFr, List.zipIdx, List.map, Nat.reduceAdd]
  refine WP.seq_k (fun K137 hK137 => WP.region Tt_ok (O_cons (O_box (cs := #[.int .i64 s1.Step, .int .i64 s1.Max, .int .i64 s1.Base, .int .i64 s1.Slope, .int .i64 s1.Drift, .int .i64 s1.Checked]) rfl rfl (fun g1 => P_some rfl (O_cons (O_box (cs := #[.int .i64 shown1]) rfl rfl (fun g2 => P_some rfl (O_cons (O_box (cs := #[.int .i64 t1]) rfl rfl (fun g3 => P_some rfl (O_cons (O_alloc (cs := #[.int .i64 0, .int .i64 0]) rfl rfl (fun g4 => P_some rfl ?_)))))))))))))
  refine O_cons (O_read rfl (R_assign rfl (P_some rfl (O_nil (hK137 _ _ _ (WP.seq_k (fun K142 hK142 => WP.seq_k (fun K143 hK143 => ?_))))))))
  obtain ⟨o144, h144, h⟩ := obind h
  refine WP.cutK (fun fr_ μ_ L_ => ∃ (v1 : Bool), v1 = o144 ∧ SubFr [(3, .pointer (some ⟨g1, 0, none⟩)), (4, .pointer (some ⟨g2, 0, none⟩)), (5, .pointer (some ⟨g3, 0, none⟩)), (6, .pointer (some ⟨g4, 0, none⟩)), (23, .bool v1)] fr_ ∧ SegSub ([(g1, .cells #[.int .i64 s1.Step, .int .i64 s1.Max, .int .i64 s1.Base, .int .i64 s1.Slope, .int .i64 s1.Drift, .int .i64 s1.Checked] 52 (0, 0))] :: [(g2, .cells #[.int .i64 shown1] 3 (0, 0))] :: [(g3, .cells #[.int .i64 t1] 3 (0, 0))] :: [(g4, .cells #[.int .i64 0, .int .i64 0] 31 (0, 0))] :: L) L_ ∧ μ = μ_) ?_ ?_
  · refine WP.region Tt_ok (O_cons (O_read rfl (R_loadA rfl rfl rfl rfl (LA_ (vs := [.int .i64 s1.Step, .int .i64 s1.Max, .int .i64 s1.Base, .int .i64 s1.Slope, .int .i64 s1.Drift, .int .i64 s1.Checked]) 3 0 rfl rfl rfl rfl (P_some rfl (O_cons (O_call (all := [.agg #[.int .i64 s1.Step, .int .i64 s1.Max, .int .i64 s1.Base, .int .i64 s1.Slope, .int .i64 s1.Drift, .int .i64 s1.Checked]]) rfl rfl rfl ?_)))))))
    obtain ⟨r1, hx1, h144⟩ := obind h144
    refine scale_Check_fn  hx1 ((P_some rfl (O_cons (O_read rfl (R_neqD rfl rfl (P_some rfl (O_cons (O_read rfl (R_move rfl (P_some rfl ?_))))))))))
    refine O_gv (z := !(decide (r1 = 0))) rfl rfl (fun hc1 => ?_) (fun hc1 => ?_)
    · replace h144 := cond_f hc1 h144
      refine O_read rfl (R_loadA rfl rfl rfl rfl (LA_ (vs := [.int .i64 s1.Step, .int .i64 s1.Max, .int .i64 s1.Base, .int .i64 s1.Slope, .int .i64 s1.Drift, .int .i64 s1.Checked]) 3 0 rfl rfl rfl rfl (P_some rfl (O_gY rfl rfl hc1 (O_read rfl (R_load rfl rfl rfl (Ex.mk _ (Cell.seg 2 0 rfl rfl rfl) (P_some rfl (O_gY rfl rfl hc1 (O_call (all := [.agg #[.int .i64 s1.Step, .int .i64 s1.Max, .int .i64 s1.Base, .int .i64 s1.Slope, .int .i64 s1.Drift, .int .i64 s1.Checked], .int .i64 shown1]) rfl rfl rfl ?_))))))))))
      obtain ⟨r2, hx2, h144⟩ := obind h144
      refine scale_shows_fn  hx2 ((P_some rfl (O_gY rfl rfl hc1 (O_read rfl (R_not rfl (P_some rfl (O_cons (O_read rfl (R_pick_F rfl hc1 rfl (P_some rfl (O_cons (O_read rfl (R_move rfl (P_some rfl ?_))))))))))))))
      refine O_gv (z := !r2) rfl rfl (fun hc2 => ?_) (fun hc2 => ?_)
      · replace h144 := cond_f hc2 h144
        refine O_read rfl (R_load rfl rfl rfl (Ex.mk _ (Cell.seg 1 0 rfl rfl rfl) (P_some rfl (O_gY rfl rfl hc2 (O_call (all := [.int .i64 0, .int .i64 t1, .int .i64 3155759999]) rfl rfl rfl ?_)))))
        obtain ⟨r3, hx3, h144⟩ := obind h144
        refine scale_between_fn  hx3 ((P_some rfl (O_gY rfl rfl hc2 (O_read rfl (R_not rfl (P_some rfl (O_cons (O_read rfl (R_pick_F rfl hc2 rfl (P_some rfl (O_nil ?_)))))))))))
        have e_ := Option.some.inj h144
        subst e_
        exact ⟨!r3, rfl, SubFr.of ⟨rfl, rfl, rfl, rfl, rfl, trivial⟩, SegSub.sel _ [some 3, some 2, some 1, some 0] 4, rfl⟩
      replace h144 := cond_t hc2 h144
      refine P_some rfl (O_gN rfl rfl hc2 (P_some rfl (O_gN rfl rfl hc2 (P_some rfl (O_cons (O_read rfl (R_pick_T rfl hc2 rfl (P_some rfl (O_nil ?_)))))))))
      have e_ := Option.some.inj h144
      subst e_
      exact ⟨true, rfl, SubFr.of ⟨rfl, rfl, rfl, rfl, rfl, trivial⟩, SegSub.sel _ [some 3, some 2, some 1, some 0] 4, rfl⟩
    replace h144 := cond_t hc1 h144
    refine P_some rfl (O_gN rfl rfl hc1 (P_some rfl (O_gN rfl rfl hc1 (P_some rfl (O_gN rfl rfl hc1 (P_some rfl (O_cons (O_read rfl (R_pick_T rfl hc1 rfl (P_some rfl (O_cons (O_read rfl (R_move rfl ?_)))))))))))))
    refine P_some rfl (O_gN rfl rfl rfl (P_some rfl (O_gN rfl rfl rfl (P_some rfl (O_gN rfl rfl rfl (P_some rfl (O_cons (O_read rfl (R_pick_T rfl rfl rfl (P_some rfl (O_nil ?_)))))))))))
    have e_ := Option.some.inj h144
    subst e_
    exact ⟨true, rfl, SubFr.of ⟨rfl, rfl, rfl, rfl, rfl, trivial⟩, SegSub.sel _ [some 3, some 2, some 1, some 0] 4, rfl⟩
  rintro fr144 μ144 L144 hm144 ⟨v1, ho144, hF144, hS144, hu144⟩
  subst ho144
  subst hu144
  refine hK143 _ _ _ (WP.at hF144 hS144 ?_)
  refine W_cond_v (b := v1) rfl (fun hc3 => ?_) (fun hc3 => ?_)
  · replace h := cond_t hc3 h
    refine WP.seq_k (fun K157 hK157 => WP.region Tt_ok (O_cons (O_read rfl (R_build rfl rfl rfl rfl (F_nil (P_some rfl (O_cons (O_store (vs := [.int .i64 0, .int .i64 0]) rfl rfl rfl rfl rfl rfl (ST_ (L' := ([(g1, .cells #[.int .i64 s1.Step, .int .i64 s1.Max, .int .i64 s1.Base, .int .i64 s1.Slope, .int .i64 s1.Drift, .int .i64 s1.Checked] 52 (0, 0))] :: [(g2, .cells #[.int .i64 shown1] 3 (0, 0))] :: [(g3, .cells #[.int .i64 t1] 3 (0, 0))] :: [(g4, .cells #[.int .i64 0, .int .i64 0] 31 (0, 0))] :: L)) 3 0 rfl rfl rfl rfl (P_none (O_cons (O_read rfl (R_assign rfl ?_)))))))))))))
    refine P_some rfl (O_nil (hK157 _ _ _ (WP.ret ?_)))
    have e_ := Option.some.inj h
    obtain ⟨e0a_, e0b_⟩ := Prod.mk.inj e_
    clear e_
    subst e0a_
    subst e0b_
    refine S_cell rfl rfl rfl rfl (LA_ (vs := [.int .i64 0, .int .i64 0]) 3 0 rfl rfl rfl rfl (S_tmp rfl (S_nil (Upd.selS [] 4 ?_))))
    exact Upd.done hR
  replace h := cond_f hc3 h
  refine WP.skip (hK142 _ _ _ (WP.seq_k (fun K159 hK159 => WP.seq_k (fun K160 hK160 => WP.region Tt_ok (O_cons (O_read rfl (R_load rfl rfl rfl (Ex.mk _ (Cell.seg 2 0 rfl rfl rfl) (P_some rfl (O_cons (O_read rfl (R_fa0 (o' := 5) rfl rfl rfl rfl rfl rfl (P_some rfl ?_)))))))))))))
  refine O_cons (O_read rfl (R_load rfl rfl rfl (Ex.mk _ (Cell.seg 0 0 rfl rfl rfl) (P_some rfl (O_cons (O_read rfl (R_lssD rfl rfl (P_some rfl (O_nil (hK160 _ _ _ ?_))))))))))
  refine W_cond_v (b := (decide (t1 < s1.Checked))) rfl (fun hc4 => ?_) (fun hc4 => ?_)
  · replace h := cond_t hc4 h
    refine WP.seq_k (fun K161 hK161 => WP.region Tt_ok (O_cons (O_read rfl (R_build rfl rfl rfl rfl (F_nil (P_some rfl (O_cons (O_store (vs := [.int .i64 0, .int .i64 0]) rfl rfl rfl rfl rfl rfl (ST_ (L' := ([(g1, .cells #[.int .i64 s1.Step, .int .i64 s1.Max, .int .i64 s1.Base, .int .i64 s1.Slope, .int .i64 s1.Drift, .int .i64 s1.Checked] 52 (0, 0))] :: [(g2, .cells #[.int .i64 shown1] 3 (0, 0))] :: [(g3, .cells #[.int .i64 t1] 3 (0, 0))] :: [(g4, .cells #[.int .i64 0, .int .i64 0] 31 (0, 0))] :: L)) 3 0 rfl rfl rfl rfl (P_none (O_cons (O_read rfl (R_assign rfl ?_)))))))))))))
    refine P_some rfl (O_nil (hK161 _ _ _ (WP.ret ?_)))
    have e_ := Option.some.inj h
    obtain ⟨e0a_, e0b_⟩ := Prod.mk.inj e_
    clear e_
    subst e0a_
    subst e0b_
    refine S_cell rfl rfl rfl rfl (LA_ (vs := [.int .i64 0, .int .i64 0]) 3 0 rfl rfl rfl rfl (S_tmp rfl (S_nil (Upd.selS [] 4 ?_))))
    exact Upd.done hR
  replace h := cond_f hc4 h
  refine WP.skip (hK159 _ _ _ (WP.seq_k (fun K163 hK163 => WP.region Tt_ok (O_cons (O_read rfl (R_load rfl rfl rfl (Ex.mk _ (Cell.seg 1 0 rfl rfl rfl) (P_some rfl (O_cons (O_read rfl (R_mkf rfl rfl (P_some rfl (O_cons ?_)))))))))))))
  apply O_call (all := [.int .i64 0, .int .i64 shown1, .func (.func 58) #[] #[.pointer (some ⟨g1, 0, none⟩), .pointer (some ⟨g2, 0, none⟩), .pointer (some ⟨g3, 0, none⟩)]]); exact rfl; exact rfl; exact rfl
  obtain ⟨r4, hx4, h⟩ := obind h
  refine scale_first_c58_fn  hx4 ((P_some rfl (O_cons (O_read rfl (R_assign rfl (P_some rfl (O_nil (hK163 _ _ _ (WP.seq_k (fun K248 hK248 => WP.region Tt_ok (O_cons (O_read rfl (R_load rfl rfl rfl (Ex.mk _ (Cell.seg 1 0 rfl rfl rfl) ?_))))))))))))))
  refine P_some rfl (O_cons (O_read rfl (R_mkf rfl rfl (P_some rfl (O_cons (O_call (all := [.int .i64 shown1, .int .i64 1073741824, .func (.func 59) #[] #[.pointer (some ⟨g1, 0, none⟩), .pointer (some ⟨g2, 0, none⟩), .pointer (some ⟨g3, 0, none⟩)]]) rfl rfl rfl ?_))))))
  obtain ⟨r5, hx5, h⟩ := obind h
  refine scale_first_c59_fn  hx5 ((P_some rfl (O_cons (O_read rfl (R_sub rfl rfl (P_some rfl (O_cons (O_read rfl (R_assign rfl (P_some rfl (O_nil (hK248 _ _ _ (WP.seq_k (fun K325 hK325 => WP.region Tt_ok ?_))))))))))))))
  refine O_cons (O_read rfl (R_move rfl (P_some rfl (O_cons (O_read rfl (R_move rfl (P_some rfl (O_cons (O_read rfl (R_build rfl rfl rfl rfl (F_cons (cells' := [.int .i64 r4, .int .i64 0]) rfl rfl rfl rfl (F_cons (cells' := [.int .i64 r4, .int .i64 (w64 (r5 - 1))]) rfl rfl rfl rfl (F_nil ?_)))))))))))))
  refine P_some rfl (O_cons (O_store (vs := [.int .i64 r4, .int .i64 (w64 (r5 - 1))]) rfl rfl rfl rfl rfl rfl (ST_ (L' := ([(g1, .cells #[.int .i64 s1.Step, .int .i64 s1.Max, .int .i64 s1.Base, .int .i64 s1.Slope, .int .i64 s1.Drift, .int .i64 s1.Checked] 52 (0, 0))] :: [(g2, .cells #[.int .i64 shown1] 3 (0, 0))] :: [(g3, .cells #[.int .i64 t1] 3 (0, 0))] :: [(g4, .cells #[.int .i64 r4, .int .i64 (w64 (r5 - 1))] 31 (0, 0))] :: L)) 3 0 rfl rfl rfl rfl (P_none (O_cons (O_read rfl (R_assign rfl (P_some rfl (O_nil (hK325 _ _ _ (WP.ret ?_)))))))))))
  have e_ := Option.some.inj h
  obtain ⟨e0a_, e0b_⟩ := Prod.mk.inj e_
  clear e_
  subst e0a_
  subst e0b_
  refine S_cell rfl rfl rfl rfl (LA_ (vs := [.int .i64 r4, .int .i64 (w64 (r5 - 1))]) 3 0 rfl rfl rfl rfl (S_tmp rfl (S_nil (Upd.selS [] 4 ?_))))
  exact Upd.done hR

theorem ticket_weighed_fn {μ : Gh} {L : List Seg} {R : Value → Gh → List Seg → Prop} {F : Nat} {s1 : (List T_api_Scale)} {x1 : T_api_Ticket} {A1 : Option Addr} {c1 : Nat} {res1 : T_api_Span} {res2 : T_api_Span} {res3 : Int}
    (hl1 : s1.length ≤ c1 ∧ c1 ≤ maxLen) (hA1 : Rds r_api_Scale μ L A1 s1) (h : ticket_weighed F s1 x1 = some (res1, res2, res3))
    (hR : R (.tuple #[.agg #[.int .i64 res1.Lo, .int .i64 res1.Hi], .agg #[.int .i64 res2.Lo, .int .i64 res2.Hi], .int .i64 res3]) μ (L)) :
    Fn Try.prog 27 [.slice A1 s1.length c1, .agg #[.int .i64 x1.ID, .int .i64 x1.Scale, .int .i64 x1.At, .int .i64 x1.Gross, .int .i64 x1.Tare, .int .i64 x1.Replaces]] μ (L) R := by
  unfold ticket_weighed at h
  refine Fn.of_body Tt_ok Try.func27 (by kernel_rfl) rfl Try.ntmps27 (by simp) ?_
  simp only [Try.f27, argFr, List.zipIdx, List.map, Nat.reduceAdd]
  refine WP.seq_k (fun K68 hK68 => WP.region Tt_ok (O_cons (O_box (cs := #[.int .i64 x1.ID, .int .i64 x1.Scale, .int .i64 x1.At, .int .i64 x1.Gross, .int .i64 x1.Tare, .int .i64 x1.Replaces]) rfl rfl (fun g1 => P_some rfl (O_cons (O_alloc (cs := #[.int .i64 0, .int .i64 0]) rfl rfl (fun g2 => P_some rfl (O_cons (O_alloc (cs := #[.int .i64 0, .int .i64 0]) rfl rfl (fun g3 => P_some rfl (O_cons (O_read rfl (R_assign rfl ?_)))))))))))))
  refine P_some rfl (O_nil (hK68 _ _ _ (WP.seq_k (fun K72 hK72 => WP.block (WP.seq_k (fun K73 hK73 => ?_))))))
  obtain ⟨o74, h74, h⟩ := obind h
  refine WP.cutK (fun fr_ μ_ L_ => ∃ (v1 : Bool), v1 = o74 ∧ SubFr [(0, .slice A1 s1.length c1), (3, .pointer (some ⟨g1, 0, none⟩)), (4, .pointer (some ⟨g2, 0, none⟩)), (5, .pointer (some ⟨g3, 0, none⟩)), (7, .bool v1)] fr_ ∧ SegSub ([(g1, .cells #[.int .i64 x1.ID, .int .i64 x1.Scale, .int .i64 x1.At, .int .i64 x1.Gross, .int .i64 x1.Tare, .int .i64 x1.Replaces] 29 (0, 0))] :: [(g2, .cells #[.int .i64 0, .int .i64 0] 31 (0, 0))] :: [(g3, .cells #[.int .i64 0, .int .i64 0] 31 (0, 0))] :: L) L_ ∧ μ = μ_) ?_ ?_
  · refine WP.region Tt_ok (O_cons (O_read rfl (R_fa0 (o' := 0) rfl rfl rfl rfl rfl rfl (P_some rfl (O_cons (O_read rfl (R_load rfl rfl rfl (Ex.mk _ (Cell.seg 2 0 rfl rfl rfl) (P_some rfl (O_cons (O_read rfl (R_lssD rfl rfl (P_some rfl ?_)))))))))))))
    refine O_cons (O_read rfl (R_move rfl (P_some rfl ?_)))
    refine O_gv (z := (decide (x1.ID < 1))) rfl rfl (fun hc1 => ?_) (fun hc1 => ?_)
    · replace h74 := cond_f hc1 h74
      refine O_read rfl (R_fa0 (o' := 0) rfl rfl rfl rfl rfl rfl (P_some rfl (O_gY rfl rfl hc1 (O_read rfl (R_load rfl rfl rfl (Ex.mk _ (Cell.seg 2 0 rfl rfl rfl) (P_some rfl (O_gY rfl rfl hc1 (O_read rfl (R_gtrD rfl rfl (P_some rfl (O_cons (O_read rfl ?_)))))))))))))
      refine R_pick_F rfl hc1 rfl (P_some rfl (O_cons (O_read rfl (R_assign rfl (P_some rfl (O_nil ?_))))))
      have e_ := Option.some.inj h74
      subst e_
      exact ⟨(decide (1000000 < x1.ID)), rfl, SubFr.of ⟨rfl, rfl, rfl, rfl, rfl, trivial⟩, SegSub.sel _ [some 2, some 1, some 0] 3, rfl⟩
    replace h74 := cond_t hc1 h74
    refine P_some rfl (O_gN rfl rfl hc1 (P_some rfl (O_gN rfl rfl hc1 (P_some rfl (O_cons (O_read rfl (R_pick_T rfl hc1 rfl (P_some rfl (O_cons (O_read rfl (R_assign rfl (P_some rfl (O_nil ?_)))))))))))))
    have e_ := Option.some.inj h74
    subst e_
    exact ⟨true, rfl, SubFr.of ⟨rfl, rfl, rfl, rfl, rfl, trivial⟩, SegSub.sel _ [some 2, some 1, some 0] 3, rfl⟩
  rintro fr74 μ74 L74 hm74 ⟨v1, ho74, hF74, hS74, hu74⟩
  subst ho74
  subst hu74
  refine hK73 _ _ _ (WP.at hF74 hS74 ?_)
  refine W_cond_v (b := v1) rfl (fun hc2 => ?_) (fun hc2 => ?_)
  · replace h := cond_t hc2 h
    refine WP.seq_k (fun K81 hK81 => WP.drawn (id := 2) (l' := List.replicate 5 true) wide Tt_ok _ Kept.refl [(true, 0), (true, 1), (false, 2), (false, 3), (true, 4)] (by kernel_rfl) (by kernel_rfl) rfl (PL_t rfl (R_loadA rfl rfl rfl rfl (LA_ (vs := [.int .i64 0, .int .i64 0]) 1 0 rfl rfl rfl rfl (P_some rfl (PL_t rfl (R_loadA rfl rfl rfl rfl (LA_ (vs := [.int .i64 0, .int .i64 0]) 2 0 rfl rfl rfl rfl (P_some rfl (PL_f rfl (O_store (vs := [.int .i64 0, .int .i64 0]) rfl rfl rfl rfl rfl rfl (ST_ (L' := ([(g1, .cells #[.int .i64 x1.ID, .int .i64 x1.Scale, .int .i64 x1.At, .int .i64 x1.Gross, .int .i64 x1.Tare, .int .i64 x1.Replaces] 29 (0, 0))] :: [(g2, .cells #[.int .i64 0, .int .i64 0] 31 (0, 0))] :: [(g3, .cells #[.int .i64 0, .int .i64 0] 31 (0, 0))] :: L)) 1 0 rfl rfl rfl rfl ?_))))))))))))
    refine ⟨Kept.refl, ?_⟩
    refine P_none (PL_f rfl (O_store (vs := [.int .i64 0, .int .i64 0]) rfl rfl rfl rfl rfl rfl (ST_ (L' := ([(g1, .cells #[.int .i64 x1.ID, .int .i64 x1.Scale, .int .i64 x1.At, .int .i64 x1.Gross, .int .i64 x1.Tare, .int .i64 x1.Replaces] 29 (0, 0))] :: [(g2, .cells #[.int .i64 0, .int .i64 0] 31 (0, 0))] :: [(g3, .cells #[.int .i64 0, .int .i64 0] 31 (0, 0))] :: L)) 2 0 rfl rfl rfl rfl ?_)))
    refine ⟨Kept.refl, ?_⟩
    refine P_none (PL_t rfl (R_assign rfl (P_some rfl (PL_nil (AN.done0 (by kernel_rfl) (hK81 _ _ _ (WP.ret ?_)))))))
    have e_ := Option.some.inj h
    obtain ⟨e0a_, e0b_⟩ := Prod.mk.inj e_
    clear e_
    subst e0a_
    obtain ⟨e1a_, e1b_⟩ := Prod.mk.inj e0b_
    clear e0b_
    subst e1a_
    subst e1b_
    refine S_cell rfl rfl rfl rfl (LA_ (vs := [.int .i64 0, .int .i64 0]) 1 0 rfl rfl rfl rfl (S_cell rfl rfl rfl rfl (LA_ (vs := [.int .i64 0, .int .i64 0]) 2 0 rfl rfl rfl rfl (S_tmp rfl (S_nil (Upd.selS [] 3 ?_))))))
    exact Upd.done hR
  replace h := cond_f hc2 h
  refine WP.seq_k ?_; intro K94 hK94
  obtain ⟨o95, h95, h⟩ := obind h
  refine WP.cutK (fun fr_ μ_ L_ => ∃ (v2 : Bool), v2 = o95 ∧ SubFr [(0, .slice A1 s1.length c1), (3, .pointer (some ⟨g1, 0, none⟩)), (4, .pointer (some ⟨g2, 0, none⟩)), (5, .pointer (some ⟨g3, 0, none⟩)), (18, .bool v2)] fr_ ∧ SegSub ([(g1, .cells #[.int .i64 x1.ID, .int .i64 x1.Scale, .int .i64 x1.At, .int .i64 x1.Gross, .int .i64 x1.Tare, .int .i64 x1.Replaces] 29 (0, 0))] :: [(g2, .cells #[.int .i64 0, .int .i64 0] 31 (0, 0))] :: [(g3, .cells #[.int .i64 0, .int .i64 0] 31 (0, 0))] :: L) L_ ∧ μ = μ_) ?_ ?_
  · refine WP.region Tt_ok (O_cons (O_read rfl (R_fa0 (o' := 1) rfl rfl rfl rfl rfl rfl (P_some rfl (O_cons (O_read rfl (R_load rfl rfl rfl (Ex.mk _ (Cell.seg 0 0 rfl rfl rfl) (P_some rfl (O_cons (O_read rfl (R_lssD rfl rfl (P_some rfl ?_)))))))))))))
    refine O_cons (O_read rfl (R_move rfl (P_some rfl ?_)))
    refine O_gv (z := (decide (x1.Scale < 0))) rfl rfl (fun hc3 => ?_) (fun hc3 => ?_)
    · replace h95 := cond_f hc3 h95
      refine O_read rfl (R_fa0 (o' := 1) rfl rfl rfl rfl rfl rfl (P_some rfl (O_gY rfl rfl hc3 (O_read rfl (R_load rfl rfl rfl (Ex.mk _ (Cell.seg 0 0 rfl rfl rfl) (P_some rfl (O_gY rfl rfl hc3 (O_read rfl (R_move rfl (P_some rfl (O_gY rfl rfl hc3 (O_read rfl ?_)))))))))))))
      refine R_lenS rfl rfl rfl (P_some rfl (O_gY rfl rfl hc3 (O_read rfl (R_geqD rfl rfl (P_some rfl (O_cons (O_read rfl (R_pick_F rfl hc3 rfl (P_some rfl (O_cons (O_read rfl (R_assign rfl (P_some rfl ?_)))))))))))))
      apply O_nil
      have e_ := Option.some.inj h95
      subst e_
      exact ⟨(decide (((s1.length : Nat) : Int) ≤ x1.Scale)), rfl, SubFr.of ⟨rfl, rfl, rfl, rfl, rfl, trivial⟩, SegSub.sel _ [some 0, some 1, some 2] 3, rfl⟩
    replace h95 := cond_t hc3 h95
    refine P_some rfl (O_gN rfl rfl hc3 (P_some rfl (O_gN rfl rfl hc3 (P_some rfl (O_gN rfl rfl hc3 (P_some rfl (O_gN rfl rfl hc3 (P_some rfl (O_cons (O_read rfl (R_pick_T rfl hc3 rfl (P_some rfl (O_cons ?_)))))))))))))
    refine O_read rfl (R_assign rfl (P_some rfl (O_nil ?_)))
    have e_ := Option.some.inj h95
    subst e_
    exact ⟨true, rfl, SubFr.of ⟨rfl, rfl, rfl, rfl, rfl, trivial⟩, SegSub.sel _ [some 0, some 1, some 2] 3, rfl⟩
  rintro fr95 μ95 L95 hm95 ⟨v2, ho95, hF95, hS95, hu95⟩
  subst ho95
  subst hu95
  refine hK94 _ _ _ (WP.at hF95 hS95 ?_)
  refine W_cond_v (b := v2) rfl (fun hc4 => ?_) (fun hc4 => ?_)
  · replace h := cond_t hc4 h
    refine WP.seq_k (fun K102 hK102 => WP.drawn (id := 4) (l' := List.replicate 5 true) wide Tt_ok _ Kept.refl [(true, 0), (true, 1), (false, 2), (false, 3), (true, 4)] (by kernel_rfl) (by kernel_rfl) rfl (PL_t rfl (R_loadA rfl rfl rfl rfl (LA_ (vs := [.int .i64 0, .int .i64 0]) 1 0 rfl rfl rfl rfl (P_some rfl (PL_t rfl (R_loadA rfl rfl rfl rfl (LA_ (vs := [.int .i64 0, .int .i64 0]) 2 0 rfl rfl rfl rfl (P_some rfl (PL_f rfl (O_store (vs := [.int .i64 0, .int .i64 0]) rfl rfl rfl rfl rfl rfl (ST_ (L' := ([(g1, .cells #[.int .i64 x1.ID, .int .i64 x1.Scale, .int .i64 x1.At, .int .i64 x1.Gross, .int .i64 x1.Tare, .int .i64 x1.Replaces] 29 (0, 0))] :: [(g2, .cells #[.int .i64 0, .int .i64 0] 31 (0, 0))] :: [(g3, .cells #[.int .i64 0, .int .i64 0] 31 (0, 0))] :: L)) 1 0 rfl rfl rfl rfl ?_))))))))))))
    refine ⟨Kept.refl, ?_⟩
    refine P_none (PL_f rfl (O_store (vs := [.int .i64 0, .int .i64 0]) rfl rfl rfl rfl rfl rfl (ST_ (L' := ([(g1, .cells #[.int .i64 x1.ID, .int .i64 x1.Scale, .int .i64 x1.At, .int .i64 x1.Gross, .int .i64 x1.Tare, .int .i64 x1.Replaces] 29 (0, 0))] :: [(g2, .cells #[.int .i64 0, .int .i64 0] 31 (0, 0))] :: [(g3, .cells #[.int .i64 0, .int .i64 0] 31 (0, 0))] :: L)) 2 0 rfl rfl rfl rfl ?_)))
    refine ⟨Kept.refl, ?_⟩
    refine P_none (PL_t rfl (R_assign rfl (P_some rfl (PL_nil (AN.done0 (by kernel_rfl) (hK102 _ _ _ (WP.ret ?_)))))))
    have e_ := Option.some.inj h
    obtain ⟨e0a_, e0b_⟩ := Prod.mk.inj e_
    clear e_
    subst e0a_
    obtain ⟨e1a_, e1b_⟩ := Prod.mk.inj e0b_
    clear e0b_
    subst e1a_
    subst e1b_
    refine S_cell rfl rfl rfl rfl (LA_ (vs := [.int .i64 0, .int .i64 0]) 1 0 rfl rfl rfl rfl (S_cell rfl rfl rfl rfl (LA_ (vs := [.int .i64 0, .int .i64 0]) 2 0 rfl rfl rfl rfl (S_tmp rfl (S_nil (Upd.selS [] 3 ?_))))))
    exact Upd.done hR
  replace h := cond_f hc4 h
  refine WP.seq_k ?_; intro K115 hK115
  obtain ⟨o116, h116, h⟩ := obind h
  refine WP.cutK (fun fr_ μ_ L_ => ∃ (v3 : Bool), v3 = o116 ∧ SubFr [(0, .slice A1 s1.length c1), (3, .pointer (some ⟨g1, 0, none⟩)), (4, .pointer (some ⟨g2, 0, none⟩)), (5, .pointer (some ⟨g3, 0, none⟩)), (31, .bool v3)] fr_ ∧ SegSub ([(g1, .cells #[.int .i64 x1.ID, .int .i64 x1.Scale, .int .i64 x1.At, .int .i64 x1.Gross, .int .i64 x1.Tare, .int .i64 x1.Replaces] 29 (0, 0))] :: [(g2, .cells #[.int .i64 0, .int .i64 0] 31 (0, 0))] :: [(g3, .cells #[.int .i64 0, .int .i64 0] 31 (0, 0))] :: L) L_ ∧ μ = μ_) ?_ ?_
  · refine WP.region Tt_ok (O_cons (O_read rfl (R_fa0 (o' := 2) rfl rfl rfl rfl rfl rfl (P_some rfl (O_cons (O_read rfl (R_load rfl rfl rfl (Ex.mk _ (Cell.seg 0 0 rfl rfl rfl) (P_some rfl (O_cons (O_read rfl (R_lssD rfl rfl (P_some rfl ?_)))))))))))))
    refine O_cons (O_read rfl (R_move rfl (P_some rfl ?_)))
    refine O_gv (z := (decide (x1.At < 0))) rfl rfl (fun hc5 => ?_) (fun hc5 => ?_)
    · replace h116 := cond_f hc5 h116
      refine O_read rfl (R_fa0 (o' := 2) rfl rfl rfl rfl rfl rfl (P_some rfl (O_gY rfl rfl hc5 (O_read rfl (R_load rfl rfl rfl (Ex.mk _ (Cell.seg 0 0 rfl rfl rfl) (P_some rfl (O_gY rfl rfl hc5 (O_read rfl (R_gtrD rfl rfl (P_some rfl (O_cons (O_read rfl ?_)))))))))))))
      refine R_pick_F rfl hc5 rfl (P_some rfl (O_cons (O_read rfl (R_assign rfl (P_some rfl (O_nil ?_))))))
      have e_ := Option.some.inj h116
      subst e_
      exact ⟨(decide (3155759999 < x1.At)), rfl, SubFr.of ⟨rfl, rfl, rfl, rfl, rfl, trivial⟩, SegSub.sel _ [some 0, some 1, some 2] 3, rfl⟩
    replace h116 := cond_t hc5 h116
    refine P_some rfl (O_gN rfl rfl hc5 (P_some rfl (O_gN rfl rfl hc5 (P_some rfl (O_cons (O_read rfl (R_pick_T rfl hc5 rfl (P_some rfl (O_cons (O_read rfl (R_assign rfl (P_some rfl (O_nil ?_)))))))))))))
    have e_ := Option.some.inj h116
    subst e_
    exact ⟨true, rfl, SubFr.of ⟨rfl, rfl, rfl, rfl, rfl, trivial⟩, SegSub.sel _ [some 0, some 1, some 2] 3, rfl⟩
  rintro fr116 μ116 L116 hm116 ⟨v3, ho116, hF116, hS116, hu116⟩
  subst ho116
  subst hu116
  refine hK115 _ _ _ (WP.at hF116 hS116 ?_)
  refine W_cond_v (b := v3) rfl (fun hc6 => ?_) (fun hc6 => ?_)
  · replace h := cond_t hc6 h
    refine WP.seq_k (fun K123 hK123 => WP.drawn (id := 6) (l' := List.replicate 5 true) wide Tt_ok _ Kept.refl [(true, 0), (true, 1), (false, 2), (false, 3), (true, 4)] (by kernel_rfl) (by kernel_rfl) rfl (PL_t rfl (R_loadA rfl rfl rfl rfl (LA_ (vs := [.int .i64 0, .int .i64 0]) 1 0 rfl rfl rfl rfl (P_some rfl (PL_t rfl (R_loadA rfl rfl rfl rfl (LA_ (vs := [.int .i64 0, .int .i64 0]) 2 0 rfl rfl rfl rfl (P_some rfl (PL_f rfl (O_store (vs := [.int .i64 0, .int .i64 0]) rfl rfl rfl rfl rfl rfl (ST_ (L' := ([(g1, .cells #[.int .i64 x1.ID, .int .i64 x1.Scale, .int .i64 x1.At, .int .i64 x1.Gross, .int .i64 x1.Tare, .int .i64 x1.Replaces] 29 (0, 0))] :: [(g2, .cells #[.int .i64 0, .int .i64 0] 31 (0, 0))] :: [(g3, .cells #[.int .i64 0, .int .i64 0] 31 (0, 0))] :: L)) 1 0 rfl rfl rfl rfl ?_))))))))))))
    refine ⟨Kept.refl, ?_⟩
    refine P_none (PL_f rfl (O_store (vs := [.int .i64 0, .int .i64 0]) rfl rfl rfl rfl rfl rfl (ST_ (L' := ([(g1, .cells #[.int .i64 x1.ID, .int .i64 x1.Scale, .int .i64 x1.At, .int .i64 x1.Gross, .int .i64 x1.Tare, .int .i64 x1.Replaces] 29 (0, 0))] :: [(g2, .cells #[.int .i64 0, .int .i64 0] 31 (0, 0))] :: [(g3, .cells #[.int .i64 0, .int .i64 0] 31 (0, 0))] :: L)) 2 0 rfl rfl rfl rfl ?_)))
    refine ⟨Kept.refl, ?_⟩
    refine P_none (PL_t rfl (R_assign rfl (P_some rfl (PL_nil (AN.done0 (by kernel_rfl) (hK123 _ _ _ (WP.ret ?_)))))))
    have e_ := Option.some.inj h
    obtain ⟨e0a_, e0b_⟩ := Prod.mk.inj e_
    clear e_
    subst e0a_
    obtain ⟨e1a_, e1b_⟩ := Prod.mk.inj e0b_
    clear e0b_
    subst e1a_
    subst e1b_
    refine S_cell rfl rfl rfl rfl (LA_ (vs := [.int .i64 0, .int .i64 0]) 1 0 rfl rfl rfl rfl (S_cell rfl rfl rfl rfl (LA_ (vs := [.int .i64 0, .int .i64 0]) 2 0 rfl rfl rfl rfl (S_tmp rfl (S_nil (Upd.selS [] 3 ?_))))))
    exact Upd.done hR
  replace h := cond_f hc6 h
  refine WP.skip (hK72 _ _ _ (WP.seq_k (fun K136 hK136 => WP.drawn (id := 7) (l' := List.replicate 15 true) wide Tt_ok ([(g1, .cells #[.int .i64 x1.ID, .int .i64 x1.Scale, .int .i64 x1.At, .int .i64 x1.Gross, .int .i64 x1.Tare, .int .i64 x1.Replaces] 29 (0, 0))] :: [(g3, .cells #[.int .i64 0, .int .i64 0] 31 (0, 0))] :: L) (Kept.ofT (keep := [[(g1, .cells #[.int .i64 x1.ID, .int .i64 x1.Scale, .int .i64 x1.At, .int .i64 x1.Gross, .int .i64 x1.Tare, .int .i64 x1.Replaces] 29 (0, 0))], [(g3, .cells #[.int .i64 0, .int .i64 0] 31 (0, 0))]]) (A := [[(g1, .cells #[.int .i64 x1.ID, .int .i64 x1.Scale, .int .i64 x1.At, .int .i64 x1.Gross, .int .i64 x1.Tare, .int .i64 x1.Replaces] 29 (0, 0))], [(g2, .cells #[.int .i64 0, .int .i64 0] 31 (0, 0))], [(g3, .cells #[.int .i64 0, .int .i64 0] 31 (0, 0))]]) (by simp)) [(true, 0), (true, 1), (true, 2), (true, 3), (true, 4), (true, 5), (true, 6), (true, 7), (true, 8), (false, 9), (true, 10), (true, 11), (true, 12), (false, 13), (true, 14)] (by kernel_rfl) (by kernel_rfl) rfl ?_)))
  refine PL_t rfl (R_move rfl (P_some rfl (PL_t rfl (R_fa0 (o' := 1) rfl rfl rfl rfl rfl rfl (P_some rfl (PL_t rfl (R_load rfl rfl rfl (Ex.mk _ (Cell.seg 0 0 rfl rfl rfl) (P_some rfl (PL_t rfl ?_))))))))))
  obtain ⟨x2, hx1, h⟩ := obind h
  obtain ⟨a1, cs1, hA2, hr1, _, hc7⟩ := Rds.getI hA1 hx1
  obtain rfl := hr1
  refine R_iaG rfl rfl rfl rfl rfl rfl ⟨(getI_lt hx1).1, (getI_lt hx1).2.1⟩ hA2 (P_some rfl (PL_t rfl (R_loadA rfl rfl rfl rfl (Ex.mk [.int .i64 x2.Step, .int .i64 x2.Max, .int .i64 x2.Base, .int .i64 x2.Slope, .int .i64 x2.Drift, .int .i64 x2.Checked] ⟨rfl, (hc7.push.push)⟩ (P_some rfl (PL_t rfl (R_fa0 (o' := 3) rfl rfl rfl rfl rfl rfl (P_some rfl (PL_t rfl (R_load rfl rfl rfl (Ex.mk _ (Cell.seg 0 0 rfl rfl rfl) (P_some rfl (PL_t rfl ?_)))))))))))))
  refine R_fa0 (o' := 2) rfl rfl rfl rfl rfl rfl (P_some rfl (PL_t rfl (R_load rfl rfl rfl (Ex.mk _ (Cell.seg 0 0 rfl rfl rfl) (P_some rfl (PL_f rfl (O_call (all := [.agg #[.int .i64 x2.Step, .int .i64 x2.Max, .int .i64 x2.Base, .int .i64 x2.Slope, .int .i64 x2.Drift, .int .i64 x2.Checked], .int .i64 x1.Gross, .int .i64 x1.At]) rfl rfl rfl ?_)))))))
  obtain ⟨⟨r1, r2⟩, hx2, h⟩ := obind h
  replace h := oun_mk h
  refine scale_True_fn  hx2 (?_)
  refine ⟨Kept.ofT (keep := [[(g1, .cells #[.int .i64 x1.ID, .int .i64 x1.Scale, .int .i64 x1.At, .int .i64 x1.Gross, .int .i64 x1.Tare, .int .i64 x1.Replaces] 29 (0, 0))], [(g3, .cells #[.int .i64 0, .int .i64 0] 31 (0, 0))]]) (A := [[(g1, .cells #[.int .i64 x1.ID, .int .i64 x1.Scale, .int .i64 x1.At, .int .i64 x1.Gross, .int .i64 x1.Tare, .int .i64 x1.Replaces] 29 (0, 0))], [(g2, .cells #[.int .i64 0, .int .i64 0] 31 (0, 0))], [(g3, .cells #[.int .i64 0, .int .i64 0] 31 (0, 0))]]) (by simp), ?_⟩
  refine P_some rfl (PL_t rfl (R_move rfl (P_some rfl (PL_t rfl (R_ext rfl rfl (P_some rfl (PL_t rfl (R_ext rfl rfl (P_some rfl (PL_f rfl (O_store (vs := [.int .i64 r1.Lo, .int .i64 r1.Hi]) rfl rfl rfl rfl rfl rfl (ST_ (L' := ([(g1, .cells #[.int .i64 x1.ID, .int .i64 x1.Scale, .int .i64 x1.At, .int .i64 x1.Gross, .int .i64 x1.Tare, .int .i64 x1.Replaces] 29 (0, 0))] :: [(g2, .cells #[.int .i64 r1.Lo, .int .i64 r1.Hi] 31 (0, 0))] :: [(g3, .cells #[.int .i64 0, .int .i64 0] 31 (0, 0))] :: L)) 1 0 rfl rfl rfl rfl ?_))))))))))))
  refine ⟨Kept.ofT (keep := [[(g1, .cells #[.int .i64 x1.ID, .int .i64 x1.Scale, .int .i64 x1.At, .int .i64 x1.Gross, .int .i64 x1.Tare, .int .i64 x1.Replaces] 29 (0, 0))], [(g3, .cells #[.int .i64 0, .int .i64 0] 31 (0, 0))]]) (A := [[(g1, .cells #[.int .i64 x1.ID, .int .i64 x1.Scale, .int .i64 x1.At, .int .i64 x1.Gross, .int .i64 x1.Tare, .int .i64 x1.Replaces] 29 (0, 0))], [(g2, .cells #[.int .i64 r1.Lo, .int .i64 r1.Hi] 31 (0, 0))], [(g3, .cells #[.int .i64 0, .int .i64 0] 31 (0, 0))]]) (by simp), ?_⟩
  refine P_none (PL_t rfl (R_assign rfl (P_some rfl (PL_nil (AN.done0 (by kernel_rfl) (hK136 _ _ _ (WP.seq_k (fun K333 hK333 => WP.seq_k (fun K334 hK334 => WP.region Tt_ok (O_cons (O_read rfl (R_move rfl (P_some rfl ?_)))))))))))))
  refine O_cons (O_read rfl (R_eqlD rfl rfl (P_some rfl (O_nil (hK334 _ _ _ ?_)))))
  obtain ⟨o335, h335, h⟩ := obind h
  refine WP.cutK (fun fr_ μ_ L_ => ∃ (f1 : Int) (f2 : Int) (e1 : Int), (f1, f2, e1) = o335 ∧ SubFr [(3, .pointer (some ⟨g1, 0, none⟩)), (4, .pointer (some ⟨g2, 0, none⟩)), (5, .pointer (some ⟨g3, 0, none⟩)), (6, .int .i64 e1)] fr_ ∧ SegSub ([(g1, .cells #[.int .i64 x1.ID, .int .i64 x1.Scale, .int .i64 x1.At, .int .i64 x1.Gross, .int .i64 x1.Tare, .int .i64 x1.Replaces] 29 (0, 0))] :: [(g2, .cells #[.int .i64 r1.Lo, .int .i64 r1.Hi] 31 (0, 0))] :: [(g3, .cells #[.int .i64 f1, .int .i64 f2] 31 (0, 0))] :: L) L_ ∧ μ = μ_) ?_ ?_
  · refine W_cond_v (b := (decide (r2 = 0))) rfl (fun hc8 => ?_) (fun hc8 => ?_)
    · replace h335 := cond_t hc8 h335
      refine WP.drawn (id := 9) (l' := List.replicate 15 true) wide Tt_ok ([(g1, .cells #[.int .i64 x1.ID, .int .i64 x1.Scale, .int .i64 x1.At, .int .i64 x1.Gross, .int .i64 x1.Tare, .int .i64 x1.Replaces] 29 (0, 0))] :: [(g2, .cells #[.int .i64 r1.Lo, .int .i64 r1.Hi] 31 (0, 0))] :: L) (Kept.ofT (keep := [[(g1, .cells #[.int .i64 x1.ID, .int .i64 x1.Scale, .int .i64 x1.At, .int .i64 x1.Gross, .int .i64 x1.Tare, .int .i64 x1.Replaces] 29 (0, 0))], [(g2, .cells #[.int .i64 r1.Lo, .int .i64 r1.Hi] 31 (0, 0))]]) (A := [[(g1, .cells #[.int .i64 x1.ID, .int .i64 x1.Scale, .int .i64 x1.At, .int .i64 x1.Gross, .int .i64 x1.Tare, .int .i64 x1.Replaces] 29 (0, 0))], [(g2, .cells #[.int .i64 r1.Lo, .int .i64 r1.Hi] 31 (0, 0))], [(g3, .cells #[.int .i64 0, .int .i64 0] 31 (0, 0))]]) (by simp)) [(true, 0), (true, 1), (true, 2), (true, 3), (true, 4), (true, 5), (true, 6), (true, 7), (true, 8), (false, 9), (true, 10), (true, 11), (true, 12), (false, 13), (true, 14)] (by kernel_rfl) (by kernel_rfl) rfl ?_
      refine PL_t rfl (R_move rfl (P_some rfl (PL_t rfl (R_fa0 (o' := 1) rfl rfl rfl rfl rfl rfl (P_some rfl (PL_t rfl (R_load rfl rfl rfl (Ex.mk _ (Cell.seg 0 0 rfl rfl rfl) (P_some rfl (PL_t rfl ?_))))))))))
      obtain ⟨x3, hx3, h335⟩ := obind h335
      obtain ⟨a2, cs2, hA3, hr2, _, hc9⟩ := Rds.getI hA1 hx3
      obtain rfl := hr2
      refine R_iaG rfl rfl rfl rfl rfl rfl ⟨(getI_lt hx3).1, (getI_lt hx3).2.1⟩ hA3 (P_some rfl (PL_t rfl (R_loadA rfl rfl rfl rfl (Ex.mk [.int .i64 x3.Step, .int .i64 x3.Max, .int .i64 x3.Base, .int .i64 x3.Slope, .int .i64 x3.Drift, .int .i64 x3.Checked] ⟨rfl, (hc9.push.push)⟩ (P_some rfl (PL_t rfl (R_fa0 (o' := 4) rfl rfl rfl rfl rfl rfl (P_some rfl (PL_t rfl (R_load rfl rfl rfl (Ex.mk _ (Cell.seg 0 0 rfl rfl rfl) (P_some rfl (PL_t rfl ?_)))))))))))))
      refine R_fa0 (o' := 2) rfl rfl rfl rfl rfl rfl (P_some rfl (PL_t rfl (R_load rfl rfl rfl (Ex.mk _ (Cell.seg 0 0 rfl rfl rfl) (P_some rfl (PL_f rfl (O_call (all := [.agg #[.int .i64 x3.Step, .int .i64 x3.Max, .int .i64 x3.Base, .int .i64 x3.Slope, .int .i64 x3.Drift, .int .i64 x3.Checked], .int .i64 x1.Tare, .int .i64 x1.At]) rfl rfl rfl ?_)))))))
      obtain ⟨⟨r3, r4⟩, hx4, h335⟩ := obind h335
      replace h335 := oun_mk h335
      refine scale_True_fn  hx4 (?_)
      refine ⟨Kept.ofT (keep := [[(g1, .cells #[.int .i64 x1.ID, .int .i64 x1.Scale, .int .i64 x1.At, .int .i64 x1.Gross, .int .i64 x1.Tare, .int .i64 x1.Replaces] 29 (0, 0))], [(g2, .cells #[.int .i64 r1.Lo, .int .i64 r1.Hi] 31 (0, 0))]]) (A := [[(g1, .cells #[.int .i64 x1.ID, .int .i64 x1.Scale, .int .i64 x1.At, .int .i64 x1.Gross, .int .i64 x1.Tare, .int .i64 x1.Replaces] 29 (0, 0))], [(g2, .cells #[.int .i64 r1.Lo, .int .i64 r1.Hi] 31 (0, 0))], [(g3, .cells #[.int .i64 0, .int .i64 0] 31 (0, 0))]]) (by simp), ?_⟩
      refine P_some rfl (PL_t rfl (R_move rfl (P_some rfl (PL_t rfl (R_ext rfl rfl (P_some rfl (PL_t rfl (R_ext rfl rfl (P_some rfl (PL_f rfl (O_store (vs := [.int .i64 r3.Lo, .int .i64 r3.Hi]) rfl rfl rfl rfl rfl rfl (ST_ (L' := ([(g1, .cells #[.int .i64 x1.ID, .int .i64 x1.Scale, .int .i64 x1.At, .int .i64 x1.Gross, .int .i64 x1.Tare, .int .i64 x1.Replaces] 29 (0, 0))] :: [(g2, .cells #[.int .i64 r1.Lo, .int .i64 r1.Hi] 31 (0, 0))] :: [(g3, .cells #[.int .i64 r3.Lo, .int .i64 r3.Hi] 31 (0, 0))] :: L)) 2 0 rfl rfl rfl rfl ?_))))))))))))
      refine ⟨Kept.ofT (keep := [[(g1, .cells #[.int .i64 x1.ID, .int .i64 x1.Scale, .int .i64 x1.At, .int .i64 x1.Gross, .int .i64 x1.Tare, .int .i64 x1.Replaces] 29 (0, 0))], [(g2, .cells #[.int .i64 r1.Lo, .int .i64 r1.Hi] 31 (0, 0))]]) (A := [[(g1, .cells #[.int .i64 x1.ID, .int .i64 x1.Scale, .int .i64 x1.At, .int .i64 x1.Gross, .int .i64 x1.Tare, .int .i64 x1.Replaces] 29 (0, 0))], [(g2, .cells #[.int .i64 r1.Lo, .int .i64 r1.Hi] 31 (0, 0))], [(g3, .cells #[.int .i64 r3.Lo, .int .i64 r3.Hi] 31 (0, 0))]]) (by simp), ?_⟩
      refine P_none (PL_t rfl (R_assign rfl (P_some rfl (PL_nil (AN.done0 (by kernel_rfl) ?_)))))
      have e_ := Option.some.inj h335
      subst e_
      exact ⟨r3.Lo, r3.Hi, r4, rfl, SubFr.of ⟨rfl, rfl, rfl, rfl, trivial⟩, SegSub.sel _ [some 0, some 1, some 2] 3, rfl⟩
    replace h335 := cond_f hc8 h335
    apply WP.skip
    have e_ := Option.some.inj h335
    subst e_
    exact ⟨0, 0, r2, rfl, SubFr.of ⟨rfl, rfl, rfl, rfl, trivial⟩, SegSub.sel _ [some 0, some 1, some 2] 3, rfl⟩
  rintro fr335 μ335 L335 hm335 ⟨f1, f2, e1, ho335, hF335, hS335, hu335⟩
  subst ho335
  replace h := oun_mk h
  replace h := oun_mk h
  subst hu335
  refine hK333 _ _ _ (WP.at hF335 hS335 (WP.seq_k (fun K346 hK346 => WP.seq_k (fun K347 hK347 => ?_))))
  obtain ⟨o348, h348, h⟩ := obind h
  refine WP.cutK (fun fr_ μ_ L_ => ∃ (v4 : Bool), v4 = o348 ∧ SubFr [(4, .pointer (some ⟨g2, 0, none⟩)), (5, .pointer (some ⟨g3, 0, none⟩)), (6, .int .i64 e1), (78, .bool v4)] fr_ ∧ SegSub ([(g2, .cells #[.int .i64 r1.Lo, .int .i64 r1.Hi] 31 (0, 0))] :: [(g3, .cells #[.int .i64 f1, .int .i64 f2] 31 (0, 0))] :: L) L_ ∧ μ = μ_) ?_ ?_
  · refine WP.region Tt_ok (O_cons (O_read rfl (R_move rfl (P_some rfl (O_cons (O_read rfl (R_eqlD rfl rfl (P_some rfl (O_cons (O_read rfl (R_move rfl (P_some rfl ?_))))))))))))
    refine O_gv (z := (decide (e1 = 0))) rfl rfl (fun hc10 => ?_) (fun hc10 => ?_)
    · replace h348 := cond_t hc10 h348
      refine O_read rfl (R_fa0 (o' := 3) rfl rfl rfl rfl rfl rfl (P_some rfl (O_gY rfl rfl hc10 (O_read rfl (R_load rfl rfl rfl (Ex.mk _ (Cell.seg 0 0 rfl rfl rfl) (P_some rfl (O_gY rfl rfl hc10 (O_read rfl (R_fa0 (o' := 4) rfl rfl rfl rfl rfl rfl (P_some rfl (O_gY rfl rfl hc10 (O_read rfl ?_)))))))))))))
      refine R_load rfl rfl rfl (Ex.mk _ (Cell.seg 0 0 rfl rfl rfl) (P_some rfl (O_gY rfl rfl hc10 (O_read rfl (R_lssD rfl rfl (P_some rfl (O_cons (O_read rfl (R_pick_T rfl hc10 rfl (P_some rfl (O_nil ?_)))))))))))
      have e_ := Option.some.inj h348
      subst e_
      exact ⟨(decide (x1.Gross < x1.Tare)), rfl, SubFr.of ⟨rfl, rfl, rfl, rfl, trivial⟩, SegSub.sel _ [some 1, some 2] 3, rfl⟩
    replace h348 := cond_f hc10 h348
    refine P_some rfl (O_gN rfl rfl hc10 (P_some rfl (O_gN rfl rfl hc10 (P_some rfl (O_gN rfl rfl hc10 (P_some rfl (O_gN rfl rfl hc10 (P_some rfl (O_cons (O_read rfl (R_pick_F rfl hc10 rfl (P_some rfl (O_nil ?_)))))))))))))
    have e_ := Option.some.inj h348
    subst e_
    exact ⟨false, rfl, SubFr.of ⟨rfl, rfl, rfl, rfl, trivial⟩, SegSub.sel _ [some 1, some 2] 3, rfl⟩
  rintro fr348 μ348 L348 hm348 ⟨v4, ho348, hF348, hS348, hu348⟩
  subst ho348
  subst hu348
  refine hK347 _ _ _ (WP.at hF348 hS348 ?_)
  obtain ⟨o353, h353, h⟩ := obind h
  refine WP.cutK (fun fr_ μ_ L_ => ∃ (e2 : Int), e2 = o353 ∧ SubFr [(4, .pointer (some ⟨g2, 0, none⟩)), (5, .pointer (some ⟨g3, 0, none⟩)), (6, .int .i64 e2)] fr_ ∧ SegSub ([(g2, .cells #[.int .i64 r1.Lo, .int .i64 r1.Hi] 31 (0, 0))] :: [(g3, .cells #[.int .i64 f1, .int .i64 f2] 31 (0, 0))] :: L) L_ ∧ μ = μ_) ?_ ?_
  · refine W_cond_v (b := v4) rfl (fun hc11 => ?_) (fun hc11 => ?_)
    · replace h353 := cond_t hc11 h353
      refine WP.region Tt_ok (O_cons (O_read rfl (R_assign rfl (P_some rfl (O_nil ?_)))))
      have e_ := Option.some.inj h353
      subst e_
      exact ⟨9, rfl, SubFr.of ⟨rfl, rfl, rfl, trivial⟩, SegSub.sel _ [some 0, some 1] 2, rfl⟩
    replace h353 := cond_f hc11 h353
    apply WP.skip
    have e_ := Option.some.inj h353
    subst e_
    exact ⟨e1, rfl, SubFr.of ⟨rfl, rfl, rfl, trivial⟩, SegSub.sel _ [some 0, some 1] 2, rfl⟩
  rintro fr353 μ353 L353 hm353 ⟨e2, ho353, hF353, hS353, hu353⟩
  subst ho353
  subst hu353
  refine hK346 _ _ _ (WP.at hF353 hS353 (WP.seq_k (fun K358 hK358 => WP.drawn (id := 12) (l' := List.replicate 6 true) wide Tt_ok _ Kept.refl [(true, 0), (true, 1), (true, 2), (false, 3), (false, 4), (true, 5)] (by kernel_rfl) (by kernel_rfl) rfl (PL_t rfl (R_loadA rfl rfl rfl rfl (LA_ (vs := [.int .i64 r1.Lo, .int .i64 r1.Hi]) 0 0 rfl rfl rfl rfl (P_some rfl (PL_t rfl (R_loadA rfl rfl rfl rfl (LA_ (vs := [.int .i64 f1, .int .i64 f2]) 1 0 rfl rfl rfl rfl (P_some rfl (PL_t rfl (R_move rfl ?_)))))))))))))
  refine P_some rfl (PL_f rfl (O_store (vs := [.int .i64 r1.Lo, .int .i64 r1.Hi]) rfl rfl rfl rfl rfl rfl (ST_ (L' := ([(g2, .cells #[.int .i64 r1.Lo, .int .i64 r1.Hi] 31 (0, 0))] :: [(g3, .cells #[.int .i64 f1, .int .i64 f2] 31 (0, 0))] :: L)) 0 0 rfl rfl rfl rfl ?_)))
  refine ⟨Kept.refl, ?_⟩
  refine P_none (PL_f rfl (O_store (vs := [.int .i64 f1, .int .i64 f2]) rfl rfl rfl rfl rfl rfl (ST_ (L' := ([(g2, .cells #[.int .i64 r1.Lo, .int .i64 r1.Hi] 31 (0, 0))] :: [(g3, .cells #[.int .i64 f1, .int .i64 f2] 31 (0, 0))] :: L)) 1 0 rfl rfl rfl rfl ?_)))
  refine ⟨Kept.refl, ?_⟩
  refine P_none (PL_t rfl (R_assign rfl (P_some rfl (PL_nil (AN.done0 (by kernel_rfl) (hK358 _ _ _ (WP.ret ?_)))))))
  have e_ := Option.some.inj h
  obtain ⟨e0a_, e0b_⟩ := Prod.mk.inj e_
  clear e_
  subst e0a_
  obtain ⟨e1a_, e1b_⟩ := Prod.mk.inj e0b_
  clear e0b_
  subst e1a_
  subst e1b_
  refine S_cell rfl rfl rfl rfl (LA_ (vs := [.int .i64 r1.Lo, .int .i64 r1.Hi]) 0 0 rfl rfl rfl rfl (S_cell rfl rfl rfl rfl (LA_ (vs := [.int .i64 f1, .int .i64 f2]) 1 0 rfl rfl rfl rfl (S_tmp rfl (S_nil (Upd.selS [] 2 ?_))))))
  exact Upd.done hR

theorem ticket_Net_fn {μ : Gh} {L : List Seg} {R : Value → Gh → List Seg → Prop} {F : Nat} {s1 : (List T_api_Scale)} {x1 : T_api_Ticket} {A1 : Option Addr} {c1 : Nat} {res1 : T_api_Span} {res2 : Int}
    (hl1 : s1.length ≤ c1 ∧ c1 ≤ maxLen) (hA1 : Rds r_api_Scale μ L A1 s1) (h : ticket_Net F s1 x1 = some (res1, res2))
    (hR : R (.tuple #[.agg #[.int .i64 res1.Lo, .int .i64 res1.Hi], .int .i64 res2]) μ (L)) :
    Fn Try.prog 15 [.slice A1 s1.length c1, .agg #[.int .i64 x1.ID, .int .i64 x1.Scale, .int .i64 x1.At, .int .i64 x1.Gross, .int .i64 x1.Tare, .int .i64 x1.Replaces]] μ (L) R := by
  unfold ticket_Net at h
  refine Fn.of_body Tt_ok Try.func15 (by kernel_rfl) rfl Try.ntmps15 (by simp) ?_
  simp only [Try.f15, argFr, List.zipIdx, List.map, Nat.reduceAdd]
  refine WP.seq_k (fun K19 hK19 => WP.region Tt_ok (O_cons (O_box (cs := #[.int .i64 x1.ID, .int .i64 x1.Scale, .int .i64 x1.At, .int .i64 x1.Gross, .int .i64 x1.Tare, .int .i64 x1.Replaces]) rfl rfl (fun g1 => P_some rfl (O_cons (O_alloc (cs := #[.int .i64 0, .int .i64 0]) rfl rfl (fun g2 => P_some rfl (O_cons (O_read rfl (R_assign rfl (P_some rfl (O_nil (hK19 _ _ _ ?_)))))))))))))
  refine WP.seq_k (fun K22 hK22 => WP.seq_k (fun K23 hK23 => WP.region Tt_ok (O_cons (O_read rfl (R_move rfl (P_some rfl (O_cons (O_call (all := [.slice A1 s1.length c1]) rfl rfl rfl ?_))))))))
  obtain ⟨r1, hx1, h⟩ := obind h
  refine ticket_scales_fn hl1 (Rds.push (Rds.push hA1)) hx1 ((P_some rfl (O_cons (O_read rfl (R_assign rfl (P_some rfl (O_nil (hK23 _ _ _ (WP.seq_k (fun K63 hK63 => WP.region Tt_ok (O_cons (O_read rfl (R_move rfl (P_some rfl ?_))))))))))))))
  refine O_cons (O_read rfl (R_neqD rfl rfl (P_some rfl (O_nil (hK63 _ _ _ ?_)))))
  refine W_cond_v (b := !(decide (r1 = 0))) rfl (fun hc1 => ?_) (fun hc1 => ?_)
  · replace h := cond_t hc1 h
    refine WP.seq_k (fun K64 hK64 => WP.region Tt_ok (O_cons (O_read rfl (R_build rfl rfl rfl rfl (F_nil (P_some rfl (O_cons (O_read rfl (R_move rfl (P_some rfl (O_cons (O_store (vs := [.int .i64 0, .int .i64 0]) rfl rfl rfl rfl rfl rfl (ST_ (L' := ([(g2, .cells #[.int .i64 0, .int .i64 0] 31 (0, 0))] :: [(g1, .cells #[.int .i64 x1.ID, .int .i64 x1.Scale, .int .i64 x1.At, .int .i64 x1.Gross, .int .i64 x1.Tare, .int .i64 x1.Replaces] 29 (0, 0))] :: L)) 0 0 rfl rfl rfl rfl ?_)))))))))))))
    refine P_none (O_cons (O_read rfl (R_assign rfl (P_some rfl (O_nil (hK64 _ _ _ (WP.ret ?_)))))))
    have e_ := Option.some.inj h
    obtain ⟨e0a_, e0b_⟩ := Prod.mk.inj e_
    clear e_
    subst e0a_
    subst e0b_
    refine S_cell rfl rfl rfl rfl (LA_ (vs := [.int .i64 0, .int .i64 0]) 0 0 rfl rfl rfl rfl (S_tmp rfl (S_nil (Upd.selS [] 2 ?_))))
    exact Upd.done hR
  replace h := cond_f hc1 h
  refine WP.skip (hK22 _ _ _ (WP.seq_k (fun K66 hK66 => WP.region Tt_ok (O_cons (O_read rfl (R_move rfl (P_some rfl (O_cons (O_read rfl (R_loadA rfl rfl rfl rfl (LA_ (vs := [.int .i64 x1.ID, .int .i64 x1.Scale, .int .i64 x1.At, .int .i64 x1.Gross, .int .i64 x1.Tare, .int .i64 x1.Replaces]) 1 0 rfl rfl rfl rfl (P_some rfl (O_cons ?_)))))))))))))
  apply O_call (all := [.slice A1 s1.length c1, .agg #[.int .i64 x1.ID, .int .i64 x1.Scale, .int .i64 x1.At, .int .i64 x1.Gross, .int .i64 x1.Tare, .int .i64 x1.Replaces]]); exact rfl; exact rfl; exact rfl
  obtain ⟨⟨r2, r3, r4⟩, hx2, h⟩ := obind h
  replace h := oun_mk h
  replace h := oun_mk h
  refine ticket_weighed_fn hl1 (Rds.push (Rds.push hA1)) hx2 ((P_some rfl (O_cons (O_read rfl (R_move rfl (P_some rfl (O_cons (O_read rfl (R_ext rfl rfl (P_some rfl (O_cons (O_read rfl (R_ext rfl rfl (P_some rfl ?_))))))))))))))
  refine O_cons (O_read rfl (R_ext rfl rfl (P_some rfl (O_cons (O_alloc (cs := #[.int .i64 0, .int .i64 0]) rfl rfl (fun g3 => P_some rfl (O_cons (O_alloc (cs := #[.int .i64 0, .int .i64 0]) rfl rfl (fun g4 => P_some rfl (O_cons (O_store (vs := [.int .i64 r2.Lo, .int .i64 r2.Hi]) rfl rfl rfl rfl rfl rfl (ST_ (L' := ([(g4, .cells #[.int .i64 0, .int .i64 0] 31 (0, 0))] :: [(g3, .cells #[.int .i64 r2.Lo, .int .i64 r2.Hi] 31 (0, 0))] :: [(g2, .cells #[.int .i64 0, .int .i64 0] 31 (0, 0))] :: [(g1, .cells #[.int .i64 x1.ID, .int .i64 x1.Scale, .int .i64 x1.At, .int .i64 x1.Gross, .int .i64 x1.Tare, .int .i64 x1.Replaces] 29 (0, 0))] :: L)) 1 0 rfl rfl rfl rfl (P_none ?_)))))))))))))
  refine O_cons (O_store (vs := [.int .i64 r3.Lo, .int .i64 r3.Hi]) rfl rfl rfl rfl rfl rfl (ST_ (L' := ([(g4, .cells #[.int .i64 r3.Lo, .int .i64 r3.Hi] 31 (0, 0))] :: [(g3, .cells #[.int .i64 r2.Lo, .int .i64 r2.Hi] 31 (0, 0))] :: [(g2, .cells #[.int .i64 0, .int .i64 0] 31 (0, 0))] :: [(g1, .cells #[.int .i64 x1.ID, .int .i64 x1.Scale, .int .i64 x1.At, .int .i64 x1.Gross, .int .i64 x1.Tare, .int .i64 x1.Replaces] 29 (0, 0))] :: L)) 0 0 rfl rfl rfl rfl (P_none (O_cons (O_read rfl (R_assign rfl (P_some rfl (O_nil (hK66 _ _ _ (WP.seq_k (fun K375 hK375 => WP.seq_k (fun K376 hK376 => WP.region Tt_ok (O_cons ?_)))))))))))))
  refine O_read rfl (R_move rfl (P_some rfl (O_cons (O_read rfl (R_neqD rfl rfl (P_some rfl (O_nil (hK376 _ _ _ ?_))))))))
  refine W_cond_v (b := !(decide (r4 = 0))) rfl (fun hc2 => ?_) (fun hc2 => ?_)
  · replace h := cond_t hc2 h
    refine WP.seq_k (fun K377 hK377 => WP.region Tt_ok (O_cons (O_read rfl (R_build rfl rfl rfl rfl (F_nil (P_some rfl (O_cons (O_read rfl (R_move rfl (P_some rfl (O_cons (O_store (vs := [.int .i64 0, .int .i64 0]) rfl rfl rfl rfl rfl rfl (ST_ (L' := ([(g4, .cells #[.int .i64 r3.Lo, .int .i64 r3.Hi] 31 (0, 0))] :: [(g3, .cells #[.int .i64 r2.Lo, .int .i64 r2.Hi] 31 (0, 0))] :: [(g2, .cells #[.int .i64 0, .int .i64 0] 31 (0, 0))] :: [(g1, .cells #[.int .i64 x1.ID, .int .i64 x1.Scale, .int .i64 x1.At, .int .i64 x1.Gross, .int .i64 x1.Tare, .int .i64 x1.Replaces] 29 (0, 0))] :: L)) 2 0 rfl rfl rfl rfl ?_)))))))))))))
    refine P_none (O_cons (O_read rfl (R_assign rfl (P_some rfl (O_nil (hK377 _ _ _ (WP.ret ?_)))))))
    have e_ := Option.some.inj h
    obtain ⟨e0a_, e0b_⟩ := Prod.mk.inj e_
    clear e_
    subst e0a_
    subst e0b_
    refine S_cell rfl rfl rfl rfl (LA_ (vs := [.int .i64 0, .int .i64 0]) 2 0 rfl rfl rfl rfl (S_tmp rfl (S_nil (Upd.selS [] 4 ?_))))
    exact Upd.done hR
  replace h := cond_f hc2 h
  refine WP.skip (hK375 _ _ _ (WP.seq_k (fun K379 hK379 => WP.region Tt_ok (O_cons (O_read rfl (R_fa0 (o' := 0) rfl rfl rfl rfl rfl rfl (P_some rfl (O_cons (O_read rfl (R_load rfl rfl rfl (Ex.mk _ (Cell.seg 1 0 rfl rfl rfl) (P_some rfl (O_cons ?_)))))))))))))
  refine O_read rfl (R_fa0 (o' := 1) rfl rfl rfl rfl rfl rfl (P_some rfl (O_cons (O_read rfl (R_load rfl rfl rfl (Ex.mk _ (Cell.seg 0 0 rfl rfl rfl) (P_some rfl (O_cons (O_read rfl (R_sub rfl rfl (P_some rfl (O_cons (O_read rfl ?_)))))))))))))
  refine R_maxI rfl (P_some rfl (O_cons (O_read rfl (R_fa0 (o' := 1) rfl rfl rfl rfl rfl rfl (P_some rfl (O_cons (O_read rfl (R_load rfl rfl rfl (Ex.mk _ (Cell.seg 1 0 rfl rfl rfl) (P_some rfl (O_cons (O_read rfl (R_fa0 (o' := 0) rfl rfl rfl rfl rfl rfl ?_)))))))))))))
  refine P_some rfl (O_cons (O_read rfl (R_load rfl rfl rfl (Ex.mk _ (Cell.seg 0 0 rfl rfl rfl) (P_some rfl (O_cons (O_read rfl (R_sub rfl rfl (P_some rfl (O_cons (O_read rfl (R_maxI rfl (P_some rfl ?_)))))))))))))
  refine O_cons (O_read rfl (R_build rfl rfl rfl rfl (F_cons (cells' := [.int .i64 (max 0 (w64 (r2.Lo - r3.Hi))), .int .i64 0]) rfl rfl rfl rfl (F_cons (cells' := [.int .i64 (max 0 (w64 (r2.Lo - r3.Hi))), .int .i64 (max 0 (w64 (r2.Hi - r3.Lo)))]) rfl rfl rfl rfl (F_nil (P_some rfl (O_cons (O_store (vs := [.int .i64 (max 0 (w64 (r2.Lo - r3.Hi))), .int .i64 (max 0 (w64 (r2.Hi - r3.Lo)))]) rfl rfl rfl rfl rfl rfl (ST_ (L' := ([(g4, .cells #[.int .i64 r3.Lo, .int .i64 r3.Hi] 31 (0, 0))] :: [(g3, .cells #[.int .i64 r2.Lo, .int .i64 r2.Hi] 31 (0, 0))] :: [(g2, .cells #[.int .i64 (max 0 (w64 (r2.Lo - r3.Hi))), .int .i64 (max 0 (w64 (r2.Hi - r3.Lo)))] 31 (0, 0))] :: [(g1, .cells #[.int .i64 x1.ID, .int .i64 x1.Scale, .int .i64 x1.At, .int .i64 x1.Gross, .int .i64 x1.Tare, .int .i64 x1.Replaces] 29 (0, 0))] :: L)) 2 0 rfl rfl rfl rfl ?_)))))))))
  refine P_none (O_cons (O_read rfl (R_assign rfl (P_some rfl (O_nil (hK379 _ _ _ (WP.ret ?_)))))))
  have e_ := Option.some.inj h
  obtain ⟨e0a_, e0b_⟩ := Prod.mk.inj e_
  clear e_
  subst e0a_
  subst e0b_
  refine S_cell rfl rfl rfl rfl (LA_ (vs := [.int .i64 (max 0 (w64 (r2.Lo - r3.Hi))), .int .i64 (max 0 (w64 (r2.Hi - r3.Lo)))]) 2 0 rfl rfl rfl rfl (S_tmp rfl (S_nil (Upd.selS [] 4 ?_))))
  exact Upd.done hR

theorem ticket_places_fn {μ : Gh} {L : List Seg} {R : Value → Gh → List Seg → Prop}  {l1 : (List T_api_Ticket)} {A1 : Option Addr} {c1 : Nat} {res1 : (Option (List (Int × Int)))} {res2 : Int}
    (hl1 : l1.length ≤ c1 ∧ c1 ≤ maxLen) (hA1 : Rds r_api_Ticket μ L A1 l1) (h : ticket_places l1 = some (res1, res2))
    (hR : ∀ (v0 : Value) (so0 : Seg), MapO (Value.int .i64) v0 so0 res1 → R (.tuple #[v0, .int .i64 res2]) μ (so0 :: L)) :
    Fn Try.prog 28 [.slice A1 l1.length c1] μ (L) R := by
  unfold ticket_places at h
  refine Fn.of_body Tt_ok Try.func28 (by kernel_rfl) rfl Try.ntmps28 (by simp) ?_
  simp only [Try.f28, argFr, List.zipIdx, List.map, Nat.reduceAdd]
  refine WP.seq_k (fun K393 hK393 => WP.region Tt_ok (O_cons (O_read rfl (R_assign rfl (P_some rfl (O_cons (O_read rfl (R_assign rfl (P_some rfl (O_nil (hK393 _ _ _ (WP.seq_k (fun K394 hK394 => WP.seq_k (fun K395 hK395 => ?_))))))))))))))
  refine WP.region Tt_ok (O_cons (O_read rfl (R_move rfl (P_some rfl (O_cons (O_read rfl (R_lenS rfl rfl rfl (P_some rfl (O_cons (O_read rfl (R_gtrD rfl rfl (P_some rfl (O_nil ?_)))))))))))))
  refine hK395 _ _ _ ?_
  refine W_cond_v (b := (decide (512 < ((l1.length : Nat) : Int)))) rfl (fun hc1 => ?_) (fun hc1 => ?_)
  · replace h := cond_t hc1 h
    refine WP.seq_k (fun K396 hK396 => WP.region Tt_ok (O_cons (O_read rfl (R_assign rfl (P_some rfl (O_cons (O_read rfl (R_assign rfl (P_some rfl (O_nil (hK396 _ _ _ (WP.ret ?_))))))))))))
    have e_ := Option.some.inj h
    obtain ⟨e0a_, e0b_⟩ := Prod.mk.inj e_
    clear e_
    subst e0a_
    subst e0b_
    refine S_tmp rfl (S_tmp rfl (S_nil (Upd.selS [none] 0 ?_)))
    exact Upd.done (hR (.map none) [] (MapO.nil))
  replace h := cond_f hc1 h
  refine WP.skip (hK394 _ _ _ (WP.seq_k (fun K397 hK397 => WP.region Tt_ok (O_cons (O_mkmap (fun g1 => P_some rfl (O_cons (O_read rfl (R_assign rfl (P_some rfl (O_nil (hK397 _ _ _ (WP.seq_k (fun K399 hK399 => ?_))))))))))))))
  refine WP.seq_k (fun K400 hK400 => WP.region Tt_ok (O_cons (O_read rfl (R_move rfl (P_some rfl (O_cons (O_read rfl (R_lenS rfl rfl rfl (P_some rfl (O_cons (O_read rfl (R_move rfl (P_some rfl ?_)))))))))))))
  refine O_nil (hK400 _ _ _ ?_)
  obtain ⟨o401, h401, h⟩ := obind h
  refine WP.cutK (fun fr_ μ_ L_ => (.inl ()) = o401 ∧ SubFr [(0, .slice A1 l1.length c1), (4, .map (some g1))] fr_ ∧ SegSub ([(g1, .map #[] 0)] :: L) L_ ∧ μ = μ_) ?_ ?_
  · refine WP.block (WP.iter h401 (fun (v1 : Int) fr_ μ_ L_ => SubFr [(0, .slice A1 l1.length c1), (4, .map (some g1)), (21, .slice A1 l1.length c1), (22, .int .i64 ((l1.length : Nat) : Int)), (23, .int .i64 v1)] fr_ ∧ SegSub ([(g1, .map #[] 0)] :: L) L_ ∧ μ = μ_) ⟨SubFr.of ⟨rfl, rfl, rfl, rfl, rfl, trivial⟩, SegSub.sel _ [some 0] 1, rfl⟩ ?_)
    rintro v1 q412 fr412 μ412 L412 hm412 ⟨hF412, hS412, hu412⟩ hb412 hq412
    unfold ticket_places_l1 at hb412
    subst hu412
    refine WP.at hF412 hS412 (WP.seq_k (fun K413 hK413 => WP.region Tt_ok (O_cons (O_read rfl (R_lssD rfl rfl (P_some rfl (O_nil (hK413 _ _ _ (WP.seq_k (fun K414 hK414 => ?_))))))))))
    refine W_cond_v (b := (decide (v1 < ((l1.length : Nat) : Int)))) rfl (fun hc2 => ?_) (fun hc2 => ?_)
    · replace hb412 := cond_t hc2 hb412
      refine WP.skip (hK414 _ _ _ (WP.seq_k (fun K415 hK415 => WP.block (WP.seq_k (fun K416 hK416 => WP.region Tt_ok (O_cons ?_))))))
      obtain ⟨x1, hx1, hb412⟩ := obind hb412
      obtain ⟨a1, cs1, hA2, hr1, _, hc3⟩ := Rds.getI hA1 hx1
      obtain rfl := hr1
      refine O_read rfl (R_iaG rfl rfl rfl rfl rfl rfl ⟨(getI_lt hx1).1, (getI_lt hx1).2.1⟩ hA2 (P_some rfl (O_cons (O_read rfl (R_loadA rfl rfl rfl rfl (Ex.mk [.int .i64 x1.ID, .int .i64 x1.Scale, .int .i64 x1.At, .int .i64 x1.Gross, .int .i64 x1.Tare, .int .i64 x1.Replaces] ⟨rfl, (hc3.push)⟩ (P_some rfl (O_cons (O_alloc (cs := #[.int .i64 0, .int .i64 0, .int .i64 0, .int .i64 0, .int .i64 0, .int .i64 0]) rfl rfl (fun g2 => P_some rfl (O_cons (O_store (vs := [.int .i64 x1.ID, .int .i64 x1.Scale, .int .i64 x1.At, .int .i64 x1.Gross, .int .i64 x1.Tare, .int .i64 x1.Replaces]) rfl rfl rfl rfl rfl rfl (ST_ (L' := ([(g2, .cells #[.int .i64 x1.ID, .int .i64 x1.Scale, .int .i64 x1.At, .int .i64 x1.Gross, .int .i64 x1.Tare, .int .i64 x1.Replaces] 29 (0, 0))] :: [(g1, .map #[] 0)] :: L)) 0 0 rfl rfl rfl rfl ?_)))))))))))))
      refine P_none (O_nil (hK416 _ _ _ (WP.seq_k (fun K419 hK419 => ?_))))
      obtain ⟨o420, h420, hb412⟩ := obind hb412
      refine WP.cutK (fun fr_ μ_ L_ => ∃ (v2 : Bool), v2 = o420 ∧ SubFr [(0, .slice A1 l1.length c1), (4, .map (some g1)), (21, .slice A1 l1.length c1), (22, .int .i64 ((l1.length : Nat) : Int)), (23, .int .i64 v1), (34, .bool v2)] fr_ ∧ SegSub ([(g1, .map #[] 0)] :: L) L_ ∧ μ = μ_) ?_ ?_
      · refine WP.region Tt_ok (O_cons (O_read rfl (R_fa0 (o' := 0) rfl rfl rfl rfl rfl rfl (P_some rfl (O_cons (O_read rfl (R_load rfl rfl rfl (Ex.mk _ (Cell.seg 0 0 rfl rfl rfl) (P_some rfl (O_cons (O_read rfl (R_lssD rfl rfl (P_some rfl ?_)))))))))))))
        refine O_cons (O_read rfl (R_move rfl (P_some rfl ?_)))
        refine O_gv (z := (decide (x1.ID < 1))) rfl rfl (fun hc4 => ?_) (fun hc4 => ?_)
        · replace h420 := cond_f hc4 h420
          refine O_read rfl (R_fa0 (o' := 0) rfl rfl rfl rfl rfl rfl (P_some rfl (O_gY rfl rfl hc4 (O_read rfl (R_load rfl rfl rfl (Ex.mk _ (Cell.seg 0 0 rfl rfl rfl) (P_some rfl (O_gY rfl rfl hc4 (O_read rfl (R_gtrD rfl rfl (P_some rfl (O_cons (O_read rfl ?_)))))))))))))
          refine R_pick_F rfl hc4 rfl (P_some rfl (O_nil ?_))
          have e_ := Option.some.inj h420
          subst e_
          exact ⟨(decide (1000000 < x1.ID)), rfl, SubFr.of ⟨rfl, rfl, rfl, rfl, rfl, rfl, trivial⟩, SegSub.sel _ [some 1] 2, rfl⟩
        replace h420 := cond_t hc4 h420
        refine P_some rfl (O_gN rfl rfl hc4 (P_some rfl (O_gN rfl rfl hc4 (P_some rfl (O_cons (O_read rfl (R_pick_T rfl hc4 rfl (P_some rfl (O_nil ?_)))))))))
        have e_ := Option.some.inj h420
        subst e_
        exact ⟨true, rfl, SubFr.of ⟨rfl, rfl, rfl, rfl, rfl, rfl, trivial⟩, SegSub.sel _ [some 1] 2, rfl⟩
      rintro fr420 μ420 L420 hm420 ⟨v2, ho420, hF420, hS420, hu420⟩
      subst ho420
      subst hu420
      refine hK419 _ _ _ (WP.at hF420 hS420 ?_)
      refine W_cond_v (b := v2) rfl (fun hc5 => ?_) (fun hc5 => ?_)
      · replace hb412 := cond_t hc5 hb412
        refine WP.seq_k (fun K421 hK421 => WP.region Tt_ok (O_cons (O_read rfl (R_assign rfl (P_some rfl (O_cons (O_read rfl (R_assign rfl (P_some rfl (O_nil (hK421 _ _ _ (WP.ret ?_))))))))))))
        have e_ := Option.some.inj hb412
        subst e_
        have hq_ := hq412 _ rfl
        subst hq_
        replace h := osum_r h
        have e_ := Option.some.inj h
        obtain ⟨e0a_, e0b_⟩ := Prod.mk.inj e_
        clear e_
        subst e0a_
        subst e0b_
        refine S_tmp rfl (S_tmp rfl (S_nil (Upd.selS [none] 1 ?_)))
        exact Upd.done (hR (.map none) [] (MapO.nil))
      replace hb412 := cond_f hc5 hb412
      refine WP.skip (hK415 _ _ _ (WP.region Tt_ok (O_cons (O_read rfl (R_add rfl rfl (P_some rfl (O_cons (O_read rfl (R_move rfl (P_some rfl (O_nil ?_)))))))))))
      have e_ := Option.some.inj hb412
      subst e_
      exact ⟨_, rfl, SubFr.of ⟨rfl, rfl, rfl, rfl, rfl, trivial⟩, SegSub.sel _ [some 0] 1, rfl⟩
    replace hb412 := cond_f hc2 hb412
    refine WP.exit (B_here ?_)
    have e_ := Option.some.inj hb412
    subst e_
    have hq_ := hq412 _ rfl
    subst hq_
    exact ⟨rfl, SubFr.of ⟨rfl, rfl, trivial⟩, SegSub.sel _ [some 0] 1, rfl⟩
  rintro fr401 μ401 L401 hm401 ⟨ho401, hF401, hS401, hu401⟩
  subst ho401
  replace h := osum_l h
  subst hu401
  refine hK399 _ _ _ (WP.at hF401 hS401 (WP.seq_k (fun K422 hK422 => WP.seq_k (fun K423 hK423 => WP.region Tt_ok (O_cons (O_read rfl (R_move rfl (P_some rfl (O_cons (O_read rfl (R_lenS rfl rfl rfl (P_some rfl (O_cons ?_)))))))))))))
  refine O_read rfl (R_move rfl (P_some rfl (O_nil (hK423 _ _ _ ?_))))
  obtain ⟨o424, h424, h⟩ := obind h
  refine WP.cutK (fun fr_ μ_ L_ => ∃ (m2 : (List (Int × Int))) (es3 : Array MapEntry) (cn3 : Nat), (.inl m2) = o424 ∧ SubFr [(0, .slice A1 l1.length c1), (4, .map (some g1))] fr_ ∧ SegSub ([(g1, .map es3 cn3)] :: L) L_ ∧ MapB (Value.int .i64) es3 cn3 m2 ∧ μ = μ_) ?_ ?_
  · refine WP.block (WP.iter h424 (fun (j_ : (List (Int × Int)) × Int) fr_ μ_ L_ => ounP j_ fun m1 v3 => ∃ (es1 : Array MapEntry) (cn1 : Nat), SubFr [(0, .slice A1 l1.length c1), (4, .map (some g1)), (36, .slice A1 l1.length c1), (37, .int .i64 ((l1.length : Nat) : Int)), (38, .int .i64 v3)] fr_ ∧ SegSub ([(g1, .map es1 cn1)] :: L) L_ ∧ MapB (Value.int .i64) es1 cn1 m1 ∧ μ = μ_) ⟨#[], 0, SubFr.of ⟨rfl, rfl, rfl, rfl, rfl, trivial⟩, SegSub.sel _ [some 0] 1, ((MapB.nil (enc := (Value.int .i64)))), rfl⟩ ?_)
    rintro ⟨m1, v3⟩ q437 fr437 μ437 L437 hm437 ⟨es1, cn1, hF437, hS437, hM1, hu437⟩ hb437 hq437
    unfold ticket_places_l2 at hb437
    replace hb437 := oun_mk hb437
    subst hu437
    refine WP.at hF437 hS437 (WP.seq_k (fun K440 hK440 => WP.region Tt_ok (O_cons (O_read rfl (R_lssD rfl rfl (P_some rfl (O_nil (hK440 _ _ _ (WP.seq_k (fun K441 hK441 => ?_))))))))))
    refine W_cond_v (b := (decide (v3 < ((l1.length : Nat) : Int)))) rfl (fun hc6 => ?_) (fun hc6 => ?_)
    · replace hb437 := cond_t hc6 hb437
      refine WP.skip (hK441 _ _ _ (WP.seq_k (fun K442 hK442 => WP.block (WP.seq_k (fun K443 hK443 => WP.region Tt_ok (O_cons (O_read rfl (R_move rfl (P_some rfl (O_cons ?_))))))))))
      obtain ⟨x2, hx2, hb437⟩ := obind hb437
      obtain ⟨a2, cs2, hA3, hr2, _, hc7⟩ := Rds.getI hA1 hx2
      obtain rfl := hr2
      refine O_read rfl (R_iaG rfl rfl rfl rfl rfl rfl ⟨(getI_lt hx2).1, (getI_lt hx2).2.1⟩ hA3 (P_some rfl (O_cons (O_read rfl (R_loadA rfl rfl rfl rfl (Ex.mk [.int .i64 x2.ID, .int .i64 x2.Scale, .int .i64 x2.At, .int .i64 x2.Gross, .int .i64 x2.Tare, .int .i64 x2.Replaces] ⟨rfl, (hc7.push)⟩ (P_some rfl (O_cons (O_alloc (cs := #[.int .i64 0, .int .i64 0, .int .i64 0, .int .i64 0, .int .i64 0, .int .i64 0]) rfl rfl (fun g3 => P_some rfl (O_cons (O_read rfl (R_assign rfl ?_)))))))))))))
      refine P_some rfl (O_cons (O_store (vs := [.int .i64 x2.ID, .int .i64 x2.Scale, .int .i64 x2.At, .int .i64 x2.Gross, .int .i64 x2.Tare, .int .i64 x2.Replaces]) rfl rfl rfl rfl rfl rfl (ST_ (L' := ([(g3, .cells #[.int .i64 x2.ID, .int .i64 x2.Scale, .int .i64 x2.At, .int .i64 x2.Gross, .int .i64 x2.Tare, .int .i64 x2.Replaces] 29 (0, 0))] :: [(g1, .map es1 cn1)] :: L)) 0 0 rfl rfl rfl rfl (P_none (O_nil (hK443 _ _ _ (WP.seq_k (fun K446 hK446 => WP.seq_k (fun K447 hK447 => WP.region Tt_ok (O_cons (O_read rfl (R_move rfl (P_some rfl ?_)))))))))))))
      refine O_cons (O_read rfl (R_fa0 (o' := 0) rfl rfl rfl rfl rfl rfl (P_some rfl (O_cons (O_read rfl (R_load rfl rfl rfl (Ex.mk _ (Cell.seg 0 0 rfl rfl rfl) (P_some rfl (O_cons (O_read rfl (R_look rfl rfl rfl rfl rfl rfl rfl rfl (Ex.mk _ (hM1.look (ObjAt.seg 1 0 rfl rfl) (zb := 0) rfl x2.ID) (P_some rfl ?_)))))))))))))
      refine O_cons (O_read rfl (R_move rfl (P_some rfl (O_cons (O_read rfl (R_ext rfl rfl (P_some rfl (O_cons (O_read rfl (R_ext rfl rfl (P_some rfl (O_cons (O_read rfl ?_)))))))))))))
      refine R_assign rfl (P_some rfl (O_cons (O_read rfl (R_assign rfl (P_some rfl (O_nil (hK447 _ _ _ (WP.seq_k (fun K448 hK448 => WP.region Tt_ok (O_cons (O_read rfl (R_move rfl (P_some rfl ?_)))))))))))))
      refine O_nil (hK448 _ _ _ ?_)
      refine W_cond_v (b := (mget x2.ID m1).isSome) rfl (fun hc8 => ?_) (fun hc8 => ?_)
      · replace hb437 := cond_t hc8 hb437
        refine WP.seq_k (fun K449 hK449 => WP.region Tt_ok (O_cons (O_read rfl (R_assign rfl (P_some rfl (O_cons (O_read rfl (R_assign rfl (P_some rfl (O_nil (hK449 _ _ _ (WP.ret ?_))))))))))))
        have e_ := Option.some.inj hb437
        subst e_
        have hq_ := hq437 _ rfl
        subst hq_
        replace h := osum_r h
        have e_ := Option.some.inj h
        obtain ⟨e0a_, e0b_⟩ := Prod.mk.inj e_
        clear e_
        subst e0a_
        subst e0b_
        refine S_tmp rfl (S_tmp rfl (S_nil (Upd.selS [none] 2 ?_)))
        exact Upd.done (hR (.map none) [] (MapO.nil))
      replace hb437 := cond_f hc8 hb437
      refine WP.skip (hK446 _ _ _ (WP.region Tt_ok (O_cons (O_read rfl (R_move rfl (P_some rfl (O_cons (O_read rfl (R_fa0 (o' := 0) rfl rfl rfl rfl rfl rfl (P_some rfl (O_cons (O_read rfl (R_load rfl rfl rfl ?_)))))))))))))
      refine Ex.mk _ (Cell.seg 0 0 rfl rfl rfl) (P_some rfl (O_cons (O_read rfl (R_move rfl (P_some rfl (O_cons (O_mapUpdate rfl rfl rfl (semu_mapB Tt_ok rfl rfl rfl rfl 1 (b := v3) rfl hM1 rfl fun es2 cn2 hM2 => P_none (O_nil (hK442 _ _ _ (WP.region Tt_ok (O_cons ?_))))))))))))
      refine O_read rfl (R_add rfl rfl (P_some rfl (O_cons (O_read rfl (R_move rfl (P_some rfl (O_nil ?_)))))))
      have e_ := Option.some.inj hb437
      subst e_
      exact ⟨_, rfl, es2, cn2, SubFr.of ⟨rfl, rfl, rfl, rfl, rfl, trivial⟩, SegSub.sel _ [some 1] 2, (hM2), rfl⟩
    replace hb437 := cond_f hc6 hb437
    refine WP.exit (B_here ?_)
    have e_ := Option.some.inj hb437
    subst e_
    have hq_ := hq437 _ rfl
    subst hq_
    exact ⟨m1, es1, cn1, rfl, SubFr.of ⟨rfl, rfl, trivial⟩, SegSub.sel _ [some 0] 1, (hM1), rfl⟩
  rintro fr424 μ424 L424 hm424 ⟨m2, es3, cn3, ho424, hF424, hS424, hM3, hu424⟩
  subst ho424
  replace h := osum_l h
  subst hu424
  refine hK422 _ _ _ (WP.at hF424 hS424 (WP.seq_k (fun K452 hK452 => WP.region Tt_ok (O_cons (O_mkmap (fun g4 => P_some rfl (O_cons (O_read rfl (R_assign rfl (P_some rfl (O_nil (hK452 _ _ _ (WP.seq_k (fun K454 hK454 => ?_))))))))))))))
  refine WP.region Tt_ok (O_cons (O_read rfl (R_assign rfl (P_some rfl (O_nil (hK454 _ _ _ (WP.seq_k (fun K455 hK455 => WP.seq_k (fun K456 hK456 => WP.region Tt_ok (O_cons (O_read rfl (R_move rfl (P_some rfl ?_)))))))))))))
  refine O_cons (O_read rfl (R_lenS rfl rfl rfl (P_some rfl (O_cons (O_read rfl (R_move rfl (P_some rfl (O_nil (hK456 _ _ _ ?_)))))))))
  obtain ⟨o457, h457, h⟩ := obind h
  refine WP.cutK (fun fr_ μ_ L_ => ∃ (twice4 : Bool), (.inl twice4) = o457 ∧ SubFr [(4, .map (some g1)), (12, .bool twice4)] fr_ ∧ SegSub ([(g1, .map es3 cn3)] :: L) L_ ∧ μ = μ_) ?_ ?_
  · refine WP.block (WP.iter h457 (fun (j_ : (List (Int × Bool)) × Bool × Int) fr_ μ_ L_ => ounP j_ fun m3 j_ => ounP j_ fun twice1 v4 => ∃ (es4 : Array MapEntry) (cn4 : Nat), SubFr [(4, .map (some g1)), (11, .map (some g4)), (12, .bool twice1), (57, .slice A1 l1.length c1), (58, .int .i64 ((l1.length : Nat) : Int)), (59, .int .i64 v4)] fr_ ∧ SegSub ([(g1, .map es3 cn3)] :: [(g4, .map es4 cn4)] :: L) L_ ∧ MapB Value.bool es4 cn4 m3 ∧ μ = μ_) ⟨#[], 0, SubFr.of ⟨rfl, rfl, rfl, rfl, rfl, rfl, trivial⟩, SegSub.sel _ [some 1, some 0] 2, ((MapB.nil (enc := Value.bool))), rfl⟩ ?_)
    rintro ⟨m3, twice1, v4⟩ q481 fr481 μ481 L481 hm481 ⟨es4, cn4, hF481, hS481, hM4, hu481⟩ hb481 hq481
    unfold ticket_places_l3 at hb481
    replace hb481 := oun_mk hb481
    replace hb481 := oun_mk hb481
    subst hu481
    refine WP.at hF481 hS481 (WP.seq_k (fun K484 hK484 => WP.region Tt_ok (O_cons (O_read rfl (R_lssD rfl rfl (P_some rfl (O_nil (hK484 _ _ _ (WP.seq_k (fun K485 hK485 => ?_))))))))))
    refine W_cond_v (b := (decide (v4 < ((l1.length : Nat) : Int)))) rfl (fun hc9 => ?_) (fun hc9 => ?_)
    · replace hb481 := cond_t hc9 hb481
      refine WP.skip (hK485 _ _ _ (WP.seq_k (fun K486 hK486 => ?_)))
      obtain ⟨o487, h487, hb481⟩ := obind hb481
      refine WP.cutK (fun fr_ μ_ L_ => ∃ (m4 : (List (Int × Bool))) (twice3 : Bool) (es6 : Array MapEntry) (cn6 : Nat), (.inl (m4, twice3)) = o487 ∧ SubFr [(4, .map (some g1)), (11, .map (some g4)), (12, .bool twice3), (57, .slice A1 l1.length c1), (58, .int .i64 ((l1.length : Nat) : Int)), (59, .int .i64 v4)] fr_ ∧ SegSub ([(g1, .map es3 cn3)] :: [(g4, .map es6 cn6)] :: L) L_ ∧ MapB Value.bool es6 cn6 m4 ∧ μ = μ_) ?_ ?_
      · refine WP.block (WP.seq_k (fun K488 hK488 => WP.region Tt_ok (O_cons (O_read rfl (R_move rfl (P_some rfl (O_cons ?_)))))))
        obtain ⟨x3, hx3, h487⟩ := obind h487
        obtain ⟨a3, cs3, hA4, hr3, _, hc10⟩ := Rds.getI hA1 hx3
        obtain rfl := hr3
        refine O_read rfl (R_iaG rfl rfl rfl rfl rfl rfl ⟨(getI_lt hx3).1, (getI_lt hx3).2.1⟩ hA4 (P_some rfl (O_cons (O_read rfl (R_loadA rfl rfl rfl rfl (Ex.mk [.int .i64 x3.ID, .int .i64 x3.Scale, .int .i64 x3.At, .int .i64 x3.Gross, .int .i64 x3.Tare, .int .i64 x3.Replaces] ⟨rfl, (hc10.push.push)⟩ (P_some rfl (O_cons (O_alloc (cs := #[.int .i64 0, .int .i64 0, .int .i64 0, .int .i64 0, .int .i64 0, .int .i64 0]) rfl rfl (fun g5 => P_some rfl (O_cons (O_read rfl (R_assign rfl ?_)))))))))))))
        refine P_some rfl (O_cons (O_store (vs := [.int .i64 x3.ID, .int .i64 x3.Scale, .int .i64 x3.At, .int .i64 x3.Gross, .int .i64 x3.Tare, .int .i64 x3.Replaces]) rfl rfl rfl rfl rfl rfl (ST_ (L' := ([(g5, .cells #[.int .i64 x3.ID, .int .i64 x3.Scale, .int .i64 x3.At, .int .i64 x3.Gross, .int .i64 x3.Tare, .int .i64 x3.Replaces] 29 (0, 0))] :: [(g1, .map es3 cn3)] :: [(g4, .map es4 cn4)] :: L)) 0 0 rfl rfl rfl rfl (P_none (O_nil (hK488 _ _ _ (WP.seq_k (fun K491 hK491 => WP.seq_k (fun K492 hK492 => WP.region Tt_ok (O_cons (O_read rfl (R_fa0 (o' := 5) rfl rfl rfl rfl rfl rfl (P_some rfl ?_)))))))))))))
        refine O_cons (O_read rfl (R_load rfl rfl rfl (Ex.mk _ (Cell.seg 0 0 rfl rfl rfl) (P_some rfl (O_cons (O_read rfl (R_eqlD rfl rfl (P_some rfl (O_nil (hK492 _ _ _ ?_))))))))))
        refine W_cond_v (b := (decide (x3.Replaces = 0))) rfl (fun hc11 => ?_) (fun hc11 => ?_)
        · replace h487 := cond_t hc11 h487
          refine WP.exit (B_here ?_)
          have e_ := Option.some.inj h487
          subst e_
          exact ⟨m3, twice1, es4, cn4, rfl, SubFr.of ⟨rfl, rfl, rfl, rfl, rfl, rfl, trivial⟩, SegSub.sel _ [some 1, some 2] 3, (hM4), rfl⟩
        replace h487 := cond_f hc11 h487
        refine WP.skip (hK491 _ _ _ (WP.seq_k (fun K493 hK493 => WP.seq_k (fun K494 hK494 => WP.region Tt_ok (O_cons (O_read rfl (R_move rfl (P_some rfl (O_cons (O_read rfl (R_fa0 (o' := 5) rfl rfl rfl rfl rfl rfl (P_some rfl (O_cons ?_)))))))))))))
        refine O_read rfl (R_load rfl rfl rfl (Ex.mk _ (Cell.seg 0 0 rfl rfl rfl) (P_some rfl (O_cons (O_read rfl (R_look rfl rfl rfl rfl rfl rfl rfl rfl (Ex.mk _ (hM3.look (ObjAt.seg 1 0 rfl rfl) (zb := 0) rfl x3.Replaces) (P_some rfl (O_cons (O_read rfl (R_move rfl (P_some rfl (O_cons ?_)))))))))))))
        refine O_read rfl (R_ext rfl rfl (P_some rfl (O_cons (O_read rfl (R_ext rfl rfl (P_some rfl (O_cons (O_read rfl (R_assign rfl (P_some rfl (O_cons (O_read rfl (R_assign rfl ?_)))))))))))))
        refine P_some rfl (O_nil (hK494 _ _ _ (WP.seq_k (fun K495 hK495 => ?_))))
        obtain ⟨o496, h496, h487⟩ := obind h487
        refine WP.cutK (fun fr_ μ_ L_ => ∃ (v5 : Bool), v5 = o496 ∧ SubFr [(4, .map (some g1)), (11, .map (some g4)), (12, .bool twice1), (14, .pointer (some ⟨g5, 0, none⟩)), (57, .slice A1 l1.length c1), (58, .int .i64 ((l1.length : Nat) : Int)), (59, .int .i64 v4), (80, .bool v5)] fr_ ∧ SegSub ([(g1, .map es3 cn3)] :: [(g4, .map es4 cn4)] :: [(g5, .cells #[.int .i64 x3.ID, .int .i64 x3.Scale, .int .i64 x3.At, .int .i64 x3.Gross, .int .i64 x3.Tare, .int .i64 x3.Replaces] 29 (0, 0))] :: L) L_ ∧ μ = μ_) ?_ ?_
        · refine WP.region Tt_ok (O_cons (O_read rfl (R_move rfl (P_some rfl (O_cons (O_read rfl (R_not rfl (P_some rfl (O_cons (O_read rfl (R_move rfl (P_some rfl ?_))))))))))))
          refine O_gv (z := !((mget x3.Replaces m2).isSome)) rfl rfl (fun hc12 => ?_) (fun hc12 => ?_)
          · replace h496 := cond_f hc12 h496
            refine O_read rfl (R_move rfl (P_some rfl (O_gY rfl rfl hc12 (O_read rfl (R_move rfl (P_some rfl (O_gY rfl rfl hc12 (O_read rfl (R_geqD rfl rfl (P_some rfl (O_cons (O_read rfl (R_pick_F rfl hc12 rfl ?_)))))))))))))
            refine P_some rfl (O_nil ?_)
            have e_ := Option.some.inj h496
            subst e_
            exact ⟨(decide (v4 ≤ ((mget x3.Replaces m2).getD 0))), rfl, SubFr.of ⟨rfl, rfl, rfl, rfl, rfl, rfl, rfl, rfl, trivial⟩, SegSub.sel _ [some 1, some 2, some 0] 3, rfl⟩
          replace h496 := cond_t hc12 h496
          refine P_some rfl (O_gN rfl rfl hc12 (P_some rfl (O_gN rfl rfl hc12 (P_some rfl (O_cons (O_read rfl (R_pick_T rfl hc12 rfl (P_some rfl (O_nil ?_)))))))))
          have e_ := Option.some.inj h496
          subst e_
          exact ⟨true, rfl, SubFr.of ⟨rfl, rfl, rfl, rfl, rfl, rfl, rfl, rfl, trivial⟩, SegSub.sel _ [some 1, some 2, some 0] 3, rfl⟩
        rintro fr496 μ496 L496 hm496 ⟨v5, ho496, hF496, hS496, hu496⟩
        subst ho496
        subst hu496
        refine hK495 _ _ _ (WP.at hF496 hS496 ?_)
        refine W_cond_v (b := v5) rfl (fun hc13 => ?_) (fun hc13 => ?_)
        · replace h487 := cond_t hc13 h487
          refine WP.seq_k (fun K499 hK499 => WP.region Tt_ok (O_cons (O_read rfl (R_assign rfl (P_some rfl (O_cons (O_read rfl (R_assign rfl (P_some rfl (O_nil (hK499 _ _ _ (WP.ret ?_))))))))))))
          have e_ := Option.some.inj h487
          subst e_
          replace hb481 := osum_r hb481
          have e_ := Option.some.inj hb481
          subst e_
          have hq_ := hq481 _ rfl
          subst hq_
          replace h := osum_r h
          have e_ := Option.some.inj h
          obtain ⟨e0a_, e0b_⟩ := Prod.mk.inj e_
          clear e_
          subst e0a_
          subst e0b_
          refine S_tmp rfl (S_tmp rfl (S_nil (Upd.selS [none] 3 ?_)))
          exact Upd.done (hR (.map none) [] (MapO.nil))
        replace h487 := cond_f hc13 h487
        refine WP.skip (hK493 _ _ _ (WP.seq_k (fun K500 hK500 => ?_)))
        obtain ⟨o501, h501, h487⟩ := obind h487
        refine WP.cutK (fun fr_ μ_ L_ => ∃ (twice2 : Bool), twice2 = o501 ∧ SubFr [(4, .map (some g1)), (11, .map (some g4)), (12, .bool twice2), (14, .pointer (some ⟨g5, 0, none⟩)), (57, .slice A1 l1.length c1), (58, .int .i64 ((l1.length : Nat) : Int)), (59, .int .i64 v4)] fr_ ∧ SegSub ([(g1, .map es3 cn3)] :: [(g4, .map es4 cn4)] :: [(g5, .cells #[.int .i64 x3.ID, .int .i64 x3.Scale, .int .i64 x3.At, .int .i64 x3.Gross, .int .i64 x3.Tare, .int .i64 x3.Replaces] 29 (0, 0))] :: L) L_ ∧ μ = μ_) ?_ ?_
        · refine WP.region Tt_ok (O_cons (O_read rfl (R_move rfl (P_some rfl (O_cons (O_read rfl (R_move rfl (P_some rfl ?_))))))))
          refine O_gv (z := twice1) rfl rfl (fun hc14 => ?_) (fun hc14 => ?_)
          · replace h501 := cond_f hc14 h501
            refine O_read rfl (R_move rfl (P_some rfl (O_gY rfl rfl hc14 (O_read rfl (R_fa0 (o' := 5) rfl rfl rfl rfl rfl rfl (P_some rfl (O_gY rfl rfl hc14 (O_read rfl (R_load rfl rfl rfl (Ex.mk _ (Cell.seg 2 0 rfl rfl rfl) (P_some rfl (O_gY rfl rfl hc14 (O_read rfl ?_)))))))))))))
            refine R_look rfl rfl rfl rfl rfl rfl rfl rfl (Ex.mk _ (hM4.look (ObjAt.seg 1 0 rfl rfl) (zb := false) rfl x3.Replaces) (P_some rfl (O_cons (O_read rfl (R_pick_F rfl hc14 rfl (P_some rfl (O_cons (O_read rfl (R_assign rfl (P_some rfl (O_nil ?_)))))))))))
            have e_ := Option.some.inj h501
            subst e_
            exact ⟨(mget x3.Replaces m3).getD false, rfl, SubFr.of ⟨rfl, rfl, rfl, rfl, rfl, rfl, rfl, trivial⟩, SegSub.sel _ [some 0, some 1, some 2] 3, rfl⟩
          replace h501 := cond_t hc14 h501
          refine P_some rfl (O_gN rfl rfl hc14 (P_some rfl (O_gN rfl rfl hc14 (P_some rfl (O_gN rfl rfl hc14 (P_some rfl (O_cons (O_read rfl (R_pick_T rfl hc14 rfl (P_some rfl (O_cons (O_read rfl (R_assign rfl ?_)))))))))))))
          refine P_some rfl (O_nil ?_)
          have e_ := Option.some.inj h501
          subst e_
          exact ⟨true, rfl, SubFr.of ⟨rfl, rfl, rfl, rfl, rfl, rfl, rfl, trivial⟩, SegSub.sel _ [some 0, some 1, some 2] 3, rfl⟩
        rintro fr501 μ501 L501 hm501 ⟨twice2, ho501, hF501, hS501, hu501⟩
        subst ho501
        subst hu501
        refine hK500 _ _ _ (WP.at hF501 hS501 (WP.region Tt_ok (O_cons (O_read rfl (R_move rfl (P_some rfl (O_cons (O_read rfl (R_fa0 (o' := 5) rfl rfl rfl rfl rfl rfl (P_some rfl (O_cons (O_read rfl (R_load rfl rfl rfl ?_)))))))))))))
        refine Ex.mk _ (Cell.seg 2 0 rfl rfl rfl) (P_some rfl (O_cons (O_mapUpdate rfl rfl rfl (semu_mapB Tt_ok rfl rfl rfl rfl 1 (b := true) rfl hM4 rfl fun es5 cn5 hM5 => P_none (O_nil ?_)))))
        have e_ := Option.some.inj h487
        subst e_
        exact ⟨(mput x3.Replaces true m3), twice2, es5, cn5, rfl, SubFr.of ⟨rfl, rfl, rfl, rfl, rfl, rfl, trivial⟩, SegSub.sel _ [some 0, some 1] 3, (hM5), rfl⟩
      rintro fr487 μ487 L487 hm487 ⟨m4, twice3, es6, cn6, ho487, hF487, hS487, hM6, hu487⟩
      subst ho487
      replace hb481 := osum_l hb481
      replace hb481 := oun_mk hb481
      subst hu487
      refine hK486 _ _ _ (WP.at hF487 hS487 (WP.region Tt_ok (O_cons (O_read rfl (R_add rfl rfl (P_some rfl (O_cons (O_read rfl (R_move rfl (P_some rfl (O_nil ?_)))))))))))
      have e_ := Option.some.inj hb481
      subst e_
      exact ⟨_, rfl, es6, cn6, SubFr.of ⟨rfl, rfl, rfl, rfl, rfl, rfl, trivial⟩, SegSub.sel _ [some 0, some 1] 2, (hM6), rfl⟩
    replace hb481 := cond_f hc9 hb481
    refine WP.exit (B_here ?_)
    have e_ := Option.some.inj hb481
    subst e_
    have hq_ := hq481 _ rfl
    subst hq_
    exact ⟨twice1, rfl, SubFr.of ⟨rfl, rfl, trivial⟩, SegSub.sel _ [some 0] 2, rfl⟩
  rintro fr457 μ457 L457 hm457 ⟨twice4, ho457, hF457, hS457, hu457⟩
  subst ho457
  replace h := osum_l h
  subst hu457
  refine hK455 _ _ _ (WP.at hF457 hS457 (WP.seq_k (fun K506 hK506 => WP.seq_k (fun K507 hK507 => WP.region Tt_ok (O_cons (O_read rfl (R_move rfl (P_some rfl (O_nil (hK507 _ _ _ ?_))))))))))
  refine W_cond_v (b := twice4) rfl (fun hc15 => ?_) (fun hc15 => ?_)
  · replace h := cond_t hc15 h
    refine WP.seq_k (fun K508 hK508 => WP.region Tt_ok (O_cons (O_read rfl (R_assign rfl (P_some rfl (O_cons (O_read rfl (R_assign rfl (P_some rfl (O_nil (hK508 _ _ _ (WP.ret ?_))))))))))))
    have e_ := Option.some.inj h
    obtain ⟨e0a_, e0b_⟩ := Prod.mk.inj e_
    clear e_
    subst e0a_
    subst e0b_
    refine S_tmp rfl (S_tmp rfl (S_nil (Upd.selS [none] 1 ?_)))
    exact Upd.done (hR (.map none) [] (MapO.nil))
  replace h := cond_f hc15 h
  refine WP.skip (hK506 _ _ _ (WP.seq_k (fun K509 hK509 => WP.region Tt_ok (O_cons (O_read rfl (R_move rfl (P_some rfl (O_cons (O_read rfl (R_assign rfl (P_some rfl (O_cons (O_read rfl ?_)))))))))))))
  refine R_assign rfl (P_some rfl (O_nil (hK509 _ _ _ (WP.ret ?_))))
  have e_ := Option.some.inj h
  obtain ⟨e0a_, e0b_⟩ := Prod.mk.inj e_
  clear e_
  subst e0a_
  subst e0b_
  refine S_tmp rfl (S_tmp rfl (S_nil (Upd.selS [some 0] 1 ?_)))
  exact Upd.done (hR (.map (some g1)) [(g1, .map es3 cn3)] ((MapO.some hM3)))

theorem ticket_Active_fn {μ : Gh} {L : List Seg} {R : Value → Gh → List Seg → Prop}  {l1 : (List T_api_Ticket)} {A1 : Option Addr} {c1 : Nat} {res1 : (List Int)} {res2 : Int}
    (hl1 : l1.length ≤ c1 ∧ c1 ≤ maxLen) (hA1 : Rds r_api_Ticket μ L A1 l1) (h : ticket_Active l1 = some (res1, res2))
    (hR : ∀ (A0 : Option Addr) (c0 : Nat) (ch0 : Seg), Own rInt 3 μ (.slice A0 res1.length c0) res1 ch0 → R (.tuple #[.slice A0 res1.length c0, .int .i64 res2]) μ (ch0 :: L)) :
    Fn Try.prog 17 [.slice A1 l1.length c1] μ (L) R := by
  unfold ticket_Active at h
  refine Fn.of_body Tt_ok Try.func17 (by kernel_rfl) rfl Try.ntmps17 (by simp) ?_
  simp only [Try.f17, argFr, List.zipIdx, List.map, Nat.reduceAdd]
  refine WP.seq_k (fun K388 hK388 => WP.region Tt_ok (O_cons (O_read rfl (R_assign rfl (P_some rfl (O_cons (O_read rfl (R_assign rfl (P_some rfl (O_nil (hK388 _ _ _ (WP.seq_k (fun K391 hK391 => WP.region Tt_ok ?_)))))))))))))
  refine O_cons (O_read rfl (R_move rfl (P_some rfl (O_cons (O_call (all := [.slice A1 l1.length c1]) rfl rfl rfl ?_)))))
  obtain ⟨⟨r1, r2⟩, hx1, h⟩ := obind h
  replace h := oun_mk h
  refine ticket_places_fn hl1 hA1 hx1 (fun pv1 so1 hM1 => P_some rfl (O_cons (O_read rfl (R_move rfl (P_some rfl (O_cons (O_read rfl (R_ext rfl rfl (P_some rfl (O_cons (O_read rfl (R_ext rfl rfl (P_some rfl ?_)))))))))))))
  refine O_cons (O_read rfl (R_assign rfl (P_some rfl (O_cons (O_read rfl (R_assign rfl (P_some rfl (O_nil (hK391 _ _ _ (WP.seq_k (fun K511 hK511 => WP.seq_k (fun K512 hK512 => WP.region Tt_ok (O_cons ?_)))))))))))))
  refine O_read rfl (R_move rfl (P_some rfl (O_cons (O_read rfl (R_neqD rfl rfl (P_some rfl (O_nil (hK512 _ _ _ ?_))))))))
  refine W_cond_v (b := !(decide (r2 = 0))) rfl (fun hc1 => ?_) (fun hc1 => ?_)
  · replace h := cond_t hc1 h
    refine WP.seq_k (fun K513 hK513 => WP.region Tt_ok (O_cons (O_read rfl (R_move rfl (P_some rfl (O_cons (O_read rfl (R_assign rfl (P_some rfl (O_cons (O_read rfl (R_assign rfl (P_some rfl ?_)))))))))))))
    refine O_nil (hK513 _ _ _ (WP.ret ?_))
    have e_ := Option.some.inj h
    obtain ⟨e0a_, e0b_⟩ := Prod.mk.inj e_
    clear e_
    subst e0a_
    subst e0b_
    refine S_tmp rfl (S_tmp rfl (S_nil (Upd.selS [none] 1 ?_)))
    exact Upd.done (hR none 0 [] (Own.nil))
  replace h := cond_f hc1 h
  refine WP.skip (hK511 _ _ _ (WP.seq_k (fun K518 hK518 => WP.seq_k (fun K519 hK519 => WP.region Tt_ok (O_cons (O_read rfl (R_move rfl (P_some rfl (O_cons (O_read rfl (R_lenS rfl rfl rfl (P_some rfl (O_cons ?_)))))))))))))
  refine O_read rfl (R_move rfl (P_some rfl (O_nil (hK519 _ _ _ ?_))))
  obtain ⟨m1, hm_1, h⟩ := obind h
  obtain ⟨g1, es1, cn1, rfl, rfl, hM2⟩ := MapO.get hM1 hm_1
  obtain ⟨o521, h521, h⟩ := obind h
  refine WP.cutK (fun fr_ μ_ L_ => ∃ (m3 : (List (Int × Int))) (es4 : Array MapEntry) (cn3 : Nat), m3 = o521 ∧ SubFr [(4, .map (some g1))] fr_ ∧ SegSub ([(g1, .map es4 cn3)] :: L) L_ ∧ MapB (Value.int .i64) es4 cn3 m3 ∧ μ = μ_) ?_ ?_
  · refine WP.block (WP.iter h521 (fun (j_ : (List (Int × Int)) × Int) fr_ μ_ L_ => ounP j_ fun m2 v1 => ∃ (es2 : Array MapEntry) (cn2 : Nat), SubFr [(4, .map (some g1)), (16, .slice A1 l1.length c1), (17, .int .i64 ((l1.length : Nat) : Int)), (18, .int .i64 v1)] fr_ ∧ SegSub ([(g1, .map es2 cn2)] :: L) L_ ∧ MapB (Value.int .i64) es2 cn2 m2 ∧ μ = μ_) ⟨es1, cn1, SubFr.of ⟨rfl, rfl, rfl, rfl, trivial⟩, SegSub.sel _ [some 0] 1, (hM2), rfl⟩ ?_)
    rintro ⟨m2, v1⟩ q530 fr530 μ530 L530 hm530 ⟨es2, cn2, hF530, hS530, hM3, hu530⟩ hb530 hq530
    unfold ticket_Active_l1 at hb530
    replace hb530 := oun_mk hb530
    subst hu530
    refine WP.at hF530 hS530 (WP.seq_k (fun K533 hK533 => WP.region Tt_ok (O_cons (O_read rfl (R_lssD rfl rfl (P_some rfl (O_nil (hK533 _ _ _ (WP.seq_k (fun K534 hK534 => ?_))))))))))
    refine W_cond_v (b := (decide (v1 < ((l1.length : Nat) : Int)))) rfl (fun hc2 => ?_) (fun hc2 => ?_)
    · replace hb530 := cond_t hc2 hb530
      refine WP.skip (hK534 _ _ _ (WP.seq_k (fun K535 hK535 => WP.block (WP.seq_k (fun K536 hK536 => WP.region Tt_ok (O_cons ?_))))))
      obtain ⟨x1, hx2, hb530⟩ := obind hb530
      obtain ⟨a1, cs1, hA2, hr1, _, hc3⟩ := Rds.getI hA1 hx2
      obtain rfl := hr1
      refine O_read rfl (R_iaG rfl rfl rfl rfl rfl rfl ⟨(getI_lt hx2).1, (getI_lt hx2).2.1⟩ hA2 (P_some rfl (O_cons (O_read rfl (R_loadA rfl rfl rfl rfl (Ex.mk [.int .i64 x1.ID, .int .i64 x1.Scale, .int .i64 x1.At, .int .i64 x1.Gross, .int .i64 x1.Tare, .int .i64 x1.Replaces] ⟨rfl, (hc3.push)⟩ (P_some rfl (O_cons (O_alloc (cs := #[.int .i64 0, .int .i64 0, .int .i64 0, .int .i64 0, .int .i64 0, .int .i64 0]) rfl rfl (fun g2 => P_some rfl (O_cons (O_store (vs := [.int .i64 x1.ID, .int .i64 x1.Scale, .int .i64 x1.At, .int .i64 x1.Gross, .int .i64 x1.Tare, .int .i64 x1.Replaces]) rfl rfl rfl rfl rfl rfl (ST_ (L' := ([(g2, .cells #[.int .i64 x1.ID, .int .i64 x1.Scale, .int .i64 x1.At, .int .i64 x1.Gross, .int .i64 x1.Tare, .int .i64 x1.Replaces] 29 (0, 0))] :: [(g1, .map es2 cn2)] :: L)) 0 0 rfl rfl rfl rfl ?_)))))))))))))
      refine P_none (O_nil (hK536 _ _ _ (WP.region Tt_ok (O_cons (O_read rfl (R_move rfl (P_some rfl (O_cons (O_read rfl (R_fa0 (o' := 5) rfl rfl rfl rfl rfl rfl (P_some rfl (O_cons (O_read rfl ?_)))))))))))))
      refine R_load rfl rfl rfl (Ex.mk _ (Cell.seg 0 0 rfl rfl rfl) (P_some rfl (O_cons (O_delete rfl (sem_delB Tt_ok rfl rfl rfl rfl 1 rfl hM3 fun es3 hM4 => P_none (O_nil (hK535 _ _ _ (WP.region Tt_ok (O_cons (O_read rfl (R_add rfl rfl (P_some rfl ?_))))))))))))
      refine O_cons (O_read rfl (R_move rfl (P_some rfl (O_nil ?_))))
      have e_ := Option.some.inj hb530
      subst e_
      exact ⟨_, rfl, es3, cn2, SubFr.of ⟨rfl, rfl, rfl, rfl, trivial⟩, SegSub.sel _ [some 1] 2, (hM4), rfl⟩
    replace hb530 := cond_f hc2 hb530
    refine WP.exit (B_here ?_)
    have e_ := Option.some.inj hb530
    subst e_
    have hq_ := hq530 _ rfl
    subst hq_
    exact ⟨m2, es2, cn2, rfl, SubFr.of ⟨rfl, trivial⟩, SegSub.sel _ [some 0] 1, (hM3), rfl⟩
  rintro fr521 μ521 L521 hm521 ⟨m3, es4, cn3, ho521, hF521, hS521, hM5, hu521⟩
  subst ho521
  subst hu521
  refine hK518 _ _ _ (WP.at hF521 hS521 (WP.seq_k (fun K541 hK541 => WP.region Tt_ok (O_cons (O_read rfl (R_move rfl (P_some rfl (O_cons (O_call (all := [.map (some g1)]) rfl rfl rfl (valuesI_fn fun g3 => P_some rfl (O_cons (O_call (all := [.func (.func 50) #[] #[.pointer (some ⟨g3, 0, none⟩)]]) rfl rfl rfl ?_))))))))))))
  obtain ⟨l2, hs1, h⟩ := obind h
  refine sortedVals_fn 0 1 rfl rfl hM5 hs1 fun A2 c2 ch1 hO1 => P_some rfl (O_cons (O_read rfl (R_assign rfl (P_some rfl (O_cons (O_read rfl (R_assign rfl (P_some rfl (O_nil (hK541 _ _ _ (WP.ret ?_)))))))))))
  have e_ := Option.some.inj h
  obtain ⟨e0a_, e0b_⟩ := Prod.mk.inj e_
  clear e_
  subst e0a_
  subst e0b_
  refine S_tmp rfl (S_tmp rfl (S_nil (Upd.selS [some 0] 3 ?_)))
  exact Upd.done (hR A2 c2 ch1 (hO1))

theorem ticket_Chain_fn {μ : Gh} {L : List Seg} {R : Value → Gh → List Seg → Prop} {F : Nat} {l1 : (List T_api_Ticket)} {id1 : Int} {A1 : Option Addr} {c1 : Nat} {res1 : (List Int)} {res2 : Int}
    (hl1 : l1.length ≤ c1 ∧ c1 ≤ maxLen) (hA1 : Rds r_api_Ticket μ L A1 l1) (h : ticket_Chain F l1 id1 = some (res1, res2))
    (hR : ∀ (A0 : Option Addr) (c0 : Nat) (ch0 : Seg), Own rInt 3 μ (.slice A0 res1.length c0) res1 ch0 → R (.tuple #[.slice A0 res1.length c0, .int .i64 res2]) μ (ch0 :: L)) :
    Fn Try.prog 19 [.slice A1 l1.length c1, .int .i64 id1] μ (L) R := by
  unfold ticket_Chain at h
  refine Fn.of_body Tt_ok Try.func19 (by kernel_rfl) rfl Try.ntmps19 (by simp) ?_
  simp only [Try.f19, argFr, List.zipIdx, List.map, Nat.reduceAdd]
  refine WP.seq_k (fun K547 hK547 => WP.region Tt_ok (O_cons (O_read rfl (R_assign rfl (P_some rfl (O_cons (O_read rfl (R_assign rfl (P_some rfl (O_nil (hK547 _ _ _ (WP.seq_k (fun K550 hK550 => WP.region Tt_ok ?_)))))))))))))
  refine O_cons (O_read rfl (R_move rfl (P_some rfl (O_cons (O_call (all := [.slice A1 l1.length c1]) rfl rfl rfl ?_)))))
  obtain ⟨⟨r1, r2⟩, hx1, h⟩ := obind h
  replace h := oun_mk h
  refine ticket_places_fn hl1 hA1 hx1 (fun pv1 so1 hM1 => P_some rfl (O_cons (O_read rfl (R_move rfl (P_some rfl (O_cons (O_read rfl (R_ext rfl rfl (P_some rfl (O_cons (O_read rfl (R_ext rfl rfl (P_some rfl ?_)))))))))))))
  refine O_cons (O_read rfl (R_assign rfl (P_some rfl (O_cons (O_read rfl (R_assign rfl (P_some rfl (O_nil (hK550 _ _ _ (WP.seq_k (fun K552 hK552 => WP.seq_k (fun K553 hK553 => WP.region Tt_ok (O_cons ?_)))))))))))))
  refine O_read rfl (R_move rfl (P_some rfl (O_cons (O_read rfl (R_neqD rfl rfl (P_some rfl (O_nil (hK553 _ _ _ ?_))))))))
  refine W_cond_v (b := !(decide (r2 = 0))) rfl (fun hc1 => ?_) (fun hc1 => ?_)
  · replace h := cond_t hc1 h
    refine WP.seq_k (fun K554 hK554 => WP.region Tt_ok (O_cons (O_read rfl (R_move rfl (P_some rfl (O_cons (O_read rfl (R_assign rfl (P_some rfl (O_cons (O_read rfl (R_assign rfl (P_some rfl ?_)))))))))))))
    refine O_nil (hK554 _ _ _ (WP.ret ?_))
    have e_ := Option.some.inj h
    obtain ⟨e0a_, e0b_⟩ := Prod.mk.inj e_
    clear e_
    subst e0a_
    subst e0b_
    refine S_tmp rfl (S_tmp rfl (S_nil (Upd.selS [none] 1 ?_)))
    exact Upd.done (hR none 0 [] (Own.nil))
  replace h := cond_f hc1 h
  refine WP.skip (hK552 _ _ _ (WP.seq_k (fun K559 hK559 => ?_)))
  obtain ⟨m1, hm_1, h⟩ := obind h
  obtain ⟨g1, es1, cn1, rfl, rfl, hM2⟩ := MapO.get hM1 hm_1
  refine WP.region Tt_ok (O_cons (O_read rfl (R_move rfl (P_some rfl (O_cons (O_read rfl (R_move rfl (P_some rfl (O_cons (O_read rfl (R_look rfl rfl rfl rfl rfl rfl rfl rfl (Ex.mk _ (hM2.look (ObjAt.seg 0 0 rfl rfl) (zb := 0) rfl id1) (P_some rfl ?_)))))))))))))
  refine O_cons (O_read rfl (R_move rfl (P_some rfl (O_cons (O_read rfl (R_ext rfl rfl (P_some rfl (O_cons (O_read rfl (R_ext rfl rfl (P_some rfl (O_cons (O_read rfl ?_)))))))))))))
  refine R_assign rfl (P_some rfl (O_cons (O_read rfl (R_assign rfl (P_some rfl (O_nil (hK559 _ _ _ (WP.seq_k (fun K561 hK561 => WP.seq_k (fun K562 hK562 => WP.region Tt_ok (O_cons (O_read rfl (R_move rfl ?_)))))))))))))
  refine P_some rfl (O_cons (O_read rfl (R_not rfl (P_some rfl (O_nil (hK562 _ _ _ ?_))))))
  refine W_cond_v (b := !((mget id1 m1).isSome)) rfl (fun hc2 => ?_) (fun hc2 => ?_)
  · replace h := cond_t hc2 h
    refine WP.seq_k (fun K563 hK563 => WP.region Tt_ok (O_cons (O_read rfl (R_assign rfl (P_some rfl (O_cons (O_read rfl (R_assign rfl (P_some rfl (O_nil (hK563 _ _ _ (WP.ret ?_))))))))))))
    have e_ := Option.some.inj h
    obtain ⟨e0a_, e0b_⟩ := Prod.mk.inj e_
    clear e_
    subst e0a_
    subst e0b_
    refine S_tmp rfl (S_tmp rfl (S_nil (Upd.selS [none] 1 ?_)))
    exact Upd.done (hR none 0 [] (Own.nil))
  replace h := cond_f hc2 h
  refine WP.skip (hK561 _ _ _ (WP.seq_k (fun K566 hK566 => WP.region Tt_ok (O_cons (O_read rfl (R_assign rfl (P_some rfl (O_nil (hK566 _ _ _ (WP.seq_k (fun K569 hK569 => ?_)))))))))))
  obtain ⟨o570, h570, h⟩ := obind h
  refine WP.cutK (fun fr_ μ_ L_ => ∃ (out2 : (List Int)) (A4 : Option Addr) (c4 : Nat) (ch3 : Seg), out2 = o570 ∧ SubFr [(10, .slice A4 out2.length c4)] fr_ ∧ SegSub (ch3 :: L) L_ ∧ Own rInt 3 μ_ (.slice A4 out2.length c4) out2 ch3 ∧ μ = μ_) ?_ ?_
  · refine WP.block (WP.iter h570 (fun (j_ : Int × Bool × (List Int)) fr_ μ_ L_ => ounP j_ fun i1 j_ => ounP j_ fun is1 out1 => ∃ (A2 : Option Addr) (c2 : Nat) (ch1 : Seg), SubFr [(0, .slice A1 l1.length c1), (6, .map (some g1)), (8, .int .i64 i1), (9, .bool is1), (10, .slice A2 out1.length c2)] fr_ ∧ SegSub ([(g1, .map es1 cn1)] :: ch1 :: L) L_ ∧ Own rInt 3 μ_ (.slice A2 out1.length c2) out1 ch1 ∧ μ = μ_) ⟨none, 0, [], SubFr.of ⟨rfl, rfl, rfl, rfl, rfl, trivial⟩, SegSub.sel _ [some 0, none] 1, (Own.nil), rfl⟩ ?_)
    rintro ⟨i1, is1, out1⟩ q578 fr578 μ578 L578 hm578 ⟨A2, c2, ch1, hF578, hS578, hO1, hu578⟩ hb578 hq578
    unfold ticket_Chain_l1 at hb578
    replace hb578 := oun_mk hb578
    replace hb578 := oun_mk hb578
    subst hu578
    refine WP.at hF578 hS578 (WP.seq_k (fun K581 hK581 => WP.seq_k (fun K582 hK582 => WP.region Tt_ok (O_cons (O_read rfl (R_move rfl (P_some rfl (O_nil (hK582 _ _ _ ?_)))))))))
    refine W_cond_v (b := is1) rfl (fun hc3 => ?_) (fun hc3 => ?_)
    · replace hb578 := cond_t hc3 hb578
      refine WP.skip (hK581 _ _ _ (WP.block (WP.seq_k (fun K583 hK583 => WP.region Tt_ok (O_cons (O_read rfl (R_move rfl (P_some rfl (O_cons (O_read rfl (R_move rfl (P_some rfl (O_cons ?_)))))))))))))
      refine O_bsl (z := [.int .i64 0]) rfl rfl rfl rfl rfl rfl rfl (F_cons (cells' := [.int .i64 i1]) rfl rfl rfl rfl (F_nil (fun g2 => P_some rfl (O_cons (O_append rfl ?_)))))
      obtain ⟨l2, hz1, hb578⟩ := obind hb578
      refine sem_appR (r := rInt) Tt_ok rfl rfl rfl rfl (by decide) rfl rfl 2 rfl hO1 rfl (Own.rds (L := ([(g2, .cells #[.int .i64 i1] 3 (0, 0))] :: [(g1, .map es1 cn1)] :: ch1 :: L)) (Own.lit (r := rInt) (e := 3) (g := g2) (xs := [i1]) (cs := [.int .i64 i1]) (css := [[.int .i64 i1]]) rfl (All2.cons (rfl) (All2.nil)) rfl rfl) 0 rfl) hz1 fun A3 c3 ch2 hO2 => P_some rfl (O_cons (O_read rfl (R_assign rfl (P_some rfl (O_nil (hK583 _ _ _ (WP.region Tt_ok (O_cons (O_read rfl (R_move rfl (P_some rfl (O_cons ?_))))))))))))
      refine O_read rfl (R_move rfl (P_some rfl (O_cons (O_read rfl (R_move rfl (P_some rfl (O_cons ?_)))))))
      obtain ⟨x1, hx2, hb578⟩ := obind hb578
      obtain ⟨a1, cs1, hA2, hr1, _, hc4⟩ := Rds.getI hA1 hx2
      obtain rfl := hr1
      refine O_read rfl (R_iaG rfl rfl rfl rfl rfl rfl ⟨(getI_lt hx2).1, (getI_lt hx2).2.1⟩ hA2 (P_some rfl (O_cons (O_read rfl (R_fa rfl rfl rfl rfl rfl (P_some rfl (O_cons (O_read rfl (R_load rfl rfl rfl (Ex.mk _ (Cell.of_cells (hc4.push.push.push) 5 rfl) (P_some rfl (O_cons (O_read rfl ?_)))))))))))))
      refine R_look rfl rfl rfl rfl rfl rfl rfl rfl (Ex.mk _ (hM2.look (ObjAt.seg 1 0 rfl rfl) (zb := 0) rfl x1.Replaces) (P_some rfl (O_cons (O_read rfl (R_move rfl (P_some rfl (O_cons (O_read rfl (R_ext rfl rfl (P_some rfl (O_cons (O_read rfl (R_ext rfl rfl ?_)))))))))))))
      refine P_some rfl (O_cons (O_read rfl (R_assign rfl (P_some rfl (O_cons (O_read rfl (R_assign rfl (P_some rfl (O_nil ?_)))))))))
      have e_ := Option.some.inj hb578
      subst e_
      exact ⟨_, rfl, A3, c3, ch2, SubFr.of ⟨rfl, rfl, rfl, rfl, rfl, trivial⟩, SegSub.sel _ [some 1, some 2] 3, (hO2), rfl⟩
    replace hb578 := cond_f hc3 hb578
    refine WP.exit (B_here ?_)
    have e_ := Option.some.inj hb578
    subst e_
    have hq_ := hq578 _ rfl
    subst hq_
    exact ⟨out1, A2, c2, ch1, rfl, SubFr.of ⟨rfl, trivial⟩, SegSub.sel _ [some 1] 2, (hO1), rfl⟩
  rintro fr570 μ570 L570 hm570 ⟨out2, A4, c4, ch3, ho570, hF570, hS570, hO3, hu570⟩
  subst ho570
  subst hu570
  refine hK569 _ _ _ (WP.at hF570 hS570 (WP.seq_k (fun K587 hK587 => WP.region Tt_ok (O_cons (O_read rfl (R_move rfl (P_some rfl (O_cons (O_call (all := [.slice A4 out2.length c4]) rfl rfl rfl ?_)))))))))
  obtain ⟨l3, hs1, h⟩ := obind h
  refine revI_fn Try.func36 (by kernel_rfl) rfl Try.slices_Reverse_int Try.slices_Reverse_int_empty 0 rfl hO3 hs1 fun ch4 hO4 => ?_
  rw [length_mapO (fun l => List.length_reverse) hs1]
  refine P_some rfl (O_nil (hK587 _ _ _ (WP.seq_k (fun K589 hK589 => WP.region Tt_ok (O_cons (O_read rfl (R_move rfl (P_some rfl (O_cons (O_read rfl (R_assign rfl (P_some rfl (O_cons ?_)))))))))))))
  refine O_read rfl (R_assign rfl (P_some rfl (O_nil (hK589 _ _ _ (WP.ret ?_)))))
  have e_ := Option.some.inj h
  obtain ⟨e0a_, e0b_⟩ := Prod.mk.inj e_
  clear e_
  subst e0a_
  subst e0b_
  refine S_tmp rfl (S_tmp rfl (S_nil (Upd.selS [some 0] 1 ?_)))
  exact Upd.done (hR A4 c4 ch4 (hO4))

theorem ticket_Check_fn {μ : Gh} {L : List Seg} {R : Value → Gh → List Seg → Prop} {F : Nat} {s1 : (List T_api_Scale)} {l1 : (List T_api_Ticket)} {A1 : Option Addr} {c1 : Nat} {A2 : Option Addr} {c2 : Nat} {res1 : Int}
    (hl1 : s1.length ≤ c1 ∧ c1 ≤ maxLen) (hA1 : Rds r_api_Scale μ L A1 s1) (hl2 : l1.length ≤ c2 ∧ c2 ≤ maxLen) (hA2 : Rds r_api_Ticket μ L A2 l1) (h : ticket_Check F s1 l1 = some res1)
    (hR : R (.int .i64 res1) μ (L)) :
    Fn Try.prog 13 [.slice A1 s1.length c1, .slice A2 l1.length c2] μ (L) R := by
  unfold ticket_Check at h
  refine Fn.of_body Tt_ok Try.func13 (by kernel_rfl) rfl Try.ntmps13 (by simp) ?_
  simp only [Try.f13, argFr, List.zipIdx, List.map, Nat.reduceAdd]
  refine WP.seq_k (fun K601 hK601 => WP.region Tt_ok (O_cons (O_read rfl (R_assign rfl (P_some rfl (O_nil (hK601 _ _ _ (WP.seq_k (fun K602 hK602 => WP.seq_k (fun K603 hK603 => WP.region Tt_ok (O_cons (O_read rfl (R_move rfl ?_)))))))))))))
  refine P_some rfl (O_cons (O_call (all := [.slice A1 s1.length c1]) rfl rfl rfl ?_))
  obtain ⟨r1, hx1, h⟩ := obind h
  refine ticket_scales_fn hl1 hA1 hx1 ((P_some rfl (O_cons (O_read rfl (R_assign rfl (P_some rfl (O_nil (hK603 _ _ _ (WP.seq_k (fun K604 hK604 => WP.region Tt_ok (O_cons (O_read rfl (R_move rfl (P_some rfl ?_))))))))))))))
  refine O_cons (O_read rfl (R_neqD rfl rfl (P_some rfl (O_nil (hK604 _ _ _ ?_)))))
  refine W_cond_v (b := !(decide (r1 = 0))) rfl (fun hc1 => ?_) (fun hc1 => ?_)
  · replace h := cond_t hc1 h
    refine WP.seq_k (fun K605 hK605 => WP.region Tt_ok (O_cons (O_read rfl (R_move rfl (P_some rfl (O_cons (O_read rfl (R_assign rfl (P_some rfl (O_nil (hK605 _ _ _ (WP.ret ?_))))))))))))
    have e_ := Option.some.inj h
    subst e_
    refine S_tmp rfl (S_nil (Upd.selS [] 0 ?_))
    exact Upd.done hR
  replace h := cond_f hc1 h
  refine WP.skip (hK602 _ _ _ (WP.seq_k (fun K606 hK606 => WP.seq_k (fun K607 hK607 => WP.region Tt_ok (O_cons (O_read rfl (R_move rfl (P_some rfl (O_cons (O_read rfl (R_lenS rfl rfl rfl (P_some rfl (O_cons ?_)))))))))))))
  refine O_read rfl (R_gtrD rfl rfl (P_some rfl (O_nil (hK607 _ _ _ ?_))))
  refine W_cond_v (b := (decide (512 < ((l1.length : Nat) : Int)))) rfl (fun hc2 => ?_) (fun hc2 => ?_)
  · replace h := cond_t hc2 h
    refine WP.seq_k (fun K608 hK608 => WP.region Tt_ok (O_cons (O_read rfl (R_assign rfl (P_some rfl (O_nil (hK608 _ _ _ (WP.ret ?_))))))))
    have e_ := Option.some.inj h
    subst e_
    refine S_tmp rfl (S_nil (Upd.selS [] 0 ?_))
    exact Upd.done hR
  replace h := cond_f hc2 h
  refine WP.skip (hK606 _ _ _ (WP.seq_k (fun K609 hK609 => WP.seq_k (fun K610 hK610 => WP.region Tt_ok (O_cons (O_read rfl (R_move rfl (P_some rfl (O_cons (O_read rfl (R_lenS rfl rfl rfl (P_some rfl (O_cons ?_)))))))))))))
  refine O_read rfl (R_move rfl (P_some rfl (O_nil (hK610 _ _ _ ?_))))
  obtain ⟨o611, h611, h⟩ := obind h
  refine WP.cutK (fun fr_ μ_ L_ => (.inl ()) = o611 ∧ SubFr [(1, .slice A2 l1.length c2)] fr_ ∧ SegSub (L) L_ ∧ μ = μ_) ?_ ?_
  · refine WP.block (WP.iter h611 (fun (v1 : Int) fr_ μ_ L_ => SubFr [(0, .slice A1 s1.length c1), (1, .slice A2 l1.length c2), (21, .slice A2 l1.length c2), (22, .int .i64 ((l1.length : Nat) : Int)), (23, .int .i64 v1)] fr_ ∧ SegSub (L) L_ ∧ μ = μ_) ⟨SubFr.of ⟨rfl, rfl, rfl, rfl, rfl, trivial⟩, SegSub.sel _ [] 0, rfl⟩ ?_)
    rintro v1 q626 fr626 μ626 L626 hm626 ⟨hF626, hS626, hu626⟩ hb626 hq626
    unfold ticket_Check_l1 at hb626
    subst hu626
    refine WP.at hF626 hS626 (WP.seq_k (fun K627 hK627 => WP.region Tt_ok (O_cons (O_read rfl (R_lssD rfl rfl (P_some rfl (O_nil (hK627 _ _ _ (WP.seq_k (fun K628 hK628 => ?_))))))))))
    refine W_cond_v (b := (decide (v1 < ((l1.length : Nat) : Int)))) rfl (fun hc3 => ?_) (fun hc3 => ?_)
    · replace hb626 := cond_t hc3 hb626
      refine WP.skip (hK628 _ _ _ (WP.seq_k (fun K629 hK629 => WP.block (WP.seq_k (fun K630 hK630 => WP.region Tt_ok (O_cons ?_))))))
      obtain ⟨x1, hx2, hb626⟩ := obind hb626
      obtain ⟨a1, cs1, hA3, hr1, _, hc4⟩ := Rds.getI hA2 hx2
      obtain rfl := hr1
      refine O_read rfl (R_iaG rfl rfl rfl rfl rfl rfl ⟨(getI_lt hx2).1, (getI_lt hx2).2.1⟩ hA3 (P_some rfl (O_cons (O_read rfl (R_loadA rfl rfl rfl rfl (Ex.mk [.int .i64 x1.ID, .int .i64 x1.Scale, .int .i64 x1.At, .int .i64 x1.Gross, .int .i64 x1.Tare, .int .i64 x1.Replaces] ⟨rfl, hc4⟩ (P_some rfl (O_cons (O_alloc (cs := #[.int .i64 0, .int .i64 0, .int .i64 0, .int .i64 0, .int .i64 0, .int .i64 0]) rfl rfl (fun g1 => P_some rfl (O_cons (O_store (vs := [.int .i64 x1.ID, .int .i64 x1.Scale, .int .i64 x1.At, .int .i64 x1.Gross, .int .i64 x1.Tare, .int .i64 x1.Replaces]) rfl rfl rfl rfl rfl rfl (ST_ (L' := ([(g1, .cells #[.int .i64 x1.ID, .int .i64 x1.Scale, .int .i64 x1.At, .int .i64 x1.Gross, .int .i64 x1.Tare, .int .i64 x1.Replaces] 29 (0, 0))] :: L)) 0 0 rfl rfl rfl rfl ?_)))))))))))))
      refine P_none (O_nil (hK630 _ _ _ (WP.seq_k (fun K633 hK633 => WP.region Tt_ok (O_cons (O_read rfl (R_move rfl (P_some rfl (O_cons (O_read rfl (R_loadA rfl rfl rfl rfl (LA_ (vs := [.int .i64 x1.ID, .int .i64 x1.Scale, .int .i64 x1.At, .int .i64 x1.Gross, .int .i64 x1.Tare, .int .i64 x1.Replaces]) 0 0 rfl rfl rfl rfl (P_some rfl ?_)))))))))))))
      refine O_cons (O_call (all := [.slice A1 s1.length c1, .agg #[.int .i64 x1.ID, .int .i64 x1.Scale, .int .i64 x1.At, .int .i64 x1.Gross, .int .i64 x1.Tare, .int .i64 x1.Replaces]]) rfl rfl rfl ?_)
      obtain ⟨⟨r2, r3, r4⟩, hx3, hb626⟩ := obind hb626
      replace hb626 := oun_mk hb626
      replace hb626 := oun_mk hb626
      refine ticket_weighed_fn hl1 (Rds.push hA1) hx3 ((P_some rfl (O_cons (O_read rfl (R_move rfl (P_some rfl (O_cons (O_read rfl (R_ext rfl rfl (P_some rfl (O_cons (O_read rfl (R_ext rfl rfl (P_some rfl ?_))))))))))))))
      refine O_cons (O_read rfl (R_ext rfl rfl (P_some rfl (O_cons (O_alloc (cs := #[.int .i64 0, .int .i64 0]) rfl rfl (fun g2 => P_some rfl (O_cons (O_alloc (cs := #[.int .i64 0, .int .i64 0]) rfl rfl (fun g3 => P_some rfl (O_cons (O_store (vs := [.int .i64 r2.Lo, .int .i64 r2.Hi]) rfl rfl rfl rfl rfl rfl (ST_ (L' := ([(g3, .cells #[.int .i64 0, .int .i64 0] 31 (0, 0))] :: [(g2, .cells #[.int .i64 r2.Lo, .int .i64 r2.Hi] 31 (0, 0))] :: [(g1, .cells #[.int .i64 x1.ID, .int .i64 x1.Scale, .int .i64 x1.At, .int .i64 x1.Gross, .int .i64 x1.Tare, .int .i64 x1.Replaces] 29 (0, 0))] :: L)) 1 0 rfl rfl rfl rfl (P_none ?_)))))))))))))
      refine O_cons (O_store (vs := [.int .i64 r3.Lo, .int .i64 r3.Hi]) rfl rfl rfl rfl rfl rfl (ST_ (L' := ([(g3, .cells #[.int .i64 r3.Lo, .int .i64 r3.Hi] 31 (0, 0))] :: [(g2, .cells #[.int .i64 r2.Lo, .int .i64 r2.Hi] 31 (0, 0))] :: [(g1, .cells #[.int .i64 x1.ID, .int .i64 x1.Scale, .int .i64 x1.At, .int .i64 x1.Gross, .int .i64 x1.Tare, .int .i64 x1.Replaces] 29 (0, 0))] :: L)) 0 0 rfl rfl rfl rfl (P_none (O_cons (O_read rfl (R_assign rfl (P_some rfl (O_nil (hK633 _ _ _ (WP.seq_k (fun K638 hK638 => WP.region Tt_ok (O_cons (O_read rfl ?_)))))))))))))
      refine R_move rfl (P_some rfl (O_cons (O_read rfl (R_neqD rfl rfl (P_some rfl (O_nil (hK638 _ _ _ ?_)))))))
      refine W_cond_v (b := !(decide (r4 = 0))) rfl (fun hc5 => ?_) (fun hc5 => ?_)
      · replace hb626 := cond_t hc5 hb626
        refine WP.seq_k (fun K639 hK639 => WP.region Tt_ok (O_cons (O_read rfl (R_move rfl (P_some rfl (O_cons (O_read rfl (R_assign rfl (P_some rfl (O_nil (hK639 _ _ _ (WP.ret ?_))))))))))))
        have e_ := Option.some.inj hb626
        subst e_
        have hq_ := hq626 _ rfl
        subst hq_
        replace h := osum_r h
        have e_ := Option.some.inj h
        subst e_
        refine S_tmp rfl (S_nil (Upd.selS [] 3 ?_))
        exact Upd.done hR
      replace hb626 := cond_f hc5 hb626
      refine WP.skip (hK629 _ _ _ (WP.region Tt_ok (O_cons (O_read rfl (R_add rfl rfl (P_some rfl (O_cons (O_read rfl (R_move rfl (P_some rfl (O_nil ?_)))))))))))
      have e_ := Option.some.inj hb626
      subst e_
      exact ⟨_, rfl, SubFr.of ⟨rfl, rfl, rfl, rfl, rfl, trivial⟩, SegSub.sel _ [] 3, rfl⟩
    replace hb626 := cond_f hc3 hb626
    refine WP.exit (B_here ?_)
    have e_ := Option.some.inj hb626
    subst e_
    have hq_ := hq626 _ rfl
    subst hq_
    exact ⟨rfl, SubFr.of ⟨rfl, trivial⟩, SegSub.sel _ [] 0, rfl⟩
  rintro fr611 μ611 L611 hm611 ⟨ho611, hF611, hS611, hu611⟩
  subst ho611
  replace h := osum_l h
  subst hu611
  refine hK609 _ _ _ (WP.at hF611 hS611 (WP.seq_k (fun K640 hK640 => WP.region Tt_ok (O_cons (O_read rfl (R_move rfl (P_some rfl (O_cons (O_call (all := [.slice A2 l1.length c2]) rfl rfl rfl ?_)))))))))
  obtain ⟨⟨r5, r6⟩, hx4, h⟩ := obind h
  replace h := oun_mk h
  refine ticket_places_fn hl2 hA2 hx4 (fun pv1 so1 hM1 => P_some rfl (O_cons (O_read rfl (R_move rfl (P_some rfl (O_cons (O_read rfl (R_ext rfl rfl (P_some rfl (O_cons (O_read rfl (R_ext rfl rfl (P_some rfl ?_)))))))))))))
  refine O_cons (O_read rfl (R_assign rfl (P_some rfl (O_cons (O_read rfl (R_assign rfl (P_some rfl (O_nil (hK640 _ _ _ (WP.seq_k (fun K642 hK642 => WP.region Tt_ok (O_cons (O_read rfl ?_)))))))))))))
  refine R_move rfl (P_some rfl (O_cons (O_read rfl (R_assign rfl (P_some rfl (O_nil (hK642 _ _ _ (WP.ret ?_))))))))
  have e_ := Option.some.inj h
  subst e_
  refine S_tmp rfl (S_nil (Upd.selS [] 1 ?_))
  exact Upd.done hR

theorem span_Valid_fn {μ : Gh} {L : List Seg} {R : Value → Gh → List Seg → Prop}  {s1 : T_api_Span}  {res1 : Bool}
     (h : span_Valid s1 = some res1)
    (hR : R (.bool res1) μ (L)) :
    Fn Try.prog 64 [.agg #[.int .i64 s1.Lo, .int .i64 s1.Hi]] μ (L) R := by
  unfold span_Valid at h
  refine Fn.of_body Tt_ok Try.func64 (by kernel_rfl) rfl Try.ntmps64 (by simp) ?_
  simp only [Try.f64, argFr, List.zipIdx, List.map, Nat.reduceAdd]
  refine WP.seq_k (fun K762 hK762 => WP.region Tt_ok (O_cons (O_box (cs := #[.int .i64 s1.Lo, .int .i64 s1.Hi]) rfl rfl (fun g1 => P_some rfl (O_cons (O_read rfl (R_assign rfl (P_some rfl (O_nil (hK762 _ _ _ (WP.seq_k (fun K764 hK764 => ?_))))))))))))
  obtain ⟨o765, h765, h⟩ := obind h
  refine WP.cutK (fun fr_ μ_ L_ => ∃ (v1 : Bool), v1 = o765 ∧ SubFr [(2, .bool v1)] fr_ ∧ SegSub (L) L_ ∧ μ = μ_) ?_ ?_
  · refine WP.region Tt_ok (O_cons (O_read rfl (R_fa0 (o' := 0) rfl rfl rfl rfl rfl rfl (P_some rfl (O_cons (O_read rfl (R_load rfl rfl rfl (Ex.mk _ (Cell.seg 0 0 rfl rfl rfl) (P_some rfl (O_cons (O_read rfl (R_leqD rfl rfl (P_some rfl ?_)))))))))))))
    refine O_cons (O_read rfl (R_move rfl (P_some rfl ?_)))
    refine O_gv (z := (decide ((-70368744177664) ≤ s1.Lo))) rfl rfl (fun hc1 => ?_) (fun hc1 => ?_)
    · replace h765 := cond_t hc1 h765
      refine O_read rfl (R_fa0 (o' := 0) rfl rfl rfl rfl rfl rfl (P_some rfl (O_gY rfl rfl hc1 (O_read rfl (R_load rfl rfl rfl (Ex.mk _ (Cell.seg 0 0 rfl rfl rfl) (P_some rfl (O_gY rfl rfl hc1 (O_read rfl (R_fa0 (o' := 1) rfl rfl rfl rfl rfl rfl (P_some rfl (O_gY rfl rfl hc1 (O_read rfl ?_)))))))))))))
      refine R_load rfl rfl rfl (Ex.mk _ (Cell.seg 0 0 rfl rfl rfl) (P_some rfl (O_gY rfl rfl hc1 (O_read rfl (R_leqD rfl rfl (P_some rfl (O_cons (O_read rfl (R_pick_T rfl hc1 rfl (P_some rfl (O_cons (O_read rfl (R_move rfl ?_)))))))))))))
      apply P_some; exact rfl
      refine O_gv (z := (decide (s1.Lo ≤ s1.Hi))) rfl rfl (fun hc2 => ?_) (fun hc2 => ?_)
      · replace h765 := cond_t hc2 h765
        refine O_read rfl (R_fa0 (o' := 1) rfl rfl rfl rfl rfl rfl (P_some rfl (O_gY rfl rfl hc2 (O_read rfl (R_load rfl rfl rfl (Ex.mk _ (Cell.seg 0 0 rfl rfl rfl) (P_some rfl (O_gY rfl rfl hc2 (O_read rfl (R_leqD rfl rfl (P_some rfl (O_cons (O_read rfl ?_)))))))))))))
        refine R_pick_T rfl hc2 rfl (P_some rfl (O_cons (O_read rfl (R_assign rfl (P_some rfl (O_nil ?_))))))
        have e_ := Option.some.inj h765
        subst e_
        exact ⟨(decide (s1.Hi ≤ 70368744177664)), rfl, SubFr.of ⟨rfl, trivial⟩, SegSub.sel _ [] 1, rfl⟩
      replace h765 := cond_f hc2 h765
      refine P_some rfl (O_gN rfl rfl hc2 (P_some rfl (O_gN rfl rfl hc2 (P_some rfl (O_cons (O_read rfl (R_pick_F rfl hc2 rfl (P_some rfl (O_cons (O_read rfl (R_assign rfl (P_some rfl (O_nil ?_)))))))))))))
      have e_ := Option.some.inj h765
      subst e_
      exact ⟨false, rfl, SubFr.of ⟨rfl, trivial⟩, SegSub.sel _ [] 1, rfl⟩
    replace h765 := cond_f hc1 h765
    refine P_some rfl (O_gN rfl rfl hc1 (P_some rfl (O_gN rfl rfl hc1 (P_some rfl (O_gN rfl rfl hc1 (P_some rfl (O_gN rfl rfl hc1 (P_some rfl (O_cons (O_read rfl (R_pick_F rfl hc1 rfl (P_some rfl (O_cons ?_)))))))))))))
    refine O_read rfl (R_move rfl (P_some rfl (O_gN rfl rfl rfl (P_some rfl (O_gN rfl rfl rfl (P_some rfl (O_gN rfl rfl rfl (P_some rfl (O_cons (O_read rfl (R_pick_F rfl rfl rfl (P_some rfl (O_cons ?_)))))))))))))
    refine O_read rfl (R_assign rfl (P_some rfl (O_nil ?_)))
    have e_ := Option.some.inj h765
    subst e_
    exact ⟨false, rfl, SubFr.of ⟨rfl, trivial⟩, SegSub.sel _ [] 1, rfl⟩
  rintro fr765 μ765 L765 hm765 ⟨v1, ho765, hF765, hS765, hu765⟩
  subst ho765
  subst hu765
  refine hK764 _ _ _ (WP.at hF765 hS765 (WP.ret ?_))
  have e_ := Option.some.inj h
  subst e_
  refine S_tmp rfl (S_nil (Upd.selS [] 0 ?_))
  exact Upd.done hR

theorem span_valid_fn {μ : Gh} {L : List Seg} {R : Value → Gh → List Seg → Prop}  {l1 : (List T_api_Span)} {A1 : Option Addr} {c1 : Nat} {res1 : Bool}
    (hl1 : l1.length ≤ c1 ∧ c1 ≤ maxLen) (hA1 : Rds r_api_Span μ L A1 l1) (h : span_valid l1 = some res1)
    (hR : R (.bool res1) μ (L)) :
    Fn Try.prog 51 [.slice A1 l1.length c1] μ (L) R := by
  unfold span_valid at h
  refine Fn.of_body Tt_ok Try.func51 (by kernel_rfl) rfl Try.ntmps51 (by simp) ?_
  simp only [Try.f51, argFr, List.zipIdx, List.map, Nat.reduceAdd]
  refine WP.seq_k (fun K750 hK750 => WP.region Tt_ok (O_cons (O_read rfl (R_assign rfl (P_some rfl (O_nil (hK750 _ _ _ (WP.seq_k (fun K751 hK751 => WP.seq_k (fun K752 hK752 => WP.region Tt_ok (O_cons (O_read rfl (R_move rfl ?_)))))))))))))
  refine P_some rfl (O_cons (O_read rfl (R_lenS rfl rfl rfl (P_some rfl (O_cons (O_read rfl (R_move rfl (P_some rfl (O_nil (hK752 _ _ _ ?_))))))))))
  obtain ⟨o753, h753, h⟩ := obind h
  refine WP.cutK (fun fr_ μ_ L_ => (.inl ()) = o753 ∧ SubFr [] fr_ ∧ SegSub (L) L_ ∧ μ = μ_) ?_ ?_
  · refine WP.block (WP.iter h753 (fun (v1 : Int) fr_ μ_ L_ => SubFr [(5, .slice A1 l1.length c1), (6, .int .i64 ((l1.length : Nat) : Int)), (7, .int .i64 v1)] fr_ ∧ SegSub (L) L_ ∧ μ = μ_) ⟨SubFr.of ⟨rfl, rfl, rfl, trivial⟩, SegSub.sel _ [] 0, rfl⟩ ?_)
    rintro v1 q767 fr767 μ767 L767 hm767 ⟨hF767, hS767, hu767⟩ hb767 hq767
    unfold span_valid_l1 at hb767
    subst hu767
    refine WP.at hF767 hS767 (WP.seq_k (fun K768 hK768 => WP.region Tt_ok (O_cons (O_read rfl (R_lssD rfl rfl (P_some rfl (O_nil (hK768 _ _ _ (WP.seq_k (fun K769 hK769 => ?_))))))))))
    refine W_cond_v (b := (decide (v1 < ((l1.length : Nat) : Int)))) rfl (fun hc1 => ?_) (fun hc1 => ?_)
    · replace hb767 := cond_t hc1 hb767
      refine WP.skip (hK769 _ _ _ (WP.seq_k (fun K770 hK770 => WP.block (WP.seq_k (fun K771 hK771 => WP.region Tt_ok (O_cons ?_))))))
      obtain ⟨x1, hx1, hb767⟩ := obind hb767
      obtain ⟨a1, cs1, hA2, hr1, _, hc2⟩ := Rds.getI hA1 hx1
      obtain rfl := hr1
      refine O_read rfl (R_iaG rfl rfl rfl rfl rfl rfl ⟨(getI_lt hx1).1, (getI_lt hx1).2.1⟩ hA2 (P_some rfl (O_cons (O_read rfl (R_loadA rfl rfl rfl rfl (Ex.mk [.int .i64 x1.Lo, .int .i64 x1.Hi] ⟨rfl, hc2⟩ (P_some rfl (O_cons (O_alloc (cs := #[.int .i64 0, .int .i64 0]) rfl rfl (fun g1 => P_some rfl (O_cons (O_store (vs := [.int .i64 x1.Lo, .int .i64 x1.Hi]) rfl rfl rfl rfl rfl rfl (ST_ (L' := ([(g1, .cells #[.int .i64 x1.Lo, .int .i64 x1.Hi] 31 (0, 0))] :: L)) 0 0 rfl rfl rfl rfl ?_)))))))))))))
      refine P_none (O_nil (hK771 _ _ _ (WP.seq_k (fun K774 hK774 => WP.region Tt_ok (O_cons (O_read rfl (R_loadA rfl rfl rfl rfl (LA_ (vs := [.int .i64 x1.Lo, .int .i64 x1.Hi]) 0 0 rfl rfl rfl rfl (P_some rfl (O_cons (O_call (all := [.agg #[.int .i64 x1.Lo, .int .i64 x1.Hi]]) rfl rfl rfl ?_)))))))))))
      obtain ⟨r1, hx2, hb767⟩ := obind hb767
      refine span_Valid_fn  hx2 ((P_some rfl (O_cons (O_read rfl (R_not rfl (P_some rfl (O_nil (hK774 _ _ _ ?_))))))))
      refine W_cond_v (b := !r1) rfl (fun hc3 => ?_) (fun hc3 => ?_)
      · replace hb767 := cond_t hc3 hb767
        refine WP.seq_k (fun K775 hK775 => WP.region Tt_ok (O_cons (O_read rfl (R_assign rfl (P_some rfl (O_nil (hK775 _ _ _ (WP.ret ?_))))))))
        have e_ := Option.some.inj hb767
        subst e_
        have hq_ := hq767 _ rfl
        subst hq_
        replace h := osum_r h
        have e_ := Option.some.inj h
        subst e_
        refine S_tmp rfl (S_nil (Upd.selS [] 1 ?_))
        exact Upd.done hR
      replace hb767 := cond_f hc3 hb767
      refine WP.skip (hK770 _ _ _ (WP.region Tt_ok (O_cons (O_read rfl (R_add rfl rfl (P_some rfl (O_cons (O_read rfl (R_move rfl (P_some rfl (O_nil ?_)))))))))))
      have e_ := Option.some.inj hb767
      subst e_
      exact ⟨_, rfl, SubFr.of ⟨rfl, rfl, rfl, trivial⟩, SegSub.sel _ [] 1, rfl⟩
    replace hb767 := cond_f hc1 hb767
    refine WP.exit (B_here ?_)
    have e_ := Option.some.inj hb767
    subst e_
    have hq_ := hq767 _ rfl
    subst hq_
    exact ⟨rfl, SubFr.of trivial, SegSub.sel _ [] 0, rfl⟩
  rintro fr753 μ753 L753 hm753 ⟨ho753, hF753, hS753, hu753⟩
  subst ho753
  replace h := osum_l h
  subst hu753
  refine hK751 _ _ _ (WP.at hF753 hS753 (WP.seq_k (fun K776 hK776 => WP.region Tt_ok (O_cons (O_read rfl (R_assign rfl (P_some rfl (O_nil (hK776 _ _ _ (WP.ret ?_))))))))))
  have e_ := Option.some.inj h
  subst e_
  refine S_tmp rfl (S_nil (Upd.selS [] 0 ?_))
  exact Upd.done hR

theorem span_sum_fn {μ : Gh} {L : List Seg} {R : Value → Gh → List Seg → Prop}  {a1 : Int} {b1 : Int}  {res1 : Int}
     (h : span_sum a1 b1 = some res1)
    (hR : R (.int .i64 res1) μ (L)) :
    Fn Try.prog 54 [.int .i64 a1, .int .i64 b1] μ (L) R := by
  unfold span_sum at h
  refine Fn.of_body Tt_ok Try.func54 (by kernel_rfl) rfl Try.ntmps54 (by simp) ?_
  simp only [Try.f54, argFr, List.zipIdx, List.map, Nat.reduceAdd]
  refine WP.seq_k (fun K804 hK804 => WP.region Tt_ok (O_cons (O_read rfl (R_assign rfl (P_some rfl (O_nil (hK804 _ _ _ (WP.seq_k (fun K805 hK805 => WP.region Tt_ok (O_cons (O_read rfl (R_move rfl (P_some rfl ?_)))))))))))))
  refine O_cons (O_read rfl (R_move rfl (P_some rfl (O_cons (O_read rfl (R_add rfl rfl (P_some rfl (O_cons (O_read rfl (R_assign rfl (P_some rfl (O_nil (hK805 _ _ _ ?_)))))))))))))
  apply WP.ret
  have e_ := Option.some.inj h
  subst e_
  refine S_tmp rfl (S_nil (Upd.selS [] 0 ?_))
  exact Upd.done hR

theorem span_ends_c54_c54_fn {μ : Gh} {L : List Seg} {R : Value → Gh → List Seg → Prop}  {first1 : T_api_Span} {l1 : (List T_api_Span)} {A1 : Option Addr} {c1 : Nat} {res1 : T_api_Span}
    (hl1 : l1.length ≤ c1 ∧ c1 ≤ maxLen) (hA1 : Rds r_api_Span μ L A1 l1) (h : span_ends_c54_c54 first1 l1 = some res1)
    (hR : R (.agg #[.int .i64 res1.Lo, .int .i64 res1.Hi]) μ (L)) :
    Fn Try.prog 53 [.func (.func 54) #[] #[], .func (.func 54) #[] #[], .agg #[.int .i64 first1.Lo, .int .i64 first1.Hi], .slice A1 l1.length c1] μ (L) R := by
  unfold span_ends_c54_c54 at h
  refine Fn.of_body Tt_ok Try.func53 (by kernel_rfl) rfl Try.ntmps53 (by simp) ?_
  simp only [Try.f53, argFr, List.zipIdx, List.map, Nat.reduceAdd]
  refine WP.seq_k (fun K781 hK781 => WP.region Tt_ok (O_cons (O_box (cs := #[.int .i64 first1.Lo, .int .i64 first1.Hi]) rfl rfl (fun g1 => P_some rfl (O_cons (O_alloc (cs := #[.int .i64 0, .int .i64 0]) rfl rfl (fun g2 => P_some rfl (O_nil (hK781 _ _ _ (WP.seq_k (fun K784 hK784 => WP.region Tt_ok (O_cons (O_read rfl ?_)))))))))))))
  refine R_loadA rfl rfl rfl rfl (LA_ (vs := [.int .i64 first1.Lo, .int .i64 first1.Hi]) 1 0 rfl rfl rfl rfl (P_some rfl (O_cons (O_alloc (cs := #[.int .i64 0, .int .i64 0]) rfl rfl (fun g3 => P_some rfl (O_cons (O_store (vs := [.int .i64 first1.Lo, .int .i64 first1.Hi]) rfl rfl rfl rfl rfl rfl (ST_ (L' := ([(g3, .cells #[.int .i64 first1.Lo, .int .i64 first1.Hi] 31 (0, 0))] :: [(g2, .cells #[.int .i64 0, .int .i64 0] 31 (0, 0))] :: [(g1, .cells #[.int .i64 first1.Lo, .int .i64 first1.Hi] 31 (0, 0))] :: L)) 0 0 rfl rfl rfl rfl (P_none (O_nil (hK784 _ _ _ (WP.seq_k (fun K787 hK787 => WP.seq_k (fun K788 hK788 => ?_))))))))))))))
  refine WP.region Tt_ok (O_cons (O_read rfl (R_move rfl (P_some rfl (O_cons (O_read rfl (R_lenS rfl rfl rfl (P_some rfl (O_cons (O_read rfl (R_move rfl (P_some rfl (O_nil ?_)))))))))))))
  refine hK788 _ _ _ ?_
  obtain ⟨o789, h789, h⟩ := obind h
  refine WP.cutK (fun fr_ μ_ L_ => ∃ (f5 : Int) (f6 : Int), (f5, f6) = o789 ∧ SubFr [(8, .pointer (some ⟨g2, 0, none⟩)), (9, .pointer (some ⟨g3, 0, none⟩))] fr_ ∧ SegSub ([(g2, .cells #[.int .i64 0, .int .i64 0] 31 (0, 0))] :: [(g3, .cells #[.int .i64 f5, .int .i64 f6] 31 (0, 0))] :: L) L_ ∧ μ = μ_) ?_ ?_
  · refine WP.block (WP.iter h789 (fun (j_ : Int × Int × Int) fr_ μ_ L_ => ounP j_ fun f1 j_ => ounP j_ fun f2 v1 => SubFr [(0, .func (.func 54) #[] #[]), (1, .func (.func 54) #[] #[]), (8, .pointer (some ⟨g2, 0, none⟩)), (9, .pointer (some ⟨g3, 0, none⟩)), (13, .slice A1 l1.length c1), (14, .int .i64 ((l1.length : Nat) : Int)), (15, .int .i64 v1)] fr_ ∧ SegSub ([(g2, .cells #[.int .i64 0, .int .i64 0] 31 (0, 0))] :: [(g3, .cells #[.int .i64 f1, .int .i64 f2] 31 (0, 0))] :: L) L_ ∧ μ = μ_) ⟨SubFr.of ⟨rfl, rfl, rfl, rfl, rfl, rfl, rfl, trivial⟩, SegSub.sel _ [some 1, some 0] 3, rfl⟩ ?_)
    rintro ⟨f1, f2, v1⟩ q827 fr827 μ827 L827 hm827 ⟨hF827, hS827, hu827⟩ hb827 hq827
    unfold span_ends_c54_c54_l1 at hb827
    replace hb827 := oun_mk hb827
    replace hb827 := oun_mk hb827
    subst hu827
    refine WP.at hF827 hS827 (WP.seq_k (fun K835 hK835 => WP.region Tt_ok (O_cons (O_read rfl (R_lssD rfl rfl (P_some rfl (O_nil (hK835 _ _ _ (WP.seq_k (fun K836 hK836 => ?_))))))))))
    refine W_cond_v (b := (decide (v1 < ((l1.length : Nat) : Int)))) rfl (fun hc1 => ?_) (fun hc1 => ?_)
    · replace hb827 := cond_t hc1 hb827
      refine WP.skip (hK836 _ _ _ (WP.seq_k (fun K837 hK837 => WP.block (WP.seq_k (fun K838 hK838 => WP.region Tt_ok (O_cons ?_))))))
      obtain ⟨x1, hx1, hb827⟩ := obind hb827
      obtain ⟨a1, cs1, hA2, hr1, _, hc2⟩ := Rds.getI hA1 hx1
      obtain rfl := hr1
      refine O_read rfl (R_iaG rfl rfl rfl rfl rfl rfl ⟨(getI_lt hx1).1, (getI_lt hx1).2.1⟩ hA2 (P_some rfl (O_cons (O_read rfl (R_loadA rfl rfl rfl rfl (Ex.mk [.int .i64 x1.Lo, .int .i64 x1.Hi] ⟨rfl, (hc2.push.push)⟩ (P_some rfl (O_cons (O_alloc (cs := #[.int .i64 0, .int .i64 0]) rfl rfl (fun g4 => P_some rfl (O_cons (O_store (vs := [.int .i64 x1.Lo, .int .i64 x1.Hi]) rfl rfl rfl rfl rfl rfl (ST_ (L' := ([(g4, .cells #[.int .i64 x1.Lo, .int .i64 x1.Hi] 31 (0, 0))] :: [(g2, .cells #[.int .i64 0, .int .i64 0] 31 (0, 0))] :: [(g3, .cells #[.int .i64 f1, .int .i64 f2] 31 (0, 0))] :: L)) 0 0 rfl rfl rfl rfl ?_)))))))))))))
      refine P_none (O_nil (hK838 _ _ _ ?_))
      obtain ⟨o847, h847, hb827⟩ := obind hb827
      refine WP.cutK (fun fr_ μ_ L_ => ∃ (f3 : Int) (f4 : Int), (f3, f4) = o847 ∧ SubFr [(0, .func (.func 54) #[] #[]), (1, .func (.func 54) #[] #[]), (8, .pointer (some ⟨g2, 0, none⟩)), (9, .pointer (some ⟨g3, 0, none⟩)), (13, .slice A1 l1.length c1), (14, .int .i64 ((l1.length : Nat) : Int)), (15, .int .i64 v1)] fr_ ∧ SegSub ([(g2, .cells #[.int .i64 0, .int .i64 0] 31 (0, 0))] :: [(g3, .cells #[.int .i64 f3, .int .i64 f4] 31 (0, 0))] :: L) L_ ∧ μ = μ_) ?_ ?_
      · refine WP.draw (id := 5) wide ([(g4, .cells #[.int .i64 x1.Lo, .int .i64 x1.Hi] 31 (0, 0))] :: [(g2, .cells #[.int .i64 0, .int .i64 0] 31 (0, 0))] :: L) (Kept.ofT (keep := [[(g4, .cells #[.int .i64 x1.Lo, .int .i64 x1.Hi] 31 (0, 0))], [(g2, .cells #[.int .i64 0, .int .i64 0] 31 (0, 0))]]) (A := [[(g4, .cells #[.int .i64 x1.Lo, .int .i64 x1.Hi] 31 (0, 0))], [(g2, .cells #[.int .i64 0, .int .i64 0] 31 (0, 0))], [(g3, .cells #[.int .i64 f1, .int .i64 f2] 31 (0, 0))]]) (by simp)) rfl (AN.run (fuel := 6) (listed' := [true, true, false, true, true, false, true, true, false, true, true, false, false, false]) Tt_ok [(true, 0), (true, 1), (true, 3), (true, 4), (true, 6), (true, 7), (true, 9), (true, 10)] (by kernel_rfl) (by kernel_rfl) rfl ?_)
        refine PL_t rfl (R_move rfl (P_some rfl (PL_t rfl (R_fa0 (o' := 0) rfl rfl rfl rfl rfl rfl (P_some rfl (PL_t rfl (R_fa0 (o' := 0) rfl rfl rfl rfl rfl rfl (P_some rfl (PL_t rfl (R_load rfl rfl rfl (Ex.mk _ (Cell.seg 0 0 rfl rfl rfl) (P_some rfl (PL_t rfl ?_)))))))))))))
        refine R_move rfl (P_some rfl (PL_t rfl (R_fa0 (o' := 1) rfl rfl rfl rfl rfl rfl (P_some rfl (PL_t rfl (R_fa0 (o' := 1) rfl rfl rfl rfl rfl rfl (P_some rfl (PL_t rfl (R_load rfl rfl rfl (Ex.mk _ (Cell.seg 0 0 rfl rfl rfl) (P_some rfl (PL_nil ?_))))))))))))
        refine FK_2 Tt_ok (a := 2) (b := 8) (by kernel_rfl) ?_ ?_
        · refine FO_ rfl rfl (O_read rfl (R_load rfl rfl rfl (Ex.mk _ (Cell.seg 2 0 rfl rfl rfl) ?_)))
          refine ⟨Kept.ofT (keep := [[(g4, .cells #[.int .i64 x1.Lo, .int .i64 x1.Hi] 31 (0, 0))], [(g2, .cells #[.int .i64 0, .int .i64 0] 31 (0, 0))]]) (A := [[(g4, .cells #[.int .i64 x1.Lo, .int .i64 x1.Hi] 31 (0, 0))], [(g2, .cells #[.int .i64 0, .int .i64 0] 31 (0, 0))], [(g3, .cells #[.int .i64 f1, .int .i64 f2] 31 (0, 0))]]) (by simp), ?_⟩
          apply P_some; exact rfl
          refine FK_2 Tt_ok (a := 5) (b := 8) (by kernel_rfl) ?_ ?_
          · refine FO_ rfl rfl (O_call (all := [.int .i64 f1, .int .i64 x1.Lo]) rfl rfl rfl ?_)
            obtain ⟨r1, hx2, h847⟩ := obind h847
            refine span_sum_fn  hx2 (?_)
            refine ⟨Kept.ofT (keep := [[(g4, .cells #[.int .i64 x1.Lo, .int .i64 x1.Hi] 31 (0, 0))], [(g2, .cells #[.int .i64 0, .int .i64 0] 31 (0, 0))]]) (A := [[(g4, .cells #[.int .i64 x1.Lo, .int .i64 x1.Hi] 31 (0, 0))], [(g2, .cells #[.int .i64 0, .int .i64 0] 31 (0, 0))], [(g3, .cells #[.int .i64 f1, .int .i64 f2] 31 (0, 0))]]) (by simp), ?_⟩
            refine P_some rfl (AN.run (fuel := 0) (listed' := [true, true, true, true, true, true, true, true, true, true, true, true, true, true]) Tt_ok [(false, 8), (false, 11), (true, 12), (false, 13)] (by kernel_rfl) (by kernel_rfl) rfl (PL_f rfl (O_read rfl (R_load rfl rfl rfl (Ex.mk _ (Cell.seg 2 0 rfl rfl rfl) ?_)))))
            refine ⟨Kept.ofT (keep := [[(g4, .cells #[.int .i64 x1.Lo, .int .i64 x1.Hi] 31 (0, 0))], [(g2, .cells #[.int .i64 0, .int .i64 0] 31 (0, 0))]]) (A := [[(g4, .cells #[.int .i64 x1.Lo, .int .i64 x1.Hi] 31 (0, 0))], [(g2, .cells #[.int .i64 0, .int .i64 0] 31 (0, 0))], [(g3, .cells #[.int .i64 f1, .int .i64 f2] 31 (0, 0))]]) (by simp), ?_⟩
            refine P_some rfl (PL_f rfl (O_call (all := [.int .i64 f2, .int .i64 x1.Hi]) rfl rfl rfl ?_))
            obtain ⟨r2, hx3, h847⟩ := obind h847
            refine span_sum_fn  hx3 (?_)
            refine ⟨Kept.ofT (keep := [[(g4, .cells #[.int .i64 x1.Lo, .int .i64 x1.Hi] 31 (0, 0))], [(g2, .cells #[.int .i64 0, .int .i64 0] 31 (0, 0))]]) (A := [[(g4, .cells #[.int .i64 x1.Lo, .int .i64 x1.Hi] 31 (0, 0))], [(g2, .cells #[.int .i64 0, .int .i64 0] 31 (0, 0))], [(g3, .cells #[.int .i64 f1, .int .i64 f2] 31 (0, 0))]]) (by simp), ?_⟩
            refine P_some rfl (PL_t rfl (R_build rfl rfl rfl rfl (F_cons (cells' := [.int .i64 r1, .int .i64 0]) rfl rfl rfl rfl (F_cons (cells' := [.int .i64 r1, .int .i64 r2]) rfl rfl rfl rfl (F_nil (P_some rfl (PL_f rfl (O_store (vs := [.int .i64 r1, .int .i64 r2]) rfl rfl rfl rfl rfl rfl (ST_ (L' := ([(g4, .cells #[.int .i64 x1.Lo, .int .i64 x1.Hi] 31 (0, 0))] :: [(g2, .cells #[.int .i64 0, .int .i64 0] 31 (0, 0))] :: [(g3, .cells #[.int .i64 r1, .int .i64 r2] 31 (0, 0))] :: L)) 2 0 rfl rfl rfl rfl ?_)))))))))
            refine ⟨Kept.ofT (keep := [[(g4, .cells #[.int .i64 x1.Lo, .int .i64 x1.Hi] 31 (0, 0))], [(g2, .cells #[.int .i64 0, .int .i64 0] 31 (0, 0))]]) (A := [[(g4, .cells #[.int .i64 x1.Lo, .int .i64 x1.Hi] 31 (0, 0))], [(g2, .cells #[.int .i64 0, .int .i64 0] 31 (0, 0))], [(g3, .cells #[.int .i64 r1, .int .i64 r2] 31 (0, 0))]]) (by simp), ?_⟩
            refine P_none (PL_nil (AN.done0 (by kernel_rfl) ?_))
            have e_ := Option.some.inj h847
            subst e_
            exact ⟨r1, r2, rfl, SubFr.of ⟨rfl, rfl, rfl, rfl, rfl, rfl, rfl, trivial⟩, SegSub.sel _ [some 1, some 2] 3, rfl⟩
          obtain ⟨r1, hx2, h847⟩ := obind h847
          obtain ⟨r2, hx3, h847⟩ := obind h847
          refine FO_ rfl rfl (O_read rfl (R_load rfl rfl rfl (Ex.mk _ (Cell.seg 2 0 rfl rfl rfl) ?_)))
          refine ⟨Kept.ofT (keep := [[(g4, .cells #[.int .i64 x1.Lo, .int .i64 x1.Hi] 31 (0, 0))], [(g2, .cells #[.int .i64 0, .int .i64 0] 31 (0, 0))]]) (A := [[(g4, .cells #[.int .i64 x1.Lo, .int .i64 x1.Hi] 31 (0, 0))], [(g2, .cells #[.int .i64 0, .int .i64 0] 31 (0, 0))], [(g3, .cells #[.int .i64 f1, .int .i64 f2] 31 (0, 0))]]) (by simp), ?_⟩
          refine P_some rfl (AN.run (fuel := 0) (listed' := [true, true, true, true, true, true, true, true, true, true, true, true, true, true]) Tt_ok [(false, 5), (false, 11), (true, 12), (false, 13)] (by kernel_rfl) (by kernel_rfl) rfl (PL_f rfl (O_call (all := [.int .i64 f1, .int .i64 x1.Lo]) rfl rfl rfl (span_sum_fn  hx2 (?_)))))
          refine ⟨Kept.ofT (keep := [[(g4, .cells #[.int .i64 x1.Lo, .int .i64 x1.Hi] 31 (0, 0))], [(g2, .cells #[.int .i64 0, .int .i64 0] 31 (0, 0))]]) (A := [[(g4, .cells #[.int .i64 x1.Lo, .int .i64 x1.Hi] 31 (0, 0))], [(g2, .cells #[.int .i64 0, .int .i64 0] 31 (0, 0))], [(g3, .cells #[.int .i64 f1, .int .i64 f2] 31 (0, 0))]]) (by simp), ?_⟩
          refine P_some rfl (PL_f rfl (O_call (all := [.int .i64 f2, .int .i64 x1.Hi]) rfl rfl rfl (span_sum_fn  hx3 (?_))))
          refine ⟨Kept.ofT (keep := [[(g4, .cells #[.int .i64 x1.Lo, .int .i64 x1.Hi] 31 (0, 0))], [(g2, .cells #[.int .i64 0, .int .i64 0] 31 (0, 0))]]) (A := [[(g4, .cells #[.int .i64 x1.Lo, .int .i64 x1.Hi] 31 (0, 0))], [(g2, .cells #[.int .i64 0, .int .i64 0] 31 (0, 0))], [(g3, .cells #[.int .i64 f1, .int .i64 f2] 31 (0, 0))]]) (by simp), ?_⟩
          refine P_some rfl (PL_t rfl (R_build rfl rfl rfl rfl (F_cons (cells' := [.int .i64 r1, .int .i64 0]) rfl rfl rfl rfl (F_cons (cells' := [.int .i64 r1, .int .i64 r2]) rfl rfl rfl rfl (F_nil (P_some rfl (PL_f rfl (O_store (vs := [.int .i64 r1, .int .i64 r2]) rfl rfl rfl rfl rfl rfl (ST_ (L' := ([(g4, .cells #[.int .i64 x1.Lo, .int .i64 x1.Hi] 31 (0, 0))] :: [(g2, .cells #[.int .i64 0, .int .i64 0] 31 (0, 0))] :: [(g3, .cells #[.int .i64 r1, .int .i64 r2] 31 (0, 0))] :: L)) 2 0 rfl rfl rfl rfl ?_)))))))))
          refine ⟨Kept.ofT (keep := [[(g4, .cells #[.int .i64 x1.Lo, .int .i64 x1.Hi] 31 (0, 0))], [(g2, .cells #[.int .i64 0, .int .i64 0] 31 (0, 0))]]) (A := [[(g4, .cells #[.int .i64 x1.Lo, .int .i64 x1.Hi] 31 (0, 0))], [(g2, .cells #[.int .i64 0, .int .i64 0] 31 (0, 0))], [(g3, .cells #[.int .i64 r1, .int .i64 r2] 31 (0, 0))]]) (by simp), ?_⟩
          refine P_none (PL_nil (AN.done0 (by kernel_rfl) ?_))
          have e_ := Option.some.inj h847
          subst e_
          exact ⟨r1, r2, rfl, SubFr.of ⟨rfl, rfl, rfl, rfl, rfl, rfl, rfl, trivial⟩, SegSub.sel _ [some 1, some 2] 3, rfl⟩
        obtain ⟨r1, hx2, h847⟩ := obind h847
        obtain ⟨r2, hx3, h847⟩ := obind h847
        refine FO_ rfl rfl (O_read rfl (R_load rfl rfl rfl (Ex.mk _ (Cell.seg 2 0 rfl rfl rfl) ?_)))
        refine ⟨Kept.ofT (keep := [[(g4, .cells #[.int .i64 x1.Lo, .int .i64 x1.Hi] 31 (0, 0))], [(g2, .cells #[.int .i64 0, .int .i64 0] 31 (0, 0))]]) (A := [[(g4, .cells #[.int .i64 x1.Lo, .int .i64 x1.Hi] 31 (0, 0))], [(g2, .cells #[.int .i64 0, .int .i64 0] 31 (0, 0))], [(g3, .cells #[.int .i64 f1, .int .i64 f2] 31 (0, 0))]]) (by simp), ?_⟩
        refine P_some rfl (AN.run (fuel := 0) (listed' := [true, true, true, true, true, true, true, true, true, true, true, true, true, true]) Tt_ok [(false, 2), (false, 5), (false, 11), (true, 12), (false, 13)] (by kernel_rfl) (by kernel_rfl) rfl (PL_f rfl (O_read rfl (R_load rfl rfl rfl (Ex.mk _ (Cell.seg 2 0 rfl rfl rfl) ?_)))))
        refine ⟨Kept.ofT (keep := [[(g4, .cells #[.int .i64 x1.Lo, .int .i64 x1.Hi] 31 (0, 0))], [(g2, .cells #[.int .i64 0, .int .i64 0] 31 (0, 0))]]) (A := [[(g4, .cells #[.int .i64 x1.Lo, .int .i64 x1.Hi] 31 (0, 0))], [(g2, .cells #[.int .i64 0, .int .i64 0] 31 (0, 0))], [(g3, .cells #[.int .i64 f1, .int .i64 f2] 31 (0, 0))]]) (by simp), ?_⟩
        refine P_some rfl (PL_f rfl (O_call (all := [.int .i64 f1, .int .i64 x1.Lo]) rfl rfl rfl (span_sum_fn  hx2 (?_))))
        refine ⟨Kept.ofT (keep := [[(g4, .cells #[.int .i64 x1.Lo, .int .i64 x1.Hi] 31 (0, 0))], [(g2, .cells #[.int .i64 0, .int .i64 0] 31 (0, 0))]]) (A := [[(g4, .cells #[.int .i64 x1.Lo, .int .i64 x1.Hi] 31 (0, 0))], [(g2, .cells #[.int .i64 0, .int .i64 0] 31 (0, 0))], [(g3, .cells #[.int .i64 f1, .int .i64 f2] 31 (0, 0))]]) (by simp), ?_⟩
        refine P_some rfl (PL_f rfl (O_call (all := [.int .i64 f2, .int .i64 x1.Hi]) rfl rfl rfl (span_sum_fn  hx3 (?_))))
        refine ⟨Kept.ofT (keep := [[(g4, .cells #[.int .i64 x1.Lo, .int .i64 x1.Hi] 31 (0, 0))], [(g2, .cells #[.int .i64 0, .int .i64 0] 31 (0, 0))]]) (A := [[(g4, .cells #[.int .i64 x1.Lo, .int .i64 x1.Hi] 31 (0, 0))], [(g2, .cells #[.int .i64 0, .int .i64 0] 31 (0, 0))], [(g3, .cells #[.int .i64 f1, .int .i64 f2] 31 (0, 0))]]) (by simp), ?_⟩
        refine P_some rfl (PL_t rfl (R_build rfl rfl rfl rfl (F_cons (cells' := [.int .i64 r1, .int .i64 0]) rfl rfl rfl rfl (F_cons (cells' := [.int .i64 r1, .int .i64 r2]) rfl rfl rfl rfl (F_nil (P_some rfl (PL_f rfl (O_store (vs := [.int .i64 r1, .int .i64 r2]) rfl rfl rfl rfl rfl rfl (ST_ (L' := ([(g4, .cells #[.int .i64 x1.Lo, .int .i64 x1.Hi] 31 (0, 0))] :: [(g2, .cells #[.int .i64 0, .int .i64 0] 31 (0, 0))] :: [(g3, .cells #[.int .i64 r1, .int .i64 r2] 31 (0, 0))] :: L)) 2 0 rfl rfl rfl rfl ?_)))))))))
        refine ⟨Kept.ofT (keep := [[(g4, .cells #[.int .i64 x1.Lo, .int .i64 x1.Hi] 31 (0, 0))], [(g2, .cells #[.int .i64 0, .int .i64 0] 31 (0, 0))]]) (A := [[(g4, .cells #[.int .i64 x1.Lo, .int .i64 x1.Hi] 31 (0, 0))], [(g2, .cells #[.int .i64 0, .int .i64 0] 31 (0, 0))], [(g3, .cells #[.int .i64 r1, .int .i64 r2] 31 (0, 0))]]) (by simp), ?_⟩
        refine P_none (PL_nil (AN.done0 (by kernel_rfl) ?_))
        have e_ := Option.some.inj h847
        subst e_
        exact ⟨r1, r2, rfl, SubFr.of ⟨rfl, rfl, rfl, rfl, rfl, rfl, rfl, trivial⟩, SegSub.sel _ [some 1, some 2] 3, rfl⟩
      rintro fr847 μ847 L847 hm847 ⟨f3, f4, ho847, hF847, hS847, hu847⟩
      subst ho847
      replace hb827 := oun_mk hb827
      subst hu847
      refine hK837 _ _ _ (WP.at hF847 hS847 (WP.region Tt_ok (O_cons (O_read rfl (R_add rfl rfl (P_some rfl (O_cons (O_read rfl (R_move rfl (P_some rfl (O_nil ?_)))))))))))
      have e_ := Option.some.inj hb827
      subst e_
      exact ⟨_, rfl, SubFr.of ⟨rfl, rfl, rfl, rfl, rfl, rfl, rfl, trivial⟩, SegSub.sel _ [some 0, some 1] 2, rfl⟩
    replace hb827 := cond_f hc1 hb827
    refine WP.exit (B_here ?_)
    have e_ := Option.some.inj hb827
    subst e_
    have hq_ := hq827 _ rfl
    subst hq_
    exact ⟨f1, f2, rfl, SubFr.of ⟨rfl, rfl, trivial⟩, SegSub.sel _ [some 0, some 1] 2, rfl⟩
  rintro fr789 μ789 L789 hm789 ⟨f5, f6, ho789, hF789, hS789, hu789⟩
  subst ho789
  replace h := oun_mk h
  subst hu789
  refine hK787 _ _ _ (WP.at hF789 hS789 (WP.seq_k (fun K866 hK866 => WP.region Tt_ok (O_cons (O_read rfl (R_loadA rfl rfl rfl rfl (LA_ (vs := [.int .i64 f5, .int .i64 f6]) 1 0 rfl rfl rfl rfl (P_some rfl (O_cons (O_store (vs := [.int .i64 f5, .int .i64 f6]) rfl rfl rfl rfl rfl rfl (ST_ (L' := ([(g2, .cells #[.int .i64 f5, .int .i64 f6] 31 (0, 0))] :: [(g3, .cells #[.int .i64 f5, .int .i64 f6] 31 (0, 0))] :: L)) 0 0 rfl rfl rfl rfl (P_none (O_nil ?_)))))))))))))
  refine hK866 _ _ _ (WP.ret ?_)
  have e_ := Option.some.inj h
  subst e_
  refine S_cell rfl rfl rfl rfl (LA_ (vs := [.int .i64 f5, .int .i64 f6]) 0 0 rfl rfl rfl rfl (S_nil (Upd.selS [] 2 ?_)))
  exact Upd.done hR

theorem span_result_fn {μ : Gh} {L : List Seg} {R : Value → Gh → List Seg → Prop}  {s1 : T_api_Span}  {res1 : T_api_Span} {res2 : Int}
     (h : span_result s1 = some (res1, res2))
    (hR : R (.tuple #[.agg #[.int .i64 res1.Lo, .int .i64 res1.Hi], .int .i64 res2]) μ (L)) :
    Fn Try.prog 52 [.agg #[.int .i64 s1.Lo, .int .i64 s1.Hi]] μ (L) R := by
  unfold span_result at h
  refine Fn.of_body Tt_ok Try.func52 (by kernel_rfl) rfl Try.ntmps52 (by simp) ?_
  simp only [Try.f52, argFr, List.zipIdx, List.map, Nat.reduceAdd]
  refine WP.seq_k (fun K868 hK868 => WP.region Tt_ok (O_cons (O_box (cs := #[.int .i64 s1.Lo, .int .i64 s1.Hi]) rfl rfl (fun g1 => P_some rfl (O_cons (O_alloc (cs := #[.int .i64 0, .int .i64 0]) rfl rfl (fun g2 => P_some rfl (O_cons (O_read rfl (R_assign rfl (P_some rfl (O_nil (hK868 _ _ _ ?_)))))))))))))
  refine WP.seq_k (fun K871 hK871 => WP.seq_k (fun K872 hK872 => WP.region Tt_ok (O_cons (O_read rfl (R_loadA rfl rfl rfl rfl (LA_ (vs := [.int .i64 s1.Lo, .int .i64 s1.Hi]) 1 0 rfl rfl rfl rfl (P_some rfl (O_cons (O_call (all := [.agg #[.int .i64 s1.Lo, .int .i64 s1.Hi]]) rfl rfl rfl ?_)))))))))
  obtain ⟨r1, hx1, h⟩ := obind h
  refine span_Valid_fn  hx1 ((P_some rfl (O_cons (O_read rfl (R_not rfl (P_some rfl (O_nil (hK872 _ _ _ ?_))))))))
  refine W_cond_v (b := !r1) rfl (fun hc1 => ?_) (fun hc1 => ?_)
  · replace h := cond_t hc1 h
    refine WP.seq_k (fun K873 hK873 => WP.region Tt_ok (O_cons (O_read rfl (R_build rfl rfl rfl rfl (F_nil (P_some rfl (O_cons (O_store (vs := [.int .i64 0, .int .i64 0]) rfl rfl rfl rfl rfl rfl (ST_ (L' := ([(g2, .cells #[.int .i64 0, .int .i64 0] 31 (0, 0))] :: [(g1, .cells #[.int .i64 s1.Lo, .int .i64 s1.Hi] 31 (0, 0))] :: L)) 0 0 rfl rfl rfl rfl (P_none (O_cons (O_read rfl (R_assign rfl ?_)))))))))))))
    refine P_some rfl (O_nil (hK873 _ _ _ (WP.ret ?_)))
    have e_ := Option.some.inj h
    obtain ⟨e0a_, e0b_⟩ := Prod.mk.inj e_
    clear e_
    subst e0a_
    subst e0b_
    refine S_cell rfl rfl rfl rfl (LA_ (vs := [.int .i64 0, .int .i64 0]) 0 0 rfl rfl rfl rfl (S_tmp rfl (S_nil (Upd.selS [] 2 ?_))))
    exact Upd.done hR
  replace h := cond_f hc1 h
  refine WP.skip (hK871 _ _ _ (WP.seq_k (fun K875 hK875 => WP.region Tt_ok (O_cons (O_read rfl (R_loadA rfl rfl rfl rfl (LA_ (vs := [.int .i64 s1.Lo, .int .i64 s1.Hi]) 1 0 rfl rfl rfl rfl (P_some rfl (O_cons (O_store (vs := [.int .i64 s1.Lo, .int .i64 s1.Hi]) rfl rfl rfl rfl rfl rfl (ST_ (L' := ([(g2, .cells #[.int .i64 s1.Lo, .int .i64 s1.Hi] 31 (0, 0))] :: [(g1, .cells #[.int .i64 s1.Lo, .int .i64 s1.Hi] 31 (0, 0))] :: L)) 0 0 rfl rfl rfl rfl (P_none (O_cons ?_)))))))))))))
  refine O_read rfl (R_assign rfl (P_some rfl (O_nil (hK875 _ _ _ (WP.ret ?_)))))
  have e_ := Option.some.inj h
  obtain ⟨e0a_, e0b_⟩ := Prod.mk.inj e_
  clear e_
  subst e0a_
  subst e0b_
  refine S_cell rfl rfl rfl rfl (LA_ (vs := [.int .i64 s1.Lo, .int .i64 s1.Hi]) 0 0 rfl rfl rfl rfl (S_tmp rfl (S_nil (Upd.selS [] 2 ?_))))
  exact Upd.done hR

theorem span_Sum_fn {μ : Gh} {L : List Seg} {R : Value → Gh → List Seg → Prop}  {l1 : (List T_api_Span)} {A1 : Option Addr} {c1 : Nat} {res1 : T_api_Span} {res2 : Int}
    (hl1 : l1.length ≤ c1 ∧ c1 ≤ maxLen) (hA1 : Rds r_api_Span μ L A1 l1) (h : span_Sum l1 = some (res1, res2))
    (hR : R (.tuple #[.agg #[.int .i64 res1.Lo, .int .i64 res1.Hi], .int .i64 res2]) μ (L)) :
    Fn Try.prog 38 [.slice A1 l1.length c1] μ (L) R := by
  unfold span_Sum at h
  refine Fn.of_body Tt_ok Try.func38 (by kernel_rfl) rfl Try.ntmps38 (by simp) ?_
  simp only [Try.f38, argFr, List.zipIdx, List.map, Nat.reduceAdd]
  refine WP.seq_k (fun K741 hK741 => WP.region Tt_ok (O_cons (O_alloc (cs := #[.int .i64 0, .int .i64 0]) rfl rfl (fun g1 => P_some rfl (O_cons (O_read rfl (R_assign rfl (P_some rfl (O_nil (hK741 _ _ _ (WP.seq_k (fun K743 hK743 => WP.seq_k (fun K744 hK744 => WP.region Tt_ok ?_)))))))))))))
  refine O_cons (O_read rfl (R_move rfl (P_some rfl (O_cons (O_read rfl (R_lenS rfl rfl rfl (P_some rfl (O_cons (O_read rfl (R_gtrD rfl rfl (P_some rfl (O_nil (hK744 _ _ _ ?_)))))))))))))
  refine W_cond_v (b := (decide (65536 < ((l1.length : Nat) : Int)))) rfl (fun hc1 => ?_) (fun hc1 => ?_)
  · replace h := cond_t hc1 h
    refine WP.seq_k (fun K745 hK745 => WP.region Tt_ok (O_cons (O_read rfl (R_build rfl rfl rfl rfl (F_nil (P_some rfl (O_cons (O_store (vs := [.int .i64 0, .int .i64 0]) rfl rfl rfl rfl rfl rfl (ST_ (L' := ([(g1, .cells #[.int .i64 0, .int .i64 0] 31 (0, 0))] :: L)) 0 0 rfl rfl rfl rfl (P_none (O_cons (O_read rfl (R_assign rfl ?_)))))))))))))
    refine P_some rfl (O_nil (hK745 _ _ _ (WP.ret ?_)))
    have e_ := Option.some.inj h
    obtain ⟨e0a_, e0b_⟩ := Prod.mk.inj e_
    clear e_
    subst e0a_
    subst e0b_
    refine S_cell rfl rfl rfl rfl (LA_ (vs := [.int .i64 0, .int .i64 0]) 0 0 rfl rfl rfl rfl (S_tmp rfl (S_nil (Upd.selS [] 1 ?_))))
    exact Upd.done hR
  replace h := cond_f hc1 h
  refine WP.skip (hK743 _ _ _ (WP.seq_k (fun K747 hK747 => WP.seq_k (fun K748 hK748 => WP.region Tt_ok (O_cons (O_read rfl (R_move rfl (P_some rfl (O_cons (O_call (all := [.slice A1 l1.length c1]) rfl rfl rfl ?_))))))))))
  obtain ⟨r1, hx1, h⟩ := obind h
  refine span_valid_fn hl1 (Rds.push hA1) hx1 ((P_some rfl (O_cons (O_read rfl (R_not rfl (P_some rfl (O_nil (hK748 _ _ _ ?_))))))))
  refine W_cond_v (b := !r1) rfl (fun hc2 => ?_) (fun hc2 => ?_)
  · replace h := cond_t hc2 h
    refine WP.seq_k (fun K777 hK777 => WP.region Tt_ok (O_cons (O_read rfl (R_build rfl rfl rfl rfl (F_nil (P_some rfl (O_cons (O_store (vs := [.int .i64 0, .int .i64 0]) rfl rfl rfl rfl rfl rfl (ST_ (L' := ([(g1, .cells #[.int .i64 0, .int .i64 0] 31 (0, 0))] :: L)) 0 0 rfl rfl rfl rfl (P_none (O_cons (O_read rfl (R_assign rfl ?_)))))))))))))
    refine P_some rfl (O_nil (hK777 _ _ _ (WP.ret ?_)))
    have e_ := Option.some.inj h
    obtain ⟨e0a_, e0b_⟩ := Prod.mk.inj e_
    clear e_
    subst e0a_
    subst e0b_
    refine S_cell rfl rfl rfl rfl (LA_ (vs := [.int .i64 0, .int .i64 0]) 0 0 rfl rfl rfl rfl (S_tmp rfl (S_nil (Upd.selS [] 1 ?_))))
    exact Upd.done hR
  replace h := cond_f hc2 h
  refine WP.skip (hK747 _ _ _ (WP.seq_k (fun K779 hK779 => WP.region Tt_ok (O_cons (O_read rfl (R_build rfl rfl rfl rfl (F_nil (P_some rfl (O_cons (O_read rfl (R_move rfl (P_some rfl (O_cons ?_)))))))))))))
  apply O_call (all := [.func (.func 54) #[] #[], .func (.func 54) #[] #[], .agg #[.int .i64 0, .int .i64 0], .slice A1 l1.length c1]); exact rfl; exact rfl; exact rfl
  obtain ⟨r2, hx2, h⟩ := obind h
  refine span_ends_c54_c54_fn hl1 (Rds.push hA1) hx2 ((P_some rfl (O_cons (O_call (all := [.agg #[.int .i64 r2.Lo, .int .i64 r2.Hi]]) rfl rfl rfl ?_))))
  obtain ⟨⟨r3, r4⟩, hx3, h⟩ := obind h
  replace h := oun_mk h
  refine span_result_fn  hx3 ((P_some rfl (O_cons (O_read rfl (R_ext rfl rfl (P_some rfl (O_cons (O_read rfl (R_ext rfl rfl (P_some rfl (O_cons (O_store (vs := [.int .i64 r3.Lo, .int .i64 r3.Hi]) rfl rfl rfl rfl rfl rfl (ST_ (L' := ([(g1, .cells #[.int .i64 r3.Lo, .int .i64 r3.Hi] 31 (0, 0))] :: L)) 0 0 rfl rfl rfl rfl (P_none ?_))))))))))))))
  refine O_cons (O_read rfl (R_assign rfl (P_some rfl (O_nil (hK779 _ _ _ (WP.ret ?_))))))
  have e_ := Option.some.inj h
  obtain ⟨e0a_, e0b_⟩ := Prod.mk.inj e_
  clear e_
  subst e0a_
  subst e0b_
  refine S_cell rfl rfl rfl rfl (LA_ (vs := [.int .i64 r3.Lo, .int .i64 r3.Hi]) 0 0 rfl rfl rfl rfl (S_tmp rfl (S_nil (Upd.selS [] 1 ?_))))
  exact Upd.done hR

end Go.Proofs.Ytchakbpjokemnaa
