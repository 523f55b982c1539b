/- Printed by gen.py of this repo: the walks that tie the functions to their specifications. -/
import Derived.Laws.StructEq
import Derived.Test.YticcfpmehjcjcaaTt
import Derived.Test.YticcfpmehjcjcaaTas
import Derived.Test.YticcfpmehjcjcaaGc
import Derived.Test.YticcfpmehjcjcaaPh
namespace Go.Proofs.Yticcfpmehjcjcaa
open Go.RowKit
set_option linter.unusedSimpArgs false
set_option linter.unusedVariables false
attribute [local irreducible] WP SemOk SemU Fn AN Upd vcR vcO vcOps vcPlan putK fillK resK inBlk forkOne Cell StAt Kept

theorem eqRun_T_api_Open (a b : T_api_Open) : PureRun Try.prog (do eqGuard .eql 49 (.tmp 0) (.tmp 0) (.agg #[.int .i64 a.Bill, .int .i64 a.Due, .int .i64 a.Rest]) (.agg #[.int .i64 b.Bill, .int .i64 b.Due, .int .i64 b.Rest]); binOp .eql 49 (.agg #[.int .i64 a.Bill, .int .i64 a.Due, .int .i64 a.Rest]) (.agg #[.int .i64 b.Bill, .int .i64 b.Due, .int .i64 b.Rest])) (.bool (decide (a = b))) := by
  obtain ⟨x0, x1, x2⟩ := a
  obtain ⟨y0, y1, y2⟩ := b
  intro w
  rw [Sem.run_bind, run_eqGuard_agg w _ _ _ _ _ _ (by kernel_rfl), Result.andThen_ok]
  simp only [binOp, Op.equal, Op.maxDepth, Sem.run_bind]
  rw [run_equalIn_struct w 9999 _ _ _ (by kernel_rfl) (by kernel_rfl)]
  by_cases h0 : x0 = y0 <;> by_cases h1 : x1 = y1 <;> by_cases h2 : x2 = y2 <;> simp [Program.fieldsOf, Try.underlying49, go_sem, h0, h1, h2]

theorem neRun_T_api_Open (a b : T_api_Open) : PureRun Try.prog (do eqGuard .neq 49 (.tmp 0) (.tmp 0) (.agg #[.int .i64 a.Bill, .int .i64 a.Due, .int .i64 a.Rest]) (.agg #[.int .i64 b.Bill, .int .i64 b.Due, .int .i64 b.Rest]); binOp .neq 49 (.agg #[.int .i64 a.Bill, .int .i64 a.Due, .int .i64 a.Rest]) (.agg #[.int .i64 b.Bill, .int .i64 b.Due, .int .i64 b.Rest])) (.bool (!(decide (a = b)))) := by
  obtain ⟨x0, x1, x2⟩ := a
  obtain ⟨y0, y1, y2⟩ := b
  intro w
  rw [Sem.run_bind, run_eqGuard_agg w _ _ _ _ _ _ (by kernel_rfl), Result.andThen_ok]
  simp only [binOp, Op.equal, Op.maxDepth, Sem.run_bind]
  rw [run_equalIn_struct w 9999 _ _ _ (by kernel_rfl) (by kernel_rfl)]
  by_cases h0 : x0 = y0 <;> by_cases h1 : x1 = y1 <;> by_cases h2 : x2 = y2 <;> simp [Program.fieldsOf, Try.underlying49, go_sem, h0, h1, h2]
theorem payment_New_fn {μ : Gh} {L : List Seg} {R : Value → Gh → List Seg → Prop}    {res1 : T_payment_Register}
     (h : payment_New = some res1)
    (hR : ∀ (v0 : Value) (so0 : Seg), Obj_payment_Register μ v0 res1 so0 → R (v0) μ (so0 :: L)) :
    Fn Try.prog 9 [] μ (L) R := by
  unfold payment_New at h
  refine Fn.of_body Tt_ok Try.func9 (by kernel_rfl) rfl Try.ntmps9 (by simp) ?_
  simp only [Try.f9, argFr, List.zipIdx, List.map, Nat.reduceAdd]
  refine WP.seq_k (fun K4 hK4 => WP.region Tt_ok (O_cons (O_read rfl (R_assign rfl (P_some rfl (O_nil (hK4 _ _ _ (WP.seq_k (fun K5 hK5 => WP.region Tt_ok (O_cons (O_mkmap (fun g1 => P_some rfl (O_cons ?_)))))))))))))
  refine O_read rfl (R_build rfl rfl rfl rfl (F_cons (cells' := [.slice none 0 0, .map (some g1), .int .i64 0, .int .i64 0]) rfl rfl rfl rfl (F_nil (P_some rfl (O_cons (O_box (cs := #[.slice none 0 0, .map (some g1), .int .i64 0, .int .i64 0]) rfl rfl (fun g2 => P_some rfl (O_cons (O_read rfl (R_assign rfl (P_some rfl (O_nil (hK5 _ _ _ ?_)))))))))))))
  apply WP.ret
  have e_ := Option.some.inj h
  subst e_
  refine S_tmp rfl (S_nil (Upd.seg (L2 := (((g2, Obj.cells #[.slice none 0 0, .map (some g1), .int .i64 0, .int .i64 0] 56 (0, 0)) :: ([] ++ ((g1, Obj.map #[] 0) :: []))) :: L)) (SegSub.trans (SegSub.flat (by simp [selS])) (SegSub.sel _ [some 0, some 1] 2)) ?_))
  exact Upd.done (hR (.pointer (some ⟨g2, 0, none⟩)) ((g2, Obj.cells #[.slice none 0 0, .map (some g1), .int .i64 0, .int .i64 0] 56 (0, 0)) :: ([] ++ ((g1, Obj.map #[] 0) :: []))) (⟨g2, none, 0, [], g1, #[], 0, rfl, rfl, Own.nil, (MapB.nil (enc := Value.bool))⟩))

theorem payment_Register_Charge_fn {μ : Gh} {L : List Seg} {R : Value → Gh → List Seg → Prop}  {r1 : T_payment_Register} {bill1 : Int} {amount1 : Int} {due1 : Int} {pv1 : Value} {so1 : Seg} {res1 : Int} {res2 : T_payment_Register}
    (hP1 : Obj_payment_Register μ pv1 r1 so1) (h : payment_Register_Charge r1 bill1 amount1 due1 = some (res1, res2))
    (hR : ∀ (sp0 : Seg), Obj_payment_Register μ pv1 res2 sp0 → R (.int .i64 res1) μ (sp0 :: L)) :
    Fn Try.prog 12 [pv1, .int .i64 bill1, .int .i64 amount1, .int .i64 due1] μ (so1 :: L) R := by
  unfold payment_Register_Charge at h
  refine Fn.of_body Tt_ok Try.func12 (by kernel_rfl) rfl Try.ntmps12 (by simp) ?_
  simp only [Try.f12, argFr, List.zipIdx, List.map, Nat.reduceAdd]
  refine WP.seq_k (fun K54 hK54 => WP.region Tt_ok (O_cons (O_read rfl (R_assign rfl (P_some rfl (O_nil (hK54 _ _ _ (WP.seq_k (fun K55 hK55 => WP.block (WP.seq_k (fun K56 hK56 => ?_)))))))))))
  obtain ⟨g1, A1, c1, ch1, g2, es1, cn1, hv1, rfl, hO1, hM1⟩ := hP1
  subst hv1
  refine WP.seg (L2 := ([(g1, .cells #[.slice A1 r1.f_open.length c1, .map (some g2), .int .i64 r1.credit, .int .i64 r1.last] 56 (0, 0))] :: ch1 :: [(g2, .map es1 cn1)] :: L)) (SegSub.flat (by simp)) (WP.region Tt_ok (O_cons (O_read rfl (R_move rfl (P_some rfl (O_cons (O_read rfl (R_eqP1 rfl rfl rfl rfl (P_some rfl (O_cons (O_read rfl (R_assign rfl (P_some rfl ?_)))))))))))))
  refine O_nil (hK56 _ _ _ (W_cond_f rfl (WP.seq_k (fun K61 hK61 => ?_))))
  obtain ⟨o62, h62, h⟩ := obind h
  refine WP.cutK (fun fr_ μ_ L_ => ∃ (v1 : Bool), v1 = o62 ∧ SubFr [(0, .pointer (some ⟨g1, 0, none⟩)), (1, .int .i64 bill1), (2, .int .i64 amount1), (3, .int .i64 due1), (12, .bool v1)] fr_ ∧ SegSub ([(g1, .cells #[.slice A1 r1.f_open.length c1, .map (some g2), .int .i64 r1.credit, .int .i64 r1.last] 56 (0, 0))] :: ch1 :: [(g2, .map es1 cn1)] :: L) L_ ∧ μ = μ_) ?_ ?_
  · refine WP.region Tt_ok (O_cons (O_read rfl (R_move rfl (P_some rfl (O_cons (O_read rfl (R_lssD rfl rfl (P_some rfl (O_cons (O_read rfl (R_move rfl (P_some rfl ?_))))))))))))
    refine O_gv (z := (decide (bill1 < 1))) rfl rfl (fun hc1 => ?_) (fun hc1 => ?_)
    · replace h62 := cond_f hc1 h62
      refine O_read rfl (R_move rfl (P_some rfl (O_gY rfl rfl hc1 (O_read rfl (R_gtrD rfl rfl (P_some rfl (O_cons (O_read rfl (R_pick_F rfl hc1 rfl (P_some rfl (O_cons (O_read rfl (R_move rfl ?_)))))))))))))
      apply P_some; exact rfl
      refine O_gv (z := (decide (1000000 < bill1))) rfl rfl (fun hc2 => ?_) (fun hc2 => ?_)
      · replace h62 := cond_f hc2 h62
        refine O_read rfl (R_move rfl (P_some rfl (O_gY rfl rfl hc2 (O_read rfl (R_lssD rfl rfl (P_some rfl (O_cons (O_read rfl (R_pick_F rfl hc2 rfl (P_some rfl (O_cons (O_read rfl (R_move rfl ?_)))))))))))))
        apply P_some; exact rfl
        refine O_gv (z := (decide (amount1 < 1))) rfl rfl (fun hc3 => ?_) (fun hc3 => ?_)
        · replace h62 := cond_f hc3 h62
          refine O_read rfl (R_move rfl (P_some rfl (O_gY rfl rfl hc3 (O_read rfl (R_gtrD rfl rfl (P_some rfl (O_cons (O_read rfl (R_pick_F rfl hc3 rfl (P_some rfl (O_cons (O_read rfl (R_move rfl ?_)))))))))))))
          apply P_some; exact rfl
          refine O_gv (z := (decide (1000000000000 < amount1))) rfl rfl (fun hc4 => ?_) (fun hc4 => ?_)
          · replace h62 := cond_f hc4 h62
            refine O_read rfl (R_move rfl (P_some rfl (O_gY rfl rfl hc4 (O_read rfl (R_lssD rfl rfl (P_some rfl (O_cons (O_read rfl (R_pick_F rfl hc4 rfl (P_some rfl (O_cons (O_read rfl (R_move rfl ?_)))))))))))))
            apply P_some; exact rfl
            refine O_gv (z := (decide (due1 < 0))) rfl rfl (fun hc5 => ?_) (fun hc5 => ?_)
            · replace h62 := cond_f hc5 h62
              refine O_read rfl (R_move rfl (P_some rfl (O_gY rfl rfl hc5 (O_read rfl (R_gtrD rfl rfl (P_some rfl (O_cons (O_read rfl (R_pick_F rfl hc5 rfl (P_some rfl (O_cons (O_read rfl (R_assign rfl ?_)))))))))))))
              refine P_some rfl (O_nil ?_)
              have e_ := Option.some.inj h62
              subst e_
              exact ⟨(decide (3155759999 < due1)), rfl, SubFr.of ⟨rfl, rfl, rfl, rfl, rfl, trivial⟩, SegSub.sel _ [some 0, some 1, some 2] 3, rfl⟩
            replace h62 := cond_t hc5 h62
            refine P_some rfl (O_gN rfl rfl hc5 (P_some rfl (O_cons (O_read rfl (R_pick_T rfl hc5 rfl (P_some rfl (O_cons (O_read rfl (R_assign rfl (P_some rfl (O_nil ?_)))))))))))
            have e_ := Option.some.inj h62
            subst e_
            exact ⟨true, rfl, SubFr.of ⟨rfl, rfl, rfl, rfl, rfl, trivial⟩, SegSub.sel _ [some 0, some 1, some 2] 3, rfl⟩
          replace h62 := cond_t hc4 h62
          refine P_some rfl (O_gN rfl rfl hc4 (P_some rfl (O_cons (O_read rfl (R_pick_T rfl hc4 rfl (P_some rfl (O_cons (O_read rfl (R_move rfl (P_some rfl (O_gN rfl rfl rfl (P_some rfl (O_gN rfl rfl rfl ?_)))))))))))))
          refine P_some rfl (O_cons (O_read rfl (R_pick_T rfl rfl rfl (P_some rfl (O_cons (O_read rfl (R_assign rfl (P_some rfl (O_nil ?_)))))))))
          have e_ := Option.some.inj h62
          subst e_
          exact ⟨true, rfl, SubFr.of ⟨rfl, rfl, rfl, rfl, rfl, trivial⟩, SegSub.sel _ [some 0, some 1, some 2] 3, rfl⟩
        replace h62 := cond_t hc3 h62
        refine P_some rfl (O_gN rfl rfl hc3 (P_some rfl (O_cons (O_read rfl (R_pick_T rfl hc3 rfl (P_some rfl (O_cons (O_read rfl (R_move rfl (P_some rfl (O_gN rfl rfl rfl (P_some rfl (O_gN rfl rfl rfl ?_)))))))))))))
        refine P_some rfl (O_cons (O_read rfl (R_pick_T rfl rfl rfl (P_some rfl (O_cons (O_read rfl (R_move rfl (P_some rfl (O_gN rfl rfl rfl (P_some rfl (O_gN rfl rfl rfl (P_some rfl (O_cons ?_)))))))))))))
        refine O_read rfl (R_pick_T rfl rfl rfl (P_some rfl (O_cons (O_read rfl (R_assign rfl (P_some rfl (O_nil ?_)))))))
        have e_ := Option.some.inj h62
        subst e_
        exact ⟨true, rfl, SubFr.of ⟨rfl, rfl, rfl, rfl, rfl, trivial⟩, SegSub.sel _ [some 0, some 1, some 2] 3, rfl⟩
      replace h62 := cond_t hc2 h62
      refine P_some rfl (O_gN rfl rfl hc2 (P_some rfl (O_cons (O_read rfl (R_pick_T rfl hc2 rfl (P_some rfl (O_cons (O_read rfl (R_move rfl (P_some rfl (O_gN rfl rfl rfl (P_some rfl (O_gN rfl rfl rfl ?_)))))))))))))
      refine P_some rfl (O_cons (O_read rfl (R_pick_T rfl rfl rfl (P_some rfl (O_cons (O_read rfl (R_move rfl (P_some rfl (O_gN rfl rfl rfl (P_some rfl (O_gN rfl rfl rfl (P_some rfl (O_cons ?_)))))))))))))
      refine O_read rfl (R_pick_T rfl rfl rfl (P_some rfl (O_cons (O_read rfl (R_move rfl (P_some rfl (O_gN rfl rfl rfl (P_some rfl (O_gN rfl rfl rfl (P_some rfl (O_cons (O_read rfl (R_pick_T rfl rfl rfl ?_)))))))))))))
      refine P_some rfl (O_cons (O_read rfl (R_assign rfl (P_some rfl (O_nil ?_)))))
      have e_ := Option.some.inj h62
      subst e_
      exact ⟨true, rfl, SubFr.of ⟨rfl, rfl, rfl, rfl, rfl, trivial⟩, SegSub.sel _ [some 0, some 1, some 2] 3, rfl⟩
    replace h62 := cond_t hc1 h62
    refine P_some rfl (O_gN rfl rfl hc1 (P_some rfl (O_cons (O_read rfl (R_pick_T rfl hc1 rfl (P_some rfl (O_cons (O_read rfl (R_move rfl (P_some rfl (O_gN rfl rfl rfl (P_some rfl (O_gN rfl rfl rfl ?_)))))))))))))
    refine P_some rfl (O_cons (O_read rfl (R_pick_T rfl rfl rfl (P_some rfl (O_cons (O_read rfl (R_move rfl (P_some rfl (O_gN rfl rfl rfl (P_some rfl (O_gN rfl rfl rfl (P_some rfl (O_cons ?_)))))))))))))
    refine O_read rfl (R_pick_T rfl rfl rfl (P_some rfl (O_cons (O_read rfl (R_move rfl (P_some rfl (O_gN rfl rfl rfl (P_some rfl (O_gN rfl rfl rfl (P_some rfl (O_cons (O_read rfl (R_pick_T rfl rfl rfl ?_)))))))))))))
    refine P_some rfl (O_cons (O_read rfl (R_move rfl (P_some rfl (O_gN rfl rfl rfl (P_some rfl (O_gN rfl rfl rfl (P_some rfl (O_cons (O_read rfl (R_pick_T rfl rfl rfl (P_some rfl (O_cons ?_)))))))))))))
    refine O_read rfl (R_assign rfl (P_some rfl (O_nil ?_)))
    have e_ := Option.some.inj h62
    subst e_
    exact ⟨true, rfl, SubFr.of ⟨rfl, rfl, rfl, rfl, rfl, trivial⟩, SegSub.sel _ [some 0, some 1, some 2] 3, rfl⟩
  rintro fr62 μ62 L62 hm62 ⟨v1, ho62, hF62, hS62, hu62⟩
  subst ho62
  subst hu62
  refine hK61 _ _ _ (WP.at hF62 hS62 ?_)
  refine W_cond_v (b := v1) rfl (fun hc6 => ?_) (fun hc6 => ?_)
  · replace h := cond_t hc6 h
    refine WP.seq_k (fun K65 hK65 => WP.region Tt_ok (O_cons (O_read rfl (R_assign rfl (P_some rfl (O_nil (hK65 _ _ _ (WP.ret ?_))))))))
    have e_ := Option.some.inj h
    obtain ⟨e0a_, e0b_⟩ := Prod.mk.inj e_
    clear e_
    subst e0a_
    subst e0b_
    refine S_tmp rfl (S_nil (Upd.seg (L2 := (((g1, Obj.cells #[.slice A1 r1.f_open.length c1, .map (some g2), .int .i64 r1.credit, .int .i64 r1.last] 56 (0, 0)) :: (ch1 ++ ((g2, Obj.map es1 cn1) :: []))) :: L)) (SegSub.trans (SegSub.flat (by simp [selS])) (SegSub.sel _ [some 0, some 1, some 2] 3)) ?_))
    exact Upd.done (hR ((g1, Obj.cells #[.slice A1 r1.f_open.length c1, .map (some g2), .int .i64 r1.credit, .int .i64 r1.last] 56 (0, 0)) :: (ch1 ++ ((g2, Obj.map es1 cn1) :: []))) (⟨g1, A1, c1, ch1, g2, es1, cn1, rfl, rfl, hO1, hM1⟩))
  replace h := cond_f hc6 h
  refine WP.seq_k (fun K66 hK66 => WP.region Tt_ok (O_cons (O_read rfl (R_move rfl (P_some rfl (O_cons (O_read rfl (R_nilP rfl (P_some rfl (O_cons (O_read rfl (R_fa0 (o' := 1) rfl rfl rfl rfl rfl rfl (P_some rfl ?_)))))))))))))
  refine O_cons (O_read rfl (R_load rfl rfl rfl (Ex.mk _ (Cell.seg 0 0 rfl rfl rfl) (P_some rfl (O_cons (O_read rfl (R_move rfl (P_some rfl (O_cons (O_read rfl (R_look rfl rfl rfl rfl rfl rfl rfl rfl (Ex.mk _ (hM1.look (ObjAt.seg 2 0 rfl rfl) (zb := false) rfl bill1) (P_some rfl ?_)))))))))))))
  refine O_cons (O_read rfl (R_assign rfl (P_some rfl (O_nil (hK66 _ _ _ ?_)))))
  refine W_cond_v (b := (mget bill1 r1.known).getD false) rfl (fun hc7 => ?_) (fun hc7 => ?_)
  · replace h := cond_t hc7 h
    refine WP.seq_k (fun K67 hK67 => WP.region Tt_ok (O_cons (O_read rfl (R_assign rfl (P_some rfl (O_nil (hK67 _ _ _ (WP.ret ?_))))))))
    have e_ := Option.some.inj h
    obtain ⟨e0a_, e0b_⟩ := Prod.mk.inj e_
    clear e_
    subst e0a_
    subst e0b_
    refine S_tmp rfl (S_nil (Upd.seg (L2 := (((g1, Obj.cells #[.slice A1 r1.f_open.length c1, .map (some g2), .int .i64 r1.credit, .int .i64 r1.last] 56 (0, 0)) :: (ch1 ++ ((g2, Obj.map es1 cn1) :: []))) :: L)) (SegSub.trans (SegSub.flat (by simp [selS])) (SegSub.sel _ [some 0, some 1, some 2] 3)) ?_))
    exact Upd.done (hR ((g1, Obj.cells #[.slice A1 r1.f_open.length c1, .map (some g2), .int .i64 r1.credit, .int .i64 r1.last] 56 (0, 0)) :: (ch1 ++ ((g2, Obj.map es1 cn1) :: []))) (⟨g1, A1, c1, ch1, g2, es1, cn1, rfl, rfl, hO1, hM1⟩))
  replace h := cond_f hc7 h
  refine WP.seq_k (fun K68 hK68 => WP.region Tt_ok (O_cons (O_read rfl (R_move rfl (P_some rfl (O_cons (O_read rfl (R_nilP rfl (P_some rfl (O_cons (O_read rfl (R_fa0 (o' := 1) rfl rfl rfl rfl rfl rfl (P_some rfl ?_)))))))))))))
  refine O_cons (O_read rfl (R_load rfl rfl rfl (Ex.mk _ (Cell.seg 0 0 rfl rfl rfl) (P_some rfl (O_cons (O_read rfl (R_lenM rfl rfl rfl (Ex.mk _ ⟨_, (ObjAt.seg 2 0 rfl rfl)⟩ ?_))))))))
  rw [hM1.size]
  refine P_some rfl (O_cons (O_read rfl (R_geqD rfl rfl (P_some rfl (O_cons (O_read rfl (R_assign rfl (P_some rfl (O_nil (hK68 _ _ _ ?_))))))))))
  refine W_cond_v (b := (decide (512 ≤ ((r1.known.length : Nat) : Int)))) rfl (fun hc8 => ?_) (fun hc8 => ?_)
  · replace h := cond_t hc8 h
    refine WP.seq_k (fun K69 hK69 => WP.region Tt_ok (O_cons (O_read rfl (R_assign rfl (P_some rfl (O_nil (hK69 _ _ _ (WP.ret ?_))))))))
    have e_ := Option.some.inj h
    obtain ⟨e0a_, e0b_⟩ := Prod.mk.inj e_
    clear e_
    subst e0a_
    subst e0b_
    refine S_tmp rfl (S_nil (Upd.seg (L2 := (((g1, Obj.cells #[.slice A1 r1.f_open.length c1, .map (some g2), .int .i64 r1.credit, .int .i64 r1.last] 56 (0, 0)) :: (ch1 ++ ((g2, Obj.map es1 cn1) :: []))) :: L)) (SegSub.trans (SegSub.flat (by simp [selS])) (SegSub.sel _ [some 0, some 1, some 2] 3)) ?_))
    exact Upd.done (hR ((g1, Obj.cells #[.slice A1 r1.f_open.length c1, .map (some g2), .int .i64 r1.credit, .int .i64 r1.last] 56 (0, 0)) :: (ch1 ++ ((g2, Obj.map es1 cn1) :: []))) (⟨g1, A1, c1, ch1, g2, es1, cn1, rfl, rfl, hO1, hM1⟩))
  replace h := cond_f hc8 h
  refine WP.skip (hK55 _ _ _ (WP.seq_k (fun K70 hK70 => WP.region Tt_ok (O_cons (O_read rfl (R_move rfl (P_some rfl (O_cons (O_read rfl (R_nilP rfl (P_some rfl (O_cons (O_read rfl ?_)))))))))))))
  refine R_fa0 (o' := 1) rfl rfl rfl rfl rfl rfl (P_some rfl (O_cons (O_read rfl (R_load rfl rfl rfl (Ex.mk _ (Cell.seg 0 0 rfl rfl rfl) (P_some rfl (O_cons (O_read rfl (R_move rfl (P_some rfl (O_cons (O_mapUpdate rfl rfl rfl (semu_mapB Tt_ok rfl rfl rfl rfl 2 (b := true) rfl hM1 rfl fun es2 cn2 hM2 => ?_)))))))))))))
  refine P_none (O_nil (hK70 _ _ _ (WP.seq_k (fun K72 hK72 => WP.region Tt_ok (O_cons (O_read rfl (R_move rfl (P_some rfl (O_cons (O_read rfl (R_move rfl (P_some rfl (O_cons ?_)))))))))))))
  refine O_read rfl (R_nilP rfl (P_some rfl (O_cons (O_read rfl (R_fa0 (o' := 0) rfl rfl rfl rfl rfl rfl (P_some rfl (O_cons (O_read rfl (R_load rfl rfl rfl (Ex.mk _ (Cell.seg 0 0 rfl rfl rfl) (P_some rfl (O_cons (O_read rfl ?_)))))))))))))
  refine R_move rfl (P_some rfl (O_cons (O_read rfl (R_move rfl (P_some rfl (O_cons (O_read rfl (R_move rfl (P_some rfl (O_cons (O_read rfl (R_build rfl rfl rfl rfl (F_cons (cells' := [.int .i64 bill1, .int .i64 0, .int .i64 0]) rfl rfl rfl rfl ?_)))))))))))))
  refine F_cons (cells' := [.int .i64 bill1, .int .i64 due1, .int .i64 0]) rfl rfl rfl rfl (F_cons (cells' := [.int .i64 bill1, .int .i64 due1, .int .i64 amount1]) rfl rfl rfl rfl (F_nil (P_some rfl (O_cons (O_call (all := [.slice A1 r1.f_open.length c1, .agg #[.int .i64 bill1, .int .i64 due1, .int .i64 amount1], .func (.func 27) #[] #[]]) rfl rfl rfl ?_)))))
  obtain ⟨l1, hs1, h⟩ := obind h
  refine insertR (Own.rds (L := ([(g1, .cells #[.slice A1 r1.f_open.length c1, .map (some g2), .int .i64 r1.credit, .int .i64 r1.last] 56 (0, 0))] :: ch1 :: [(g2, .map es2 cn2)] :: L)) hO1 1 rfl) hs1 fun A2 c2 ch2 hO2 => P_some rfl (O_cons (O_read rfl (R_nilP rfl (P_some rfl (O_cons (O_read rfl (R_fa0 (o' := 0) rfl rfl rfl rfl rfl rfl (P_some rfl (O_cons (O_store (vs := [.slice A2 l1.length c2]) rfl rfl rfl rfl rfl rfl (ST_ (L' := (ch2 :: [(g1, .cells #[.slice A2 l1.length c2, .map (some g2), .int .i64 r1.credit, .int .i64 r1.last] 56 (0, 0))] :: ch1 :: [(g2, .map es2 cn2)] :: L)) 1 0 rfl rfl rfl rfl (P_none ?_))))))))))))
  refine O_nil (hK72 _ _ _ (WP.seq_k (fun K75 hK75 => WP.region Tt_ok (O_cons (O_read rfl (R_assign rfl (P_some rfl (O_nil (hK75 _ _ _ (WP.ret ?_))))))))))
  have e_ := Option.some.inj h
  obtain ⟨e0a_, e0b_⟩ := Prod.mk.inj e_
  clear e_
  subst e0a_
  subst e0b_
  refine S_tmp rfl (S_nil (Upd.seg (L2 := (((g1, Obj.cells #[.slice A2 l1.length c2, .map (some g2), .int .i64 r1.credit, .int .i64 r1.last] 56 (0, 0)) :: (ch2 ++ ((g2, Obj.map es2 cn2) :: []))) :: L)) (SegSub.trans (SegSub.flat (by simp [selS])) (SegSub.sel _ [some 1, some 0, some 3] 4)) ?_))
  exact Upd.done (hR ((g1, Obj.cells #[.slice A2 l1.length c2, .map (some g2), .int .i64 r1.credit, .int .i64 r1.last] 56 (0, 0)) :: (ch2 ++ ((g2, Obj.map es2 cn2) :: []))) (⟨g1, A2, c2, ch2, g2, es2, cn2, rfl, rfl, hO2, hM2⟩))

theorem payment_Register_Pay_fn {μ : Gh} {L : List Seg} {R : Value → Gh → List Seg → Prop}  {r1 : T_payment_Register} {amount1 : Int} {f_at1 : Int} {pv1 : Value} {so1 : Seg} {res1 : (List T_api_Open)} {res2 : Int} {res3 : T_payment_Register}
    (hP1 : Obj_payment_Register μ pv1 r1 so1) (h : payment_Register_Pay r1 amount1 f_at1 = some (res1, res2, res3))
    (hR : ∀ (A0 : Option Addr) (c0 : Nat) (ch0 : Seg) (sp0 : Seg), Own r_api_Open 49 μ (.slice A0 res1.length c0) res1 ch0 → Obj_payment_Register μ pv1 res3 sp0 → R (.tuple #[.slice A0 res1.length c0, .int .i64 res2]) μ (ch0 :: sp0 :: L)) :
    Fn Try.prog 14 [pv1, .int .i64 amount1, .int .i64 f_at1] μ (so1 :: L) R := by
  unfold payment_Register_Pay at h
  refine Fn.of_body Tt_ok Try.func14 (by kernel_rfl) rfl Try.ntmps14 (by simp) ?_
  simp only [Try.f14, argFr, List.zipIdx, List.map, Nat.reduceAdd]
  refine WP.seq_k (fun K199 hK199 => WP.region Tt_ok (O_cons (O_read rfl (R_assign rfl (P_some rfl (O_cons (O_read rfl (R_assign rfl (P_some rfl (O_nil (hK199 _ _ _ (WP.seq_k (fun K204 hK204 => WP.block ?_)))))))))))))
  refine WP.seq_k ?_; intro K205 hK205
  obtain ⟨g1, A1, c1, ch1, g2, es1, cn1, hv1, rfl, hO1, hM1⟩ := hP1
  subst hv1
  refine WP.seg (L2 := ([(g1, .cells #[.slice A1 r1.f_open.length c1, .map (some g2), .int .i64 r1.credit, .int .i64 r1.last] 56 (0, 0))] :: ch1 :: [(g2, .map es1 cn1)] :: L)) (SegSub.flat (by simp)) (WP.region Tt_ok (O_cons (O_read rfl (R_move rfl (P_some rfl (O_cons (O_read rfl (R_eqP1 rfl rfl rfl rfl (P_some rfl (O_cons (O_read rfl (R_assign rfl (P_some rfl ?_)))))))))))))
  refine O_nil (hK205 _ _ _ (W_cond_f rfl (WP.seq_k (fun K210 hK210 => ?_))))
  obtain ⟨o211, h211, h⟩ := obind h
  refine WP.cutK (fun fr_ μ_ L_ => ∃ (v1 : Bool), v1 = o211 ∧ SubFr [(0, .pointer (some ⟨g1, 0, none⟩)), (1, .int .i64 amount1), (2, .int .i64 f_at1), (16, .bool v1)] fr_ ∧ SegSub ([(g1, .cells #[.slice A1 r1.f_open.length c1, .map (some g2), .int .i64 r1.credit, .int .i64 r1.last] 56 (0, 0))] :: ch1 :: [(g2, .map es1 cn1)] :: L) L_ ∧ μ = μ_) ?_ ?_
  · refine WP.region Tt_ok (O_cons (O_read rfl (R_move rfl (P_some rfl (O_cons (O_read rfl (R_lssD rfl rfl (P_some rfl (O_cons (O_read rfl (R_move rfl (P_some rfl ?_))))))))))))
    refine O_gv (z := (decide (amount1 < 0))) rfl rfl (fun hc1 => ?_) (fun hc1 => ?_)
    · replace h211 := cond_f hc1 h211
      refine O_read rfl (R_move rfl (P_some rfl (O_gY rfl rfl hc1 (O_read rfl (R_gtrD rfl rfl (P_some rfl (O_cons (O_read rfl (R_pick_F rfl hc1 rfl (P_some rfl (O_cons (O_read rfl (R_move rfl ?_)))))))))))))
      apply P_some; exact rfl
      refine O_gv (z := (decide (1000000000000 < amount1))) rfl rfl (fun hc2 => ?_) (fun hc2 => ?_)
      · replace h211 := cond_f hc2 h211
        refine O_read rfl (R_move rfl (P_some rfl (O_gY rfl rfl hc2 (O_read rfl (R_lssD rfl rfl (P_some rfl (O_cons (O_read rfl (R_pick_F rfl hc2 rfl (P_some rfl (O_cons (O_read rfl (R_move rfl ?_)))))))))))))
        apply P_some; exact rfl
        refine O_gv (z := (decide (f_at1 < 0))) rfl rfl (fun hc3 => ?_) (fun hc3 => ?_)
        · replace h211 := cond_f hc3 h211
          refine O_read rfl (R_move rfl (P_some rfl (O_gY rfl rfl hc3 (O_read rfl (R_gtrD rfl rfl (P_some rfl (O_cons (O_read rfl (R_pick_F rfl hc3 rfl (P_some rfl (O_cons (O_read rfl (R_assign rfl ?_)))))))))))))
          refine P_some rfl (O_nil ?_)
          have e_ := Option.some.inj h211
          subst e_
          exact ⟨(decide (3155759999 < f_at1)), rfl, SubFr.of ⟨rfl, rfl, rfl, rfl, trivial⟩, SegSub.sel _ [some 0, some 1, some 2] 3, rfl⟩
        replace h211 := cond_t hc3 h211
        refine P_some rfl (O_gN rfl rfl hc3 (P_some rfl (O_cons (O_read rfl (R_pick_T rfl hc3 rfl (P_some rfl (O_cons (O_read rfl (R_assign rfl (P_some rfl (O_nil ?_)))))))))))
        have e_ := Option.some.inj h211
        subst e_
        exact ⟨true, rfl, SubFr.of ⟨rfl, rfl, rfl, rfl, trivial⟩, SegSub.sel _ [some 0, some 1, some 2] 3, rfl⟩
      replace h211 := cond_t hc2 h211
      refine P_some rfl (O_gN rfl rfl hc2 (P_some rfl (O_cons (O_read rfl (R_pick_T rfl hc2 rfl (P_some rfl (O_cons (O_read rfl (R_move rfl (P_some rfl (O_gN rfl rfl rfl (P_some rfl (O_gN rfl rfl rfl ?_)))))))))))))
      refine P_some rfl (O_cons (O_read rfl (R_pick_T rfl rfl rfl (P_some rfl (O_cons (O_read rfl (R_assign rfl (P_some rfl (O_nil ?_)))))))))
      have e_ := Option.some.inj h211
      subst e_
      exact ⟨true, rfl, SubFr.of ⟨rfl, rfl, rfl, rfl, trivial⟩, SegSub.sel _ [some 0, some 1, some 2] 3, rfl⟩
    replace h211 := cond_t hc1 h211
    refine P_some rfl (O_gN rfl rfl hc1 (P_some rfl (O_cons (O_read rfl (R_pick_T rfl hc1 rfl (P_some rfl (O_cons (O_read rfl (R_move rfl (P_some rfl (O_gN rfl rfl rfl (P_some rfl (O_gN rfl rfl rfl ?_)))))))))))))
    refine P_some rfl (O_cons (O_read rfl (R_pick_T rfl rfl rfl (P_some rfl (O_cons (O_read rfl (R_move rfl (P_some rfl (O_gN rfl rfl rfl (P_some rfl (O_gN rfl rfl rfl (P_some rfl (O_cons ?_)))))))))))))
    refine O_read rfl (R_pick_T rfl rfl rfl (P_some rfl (O_cons (O_read rfl (R_assign rfl (P_some rfl (O_nil ?_)))))))
    have e_ := Option.some.inj h211
    subst e_
    exact ⟨true, rfl, SubFr.of ⟨rfl, rfl, rfl, rfl, trivial⟩, SegSub.sel _ [some 0, some 1, some 2] 3, rfl⟩
  rintro fr211 μ211 L211 hm211 ⟨v1, ho211, hF211, hS211, hu211⟩
  subst ho211
  subst hu211
  refine hK210 _ _ _ (WP.at hF211 hS211 ?_)
  refine W_cond_v (b := v1) rfl (fun hc4 => ?_) (fun hc4 => ?_)
  · replace h := cond_t hc4 h
    refine WP.seq_k (fun K214 hK214 => WP.region Tt_ok (O_cons (O_read rfl (R_assign rfl (P_some rfl (O_cons (O_read rfl (R_assign rfl (P_some rfl (O_nil (hK214 _ _ _ (WP.ret ?_))))))))))))
    have e_ := Option.some.inj h
    obtain ⟨e0a_, e0b_⟩ := Prod.mk.inj e_
    clear e_
    subst e0a_
    obtain ⟨e1a_, e1b_⟩ := Prod.mk.inj e0b_
    clear e0b_
    subst e1a_
    subst e1b_
    refine S_tmp rfl (S_tmp rfl (S_nil (Upd.seg (L2 := ([] :: ((g1, Obj.cells #[.slice A1 r1.f_open.length c1, .map (some g2), .int .i64 r1.credit, .int .i64 r1.last] 56 (0, 0)) :: (ch1 ++ ((g2, Obj.map es1 cn1) :: []))) :: L)) (SegSub.trans (SegSub.flat (by simp [selS])) (SegSub.sel _ [none, some 0, some 1, some 2] 3)) ?_)))
    exact Upd.done (hR none 0 [] ((g1, Obj.cells #[.slice A1 r1.f_open.length c1, .map (some g2), .int .i64 r1.credit, .int .i64 r1.last] 56 (0, 0)) :: (ch1 ++ ((g2, Obj.map es1 cn1) :: []))) (Own.nil) (⟨g1, A1, c1, ch1, g2, es1, cn1, rfl, rfl, hO1, hM1⟩))
  replace h := cond_f hc4 h
  refine WP.seq_k (fun K217 hK217 => WP.region Tt_ok (O_cons (O_read rfl (R_move rfl (P_some rfl (O_cons (O_read rfl (R_move rfl (P_some rfl (O_cons (O_read rfl (R_nilP rfl (P_some rfl ?_)))))))))))))
  refine O_cons (O_read rfl (R_fa0 (o' := 3) rfl rfl rfl rfl rfl rfl (P_some rfl (O_cons (O_read rfl (R_load rfl rfl rfl (Ex.mk _ (Cell.seg 0 0 rfl rfl rfl) (P_some rfl (O_cons (O_read rfl (R_lssD rfl rfl (P_some rfl (O_cons ?_)))))))))))))
  refine O_read rfl (R_assign rfl (P_some rfl (O_nil (hK217 _ _ _ ?_))))
  refine W_cond_v (b := (decide (f_at1 < r1.last))) rfl (fun hc5 => ?_) (fun hc5 => ?_)
  · replace h := cond_t hc5 h
    refine WP.seq_k (fun K218 hK218 => WP.region Tt_ok (O_cons (O_read rfl (R_assign rfl (P_some rfl (O_cons (O_read rfl (R_assign rfl (P_some rfl (O_nil (hK218 _ _ _ (WP.ret ?_))))))))))))
    have e_ := Option.some.inj h
    obtain ⟨e0a_, e0b_⟩ := Prod.mk.inj e_
    clear e_
    subst e0a_
    obtain ⟨e1a_, e1b_⟩ := Prod.mk.inj e0b_
    clear e0b_
    subst e1a_
    subst e1b_
    refine S_tmp rfl (S_tmp rfl (S_nil (Upd.seg (L2 := ([] :: ((g1, Obj.cells #[.slice A1 r1.f_open.length c1, .map (some g2), .int .i64 r1.credit, .int .i64 r1.last] 56 (0, 0)) :: (ch1 ++ ((g2, Obj.map es1 cn1) :: []))) :: L)) (SegSub.trans (SegSub.flat (by simp [selS])) (SegSub.sel _ [none, some 0, some 1, some 2] 3)) ?_)))
    exact Upd.done (hR none 0 [] ((g1, Obj.cells #[.slice A1 r1.f_open.length c1, .map (some g2), .int .i64 r1.credit, .int .i64 r1.last] 56 (0, 0)) :: (ch1 ++ ((g2, Obj.map es1 cn1) :: []))) (Own.nil) (⟨g1, A1, c1, ch1, g2, es1, cn1, rfl, rfl, hO1, hM1⟩))
  replace h := cond_f hc5 h
  refine WP.seq_k (fun K221 hK221 => WP.region Tt_ok (O_cons (O_read rfl (R_move rfl (P_some rfl (O_cons (O_read rfl (R_move rfl (P_some rfl (O_cons (O_read rfl (R_nilP rfl (P_some rfl ?_)))))))))))))
  refine O_cons (O_read rfl (R_fa0 (o' := 2) rfl rfl rfl rfl rfl rfl (P_some rfl (O_cons (O_read rfl (R_load rfl rfl rfl (Ex.mk _ (Cell.seg 0 0 rfl rfl rfl) (P_some rfl (O_cons (O_read rfl (R_add rfl rfl (P_some rfl (O_cons ?_)))))))))))))
  refine O_read rfl (R_gtrD rfl rfl (P_some rfl (O_cons (O_read rfl (R_assign rfl (P_some rfl (O_nil (hK221 _ _ _ ?_))))))))
  refine W_cond_v (b := (decide (1000000000000 < (w64 (amount1 + r1.credit))))) rfl (fun hc6 => ?_) (fun hc6 => ?_)
  · replace h := cond_t hc6 h
    refine WP.seq_k (fun K222 hK222 => WP.region Tt_ok (O_cons (O_read rfl (R_assign rfl (P_some rfl (O_cons (O_read rfl (R_assign rfl (P_some rfl (O_nil (hK222 _ _ _ (WP.ret ?_))))))))))))
    have e_ := Option.some.inj h
    obtain ⟨e0a_, e0b_⟩ := Prod.mk.inj e_
    clear e_
    subst e0a_
    obtain ⟨e1a_, e1b_⟩ := Prod.mk.inj e0b_
    clear e0b_
    subst e1a_
    subst e1b_
    refine S_tmp rfl (S_tmp rfl (S_nil (Upd.seg (L2 := ([] :: ((g1, Obj.cells #[.slice A1 r1.f_open.length c1, .map (some g2), .int .i64 r1.credit, .int .i64 r1.last] 56 (0, 0)) :: (ch1 ++ ((g2, Obj.map es1 cn1) :: []))) :: L)) (SegSub.trans (SegSub.flat (by simp [selS])) (SegSub.sel _ [none, some 0, some 1, some 2] 3)) ?_)))
    exact Upd.done (hR none 0 [] ((g1, Obj.cells #[.slice A1 r1.f_open.length c1, .map (some g2), .int .i64 r1.credit, .int .i64 r1.last] 56 (0, 0)) :: (ch1 ++ ((g2, Obj.map es1 cn1) :: []))) (Own.nil) (⟨g1, A1, c1, ch1, g2, es1, cn1, rfl, rfl, hO1, hM1⟩))
  replace h := cond_f hc6 h
  refine WP.skip (hK204 _ _ _ (WP.seq_k (fun K225 hK225 => WP.region Tt_ok (O_cons (O_read rfl (R_move rfl (P_some rfl (O_cons (O_read rfl (R_move rfl (P_some rfl (O_cons (O_read rfl ?_)))))))))))))
  refine R_nilP rfl (P_some rfl (O_cons (O_read rfl (R_fa0 (o' := 3) rfl rfl rfl rfl rfl rfl (P_some rfl (O_cons (O_store (vs := [.int .i64 f_at1]) rfl rfl rfl rfl rfl rfl (ST_ (L' := ([(g1, .cells #[.slice A1 r1.f_open.length c1, .map (some g2), .int .i64 r1.credit, .int .i64 f_at1] 56 (0, 0))] :: ch1 :: [(g2, .map es1 cn1)] :: L)) 0 0 rfl rfl rfl rfl (P_none (O_nil (hK225 _ _ _ (WP.seq_k (fun K227 hK227 => WP.region Tt_ok ?_)))))))))))))
  refine O_cons (O_read rfl (R_move rfl (P_some rfl (O_cons (O_read rfl (R_nilP rfl (P_some rfl (O_cons (O_read rfl (R_fa0 (o' := 2) rfl rfl rfl rfl rfl rfl (P_some rfl (O_cons (O_read rfl ?_)))))))))))))
  refine R_load rfl rfl rfl (Ex.mk _ (Cell.seg 0 0 rfl rfl rfl) (P_some rfl (O_cons (O_read rfl (R_move rfl (P_some rfl (O_cons (O_read rfl (R_add rfl rfl (P_some rfl (O_cons (O_read rfl (R_nilP rfl ?_)))))))))))))
  refine P_some rfl (O_cons (O_read rfl (R_fa0 (o' := 2) rfl rfl rfl rfl rfl rfl (P_some rfl (O_cons (O_store (vs := [.int .i64 (w64 (r1.credit + amount1))]) rfl rfl rfl rfl rfl rfl (ST_ (L' := ([(g1, .cells #[.slice A1 r1.f_open.length c1, .map (some g2), .int .i64 (w64 (r1.credit + amount1)), .int .i64 f_at1] 56 (0, 0))] :: ch1 :: [(g2, .map es1 cn1)] :: L)) 0 0 rfl rfl rfl rfl (P_none (O_nil (hK227 _ _ _ (WP.seq_k (fun K229 hK229 => WP.region Tt_ok (O_cons ?_)))))))))))))
  refine O_read rfl (R_assign rfl (P_some rfl (O_cons (O_read rfl (R_assign rfl (P_some rfl (O_nil (hK229 _ _ _ (WP.seq_k (fun K234 hK234 => WP.seq_k (fun K235 hK235 => WP.region Tt_ok (O_cons (O_read rfl ?_)))))))))))))
  refine R_move rfl (P_some rfl (O_cons (O_read rfl (R_nilP rfl (P_some rfl (O_cons (O_read rfl (R_fa0 (o' := 0) rfl rfl rfl rfl rfl rfl (P_some rfl (O_cons (O_read rfl (R_load rfl rfl rfl (Ex.mk _ (Cell.seg 0 0 rfl rfl rfl) ?_)))))))))))))
  refine P_some rfl (O_cons (O_read rfl (R_lenS rfl rfl rfl (P_some rfl (O_cons (O_read rfl (R_move rfl (P_some rfl (O_nil (hK235 _ _ _ ?_))))))))))
  obtain ⟨o236, h236, h⟩ := obind h
  refine WP.cutK (fun fr_ μ_ L_ => ∃ (f4 : Int) (used4 : (List T_api_Open)) (rest3 : (List T_api_Open)) (A9 : Option Addr) (c9 : Nat) (ch9 : Seg) (A10 : Option Addr) (c10 : Nat) (ch10 : Seg), (f4, used4, rest3) = o236 ∧ SubFr [(0, .pointer (some ⟨g1, 0, none⟩)), (8, .slice A9 used4.length c9), (9, .slice A10 rest3.length c10)] fr_ ∧ SegSub ([(g1, .cells #[.slice A1 r1.f_open.length c1, .map (some g2), .int .i64 f4, .int .i64 f_at1] 56 (0, 0))] :: ch1 :: [(g2, .map es1 cn1)] :: ch9 :: ch10 :: L) L_ ∧ Own r_api_Open 49 μ_ (.slice A9 used4.length c9) used4 ch9 ∧ Own r_api_Open 49 μ_ (.slice A10 rest3.length c10) rest3 ch10 ∧ μ = μ_) ?_ ?_
  · refine WP.block (WP.iter h236 (fun (j_ : Int × (List T_api_Open) × (List T_api_Open) × Int) fr_ μ_ L_ => ounP j_ fun f1 j_ => ounP j_ fun used1 j_ => ounP j_ fun rest1 v2 => ∃ (A2 : Option Addr) (c2 : Nat) (ch2 : Seg) (A3 : Option Addr) (c3 : Nat) (ch3 : Seg), SubFr [(0, .pointer (some ⟨g1, 0, none⟩)), (8, .slice A2 used1.length c2), (9, .slice A3 rest1.length c3), (61, .slice A1 r1.f_open.length c1), (62, .int .i64 ((r1.f_open.length : Nat) : Int)), (63, .int .i64 v2)] fr_ ∧ SegSub ([(g1, .cells #[.slice A1 r1.f_open.length c1, .map (some g2), .int .i64 f1, .int .i64 f_at1] 56 (0, 0))] :: ch1 :: [(g2, .map es1 cn1)] :: ch2 :: ch3 :: L) L_ ∧ Own r_api_Open 49 μ_ (.slice A2 used1.length c2) used1 ch2 ∧ Own r_api_Open 49 μ_ (.slice A3 rest1.length c3) rest1 ch3 ∧ μ = μ_) ⟨none, 0, [], none, 0, [], SubFr.of ⟨rfl, rfl, rfl, rfl, rfl, rfl, trivial⟩, SegSub.sel _ [some 0, some 1, some 2, none, none] 3, (Own.nil), (Own.nil), rfl⟩ ?_)
    rintro ⟨f1, used1, rest1, v2⟩ q272 fr272 μ272 L272 hm272 ⟨A2, c2, ch2, A3, c3, ch3, hF272, hS272, hO2, hO3, hu272⟩ hb272 hq272
    unfold payment_Register_Pay_l1 at hb272
    replace hb272 := oun_mk hb272
    replace hb272 := oun_mk hb272
    replace hb272 := oun_mk hb272
    subst hu272
    refine WP.at hF272 hS272 (WP.seq_k (fun K280 hK280 => WP.region Tt_ok (O_cons (O_read rfl (R_lssD rfl rfl (P_some rfl (O_nil (hK280 _ _ _ (WP.seq_k (fun K281 hK281 => ?_))))))))))
    refine W_cond_v (b := (decide (v2 < ((r1.f_open.length : Nat) : Int)))) rfl (fun hc7 => ?_) (fun hc7 => ?_)
    · replace hb272 := cond_t hc7 hb272
      refine WP.skip (hK281 _ _ _ (WP.seq_k (fun K282 hK282 => ?_)))
      obtain ⟨o283, h283, hb272⟩ := obind hb272
      refine WP.cutK (fun fr_ μ_ L_ => ∃ (f3 : Int) (used3 : (List T_api_Open)) (rest2 : (List T_api_Open)) (A7 : Option Addr) (c7 : Nat) (ch7 : Seg) (A8 : Option Addr) (c8 : Nat) (ch8 : Seg), (f3, used3, rest2) = o283 ∧ SubFr [(0, .pointer (some ⟨g1, 0, none⟩)), (8, .slice A7 used3.length c7), (9, .slice A8 rest2.length c8), (61, .slice A1 r1.f_open.length c1), (62, .int .i64 ((r1.f_open.length : Nat) : Int)), (63, .int .i64 v2)] fr_ ∧ SegSub ([(g1, .cells #[.slice A1 r1.f_open.length c1, .map (some g2), .int .i64 f3, .int .i64 f_at1] 56 (0, 0))] :: ch1 :: [(g2, .map es1 cn1)] :: ch7 :: ch8 :: L) L_ ∧ Own r_api_Open 49 μ_ (.slice A7 used3.length c7) used3 ch7 ∧ Own r_api_Open 49 μ_ (.slice A8 rest2.length c8) rest2 ch8 ∧ μ = μ_) ?_ ?_
      · refine WP.block (WP.seq_k (fun K284 hK284 => WP.region Tt_ok (O_cons ?_)))
        obtain ⟨x1, hx1, h283⟩ := obind h283
        obtain ⟨a1, cs1, hA1, hr1, _, hc8⟩ := Rds.getI (Own.rds (L := ([(g1, .cells #[.slice A1 r1.f_open.length c1, .map (some g2), .int .i64 f1, .int .i64 f_at1] 56 (0, 0))] :: ch1 :: [(g2, .map es1 cn1)] :: ch2 :: ch3 :: L)) hO1 1 rfl) hx1
        obtain rfl := hr1
        refine O_read rfl (R_iaG rfl rfl rfl rfl rfl rfl ⟨(getI_lt hx1).1, (getI_lt hx1).2.1⟩ hA1 (P_some rfl (O_cons (O_read rfl (R_loadA rfl rfl rfl rfl (Ex.mk [.int .i64 x1.Bill, .int .i64 x1.Due, .int .i64 x1.Rest] ⟨rfl, hc8⟩ (P_some rfl (O_cons (O_alloc (cs := #[.int .i64 0, .int .i64 0, .int .i64 0]) rfl rfl (fun g3 => P_some rfl (O_cons (O_store (vs := [.int .i64 x1.Bill, .int .i64 x1.Due, .int .i64 x1.Rest]) rfl rfl rfl rfl rfl rfl (ST_ (L' := ([(g3, .cells #[.int .i64 x1.Bill, .int .i64 x1.Due, .int .i64 x1.Rest] 49 (0, 0))] :: [(g1, .cells #[.slice A1 r1.f_open.length c1, .map (some g2), .int .i64 f1, .int .i64 f_at1] 56 (0, 0))] :: ch1 :: [(g2, .map es1 cn1)] :: ch2 :: ch3 :: L)) 0 0 rfl rfl rfl rfl ?_)))))))))))))
        refine P_none (O_nil (hK284 _ _ _ (WP.seq_k (fun K287 hK287 => WP.drawn (id := 15) (l' := List.replicate 8 true) wide Tt_ok _ Kept.refl [(true, 0), (true, 1), (true, 2), (true, 3), (true, 4), (true, 5), (true, 6), (true, 7)] (by kernel_rfl) (by kernel_rfl) rfl (PL_t rfl (R_fa0 (o' := 2) rfl rfl rfl rfl rfl rfl (P_some rfl (PL_t rfl (R_load rfl rfl rfl (Ex.mk _ (Cell.seg 0 0 rfl rfl rfl) (P_some rfl (PL_t rfl (R_move rfl ?_)))))))))))))
        refine P_some rfl (PL_t rfl (R_nilP rfl (P_some rfl (PL_t rfl (R_fa0 (o' := 2) rfl rfl rfl rfl rfl rfl (P_some rfl (PL_t rfl (R_load rfl rfl rfl (Ex.mk _ (Cell.seg 1 0 rfl rfl rfl) (P_some rfl (PL_t rfl (R_minI rfl (P_some rfl ?_)))))))))))))
        refine PL_t rfl (R_assign rfl (P_some rfl (PL_nil (AN.done0 (by kernel_rfl) (hK287 _ _ _ (WP.seq_k (fun K288 hK288 => WP.region Tt_ok (O_cons (O_read rfl (R_move rfl (P_some rfl (O_cons (O_read rfl ?_)))))))))))))
        refine R_nilP rfl (P_some rfl (O_cons (O_read rfl (R_fa0 (o' := 2) rfl rfl rfl rfl rfl rfl (P_some rfl (O_cons (O_read rfl (R_load rfl rfl rfl (Ex.mk _ (Cell.seg 1 0 rfl rfl rfl) (P_some rfl (O_cons (O_read rfl (R_move rfl ?_)))))))))))))
        refine P_some rfl (O_cons (O_read rfl (R_sub rfl rfl (P_some rfl (O_cons (O_read rfl (R_nilP rfl (P_some rfl (O_cons (O_read rfl (R_fa0 (o' := 2) rfl rfl rfl rfl rfl rfl (P_some rfl (O_cons ?_)))))))))))))
        refine O_store (vs := [.int .i64 (w64 (f1 - (min x1.Rest f1)))]) rfl rfl rfl rfl rfl rfl (ST_ (L' := ([(g3, .cells #[.int .i64 x1.Bill, .int .i64 x1.Due, .int .i64 x1.Rest] 49 (0, 0))] :: [(g1, .cells #[.slice A1 r1.f_open.length c1, .map (some g2), .int .i64 (w64 (f1 - (min x1.Rest f1))), .int .i64 f_at1] 56 (0, 0))] :: ch1 :: [(g2, .map es1 cn1)] :: ch2 :: ch3 :: L)) 1 0 rfl rfl rfl rfl (P_none (O_nil (hK288 _ _ _ (WP.seq_k (fun K290 hK290 => WP.seq_k (fun K291 hK291 => WP.region Tt_ok (O_cons (O_read rfl (R_move rfl (P_some rfl (O_cons (O_read rfl ?_)))))))))))))
        refine R_gtrD rfl rfl (P_some rfl (O_nil (hK291 _ _ _ ?_)))
        obtain ⟨o292, h292, h283⟩ := obind h283
        refine WP.cutK (fun fr_ μ_ L_ => ∃ (f2 : Int) (used2 : (List T_api_Open)) (A5 : Option Addr) (c5 : Nat) (ch5 : Seg), (f2, used2) = o292 ∧ SubFr [(0, .pointer (some ⟨g1, 0, none⟩)), (8, .slice A5 used2.length c5), (9, .slice A3 rest1.length c3), (11, .pointer (some ⟨g3, 0, none⟩)), (12, .int .i64 (min x1.Rest f1)), (61, .slice A1 r1.f_open.length c1), (62, .int .i64 ((r1.f_open.length : Nat) : Int)), (63, .int .i64 v2)] fr_ ∧ SegSub ([(g1, .cells #[.slice A1 r1.f_open.length c1, .map (some g2), .int .i64 f2, .int .i64 f_at1] 56 (0, 0))] :: ch1 :: [(g2, .map es1 cn1)] :: ch5 :: ch3 :: [(g3, .cells #[.int .i64 x1.Bill, .int .i64 x1.Due, .int .i64 x1.Rest] 49 (0, 0))] :: L) L_ ∧ Own r_api_Open 49 μ_ (.slice A5 used2.length c5) used2 ch5 ∧ μ = μ_) ?_ ?_
        · refine W_cond_v (b := (decide (0 < (min x1.Rest f1)))) rfl (fun hc9 => ?_) (fun hc9 => ?_)
          · replace h292 := cond_t hc9 h292
            refine WP.region Tt_ok (O_cons (O_read rfl (R_move rfl (P_some rfl (O_cons (O_read rfl (R_fa0 (o' := 0) rfl rfl rfl rfl rfl rfl (P_some rfl (O_cons (O_read rfl (R_load rfl rfl rfl (Ex.mk _ (Cell.seg 0 0 rfl rfl rfl) (P_some rfl ?_)))))))))))))
            refine O_cons (O_read rfl (R_fa0 (o' := 1) rfl rfl rfl rfl rfl rfl (P_some rfl (O_cons (O_read rfl (R_load rfl rfl rfl (Ex.mk _ (Cell.seg 0 0 rfl rfl rfl) (P_some rfl (O_cons (O_read rfl (R_move rfl (P_some rfl (O_cons ?_)))))))))))))
            refine O_read rfl (R_build rfl rfl rfl rfl (F_cons (cells' := [.int .i64 x1.Bill, .int .i64 0, .int .i64 0]) rfl rfl rfl rfl (F_cons (cells' := [.int .i64 x1.Bill, .int .i64 x1.Due, .int .i64 0]) rfl rfl rfl rfl (F_cons (cells' := [.int .i64 x1.Bill, .int .i64 x1.Due, .int .i64 (min x1.Rest f1)]) rfl rfl rfl rfl (F_nil (P_some rfl (O_cons (O_bsl (z := [.int .i64 0, .int .i64 0, .int .i64 0]) rfl rfl rfl rfl rfl rfl rfl (F_cons (cells' := [.int .i64 x1.Bill, .int .i64 x1.Due, .int .i64 (min x1.Rest f1)]) rfl rfl rfl rfl (F_nil (fun g4 => P_some rfl (O_cons (O_append rfl ?_)))))))))))))
            obtain ⟨l1, hz1, h292⟩ := obind h292
            refine sem_appR (r := r_api_Open) Tt_ok rfl rfl rfl rfl (by decide) rfl rfl 5 rfl hO2 rfl (Own.rds (L := ([(g4, .cells #[.int .i64 x1.Bill, .int .i64 x1.Due, .int .i64 (min x1.Rest f1)] 49 (0, 0))] :: [(g3, .cells #[.int .i64 x1.Bill, .int .i64 x1.Due, .int .i64 x1.Rest] 49 (0, 0))] :: [(g1, .cells #[.slice A1 r1.f_open.length c1, .map (some g2), .int .i64 (w64 (f1 - (min x1.Rest f1))), .int .i64 f_at1] 56 (0, 0))] :: ch1 :: [(g2, .map es1 cn1)] :: ch2 :: ch3 :: L)) (Own.lit (r := r_api_Open) (e := 49) (g := g4) (xs := [(T_api_Open.mk x1.Bill x1.Due (min x1.Rest f1))]) (cs := [.int .i64 x1.Bill, .int .i64 x1.Due, .int .i64 (min x1.Rest f1)]) (css := [[.int .i64 x1.Bill, .int .i64 x1.Due, .int .i64 (min x1.Rest f1)]]) rfl (All2.cons (rfl) (All2.nil)) rfl rfl) 0 rfl) hz1 fun A4 c4 ch4 hO4 => ?_
            refine P_some rfl (O_cons (O_read rfl (R_assign rfl (P_some rfl (O_nil ?_)))))
            have e_ := Option.some.inj h292
            subst e_
            exact ⟨w64 (f1 - (min x1.Rest f1)), l1, A4, c4, ch4, rfl, SubFr.of ⟨rfl, rfl, rfl, rfl, rfl, rfl, rfl, rfl, trivial⟩, SegSub.sel _ [some 2, some 3, some 4, some 5, some 6, some 1] 7, (hO4), rfl⟩
          replace h292 := cond_f hc9 h292
          apply WP.skip
          have e_ := Option.some.inj h292
          subst e_
          exact ⟨w64 (f1 - (min x1.Rest f1)), used1, A2, c2, ch2, rfl, SubFr.of ⟨rfl, rfl, rfl, rfl, rfl, rfl, rfl, rfl, trivial⟩, SegSub.sel _ [some 1, some 2, some 3, some 4, some 5, some 0] 6, (hO2), rfl⟩
        rintro fr292 μ292 L292 hm292 ⟨f2, used2, A5, c5, ch5, ho292, hF292, hS292, hO5, hu292⟩
        subst ho292
        replace h283 := oun_mk h283
        subst hu292
        refine hK290 _ _ _ (WP.at hF292 hS292 (WP.seq_k (fun K300 hK300 => WP.region Tt_ok (O_cons (O_read rfl (R_fa0 (o' := 2) rfl rfl rfl rfl rfl rfl (P_some rfl (O_cons (O_read rfl (R_load rfl rfl rfl (Ex.mk _ (Cell.seg 5 0 rfl rfl rfl) (P_some rfl (O_cons ?_)))))))))))))
        refine O_read rfl (R_move rfl (P_some rfl (O_cons (O_read rfl (R_sub rfl rfl (P_some rfl (O_cons (O_read rfl (R_fa0 (o' := 2) rfl rfl rfl rfl rfl rfl (P_some rfl (O_cons (O_store (vs := [.int .i64 (w64 (x1.Rest - (min x1.Rest f1)))]) rfl rfl rfl rfl rfl rfl (ST_ (L' := ([(g1, .cells #[.slice A1 r1.f_open.length c1, .map (some g2), .int .i64 f2, .int .i64 f_at1] 56 (0, 0))] :: ch1 :: [(g2, .map es1 cn1)] :: ch5 :: ch3 :: [(g3, .cells #[.int .i64 x1.Bill, .int .i64 x1.Due, .int .i64 (w64 (x1.Rest - (min x1.Rest f1)))] 49 (0, 0))] :: L)) 5 0 rfl rfl rfl rfl ?_)))))))))))))
        refine P_none (O_nil (hK300 _ _ _ (WP.seq_k (fun K302 hK302 => WP.region Tt_ok (O_cons (O_read rfl (R_fa0 (o' := 2) rfl rfl rfl rfl rfl rfl (P_some rfl (O_cons (O_read rfl (R_load rfl rfl rfl (Ex.mk _ (Cell.seg 5 0 rfl rfl rfl) (P_some rfl ?_)))))))))))))
        refine O_cons (O_read rfl (R_gtrD rfl rfl (P_some rfl (O_nil (hK302 _ _ _ ?_)))))
        refine W_cond_v (b := (decide (0 < (w64 (x1.Rest - (min x1.Rest f1)))))) rfl (fun hc10 => ?_) (fun hc10 => ?_)
        · replace h283 := cond_t hc10 h283
          refine WP.region Tt_ok (O_cons (O_read rfl (R_move rfl (P_some rfl (O_cons (O_read rfl (R_loadA rfl rfl rfl rfl (LA_ (vs := [.int .i64 x1.Bill, .int .i64 x1.Due, .int .i64 (w64 (x1.Rest - (min x1.Rest f1)))]) 5 0 rfl rfl rfl rfl (P_some rfl (O_cons (O_bsl (z := [.int .i64 0, .int .i64 0, .int .i64 0]) rfl rfl rfl rfl rfl rfl rfl (F_cons (cells' := [.int .i64 x1.Bill, .int .i64 x1.Due, .int .i64 (w64 (x1.Rest - (min x1.Rest f1)))]) rfl rfl rfl rfl (F_nil (fun g5 => ?_))))))))))))))
          refine P_some rfl (O_cons (O_append rfl ?_))
          obtain ⟨l2, hz2, h283⟩ := obind h283
          refine sem_appR (r := r_api_Open) Tt_ok rfl rfl rfl rfl (by decide) rfl rfl 5 rfl hO3 rfl (Own.rds (L := ([(g5, .cells #[.int .i64 x1.Bill, .int .i64 x1.Due, .int .i64 (w64 (x1.Rest - (min x1.Rest f1)))] 49 (0, 0))] :: [(g1, .cells #[.slice A1 r1.f_open.length c1, .map (some g2), .int .i64 f2, .int .i64 f_at1] 56 (0, 0))] :: ch1 :: [(g2, .map es1 cn1)] :: ch5 :: ch3 :: [(g3, .cells #[.int .i64 x1.Bill, .int .i64 x1.Due, .int .i64 (w64 (x1.Rest - (min x1.Rest f1)))] 49 (0, 0))] :: L)) (Own.lit (r := r_api_Open) (e := 49) (g := g5) (xs := [(T_api_Open.mk x1.Bill x1.Due (w64 (x1.Rest - (min x1.Rest f1))))]) (cs := [.int .i64 x1.Bill, .int .i64 x1.Due, .int .i64 (w64 (x1.Rest - (min x1.Rest f1)))]) (css := [[.int .i64 x1.Bill, .int .i64 x1.Due, .int .i64 (w64 (x1.Rest - (min x1.Rest f1)))]]) rfl (All2.cons (rfl) (All2.nil)) rfl rfl) 0 rfl) hz2 fun A6 c6 ch6 hO6 => ?_
          refine P_some rfl (O_cons (O_read rfl (R_assign rfl (P_some rfl (O_nil ?_)))))
          have e_ := Option.some.inj h283
          subst e_
          exact ⟨f2, used2, l2, A5, c5, ch5, A6, c6, ch6, rfl, SubFr.of ⟨rfl, rfl, rfl, rfl, rfl, rfl, trivial⟩, SegSub.sel _ [some 1, some 2, some 3, some 4, some 5] 7, (hO5), (hO6), rfl⟩
        replace h283 := cond_f hc10 h283
        apply WP.skip
        have e_ := Option.some.inj h283
        subst e_
        exact ⟨f2, used2, rest1, A5, c5, ch5, A3, c3, ch3, rfl, SubFr.of ⟨rfl, rfl, rfl, rfl, rfl, rfl, trivial⟩, SegSub.sel _ [some 0, some 1, some 2, some 3, some 4] 6, (hO5), (hO3), rfl⟩
      rintro fr283 μ283 L283 hm283 ⟨f3, used3, rest2, A7, c7, ch7, A8, c8, ch8, ho283, hF283, hS283, hO7, hO8, hu283⟩
      subst ho283
      replace hb272 := oun_mk hb272
      replace hb272 := oun_mk hb272
      subst hu283
      refine hK282 _ _ _ (WP.at hF283 hS283 (WP.region Tt_ok (O_cons (O_read rfl (R_add rfl rfl (P_some rfl (O_cons (O_read rfl (R_move rfl (P_some rfl (O_nil ?_)))))))))))
      have e_ := Option.some.inj hb272
      subst e_
      exact ⟨_, rfl, A7, c7, ch7, A8, c8, ch8, SubFr.of ⟨rfl, rfl, rfl, rfl, rfl, rfl, trivial⟩, SegSub.sel _ [some 0, some 1, some 2, some 3, some 4] 5, (hO7), (hO8), rfl⟩
    replace hb272 := cond_f hc7 hb272
    refine WP.exit (B_here ?_)
    have e_ := Option.some.inj hb272
    subst e_
    have hq_ := hq272 _ rfl
    subst hq_
    exact ⟨f1, used1, rest1, A2, c2, ch2, A3, c3, ch3, rfl, SubFr.of ⟨rfl, rfl, rfl, trivial⟩, SegSub.sel _ [some 0, some 1, some 2, some 3, some 4] 5, (hO2), (hO3), rfl⟩
  rintro fr236 μ236 L236 hm236 ⟨f4, used4, rest3, A9, c9, ch9, A10, c10, ch10, ho236, hF236, hS236, hO9, hO10, hu236⟩
  subst ho236
  replace h := oun_mk h
  replace h := oun_mk h
  subst hu236
  refine hK234 _ _ _ (WP.at hF236 hS236 (WP.seq_k (fun K313 hK313 => WP.region Tt_ok (O_cons (O_read rfl (R_move rfl (P_some rfl (O_cons (O_read rfl (R_move rfl (P_some rfl (O_cons (O_read rfl ?_)))))))))))))
  refine R_nilP rfl (P_some rfl (O_cons (O_read rfl (R_fa0 (o' := 0) rfl rfl rfl rfl rfl rfl (P_some rfl (O_cons (O_store (vs := [.slice A10 rest3.length c10]) rfl rfl rfl rfl rfl rfl (ST_ (L' := ([(g1, .cells #[.slice A10 rest3.length c10, .map (some g2), .int .i64 f4, .int .i64 f_at1] 56 (0, 0))] :: ch1 :: [(g2, .map es1 cn1)] :: ch9 :: ch10 :: L)) 0 0 rfl rfl rfl rfl (P_none (O_nil (hK313 _ _ _ (WP.seq_k (fun K315 hK315 => WP.region Tt_ok ?_)))))))))))))
  refine O_cons (O_read rfl (R_move rfl (P_some rfl (O_cons (O_read rfl (R_assign rfl (P_some rfl (O_cons (O_read rfl (R_assign rfl (P_some rfl (O_nil (hK315 _ _ _ ?_)))))))))))))
  apply WP.ret
  have e_ := Option.some.inj h
  obtain ⟨e0a_, e0b_⟩ := Prod.mk.inj e_
  clear e_
  subst e0a_
  obtain ⟨e1a_, e1b_⟩ := Prod.mk.inj e0b_
  clear e0b_
  subst e1a_
  subst e1b_
  refine S_tmp rfl (S_tmp rfl (S_nil (Upd.seg (L2 := (ch9 :: ((g1, Obj.cells #[.slice A10 rest3.length c10, .map (some g2), .int .i64 f4, .int .i64 f_at1] 56 (0, 0)) :: (ch10 ++ ((g2, Obj.map es1 cn1) :: []))) :: L)) (SegSub.trans (SegSub.flat (by simp [selS])) (SegSub.sel _ [some 3, some 0, some 4, some 2] 5)) ?_)))
  exact Upd.done (hR A9 c9 ch9 ((g1, Obj.cells #[.slice A10 rest3.length c10, .map (some g2), .int .i64 f4, .int .i64 f_at1] 56 (0, 0)) :: (ch10 ++ ((g2, Obj.map es1 cn1) :: []))) (hO9) (⟨g1, A10, c10, ch10, g2, es1, cn1, rfl, rfl, hO10, hM1⟩))

theorem payment_Register_Late_fn {μ : Gh} {L : List Seg} {R : Value → Gh → List Seg → Prop}  {r1 : T_payment_Register} {f_at1 : Int} {days1 : Int} {pv1 : Value} {so1 : Seg} {res1 : (List Int)} {res2 : Int} {res3 : T_payment_Register}
    (hP1 : Obj_payment_Register μ pv1 r1 so1) (h : payment_Register_Late r1 f_at1 days1 = some (res1, res2, res3))
    (hR : ∀ (A0 : Option Addr) (c0 : Nat) (ch0 : Seg) (sp0 : Seg), Own rInt 3 μ (.slice A0 res1.length c0) res1 ch0 → Obj_payment_Register μ pv1 res3 sp0 → R (.tuple #[.slice A0 res1.length c0, .int .i64 res2]) μ (ch0 :: sp0 :: L)) :
    Fn Try.prog 17 [pv1, .int .i64 f_at1, .int .i64 days1] μ (so1 :: L) R := by
  unfold payment_Register_Late at h
  refine Fn.of_body Tt_ok Try.func17 (by kernel_rfl) rfl Try.ntmps17 (by simp) ?_
  simp only [Try.f17, argFr, List.zipIdx, List.map, Nat.reduceAdd]
  refine WP.seq_k (fun K391 hK391 => WP.region Tt_ok (O_cons (O_read rfl (R_assign rfl (P_some rfl (O_cons (O_read rfl (R_assign rfl (P_some rfl (O_nil (hK391 _ _ _ (WP.seq_k (fun K396 hK396 => WP.block ?_)))))))))))))
  refine WP.seq_k ?_; intro K397 hK397
  obtain ⟨g1, A1, c1, ch1, g2, es1, cn1, hv1, rfl, hO1, hM1⟩ := hP1
  subst hv1
  refine WP.seg (L2 := ([(g1, .cells #[.slice A1 r1.f_open.length c1, .map (some g2), .int .i64 r1.credit, .int .i64 r1.last] 56 (0, 0))] :: ch1 :: [(g2, .map es1 cn1)] :: L)) (SegSub.flat (by simp)) (WP.region Tt_ok (O_cons (O_read rfl (R_move rfl (P_some rfl (O_cons (O_read rfl (R_eqP1 rfl rfl rfl rfl (P_some rfl (O_cons (O_read rfl (R_assign rfl (P_some rfl ?_)))))))))))))
  refine O_nil (hK397 _ _ _ (W_cond_f rfl (WP.seq_k (fun K402 hK402 => ?_))))
  obtain ⟨o403, h403, h⟩ := obind h
  refine WP.cutK (fun fr_ μ_ L_ => ∃ (v1 : Bool), v1 = o403 ∧ SubFr [(0, .pointer (some ⟨g1, 0, none⟩)), (1, .int .i64 f_at1), (2, .int .i64 days1), (14, .bool v1)] fr_ ∧ SegSub ([(g1, .cells #[.slice A1 r1.f_open.length c1, .map (some g2), .int .i64 r1.credit, .int .i64 r1.last] 56 (0, 0))] :: ch1 :: [(g2, .map es1 cn1)] :: L) L_ ∧ μ = μ_) ?_ ?_
  · refine WP.region Tt_ok (O_cons (O_read rfl (R_move rfl (P_some rfl (O_cons (O_read rfl (R_lssD rfl rfl (P_some rfl (O_cons (O_read rfl (R_move rfl (P_some rfl ?_))))))))))))
    refine O_gv (z := (decide (f_at1 < 0))) rfl rfl (fun hc1 => ?_) (fun hc1 => ?_)
    · replace h403 := cond_f hc1 h403
      refine O_read rfl (R_move rfl (P_some rfl (O_gY rfl rfl hc1 (O_read rfl (R_gtrD rfl rfl (P_some rfl (O_cons (O_read rfl (R_pick_F rfl hc1 rfl (P_some rfl (O_cons (O_read rfl (R_move rfl ?_)))))))))))))
      apply P_some; exact rfl
      refine O_gv (z := (decide (3155759999 < f_at1))) rfl rfl (fun hc2 => ?_) (fun hc2 => ?_)
      · replace h403 := cond_f hc2 h403
        refine O_read rfl (R_move rfl (P_some rfl (O_gY rfl rfl hc2 (O_read rfl (R_lssD rfl rfl (P_some rfl (O_cons (O_read rfl (R_pick_F rfl hc2 rfl (P_some rfl (O_cons (O_read rfl (R_move rfl ?_)))))))))))))
        apply P_some; exact rfl
        refine O_gv (z := (decide (days1 < 0))) rfl rfl (fun hc3 => ?_) (fun hc3 => ?_)
        · replace h403 := cond_f hc3 h403
          refine O_read rfl (R_move rfl (P_some rfl (O_gY rfl rfl hc3 (O_read rfl (R_gtrD rfl rfl (P_some rfl (O_cons (O_read rfl (R_pick_F rfl hc3 rfl (P_some rfl (O_cons (O_read rfl (R_assign rfl ?_)))))))))))))
          refine P_some rfl (O_nil ?_)
          have e_ := Option.some.inj h403
          subst e_
          exact ⟨(decide (36524 < days1)), rfl, SubFr.of ⟨rfl, rfl, rfl, rfl, trivial⟩, SegSub.sel _ [some 0, some 1, some 2] 3, rfl⟩
        replace h403 := cond_t hc3 h403
        refine P_some rfl (O_gN rfl rfl hc3 (P_some rfl (O_cons (O_read rfl (R_pick_T rfl hc3 rfl (P_some rfl (O_cons (O_read rfl (R_assign rfl (P_some rfl (O_nil ?_)))))))))))
        have e_ := Option.some.inj h403
        subst e_
        exact ⟨true, rfl, SubFr.of ⟨rfl, rfl, rfl, rfl, trivial⟩, SegSub.sel _ [some 0, some 1, some 2] 3, rfl⟩
      replace h403 := cond_t hc2 h403
      refine P_some rfl (O_gN rfl rfl hc2 (P_some rfl (O_cons (O_read rfl (R_pick_T rfl hc2 rfl (P_some rfl (O_cons (O_read rfl (R_move rfl (P_some rfl (O_gN rfl rfl rfl (P_some rfl (O_gN rfl rfl rfl ?_)))))))))))))
      refine P_some rfl (O_cons (O_read rfl (R_pick_T rfl rfl rfl (P_some rfl (O_cons (O_read rfl (R_assign rfl (P_some rfl (O_nil ?_)))))))))
      have e_ := Option.some.inj h403
      subst e_
      exact ⟨true, rfl, SubFr.of ⟨rfl, rfl, rfl, rfl, trivial⟩, SegSub.sel _ [some 0, some 1, some 2] 3, rfl⟩
    replace h403 := cond_t hc1 h403
    refine P_some rfl (O_gN rfl rfl hc1 (P_some rfl (O_cons (O_read rfl (R_pick_T rfl hc1 rfl (P_some rfl (O_cons (O_read rfl (R_move rfl (P_some rfl (O_gN rfl rfl rfl (P_some rfl (O_gN rfl rfl rfl ?_)))))))))))))
    refine P_some rfl (O_cons (O_read rfl (R_pick_T rfl rfl rfl (P_some rfl (O_cons (O_read rfl (R_move rfl (P_some rfl (O_gN rfl rfl rfl (P_some rfl (O_gN rfl rfl rfl (P_some rfl (O_cons ?_)))))))))))))
    refine O_read rfl (R_pick_T rfl rfl rfl (P_some rfl (O_cons (O_read rfl (R_assign rfl (P_some rfl (O_nil ?_)))))))
    have e_ := Option.some.inj h403
    subst e_
    exact ⟨true, rfl, SubFr.of ⟨rfl, rfl, rfl, rfl, trivial⟩, SegSub.sel _ [some 0, some 1, some 2] 3, rfl⟩
  rintro fr403 μ403 L403 hm403 ⟨v1, ho403, hF403, hS403, hu403⟩
  subst ho403
  subst hu403
  refine hK402 _ _ _ (WP.at hF403 hS403 ?_)
  refine W_cond_v (b := v1) rfl (fun hc4 => ?_) (fun hc4 => ?_)
  · replace h := cond_t hc4 h
    refine WP.seq_k (fun K406 hK406 => WP.region Tt_ok (O_cons (O_read rfl (R_assign rfl (P_some rfl (O_cons (O_read rfl (R_assign rfl (P_some rfl (O_nil (hK406 _ _ _ (WP.ret ?_))))))))))))
    have e_ := Option.some.inj h
    obtain ⟨e0a_, e0b_⟩ := Prod.mk.inj e_
    clear e_
    subst e0a_
    obtain ⟨e1a_, e1b_⟩ := Prod.mk.inj e0b_
    clear e0b_
    subst e1a_
    subst e1b_
    refine S_tmp rfl (S_tmp rfl (S_nil (Upd.seg (L2 := ([] :: ((g1, Obj.cells #[.slice A1 r1.f_open.length c1, .map (some g2), .int .i64 r1.credit, .int .i64 r1.last] 56 (0, 0)) :: (ch1 ++ ((g2, Obj.map es1 cn1) :: []))) :: L)) (SegSub.trans (SegSub.flat (by simp [selS])) (SegSub.sel _ [none, some 0, some 1, some 2] 3)) ?_)))
    exact Upd.done (hR none 0 [] ((g1, Obj.cells #[.slice A1 r1.f_open.length c1, .map (some g2), .int .i64 r1.credit, .int .i64 r1.last] 56 (0, 0)) :: (ch1 ++ ((g2, Obj.map es1 cn1) :: []))) (Own.nil) (⟨g1, A1, c1, ch1, g2, es1, cn1, rfl, rfl, hO1, hM1⟩))
  replace h := cond_f hc4 h
  refine WP.skip (hK396 _ _ _ (WP.seq_k (fun K409 hK409 => WP.region Tt_ok (O_cons (O_read rfl (R_assign rfl (P_some rfl (O_nil (hK409 _ _ _ (WP.seq_k (fun K412 hK412 => WP.seq_k (fun K413 hK413 => WP.region Tt_ok (O_cons ?_)))))))))))))
  refine O_read rfl (R_move rfl (P_some rfl (O_cons (O_read rfl (R_nilP rfl (P_some rfl (O_cons (O_read rfl (R_fa0 (o' := 0) rfl rfl rfl rfl rfl rfl (P_some rfl (O_cons (O_read rfl (R_load rfl rfl rfl ?_)))))))))))))
  refine Ex.mk _ (Cell.seg 0 0 rfl rfl rfl) (P_some rfl (O_cons (O_read rfl (R_lenS rfl rfl rfl (P_some rfl (O_cons (O_read rfl (R_move rfl (P_some rfl (O_nil (hK413 _ _ _ ?_)))))))))))
  obtain ⟨o414, h414, h⟩ := obind h
  refine WP.cutK (fun fr_ μ_ L_ => ∃ (out3 : (List Int)) (A5 : Option Addr) (c5 : Nat) (ch5 : Seg), out3 = o414 ∧ SubFr [(8, .slice A5 out3.length c5)] fr_ ∧ SegSub (ch5 :: [(g1, .cells #[.slice A1 r1.f_open.length c1, .map (some g2), .int .i64 r1.credit, .int .i64 r1.last] 56 (0, 0))] :: ch1 :: [(g2, .map es1 cn1)] :: L) L_ ∧ Own rInt 3 μ_ (.slice A5 out3.length c5) out3 ch5 ∧ μ = μ_) ?_ ?_
  · refine WP.block (WP.iter h414 (fun (j_ : (List Int) × Int) fr_ μ_ L_ => ounP j_ fun out1 v2 => ∃ (A2 : Option Addr) (c2 : Nat) (ch2 : Seg), SubFr [(1, .int .i64 f_at1), (2, .int .i64 days1), (8, .slice A2 out1.length c2), (32, .slice A1 r1.f_open.length c1), (33, .int .i64 ((r1.f_open.length : Nat) : Int)), (34, .int .i64 v2)] fr_ ∧ SegSub (ch2 :: ch1 :: [(g1, .cells #[.slice A1 r1.f_open.length c1, .map (some g2), .int .i64 r1.credit, .int .i64 r1.last] 56 (0, 0))] :: [(g2, .map es1 cn1)] :: L) L_ ∧ Own rInt 3 μ_ (.slice A2 out1.length c2) out1 ch2 ∧ μ = μ_) ⟨none, 0, [], SubFr.of ⟨rfl, rfl, rfl, rfl, rfl, rfl, trivial⟩, SegSub.sel _ [none, some 1, some 0, some 2] 3, (Own.nil), rfl⟩ ?_)
    rintro ⟨out1, v2⟩ q433 fr433 μ433 L433 hm433 ⟨A2, c2, ch2, hF433, hS433, hO2, hu433⟩ hb433 hq433
    unfold payment_Register_Late_l1 at hb433
    replace hb433 := oun_mk hb433
    subst hu433
    refine WP.at hF433 hS433 (WP.seq_k (fun K439 hK439 => WP.region Tt_ok (O_cons (O_read rfl (R_lssD rfl rfl (P_some rfl (O_nil (hK439 _ _ _ (WP.seq_k (fun K440 hK440 => ?_))))))))))
    refine W_cond_v (b := (decide (v2 < ((r1.f_open.length : Nat) : Int)))) rfl (fun hc5 => ?_) (fun hc5 => ?_)
    · replace hb433 := cond_t hc5 hb433
      refine WP.skip (hK440 _ _ _ (WP.seq_k (fun K441 hK441 => ?_)))
      obtain ⟨o442, h442, hb433⟩ := obind hb433
      refine WP.cutK (fun fr_ μ_ L_ => ∃ (out2 : (List Int)) (A4 : Option Addr) (c4 : Nat) (ch4 : Seg), out2 = o442 ∧ SubFr [(1, .int .i64 f_at1), (2, .int .i64 days1), (8, .slice A4 out2.length c4), (32, .slice A1 r1.f_open.length c1), (33, .int .i64 ((r1.f_open.length : Nat) : Int)), (34, .int .i64 v2)] fr_ ∧ SegSub (ch4 :: ch1 :: [(g1, .cells #[.slice A1 r1.f_open.length c1, .map (some g2), .int .i64 r1.credit, .int .i64 r1.last] 56 (0, 0))] :: [(g2, .map es1 cn1)] :: L) L_ ∧ Own rInt 3 μ_ (.slice A4 out2.length c4) out2 ch4 ∧ μ = μ_) ?_ ?_
      · refine WP.block (WP.seq_k (fun K443 hK443 => WP.region Tt_ok (O_cons ?_)))
        obtain ⟨x1, hx1, h442⟩ := obind h442
        obtain ⟨a1, cs1, hA1, hr1, _, hc6⟩ := Rds.getI (Own.rds (L := (ch2 :: ch1 :: [(g1, .cells #[.slice A1 r1.f_open.length c1, .map (some g2), .int .i64 r1.credit, .int .i64 r1.last] 56 (0, 0))] :: [(g2, .map es1 cn1)] :: L)) hO1 1 rfl) hx1
        obtain rfl := hr1
        refine O_read rfl (R_iaG rfl rfl rfl rfl rfl rfl ⟨(getI_lt hx1).1, (getI_lt hx1).2.1⟩ hA1 (P_some rfl (O_cons (O_read rfl (R_loadA rfl rfl rfl rfl (Ex.mk [.int .i64 x1.Bill, .int .i64 x1.Due, .int .i64 x1.Rest] ⟨rfl, hc6⟩ (P_some rfl (O_cons (O_alloc (cs := #[.int .i64 0, .int .i64 0, .int .i64 0]) rfl rfl (fun g3 => P_some rfl (O_cons (O_store (vs := [.int .i64 x1.Bill, .int .i64 x1.Due, .int .i64 x1.Rest]) rfl rfl rfl rfl rfl rfl (ST_ (L' := ([(g3, .cells #[.int .i64 x1.Bill, .int .i64 x1.Due, .int .i64 x1.Rest] 49 (0, 0))] :: ch2 :: ch1 :: [(g1, .cells #[.slice A1 r1.f_open.length c1, .map (some g2), .int .i64 r1.credit, .int .i64 r1.last] 56 (0, 0))] :: [(g2, .map es1 cn1)] :: L)) 0 0 rfl rfl rfl rfl ?_)))))))))))))
        refine P_none (O_nil (hK443 _ _ _ (WP.seq_k (fun K446 hK446 => WP.region Tt_ok (O_cons (O_read rfl (R_move rfl (P_some rfl (O_cons (O_read rfl (R_fa0 (o' := 1) rfl rfl rfl rfl rfl rfl (P_some rfl (O_cons ?_)))))))))))))
        refine O_read rfl (R_load rfl rfl rfl (Ex.mk _ (Cell.seg 0 0 rfl rfl rfl) (P_some rfl (O_cons (O_read rfl (R_sub rfl rfl (P_some rfl (O_cons (O_read rfl (R_move rfl (P_some rfl (O_cons (O_read rfl ?_)))))))))))))
        refine R_mul rfl rfl (P_some rfl (O_cons (O_read rfl (R_geqD rfl rfl (P_some rfl (O_nil (hK446 _ _ _ ?_)))))))
        refine W_cond_v (b := (decide ((w64 (days1 * 86400)) ≤ (w64 (f_at1 - x1.Due))))) rfl (fun hc7 => ?_) (fun hc7 => ?_)
        · replace h442 := cond_t hc7 h442
          refine WP.region Tt_ok (O_cons (O_read rfl (R_move rfl (P_some rfl (O_cons (O_read rfl (R_fa0 (o' := 0) rfl rfl rfl rfl rfl rfl (P_some rfl (O_cons (O_read rfl (R_load rfl rfl rfl (Ex.mk _ (Cell.seg 0 0 rfl rfl rfl) (P_some rfl ?_)))))))))))))
          refine O_cons (O_bsl (z := [.int .i64 0]) rfl rfl rfl rfl rfl rfl rfl (F_cons (cells' := [.int .i64 x1.Bill]) rfl rfl rfl rfl (F_nil (fun g4 => P_some rfl (O_cons (O_append rfl ?_))))))
          obtain ⟨l1, hz1, h442⟩ := obind h442
          refine sem_appR (r := rInt) Tt_ok rfl rfl rfl rfl (by decide) rfl rfl 2 rfl hO2 rfl (Own.rds (L := ([(g4, .cells #[.int .i64 x1.Bill] 3 (0, 0))] :: [(g3, .cells #[.int .i64 x1.Bill, .int .i64 x1.Due, .int .i64 x1.Rest] 49 (0, 0))] :: ch2 :: ch1 :: [(g1, .cells #[.slice A1 r1.f_open.length c1, .map (some g2), .int .i64 r1.credit, .int .i64 r1.last] 56 (0, 0))] :: [(g2, .map es1 cn1)] :: L)) (Own.lit (r := rInt) (e := 3) (g := g4) (xs := [x1.Bill]) (cs := [.int .i64 x1.Bill]) (css := [[.int .i64 x1.Bill]]) rfl (All2.cons (rfl) (All2.nil)) rfl rfl) 0 rfl) hz1 fun A3 c3 ch3 hO3 => P_some rfl (O_cons (O_read rfl (R_assign rfl (P_some rfl (O_nil ?_)))))
          have e_ := Option.some.inj h442
          subst e_
          exact ⟨l1, A3, c3, ch3, rfl, SubFr.of ⟨rfl, rfl, rfl, rfl, rfl, rfl, trivial⟩, SegSub.sel _ [some 2, some 3, some 4, some 5] 6, (hO3), rfl⟩
        replace h442 := cond_f hc7 h442
        apply WP.skip
        have e_ := Option.some.inj h442
        subst e_
        exact ⟨out1, A2, c2, ch2, rfl, SubFr.of ⟨rfl, rfl, rfl, rfl, rfl, rfl, trivial⟩, SegSub.sel _ [some 1, some 2, some 3, some 4] 5, (hO2), rfl⟩
      rintro fr442 μ442 L442 hm442 ⟨out2, A4, c4, ch4, ho442, hF442, hS442, hO4, hu442⟩
      subst ho442
      subst hu442
      refine hK441 _ _ _ (WP.at hF442 hS442 (WP.region Tt_ok (O_cons (O_read rfl (R_add rfl rfl (P_some rfl (O_cons (O_read rfl (R_move rfl (P_some rfl (O_nil ?_)))))))))))
      have e_ := Option.some.inj hb433
      subst e_
      exact ⟨_, rfl, A4, c4, ch4, SubFr.of ⟨rfl, rfl, rfl, rfl, rfl, rfl, trivial⟩, SegSub.sel _ [some 0, some 1, some 2, some 3] 4, (hO4), rfl⟩
    replace hb433 := cond_f hc5 hb433
    refine WP.exit (B_here ?_)
    have e_ := Option.some.inj hb433
    subst e_
    have hq_ := hq433 _ rfl
    subst hq_
    exact ⟨out1, A2, c2, ch2, rfl, SubFr.of ⟨rfl, trivial⟩, SegSub.sel _ [some 0, some 2, some 1, some 3] 4, (hO2), rfl⟩
  rintro fr414 μ414 L414 hm414 ⟨out3, A5, c5, ch5, ho414, hF414, hS414, hO5, hu414⟩
  subst ho414
  subst hu414
  refine hK412 _ _ _ (WP.at hF414 hS414 (WP.seq_k (fun K455 hK455 => WP.region Tt_ok (O_cons (O_read rfl (R_move rfl (P_some rfl (O_cons (O_read rfl (R_assign rfl (P_some rfl (O_cons (O_read rfl ?_)))))))))))))
  refine R_assign rfl (P_some rfl (O_nil (hK455 _ _ _ (WP.ret ?_))))
  have e_ := Option.some.inj h
  obtain ⟨e0a_, e0b_⟩ := Prod.mk.inj e_
  clear e_
  subst e0a_
  obtain ⟨e1a_, e1b_⟩ := Prod.mk.inj e0b_
  clear e0b_
  subst e1a_
  subst e1b_
  refine S_tmp rfl (S_tmp rfl (S_nil (Upd.seg (L2 := (ch5 :: ((g1, Obj.cells #[.slice A1 r1.f_open.length c1, .map (some g2), .int .i64 r1.credit, .int .i64 r1.last] 56 (0, 0)) :: (ch1 ++ ((g2, Obj.map es1 cn1) :: []))) :: L)) (SegSub.trans (SegSub.flat (by simp [selS])) (SegSub.sel _ [some 0, some 1, some 2, some 3] 4)) ?_)))
  exact Upd.done (hR A5 c5 ch5 ((g1, Obj.cells #[.slice A1 r1.f_open.length c1, .map (some g2), .int .i64 r1.credit, .int .i64 r1.last] 56 (0, 0)) :: (ch1 ++ ((g2, Obj.map es1 cn1) :: []))) (hO5) (⟨g1, A1, c1, ch1, g2, es1, cn1, rfl, rfl, hO1, hM1⟩))

theorem recyclingref56_Same_fn {μ : Gh} {L : List Seg} {R : Value → Gh → List Seg → Prop}  {a1 : (List T_api_Open)} {b1 : (List T_api_Open)} {A1 : Option Addr} {c1 : Nat} {A2 : Option Addr} {c2 : Nat} {res1 : Bool}
    (hl1 : a1.length ≤ c1 ∧ c1 ≤ maxLen) (hA1 : Rds r_api_Open μ L A1 a1) (hl2 : b1.length ≤ c2 ∧ c2 ≤ maxLen) (hA2 : Rds r_api_Open μ L A2 b1) (h : recyclingref56_Same a1 b1 = some res1)
    (hR : R (.bool res1) μ (L)) :
    Fn Try.prog 16 [.slice A1 a1.length c1, .slice A2 b1.length c2] μ (L) R := by
  unfold recyclingref56_Same at h
  refine Fn.of_body Tt_ok Try.func16 (by kernel_rfl) rfl Try.ntmps16 (by simp) ?_
  simp only [Try.f16, argFr, List.zipIdx, List.map, Nat.reduceAdd]
  refine WP.seq_k (fun K465 hK465 => WP.region Tt_ok (O_cons (O_read rfl (R_assign rfl (P_some rfl (O_nil (hK465 _ _ _ (WP.seq_k (fun K466 hK466 => WP.seq_k (fun K467 hK467 => WP.region Tt_ok (O_cons (O_read rfl (R_move rfl ?_)))))))))))))
  refine P_some rfl (O_cons (O_read rfl (R_lenS rfl rfl rfl (P_some rfl (O_cons (O_read rfl (R_move rfl (P_some rfl (O_cons (O_read rfl (R_lenS rfl rfl rfl (P_some rfl (O_cons ?_)))))))))))))
  refine O_read rfl (R_neqD rfl rfl (P_some rfl (O_nil (hK467 _ _ _ ?_))))
  refine W_cond_v (b := !(decide (((a1.length : Nat) : Int) = ((b1.length : Nat) : Int)))) rfl (fun hc1 => ?_) (fun hc1 => ?_)
  · replace h := cond_t hc1 h
    refine WP.seq_k (fun K468 hK468 => WP.region Tt_ok (O_cons (O_read rfl (R_assign rfl (P_some rfl (O_nil (hK468 _ _ _ (WP.ret ?_))))))))
    have e_ := Option.some.inj h
    subst e_
    refine S_tmp rfl (S_nil (Upd.selS [] 0 ?_))
    exact Upd.done hR
  replace h := cond_f hc1 h
  refine WP.skip (hK466 _ _ _ (WP.seq_k (fun K469 hK469 => WP.seq_k (fun K470 hK470 => WP.region Tt_ok (O_cons (O_read rfl (R_move rfl (P_some rfl (O_cons (O_read rfl (R_lenS rfl rfl rfl (P_some rfl (O_cons ?_)))))))))))))
  refine O_read rfl (R_move rfl (P_some rfl (O_nil (hK470 _ _ _ ?_))))
  obtain ⟨o471, h471, h⟩ := obind h
  refine WP.cutK (fun fr_ μ_ L_ => (.inl ()) = o471 ∧ SubFr [] fr_ ∧ SegSub (L) L_ ∧ μ = μ_) ?_ ?_
  · refine WP.block (WP.iter h471 (fun (v1 : Int) fr_ μ_ L_ => SubFr [(0, .slice A1 a1.length c1), (1, .slice A2 b1.length c2), (12, .int .i64 ((a1.length : Nat) : Int)), (13, .int .i64 v1)] fr_ ∧ SegSub (L) L_ ∧ μ = μ_) ⟨SubFr.of ⟨rfl, rfl, rfl, rfl, trivial⟩, SegSub.sel _ [] 0, rfl⟩ ?_)
    rintro v1 q479 fr479 μ479 L479 hm479 ⟨hF479, hS479, hu479⟩ hb479 hq479
    unfold recyclingref56_Same_l1 at hb479
    subst hu479
    refine WP.at hF479 hS479 (WP.seq_k (fun K480 hK480 => WP.region Tt_ok (O_cons (O_read rfl (R_lssD rfl rfl (P_some rfl (O_nil (hK480 _ _ _ (WP.seq_k (fun K481 hK481 => ?_))))))))))
    refine W_cond_v (b := (decide (v1 < ((a1.length : Nat) : Int)))) rfl (fun hc2 => ?_) (fun hc2 => ?_)
    · replace hb479 := cond_t hc2 hb479
      refine WP.skip (hK481 _ _ _ (WP.seq_k (fun K482 hK482 => WP.block (WP.seq_k (fun K483 hK483 => WP.region Tt_ok (O_cons (O_read rfl (R_move rfl (P_some rfl (O_cons (O_read rfl (R_assign rfl (P_some rfl ?_)))))))))))))
      refine O_nil (hK483 _ _ _ (WP.seq_k (fun K484 hK484 => WP.drawn (id := 6) (l' := List.replicate 9 true) wide Tt_ok _ Kept.refl [(true, 0), (true, 1), (true, 2), (true, 3), (true, 4), (true, 5), (true, 6), (true, 7), (true, 8)] (by kernel_rfl) (by kernel_rfl) rfl (PL_t rfl (R_move rfl (P_some rfl (PL_t rfl (R_move rfl (P_some rfl (PL_t rfl ?_))))))))))
      obtain ⟨x1, hx1, hb479⟩ := obind hb479
      obtain ⟨a2, cs1, hA3, hr1, _, hc3⟩ := Rds.getI hA1 hx1
      obtain rfl := hr1
      refine R_iaG rfl rfl rfl rfl rfl rfl ⟨(getI_lt hx1).1, (getI_lt hx1).2.1⟩ hA3 (P_some rfl (PL_t rfl (R_loadA rfl rfl rfl rfl (Ex.mk [.int .i64 x1.Bill, .int .i64 x1.Due, .int .i64 x1.Rest] ⟨rfl, (hc3)⟩ (P_some rfl (PL_t rfl (R_move rfl (P_some rfl (PL_t rfl (R_move rfl (P_some rfl (PL_t rfl ?_))))))))))))
      obtain ⟨x2, hx2, hb479⟩ := obind hb479
      obtain ⟨a3, cs2, hA4, hr2, _, hc4⟩ := Rds.getI hA2 hx2
      obtain rfl := hr2
      refine R_iaG rfl rfl rfl rfl rfl rfl ⟨(getI_lt hx2).1, (getI_lt hx2).2.1⟩ hA4 (P_some rfl (PL_t rfl (R_loadA rfl rfl rfl rfl (Ex.mk [.int .i64 x2.Bill, .int .i64 x2.Due, .int .i64 x2.Rest] ⟨rfl, (hc4)⟩ (P_some rfl (PL_t rfl (R_agg rfl rfl (Ex.mk _ (neRun_T_api_Open x1 x2) (P_some rfl (PL_nil (AN.done0 (by kernel_rfl) (hK484 _ _ _ ?_))))))))))))
      refine W_cond_v (b := !(decide (x1 = x2))) rfl (fun hc5 => ?_) (fun hc5 => ?_)
      · replace hb479 := cond_t hc5 hb479
        refine WP.seq_k (fun K485 hK485 => WP.region Tt_ok (O_cons (O_read rfl (R_assign rfl (P_some rfl (O_nil (hK485 _ _ _ (WP.ret ?_))))))))
        have e_ := Option.some.inj hb479
        subst e_
        have hq_ := hq479 _ rfl
        subst hq_
        replace h := osum_r h
        have e_ := Option.some.inj h
        subst e_
        refine S_tmp rfl (S_nil (Upd.selS [] 0 ?_))
        exact Upd.done hR
      replace hb479 := cond_f hc5 hb479
      refine WP.skip (hK482 _ _ _ (WP.region Tt_ok (O_cons (O_read rfl (R_add rfl rfl (P_some rfl (O_cons (O_read rfl (R_move rfl (P_some rfl (O_nil ?_)))))))))))
      have e_ := Option.some.inj hb479
      subst e_
      exact ⟨_, rfl, SubFr.of ⟨rfl, rfl, rfl, rfl, trivial⟩, SegSub.sel _ [] 0, rfl⟩
    replace hb479 := cond_f hc2 hb479
    refine WP.exit (B_here ?_)
    have e_ := Option.some.inj hb479
    subst e_
    have hq_ := hq479 _ rfl
    subst hq_
    exact ⟨rfl, SubFr.of trivial, SegSub.sel _ [] 0, rfl⟩
  rintro fr471 μ471 L471 hm471 ⟨ho471, hF471, hS471, hu471⟩
  subst ho471
  replace h := osum_l h
  subst hu471
  refine hK469 _ _ _ (WP.at hF471 hS471 (WP.seq_k (fun K486 hK486 => WP.region Tt_ok (O_cons (O_read rfl (R_assign rfl (P_some rfl (O_nil (hK486 _ _ _ (WP.ret ?_))))))))))
  have e_ := Option.some.inj h
  subst e_
  refine S_tmp rfl (S_nil (Upd.selS [] 0 ?_))
  exact Upd.done hR

theorem payment_Register_Open_fn {μ : Gh} {L : List Seg} {R : Value → Gh → List Seg → Prop}  {r1 : T_payment_Register} {pv1 : Value} {so1 : Seg} {res1 : (List T_api_Open)} {res2 : T_payment_Register}
    (hP1 : Obj_payment_Register μ pv1 r1 so1) (h : payment_Register_Open r1 = some (res1, res2))
    (hR : ∀ (A0 : Option Addr) (c0 : Nat) (ch0 : Seg) (sp0 : Seg), Own r_api_Open 49 μ (.slice A0 res1.length c0) res1 ch0 → Obj_payment_Register μ pv1 res2 sp0 → R (.slice A0 res1.length c0) μ (ch0 :: sp0 :: L)) :
    Fn Try.prog 20 [pv1] μ (so1 :: L) R := by
  unfold payment_Register_Open at h
  refine Fn.of_body Tt_ok Try.func20 (by kernel_rfl) rfl Try.ntmps20 (by simp) ?_
  simp only [Try.f20, argFr, List.zipIdx, List.map, Nat.reduceAdd]
  refine WP.seq_k (fun K502 hK502 => WP.region Tt_ok (O_cons (O_read rfl (R_assign rfl (P_some rfl (O_nil (hK502 _ _ _ (WP.seq_k (fun K507 hK507 => WP.seq_k (fun K508 hK508 => ?_))))))))))
  obtain ⟨g1, A1, c1, ch1, g2, es1, cn1, hv1, rfl, hO1, hM1⟩ := hP1
  subst hv1
  refine WP.seg (L2 := ([(g1, .cells #[.slice A1 r1.f_open.length c1, .map (some g2), .int .i64 r1.credit, .int .i64 r1.last] 56 (0, 0))] :: ch1 :: [(g2, .map es1 cn1)] :: L)) (SegSub.flat (by simp)) (WP.region Tt_ok (O_cons (O_read rfl (R_move rfl (P_some rfl (O_cons (O_read rfl (R_eqP1 rfl rfl rfl rfl (P_some rfl (O_nil (hK508 _ _ _ (W_cond_f rfl (WP.skip ?_)))))))))))))
  refine hK507 _ _ _ (WP.seq_k (fun K513 hK513 => WP.region Tt_ok (O_cons (O_read rfl (R_move rfl (P_some rfl (O_cons (O_read rfl (R_nilP rfl (P_some rfl (O_cons (O_read rfl (R_fa0 (o' := 0) rfl rfl rfl rfl rfl rfl ?_)))))))))))))
  refine P_some rfl (O_cons (O_read rfl (R_load rfl rfl rfl (Ex.mk _ (Cell.seg 0 0 rfl rfl rfl) (P_some rfl (O_cons (O_call (all := [.slice A1 r1.f_open.length c1]) rfl rfl rfl ?_)))))))
  obtain ⟨l1, hs1, h⟩ := obind h
  refine cloneR (r := r_api_Open) clone_f30 rfl rfl (Own.rds (L := ([(g1, .cells #[.slice A1 r1.f_open.length c1, .map (some g2), .int .i64 r1.credit, .int .i64 r1.last] 56 (0, 0))] :: ch1 :: [(g2, .map es1 cn1)] :: L)) hO1 1 rfl) hs1 fun A2 c2 ch2 hO2 => P_some rfl (O_cons (O_read rfl (R_assign rfl (P_some rfl (O_nil (hK513 _ _ _ (WP.ret ?_)))))))
  have e_ := Option.some.inj h
  obtain ⟨e0a_, e0b_⟩ := Prod.mk.inj e_
  clear e_
  subst e0a_
  subst e0b_
  refine S_tmp rfl (S_nil (Upd.seg (L2 := (ch2 :: ((g1, Obj.cells #[.slice A1 r1.f_open.length c1, .map (some g2), .int .i64 r1.credit, .int .i64 r1.last] 56 (0, 0)) :: (ch1 ++ ((g2, Obj.map es1 cn1) :: []))) :: L)) (SegSub.trans (SegSub.flat (by simp [selS])) (SegSub.sel _ [some 0, some 1, some 2, some 3] 4)) ?_))
  exact Upd.done (hR A2 c2 ch2 ((g1, Obj.cells #[.slice A1 r1.f_open.length c1, .map (some g2), .int .i64 r1.credit, .int .i64 r1.last] 56 (0, 0)) :: (ch1 ++ ((g2, Obj.map es1 cn1) :: []))) (hO2) (⟨g1, A1, c1, ch1, g2, es1, cn1, rfl, rfl, hO1, hM1⟩))

theorem payment_Register_Balance_fn {μ : Gh} {L : List Seg} {R : Value → Gh → List Seg → Prop}  {r1 : T_payment_Register} {pv1 : Value} {so1 : Seg} {res1 : Int} {res2 : T_payment_Register}
    (hP1 : Obj_payment_Register μ pv1 r1 so1) (h : payment_Register_Balance r1 = some (res1, res2))
    (hR : ∀ (sp0 : Seg), Obj_payment_Register μ pv1 res2 sp0 → R (.int .i64 res1) μ (sp0 :: L)) :
    Fn Try.prog 22 [pv1] μ (so1 :: L) R := by
  unfold payment_Register_Balance at h
  refine Fn.of_body Tt_ok Try.func22 (by kernel_rfl) rfl Try.ntmps22 (by simp) ?_
  simp only [Try.f22, argFr, List.zipIdx, List.map, Nat.reduceAdd]
  refine WP.seq_k (fun K554 hK554 => WP.region Tt_ok (O_cons (O_read rfl (R_assign rfl (P_some rfl (O_nil (hK554 _ _ _ (WP.seq_k (fun K555 hK555 => WP.seq_k (fun K556 hK556 => ?_))))))))))
  obtain ⟨g1, A1, c1, ch1, g2, es1, cn1, hv1, rfl, hO1, hM1⟩ := hP1
  subst hv1
  refine WP.seg (L2 := ([(g1, .cells #[.slice A1 r1.f_open.length c1, .map (some g2), .int .i64 r1.credit, .int .i64 r1.last] 56 (0, 0))] :: ch1 :: [(g2, .map es1 cn1)] :: L)) (SegSub.flat (by simp)) (WP.region Tt_ok (O_cons (O_read rfl (R_move rfl (P_some rfl (O_cons (O_read rfl (R_eqP1 rfl rfl rfl rfl (P_some rfl (O_nil (hK556 _ _ _ (W_cond_f rfl (WP.skip ?_)))))))))))))
  refine hK555 _ _ _ (WP.seq_k (fun K561 hK561 => WP.region Tt_ok (O_cons (O_read rfl (R_move rfl (P_some rfl (O_cons (O_read rfl (R_nilP rfl (P_some rfl (O_cons (O_read rfl (R_fa0 (o' := 2) rfl rfl rfl rfl rfl rfl ?_)))))))))))))
  refine P_some rfl (O_cons (O_read rfl (R_load rfl rfl rfl (Ex.mk _ (Cell.seg 0 0 rfl rfl rfl) (P_some rfl (O_cons (O_read rfl (R_assign rfl (P_some rfl (O_nil (hK561 _ _ _ (WP.seq_k (fun K562 hK562 => WP.seq_k (fun K563 hK563 => ?_))))))))))))))
  refine WP.region Tt_ok (O_cons (O_read rfl (R_move rfl (P_some rfl (O_cons (O_read rfl (R_nilP rfl (P_some rfl (O_cons (O_read rfl (R_fa0 (o' := 0) rfl rfl rfl rfl rfl rfl (P_some rfl (O_cons ?_)))))))))))))
  refine O_read rfl (R_load rfl rfl rfl (Ex.mk _ (Cell.seg 0 0 rfl rfl rfl) (P_some rfl (O_cons (O_read rfl (R_lenS rfl rfl rfl (P_some rfl (O_cons (O_read rfl (R_move rfl (P_some rfl (O_nil (hK563 _ _ _ ?_)))))))))))))
  obtain ⟨o564, h564, h⟩ := obind h
  refine WP.cutK (fun fr_ μ_ L_ => ∃ (sum2 : Int), sum2 = o564 ∧ SubFr [(3, .int .i64 sum2)] fr_ ∧ SegSub ([(g1, .cells #[.slice A1 r1.f_open.length c1, .map (some g2), .int .i64 r1.credit, .int .i64 r1.last] 56 (0, 0))] :: ch1 :: [(g2, .map es1 cn1)] :: L) L_ ∧ μ = μ_) ?_ ?_
  · refine WP.block (WP.iter h564 (fun (j_ : Int × Int) fr_ μ_ L_ => ounP j_ fun sum1 v1 => SubFr [(3, .int .i64 sum1), (15, .slice A1 r1.f_open.length c1), (16, .int .i64 ((r1.f_open.length : Nat) : Int)), (17, .int .i64 v1)] fr_ ∧ SegSub (ch1 :: [(g1, .cells #[.slice A1 r1.f_open.length c1, .map (some g2), .int .i64 r1.credit, .int .i64 r1.last] 56 (0, 0))] :: [(g2, .map es1 cn1)] :: L) L_ ∧ μ = μ_) ⟨SubFr.of ⟨rfl, rfl, rfl, rfl, trivial⟩, SegSub.sel _ [some 1, some 0, some 2] 3, rfl⟩ ?_)
    rintro ⟨sum1, v1⟩ q575 fr575 μ575 L575 hm575 ⟨hF575, hS575, hu575⟩ hb575 hq575
    unfold payment_Register_Balance_l1 at hb575
    replace hb575 := oun_mk hb575
    subst hu575
    refine WP.at hF575 hS575 (WP.seq_k (fun K579 hK579 => WP.region Tt_ok (O_cons (O_read rfl (R_lssD rfl rfl (P_some rfl (O_nil (hK579 _ _ _ (WP.seq_k (fun K580 hK580 => ?_))))))))))
    refine W_cond_v (b := (decide (v1 < ((r1.f_open.length : Nat) : Int)))) rfl (fun hc1 => ?_) (fun hc1 => ?_)
    · replace hb575 := cond_t hc1 hb575
      refine WP.skip (hK580 _ _ _ (WP.seq_k (fun K581 hK581 => WP.block (WP.seq_k (fun K582 hK582 => WP.region Tt_ok (O_cons ?_))))))
      obtain ⟨x1, hx1, hb575⟩ := obind hb575
      obtain ⟨a1, cs1, hA1, hr1, _, hc2⟩ := Rds.getI (Own.rds (L := (ch1 :: [(g1, .cells #[.slice A1 r1.f_open.length c1, .map (some g2), .int .i64 r1.credit, .int .i64 r1.last] 56 (0, 0))] :: [(g2, .map es1 cn1)] :: L)) hO1 0 rfl) hx1
      obtain rfl := hr1
      refine O_read rfl (R_iaG rfl rfl rfl rfl rfl rfl ⟨(getI_lt hx1).1, (getI_lt hx1).2.1⟩ hA1 (P_some rfl (O_cons (O_read rfl (R_loadA rfl rfl rfl rfl (Ex.mk [.int .i64 x1.Bill, .int .i64 x1.Due, .int .i64 x1.Rest] ⟨rfl, hc2⟩ (P_some rfl (O_cons (O_alloc (cs := #[.int .i64 0, .int .i64 0, .int .i64 0]) rfl rfl (fun g3 => P_some rfl (O_cons (O_store (vs := [.int .i64 x1.Bill, .int .i64 x1.Due, .int .i64 x1.Rest]) rfl rfl rfl rfl rfl rfl (ST_ (L' := ([(g3, .cells #[.int .i64 x1.Bill, .int .i64 x1.Due, .int .i64 x1.Rest] 49 (0, 0))] :: ch1 :: [(g1, .cells #[.slice A1 r1.f_open.length c1, .map (some g2), .int .i64 r1.credit, .int .i64 r1.last] 56 (0, 0))] :: [(g2, .map es1 cn1)] :: L)) 0 0 rfl rfl rfl rfl ?_)))))))))))))
      refine P_none (O_nil (hK582 _ _ _ (WP.region Tt_ok (O_cons (O_read rfl (R_move rfl (P_some rfl (O_cons (O_read rfl (R_fa0 (o' := 2) rfl rfl rfl rfl rfl rfl (P_some rfl (O_cons (O_read rfl ?_)))))))))))))
      refine R_load rfl rfl rfl (Ex.mk _ (Cell.seg 0 0 rfl rfl rfl) (P_some rfl (O_cons (O_read rfl (R_sub rfl rfl (P_some rfl (O_cons (O_read rfl (R_assign rfl (P_some rfl (O_nil (hK581 _ _ _ (WP.region Tt_ok ?_)))))))))))))
      refine O_cons (O_read rfl (R_add rfl rfl (P_some rfl (O_cons (O_read rfl (R_move rfl (P_some rfl (O_nil ?_))))))))
      have e_ := Option.some.inj hb575
      subst e_
      exact ⟨_, rfl, SubFr.of ⟨rfl, rfl, rfl, rfl, trivial⟩, SegSub.sel _ [some 1, some 2, some 3] 4, rfl⟩
    replace hb575 := cond_f hc1 hb575
    refine WP.exit (B_here ?_)
    have e_ := Option.some.inj hb575
    subst e_
    have hq_ := hq575 _ rfl
    subst hq_
    exact ⟨sum1, rfl, SubFr.of ⟨rfl, trivial⟩, SegSub.sel _ [some 1, some 0, some 2] 3, rfl⟩
  rintro fr564 μ564 L564 hm564 ⟨sum2, ho564, hF564, hS564, hu564⟩
  subst ho564
  subst hu564
  refine hK562 _ _ _ (WP.at hF564 hS564 (WP.seq_k (fun K587 hK587 => WP.region Tt_ok (O_cons (O_read rfl (R_move rfl (P_some rfl (O_cons (O_read rfl (R_assign rfl (P_some rfl (O_nil (hK587 _ _ _ ?_)))))))))))))
  apply WP.ret
  have e_ := Option.some.inj h
  obtain ⟨e0a_, e0b_⟩ := Prod.mk.inj e_
  clear e_
  subst e0a_
  subst e0b_
  refine S_tmp rfl (S_nil (Upd.seg (L2 := (((g1, Obj.cells #[.slice A1 r1.f_open.length c1, .map (some g2), .int .i64 r1.credit, .int .i64 r1.last] 56 (0, 0)) :: (ch1 ++ ((g2, Obj.map es1 cn1) :: []))) :: L)) (SegSub.trans (SegSub.flat (by simp [selS])) (SegSub.sel _ [some 0, some 1, some 2] 3)) ?_))
  exact Upd.done (hR ((g1, Obj.cells #[.slice A1 r1.f_open.length c1, .map (some g2), .int .i64 r1.credit, .int .i64 r1.last] 56 (0, 0)) :: (ch1 ++ ((g2, Obj.map es1 cn1) :: []))) (⟨g1, A1, c1, ch1, g2, es1, cn1, rfl, rfl, hO1, hM1⟩))

theorem recyclingref56_Ints_fn {μ : Gh} {L : List Seg} {R : Value → Gh → List Seg → Prop}  {a1 : (List Int)} {b1 : (List Int)} {A1 : Option Addr} {c1 : Nat} {A2 : Option Addr} {c2 : Nat} {res1 : Bool}
    (hl1 : a1.length ≤ c1 ∧ c1 ≤ maxLen) (hA1 : Rds rInt μ L A1 a1) (hl2 : b1.length ≤ c2 ∧ c2 ≤ maxLen) (hA2 : Rds rInt μ L A2 b1) (h : recyclingref56_Ints a1 b1 = some res1)
    (hR : R (.bool res1) μ (L)) :
    Fn Try.prog 19 [.slice A1 a1.length c1, .slice A2 b1.length c2] μ (L) R := by
  unfold recyclingref56_Ints at h
  refine Fn.of_body Tt_ok Try.func19 (by kernel_rfl) rfl Try.ntmps19 (by simp) ?_
  simp only [Try.f19, argFr, List.zipIdx, List.map, Nat.reduceAdd]
  refine WP.seq_k (fun K592 hK592 => WP.region Tt_ok (O_cons (O_read rfl (R_assign rfl (P_some rfl (O_nil (hK592 _ _ _ (WP.seq_k (fun K593 hK593 => WP.seq_k (fun K594 hK594 => WP.region Tt_ok (O_cons (O_read rfl (R_move rfl ?_)))))))))))))
  refine P_some rfl (O_cons (O_read rfl (R_lenS rfl rfl rfl (P_some rfl (O_cons (O_read rfl (R_move rfl (P_some rfl (O_cons (O_read rfl (R_lenS rfl rfl rfl (P_some rfl (O_cons ?_)))))))))))))
  refine O_read rfl (R_neqD rfl rfl (P_some rfl (O_nil (hK594 _ _ _ ?_))))
  refine W_cond_v (b := !(decide (((a1.length : Nat) : Int) = ((b1.length : Nat) : Int)))) rfl (fun hc1 => ?_) (fun hc1 => ?_)
  · replace h := cond_t hc1 h
    refine WP.seq_k (fun K595 hK595 => WP.region Tt_ok (O_cons (O_read rfl (R_assign rfl (P_some rfl (O_nil (hK595 _ _ _ (WP.ret ?_))))))))
    have e_ := Option.some.inj h
    subst e_
    refine S_tmp rfl (S_nil (Upd.selS [] 0 ?_))
    exact Upd.done hR
  replace h := cond_f hc1 h
  refine WP.skip (hK593 _ _ _ (WP.seq_k (fun K596 hK596 => WP.seq_k (fun K597 hK597 => WP.region Tt_ok (O_cons (O_read rfl (R_move rfl (P_some rfl (O_cons (O_read rfl (R_lenS rfl rfl rfl (P_some rfl (O_cons ?_)))))))))))))
  refine O_read rfl (R_move rfl (P_some rfl (O_nil (hK597 _ _ _ ?_))))
  obtain ⟨o598, h598, h⟩ := obind h
  refine WP.cutK (fun fr_ μ_ L_ => (.inl ()) = o598 ∧ SubFr [] fr_ ∧ SegSub (L) L_ ∧ μ = μ_) ?_ ?_
  · refine WP.block (WP.iter h598 (fun (v1 : Int) fr_ μ_ L_ => SubFr [(0, .slice A1 a1.length c1), (1, .slice A2 b1.length c2), (12, .int .i64 ((a1.length : Nat) : Int)), (13, .int .i64 v1)] fr_ ∧ SegSub (L) L_ ∧ μ = μ_) ⟨SubFr.of ⟨rfl, rfl, rfl, rfl, trivial⟩, SegSub.sel _ [] 0, rfl⟩ ?_)
    rintro v1 q606 fr606 μ606 L606 hm606 ⟨hF606, hS606, hu606⟩ hb606 hq606
    unfold recyclingref56_Ints_l1 at hb606
    subst hu606
    refine WP.at hF606 hS606 (WP.seq_k (fun K607 hK607 => WP.region Tt_ok (O_cons (O_read rfl (R_lssD rfl rfl (P_some rfl (O_nil (hK607 _ _ _ (WP.seq_k (fun K608 hK608 => ?_))))))))))
    refine W_cond_v (b := (decide (v1 < ((a1.length : Nat) : Int)))) rfl (fun hc2 => ?_) (fun hc2 => ?_)
    · replace hb606 := cond_t hc2 hb606
      refine WP.skip (hK608 _ _ _ (WP.seq_k (fun K609 hK609 => WP.block (WP.seq_k (fun K610 hK610 => WP.region Tt_ok (O_cons (O_read rfl (R_move rfl (P_some rfl (O_cons (O_read rfl (R_assign rfl (P_some rfl ?_)))))))))))))
      refine O_nil (hK610 _ _ _ (WP.seq_k (fun K611 hK611 => WP.drawn (id := 6) (l' := List.replicate 9 true) wide Tt_ok _ Kept.refl [(true, 0), (true, 1), (true, 2), (true, 3), (true, 4), (true, 5), (true, 6), (true, 7), (true, 8)] (by kernel_rfl) (by kernel_rfl) rfl (PL_t rfl (R_move rfl (P_some rfl (PL_t rfl (R_move rfl (P_some rfl (PL_t rfl ?_))))))))))
      obtain ⟨x1, hx1, hb606⟩ := obind hb606
      obtain ⟨a2, cs1, hA3, hr1, _, hc3⟩ := Rds.getI hA1 hx1
      obtain rfl := hr1
      refine R_iaG rfl rfl rfl rfl rfl rfl ⟨(getI_lt hx1).1, (getI_lt hx1).2.1⟩ hA3 (P_some rfl (PL_t rfl (R_load rfl rfl rfl (Ex.mk _ (Cell.of_cells0 (hc3) rfl) (P_some rfl (PL_t rfl (R_move rfl (P_some rfl (PL_t rfl (R_move rfl (P_some rfl (PL_t rfl ?_))))))))))))
      obtain ⟨x2, hx2, hb606⟩ := obind hb606
      obtain ⟨a3, cs2, hA4, hr2, _, hc4⟩ := Rds.getI hA2 hx2
      obtain rfl := hr2
      refine R_iaG rfl rfl rfl rfl rfl rfl ⟨(getI_lt hx2).1, (getI_lt hx2).2.1⟩ hA4 (P_some rfl (PL_t rfl (R_load rfl rfl rfl (Ex.mk _ (Cell.of_cells0 (hc4) rfl) (P_some rfl (PL_t rfl (R_neqD rfl rfl (P_some rfl (PL_nil (AN.done0 (by kernel_rfl) (hK611 _ _ _ ?_)))))))))))
      refine W_cond_v (b := !(decide (x1 = x2))) rfl (fun hc5 => ?_) (fun hc5 => ?_)
      · replace hb606 := cond_t hc5 hb606
        refine WP.seq_k (fun K612 hK612 => WP.region Tt_ok (O_cons (O_read rfl (R_assign rfl (P_some rfl (O_nil (hK612 _ _ _ (WP.ret ?_))))))))
        have e_ := Option.some.inj hb606
        subst e_
        have hq_ := hq606 _ rfl
        subst hq_
        replace h := osum_r h
        have e_ := Option.some.inj h
        subst e_
        refine S_tmp rfl (S_nil (Upd.selS [] 0 ?_))
        exact Upd.done hR
      replace hb606 := cond_f hc5 hb606
      refine WP.skip (hK609 _ _ _ (WP.region Tt_ok (O_cons (O_read rfl (R_add rfl rfl (P_some rfl (O_cons (O_read rfl (R_move rfl (P_some rfl (O_nil ?_)))))))))))
      have e_ := Option.some.inj hb606
      subst e_
      exact ⟨_, rfl, SubFr.of ⟨rfl, rfl, rfl, rfl, trivial⟩, SegSub.sel _ [] 0, rfl⟩
    replace hb606 := cond_f hc2 hb606
    refine WP.exit (B_here ?_)
    have e_ := Option.some.inj hb606
    subst e_
    have hq_ := hq606 _ rfl
    subst hq_
    exact ⟨rfl, SubFr.of trivial, SegSub.sel _ [] 0, rfl⟩
  rintro fr598 μ598 L598 hm598 ⟨ho598, hF598, hS598, hu598⟩
  subst ho598
  replace h := osum_l h
  subst hu598
  refine hK596 _ _ _ (WP.at hF598 hS598 (WP.seq_k (fun K613 hK613 => WP.region Tt_ok (O_cons (O_read rfl (R_assign rfl (P_some rfl (O_nil (hK613 _ _ _ (WP.ret ?_))))))))))
  have e_ := Option.some.inj h
  subst e_
  refine S_tmp rfl (S_nil (Upd.selS [] 0 ?_))
  exact Upd.done hR

theorem recyclinglaw56_awake_fn {μ : Gh} {L : List Seg} {R : Value → Gh → List Seg → Prop}    {res1 : Bool}
     (h : recyclinglaw56_awake = some res1)
    (hR : R (.bool res1) μ (L)) :
    Fn Try.prog 11 [] μ (L) R := by
  unfold recyclinglaw56_awake at h
  refine Fn.of_body Tt_ok Try.func11 (by kernel_rfl) rfl Try.ntmps11 (by simp) ?_
  simp only [Try.f11, argFr, List.zipIdx, List.map, Nat.reduceAdd]
  refine WP.seq_k (fun K20 hK20 => WP.region Tt_ok (O_cons (O_read rfl (R_assign rfl (P_some rfl (O_nil (hK20 _ _ _ (WP.seq_k (fun K21 hK21 => WP.region Tt_ok (O_cons (O_call (all := []) rfl rfl rfl ?_)))))))))))
  obtain ⟨r1, hx1, h⟩ := obind h
  refine payment_New_fn  hx1 (fun pv1 so1 hP1 => P_some rfl (O_cons (O_read rfl (R_assign rfl (P_some rfl (O_nil (hK21 _ _ _ (WP.seq_k (fun K23 hK23 => WP.seq_k (fun K24 hK24 => ?_))))))))))
  obtain ⟨g1, A1, c1, ch1, g2, es1, cn1, hv1, rfl, hO1, hM1⟩ := hP1
  subst hv1
  refine WP.seg (L2 := ([(g1, .cells #[.slice A1 r1.f_open.length c1, .map (some g2), .int .i64 r1.credit, .int .i64 r1.last] 56 (0, 0))] :: ch1 :: [(g2, .map es1 cn1)] :: L)) (SegSub.flat (by simp)) (WP.region Tt_ok (O_cons (O_read rfl (R_move rfl (P_some rfl (O_cons (O_read rfl (R_eqP1 rfl rfl rfl rfl (P_some rfl (O_nil (hK24 _ _ _ (W_cond_f rfl (WP.skip ?_)))))))))))))
  refine hK23 _ _ _ (WP.seq_k (fun K29 hK29 => WP.region Tt_ok (O_cons (O_read rfl (R_move rfl (P_some rfl (O_cons (O_call (all := [.pointer (some ⟨g1, 0, none⟩), .int .i64 7, .int .i64 100, .int .i64 50]) rfl rfl rfl ?_))))))))
  have hP2 : Obj_payment_Register μ (.pointer (some ⟨g1, 0, none⟩)) r1 ((g1, Obj.cells #[.slice A1 r1.f_open.length c1, .map (some g2), .int .i64 r1.credit, .int .i64 r1.last] 56 (0, 0)) :: (ch1 ++ ((g2, Obj.map es1 cn1) :: []))) := ⟨g1, A1, c1, ch1, g2, es1, cn1, rfl, rfl, hO1, hM1⟩
  refine Fn.seg (L2 := (((g1, Obj.cells #[.slice A1 r1.f_open.length c1, .map (some g2), .int .i64 r1.credit, .int .i64 r1.last] 56 (0, 0)) :: (ch1 ++ ((g2, Obj.map es1 cn1) :: []))) :: L)) (SegSub.trans (SegSub.flat (by simp [selS])) (SegSub.sel _ [some 0, some 1, some 2] 3)) ?_
  obtain ⟨⟨r2, r3⟩, hx2, h⟩ := obind h
  replace h := oun_mk h
  refine payment_Register_Charge_fn hP2 hx2 (fun so2 hP3 => P_some rfl (O_cons (O_read rfl (R_move rfl (P_some rfl (O_cons (O_call (all := [.pointer (some ⟨g1, 0, none⟩), .int .i64 3, .int .i64 80, .int .i64 50]) rfl rfl rfl ?_)))))))
  obtain ⟨⟨r4, r5⟩, hx3, h⟩ := obind h
  replace h := oun_mk h
  refine payment_Register_Charge_fn hP3 hx3 (fun so3 hP4 => P_some rfl (O_cons (O_read rfl (R_assign rfl (P_some rfl (O_cons (O_read rfl (R_assign rfl (P_some rfl (O_nil (hK29 _ _ _ (WP.seq_k (fun K79 hK79 => WP.region Tt_ok ?_)))))))))))))
  refine O_cons (O_read rfl (R_move rfl (P_some rfl (O_cons (O_call (all := [.pointer (some ⟨g1, 0, none⟩), .int .i64 120, .int .i64 60]) rfl rfl rfl ?_)))))
  obtain ⟨⟨r6, r7, r8⟩, hx4, h⟩ := obind h
  replace h := oun_mk h
  replace h := oun_mk h
  refine payment_Register_Pay_fn hP4 hx4 (fun A2 c2 ch2 so4 hO2 hP5 => P_some rfl (O_cons (O_read rfl (R_move rfl (P_some rfl (O_cons (O_read rfl (R_ext rfl rfl (P_some rfl (O_cons (O_read rfl (R_ext rfl rfl (P_some rfl ?_)))))))))))))
  refine O_cons (O_read rfl (R_assign rfl (P_some rfl (O_cons (O_read rfl (R_assign rfl (P_some rfl (O_nil (hK79 _ _ _ (WP.seq_k (fun K320 hK320 => WP.region Tt_ok (O_cons (O_read rfl ?_)))))))))))))
  refine R_move rfl (P_some rfl (O_cons (O_call (all := [.pointer (some ⟨g1, 0, none⟩), .int .i64 3, .int .i64 1, .int .i64 1]) rfl rfl rfl (Fn.seg (L2 := (so4 :: ch2 :: L)) (SegSub.sel _ [some 1, some 0] 2) ?_))))
  obtain ⟨⟨r9, r10⟩, hx5, h⟩ := obind h
  replace h := oun_mk h
  refine payment_Register_Charge_fn hP5 hx5 (fun so5 hP6 => P_some rfl (O_cons (O_read rfl (R_assign rfl (P_some rfl (O_nil (hK320 _ _ _ (WP.seq_k (fun K323 hK323 => WP.region Tt_ok (O_cons (O_read rfl (R_move rfl (P_some rfl ?_)))))))))))))
  refine O_cons (O_call (all := [.pointer (some ⟨g1, 0, none⟩), .int .i64 172850, .int .i64 2]) rfl rfl rfl ?_)
  obtain ⟨⟨r11, r12, r13⟩, hx6, h⟩ := obind h
  replace h := oun_mk h
  replace h := oun_mk h
  refine payment_Register_Late_fn hP6 hx6 (fun A3 c3 ch3 so6 hO3 hP7 => P_some rfl (O_cons (O_read rfl (R_move rfl (P_some rfl (O_cons (O_read rfl (R_ext rfl rfl (P_some rfl (O_cons (O_read rfl (R_ext rfl rfl (P_some rfl ?_)))))))))))))
  refine O_cons (O_read rfl (R_assign rfl (P_some rfl (O_cons (O_read rfl (R_assign rfl (P_some rfl (O_nil (hK323 _ _ _ (WP.seq_k (fun K460 hK460 => ?_)))))))))))
  obtain ⟨o461, h461, h⟩ := obind h
  refine WP.cutK (fun fr_ μ_ L_ => ∃ (v1 : Bool), v1 = o461 ∧ SubFr [(0, .bool v1)] fr_ ∧ SegSub (L) L_ ∧ μ = μ_) ?_ ?_
  · refine WP.region Tt_ok (O_cons (O_read rfl (R_move rfl (P_some rfl (O_cons (O_read rfl (R_eqlD rfl rfl (P_some rfl (O_cons (O_read rfl (R_move rfl (P_some rfl ?_))))))))))))
    refine O_gv (z := (decide (r2 = 0))) rfl rfl (fun hc1 => ?_) (fun hc1 => ?_)
    · replace h461 := cond_t hc1 h461
      refine O_read rfl (R_move rfl (P_some rfl (O_gY rfl rfl hc1 (O_read rfl (R_eqlD rfl rfl (P_some rfl (O_cons (O_read rfl (R_pick_T rfl hc1 rfl (P_some rfl (O_cons (O_read rfl (R_move rfl ?_)))))))))))))
      apply P_some; exact rfl
      refine O_gv (z := (decide (r4 = 0))) rfl rfl (fun hc2 => ?_) (fun hc2 => ?_)
      · replace h461 := cond_t hc2 h461
        refine O_read rfl (R_move rfl (P_some rfl (O_gY rfl rfl hc2 (O_read rfl (R_eqlD rfl rfl (P_some rfl (O_cons (O_read rfl (R_pick_T rfl hc2 rfl (P_some rfl (O_cons (O_read rfl (R_move rfl ?_)))))))))))))
        apply P_some; exact rfl
        refine O_gv (z := (decide (r7 = 0))) rfl rfl (fun hc3 => ?_) (fun hc3 => ?_)
        · replace h461 := cond_t hc3 h461
          refine O_read rfl (R_move rfl (P_some rfl (O_gY rfl rfl hc3 (O_read rfl (R_build rfl rfl rfl rfl (F_cons (cells' := [.int .i64 3, .int .i64 0, .int .i64 0]) rfl rfl rfl rfl (F_cons (cells' := [.int .i64 3, .int .i64 50, .int .i64 0]) rfl rfl rfl rfl (F_cons (cells' := [.int .i64 3, .int .i64 50, .int .i64 80]) rfl rfl rfl rfl (F_nil (P_some rfl (O_gY rfl rfl hc3 (O_read rfl (R_build rfl rfl rfl rfl ?_)))))))))))))
          refine F_cons (cells' := [.int .i64 7, .int .i64 0, .int .i64 0]) rfl rfl rfl rfl (F_cons (cells' := [.int .i64 7, .int .i64 50, .int .i64 0]) rfl rfl rfl rfl (F_cons (cells' := [.int .i64 7, .int .i64 50, .int .i64 40]) rfl rfl rfl rfl (F_nil (P_some rfl (O_gY rfl rfl hc3 (O_bsl (z := [.int .i64 0, .int .i64 0, .int .i64 0, .int .i64 0, .int .i64 0, .int .i64 0]) rfl rfl rfl rfl rfl rfl rfl (F_cons (cells' := [.int .i64 3, .int .i64 50, .int .i64 80, .int .i64 0, .int .i64 0, .int .i64 0]) rfl rfl rfl rfl (F_cons (cells' := [.int .i64 3, .int .i64 50, .int .i64 80, .int .i64 7, .int .i64 50, .int .i64 40]) rfl rfl rfl rfl (F_nil (fun g3 => P_some rfl (O_gY rfl rfl hc3 (O_call (all := [.slice A2 r6.length c2, .slice (some ⟨g3, 0, none⟩) 2 2]) rfl rfl rfl ?_))))))))))))
          obtain ⟨r14, hx7, h461⟩ := obind h461
          refine recyclingref56_Same_fn (Own.lenOk hO2) (Own.rds (L := ([(g3, .cells #[.int .i64 3, .int .i64 50, .int .i64 80, .int .i64 7, .int .i64 50, .int .i64 40] 49 (0, 0))] :: ch3 :: so6 :: ch2 :: L)) hO2 3 rfl) (lenLit (c := 2) rfl rfl) (Own.rds (L := ([(g3, .cells #[.int .i64 3, .int .i64 50, .int .i64 80, .int .i64 7, .int .i64 50, .int .i64 40] 49 (0, 0))] :: ch3 :: so6 :: ch2 :: L)) (Own.lit (r := r_api_Open) (e := 49) (g := g3) (xs := [(T_api_Open.mk 3 50 80), (T_api_Open.mk 7 50 40)]) (cs := [.int .i64 3, .int .i64 50, .int .i64 80, .int .i64 7, .int .i64 50, .int .i64 40]) (css := [[.int .i64 3, .int .i64 50, .int .i64 80], [.int .i64 7, .int .i64 50, .int .i64 40]]) rfl (All2.cons (rfl) (All2.cons (rfl) (All2.nil))) rfl rfl) 0 rfl) hx7 (?_)
          refine P_some rfl (O_cons (O_read rfl (R_pick_T rfl hc3 rfl (P_some rfl (O_cons (O_read rfl (R_move rfl (P_some rfl ?_))))))))
          refine O_gv (z := r14) rfl rfl (fun hc4 => ?_) (fun hc4 => ?_)
          · replace h461 := cond_t hc4 h461
            refine O_read rfl (R_move rfl (P_some rfl (O_gY rfl rfl hc4 (O_read rfl (R_eqlD rfl rfl (P_some rfl (O_cons (O_read rfl (R_pick_T rfl hc4 rfl (P_some rfl (O_cons (O_read rfl (R_move rfl ?_)))))))))))))
            apply P_some; exact rfl
            refine O_gv (z := (decide (r9 = 6))) rfl rfl (fun hc5 => ?_) (fun hc5 => ?_)
            · replace h461 := cond_t hc5 h461
              refine O_read rfl (R_move rfl (P_some rfl (O_gY rfl rfl hc5 (O_call (all := [.pointer (some ⟨g1, 0, none⟩)]) rfl rfl rfl (Fn.seg (L2 := (so6 :: [(g3, .cells #[.int .i64 3, .int .i64 50, .int .i64 80, .int .i64 7, .int .i64 50, .int .i64 40] 49 (0, 0))] :: ch3 :: ch2 :: L)) (SegSub.sel _ [some 2, some 0, some 1, some 3] 4) ?_)))))
              obtain ⟨⟨r15, r16⟩, hx8, h461⟩ := obind h461
              replace h461 := oun_mk h461
              refine payment_Register_Open_fn hP7 hx8 (fun A4 c4 ch4 so7 hO4 hP8 => P_some rfl (O_gY rfl rfl hc5 (O_read rfl (R_build rfl rfl rfl rfl (F_cons (cells' := [.int .i64 7, .int .i64 0, .int .i64 0]) rfl rfl rfl rfl (F_cons (cells' := [.int .i64 7, .int .i64 50, .int .i64 0]) rfl rfl rfl rfl (F_cons (cells' := [.int .i64 7, .int .i64 50, .int .i64 60]) rfl rfl rfl rfl (F_nil (P_some rfl (O_gY rfl rfl hc5 (O_bsl (z := [.int .i64 0, .int .i64 0, .int .i64 0]) rfl rfl rfl rfl rfl rfl rfl (F_cons (cells' := [.int .i64 7, .int .i64 50, .int .i64 60]) rfl rfl rfl rfl (F_nil (fun g4 => ?_))))))))))))))
              refine P_some rfl (O_gY rfl rfl hc5 (O_call (all := [.slice A4 r15.length c4, .slice (some ⟨g4, 0, none⟩) 1 1]) rfl rfl rfl ?_))
              obtain ⟨r17, hx9, h461⟩ := obind h461
              refine recyclingref56_Same_fn (Own.lenOk hO4) (Own.rds (L := ([(g4, .cells #[.int .i64 7, .int .i64 50, .int .i64 60] 49 (0, 0))] :: ch4 :: so7 :: [(g3, .cells #[.int .i64 3, .int .i64 50, .int .i64 80, .int .i64 7, .int .i64 50, .int .i64 40] 49 (0, 0))] :: ch3 :: ch2 :: L)) hO4 1 rfl) (lenLit (c := 1) rfl rfl) (Own.rds (L := ([(g4, .cells #[.int .i64 7, .int .i64 50, .int .i64 60] 49 (0, 0))] :: ch4 :: so7 :: [(g3, .cells #[.int .i64 3, .int .i64 50, .int .i64 80, .int .i64 7, .int .i64 50, .int .i64 40] 49 (0, 0))] :: ch3 :: ch2 :: L)) (Own.lit (r := r_api_Open) (e := 49) (g := g4) (xs := [(T_api_Open.mk 7 50 60)]) (cs := [.int .i64 7, .int .i64 50, .int .i64 60]) (css := [[.int .i64 7, .int .i64 50, .int .i64 60]]) rfl (All2.cons (rfl) (All2.nil)) rfl rfl) 0 rfl) hx9 (?_)
              refine P_some rfl (O_cons (O_read rfl (R_pick_T rfl hc5 rfl (P_some rfl (O_cons (O_read rfl (R_move rfl (P_some rfl ?_))))))))
              refine O_gv (z := r17) rfl rfl (fun hc6 => ?_) (fun hc6 => ?_)
              · replace h461 := cond_t hc6 h461
                refine O_read rfl (R_move rfl (P_some rfl (O_gY rfl rfl hc6 (O_call (all := [.pointer (some ⟨g1, 0, none⟩)]) rfl rfl rfl (Fn.seg (L2 := (so7 :: [(g4, .cells #[.int .i64 7, .int .i64 50, .int .i64 60] 49 (0, 0))] :: ch4 :: [(g3, .cells #[.int .i64 3, .int .i64 50, .int .i64 80, .int .i64 7, .int .i64 50, .int .i64 40] 49 (0, 0))] :: ch3 :: ch2 :: L)) (SegSub.sel _ [some 2, some 0, some 1, some 3, some 4, some 5] 6) ?_)))))
                obtain ⟨⟨r18, r19⟩, hx10, h461⟩ := obind h461
                replace h461 := oun_mk h461
                refine payment_Register_Balance_fn hP8 hx10 (fun so8 hP9 => P_some rfl (O_gY rfl rfl hc6 (O_read rfl (R_eqlD rfl rfl (P_some rfl (O_cons (O_read rfl (R_pick_T rfl hc6 rfl (P_some rfl (O_cons (O_read rfl (R_move rfl (P_some rfl ?_)))))))))))))
                refine O_gv (z := (decide (r18 = (-60)))) rfl rfl (fun hc7 => ?_) (fun hc7 => ?_)
                · replace h461 := cond_t hc7 h461
                  refine O_read rfl (R_move rfl (P_some rfl (O_gY rfl rfl hc7 (O_bsl (z := [.int .i64 0]) rfl rfl rfl rfl rfl rfl rfl (F_cons (cells' := [.int .i64 7]) rfl rfl rfl rfl (F_nil (fun g5 => P_some rfl (O_gY rfl rfl hc7 (O_call (all := [.slice A3 r11.length c3, .slice (some ⟨g5, 0, none⟩) 1 1]) rfl rfl rfl ?_)))))))))
                  obtain ⟨r20, hx11, h461⟩ := obind h461
                  refine recyclingref56_Ints_fn (Own.lenOk hO3) (Own.rds (L := ([(g5, .cells #[.int .i64 7] 3 (0, 0))] :: so8 :: [(g4, .cells #[.int .i64 7, .int .i64 50, .int .i64 60] 49 (0, 0))] :: ch4 :: [(g3, .cells #[.int .i64 3, .int .i64 50, .int .i64 80, .int .i64 7, .int .i64 50, .int .i64 40] 49 (0, 0))] :: ch3 :: ch2 :: L)) hO3 5 rfl) (lenLit (c := 1) rfl rfl) (Own.rds (L := ([(g5, .cells #[.int .i64 7] 3 (0, 0))] :: so8 :: [(g4, .cells #[.int .i64 7, .int .i64 50, .int .i64 60] 49 (0, 0))] :: ch4 :: [(g3, .cells #[.int .i64 3, .int .i64 50, .int .i64 80, .int .i64 7, .int .i64 50, .int .i64 40] 49 (0, 0))] :: ch3 :: ch2 :: L)) (Own.lit (r := rInt) (e := 3) (g := g5) (xs := [7]) (cs := [.int .i64 7]) (css := [[.int .i64 7]]) rfl (All2.cons (rfl) (All2.nil)) rfl rfl) 0 rfl) hx11 (?_)
                  refine P_some rfl (O_cons (O_read rfl (R_pick_T rfl hc7 rfl (P_some rfl (O_cons (O_read rfl (R_move rfl (P_some rfl ?_))))))))
                  refine O_gv (z := r20) rfl rfl (fun hc8 => ?_) (fun hc8 => ?_)
                  · replace h461 := cond_t hc8 h461
                    refine O_read rfl (R_move rfl (P_some rfl (O_gY rfl rfl hc8 (O_read rfl (R_eqlD rfl rfl (P_some rfl (O_cons (O_read rfl (R_pick_T rfl hc8 rfl (P_some rfl (O_cons (O_read rfl (R_assign rfl ?_)))))))))))))
                    refine P_some rfl (O_nil ?_)
                    have e_ := Option.some.inj h461
                    subst e_
                    exact ⟨(decide (r12 = 0)), rfl, SubFr.of ⟨rfl, trivial⟩, SegSub.sel _ [] 7, rfl⟩
                  replace h461 := cond_f hc8 h461
                  refine P_some rfl (O_gN rfl rfl hc8 (P_some rfl (O_cons (O_read rfl (R_pick_F rfl hc8 rfl (P_some rfl (O_cons (O_read rfl (R_assign rfl (P_some rfl (O_nil ?_)))))))))))
                  have e_ := Option.some.inj h461
                  subst e_
                  exact ⟨false, rfl, SubFr.of ⟨rfl, trivial⟩, SegSub.sel _ [] 7, rfl⟩
                replace h461 := cond_f hc7 h461
                refine P_some rfl (O_gN rfl rfl hc7 (P_some rfl (O_gN rfl rfl hc7 (P_some rfl (O_cons (O_read rfl (R_pick_F rfl hc7 rfl (P_some rfl (O_cons (O_read rfl (R_move rfl (P_some rfl (O_gN rfl rfl rfl ?_)))))))))))))
                refine P_some rfl (O_gN rfl rfl rfl (P_some rfl (O_cons (O_read rfl (R_pick_F rfl rfl rfl (P_some rfl (O_cons (O_read rfl (R_assign rfl (P_some rfl (O_nil ?_)))))))))))
                have e_ := Option.some.inj h461
                subst e_
                exact ⟨false, rfl, SubFr.of ⟨rfl, trivial⟩, SegSub.sel _ [] 6, rfl⟩
              replace h461 := cond_f hc6 h461
              refine P_some rfl (O_gN rfl rfl hc6 (P_some rfl (O_gN rfl rfl hc6 (P_some rfl (O_cons (O_read rfl (R_pick_F rfl hc6 rfl (P_some rfl (O_cons (O_read rfl (R_move rfl (P_some rfl (O_gN rfl rfl rfl ?_)))))))))))))
              refine P_some rfl (O_gN rfl rfl rfl (P_some rfl (O_gN rfl rfl rfl (P_some rfl (O_cons (O_read rfl (R_pick_F rfl rfl rfl (P_some rfl (O_cons (O_read rfl (R_move rfl (P_some rfl (O_gN rfl rfl rfl ?_)))))))))))))
              refine P_some rfl (O_gN rfl rfl rfl (P_some rfl (O_cons (O_read rfl (R_pick_F rfl rfl rfl (P_some rfl (O_cons (O_read rfl (R_assign rfl (P_some rfl (O_nil ?_)))))))))))
              have e_ := Option.some.inj h461
              subst e_
              exact ⟨false, rfl, SubFr.of ⟨rfl, trivial⟩, SegSub.sel _ [] 6, rfl⟩
            replace h461 := cond_f hc5 h461
            refine P_some rfl (O_gN rfl rfl hc5 (P_some rfl (O_gN rfl rfl hc5 (P_some rfl (O_gN rfl rfl hc5 (P_some rfl (O_gN rfl rfl hc5 (P_some rfl (O_cons (O_read rfl (R_pick_F rfl hc5 rfl (P_some rfl (O_cons ?_)))))))))))))
            refine O_read rfl (R_move rfl (P_some rfl (O_gN rfl rfl rfl (P_some rfl (O_gN rfl rfl rfl (P_some rfl (O_gN rfl rfl rfl (P_some rfl (O_cons (O_read rfl (R_pick_F rfl rfl rfl (P_some rfl (O_cons ?_)))))))))))))
            refine O_read rfl (R_move rfl (P_some rfl (O_gN rfl rfl rfl (P_some rfl (O_gN rfl rfl rfl (P_some rfl (O_gN rfl rfl rfl (P_some rfl (O_cons (O_read rfl (R_pick_F rfl rfl rfl (P_some rfl (O_cons ?_)))))))))))))
            refine O_read rfl (R_move rfl (P_some rfl (O_gN rfl rfl rfl (P_some rfl (O_gN rfl rfl rfl (P_some rfl (O_cons (O_read rfl (R_pick_F rfl rfl rfl (P_some rfl (O_cons (O_read rfl (R_assign rfl ?_)))))))))))))
            refine P_some rfl (O_nil ?_)
            have e_ := Option.some.inj h461
            subst e_
            exact ⟨false, rfl, SubFr.of ⟨rfl, trivial⟩, SegSub.sel _ [] 4, rfl⟩
          replace h461 := cond_f hc4 h461
          refine P_some rfl (O_gN rfl rfl hc4 (P_some rfl (O_cons (O_read rfl (R_pick_F rfl hc4 rfl (P_some rfl (O_cons (O_read rfl (R_move rfl (P_some rfl (O_gN rfl rfl rfl (P_some rfl (O_gN rfl rfl rfl ?_)))))))))))))
          refine P_some rfl (O_gN rfl rfl rfl (P_some rfl (O_gN rfl rfl rfl (P_some rfl (O_gN rfl rfl rfl (P_some rfl (O_cons (O_read rfl (R_pick_F rfl rfl rfl (P_some rfl (O_cons (O_read rfl (R_move rfl ?_)))))))))))))
          refine P_some rfl (O_gN rfl rfl rfl (P_some rfl (O_gN rfl rfl rfl (P_some rfl (O_gN rfl rfl rfl (P_some rfl (O_cons (O_read rfl (R_pick_F rfl rfl rfl (P_some rfl (O_cons (O_read rfl (R_move rfl ?_)))))))))))))
          refine P_some rfl (O_gN rfl rfl rfl (P_some rfl (O_gN rfl rfl rfl (P_some rfl (O_gN rfl rfl rfl (P_some rfl (O_cons (O_read rfl (R_pick_F rfl rfl rfl (P_some rfl (O_cons (O_read rfl (R_move rfl ?_)))))))))))))
          refine P_some rfl (O_gN rfl rfl rfl (P_some rfl (O_gN rfl rfl rfl (P_some rfl (O_cons (O_read rfl (R_pick_F rfl rfl rfl (P_some rfl (O_cons (O_read rfl (R_assign rfl (P_some rfl (O_nil ?_)))))))))))))
          have e_ := Option.some.inj h461
          subst e_
          exact ⟨false, rfl, SubFr.of ⟨rfl, trivial⟩, SegSub.sel _ [] 4, rfl⟩
        replace h461 := cond_f hc3 h461
        refine P_some rfl (O_gN rfl rfl hc3 (P_some rfl (O_gN rfl rfl hc3 (P_some rfl (O_gN rfl rfl hc3 (P_some rfl (O_gN rfl rfl hc3 (P_some rfl (O_cons (O_read rfl (R_pick_F rfl hc3 rfl (P_some rfl (O_cons ?_)))))))))))))
        refine O_read rfl (R_move rfl (P_some rfl (O_gN rfl rfl rfl (P_some rfl (O_gN rfl rfl rfl (P_some rfl (O_cons (O_read rfl (R_pick_F rfl rfl rfl (P_some rfl (O_cons (O_read rfl (R_move rfl ?_)))))))))))))
        refine P_some rfl (O_gN rfl rfl rfl (P_some rfl (O_gN rfl rfl rfl (P_some rfl (O_gN rfl rfl rfl (P_some rfl (O_gN rfl rfl rfl (P_some rfl (O_gN rfl rfl rfl (P_some rfl (O_cons (O_read rfl (R_pick_F rfl rfl rfl ?_)))))))))))))
        refine P_some rfl (O_cons (O_read rfl (R_move rfl (P_some rfl (O_gN rfl rfl rfl (P_some rfl (O_gN rfl rfl rfl (P_some rfl (O_gN rfl rfl rfl (P_some rfl (O_cons (O_read rfl (R_pick_F rfl rfl rfl ?_)))))))))))))
        refine P_some rfl (O_cons (O_read rfl (R_move rfl (P_some rfl (O_gN rfl rfl rfl (P_some rfl (O_gN rfl rfl rfl (P_some rfl (O_gN rfl rfl rfl (P_some rfl (O_cons (O_read rfl (R_pick_F rfl rfl rfl ?_)))))))))))))
        refine P_some rfl (O_cons (O_read rfl (R_move rfl (P_some rfl (O_gN rfl rfl rfl (P_some rfl (O_gN rfl rfl rfl (P_some rfl (O_cons (O_read rfl (R_pick_F rfl rfl rfl (P_some rfl (O_cons ?_)))))))))))))
        refine O_read rfl (R_assign rfl (P_some rfl (O_nil ?_)))
        have e_ := Option.some.inj h461
        subst e_
        exact ⟨false, rfl, SubFr.of ⟨rfl, trivial⟩, SegSub.sel _ [] 3, rfl⟩
      replace h461 := cond_f hc2 h461
      refine P_some rfl (O_gN rfl rfl hc2 (P_some rfl (O_cons (O_read rfl (R_pick_F rfl hc2 rfl (P_some rfl (O_cons (O_read rfl (R_move rfl (P_some rfl (O_gN rfl rfl rfl (P_some rfl (O_gN rfl rfl rfl ?_)))))))))))))
      refine P_some rfl (O_gN rfl rfl rfl (P_some rfl (O_gN rfl rfl rfl (P_some rfl (O_gN rfl rfl rfl (P_some rfl (O_cons (O_read rfl (R_pick_F rfl rfl rfl (P_some rfl (O_cons (O_read rfl (R_move rfl ?_)))))))))))))
      refine P_some rfl (O_gN rfl rfl rfl (P_some rfl (O_gN rfl rfl rfl (P_some rfl (O_cons (O_read rfl (R_pick_F rfl rfl rfl (P_some rfl (O_cons (O_read rfl (R_move rfl (P_some rfl (O_gN rfl rfl rfl ?_)))))))))))))
      refine P_some rfl (O_gN rfl rfl rfl (P_some rfl (O_gN rfl rfl rfl (P_some rfl (O_gN rfl rfl rfl (P_some rfl (O_gN rfl rfl rfl (P_some rfl (O_cons (O_read rfl (R_pick_F rfl rfl rfl (P_some rfl (O_cons ?_)))))))))))))
      refine O_read rfl (R_move rfl (P_some rfl (O_gN rfl rfl rfl (P_some rfl (O_gN rfl rfl rfl (P_some rfl (O_gN rfl rfl rfl (P_some rfl (O_cons (O_read rfl (R_pick_F rfl rfl rfl (P_some rfl (O_cons ?_)))))))))))))
      refine O_read rfl (R_move rfl (P_some rfl (O_gN rfl rfl rfl (P_some rfl (O_gN rfl rfl rfl (P_some rfl (O_gN rfl rfl rfl (P_some rfl (O_cons (O_read rfl (R_pick_F rfl rfl rfl (P_some rfl (O_cons ?_)))))))))))))
      refine O_read rfl (R_move rfl (P_some rfl (O_gN rfl rfl rfl (P_some rfl (O_gN rfl rfl rfl (P_some rfl (O_cons (O_read rfl (R_pick_F rfl rfl rfl (P_some rfl (O_cons (O_read rfl (R_assign rfl ?_)))))))))))))
      refine P_some rfl (O_nil ?_)
      have e_ := Option.some.inj h461
      subst e_
      exact ⟨false, rfl, SubFr.of ⟨rfl, trivial⟩, SegSub.sel _ [] 3, rfl⟩
    replace h461 := cond_f hc1 h461
    refine P_some rfl (O_gN rfl rfl hc1 (P_some rfl (O_cons (O_read rfl (R_pick_F rfl hc1 rfl (P_some rfl (O_cons (O_read rfl (R_move rfl (P_some rfl (O_gN rfl rfl rfl (P_some rfl (O_gN rfl rfl rfl ?_)))))))))))))
    refine P_some rfl (O_cons (O_read rfl (R_pick_F rfl rfl rfl (P_some rfl (O_cons (O_read rfl (R_move rfl (P_some rfl (O_gN rfl rfl rfl (P_some rfl (O_gN rfl rfl rfl (P_some rfl (O_gN rfl rfl rfl ?_)))))))))))))
    refine P_some rfl (O_gN rfl rfl rfl (P_some rfl (O_gN rfl rfl rfl (P_some rfl (O_cons (O_read rfl (R_pick_F rfl rfl rfl (P_some rfl (O_cons (O_read rfl (R_move rfl (P_some rfl (O_gN rfl rfl rfl ?_)))))))))))))
    refine P_some rfl (O_gN rfl rfl rfl (P_some rfl (O_cons (O_read rfl (R_pick_F rfl rfl rfl (P_some rfl (O_cons (O_read rfl (R_move rfl (P_some rfl (O_gN rfl rfl rfl (P_some rfl (O_gN rfl rfl rfl ?_)))))))))))))
    refine P_some rfl (O_gN rfl rfl rfl (P_some rfl (O_gN rfl rfl rfl (P_some rfl (O_gN rfl rfl rfl (P_some rfl (O_cons (O_read rfl (R_pick_F rfl rfl rfl (P_some rfl (O_cons (O_read rfl (R_move rfl ?_)))))))))))))
    refine P_some rfl (O_gN rfl rfl rfl (P_some rfl (O_gN rfl rfl rfl (P_some rfl (O_gN rfl rfl rfl (P_some rfl (O_cons (O_read rfl (R_pick_F rfl rfl rfl (P_some rfl (O_cons (O_read rfl (R_move rfl ?_)))))))))))))
    refine P_some rfl (O_gN rfl rfl rfl (P_some rfl (O_gN rfl rfl rfl (P_some rfl (O_gN rfl rfl rfl (P_some rfl (O_cons (O_read rfl (R_pick_F rfl rfl rfl (P_some rfl (O_cons (O_read rfl (R_move rfl ?_)))))))))))))
    refine P_some rfl (O_gN rfl rfl rfl (P_some rfl (O_gN rfl rfl rfl (P_some rfl (O_cons (O_read rfl (R_pick_F rfl rfl rfl (P_some rfl (O_cons (O_read rfl (R_assign rfl (P_some rfl (O_nil ?_)))))))))))))
    have e_ := Option.some.inj h461
    subst e_
    exact ⟨false, rfl, SubFr.of ⟨rfl, trivial⟩, SegSub.sel _ [] 3, rfl⟩
  rintro fr461 μ461 L461 hm461 ⟨v1, ho461, hF461, hS461, hu461⟩
  subst ho461
  subst hu461
  refine hK460 _ _ _ (WP.at hF461 hS461 (WP.ret ?_))
  have e_ := Option.some.inj h
  subst e_
  refine S_tmp rfl (S_nil (Upd.selS [] 0 ?_))
  exact Upd.done hR

theorem recyclinglaw56_run_fn {μ : Gh} {L : List Seg} {R : Value → Gh → List Seg → Prop}  {r1 : T_payment_Register} {l1 : (List T_recyclinglaw56_Act)} {pv1 : Value} {so1 : Seg} {A1 : Option Addr} {c1 : Nat} {res1 : Int} {res2 : Int} {res3 : T_payment_Register}
    (hP1 : Obj_payment_Register μ pv1 r1 so1) (hl1 : l1.length ≤ c1 ∧ c1 ≤ maxLen) (hA1 : Rds r_recyclinglaw56_Act μ L A1 l1) (h : recyclinglaw56_run r1 l1 = some (res1, res2, res3))
    (hR : ∀ (sp0 : Seg), Obj_payment_Register μ pv1 res3 sp0 → R (.tuple #[.int .i64 res1, .int .i64 res2]) μ (sp0 :: L)) :
    Fn Try.prog 24 [pv1, .slice A1 l1.length c1] μ (so1 :: L) R := by
  unfold recyclinglaw56_run at h
  refine Fn.of_body Tt_ok Try.func24 (by kernel_rfl) rfl Try.ntmps24 (by simp) ?_
  simp only [Try.f24, argFr, List.zipIdx, List.map, Nat.reduceAdd]
  refine WP.seq_k (fun K692 hK692 => WP.region Tt_ok (O_cons (O_read rfl (R_assign rfl (P_some rfl (O_cons (O_read rfl (R_assign rfl (P_some rfl (O_nil (hK692 _ _ _ (WP.seq_k (fun K693 hK693 => WP.region Tt_ok ?_)))))))))))))
  refine O_cons (O_read rfl (R_assign rfl (P_some rfl (O_cons (O_read rfl (R_assign rfl (P_some rfl (O_nil (hK693 _ _ _ (WP.seq_k (fun K694 hK694 => WP.seq_k (fun K695 hK695 => WP.region Tt_ok (O_cons ?_)))))))))))))
  refine O_read rfl (R_move rfl (P_some rfl (O_cons (O_read rfl (R_lenS rfl rfl rfl (P_some rfl (O_cons (O_read rfl (R_move rfl (P_some rfl (O_nil (hK695 _ _ _ ?_))))))))))))
  obtain ⟨o696, h696, h⟩ := obind h
  refine WP.cutK (fun fr_ μ_ L_ => ∃ (charged3 : Int) (paid3 : Int) (q3 : T_payment_Register) (so6 : Seg), (charged3, paid3, q3) = o696 ∧ SubFr [(6, .int .i64 charged3), (7, .int .i64 paid3)] fr_ ∧ SegSub (so6 :: L) L_ ∧ Obj_payment_Register μ_ pv1 q3 so6 ∧ μ = μ_) ?_ ?_
  · refine WP.block (WP.iter h696 (fun (j_ : T_payment_Register × Int × Int × Int) fr_ μ_ L_ => ounP j_ fun q1 j_ => ounP j_ fun charged1 j_ => ounP j_ fun paid1 v1 => ∃ (so2 : Seg), SubFr [(0, pv1), (6, .int .i64 charged1), (7, .int .i64 paid1), (12, .slice A1 l1.length c1), (13, .int .i64 ((l1.length : Nat) : Int)), (14, .int .i64 v1)] fr_ ∧ SegSub (so2 :: L) L_ ∧ Obj_payment_Register μ_ pv1 q1 so2 ∧ μ = μ_) ⟨so1, SubFr.of ⟨rfl, rfl, rfl, rfl, rfl, rfl, trivial⟩, SegSub.sel _ [some 0] 1, (hP1), rfl⟩ ?_)
    rintro ⟨q1, charged1, paid1, v1⟩ q726 fr726 μ726 L726 hm726 ⟨so2, hF726, hS726, hP2, hu726⟩ hb726 hq726
    unfold recyclinglaw56_run_l1 at hb726
    replace hb726 := oun_mk hb726
    replace hb726 := oun_mk hb726
    replace hb726 := oun_mk hb726
    subst hu726
    refine WP.at hF726 hS726 (WP.seq_k (fun K729 hK729 => WP.region Tt_ok (O_cons (O_read rfl (R_lssD rfl rfl (P_some rfl (O_nil (hK729 _ _ _ (WP.seq_k (fun K730 hK730 => ?_))))))))))
    refine W_cond_v (b := (decide (v1 < ((l1.length : Nat) : Int)))) rfl (fun hc1 => ?_) (fun hc1 => ?_)
    · replace hb726 := cond_t hc1 hb726
      refine WP.skip (hK730 _ _ _ (WP.seq_k (fun K731 hK731 => ?_)))
      obtain ⟨o732, h732, hb726⟩ := obind hb726
      refine WP.cutK (fun fr_ μ_ L_ => ∃ (q2 : T_payment_Register) (charged2 : Int) (paid2 : Int) (so5 : Seg), (q2, charged2, paid2) = o732 ∧ SubFr [(0, pv1), (6, .int .i64 charged2), (7, .int .i64 paid2), (12, .slice A1 l1.length c1), (13, .int .i64 ((l1.length : Nat) : Int)), (14, .int .i64 v1)] fr_ ∧ SegSub (so5 :: L) L_ ∧ Obj_payment_Register μ_ pv1 q2 so5 ∧ μ = μ_) ?_ ?_
      · refine WP.block (WP.seq_k (fun K733 hK733 => WP.region Tt_ok (O_cons ?_)))
        obtain ⟨x1, hx1, h732⟩ := obind h732
        obtain ⟨a1, cs1, hA2, hr1, _, hc2⟩ := Rds.getI (Rds.push hA1) hx1
        obtain rfl := hr1
        refine O_read rfl (R_iaG rfl rfl rfl rfl rfl rfl ⟨(getI_lt hx1).1, (getI_lt hx1).2.1⟩ hA2 (P_some rfl (O_cons (O_read rfl (R_loadA rfl rfl rfl rfl (Ex.mk [.int .i64 x1.Kind, .int .i64 x1.Bill, .int .i64 x1.Amount, .int .i64 x1.At] ⟨rfl, hc2⟩ (P_some rfl (O_cons (O_alloc (cs := #[.int .i64 0, .int .i64 0, .int .i64 0, .int .i64 0]) rfl rfl (fun g1 => P_some rfl (O_cons (O_store (vs := [.int .i64 x1.Kind, .int .i64 x1.Bill, .int .i64 x1.Amount, .int .i64 x1.At]) rfl rfl rfl rfl rfl rfl (ST_ (L' := ([(g1, .cells #[.int .i64 x1.Kind, .int .i64 x1.Bill, .int .i64 x1.Amount, .int .i64 x1.At] 29 (0, 0))] :: so2 :: L)) 0 0 rfl rfl rfl rfl ?_)))))))))))))
        refine P_none (O_nil (hK733 _ _ _ (WP.seq_k (fun K738 hK738 => WP.region Tt_ok (O_cons (O_read rfl (R_fa0 (o' := 0) rfl rfl rfl rfl rfl rfl (P_some rfl (O_cons (O_read rfl (R_load rfl rfl rfl (Ex.mk _ (Cell.seg 0 0 rfl rfl rfl) (P_some rfl ?_)))))))))))))
        refine O_cons (O_read rfl (R_eqlD rfl rfl (P_some rfl (O_nil (hK738 _ _ _ ?_)))))
        refine W_cond_v (b := (decide (x1.Kind = 0))) rfl (fun hc3 => ?_) (fun hc3 => ?_)
        · replace h732 := cond_t hc3 h732
          refine WP.seq_k (fun K739 hK739 => WP.region Tt_ok (O_cons (O_read rfl (R_move rfl (P_some rfl (O_cons (O_read rfl (R_fa0 (o' := 1) rfl rfl rfl rfl rfl rfl (P_some rfl (O_cons (O_read rfl (R_load rfl rfl rfl (Ex.mk _ (Cell.seg 0 0 rfl rfl rfl) ?_)))))))))))))
          refine P_some rfl (O_cons (O_read rfl (R_fa0 (o' := 2) rfl rfl rfl rfl rfl rfl (P_some rfl (O_cons (O_read rfl (R_load rfl rfl rfl (Ex.mk _ (Cell.seg 0 0 rfl rfl rfl) (P_some rfl (O_cons (O_read rfl (R_fa0 (o' := 3) rfl rfl rfl rfl rfl rfl (P_some rfl ?_)))))))))))))
          refine O_cons (O_read rfl (R_load rfl rfl rfl (Ex.mk _ (Cell.seg 0 0 rfl rfl rfl) (P_some rfl (O_cons (O_call (all := [pv1, .int .i64 x1.Bill, .int .i64 x1.Amount, .int .i64 x1.At]) rfl rfl rfl (Fn.seg (L2 := (so2 :: [(g1, .cells #[.int .i64 x1.Kind, .int .i64 x1.Bill, .int .i64 x1.Amount, .int .i64 x1.At] 29 (0, 0))] :: L)) (SegSub.sel _ [some 1, some 0] 2) ?_)))))))
          obtain ⟨⟨r2, r3⟩, hx2, h732⟩ := obind h732
          replace h732 := oun_mk h732
          refine payment_Register_Charge_fn hP2 hx2 (fun so3 hP3 => P_some rfl (O_cons (O_read rfl (R_eqlD rfl rfl (P_some rfl (O_nil (hK739 _ _ _ ?_)))))))
          refine W_cond_v (b := (decide (r2 = 0))) rfl (fun hc4 => ?_) (fun hc4 => ?_)
          · replace h732 := cond_t hc4 h732
            refine WP.region Tt_ok (O_cons (O_read rfl (R_move rfl (P_some rfl (O_cons (O_read rfl (R_fa0 (o' := 2) rfl rfl rfl rfl rfl rfl (P_some rfl (O_cons (O_read rfl (R_load rfl rfl rfl (Ex.mk _ (Cell.seg 1 0 rfl rfl rfl) (P_some rfl ?_)))))))))))))
            refine O_cons (O_read rfl (R_add rfl rfl (P_some rfl (O_cons (O_read rfl (R_assign rfl (P_some rfl (O_nil ?_))))))))
            have e_ := Option.some.inj h732
            subst e_
            exact ⟨r3, w64 (charged1 + x1.Amount), paid1, so3, rfl, SubFr.of ⟨rfl, rfl, rfl, rfl, rfl, rfl, trivial⟩, SegSub.sel _ [some 0] 2, (hP3), rfl⟩
          replace h732 := cond_f hc4 h732
          apply WP.skip
          have e_ := Option.some.inj h732
          subst e_
          exact ⟨r3, charged1, paid1, so3, rfl, SubFr.of ⟨rfl, rfl, rfl, rfl, rfl, rfl, trivial⟩, SegSub.sel _ [some 0] 2, (hP3), rfl⟩
        replace h732 := cond_f hc3 h732
        refine WP.seq_k (fun K746 hK746 => WP.region Tt_ok (O_cons (O_read rfl (R_move rfl (P_some rfl (O_cons (O_read rfl (R_fa0 (o' := 2) rfl rfl rfl rfl rfl rfl (P_some rfl (O_cons (O_read rfl (R_load rfl rfl rfl (Ex.mk _ (Cell.seg 0 0 rfl rfl rfl) ?_)))))))))))))
        refine P_some rfl (O_cons (O_read rfl (R_fa0 (o' := 3) rfl rfl rfl rfl rfl rfl (P_some rfl (O_cons (O_read rfl (R_load rfl rfl rfl (Ex.mk _ (Cell.seg 0 0 rfl rfl rfl) (P_some rfl (O_cons (O_call (all := [pv1, .int .i64 x1.Amount, .int .i64 x1.At]) rfl rfl rfl (Fn.seg (L2 := (so2 :: [(g1, .cells #[.int .i64 x1.Kind, .int .i64 x1.Bill, .int .i64 x1.Amount, .int .i64 x1.At] 29 (0, 0))] :: L)) (SegSub.sel _ [some 1, some 0] 2) ?_))))))))))))
        obtain ⟨⟨r4, r5, r6⟩, hx3, h732⟩ := obind h732
        replace h732 := oun_mk h732
        replace h732 := oun_mk h732
        refine payment_Register_Pay_fn hP2 hx3 (fun A2 c2 ch1 so4 hO1 hP4 => P_some rfl (O_cons (O_read rfl (R_move rfl (P_some rfl (O_cons (O_read rfl (R_ext rfl rfl (P_some rfl (O_cons (O_read rfl (R_ext rfl rfl (P_some rfl ?_)))))))))))))
        refine O_cons (O_read rfl (R_assign rfl (P_some rfl (O_cons (O_read rfl (R_assign rfl (P_some rfl (O_nil (hK746 _ _ _ (WP.seq_k (fun K755 hK755 => WP.region Tt_ok (O_cons (O_read rfl ?_)))))))))))))
        refine R_move rfl (P_some rfl (O_cons (O_read rfl (R_eqlD rfl rfl (P_some rfl (O_nil (hK755 _ _ _ ?_)))))))
        refine W_cond_v (b := (decide (r5 = 0))) rfl (fun hc5 => ?_) (fun hc5 => ?_)
        · replace h732 := cond_t hc5 h732
          refine WP.region Tt_ok (O_cons (O_read rfl (R_move rfl (P_some rfl (O_cons (O_read rfl (R_fa0 (o' := 2) rfl rfl rfl rfl rfl rfl (P_some rfl (O_cons (O_read rfl (R_load rfl rfl rfl (Ex.mk _ (Cell.seg 2 0 rfl rfl rfl) (P_some rfl ?_)))))))))))))
          refine O_cons (O_read rfl (R_add rfl rfl (P_some rfl (O_cons (O_read rfl (R_assign rfl (P_some rfl (O_nil ?_))))))))
          have e_ := Option.some.inj h732
          subst e_
          exact ⟨r6, charged1, w64 (paid1 + x1.Amount), so4, rfl, SubFr.of ⟨rfl, rfl, rfl, rfl, rfl, rfl, trivial⟩, SegSub.sel _ [some 1] 3, (hP4), rfl⟩
        replace h732 := cond_f hc5 h732
        apply WP.skip
        have e_ := Option.some.inj h732
        subst e_
        exact ⟨r6, charged1, paid1, so4, rfl, SubFr.of ⟨rfl, rfl, rfl, rfl, rfl, rfl, trivial⟩, SegSub.sel _ [some 1] 3, (hP4), rfl⟩
      rintro fr732 μ732 L732 hm732 ⟨q2, charged2, paid2, so5, ho732, hF732, hS732, hP5, hu732⟩
      subst ho732
      replace hb726 := oun_mk hb726
      replace hb726 := oun_mk hb726
      subst hu732
      refine hK731 _ _ _ (WP.at hF732 hS732 (WP.region Tt_ok (O_cons (O_read rfl (R_add rfl rfl (P_some rfl (O_cons (O_read rfl (R_move rfl (P_some rfl (O_nil ?_)))))))))))
      have e_ := Option.some.inj hb726
      subst e_
      exact ⟨_, rfl, so5, SubFr.of ⟨rfl, rfl, rfl, rfl, rfl, rfl, trivial⟩, SegSub.sel _ [some 0] 1, (hP5), rfl⟩
    replace hb726 := cond_f hc1 hb726
    refine WP.exit (B_here ?_)
    have e_ := Option.some.inj hb726
    subst e_
    have hq_ := hq726 _ rfl
    subst hq_
    exact ⟨charged1, paid1, q1, so2, rfl, SubFr.of ⟨rfl, rfl, trivial⟩, SegSub.sel _ [some 0] 1, (hP2), rfl⟩
  rintro fr696 μ696 L696 hm696 ⟨charged3, paid3, q3, so6, ho696, hF696, hS696, hP6, hu696⟩
  subst ho696
  replace h := oun_mk h
  replace h := oun_mk h
  subst hu696
  refine hK694 _ _ _ (WP.at hF696 hS696 (WP.seq_k (fun K758 hK758 => WP.region Tt_ok (O_cons (O_read rfl (R_move rfl (P_some rfl (O_cons (O_read rfl (R_move rfl (P_some rfl (O_cons (O_read rfl ?_)))))))))))))
  refine R_assign rfl (P_some rfl (O_cons (O_read rfl (R_assign rfl (P_some rfl (O_nil (hK758 _ _ _ (WP.ret ?_))))))))
  have e_ := Option.some.inj h
  obtain ⟨e0a_, e0b_⟩ := Prod.mk.inj e_
  clear e_
  subst e0a_
  obtain ⟨e1a_, e1b_⟩ := Prod.mk.inj e0b_
  clear e0b_
  subst e1a_
  subst e1b_
  refine S_tmp rfl (S_tmp rfl (S_nil (Upd.selS [some 0] 1 ?_)))
  exact Upd.done (hR so6 (hP6))

theorem recyclinglaw56_open_fn {μ : Gh} {L : List Seg} {R : Value → Gh → List Seg → Prop}  {l1 : (List T_api_Open)} {A1 : Option Addr} {c1 : Nat} {res1 : Int} {res2 : Bool}
    (hl1 : l1.length ≤ c1 ∧ c1 ≤ maxLen) (hA1 : Rds r_api_Open μ L A1 l1) (h : recyclinglaw56_open l1 = some (res1, res2))
    (hR : R (.tuple #[.int .i64 res1, .bool res2]) μ (L)) :
    Fn Try.prog 25 [.slice A1 l1.length c1] μ (L) R := by
  unfold recyclinglaw56_open at h
  refine Fn.of_body Tt_ok Try.func25 (by kernel_rfl) rfl Try.ntmps25 (by simp) ?_
  simp only [Try.f25, argFr, List.zipIdx, List.map, Nat.reduceAdd]
  refine WP.seq_k (fun K765 hK765 => WP.region Tt_ok (O_cons (O_read rfl (R_assign rfl (P_some rfl (O_cons (O_read rfl (R_assign rfl (P_some rfl (O_nil (hK765 _ _ _ (WP.seq_k (fun K766 hK766 => WP.region Tt_ok ?_)))))))))))))
  refine O_cons (O_read rfl (R_assign rfl (P_some rfl (O_nil (hK766 _ _ _ (WP.seq_k (fun K767 hK767 => WP.seq_k (fun K768 hK768 => WP.region Tt_ok (O_cons (O_read rfl (R_move rfl (P_some rfl (O_cons ?_)))))))))))))
  refine O_read rfl (R_lenS rfl rfl rfl (P_some rfl (O_cons (O_read rfl (R_move rfl (P_some rfl (O_nil (hK768 _ _ _ ?_))))))))
  obtain ⟨o769, h769, h⟩ := obind h
  refine WP.cutK (fun fr_ μ_ L_ => ∃ (sum2 : Int), (.inl sum2) = o769 ∧ SubFr [(0, .slice A1 l1.length c1), (4, .int .i64 sum2)] fr_ ∧ SegSub (L) L_ ∧ μ = μ_) ?_ ?_
  · refine WP.block (WP.iter h769 (fun (j_ : Int × Int) fr_ μ_ L_ => ounP j_ fun sum1 v1 => SubFr [(0, .slice A1 l1.length c1), (4, .int .i64 sum1), (7, .slice A1 l1.length c1), (8, .int .i64 ((l1.length : Nat) : Int)), (9, .int .i64 v1)] fr_ ∧ SegSub (L) L_ ∧ μ = μ_) ⟨SubFr.of ⟨rfl, rfl, rfl, rfl, rfl, trivial⟩, SegSub.sel _ [] 0, rfl⟩ ?_)
    rintro ⟨sum1, v1⟩ q783 fr783 μ783 L783 hm783 ⟨hF783, hS783, hu783⟩ hb783 hq783
    unfold recyclinglaw56_open_l1 at hb783
    replace hb783 := oun_mk hb783
    subst hu783
    refine WP.at hF783 hS783 (WP.seq_k (fun K784 hK784 => WP.region Tt_ok (O_cons (O_read rfl (R_lssD rfl rfl (P_some rfl (O_nil (hK784 _ _ _ (WP.seq_k (fun K785 hK785 => ?_))))))))))
    refine W_cond_v (b := (decide (v1 < ((l1.length : Nat) : Int)))) rfl (fun hc1 => ?_) (fun hc1 => ?_)
    · replace hb783 := cond_t hc1 hb783
      refine WP.skip (hK785 _ _ _ (WP.seq_k (fun K786 hK786 => WP.block (WP.seq_k (fun K787 hK787 => WP.region Tt_ok (O_cons (O_read rfl (R_move rfl (P_some rfl (O_cons ?_))))))))))
      obtain ⟨x1, hx1, hb783⟩ := obind hb783
      obtain ⟨a1, cs1, hA2, hr1, _, hc2⟩ := Rds.getI hA1 hx1
      obtain rfl := hr1
      refine O_read rfl (R_iaG rfl rfl rfl rfl rfl rfl ⟨(getI_lt hx1).1, (getI_lt hx1).2.1⟩ hA2 (P_some rfl (O_cons (O_read rfl (R_loadA rfl rfl rfl rfl (Ex.mk [.int .i64 x1.Bill, .int .i64 x1.Due, .int .i64 x1.Rest] ⟨rfl, hc2⟩ (P_some rfl (O_cons (O_alloc (cs := #[.int .i64 0, .int .i64 0, .int .i64 0]) rfl rfl (fun g1 => P_some rfl (O_cons (O_read rfl (R_assign rfl ?_)))))))))))))
      refine P_some rfl (O_cons (O_store (vs := [.int .i64 x1.Bill, .int .i64 x1.Due, .int .i64 x1.Rest]) rfl rfl rfl rfl rfl rfl (ST_ (L' := ([(g1, .cells #[.int .i64 x1.Bill, .int .i64 x1.Due, .int .i64 x1.Rest] 49 (0, 0))] :: L)) 0 0 rfl rfl rfl rfl (P_none (O_nil (hK787 _ _ _ (WP.seq_k (fun K790 hK790 => WP.seq_k (fun K791 hK791 => ?_)))))))))
      obtain ⟨o792, h792, hb783⟩ := obind hb783
      refine WP.cutK (fun fr_ μ_ L_ => ∃ (v2 : Bool), v2 = o792 ∧ SubFr [(0, .slice A1 l1.length c1), (4, .int .i64 sum1), (6, .pointer (some ⟨g1, 0, none⟩)), (7, .slice A1 l1.length c1), (8, .int .i64 ((l1.length : Nat) : Int)), (9, .int .i64 v1), (58, .bool v2)] fr_ ∧ SegSub ([(g1, .cells #[.int .i64 x1.Bill, .int .i64 x1.Due, .int .i64 x1.Rest] 49 (0, 0))] :: L) L_ ∧ μ = μ_) ?_ ?_
      · refine WP.drawn (id := 5) (l' := List.replicate 45 true) wide Tt_ok _ Kept.refl [(true, 0), (true, 1), (true, 2), (true, 3), (true, 4), (true, 5), (true, 6), (true, 7), (true, 8), (true, 9), (true, 10), (true, 11), (true, 12), (true, 13), (true, 14), (true, 15), (true, 16), (true, 17), (true, 18), (true, 19), (true, 20), (true, 21), (true, 22), (true, 23), (true, 24), (true, 25), (true, 26), (true, 27), (true, 28), (true, 29), (true, 30), (true, 31), (true, 32), (true, 33), (true, 34), (true, 35), (true, 36), (true, 37), (true, 38), (true, 39), (true, 40), (true, 41), (true, 42), (true, 43), (true, 44)] (by kernel_rfl) (by kernel_rfl) rfl (PL_t rfl (R_fa0 (o' := 2) rfl rfl rfl rfl rfl rfl (P_some rfl ?_)))
        refine PL_t rfl (R_load rfl rfl rfl (Ex.mk _ (Cell.seg 0 0 rfl rfl rfl) (P_some rfl (PL_t rfl (R_lssD rfl rfl (P_some rfl (PL_t rfl (R_move rfl (P_some rfl ?_)))))))))
        refine PL_tv (z := (decide (x1.Rest < 1))) rfl rfl rfl (fun hc3 => ?_) (fun hc3 => ?_)
        · replace h792 := cond_f hc3 h792
          refine R_fa0 (o' := 2) rfl rfl rfl rfl rfl rfl (P_some rfl (PL_tY rfl rfl rfl hc3 (R_load rfl rfl rfl (Ex.mk _ (Cell.seg 0 0 rfl rfl rfl) (P_some rfl (PL_tY rfl rfl rfl hc3 (R_gtrD rfl rfl (P_some rfl (PL_t rfl (R_pick_F rfl hc3 rfl (P_some rfl (PL_t rfl (R_move rfl ?_)))))))))))))
          apply P_some; exact rfl
          refine PL_tv (z := (decide (1000000000000 < x1.Rest))) rfl rfl rfl (fun hc4 => ?_) (fun hc4 => ?_)
          · replace h792 := cond_f hc4 h792
            refine R_move rfl (P_some rfl (PL_tY rfl rfl rfl hc4 (R_gtrD rfl rfl (P_some rfl (PL_tY rfl rfl rfl hc4 (R_move rfl (P_some rfl ?_)))))))
            refine PL_tv (z := (decide (0 < v1))) rfl rfl rfl (fun hc5 => ?_) (fun hc5 => ?_)
            · replace h792 := cond_t hc5 h792
              refine R_move rfl (P_some rfl (PL_tY rfl rfl rfl hc5 (R_move rfl (P_some rfl (PL_tY rfl rfl rfl hc5 (R_sub rfl rfl (P_some rfl (PL_tY rfl rfl rfl hc5 ?_))))))))
              obtain ⟨x2, hx2, h792⟩ := obind h792
              obtain ⟨a2, cs2, hA3, hr2, _, hc6⟩ := Rds.getI (Rds.push hA1) hx2
              obtain rfl := hr2
              refine R_iaG rfl rfl rfl rfl rfl rfl ⟨(getI_lt hx2).1, (getI_lt hx2).2.1⟩ hA3 (P_some rfl (PL_tY rfl rfl rfl hc5 (R_fa rfl rfl rfl rfl rfl (P_some rfl (PL_tY rfl rfl rfl hc5 (R_load rfl rfl rfl (Ex.mk _ (Cell.of_cells (hc6) 1 rfl) (P_some rfl (PL_tY rfl rfl rfl hc5 (R_fa0 (o' := 1) rfl rfl rfl rfl rfl rfl (P_some rfl (PL_tY rfl rfl rfl hc5 (R_load rfl rfl rfl ?_)))))))))))))
              refine Ex.mk _ (Cell.seg 0 0 rfl rfl rfl) (P_some rfl (PL_tY rfl rfl rfl hc5 (R_gtrD rfl rfl (P_some rfl (PL_tY rfl rfl rfl hc5 (R_move rfl (P_some rfl ?_)))))))
              refine PL_tv (z := (decide (x1.Due < x2.Due))) rfl rfl rfl (fun hc7 => ?_) (fun hc7 => ?_)
              · replace h792 := cond_f hc7 h792
                refine R_move rfl (P_some rfl (PL_tY rfl rfl rfl hc7 (R_move rfl (P_some rfl (PL_tY rfl rfl rfl hc7 (R_sub rfl rfl (P_some rfl (PL_tY rfl rfl rfl hc7 ?_))))))))
                obtain ⟨x3, hx3, h792⟩ := obind h792
                obtain ⟨a3, cs3, hA4, hr3, _, hc8⟩ := Rds.getI (Rds.push hA1) hx3
                obtain rfl := hr3
                refine R_iaG rfl rfl rfl rfl rfl rfl ⟨(getI_lt hx3).1, (getI_lt hx3).2.1⟩ hA4 (P_some rfl (PL_tY rfl rfl rfl hc7 (R_fa rfl rfl rfl rfl rfl (P_some rfl (PL_tY rfl rfl rfl hc7 (R_load rfl rfl rfl (Ex.mk _ (Cell.of_cells (hc8) 1 rfl) (P_some rfl (PL_tY rfl rfl rfl hc7 (R_fa0 (o' := 1) rfl rfl rfl rfl rfl rfl (P_some rfl (PL_tY rfl rfl rfl hc7 (R_load rfl rfl rfl ?_)))))))))))))
                refine Ex.mk _ (Cell.seg 0 0 rfl rfl rfl) (P_some rfl (PL_tY rfl rfl rfl hc7 (R_eqlD rfl rfl (P_some rfl (PL_tY rfl rfl rfl hc7 (R_move rfl (P_some rfl ?_)))))))
                refine PL_tv (z := (decide (x3.Due = x1.Due))) rfl rfl rfl (fun hc9 => ?_) (fun hc9 => ?_)
                · replace h792 := cond_t hc9 h792
                  refine R_move rfl (P_some rfl (PL_tY rfl rfl rfl hc9 (R_move rfl (P_some rfl (PL_tY rfl rfl rfl hc9 (R_sub rfl rfl (P_some rfl (PL_tY rfl rfl rfl hc9 ?_))))))))
                  obtain ⟨x4, hx4, h792⟩ := obind h792
                  obtain ⟨a4, cs4, hA5, hr4, _, hc10⟩ := Rds.getI (Rds.push hA1) hx4
                  obtain rfl := hr4
                  refine R_iaG rfl rfl rfl rfl rfl rfl ⟨(getI_lt hx4).1, (getI_lt hx4).2.1⟩ hA5 (P_some rfl (PL_tY rfl rfl rfl hc9 (R_faz rfl rfl rfl rfl rfl (P_some rfl (PL_tY rfl rfl rfl hc9 (R_load rfl rfl rfl (Ex.mk _ (Cell.of_cells0 (hc10) rfl) (P_some rfl (PL_tY rfl rfl rfl hc9 (R_fa0 (o' := 0) rfl rfl rfl rfl rfl rfl (P_some rfl (PL_tY rfl rfl rfl hc9 (R_load rfl rfl rfl ?_)))))))))))))
                  refine Ex.mk _ (Cell.seg 0 0 rfl rfl rfl) (P_some rfl (PL_tY rfl rfl rfl hc9 (R_geqD rfl rfl (P_some rfl (PL_tY rfl rfl rfl hc7 (R_pick_T rfl hc9 rfl (P_some rfl (PL_tY rfl rfl rfl hc5 (R_pick_F rfl hc7 rfl (P_some rfl (PL_tY rfl rfl rfl hc4 (R_pick_T rfl hc5 rfl (P_some rfl ?_)))))))))))))
                  refine PL_t rfl (R_pick_F rfl hc4 rfl (P_some rfl (PL_nil (AN.done0 (by kernel_rfl) ?_))))
                  have e_ := Option.some.inj h792
                  subst e_
                  exact ⟨(decide (x1.Bill ≤ x4.Bill)), rfl, SubFr.of ⟨rfl, rfl, rfl, rfl, rfl, rfl, rfl, trivial⟩, SegSub.sel _ [some 0] 1, rfl⟩
                replace h792 := cond_f hc9 h792
                refine P_some rfl (PL_tN rfl rfl rfl hc9 (P_some rfl (PL_tN rfl rfl rfl hc9 (P_some rfl (PL_tN rfl rfl rfl hc9 (P_some rfl (PL_tN rfl rfl rfl hc9 (P_some rfl (PL_tN rfl rfl rfl hc9 (P_some rfl (PL_tN rfl rfl rfl hc9 (P_some rfl (PL_tN rfl rfl rfl hc9 ?_)))))))))))))
                refine P_some rfl (PL_tN rfl rfl rfl hc9 (P_some rfl (PL_tY rfl rfl rfl hc7 (R_pick_F rfl hc9 rfl (P_some rfl (PL_tY rfl rfl rfl hc5 (R_pick_F rfl hc7 rfl (P_some rfl (PL_tY rfl rfl rfl hc4 (R_pick_T rfl hc5 rfl (P_some rfl (PL_t rfl (R_pick_F rfl hc4 rfl ?_)))))))))))))
                refine P_some rfl (PL_nil (AN.done0 (by kernel_rfl) ?_))
                have e_ := Option.some.inj h792
                subst e_
                exact ⟨false, rfl, SubFr.of ⟨rfl, rfl, rfl, rfl, rfl, rfl, rfl, trivial⟩, SegSub.sel _ [some 0] 1, rfl⟩
              replace h792 := cond_t hc7 h792
              refine P_some rfl (PL_tN rfl rfl rfl hc7 (P_some rfl (PL_tN rfl rfl rfl hc7 (P_some rfl (PL_tN rfl rfl rfl hc7 (P_some rfl (PL_tN rfl rfl rfl hc7 (P_some rfl (PL_tN rfl rfl rfl hc7 (P_some rfl (PL_tN rfl rfl rfl hc7 (P_some rfl (PL_tN rfl rfl rfl hc7 ?_)))))))))))))
              refine P_some rfl (PL_tN rfl rfl rfl hc7 (P_some rfl (PL_tN rfl rfl rfl hc7 (P_some rfl (PL_tu rfl rfl rfl (P_some rfl (PL_tu rfl rfl rfl (P_some rfl (PL_tu rfl rfl rfl (P_some rfl (PL_tu rfl rfl rfl (P_some rfl (PL_tu rfl rfl rfl ?_)))))))))))))
              refine P_some rfl (PL_tu rfl rfl rfl (P_some rfl (PL_tu rfl rfl rfl (P_some rfl (PL_tu rfl rfl rfl (P_some rfl (PL_tu rfl rfl rfl (P_some rfl (PL_tN rfl rfl rfl hc7 (P_some rfl (PL_tY rfl rfl rfl hc5 (R_pick_T rfl hc7 rfl (P_some rfl ?_)))))))))))))
              refine PL_tY rfl rfl rfl hc4 (R_pick_T rfl hc5 rfl (P_some rfl (PL_t rfl (R_pick_F rfl hc4 rfl (P_some rfl (PL_nil (AN.done0 (by kernel_rfl) ?_)))))))
              have e_ := Option.some.inj h792
              subst e_
              exact ⟨true, rfl, SubFr.of ⟨rfl, rfl, rfl, rfl, rfl, rfl, rfl, trivial⟩, SegSub.sel _ [some 0] 1, rfl⟩
            replace h792 := cond_f hc5 h792
            refine P_some rfl (PL_tN rfl rfl rfl hc5 (P_some rfl (PL_tN rfl rfl rfl hc5 (P_some rfl (PL_tN rfl rfl rfl hc5 (P_some rfl (PL_tN rfl rfl rfl hc5 (P_some rfl (PL_tN rfl rfl rfl hc5 (P_some rfl (PL_tN rfl rfl rfl hc5 (P_some rfl (PL_tN rfl rfl rfl hc5 ?_)))))))))))))
            refine P_some rfl (PL_tN rfl rfl rfl hc5 (P_some rfl (PL_tN rfl rfl rfl hc5 (P_some rfl (PL_tu rfl rfl rfl (P_some rfl (PL_tu rfl rfl rfl (P_some rfl (PL_tu rfl rfl rfl (P_some rfl (PL_tu rfl rfl rfl (P_some rfl (PL_tu rfl rfl rfl ?_)))))))))))))
            refine P_some rfl (PL_tu rfl rfl rfl (P_some rfl (PL_tu rfl rfl rfl (P_some rfl (PL_tu rfl rfl rfl (P_some rfl (PL_tu rfl rfl rfl (P_some rfl (PL_tu rfl rfl rfl (P_some rfl (PL_tu rfl rfl rfl (P_some rfl (PL_tu rfl rfl rfl ?_)))))))))))))
            refine P_some rfl (PL_tu rfl rfl rfl (P_some rfl (PL_tu rfl rfl rfl (P_some rfl (PL_tu rfl rfl rfl (P_some rfl (PL_tu rfl rfl rfl (P_some rfl (PL_tu rfl rfl rfl (P_some rfl (PL_tu rfl rfl rfl (P_some rfl (PL_tu rfl rfl rfl ?_)))))))))))))
            refine P_some rfl (PL_tu rfl rfl rfl (P_some rfl (PL_tN rfl rfl rfl hc5 (P_some rfl (PL_tY rfl rfl rfl hc4 (R_pick_F rfl hc5 rfl (P_some rfl (PL_t rfl (R_pick_F rfl hc4 rfl (P_some rfl (PL_nil (AN.done0 (by kernel_rfl) ?_))))))))))))
            have e_ := Option.some.inj h792
            subst e_
            exact ⟨false, rfl, SubFr.of ⟨rfl, rfl, rfl, rfl, rfl, rfl, rfl, trivial⟩, SegSub.sel _ [some 0] 1, rfl⟩
          replace h792 := cond_t hc4 h792
          refine P_some rfl (PL_tN rfl rfl rfl hc4 (P_some rfl (PL_tN rfl rfl rfl hc4 (P_some rfl (PL_tu rfl rfl rfl (P_some rfl (PL_tu rfl rfl rfl (P_some rfl (PL_tu rfl rfl rfl (P_some rfl (PL_tu rfl rfl rfl (P_some rfl (PL_tu rfl rfl rfl ?_)))))))))))))
          refine P_some rfl (PL_tu rfl rfl rfl (P_some rfl (PL_tu rfl rfl rfl (P_some rfl (PL_tu rfl rfl rfl (P_some rfl (PL_tu rfl rfl rfl (P_some rfl (PL_tu rfl rfl rfl (P_some rfl (PL_tu rfl rfl rfl (P_some rfl (PL_tu rfl rfl rfl ?_)))))))))))))
          refine P_some rfl (PL_tu rfl rfl rfl (P_some rfl (PL_tu rfl rfl rfl (P_some rfl (PL_tu rfl rfl rfl (P_some rfl (PL_tu rfl rfl rfl (P_some rfl (PL_tu rfl rfl rfl (P_some rfl (PL_tu rfl rfl rfl (P_some rfl (PL_tu rfl rfl rfl ?_)))))))))))))
          refine P_some rfl (PL_tu rfl rfl rfl (P_some rfl (PL_tu rfl rfl rfl (P_some rfl (PL_tu rfl rfl rfl (P_some rfl (PL_tu rfl rfl rfl (P_some rfl (PL_tu rfl rfl rfl (P_some rfl (PL_tu rfl rfl rfl (P_some rfl (PL_tu rfl rfl rfl ?_)))))))))))))
          refine P_some rfl (PL_tu rfl rfl rfl (P_some rfl (PL_tu rfl rfl rfl (P_some rfl (PL_tu rfl rfl rfl (P_some rfl (PL_tu rfl rfl rfl (P_some rfl (PL_tu rfl rfl rfl (P_some rfl (PL_tN rfl rfl rfl hc4 (P_some rfl (PL_t rfl ?_)))))))))))))
          refine R_pick_T rfl hc4 rfl (P_some rfl (PL_nil (AN.done0 (by kernel_rfl) ?_)))
          have e_ := Option.some.inj h792
          subst e_
          exact ⟨true, rfl, SubFr.of ⟨rfl, rfl, rfl, rfl, rfl, rfl, rfl, trivial⟩, SegSub.sel _ [some 0] 1, rfl⟩
        replace h792 := cond_t hc3 h792
        refine P_some rfl (PL_tN rfl rfl rfl hc3 (P_some rfl (PL_tN rfl rfl rfl hc3 (P_some rfl (PL_t rfl (R_pick_T rfl hc3 rfl (P_some rfl (PL_t rfl (R_move rfl (P_some rfl (PL_tN rfl rfl rfl rfl (P_some rfl (PL_tN rfl rfl rfl rfl ?_)))))))))))))
        refine P_some rfl (PL_tN rfl rfl rfl rfl (P_some rfl (PL_tu rfl rfl rfl (P_some rfl (PL_tu rfl rfl rfl (P_some rfl (PL_tu rfl rfl rfl (P_some rfl (PL_tu rfl rfl rfl (P_some rfl (PL_tu rfl rfl rfl (P_some rfl (PL_tu rfl rfl rfl ?_)))))))))))))
        refine P_some rfl (PL_tu rfl rfl rfl (P_some rfl (PL_tu rfl rfl rfl (P_some rfl (PL_tu rfl rfl rfl (P_some rfl (PL_tu rfl rfl rfl (P_some rfl (PL_tu rfl rfl rfl (P_some rfl (PL_tu rfl rfl rfl (P_some rfl (PL_tu rfl rfl rfl ?_)))))))))))))
        refine P_some rfl (PL_tu rfl rfl rfl (P_some rfl (PL_tu rfl rfl rfl (P_some rfl (PL_tu rfl rfl rfl (P_some rfl (PL_tu rfl rfl rfl (P_some rfl (PL_tu rfl rfl rfl (P_some rfl (PL_tu rfl rfl rfl (P_some rfl (PL_tu rfl rfl rfl ?_)))))))))))))
        refine P_some rfl (PL_tu rfl rfl rfl (P_some rfl (PL_tu rfl rfl rfl (P_some rfl (PL_tu rfl rfl rfl (P_some rfl (PL_tu rfl rfl rfl (P_some rfl (PL_tu rfl rfl rfl (P_some rfl (PL_tu rfl rfl rfl (P_some rfl (PL_tu rfl rfl rfl ?_)))))))))))))
        refine P_some rfl (PL_tu rfl rfl rfl (P_some rfl (PL_tu rfl rfl rfl (P_some rfl (PL_tu rfl rfl rfl (P_some rfl (PL_tu rfl rfl rfl (P_some rfl (PL_tN rfl rfl rfl rfl (P_some rfl (PL_t rfl (R_pick_T rfl rfl rfl (P_some rfl ?_)))))))))))))
        refine PL_nil (AN.done0 (by kernel_rfl) ?_)
        have e_ := Option.some.inj h792
        subst e_
        exact ⟨true, rfl, SubFr.of ⟨rfl, rfl, rfl, rfl, rfl, rfl, rfl, trivial⟩, SegSub.sel _ [some 0] 1, rfl⟩
      rintro fr792 μ792 L792 hm792 ⟨v2, ho792, hF792, hS792, hu792⟩
      subst ho792
      subst hu792
      refine hK791 _ _ _ (WP.at hF792 hS792 ?_)
      refine W_cond_v (b := v2) rfl (fun hc11 => ?_) (fun hc11 => ?_)
      · replace hb783 := cond_t hc11 hb783
        refine WP.seq_k (fun K795 hK795 => WP.region Tt_ok (O_cons (O_read rfl (R_assign rfl (P_some rfl (O_cons (O_read rfl (R_assign rfl (P_some rfl (O_nil (hK795 _ _ _ (WP.ret ?_))))))))))))
        have e_ := Option.some.inj hb783
        subst e_
        have hq_ := hq783 _ rfl
        subst hq_
        replace h := osum_r h
        have e_ := Option.some.inj h
        obtain ⟨e0a_, e0b_⟩ := Prod.mk.inj e_
        clear e_
        subst e0a_
        subst e0b_
        refine S_tmp rfl (S_tmp rfl (S_nil (Upd.selS [] 1 ?_)))
        exact Upd.done hR
      replace hb783 := cond_f hc11 hb783
      refine WP.skip (hK790 _ _ _ (WP.region Tt_ok (O_cons (O_read rfl (R_move rfl (P_some rfl (O_cons (O_read rfl (R_fa0 (o' := 2) rfl rfl rfl rfl rfl rfl (P_some rfl (O_cons (O_read rfl (R_load rfl rfl rfl ?_)))))))))))))
      refine Ex.mk _ (Cell.seg 0 0 rfl rfl rfl) (P_some rfl (O_cons (O_read rfl (R_add rfl rfl (P_some rfl (O_cons (O_read rfl (R_assign rfl (P_some rfl (O_nil (hK786 _ _ _ (WP.region Tt_ok (O_cons ?_)))))))))))))
      refine O_read rfl (R_add rfl rfl (P_some rfl (O_cons (O_read rfl (R_move rfl (P_some rfl (O_nil ?_)))))))
      have e_ := Option.some.inj hb783
      subst e_
      exact ⟨_, rfl, SubFr.of ⟨rfl, rfl, rfl, rfl, rfl, trivial⟩, SegSub.sel _ [] 1, rfl⟩
    replace hb783 := cond_f hc1 hb783
    refine WP.exit (B_here ?_)
    have e_ := Option.some.inj hb783
    subst e_
    have hq_ := hq783 _ rfl
    subst hq_
    exact ⟨sum1, rfl, SubFr.of ⟨rfl, rfl, trivial⟩, SegSub.sel _ [] 0, rfl⟩
  rintro fr769 μ769 L769 hm769 ⟨sum2, ho769, hF769, hS769, hu769⟩
  subst ho769
  replace h := osum_l h
  subst hu769
  refine hK767 _ _ _ (WP.at hF769 hS769 (WP.seq_k (fun K796 hK796 => WP.region Tt_ok (O_cons (O_read rfl (R_move rfl (P_some rfl (O_cons (O_read rfl (R_move rfl (P_some rfl (O_cons (O_read rfl ?_)))))))))))))
  refine R_lenS rfl rfl rfl (P_some rfl (O_cons (O_read rfl (R_leqD rfl rfl (P_some rfl (O_cons (O_read rfl (R_assign rfl (P_some rfl (O_cons (O_read rfl (R_assign rfl (P_some rfl ?_)))))))))))))
  refine O_nil (hK796 _ _ _ (WP.ret ?_))
  have e_ := Option.some.inj h
  obtain ⟨e0a_, e0b_⟩ := Prod.mk.inj e_
  clear e_
  subst e0a_
  subst e0b_
  refine S_tmp rfl (S_tmp rfl (S_nil (Upd.selS [] 0 ?_)))
  exact Upd.done hR

theorem recyclinglaw56_PaymentBalance_fn {μ : Gh} {L : List Seg} {R : Value → Gh → List Seg → Prop}  {l1 : (List T_recyclinglaw56_Act)} {last1 : Int} {A1 : Option Addr} {c1 : Nat} {res1 : Bool}
    (hl1 : l1.length ≤ c1 ∧ c1 ≤ maxLen) (hA1 : Rds r_recyclinglaw56_Act μ L A1 l1) (h : recyclinglaw56_PaymentBalance l1 last1 = some res1)
    (hR : R (.bool res1) μ (L)) :
    Fn Try.prog 4 [.slice A1 l1.length c1, .int .i64 last1] μ (L) R := by
  unfold recyclinglaw56_PaymentBalance at h
  refine Fn.of_body Tt_ok Try.func4 (by kernel_rfl) rfl Try.ntmps4 (by simp) ?_
  simp only [Try.f4, argFr, List.zipIdx, List.map, Nat.reduceAdd]
  refine WP.seq_k (fun K2 hK2 => WP.region Tt_ok (O_cons (O_read rfl (R_assign rfl (P_some rfl (O_nil (hK2 _ _ _ (WP.seq_k (fun K3 hK3 => WP.region Tt_ok (O_cons (O_call (all := []) rfl rfl rfl ?_)))))))))))
  obtain ⟨r1, hx1, h⟩ := obind h
  refine payment_New_fn  hx1 (fun pv1 so1 hP1 => P_some rfl (O_cons (O_read rfl (R_assign rfl (P_some rfl (O_nil (hK3 _ _ _ (WP.seq_k (fun K10 hK10 => WP.seq_k (fun K11 hK11 => ?_))))))))))
  obtain ⟨g1, A2, c2, ch1, g2, es1, cn1, hv1, rfl, hO1, hM1⟩ := hP1
  subst hv1
  refine WP.seg (L2 := ([(g1, .cells #[.slice A2 r1.f_open.length c2, .map (some g2), .int .i64 r1.credit, .int .i64 r1.last] 56 (0, 0))] :: ch1 :: [(g2, .map es1 cn1)] :: L)) (SegSub.flat (by simp)) ?_
  obtain ⟨o16, h16, h⟩ := obind h
  refine WP.cutK (fun fr_ μ_ L_ => ∃ (v1 : Bool), v1 = o16 ∧ SubFr [(0, .slice A1 l1.length c1), (1, .int .i64 last1), (5, .pointer (some ⟨g1, 0, none⟩)), (21, .bool v1)] fr_ ∧ SegSub ([(g1, .cells #[.slice A2 r1.f_open.length c2, .map (some g2), .int .i64 r1.credit, .int .i64 r1.last] 56 (0, 0))] :: ch1 :: [(g2, .map es1 cn1)] :: L) L_ ∧ μ = μ_) ?_ ?_
  · refine WP.region Tt_ok (O_cons (O_read rfl (R_move rfl (P_some rfl (O_cons (O_read rfl (R_lenS rfl rfl rfl (P_some rfl (O_cons (O_read rfl (R_gtrD rfl rfl (P_some rfl (O_cons ?_)))))))))))))
    refine O_read rfl (R_move rfl (P_some rfl ?_))
    refine O_gv (z := (decide (100 < ((l1.length : Nat) : Int)))) rfl rfl (fun hc1 => ?_) (fun hc1 => ?_)
    · replace h16 := cond_f hc1 h16
      refine O_read rfl (R_move rfl (P_some rfl (O_gY rfl rfl hc1 (O_read rfl (R_eqP1 rfl rfl rfl rfl (P_some rfl (O_cons (O_read rfl (R_pick_F rfl hc1 rfl (P_some rfl (O_nil ?_)))))))))))
      have e_ := Option.some.inj h16
      subst e_
      exact ⟨false, rfl, SubFr.of ⟨rfl, rfl, rfl, rfl, trivial⟩, SegSub.sel _ [some 0, some 1, some 2] 3, rfl⟩
    replace h16 := cond_t hc1 h16
    refine P_some rfl (O_gN rfl rfl hc1 (P_some rfl (O_cons (O_read rfl (R_pick_T rfl hc1 rfl (P_some rfl (O_nil ?_)))))))
    have e_ := Option.some.inj h16
    subst e_
    exact ⟨true, rfl, SubFr.of ⟨rfl, rfl, rfl, rfl, trivial⟩, SegSub.sel _ [some 0, some 1, some 2] 3, rfl⟩
  rintro fr16 μ16 L16 hm16 ⟨v1, ho16, hF16, hS16, hu16⟩
  subst ho16
  subst hu16
  refine hK11 _ _ _ (WP.at hF16 hS16 ?_)
  refine W_cond_v (b := v1) rfl (fun hc2 => ?_) (fun hc2 => ?_)
  · replace h := cond_t hc2 h
    refine WP.seq_k (fun K19 hK19 => WP.region Tt_ok (O_cons (O_call (all := []) rfl rfl rfl ?_)))
    obtain ⟨r2, hx2, h⟩ := obind h
    refine recyclinglaw56_awake_fn  hx2 ((P_some rfl (O_cons (O_read rfl (R_assign rfl (P_some rfl (O_nil (hK19 _ _ _ (WP.ret ?_)))))))))
    have e_ := Option.some.inj h
    subst e_
    refine S_tmp rfl (S_nil (Upd.selS [] 3 ?_))
    exact Upd.done hR
  replace h := cond_f hc2 h
  refine WP.skip (hK10 _ _ _ (WP.seq_k (fun K620 hK620 => WP.region Tt_ok (O_cons (O_read rfl (R_move rfl (P_some rfl (O_cons (O_read rfl (R_move rfl (P_some rfl (O_cons (O_call (all := [.pointer (some ⟨g1, 0, none⟩), .slice A1 l1.length c1]) rfl rfl rfl ?_)))))))))))))
  have hP2 : Obj_payment_Register μ (.pointer (some ⟨g1, 0, none⟩)) r1 ((g1, Obj.cells #[.slice A2 r1.f_open.length c2, .map (some g2), .int .i64 r1.credit, .int .i64 r1.last] 56 (0, 0)) :: (ch1 ++ ((g2, Obj.map es1 cn1) :: []))) := ⟨g1, A2, c2, ch1, g2, es1, cn1, rfl, rfl, hO1, hM1⟩
  refine Fn.seg (L2 := (((g1, Obj.cells #[.slice A2 r1.f_open.length c2, .map (some g2), .int .i64 r1.credit, .int .i64 r1.last] 56 (0, 0)) :: (ch1 ++ ((g2, Obj.map es1 cn1) :: []))) :: L)) (SegSub.trans (SegSub.flat (by simp [selS])) (SegSub.sel _ [some 0, some 1, some 2] 3)) ?_
  obtain ⟨⟨r3, r4, r5⟩, hx3, h⟩ := obind h
  replace h := oun_mk h
  replace h := oun_mk h
  refine recyclinglaw56_run_fn hP2 hl1 hA1 hx3 (fun so2 hP3 => P_some rfl (O_cons (O_read rfl (R_move rfl (P_some rfl (O_cons (O_read rfl (R_ext rfl rfl (P_some rfl (O_cons (O_read rfl (R_ext rfl rfl (P_some rfl ?_)))))))))))))
  refine O_cons (O_read rfl (R_assign rfl (P_some rfl (O_cons (O_read rfl (R_assign rfl (P_some rfl (O_nil (hK620 _ _ _ (WP.seq_k (fun K761 hK761 => WP.region Tt_ok (O_cons (O_read rfl ?_)))))))))))))
  refine R_move rfl (P_some rfl (O_cons (O_call (all := [.pointer (some ⟨g1, 0, none⟩)]) rfl rfl rfl ?_)))
  obtain ⟨⟨r6, r7⟩, hx4, h⟩ := obind h
  replace h := oun_mk h
  refine payment_Register_Open_fn hP3 hx4 (fun A3 c3 ch2 so3 hO2 hP4 => P_some rfl (O_cons (O_call (all := [.slice A3 r6.length c3]) rfl rfl rfl ?_)))
  obtain ⟨⟨r8, r9⟩, hx5, h⟩ := obind h
  replace h := oun_mk h
  refine recyclinglaw56_open_fn (Own.lenOk hO2) (Own.rds (L := (ch2 :: so3 :: L)) hO2 0 rfl) hx5 ((P_some rfl (O_cons (O_read rfl (R_move rfl (P_some rfl (O_cons (O_read rfl (R_ext rfl rfl (P_some rfl (O_cons (O_read rfl (R_ext rfl rfl (P_some rfl ?_))))))))))))))
  refine O_cons (O_read rfl (R_assign rfl (P_some rfl (O_cons (O_read rfl (R_assign rfl (P_some rfl (O_nil (hK761 _ _ _ (WP.seq_k (fun K799 hK799 => WP.region Tt_ok (O_cons (O_read rfl ?_)))))))))))))
  refine R_move rfl (P_some rfl (O_cons (O_call (all := [.pointer (some ⟨g1, 0, none⟩)]) rfl rfl rfl (Fn.seg (L2 := (so3 :: ch2 :: L)) (SegSub.sel _ [some 1, some 0] 2) ?_))))
  obtain ⟨⟨r10, r11⟩, hx6, h⟩ := obind h
  replace h := oun_mk h
  refine payment_Register_Balance_fn hP4 hx6 (fun so4 hP5 => P_some rfl (O_cons (O_read rfl (R_assign rfl (P_some rfl (O_nil (hK799 _ _ _ (WP.seq_k (fun K802 hK802 => WP.seq_k (fun K803 hK803 => ?_))))))))))
  obtain ⟨o804, h804, h⟩ := obind h
  refine WP.cutK (fun fr_ μ_ L_ => ∃ (v2 : Bool), v2 = o804 ∧ SubFr [(1, .int .i64 last1), (5, .pointer (some ⟨g1, 0, none⟩)), (10, .int .i64 r10), (51, .bool v2)] fr_ ∧ SegSub (so4 :: L) L_ ∧ μ = μ_) ?_ ?_
  · refine WP.region Tt_ok (O_cons (O_read rfl (R_move rfl (P_some rfl (O_cons (O_read rfl (R_not rfl (P_some rfl (O_cons (O_read rfl (R_move rfl (P_some rfl ?_))))))))))))
    refine O_gv (z := !r9) rfl rfl (fun hc3 => ?_) (fun hc3 => ?_)
    · replace h804 := cond_f hc3 h804
      refine O_read rfl (R_move rfl (P_some rfl (O_gY rfl rfl hc3 (O_read rfl (R_move rfl (P_some rfl (O_gY rfl rfl hc3 (O_read rfl (R_move rfl (P_some rfl (O_gY rfl rfl hc3 (O_read rfl (R_sub rfl rfl ?_)))))))))))))
      refine P_some rfl (O_gY rfl rfl hc3 (O_read rfl (R_neqD rfl rfl (P_some rfl (O_cons (O_read rfl (R_pick_F rfl hc3 rfl (P_some rfl (O_cons (O_read rfl (R_move rfl (P_some rfl ?_))))))))))))
      refine O_gv (z := !(decide (r10 = (w64 (r4 - r3))))) rfl rfl (fun hc4 => ?_) (fun hc4 => ?_)
      · replace h804 := cond_f hc4 h804
        refine O_read rfl (R_move rfl (P_some rfl (O_gY rfl rfl hc4 (O_read rfl (R_move rfl (P_some rfl (O_gY rfl rfl hc4 (O_read rfl (R_neg rfl (P_some rfl (O_gY rfl rfl hc4 (O_read rfl (R_lssD rfl rfl ?_)))))))))))))
        refine P_some rfl (O_cons (O_read rfl (R_pick_F rfl hc4 rfl (P_some rfl (O_nil ?_)))))
        have e_ := Option.some.inj h804
        subst e_
        exact ⟨(decide (r10 < (w64 (0 - r8)))), rfl, SubFr.of ⟨rfl, rfl, rfl, rfl, trivial⟩, SegSub.sel _ [some 0] 2, rfl⟩
      replace h804 := cond_t hc4 h804
      refine P_some rfl (O_gN rfl rfl hc4 (P_some rfl (O_gN rfl rfl hc4 (P_some rfl (O_gN rfl rfl hc4 (P_some rfl (O_cons (O_read rfl (R_pick_T rfl hc4 rfl (P_some rfl (O_nil ?_)))))))))))
      have e_ := Option.some.inj h804
      subst e_
      exact ⟨true, rfl, SubFr.of ⟨rfl, rfl, rfl, rfl, trivial⟩, SegSub.sel _ [some 0] 2, rfl⟩
    replace h804 := cond_t hc3 h804
    refine P_some rfl (O_gN rfl rfl hc3 (P_some rfl (O_gN rfl rfl hc3 (P_some rfl (O_gN rfl rfl hc3 (P_some rfl (O_gN rfl rfl hc3 (P_some rfl (O_cons (O_read rfl (R_pick_T rfl hc3 rfl (P_some rfl (O_cons ?_)))))))))))))
    refine O_read rfl (R_move rfl (P_some rfl (O_gN rfl rfl rfl (P_some rfl (O_gN rfl rfl rfl (P_some rfl (O_gN rfl rfl rfl (P_some rfl (O_gN rfl rfl rfl (P_some rfl (O_cons (O_read rfl (R_pick_T rfl rfl rfl ?_)))))))))))))
    refine P_some rfl (O_nil ?_)
    have e_ := Option.some.inj h804
    subst e_
    exact ⟨true, rfl, SubFr.of ⟨rfl, rfl, rfl, rfl, trivial⟩, SegSub.sel _ [some 0] 2, rfl⟩
  rintro fr804 μ804 L804 hm804 ⟨v2, ho804, hF804, hS804, hu804⟩
  subst ho804
  subst hu804
  refine hK803 _ _ _ (WP.at hF804 hS804 ?_)
  refine W_cond_v (b := v2) rfl (fun hc5 => ?_) (fun hc5 => ?_)
  · replace h := cond_t hc5 h
    refine WP.seq_k (fun K805 hK805 => WP.region Tt_ok (O_cons (O_read rfl (R_assign rfl (P_some rfl (O_nil (hK805 _ _ _ (WP.ret ?_))))))))
    have e_ := Option.some.inj h
    subst e_
    refine S_tmp rfl (S_nil (Upd.selS [] 1 ?_))
    exact Upd.done hR
  replace h := cond_f hc5 h
  refine WP.skip (hK802 _ _ _ (WP.seq_k (fun K806 hK806 => WP.seq_k (fun K807 hK807 => WP.region Tt_ok (O_cons (O_read rfl (R_move rfl (P_some rfl (O_cons (O_read rfl (R_move rfl (P_some rfl (O_cons ?_)))))))))))))
  apply O_call (all := [.pointer (some ⟨g1, 0, none⟩), .int .i64 0, .int .i64 last1]); exact rfl; exact rfl; exact rfl
  obtain ⟨⟨r12, r13, r14⟩, hx7, h⟩ := obind h
  replace h := oun_mk h
  replace h := oun_mk h
  refine payment_Register_Pay_fn hP5 hx7 (fun A4 c4 ch3 so5 hO3 hP6 => P_some rfl (O_cons (O_read rfl (R_move rfl (P_some rfl (O_cons (O_read rfl (R_ext rfl rfl (P_some rfl (O_cons (O_read rfl (R_ext rfl rfl (P_some rfl ?_)))))))))))))
  refine O_cons (O_read rfl (R_assign rfl (P_some rfl (O_cons (O_read rfl (R_assign rfl (P_some rfl (O_nil (hK807 _ _ _ (WP.seq_k (fun K812 hK812 => WP.region Tt_ok (O_cons (O_read rfl ?_)))))))))))))
  refine R_move rfl (P_some rfl (O_cons (O_read rfl (R_neqD rfl rfl (P_some rfl (O_nil (hK812 _ _ _ ?_)))))))
  refine W_cond_v (b := !(decide (r13 = 0))) rfl (fun hc6 => ?_) (fun hc6 => ?_)
  · replace h := cond_t hc6 h
    refine WP.seq_k (fun K813 hK813 => WP.region Tt_ok (O_cons (O_call (all := []) rfl rfl rfl ?_)))
    obtain ⟨r15, hx8, h⟩ := obind h
    refine recyclinglaw56_awake_fn  hx8 ((P_some rfl (O_cons (O_read rfl (R_assign rfl (P_some rfl (O_nil (hK813 _ _ _ (WP.ret ?_)))))))))
    have e_ := Option.some.inj h
    subst e_
    refine S_tmp rfl (S_nil (Upd.selS [] 2 ?_))
    exact Upd.done hR
  replace h := cond_f hc6 h
  refine WP.skip (hK806 _ _ _ (WP.seq_k (fun K814 hK814 => WP.region Tt_ok (O_cons (O_read rfl (R_move rfl (P_some rfl (O_cons (O_call (all := [.pointer (some ⟨g1, 0, none⟩)]) rfl rfl rfl (Fn.seg (L2 := (so5 :: ch3 :: L)) (SegSub.sel _ [some 1, some 0] 2) ?_))))))))))
  obtain ⟨⟨r16, r17⟩, hx9, h⟩ := obind h
  replace h := oun_mk h
  refine payment_Register_Open_fn hP6 hx9 (fun A5 c5 ch4 so6 hO4 hP7 => P_some rfl (O_cons (O_call (all := [.slice A5 r16.length c5]) rfl rfl rfl ?_)))
  obtain ⟨⟨r18, r19⟩, hx10, h⟩ := obind h
  replace h := oun_mk h
  refine recyclinglaw56_open_fn (Own.lenOk hO4) (Own.rds (L := (ch4 :: so6 :: ch3 :: L)) hO4 0 rfl) hx10 ((P_some rfl (O_cons (O_read rfl (R_move rfl (P_some rfl (O_cons (O_read rfl (R_ext rfl rfl (P_some rfl (O_cons (O_read rfl (R_ext rfl rfl (P_some rfl ?_))))))))))))))
  refine O_cons (O_read rfl (R_assign rfl (P_some rfl (O_cons (O_read rfl (R_assign rfl (P_some rfl (O_nil (hK814 _ _ _ (WP.seq_k (fun K819 hK819 => ?_)))))))))))
  obtain ⟨o820, h820, h⟩ := obind h
  refine WP.cutK (fun fr_ μ_ L_ => ∃ (v3 : Bool), v3 = o820 ∧ SubFr [(4, .bool v3)] fr_ ∧ SegSub (L) L_ ∧ μ = μ_) ?_ ?_
  · refine WP.region Tt_ok (O_cons (O_read rfl (R_move rfl (P_some rfl (O_cons (O_read rfl (R_move rfl (P_some rfl ?_))))))))
    refine O_gv (z := r19) rfl rfl (fun hc7 => ?_) (fun hc7 => ?_)
    · replace h820 := cond_t hc7 h820
      refine O_read rfl (R_move rfl (P_some rfl (O_gY rfl rfl hc7 (O_call (all := [.pointer (some ⟨g1, 0, none⟩)]) rfl rfl rfl (Fn.seg (L2 := (so6 :: ch4 :: ch3 :: L)) (SegSub.sel _ [some 1, some 0, some 2] 3) ?_)))))
      obtain ⟨⟨r20, r21⟩, hx11, h820⟩ := obind h820
      replace h820 := oun_mk h820
      refine payment_Register_Balance_fn hP7 hx11 (fun so7 hP8 => P_some rfl (O_gY rfl rfl hc7 (O_read rfl (R_move rfl (P_some rfl (O_gY rfl rfl hc7 (O_read rfl (R_eqlD rfl rfl (P_some rfl (O_cons (O_read rfl (R_pick_T rfl hc7 rfl (P_some rfl ?_)))))))))))))
      refine O_cons (O_read rfl (R_move rfl (P_some rfl ?_)))
      refine O_gv (z := (decide (r20 = r10))) rfl rfl (fun hc8 => ?_) (fun hc8 => ?_)
      · replace h820 := cond_t hc8 h820
        refine O_read rfl (R_move rfl (P_some rfl (O_gY rfl rfl hc8 (O_read rfl (R_move rfl (P_some rfl (O_gY rfl rfl hc8 (O_read rfl (R_neg rfl (P_some rfl (O_gY rfl rfl hc8 (O_read rfl (R_maxI rfl ?_)))))))))))))
        refine P_some rfl (O_gY rfl rfl hc8 (O_read rfl (R_eqlD rfl rfl (P_some rfl (O_cons (O_read rfl (R_pick_T rfl hc8 rfl (P_some rfl (O_cons (O_read rfl (R_move rfl (P_some rfl ?_))))))))))))
        refine O_gv (z := (decide (r18 = (max (w64 (0 - r10)) 0)))) rfl rfl (fun hc9 => ?_) (fun hc9 => ?_)
        · replace h820 := cond_t hc9 h820
          apply O_call (all := []); exact rfl; exact rfl; exact rfl
          obtain ⟨r22, hx12, h820⟩ := obind h820
          refine recyclinglaw56_awake_fn  hx12 ((P_some rfl (O_cons (O_read rfl (R_pick_T rfl hc9 rfl (P_some rfl (O_cons (O_read rfl (R_assign rfl (P_some rfl (O_nil ?_)))))))))))
          have e_ := Option.some.inj h820
          subst e_
          exact ⟨r22, rfl, SubFr.of ⟨rfl, trivial⟩, SegSub.sel _ [] 3, rfl⟩
        replace h820 := cond_f hc9 h820
        refine P_some rfl (O_cons (O_read rfl (R_pick_F rfl hc9 rfl (P_some rfl (O_cons (O_read rfl (R_assign rfl (P_some rfl (O_nil ?_)))))))))
        have e_ := Option.some.inj h820
        subst e_
        exact ⟨false, rfl, SubFr.of ⟨rfl, trivial⟩, SegSub.sel _ [] 3, rfl⟩
      replace h820 := cond_f hc8 h820
      refine P_some rfl (O_gN rfl rfl hc8 (P_some rfl (O_gN rfl rfl hc8 (P_some rfl (O_gN rfl rfl hc8 (P_some rfl (O_gN rfl rfl hc8 (P_some rfl (O_cons (O_read rfl (R_pick_F rfl hc8 rfl (P_some rfl (O_cons ?_)))))))))))))
      refine O_read rfl (R_move rfl (P_some rfl (O_gN rfl rfl rfl (P_some rfl (O_cons (O_read rfl (R_pick_F rfl rfl rfl (P_some rfl (O_cons (O_read rfl (R_assign rfl (P_some rfl (O_nil ?_)))))))))))))
      have e_ := Option.some.inj h820
      subst e_
      exact ⟨false, rfl, SubFr.of ⟨rfl, trivial⟩, SegSub.sel _ [] 3, rfl⟩
    replace h820 := cond_f hc7 h820
    refine P_some rfl (O_gN rfl rfl hc7 (P_some rfl (O_gN rfl rfl hc7 (P_some rfl (O_gN rfl rfl hc7 (P_some rfl (O_cons (O_read rfl (R_pick_F rfl hc7 rfl (P_some rfl (O_cons (O_read rfl (R_move rfl ?_)))))))))))))
    refine P_some rfl (O_gN rfl rfl rfl (P_some rfl (O_gN rfl rfl rfl (P_some rfl (O_gN rfl rfl rfl (P_some rfl (O_gN rfl rfl rfl (P_some rfl (O_gN rfl rfl rfl (P_some rfl (O_cons (O_read rfl (R_pick_F rfl rfl rfl ?_)))))))))))))
    refine P_some rfl (O_cons (O_read rfl (R_move rfl (P_some rfl (O_gN rfl rfl rfl (P_some rfl (O_cons (O_read rfl (R_pick_F rfl rfl rfl (P_some rfl (O_cons (O_read rfl (R_assign rfl ?_)))))))))))))
    refine P_some rfl (O_nil ?_)
    have e_ := Option.some.inj h820
    subst e_
    exact ⟨false, rfl, SubFr.of ⟨rfl, trivial⟩, SegSub.sel _ [] 3, rfl⟩
  rintro fr820 μ820 L820 hm820 ⟨v3, ho820, hF820, hS820, hu820⟩
  subst ho820
  subst hu820
  refine hK819 _ _ _ (WP.at hF820 hS820 (WP.ret ?_))
  have e_ := Option.some.inj h
  subst e_
  refine S_tmp rfl (S_nil (Upd.selS [] 0 ?_))
  exact Upd.done hR

theorem recyclinglaw56_PaymentUses_fn {μ : Gh} {L : List Seg} {R : Value → Gh → List Seg → Prop}  {l1 : (List T_recyclinglaw56_Act)} {amount1 : Int} {f_at1 : Int} {A1 : Option Addr} {c1 : Nat} {res1 : Bool}
    (hl1 : l1.length ≤ c1 ∧ c1 ≤ maxLen) (hA1 : Rds r_recyclinglaw56_Act μ L A1 l1) (h : recyclinglaw56_PaymentUses l1 amount1 f_at1 = some res1)
    (hR : R (.bool res1) μ (L)) :
    Fn Try.prog 5 [.slice A1 l1.length c1, .int .i64 amount1, .int .i64 f_at1] μ (L) R := by
  unfold recyclinglaw56_PaymentUses at h
  refine Fn.of_body Tt_ok Try.func5 (by kernel_rfl) rfl Try.ntmps5 (by simp) ?_
  simp only [Try.f5, argFr, List.zipIdx, List.map, Nat.reduceAdd]
  refine WP.seq_k (fun K824 hK824 => WP.region Tt_ok (O_cons (O_read rfl (R_assign rfl (P_some rfl (O_nil (hK824 _ _ _ (WP.seq_k (fun K825 hK825 => WP.region Tt_ok (O_cons (O_call (all := []) rfl rfl rfl ?_)))))))))))
  obtain ⟨r1, hx1, h⟩ := obind h
  refine payment_New_fn  hx1 (fun pv1 so1 hP1 => P_some rfl (O_cons (O_read rfl (R_assign rfl (P_some rfl (O_nil (hK825 _ _ _ (WP.seq_k (fun K827 hK827 => WP.seq_k (fun K828 hK828 => ?_))))))))))
  obtain ⟨g1, A2, c2, ch1, g2, es1, cn1, hv1, rfl, hO1, hM1⟩ := hP1
  subst hv1
  refine WP.seg (L2 := ([(g1, .cells #[.slice A2 r1.f_open.length c2, .map (some g2), .int .i64 r1.credit, .int .i64 r1.last] 56 (0, 0))] :: ch1 :: [(g2, .map es1 cn1)] :: L)) (SegSub.flat (by simp)) ?_
  obtain ⟨o833, h833, h⟩ := obind h
  refine WP.cutK (fun fr_ μ_ L_ => ∃ (v1 : Bool), v1 = o833 ∧ SubFr [(0, .slice A1 l1.length c1), (1, .int .i64 amount1), (2, .int .i64 f_at1), (7, .pointer (some ⟨g1, 0, none⟩)), (25, .bool v1)] fr_ ∧ SegSub ([(g1, .cells #[.slice A2 r1.f_open.length c2, .map (some g2), .int .i64 r1.credit, .int .i64 r1.last] 56 (0, 0))] :: ch1 :: [(g2, .map es1 cn1)] :: L) L_ ∧ μ = μ_) ?_ ?_
  · refine WP.region Tt_ok (O_cons (O_read rfl (R_move rfl (P_some rfl (O_cons (O_read rfl (R_lenS rfl rfl rfl (P_some rfl (O_cons (O_read rfl (R_gtrD rfl rfl (P_some rfl (O_cons ?_)))))))))))))
    refine O_read rfl (R_move rfl (P_some rfl ?_))
    refine O_gv (z := (decide (100 < ((l1.length : Nat) : Int)))) rfl rfl (fun hc1 => ?_) (fun hc1 => ?_)
    · replace h833 := cond_f hc1 h833
      refine O_read rfl (R_move rfl (P_some rfl (O_gY rfl rfl hc1 (O_read rfl (R_eqP1 rfl rfl rfl rfl (P_some rfl (O_cons (O_read rfl (R_pick_F rfl hc1 rfl (P_some rfl (O_nil ?_)))))))))))
      have e_ := Option.some.inj h833
      subst e_
      exact ⟨false, rfl, SubFr.of ⟨rfl, rfl, rfl, rfl, rfl, trivial⟩, SegSub.sel _ [some 0, some 1, some 2] 3, rfl⟩
    replace h833 := cond_t hc1 h833
    refine P_some rfl (O_gN rfl rfl hc1 (P_some rfl (O_cons (O_read rfl (R_pick_T rfl hc1 rfl (P_some rfl (O_nil ?_)))))))
    have e_ := Option.some.inj h833
    subst e_
    exact ⟨true, rfl, SubFr.of ⟨rfl, rfl, rfl, rfl, rfl, trivial⟩, SegSub.sel _ [some 0, some 1, some 2] 3, rfl⟩
  rintro fr833 μ833 L833 hm833 ⟨v1, ho833, hF833, hS833, hu833⟩
  subst ho833
  subst hu833
  refine hK828 _ _ _ (WP.at hF833 hS833 ?_)
  refine W_cond_v (b := v1) rfl (fun hc2 => ?_) (fun hc2 => ?_)
  · replace h := cond_t hc2 h
    refine WP.seq_k (fun K836 hK836 => WP.region Tt_ok (O_cons (O_call (all := []) rfl rfl rfl ?_)))
    obtain ⟨r2, hx2, h⟩ := obind h
    refine recyclinglaw56_awake_fn  hx2 ((P_some rfl (O_cons (O_read rfl (R_assign rfl (P_some rfl (O_nil (hK836 _ _ _ (WP.ret ?_)))))))))
    have e_ := Option.some.inj h
    subst e_
    refine S_tmp rfl (S_nil (Upd.selS [] 3 ?_))
    exact Upd.done hR
  replace h := cond_f hc2 h
  refine WP.skip (hK827 _ _ _ (WP.seq_k (fun K837 hK837 => WP.region Tt_ok (O_cons (O_read rfl (R_move rfl (P_some rfl (O_cons (O_read rfl (R_move rfl (P_some rfl (O_cons (O_call (all := [.pointer (some ⟨g1, 0, none⟩), .slice A1 l1.length c1]) rfl rfl rfl ?_)))))))))))))
  have hP2 : Obj_payment_Register μ (.pointer (some ⟨g1, 0, none⟩)) r1 ((g1, Obj.cells #[.slice A2 r1.f_open.length c2, .map (some g2), .int .i64 r1.credit, .int .i64 r1.last] 56 (0, 0)) :: (ch1 ++ ((g2, Obj.map es1 cn1) :: []))) := ⟨g1, A2, c2, ch1, g2, es1, cn1, rfl, rfl, hO1, hM1⟩
  refine Fn.seg (L2 := (((g1, Obj.cells #[.slice A2 r1.f_open.length c2, .map (some g2), .int .i64 r1.credit, .int .i64 r1.last] 56 (0, 0)) :: (ch1 ++ ((g2, Obj.map es1 cn1) :: []))) :: L)) (SegSub.trans (SegSub.flat (by simp [selS])) (SegSub.sel _ [some 0, some 1, some 2] 3)) ?_
  obtain ⟨⟨r3, r4, r5⟩, hx3, h⟩ := obind h
  replace h := oun_mk h
  replace h := oun_mk h
  refine recyclinglaw56_run_fn hP2 hl1 hA1 hx3 (fun so2 hP3 => P_some rfl (O_nil (hK837 _ _ _ (WP.seq_k (fun K840 hK840 => WP.region Tt_ok (O_cons (O_read rfl (R_move rfl (P_some rfl (O_cons (O_call (all := [.pointer (some ⟨g1, 0, none⟩)]) rfl rfl rfl ?_)))))))))))
  obtain ⟨⟨r6, r7⟩, hx4, h⟩ := obind h
  replace h := oun_mk h
  refine payment_Register_Open_fn hP3 hx4 (fun A3 c3 ch2 so3 hO2 hP4 => P_some rfl (O_cons (O_read rfl (R_assign rfl (P_some rfl (O_nil (hK840 _ _ _ (WP.seq_k (fun K845 hK845 => WP.region Tt_ok (O_cons (O_read rfl (R_move rfl (P_some rfl ?_)))))))))))))
  refine O_cons (O_call (all := [.slice A3 r6.length c3]) rfl rfl rfl ?_)
  obtain ⟨⟨r8, r9⟩, hx5, h⟩ := obind h
  replace h := oun_mk h
  refine recyclinglaw56_open_fn (Own.lenOk hO2) (Own.rds (L := (ch2 :: so3 :: L)) hO2 0 rfl) hx5 ((P_some rfl (O_cons (O_read rfl (R_move rfl (P_some rfl (O_cons (O_read rfl (R_ext rfl rfl (P_some rfl (O_cons (O_read rfl (R_ext rfl rfl (P_some rfl ?_))))))))))))))
  refine O_cons (O_read rfl (R_assign rfl (P_some rfl (O_cons (O_read rfl (R_assign rfl (P_some rfl (O_nil (hK845 _ _ _ (WP.seq_k (fun K846 hK846 => WP.region Tt_ok (O_cons (O_read rfl ?_)))))))))))))
  refine R_move rfl (P_some rfl (O_cons (O_call (all := [.pointer (some ⟨g1, 0, none⟩)]) rfl rfl rfl (Fn.seg (L2 := (so3 :: ch2 :: L)) (SegSub.sel _ [some 1, some 0] 2) ?_))))
  obtain ⟨⟨r10, r11⟩, hx6, h⟩ := obind h
  replace h := oun_mk h
  refine payment_Register_Balance_fn hP4 hx6 (fun so4 hP5 => P_some rfl (O_cons (O_read rfl (R_assign rfl (P_some rfl (O_nil (hK846 _ _ _ (WP.seq_k (fun K849 hK849 => WP.region Tt_ok (O_cons (O_read rfl (R_move rfl (P_some rfl ?_)))))))))))))
  refine O_cons (O_read rfl (R_move rfl (P_some rfl (O_cons (O_read rfl (R_move rfl (P_some rfl (O_cons (O_call (all := [.pointer (some ⟨g1, 0, none⟩), .int .i64 amount1, .int .i64 f_at1]) rfl rfl rfl ?_)))))))))
  obtain ⟨⟨r12, r13, r14⟩, hx7, h⟩ := obind h
  replace h := oun_mk h
  replace h := oun_mk h
  refine payment_Register_Pay_fn hP5 hx7 (fun A4 c4 ch3 so5 hO3 hP6 => P_some rfl (O_cons (O_read rfl (R_move rfl (P_some rfl (O_cons (O_read rfl (R_ext rfl rfl (P_some rfl (O_cons (O_read rfl (R_ext rfl rfl (P_some rfl ?_)))))))))))))
  refine O_cons (O_read rfl (R_assign rfl (P_some rfl (O_cons (O_read rfl (R_assign rfl (P_some rfl (O_nil (hK849 _ _ _ (WP.seq_k (fun K854 hK854 => WP.region Tt_ok (O_cons (O_read rfl ?_)))))))))))))
  refine R_move rfl (P_some rfl (O_cons (O_call (all := [.pointer (some ⟨g1, 0, none⟩)]) rfl rfl rfl (Fn.seg (L2 := (so5 :: ch3 :: ch2 :: L)) (SegSub.sel _ [some 1, some 0, some 2] 3) ?_))))
  obtain ⟨⟨r15, r16⟩, hx8, h⟩ := obind h
  replace h := oun_mk h
  refine payment_Register_Open_fn hP6 hx8 (fun A5 c5 ch4 so6 hO4 hP7 => P_some rfl (O_cons (O_read rfl (R_assign rfl (P_some rfl (O_nil (hK854 _ _ _ (WP.seq_k (fun K859 hK859 => WP.seq_k (fun K860 hK860 => WP.region Tt_ok (O_cons (O_read rfl (R_move rfl ?_)))))))))))))
  refine P_some rfl (O_cons (O_read rfl (R_neqD rfl rfl (P_some rfl (O_nil (hK860 _ _ _ ?_))))))
  refine W_cond_v (b := !(decide (r13 = 0))) rfl (fun hc3 => ?_) (fun hc3 => ?_)
  · replace h := cond_t hc3 h
    refine WP.seq_k ?_; intro K861 hK861
    obtain ⟨o862, h862, h⟩ := obind h
    refine WP.cutK (fun fr_ μ_ L_ => ∃ (v2 : Bool), v2 = o862 ∧ SubFr [(6, .bool v2)] fr_ ∧ SegSub (L) L_ ∧ μ = μ_) ?_ ?_
    · refine WP.region Tt_ok (O_cons (O_read rfl (R_move rfl (P_some rfl (O_cons (O_read rfl (R_lenS rfl rfl rfl (P_some rfl (O_cons (O_read rfl (R_eqlD rfl rfl (P_some rfl (O_cons ?_)))))))))))))
      refine O_read rfl (R_move rfl (P_some rfl ?_))
      refine O_gv (z := (decide (((r12.length : Nat) : Int) = 0))) rfl rfl (fun hc4 => ?_) (fun hc4 => ?_)
      · replace h862 := cond_t hc4 h862
        refine O_read rfl (R_move rfl (P_some rfl (O_gY rfl rfl hc4 (O_read rfl (R_move rfl (P_some rfl (O_gY rfl rfl hc4 (O_call (all := [.slice A3 r6.length c3, .slice A5 r15.length c5]) rfl rfl rfl ?_))))))))
        obtain ⟨r17, hx9, h862⟩ := obind h862
        refine recyclingref56_Same_fn (Own.lenOk hO2) (Own.rds (L := (ch4 :: so6 :: ch3 :: ch2 :: L)) hO2 3 rfl) (Own.lenOk hO4) (Own.rds (L := (ch4 :: so6 :: ch3 :: ch2 :: L)) hO4 0 rfl) hx9 ((P_some rfl (O_cons (O_read rfl (R_pick_T rfl hc4 rfl (P_some rfl (O_cons (O_read rfl (R_move rfl (P_some rfl ?_))))))))))
        refine O_gv (z := r17) rfl rfl (fun hc5 => ?_) (fun hc5 => ?_)
        · replace h862 := cond_t hc5 h862
          refine O_read rfl (R_move rfl (P_some rfl (O_gY rfl rfl hc5 (O_call (all := [.pointer (some ⟨g1, 0, none⟩)]) rfl rfl rfl (Fn.seg (L2 := (so6 :: ch4 :: ch3 :: ch2 :: L)) (SegSub.sel _ [some 1, some 0, some 2, some 3] 4) ?_)))))
          obtain ⟨⟨r18, r19⟩, hx10, h862⟩ := obind h862
          replace h862 := oun_mk h862
          refine payment_Register_Balance_fn hP7 hx10 (fun so7 hP8 => P_some rfl (O_gY rfl rfl hc5 (O_read rfl (R_move rfl (P_some rfl (O_gY rfl rfl hc5 (O_read rfl (R_eqlD rfl rfl (P_some rfl (O_cons (O_read rfl (R_pick_T rfl hc5 rfl (P_some rfl ?_)))))))))))))
          refine O_cons (O_read rfl (R_move rfl (P_some rfl ?_)))
          refine O_gv (z := (decide (r18 = r10))) rfl rfl (fun hc6 => ?_) (fun hc6 => ?_)
          · replace h862 := cond_t hc6 h862
            apply O_call (all := []); exact rfl; exact rfl; exact rfl
            obtain ⟨r20, hx11, h862⟩ := obind h862
            refine recyclinglaw56_awake_fn  hx11 ((P_some rfl (O_cons (O_read rfl (R_pick_T rfl hc6 rfl (P_some rfl (O_cons (O_read rfl (R_assign rfl (P_some rfl (O_nil ?_)))))))))))
            have e_ := Option.some.inj h862
            subst e_
            exact ⟨r20, rfl, SubFr.of ⟨rfl, trivial⟩, SegSub.sel _ [] 4, rfl⟩
          replace h862 := cond_f hc6 h862
          refine P_some rfl (O_cons (O_read rfl (R_pick_F rfl hc6 rfl (P_some rfl (O_cons (O_read rfl (R_assign rfl (P_some rfl (O_nil ?_)))))))))
          have e_ := Option.some.inj h862
          subst e_
          exact ⟨false, rfl, SubFr.of ⟨rfl, trivial⟩, SegSub.sel _ [] 4, rfl⟩
        replace h862 := cond_f hc5 h862
        refine P_some rfl (O_gN rfl rfl hc5 (P_some rfl (O_gN rfl rfl hc5 (P_some rfl (O_gN rfl rfl hc5 (P_some rfl (O_cons (O_read rfl (R_pick_F rfl hc5 rfl (P_some rfl (O_cons (O_read rfl (R_move rfl ?_)))))))))))))
        refine P_some rfl (O_gN rfl rfl rfl (P_some rfl (O_cons (O_read rfl (R_pick_F rfl rfl rfl (P_some rfl (O_cons (O_read rfl (R_assign rfl (P_some rfl (O_nil ?_)))))))))))
        have e_ := Option.some.inj h862
        subst e_
        exact ⟨false, rfl, SubFr.of ⟨rfl, trivial⟩, SegSub.sel _ [] 4, rfl⟩
      replace h862 := cond_f hc4 h862
      refine P_some rfl (O_gN rfl rfl hc4 (P_some rfl (O_gN rfl rfl hc4 (P_some rfl (O_cons (O_read rfl (R_pick_F rfl hc4 rfl (P_some rfl (O_cons (O_read rfl (R_move rfl (P_some rfl (O_gN rfl rfl rfl ?_)))))))))))))
      refine P_some rfl (O_gN rfl rfl rfl (P_some rfl (O_gN rfl rfl rfl (P_some rfl (O_gN rfl rfl rfl (P_some rfl (O_cons (O_read rfl (R_pick_F rfl rfl rfl (P_some rfl (O_cons (O_read rfl (R_move rfl ?_)))))))))))))
      refine P_some rfl (O_gN rfl rfl rfl (P_some rfl (O_cons (O_read rfl (R_pick_F rfl rfl rfl (P_some rfl (O_cons (O_read rfl (R_assign rfl (P_some rfl (O_nil ?_)))))))))))
      have e_ := Option.some.inj h862
      subst e_
      exact ⟨false, rfl, SubFr.of ⟨rfl, trivial⟩, SegSub.sel _ [] 4, rfl⟩
    rintro fr862 μ862 L862 hm862 ⟨v2, ho862, hF862, hS862, hu862⟩
    subst ho862
    subst hu862
    refine hK861 _ _ _ (WP.at hF862 hS862 (WP.ret ?_))
    have e_ := Option.some.inj h
    subst e_
    refine S_tmp rfl (S_nil (Upd.selS [] 0 ?_))
    exact Upd.done hR
  replace h := cond_f hc3 h
  refine WP.skip (hK859 _ _ _ (WP.seq_k (fun K865 hK865 => WP.region Tt_ok (O_cons (O_read rfl (R_move rfl (P_some rfl (O_cons (O_call (all := [.slice A4 r12.length c4]) rfl rfl rfl ?_)))))))))
  obtain ⟨⟨r21, r22⟩, hx12, h⟩ := obind h
  replace h := oun_mk h
  refine recyclinglaw56_open_fn (Own.lenOk hO3) (Own.rds (L := (ch4 :: so6 :: ch3 :: ch2 :: L)) hO3 2 rfl) hx12 ((P_some rfl (O_cons (O_read rfl (R_move rfl (P_some rfl (O_cons (O_read rfl (R_ext rfl rfl (P_some rfl (O_cons (O_read rfl (R_ext rfl rfl (P_some rfl ?_))))))))))))))
  refine O_cons (O_read rfl (R_assign rfl (P_some rfl (O_cons (O_read rfl (R_assign rfl (P_some rfl (O_nil (hK865 _ _ _ (WP.seq_k (fun K866 hK866 => WP.seq_k (fun K867 hK867 => ?_))))))))))))
  obtain ⟨o868, h868, h⟩ := obind h
  refine WP.cutK (fun fr_ μ_ L_ => ∃ (v3 : Bool), v3 = o868 ∧ SubFr [(8, .slice A3 r6.length c3), (12, .slice A4 r12.length c4), (99, .bool v3)] fr_ ∧ SegSub (ch2 :: ch3 :: L) L_ ∧ μ = μ_) ?_ ?_
  · refine WP.region Tt_ok (O_cons (O_read rfl (R_move rfl (P_some rfl (O_cons (O_read rfl (R_not rfl (P_some rfl (O_cons (O_read rfl (R_move rfl (P_some rfl ?_))))))))))))
    refine O_gv (z := !r9) rfl rfl (fun hc7 => ?_) (fun hc7 => ?_)
    · replace h868 := cond_f hc7 h868
      refine O_read rfl (R_move rfl (P_some rfl (O_gY rfl rfl hc7 (O_read rfl (R_not rfl (P_some rfl (O_cons (O_read rfl (R_pick_F rfl hc7 rfl (P_some rfl (O_cons (O_read rfl (R_move rfl ?_)))))))))))))
      apply P_some; exact rfl
      refine O_gv (z := !r22) rfl rfl (fun hc8 => ?_) (fun hc8 => ?_)
      · replace h868 := cond_f hc8 h868
        refine O_read rfl (R_move rfl (P_some rfl (O_gY rfl rfl hc8 (O_read rfl (R_lssD rfl rfl (P_some rfl (O_cons (O_read rfl (R_pick_F rfl hc8 rfl (P_some rfl (O_cons (O_read rfl (R_move rfl ?_)))))))))))))
        apply P_some; exact rfl
        refine O_gv (z := (decide (amount1 < 0))) rfl rfl (fun hc9 => ?_) (fun hc9 => ?_)
        · replace h868 := cond_f hc9 h868
          refine O_read rfl (R_move rfl (P_some rfl (O_gY rfl rfl hc9 (O_read rfl (R_lenS rfl rfl rfl (P_some rfl (O_gY rfl rfl hc9 (O_read rfl (R_move rfl (P_some rfl (O_gY rfl rfl hc9 (O_read rfl (R_lenS rfl rfl rfl ?_)))))))))))))
          refine P_some rfl (O_gY rfl rfl hc9 (O_read rfl (R_gtrD rfl rfl (P_some rfl (O_cons (O_read rfl (R_pick_F rfl hc9 rfl (P_some rfl (O_cons (O_read rfl (R_move rfl (P_some rfl ?_))))))))))))
          refine O_gv (z := (decide (((r6.length : Nat) : Int) < ((r12.length : Nat) : Int)))) rfl rfl (fun hc10 => ?_) (fun hc10 => ?_)
          · replace h868 := cond_f hc10 h868
            refine O_read rfl (R_move rfl (P_some rfl (O_gY rfl rfl hc10 (O_read rfl (R_move rfl (P_some rfl (O_gY rfl rfl hc10 (O_read rfl (R_move rfl (P_some rfl (O_gY rfl rfl hc10 (O_read rfl (R_move rfl ?_)))))))))))))
            refine P_some rfl (O_gY rfl rfl hc10 (O_read rfl (R_add rfl rfl (P_some rfl (O_gY rfl rfl hc10 (O_read rfl (R_move rfl (P_some rfl (O_gY rfl rfl hc10 (O_read rfl (R_add rfl rfl (P_some rfl (O_gY rfl rfl hc10 ?_)))))))))))))
            refine O_read rfl (R_minI rfl (P_some rfl (O_gY rfl rfl hc10 (O_read rfl (R_neqD rfl rfl (P_some rfl (O_cons (O_read rfl (R_pick_F rfl hc10 rfl (P_some rfl (O_nil ?_)))))))))))
            have e_ := Option.some.inj h868
            subst e_
            exact ⟨!(decide (r21 = (min r8 (w64 ((w64 (r10 + r8)) + amount1))))), rfl, SubFr.of ⟨rfl, rfl, rfl, trivial⟩, SegSub.sel _ [some 3, some 2] 4, rfl⟩
          replace h868 := cond_t hc10 h868
          refine P_some rfl (O_gN rfl rfl hc10 (P_some rfl (O_gN rfl rfl hc10 (P_some rfl (O_gN rfl rfl hc10 (P_some rfl (O_gN rfl rfl hc10 (P_some rfl (O_gN rfl rfl hc10 (P_some rfl (O_gN rfl rfl hc10 (P_some rfl (O_gN rfl rfl hc10 ?_)))))))))))))
          refine P_some rfl (O_gN rfl rfl hc10 (P_some rfl (O_cons (O_read rfl (R_pick_T rfl hc10 rfl (P_some rfl (O_nil ?_)))))))
          have e_ := Option.some.inj h868
          subst e_
          exact ⟨true, rfl, SubFr.of ⟨rfl, rfl, rfl, trivial⟩, SegSub.sel _ [some 3, some 2] 4, rfl⟩
        replace h868 := cond_t hc9 h868
        refine P_some rfl (O_gN rfl rfl hc9 (P_some rfl (O_gN rfl rfl hc9 (P_some rfl (O_gN rfl rfl hc9 (P_some rfl (O_gN rfl rfl hc9 (P_some rfl (O_cons (O_read rfl (R_pick_T rfl hc9 rfl (P_some rfl (O_cons ?_)))))))))))))
        refine O_read rfl (R_move rfl (P_some rfl (O_gN rfl rfl rfl (P_some rfl (O_gN rfl rfl rfl (P_some rfl (O_gN rfl rfl rfl (P_some rfl (O_gN rfl rfl rfl (P_some rfl (O_gN rfl rfl rfl (P_some rfl (O_gN rfl rfl rfl ?_)))))))))))))
        refine P_some rfl (O_gN rfl rfl rfl (P_some rfl (O_gN rfl rfl rfl (P_some rfl (O_gN rfl rfl rfl (P_some rfl (O_cons (O_read rfl (R_pick_T rfl rfl rfl (P_some rfl (O_nil ?_)))))))))))
        have e_ := Option.some.inj h868
        subst e_
        exact ⟨true, rfl, SubFr.of ⟨rfl, rfl, rfl, trivial⟩, SegSub.sel _ [some 3, some 2] 4, rfl⟩
      replace h868 := cond_t hc8 h868
      refine P_some rfl (O_gN rfl rfl hc8 (P_some rfl (O_cons (O_read rfl (R_pick_T rfl hc8 rfl (P_some rfl (O_cons (O_read rfl (R_move rfl (P_some rfl (O_gN rfl rfl rfl (P_some rfl (O_gN rfl rfl rfl ?_)))))))))))))
      refine P_some rfl (O_gN rfl rfl rfl (P_some rfl (O_gN rfl rfl rfl (P_some rfl (O_gN rfl rfl rfl (P_some rfl (O_cons (O_read rfl (R_pick_T rfl rfl rfl (P_some rfl (O_cons (O_read rfl (R_move rfl ?_)))))))))))))
      refine P_some rfl (O_gN rfl rfl rfl (P_some rfl (O_gN rfl rfl rfl (P_some rfl (O_gN rfl rfl rfl (P_some rfl (O_gN rfl rfl rfl (P_some rfl (O_gN rfl rfl rfl (P_some rfl (O_gN rfl rfl rfl (P_some rfl (O_gN rfl rfl rfl ?_)))))))))))))
      refine P_some rfl (O_gN rfl rfl rfl (P_some rfl (O_gN rfl rfl rfl (P_some rfl (O_cons (O_read rfl (R_pick_T rfl rfl rfl (P_some rfl (O_nil ?_)))))))))
      have e_ := Option.some.inj h868
      subst e_
      exact ⟨true, rfl, SubFr.of ⟨rfl, rfl, rfl, trivial⟩, SegSub.sel _ [some 3, some 2] 4, rfl⟩
    replace h868 := cond_t hc7 h868
    refine P_some rfl (O_gN rfl rfl hc7 (P_some rfl (O_cons (O_read rfl (R_pick_T rfl hc7 rfl (P_some rfl (O_cons (O_read rfl (R_move rfl (P_some rfl (O_gN rfl rfl rfl (P_some rfl (O_gN rfl rfl rfl ?_)))))))))))))
    refine P_some rfl (O_cons (O_read rfl (R_pick_T rfl rfl rfl (P_some rfl (O_cons (O_read rfl (R_move rfl (P_some rfl (O_gN rfl rfl rfl (P_some rfl (O_gN rfl rfl rfl (P_some rfl (O_gN rfl rfl rfl ?_)))))))))))))
    refine P_some rfl (O_gN rfl rfl rfl (P_some rfl (O_gN rfl rfl rfl (P_some rfl (O_cons (O_read rfl (R_pick_T rfl rfl rfl (P_some rfl (O_cons (O_read rfl (R_move rfl (P_some rfl (O_gN rfl rfl rfl ?_)))))))))))))
    refine P_some rfl (O_gN rfl rfl rfl (P_some rfl (O_gN rfl rfl rfl (P_some rfl (O_gN rfl rfl rfl (P_some rfl (O_gN rfl rfl rfl (P_some rfl (O_gN rfl rfl rfl (P_some rfl (O_gN rfl rfl rfl (P_some rfl (O_gN rfl rfl rfl ?_)))))))))))))
    refine P_some rfl (O_gN rfl rfl rfl (P_some rfl (O_cons (O_read rfl (R_pick_T rfl rfl rfl (P_some rfl (O_nil ?_)))))))
    have e_ := Option.some.inj h868
    subst e_
    exact ⟨true, rfl, SubFr.of ⟨rfl, rfl, rfl, trivial⟩, SegSub.sel _ [some 3, some 2] 4, rfl⟩
  rintro fr868 μ868 L868 hm868 ⟨v3, ho868, hF868, hS868, hu868⟩
  subst ho868
  subst hu868
  refine hK867 _ _ _ (WP.at hF868 hS868 ?_)
  refine W_cond_v (b := v3) rfl (fun hc11 => ?_) (fun hc11 => ?_)
  · replace h := cond_t hc11 h
    refine WP.seq_k (fun K869 hK869 => WP.region Tt_ok (O_cons (O_read rfl (R_assign rfl (P_some rfl (O_nil (hK869 _ _ _ (WP.ret ?_))))))))
    have e_ := Option.some.inj h
    subst e_
    refine S_tmp rfl (S_nil (Upd.selS [] 2 ?_))
    exact Upd.done hR
  replace h := cond_f hc11 h
  refine WP.skip (hK866 _ _ _ (WP.seq_k (fun K870 hK870 => WP.seq_k (fun K871 hK871 => WP.region Tt_ok (O_cons (O_read rfl (R_move rfl (P_some rfl (O_cons (O_read rfl (R_lenS rfl rfl rfl (P_some rfl (O_cons ?_)))))))))))))
  refine O_read rfl (R_move rfl (P_some rfl (O_nil (hK871 _ _ _ ?_))))
  obtain ⟨o872, h872, h⟩ := obind h
  refine WP.cutK (fun fr_ μ_ L_ => (.inl ()) = o872 ∧ SubFr [] fr_ ∧ SegSub (L) L_ ∧ μ = μ_) ?_ ?_
  · refine WP.block (WP.iter h872 (fun (v4 : Int) fr_ μ_ L_ => SubFr [(8, .slice A3 r6.length c3), (12, .slice A4 r12.length c4), (101, .int .i64 ((r12.length : Nat) : Int)), (102, .int .i64 v4)] fr_ ∧ SegSub (ch2 :: ch3 :: L) L_ ∧ μ = μ_) ⟨SubFr.of ⟨rfl, rfl, rfl, rfl, trivial⟩, SegSub.sel _ [some 0, some 1] 2, rfl⟩ ?_)
    rintro v4 q881 fr881 μ881 L881 hm881 ⟨hF881, hS881, hu881⟩ hb881 hq881
    unfold recyclinglaw56_PaymentUses_l1 at hb881
    subst hu881
    refine WP.at hF881 hS881 (WP.seq_k (fun K882 hK882 => WP.region Tt_ok (O_cons (O_read rfl (R_lssD rfl rfl (P_some rfl (O_nil (hK882 _ _ _ (WP.seq_k (fun K883 hK883 => ?_))))))))))
    refine W_cond_v (b := (decide (v4 < ((r12.length : Nat) : Int)))) rfl (fun hc12 => ?_) (fun hc12 => ?_)
    · replace hb881 := cond_t hc12 hb881
      refine WP.skip (hK883 _ _ _ (WP.seq_k (fun K884 hK884 => WP.block (WP.seq_k (fun K885 hK885 => WP.region Tt_ok (O_cons (O_read rfl (R_move rfl (P_some rfl (O_cons (O_read rfl (R_assign rfl (P_some rfl ?_)))))))))))))
      refine O_nil (hK885 _ _ _ (WP.seq_k (fun K886 hK886 => ?_)))
      obtain ⟨o887, h887, hb881⟩ := obind hb881
      refine WP.cutK (fun fr_ μ_ L_ => ∃ (v5 : Bool), v5 = o887 ∧ SubFr [(8, .slice A3 r6.length c3), (12, .slice A4 r12.length c4), (101, .int .i64 ((r12.length : Nat) : Int)), (102, .int .i64 v4), (161, .bool v5)] fr_ ∧ SegSub (ch2 :: ch3 :: L) L_ ∧ μ = μ_) ?_ ?_
      · refine WP.drawn (id := 18) (l' := List.replicate 57 true) wide Tt_ok _ Kept.refl [(true, 0), (true, 1), (true, 2), (true, 3), (true, 4), (true, 5), (true, 6), (true, 7), (true, 8), (true, 9), (true, 10), (true, 11), (true, 12), (true, 13), (true, 14), (true, 15), (true, 16), (true, 17), (true, 18), (true, 19), (true, 20), (true, 21), (true, 22), (true, 23), (true, 24), (true, 25), (true, 26), (true, 27), (true, 28), (true, 29), (true, 30), (true, 31), (true, 32), (true, 33), (true, 34), (true, 35), (true, 36), (true, 37), (true, 38), (true, 39), (true, 40), (true, 41), (true, 42), (true, 43), (true, 44), (true, 45), (true, 46), (true, 47), (true, 48), (true, 49), (true, 50), (true, 51), (true, 52), (true, 53), (true, 54), (true, 55), (true, 56)] (by kernel_rfl) (by kernel_rfl) rfl ?_
        refine PL_t rfl (R_move rfl (P_some rfl (PL_t rfl (R_move rfl (P_some rfl (PL_t rfl ?_))))))
        obtain ⟨x1, hx13, h887⟩ := obind h887
        obtain ⟨a1, cs1, hA2, hr1, _, hc13⟩ := Rds.getI (Own.rds (L := (ch2 :: ch3 :: L)) hO3 1 rfl) hx13
        obtain rfl := hr1
        refine R_iaG rfl rfl rfl rfl rfl rfl ⟨(getI_lt hx13).1, (getI_lt hx13).2.1⟩ hA2 (P_some rfl (PL_t rfl (R_faz rfl rfl rfl rfl rfl (P_some rfl (PL_t rfl (R_load rfl rfl rfl (Ex.mk _ (Cell.of_cells0 (hc13) rfl) (P_some rfl (PL_t rfl (R_move rfl (P_some rfl (PL_t rfl (R_move rfl ?_)))))))))))))
        refine P_some rfl (PL_t rfl ?_)
        obtain ⟨x2, hx14, h887⟩ := obind h887
        obtain ⟨a2, cs2, hA3, hr2, _, hc14⟩ := Rds.getI (Own.rds (L := (ch2 :: ch3 :: L)) hO2 0 rfl) hx14
        obtain rfl := hr2
        refine R_iaG rfl rfl rfl rfl rfl rfl ⟨(getI_lt hx14).1, (getI_lt hx14).2.1⟩ hA3 (P_some rfl (PL_t rfl (R_faz rfl rfl rfl rfl rfl (P_some rfl (PL_t rfl (R_load rfl rfl rfl (Ex.mk _ (Cell.of_cells0 (hc14) rfl) (P_some rfl (PL_t rfl (R_neqD rfl rfl (P_some rfl (PL_t rfl (R_move rfl ?_)))))))))))))
        apply P_some; exact rfl
        refine PL_tv (z := !(decide (x1.Bill = x2.Bill))) rfl rfl rfl (fun hc15 => ?_) (fun hc15 => ?_)
        · replace h887 := cond_f hc15 h887
          refine R_move rfl (P_some rfl (PL_tY rfl rfl rfl hc15 (R_move rfl (P_some rfl (PL_tY rfl rfl rfl hc15 ?_)))))
          obtain ⟨x3, hx15, h887⟩ := obind h887
          obtain ⟨a3, cs3, hA4, hr3, _, hc16⟩ := Rds.getI (Own.rds (L := (ch2 :: ch3 :: L)) hO3 1 rfl) hx15
          obtain rfl := hr3
          refine R_iaG rfl rfl rfl rfl rfl rfl ⟨(getI_lt hx15).1, (getI_lt hx15).2.1⟩ hA4 (P_some rfl (PL_tY rfl rfl rfl hc15 (R_fa rfl rfl rfl rfl rfl (P_some rfl (PL_tY rfl rfl rfl hc15 (R_load rfl rfl rfl (Ex.mk _ (Cell.of_cells (hc16) 1 rfl) (P_some rfl (PL_tY rfl rfl rfl hc15 (R_move rfl (P_some rfl (PL_tY rfl rfl rfl hc15 (R_move rfl ?_)))))))))))))
          refine P_some rfl (PL_tY rfl rfl rfl hc15 ?_)
          obtain ⟨x4, hx16, h887⟩ := obind h887
          obtain ⟨a4, cs4, hA5, hr4, _, hc17⟩ := Rds.getI (Own.rds (L := (ch2 :: ch3 :: L)) hO2 0 rfl) hx16
          obtain rfl := hr4
          refine R_iaG rfl rfl rfl rfl rfl rfl ⟨(getI_lt hx16).1, (getI_lt hx16).2.1⟩ hA5 (P_some rfl (PL_tY rfl rfl rfl hc15 (R_fa rfl rfl rfl rfl rfl (P_some rfl (PL_tY rfl rfl rfl hc15 (R_load rfl rfl rfl (Ex.mk _ (Cell.of_cells (hc17) 1 rfl) (P_some rfl (PL_tY rfl rfl rfl hc15 (R_neqD rfl rfl (P_some rfl (PL_t rfl (R_pick_F rfl hc15 rfl ?_)))))))))))))
          refine P_some rfl (PL_t rfl (R_move rfl (P_some rfl ?_)))
          refine PL_tv (z := !(decide (x3.Due = x4.Due))) rfl rfl rfl (fun hc18 => ?_) (fun hc18 => ?_)
          · replace h887 := cond_f hc18 h887
            refine R_move rfl (P_some rfl (PL_tY rfl rfl rfl hc18 (R_move rfl (P_some rfl (PL_tY rfl rfl rfl hc18 ?_)))))
            obtain ⟨x5, hx17, h887⟩ := obind h887
            obtain ⟨a5, cs5, hA6, hr5, _, hc19⟩ := Rds.getI (Own.rds (L := (ch2 :: ch3 :: L)) hO3 1 rfl) hx17
            obtain rfl := hr5
            refine R_iaG rfl rfl rfl rfl rfl rfl ⟨(getI_lt hx17).1, (getI_lt hx17).2.1⟩ hA6 (P_some rfl (PL_tY rfl rfl rfl hc18 (R_fa rfl rfl rfl rfl rfl (P_some rfl (PL_tY rfl rfl rfl hc18 (R_load rfl rfl rfl (Ex.mk _ (Cell.of_cells (hc19) 2 rfl) (P_some rfl (PL_tY rfl rfl rfl hc18 (R_move rfl (P_some rfl (PL_tY rfl rfl rfl hc18 (R_move rfl ?_)))))))))))))
            refine P_some rfl (PL_tY rfl rfl rfl hc18 ?_)
            obtain ⟨x6, hx18, h887⟩ := obind h887
            obtain ⟨a6, cs6, hA7, hr6, _, hc20⟩ := Rds.getI (Own.rds (L := (ch2 :: ch3 :: L)) hO2 0 rfl) hx18
            obtain rfl := hr6
            refine R_iaG rfl rfl rfl rfl rfl rfl ⟨(getI_lt hx18).1, (getI_lt hx18).2.1⟩ hA7 (P_some rfl (PL_tY rfl rfl rfl hc18 (R_fa rfl rfl rfl rfl rfl (P_some rfl (PL_tY rfl rfl rfl hc18 (R_load rfl rfl rfl (Ex.mk _ (Cell.of_cells (hc20) 2 rfl) (P_some rfl (PL_tY rfl rfl rfl hc18 (R_gtrD rfl rfl (P_some rfl (PL_t rfl (R_pick_F rfl hc18 rfl ?_)))))))))))))
            refine P_some rfl (PL_t rfl (R_move rfl (P_some rfl ?_)))
            refine PL_tv (z := (decide (x6.Rest < x5.Rest))) rfl rfl rfl (fun hc21 => ?_) (fun hc21 => ?_)
            · replace h887 := cond_f hc21 h887
              refine R_move rfl (P_some rfl (PL_tY rfl rfl rfl hc21 (R_move rfl (P_some rfl (PL_tY rfl rfl rfl hc21 (R_lenS rfl rfl rfl (P_some rfl (PL_tY rfl rfl rfl hc21 (R_sub rfl rfl (P_some rfl (PL_tY rfl rfl rfl hc21 (R_lssD rfl rfl (P_some rfl ?_)))))))))))))
              refine PL_tY rfl rfl rfl hc21 (R_move rfl (P_some rfl ?_))
              refine PL_tv (z := (decide (v4 < (w64 (((r12.length : Nat) : Int) - 1))))) rfl rfl rfl (fun hc22 => ?_) (fun hc22 => ?_)
              · replace h887 := cond_t hc22 h887
                refine R_move rfl (P_some rfl (PL_tY rfl rfl rfl hc22 (R_move rfl (P_some rfl (PL_tY rfl rfl rfl hc22 ?_)))))
                obtain ⟨x7, hx19, h887⟩ := obind h887
                obtain ⟨a7, cs7, hA8, hr7, _, hc23⟩ := Rds.getI (Own.rds (L := (ch2 :: ch3 :: L)) hO3 1 rfl) hx19
                obtain rfl := hr7
                refine R_iaG rfl rfl rfl rfl rfl rfl ⟨(getI_lt hx19).1, (getI_lt hx19).2.1⟩ hA8 (P_some rfl (PL_tY rfl rfl rfl hc22 (R_fa rfl rfl rfl rfl rfl (P_some rfl (PL_tY rfl rfl rfl hc22 (R_load rfl rfl rfl (Ex.mk _ (Cell.of_cells (hc23) 2 rfl) (P_some rfl (PL_tY rfl rfl rfl hc22 (R_move rfl (P_some rfl (PL_tY rfl rfl rfl hc22 (R_move rfl ?_)))))))))))))
                refine P_some rfl (PL_tY rfl rfl rfl hc22 ?_)
                obtain ⟨x8, hx20, h887⟩ := obind h887
                obtain ⟨a8, cs8, hA9, hr8, _, hc24⟩ := Rds.getI (Own.rds (L := (ch2 :: ch3 :: L)) hO2 0 rfl) hx20
                obtain rfl := hr8
                refine R_iaG rfl rfl rfl rfl rfl rfl ⟨(getI_lt hx20).1, (getI_lt hx20).2.1⟩ hA9 (P_some rfl (PL_tY rfl rfl rfl hc22 (R_fa rfl rfl rfl rfl rfl (P_some rfl (PL_tY rfl rfl rfl hc22 (R_load rfl rfl rfl (Ex.mk _ (Cell.of_cells (hc24) 2 rfl) (P_some rfl (PL_tY rfl rfl rfl hc22 (R_neqD rfl rfl (P_some rfl (PL_tY rfl rfl rfl hc21 (R_pick_T rfl hc22 rfl ?_)))))))))))))
                refine P_some rfl (PL_t rfl (R_pick_F rfl hc21 rfl (P_some rfl (PL_nil (AN.done0 (by kernel_rfl) ?_)))))
                have e_ := Option.some.inj h887
                subst e_
                exact ⟨!(decide (x7.Rest = x8.Rest)), rfl, SubFr.of ⟨rfl, rfl, rfl, rfl, rfl, trivial⟩, SegSub.sel _ [some 0, some 1] 2, rfl⟩
              replace h887 := cond_f hc22 h887
              refine P_some rfl (PL_tN rfl rfl rfl hc22 (P_some rfl (PL_tN rfl rfl rfl hc22 (P_some rfl (PL_tN rfl rfl rfl hc22 (P_some rfl (PL_tN rfl rfl rfl hc22 (P_some rfl (PL_tN rfl rfl rfl hc22 (P_some rfl (PL_tN rfl rfl rfl hc22 (P_some rfl (PL_tN rfl rfl rfl hc22 ?_)))))))))))))
              refine P_some rfl (PL_tN rfl rfl rfl hc22 (P_some rfl (PL_tN rfl rfl rfl hc22 (P_some rfl (PL_tN rfl rfl rfl hc22 (P_some rfl (PL_tY rfl rfl rfl hc21 (R_pick_F rfl hc22 rfl (P_some rfl (PL_t rfl (R_pick_F rfl hc21 rfl (P_some rfl (PL_nil ?_)))))))))))))
              apply AN.done0; kernel_rfl
              have e_ := Option.some.inj h887
              subst e_
              exact ⟨false, rfl, SubFr.of ⟨rfl, rfl, rfl, rfl, rfl, trivial⟩, SegSub.sel _ [some 0, some 1] 2, rfl⟩
            replace h887 := cond_t hc21 h887
            refine P_some rfl (PL_tN rfl rfl rfl hc21 (P_some rfl (PL_tN rfl rfl rfl hc21 (P_some rfl (PL_tN rfl rfl rfl hc21 (P_some rfl (PL_tN rfl rfl rfl hc21 (P_some rfl (PL_tN rfl rfl rfl hc21 (P_some rfl (PL_tu rfl rfl rfl (P_some rfl (PL_tu rfl rfl rfl ?_)))))))))))))
            refine P_some rfl (PL_tu rfl rfl rfl (P_some rfl (PL_tu rfl rfl rfl (P_some rfl (PL_tu rfl rfl rfl (P_some rfl (PL_tu rfl rfl rfl (P_some rfl (PL_tu rfl rfl rfl (P_some rfl (PL_tu rfl rfl rfl (P_some rfl (PL_tu rfl rfl rfl ?_)))))))))))))
            refine P_some rfl (PL_tu rfl rfl rfl (P_some rfl (PL_tu rfl rfl rfl (P_some rfl (PL_tN rfl rfl rfl hc21 (P_some rfl (PL_t rfl (R_pick_T rfl hc21 rfl (P_some rfl (PL_nil (AN.done0 (by kernel_rfl) ?_)))))))))))
            have e_ := Option.some.inj h887
            subst e_
            exact ⟨true, rfl, SubFr.of ⟨rfl, rfl, rfl, rfl, rfl, trivial⟩, SegSub.sel _ [some 0, some 1] 2, rfl⟩
          replace h887 := cond_t hc18 h887
          refine P_some rfl (PL_tN rfl rfl rfl hc18 (P_some rfl (PL_tN rfl rfl rfl hc18 (P_some rfl (PL_tN rfl rfl rfl hc18 (P_some rfl (PL_tN rfl rfl rfl hc18 (P_some rfl (PL_tN rfl rfl rfl hc18 (P_some rfl (PL_tN rfl rfl rfl hc18 (P_some rfl (PL_tN rfl rfl rfl hc18 ?_)))))))))))))
          refine P_some rfl (PL_tN rfl rfl rfl hc18 (P_some rfl (PL_tN rfl rfl rfl hc18 (P_some rfl (PL_tN rfl rfl rfl hc18 (P_some rfl (PL_t rfl (R_pick_T rfl hc18 rfl (P_some rfl (PL_t rfl (R_move rfl (P_some rfl (PL_tN rfl rfl rfl rfl ?_)))))))))))))
          refine P_some rfl (PL_tN rfl rfl rfl rfl (P_some rfl (PL_tN rfl rfl rfl rfl (P_some rfl (PL_tN rfl rfl rfl rfl (P_some rfl (PL_tN rfl rfl rfl rfl (P_some rfl (PL_tN rfl rfl rfl rfl (P_some rfl (PL_tu rfl rfl rfl (P_some rfl (PL_tu rfl rfl rfl ?_)))))))))))))
          refine P_some rfl (PL_tu rfl rfl rfl (P_some rfl (PL_tu rfl rfl rfl (P_some rfl (PL_tu rfl rfl rfl (P_some rfl (PL_tu rfl rfl rfl (P_some rfl (PL_tu rfl rfl rfl (P_some rfl (PL_tu rfl rfl rfl (P_some rfl (PL_tu rfl rfl rfl ?_)))))))))))))
          refine P_some rfl (PL_tu rfl rfl rfl (P_some rfl (PL_tu rfl rfl rfl (P_some rfl (PL_tN rfl rfl rfl rfl (P_some rfl (PL_t rfl (R_pick_T rfl rfl rfl (P_some rfl (PL_nil (AN.done0 (by kernel_rfl) ?_)))))))))))
          have e_ := Option.some.inj h887
          subst e_
          exact ⟨true, rfl, SubFr.of ⟨rfl, rfl, rfl, rfl, rfl, trivial⟩, SegSub.sel _ [some 0, some 1] 2, rfl⟩
        replace h887 := cond_t hc15 h887
        refine P_some rfl (PL_tN rfl rfl rfl hc15 (P_some rfl (PL_tN rfl rfl rfl hc15 (P_some rfl (PL_tN rfl rfl rfl hc15 (P_some rfl (PL_tN rfl rfl rfl hc15 (P_some rfl (PL_tN rfl rfl rfl hc15 (P_some rfl (PL_tN rfl rfl rfl hc15 (P_some rfl (PL_tN rfl rfl rfl hc15 ?_)))))))))))))
        refine P_some rfl (PL_tN rfl rfl rfl hc15 (P_some rfl (PL_tN rfl rfl rfl hc15 (P_some rfl (PL_tN rfl rfl rfl hc15 (P_some rfl (PL_t rfl (R_pick_T rfl hc15 rfl (P_some rfl (PL_t rfl (R_move rfl (P_some rfl (PL_tN rfl rfl rfl rfl ?_)))))))))))))
        refine P_some rfl (PL_tN rfl rfl rfl rfl (P_some rfl (PL_tN rfl rfl rfl rfl (P_some rfl (PL_tN rfl rfl rfl rfl (P_some rfl (PL_tN rfl rfl rfl rfl (P_some rfl (PL_tN rfl rfl rfl rfl (P_some rfl (PL_tN rfl rfl rfl rfl (P_some rfl (PL_tN rfl rfl rfl rfl ?_)))))))))))))
        refine P_some rfl (PL_tN rfl rfl rfl rfl (P_some rfl (PL_tN rfl rfl rfl rfl (P_some rfl (PL_tN rfl rfl rfl rfl (P_some rfl (PL_t rfl (R_pick_T rfl rfl rfl (P_some rfl (PL_t rfl (R_move rfl (P_some rfl (PL_tN rfl rfl rfl rfl ?_)))))))))))))
        refine P_some rfl (PL_tN rfl rfl rfl rfl (P_some rfl (PL_tN rfl rfl rfl rfl (P_some rfl (PL_tN rfl rfl rfl rfl (P_some rfl (PL_tN rfl rfl rfl rfl (P_some rfl (PL_tN rfl rfl rfl rfl (P_some rfl (PL_tu rfl rfl rfl (P_some rfl (PL_tu rfl rfl rfl ?_)))))))))))))
        refine P_some rfl (PL_tu rfl rfl rfl (P_some rfl (PL_tu rfl rfl rfl (P_some rfl (PL_tu rfl rfl rfl (P_some rfl (PL_tu rfl rfl rfl (P_some rfl (PL_tu rfl rfl rfl (P_some rfl (PL_tu rfl rfl rfl (P_some rfl (PL_tu rfl rfl rfl ?_)))))))))))))
        refine P_some rfl (PL_tu rfl rfl rfl (P_some rfl (PL_tu rfl rfl rfl (P_some rfl (PL_tN rfl rfl rfl rfl (P_some rfl (PL_t rfl (R_pick_T rfl rfl rfl (P_some rfl (PL_nil (AN.done0 (by kernel_rfl) ?_)))))))))))
        have e_ := Option.some.inj h887
        subst e_
        exact ⟨true, rfl, SubFr.of ⟨rfl, rfl, rfl, rfl, rfl, trivial⟩, SegSub.sel _ [some 0, some 1] 2, rfl⟩
      rintro fr887 μ887 L887 hm887 ⟨v5, ho887, hF887, hS887, hu887⟩
      subst ho887
      subst hu887
      refine hK886 _ _ _ (WP.at hF887 hS887 ?_)
      refine W_cond_v (b := v5) rfl (fun hc25 => ?_) (fun hc25 => ?_)
      · replace hb881 := cond_t hc25 hb881
        refine WP.seq_k (fun K888 hK888 => WP.region Tt_ok (O_cons (O_read rfl (R_assign rfl (P_some rfl (O_nil (hK888 _ _ _ (WP.ret ?_))))))))
        have e_ := Option.some.inj hb881
        subst e_
        have hq_ := hq881 _ rfl
        subst hq_
        replace h := osum_r h
        have e_ := Option.some.inj h
        subst e_
        refine S_tmp rfl (S_nil (Upd.selS [] 2 ?_))
        exact Upd.done hR
      replace hb881 := cond_f hc25 hb881
      refine WP.skip (hK884 _ _ _ (WP.region Tt_ok (O_cons (O_read rfl (R_add rfl rfl (P_some rfl (O_cons (O_read rfl (R_move rfl (P_some rfl (O_nil ?_)))))))))))
      have e_ := Option.some.inj hb881
      subst e_
      exact ⟨_, rfl, SubFr.of ⟨rfl, rfl, rfl, rfl, trivial⟩, SegSub.sel _ [some 0, some 1] 2, rfl⟩
    replace hb881 := cond_f hc12 hb881
    refine WP.exit (B_here ?_)
    have e_ := Option.some.inj hb881
    subst e_
    have hq_ := hq881 _ rfl
    subst hq_
    exact ⟨rfl, SubFr.of trivial, SegSub.sel _ [] 2, rfl⟩
  rintro fr872 μ872 L872 hm872 ⟨ho872, hF872, hS872, hu872⟩
  subst ho872
  replace h := osum_l h
  subst hu872
  refine hK870 _ _ _ (WP.at hF872 hS872 (WP.seq_k (fun K889 hK889 => WP.region Tt_ok (O_cons (O_call (all := []) rfl rfl rfl ?_)))))
  obtain ⟨r23, hx21, h⟩ := obind h
  refine recyclinglaw56_awake_fn  hx21 ((P_some rfl (O_cons (O_read rfl (R_assign rfl (P_some rfl (O_nil (hK889 _ _ _ (WP.ret ?_)))))))))
  have e_ := Option.some.inj h
  subst e_
  refine S_tmp rfl (S_nil (Upd.selS [] 0 ?_))
  exact Upd.done hR

end Go.Proofs.Yticcfpmehjcjcaa
