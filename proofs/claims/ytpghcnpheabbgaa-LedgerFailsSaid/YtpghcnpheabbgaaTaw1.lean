/- Printed by gen.py of this repo: the walks that tie the functions to their specifications. -/
import Derived.Laws.StructEq
import Derived.Test.YtpghcnpheabbgaaTt
import Derived.Test.YtpghcnpheabbgaaTas
import Derived.Test.YtpghcnpheabbgaaGc
import Derived.Test.YtpghcnpheabbgaaGd
import Derived.Test.YtpghcnpheabbgaaGk
import Derived.Test.YtpghcnpheabbgaaGm
import Derived.Test.YtpghcnpheabbgaaGs
import Derived.Test.YtpghcnpheabbgaaGv
import Derived.Test.YtpghcnpheabbgaaGx
import Derived.Test.YtpghcnpheabbgaaSh
namespace Go.Proofs.Ytpghcnpheabbgaa
open Go.RowKit
set_option linter.unusedSimpArgs false
set_option linter.unusedVariables false
attribute [local irreducible] WP SemOk SemU Fn AN Upd vcR vcO vcOps vcPlan putK fillK resK inBlk forkOne Cell StAt Kept

theorem eqRun_T_api_Line (a b : T_api_Line) : PureRun Try.prog (do eqGuard .eql 49 (.tmp 0) (.tmp 0) (.agg #[.int .i64 a.Account, .int .i64 a.Amount]) (.agg #[.int .i64 b.Account, .int .i64 b.Amount]); binOp .eql 49 (.agg #[.int .i64 a.Account, .int .i64 a.Amount]) (.agg #[.int .i64 b.Account, .int .i64 b.Amount])) (.bool (decide (a = b))) := by
  obtain ⟨x0, x1⟩ := a
  obtain ⟨y0, y1⟩ := b
  intro w
  rw [Sem.run_bind, run_eqGuard_agg w _ _ _ _ _ _ (by kernel_rfl), Result.andThen_ok]
  simp only [binOp, Op.equal, Op.maxDepth, Sem.run_bind]
  rw [run_equalIn_struct w 9999 _ _ _ (by kernel_rfl) (by kernel_rfl)]
  by_cases h0 : x0 = y0 <;> by_cases h1 : x1 = y1 <;> simp [Program.fieldsOf, Try.underlying49, go_sem, h0, h1]

theorem neRun_T_api_Line (a b : T_api_Line) : PureRun Try.prog (do eqGuard .neq 49 (.tmp 0) (.tmp 0) (.agg #[.int .i64 a.Account, .int .i64 a.Amount]) (.agg #[.int .i64 b.Account, .int .i64 b.Amount]); binOp .neq 49 (.agg #[.int .i64 a.Account, .int .i64 a.Amount]) (.agg #[.int .i64 b.Account, .int .i64 b.Amount])) (.bool (!(decide (a = b)))) := by
  obtain ⟨x0, x1⟩ := a
  obtain ⟨y0, y1⟩ := b
  intro w
  rw [Sem.run_bind, run_eqGuard_agg w _ _ _ _ _ _ (by kernel_rfl), Result.andThen_ok]
  simp only [binOp, Op.equal, Op.maxDepth, Sem.run_bind]
  rw [run_equalIn_struct w 9999 _ _ _ (by kernel_rfl) (by kernel_rfl)]
  by_cases h0 : x0 = y0 <;> by_cases h1 : x1 = y1 <;> simp [Program.fieldsOf, Try.underlying49, go_sem, h0, h1]
theorem ledger_New_fn {μ : Gh} {L : List Seg} {R : Value → Gh → List Seg → Prop}    {res1 : T_ledger_Ledger}
     (h : ledger_New = some res1)
    (hR : ∀ (v0 : Value) (so0 : Seg), Obj_ledger_Ledger μ v0 res1 so0 → R (v0) μ (so0 :: L)) :
    Fn Try.prog 15 [] μ (L) R := by
  unfold ledger_New at h
  refine Fn.of_body Tt_ok Try.func15 (by kernel_rfl) rfl Try.ntmps15 (by simp) ?_
  simp only [Try.f15, argFr, List.zipIdx, List.map, Nat.reduceAdd]
  refine WP.seq_k (fun K9 hK9 => WP.region Tt_ok (O_cons (O_read rfl (R_assign rfl (P_some rfl (O_nil (hK9 _ _ _ (WP.seq_k (fun K10 hK10 => WP.region Tt_ok (O_cons (O_mkmap (fun g1 => P_some rfl (O_cons ?_)))))))))))))
  refine O_read rfl (R_build rfl rfl rfl rfl (F_cons (cells' := [.slice none 0 0, .map (some g1)]) rfl rfl rfl rfl (F_nil (P_some rfl (O_cons (O_box (cs := #[.slice none 0 0, .map (some g1)]) rfl rfl (fun g2 => P_some rfl (O_cons (O_read rfl (R_assign rfl (P_some rfl (O_nil (hK10 _ _ _ ?_)))))))))))))
  apply WP.ret
  have e_ := Option.some.inj h
  subst e_
  refine S_tmp rfl (S_nil (Upd.seg (L2 := (((g2, Obj.cells #[.slice none 0 0, .map (some g1)] 60 (0, 0)) :: ([] ++ ((g1, Obj.map #[] 0) :: []))) :: L)) (SegSub.trans (SegSub.flat (by simp [selS])) (SegSub.sel _ [some 0, some 1] 2)) ?_))
  exact Upd.done (hR (.pointer (some ⟨g2, 0, none⟩)) ((g2, Obj.cells #[.slice none 0 0, .map (some g1)] 60 (0, 0)) :: ([] ++ ((g1, Obj.map #[] 0) :: []))) (⟨g2, none, 0, [], g1, #[], 0, rfl, rfl, Own.nil, (MapB.nil (enc := (Value.int .i64)))⟩))

theorem recyclinglaw48_pay_fn {μ : Gh} {L : List Seg} {R : Value → Gh → List Seg → Prop}  {id1 : Int} {f_at1 : Int} {f_from1 : Int} {f_to1 : Int} {amount1 : Int}  {res1 : T_api_Posting}
     (h : recyclinglaw48_pay id1 f_at1 f_from1 f_to1 amount1 = some res1)
    (hR : ∀ (μ' : Gh) (A0_2 : Option Addr) (c0_2 : Nat), μ.le μ' → (res1.Lines.length ≤ c0_2 ∧ c0_2 ≤ maxLen) → ArrR r_api_Line μ' A0_2 res1.Lines → R (.agg #[.int .i64 res1.ID, .int .i64 res1.At, .slice A0_2 res1.Lines.length c0_2]) μ' (L)) :
    Fn Try.prog 28 [.int .i64 id1, .int .i64 f_at1, .int .i64 f_from1, .int .i64 f_to1, .int .i64 amount1] μ (L) R := by
  unfold recyclinglaw48_pay at h
  refine Fn.of_body Tt_ok Try.func28 (by kernel_rfl) rfl Try.ntmps28 (by simp) ?_
  simp only [Try.f28, argFr, List.zipIdx, List.map, Nat.reduceAdd]
  refine WP.seq_k (fun K26 hK26 => WP.region Tt_ok (O_cons (O_alloc (cs := #[.int .i64 0, .int .i64 0, .slice none 0 0]) rfl rfl (fun g1 => P_some rfl (O_nil (hK26 _ _ _ (WP.seq_k (fun K29 hK29 => WP.region Tt_ok (O_cons (O_read rfl (R_move rfl (P_some rfl (O_cons ?_)))))))))))))
  refine O_read rfl (R_move rfl (P_some rfl (O_cons (O_read rfl (R_move rfl (P_some rfl (O_cons (O_read rfl (R_move rfl (P_some rfl (O_cons (O_read rfl (R_build rfl rfl rfl rfl ?_)))))))))))))
  refine F_cons (cells' := [.int .i64 f_to1, .int .i64 0]) rfl rfl rfl rfl (F_cons (cells' := [.int .i64 f_to1, .int .i64 amount1]) rfl rfl rfl rfl (F_nil (P_some rfl (O_cons (O_read rfl (R_move rfl (P_some rfl (O_cons (O_read rfl (R_move rfl (P_some rfl (O_cons (O_read rfl ?_)))))))))))))
  refine R_neg rfl (P_some rfl (O_cons (O_read rfl (R_build rfl rfl rfl rfl (F_cons (cells' := [.int .i64 f_from1, .int .i64 0]) rfl rfl rfl rfl (F_cons (cells' := [.int .i64 f_from1, .int .i64 (w64 (0 - amount1))]) rfl rfl rfl rfl (F_nil (P_some rfl (O_cons (O_bsl (z := [.int .i64 0, .int .i64 0, .int .i64 0, .int .i64 0]) rfl rfl rfl rfl rfl rfl rfl (F_cons (cells' := [.int .i64 f_to1, .int .i64 amount1, .int .i64 0, .int .i64 0]) rfl rfl rfl rfl (F_cons (cells' := [.int .i64 f_to1, .int .i64 amount1, .int .i64 f_from1, .int .i64 (w64 (0 - amount1))]) rfl rfl rfl rfl (F_nil (fun g2 => ?_))))))))))))))
  refine P_some rfl (O_cons (O_read rfl (R_build rfl rfl rfl rfl (F_cons (cells' := [.int .i64 id1, .int .i64 0, .slice none 0 0]) rfl rfl rfl rfl (F_cons (cells' := [.int .i64 id1, .int .i64 f_at1, .slice none 0 0]) rfl rfl rfl rfl (F_cons (cells' := [.int .i64 id1, .int .i64 f_at1, .slice (some ⟨g2, 0, none⟩) 2 2]) rfl rfl rfl rfl (F_nil (P_some rfl (O_cons (O_store (vs := [.int .i64 id1, .int .i64 f_at1, .slice (some ⟨g2, 0, none⟩) 2 2]) rfl rfl rfl rfl rfl rfl (ST_ (L' := ([(g2, .cells #[.int .i64 f_to1, .int .i64 amount1, .int .i64 f_from1, .int .i64 (w64 (0 - amount1))] 49 (0, 0))] :: [(g1, .cells #[.int .i64 id1, .int .i64 f_at1, .slice (some ⟨g2, 0, none⟩) 2 2] 24 (0, 0))] :: L)) 1 0 rfl rfl rfl rfl ?_)))))))))))
  refine P_none (O_nil (hK29 _ _ _ (WP.ret ?_)))
  have e_ := Option.some.inj h
  subst e_
  refine S_cell rfl rfl rfl rfl (LA_ (vs := [.int .i64 id1, .int .i64 f_at1, .slice (some ⟨g2, 0, none⟩) 2 2]) 1 0 rfl rfl rfl rfl (S_nil ?_))
  have hl1 : [(T_api_Line.mk f_to1 amount1), (T_api_Line.mk f_from1 (w64 (0 - amount1)))].length ≤ 2 ∧ 2 ≤ maxLen := ⟨Nat.le_refl _, by unfold maxLen; omega⟩
  refine Upd.frzOwn 0 rfl (Own.lit (r := r_api_Line) (e := 49) (g := g2) (xs := [(T_api_Line.mk f_to1 amount1), (T_api_Line.mk f_from1 (w64 (0 - amount1)))]) (cs := [.int .i64 f_to1, .int .i64 amount1, .int .i64 f_from1, .int .i64 (w64 (0 - amount1))]) (css := [[.int .i64 f_to1, .int .i64 amount1], [.int .i64 f_from1, .int .i64 (w64 (0 - amount1))]]) rfl (All2.cons (rfl) (All2.cons (rfl) (All2.nil))) rfl rfl) fun v1 hm_1 hA1 => Upd.selS [] 2 ?_
  exact Upd.done (hR _ (some ⟨g2, 0, none⟩) 2 (hm_1) (hl1) (hA1))

theorem ledger_line_fn {μ : Gh} {L : List Seg} {R : Value → Gh → List Seg → Prop}  {x1 : T_api_Line}  {res1 : Bool}
     (h : ledger_line x1 = some res1)
    (hR : R (.bool res1) μ (L)) :
    Fn Try.prog 30 [.agg #[.int .i64 x1.Account, .int .i64 x1.Amount]] μ (L) R := by
  unfold ledger_line at h
  refine Fn.of_body Tt_ok Try.func30 (by kernel_rfl) rfl Try.ntmps30 (by simp) ?_
  simp only [Try.f30, argFr, List.zipIdx, List.map, Nat.reduceAdd]
  refine WP.seq_k (fun K87 hK87 => WP.region Tt_ok (O_cons (O_box (cs := #[.int .i64 x1.Account, .int .i64 x1.Amount]) rfl rfl (fun g1 => P_some rfl (O_cons (O_read rfl (R_assign rfl (P_some rfl (O_nil (hK87 _ _ _ (WP.seq_k (fun K89 hK89 => ?_))))))))))))
  obtain ⟨o90, h90, h⟩ := obind h
  refine WP.cutK (fun fr_ μ_ L_ => ∃ (v1 : Bool), v1 = o90 ∧ SubFr [(2, .bool v1)] fr_ ∧ SegSub (L) L_ ∧ μ = μ_) ?_ ?_
  · refine WP.region Tt_ok (O_cons (O_read rfl (R_fa0 (o' := 0) rfl rfl rfl rfl rfl rfl (P_some rfl (O_cons (O_read rfl (R_load rfl rfl rfl (Ex.mk _ (Cell.seg 0 0 rfl rfl rfl) (P_some rfl (O_cons (O_read rfl (R_geqD rfl rfl (P_some rfl ?_)))))))))))))
    refine O_cons (O_read rfl (R_move rfl (P_some rfl ?_)))
    refine O_gv (z := (decide (0 ≤ x1.Account))) rfl rfl (fun hc1 => ?_) (fun hc1 => ?_)
    · replace h90 := cond_t hc1 h90
      refine O_read rfl (R_fa0 (o' := 0) rfl rfl rfl rfl rfl rfl (P_some rfl (O_gY rfl rfl hc1 (O_read rfl (R_load rfl rfl rfl (Ex.mk _ (Cell.seg 0 0 rfl rfl rfl) (P_some rfl (O_gY rfl rfl hc1 (O_read rfl (R_leqD rfl rfl (P_some rfl (O_cons (O_read rfl ?_)))))))))))))
      refine R_pick_T rfl hc1 rfl (P_some rfl (O_cons (O_read rfl (R_move rfl (P_some rfl ?_)))))
      refine O_gv (z := (decide (x1.Account ≤ 1000000))) rfl rfl (fun hc2 => ?_) (fun hc2 => ?_)
      · replace h90 := cond_t hc2 h90
        refine O_read rfl (R_fa0 (o' := 1) rfl rfl rfl rfl rfl rfl (P_some rfl (O_gY rfl rfl hc2 (O_read rfl (R_load rfl rfl rfl (Ex.mk _ (Cell.seg 0 0 rfl rfl rfl) (P_some rfl (O_gY rfl rfl hc2 (O_read rfl (R_neqD rfl rfl (P_some rfl (O_cons (O_read rfl ?_)))))))))))))
        refine R_pick_T rfl hc2 rfl (P_some rfl (O_cons (O_read rfl (R_move rfl (P_some rfl ?_)))))
        refine O_gv (z := !(decide (x1.Amount = 0))) rfl rfl (fun hc3 => ?_) (fun hc3 => ?_)
        · replace h90 := cond_t hc3 h90
          refine O_read rfl (R_fa0 (o' := 1) rfl rfl rfl rfl rfl rfl (P_some rfl (O_gY rfl rfl hc3 (O_read rfl (R_load rfl rfl rfl (Ex.mk _ (Cell.seg 0 0 rfl rfl rfl) (P_some rfl (O_gY rfl rfl hc3 (O_read rfl (R_geqD rfl rfl (P_some rfl (O_cons (O_read rfl ?_)))))))))))))
          refine R_pick_T rfl hc3 rfl (P_some rfl (O_cons (O_read rfl (R_move rfl (P_some rfl ?_)))))
          refine O_gv (z := (decide ((-1000000000000) ≤ x1.Amount))) rfl rfl (fun hc4 => ?_) (fun hc4 => ?_)
          · replace h90 := cond_t hc4 h90
            refine O_read rfl (R_fa0 (o' := 1) rfl rfl rfl rfl rfl rfl (P_some rfl (O_gY rfl rfl hc4 (O_read rfl (R_load rfl rfl rfl (Ex.mk _ (Cell.seg 0 0 rfl rfl rfl) (P_some rfl (O_gY rfl rfl hc4 (O_read rfl (R_leqD rfl rfl (P_some rfl (O_cons (O_read rfl ?_)))))))))))))
            refine R_pick_T rfl hc4 rfl (P_some rfl (O_cons (O_read rfl (R_assign rfl (P_some rfl (O_nil ?_))))))
            have e_ := Option.some.inj h90
            subst e_
            exact ⟨(decide (x1.Amount ≤ 1000000000000)), rfl, SubFr.of ⟨rfl, trivial⟩, SegSub.sel _ [] 1, rfl⟩
          replace h90 := cond_f hc4 h90
          refine P_some rfl (O_gN rfl rfl hc4 (P_some rfl (O_gN rfl rfl hc4 (P_some rfl (O_cons (O_read rfl (R_pick_F rfl hc4 rfl (P_some rfl (O_cons (O_read rfl (R_assign rfl (P_some rfl (O_nil ?_)))))))))))))
          have e_ := Option.some.inj h90
          subst e_
          exact ⟨false, rfl, SubFr.of ⟨rfl, trivial⟩, SegSub.sel _ [] 1, rfl⟩
        replace h90 := cond_f hc3 h90
        refine P_some rfl (O_gN rfl rfl hc3 (P_some rfl (O_gN rfl rfl hc3 (P_some rfl (O_cons (O_read rfl (R_pick_F rfl hc3 rfl (P_some rfl (O_cons (O_read rfl (R_move rfl (P_some rfl (O_gN rfl rfl rfl ?_)))))))))))))
        refine P_some rfl (O_gN rfl rfl rfl (P_some rfl (O_gN rfl rfl rfl (P_some rfl (O_cons (O_read rfl (R_pick_F rfl rfl rfl (P_some rfl (O_cons (O_read rfl (R_assign rfl (P_some rfl (O_nil ?_)))))))))))))
        have e_ := Option.some.inj h90
        subst e_
        exact ⟨false, rfl, SubFr.of ⟨rfl, trivial⟩, SegSub.sel _ [] 1, rfl⟩
      replace h90 := cond_f hc2 h90
      refine P_some rfl (O_gN rfl rfl hc2 (P_some rfl (O_gN rfl rfl hc2 (P_some rfl (O_cons (O_read rfl (R_pick_F rfl hc2 rfl (P_some rfl (O_cons (O_read rfl (R_move rfl (P_some rfl (O_gN rfl rfl rfl ?_)))))))))))))
      refine P_some rfl (O_gN rfl rfl rfl (P_some rfl (O_gN rfl rfl rfl (P_some rfl (O_cons (O_read rfl (R_pick_F rfl rfl rfl (P_some rfl (O_cons (O_read rfl (R_move rfl (P_some rfl (O_gN rfl rfl rfl ?_)))))))))))))
      refine P_some rfl (O_gN rfl rfl rfl (P_some rfl (O_gN rfl rfl rfl (P_some rfl (O_cons (O_read rfl (R_pick_F rfl rfl rfl (P_some rfl (O_cons (O_read rfl (R_assign rfl (P_some rfl (O_nil ?_)))))))))))))
      have e_ := Option.some.inj h90
      subst e_
      exact ⟨false, rfl, SubFr.of ⟨rfl, trivial⟩, SegSub.sel _ [] 1, rfl⟩
    replace h90 := cond_f hc1 h90
    refine P_some rfl (O_gN rfl rfl hc1 (P_some rfl (O_gN rfl rfl hc1 (P_some rfl (O_cons (O_read rfl (R_pick_F rfl hc1 rfl (P_some rfl (O_cons (O_read rfl (R_move rfl (P_some rfl (O_gN rfl rfl rfl ?_)))))))))))))
    refine P_some rfl (O_gN rfl rfl rfl (P_some rfl (O_gN rfl rfl rfl (P_some rfl (O_cons (O_read rfl (R_pick_F rfl rfl rfl (P_some rfl (O_cons (O_read rfl (R_move rfl (P_some rfl (O_gN rfl rfl rfl ?_)))))))))))))
    refine P_some rfl (O_gN rfl rfl rfl (P_some rfl (O_gN rfl rfl rfl (P_some rfl (O_cons (O_read rfl (R_pick_F rfl rfl rfl (P_some rfl (O_cons (O_read rfl (R_move rfl (P_some rfl (O_gN rfl rfl rfl ?_)))))))))))))
    refine P_some rfl (O_gN rfl rfl rfl (P_some rfl (O_gN rfl rfl rfl (P_some rfl (O_cons (O_read rfl (R_pick_F rfl rfl rfl (P_some rfl (O_cons (O_read rfl (R_assign rfl (P_some rfl (O_nil ?_)))))))))))))
    have e_ := Option.some.inj h90
    subst e_
    exact ⟨false, rfl, SubFr.of ⟨rfl, trivial⟩, SegSub.sel _ [] 1, rfl⟩
  rintro fr90 μ90 L90 hm90 ⟨v1, ho90, hF90, hS90, hu90⟩
  subst ho90
  subst hu90
  refine hK89 _ _ _ (WP.at hF90 hS90 (WP.ret ?_))
  have e_ := Option.some.inj h
  subst e_
  refine S_tmp rfl (S_nil (Upd.selS [] 0 ?_))
  exact Upd.done hR

theorem ledger_Check_fn {μ : Gh} {L : List Seg} {R : Value → Gh → List Seg → Prop}  {p1 : T_api_Posting} {A1 : Option Addr} {c1 : Nat} {res1 : Int}
    (hl1 : p1.Lines.length ≤ c1 ∧ c1 ≤ maxLen) (hA1 : ArrR r_api_Line μ A1 p1.Lines) (h : ledger_Check p1 = some res1)
    (hR : R (.int .i64 res1) μ (L)) :
    Fn Try.prog 12 [.agg #[.int .i64 p1.ID, .int .i64 p1.At, .slice A1 p1.Lines.length c1]] μ (L) R := by
  unfold ledger_Check at h
  refine Fn.of_body Tt_ok Try.func12 (by kernel_rfl) rfl Try.ntmps12 (by simp) ?_
  simp only [Try.f12, argFr, List.zipIdx, List.map, Nat.reduceAdd]
  refine WP.seq_k (fun K59 hK59 => WP.region Tt_ok (O_cons (O_box (cs := #[.int .i64 p1.ID, .int .i64 p1.At, .slice A1 p1.Lines.length c1]) rfl rfl (fun g1 => P_some rfl (O_cons (O_read rfl (R_assign rfl (P_some rfl (O_nil (hK59 _ _ _ (WP.seq_k (fun K61 hK61 => WP.seq_k (fun K62 hK62 => ?_)))))))))))))
  obtain ⟨o63, h63, h⟩ := obind h
  refine WP.cutK (fun fr_ μ_ L_ => ∃ (v1 : Bool), v1 = o63 ∧ SubFr [(1, .pointer (some ⟨g1, 0, none⟩)), (23, .bool v1)] fr_ ∧ SegSub ([(g1, .cells #[.int .i64 p1.ID, .int .i64 p1.At, .slice A1 p1.Lines.length c1] 24 (0, 0))] :: L) L_ ∧ μ = μ_) ?_ ?_
  · refine WP.region Tt_ok (O_cons (O_read rfl (R_fa0 (o' := 0) rfl rfl rfl rfl rfl rfl (P_some rfl (O_cons (O_read rfl (R_load rfl rfl rfl (Ex.mk _ (Cell.seg 0 0 rfl rfl rfl) (P_some rfl (O_cons (O_read rfl (R_lssD rfl rfl (P_some rfl ?_)))))))))))))
    refine O_cons (O_read rfl (R_move rfl (P_some rfl ?_)))
    refine O_gv (z := (decide (p1.ID < 1))) rfl rfl (fun hc1 => ?_) (fun hc1 => ?_)
    · replace h63 := cond_f hc1 h63
      refine O_read rfl (R_fa0 (o' := 0) rfl rfl rfl rfl rfl rfl (P_some rfl (O_gY rfl rfl hc1 (O_read rfl (R_load rfl rfl rfl (Ex.mk _ (Cell.seg 0 0 rfl rfl rfl) (P_some rfl (O_gY rfl rfl hc1 (O_read rfl (R_gtrD rfl rfl (P_some rfl (O_cons (O_read rfl ?_)))))))))))))
      refine R_pick_F rfl hc1 rfl (P_some rfl (O_cons (O_read rfl (R_move rfl (P_some rfl ?_)))))
      refine O_gv (z := (decide (1000000 < p1.ID))) rfl rfl (fun hc2 => ?_) (fun hc2 => ?_)
      · replace h63 := cond_f hc2 h63
        refine O_read rfl (R_fa0 (o' := 1) rfl rfl rfl rfl rfl rfl (P_some rfl (O_gY rfl rfl hc2 (O_read rfl (R_load rfl rfl rfl (Ex.mk _ (Cell.seg 0 0 rfl rfl rfl) (P_some rfl (O_gY rfl rfl hc2 (O_read rfl (R_lssD rfl rfl (P_some rfl (O_cons (O_read rfl ?_)))))))))))))
        refine R_pick_F rfl hc2 rfl (P_some rfl (O_cons (O_read rfl (R_move rfl (P_some rfl ?_)))))
        refine O_gv (z := (decide (p1.At < 0))) rfl rfl (fun hc3 => ?_) (fun hc3 => ?_)
        · replace h63 := cond_f hc3 h63
          refine O_read rfl (R_fa0 (o' := 1) rfl rfl rfl rfl rfl rfl (P_some rfl (O_gY rfl rfl hc3 (O_read rfl (R_load rfl rfl rfl (Ex.mk _ (Cell.seg 0 0 rfl rfl rfl) (P_some rfl (O_gY rfl rfl hc3 (O_read rfl (R_gtrD rfl rfl (P_some rfl (O_cons (O_read rfl ?_)))))))))))))
          refine R_pick_F rfl hc3 rfl (P_some rfl (O_nil ?_))
          have e_ := Option.some.inj h63
          subst e_
          exact ⟨(decide (3155759999 < p1.At)), rfl, SubFr.of ⟨rfl, rfl, trivial⟩, SegSub.sel _ [some 0] 1, rfl⟩
        replace h63 := cond_t hc3 h63
        refine P_some rfl (O_gN rfl rfl hc3 (P_some rfl (O_gN rfl rfl hc3 (P_some rfl (O_cons (O_read rfl (R_pick_T rfl hc3 rfl (P_some rfl (O_nil ?_)))))))))
        have e_ := Option.some.inj h63
        subst e_
        exact ⟨true, rfl, SubFr.of ⟨rfl, rfl, trivial⟩, SegSub.sel _ [some 0] 1, rfl⟩
      replace h63 := cond_t hc2 h63
      refine P_some rfl (O_gN rfl rfl hc2 (P_some rfl (O_gN rfl rfl hc2 (P_some rfl (O_cons (O_read rfl (R_pick_T rfl hc2 rfl (P_some rfl (O_cons (O_read rfl (R_move rfl (P_some rfl (O_gN rfl rfl rfl ?_)))))))))))))
      refine P_some rfl (O_gN rfl rfl rfl (P_some rfl (O_gN rfl rfl rfl (P_some rfl (O_cons (O_read rfl (R_pick_T rfl rfl rfl (P_some rfl (O_nil ?_)))))))))
      have e_ := Option.some.inj h63
      subst e_
      exact ⟨true, rfl, SubFr.of ⟨rfl, rfl, trivial⟩, SegSub.sel _ [some 0] 1, rfl⟩
    replace h63 := cond_t hc1 h63
    refine P_some rfl (O_gN rfl rfl hc1 (P_some rfl (O_gN rfl rfl hc1 (P_some rfl (O_cons (O_read rfl (R_pick_T rfl hc1 rfl (P_some rfl (O_cons (O_read rfl (R_move rfl (P_some rfl (O_gN rfl rfl rfl ?_)))))))))))))
    refine P_some rfl (O_gN rfl rfl rfl (P_some rfl (O_gN rfl rfl rfl (P_some rfl (O_cons (O_read rfl (R_pick_T rfl rfl rfl (P_some rfl (O_cons (O_read rfl (R_move rfl (P_some rfl (O_gN rfl rfl rfl ?_)))))))))))))
    refine P_some rfl (O_gN rfl rfl rfl (P_some rfl (O_gN rfl rfl rfl (P_some rfl (O_cons (O_read rfl (R_pick_T rfl rfl rfl (P_some rfl (O_nil ?_)))))))))
    have e_ := Option.some.inj h63
    subst e_
    exact ⟨true, rfl, SubFr.of ⟨rfl, rfl, trivial⟩, SegSub.sel _ [some 0] 1, rfl⟩
  rintro fr63 μ63 L63 hm63 ⟨v1, ho63, hF63, hS63, hu63⟩
  subst ho63
  subst hu63
  refine hK62 _ _ _ (WP.at hF63 hS63 ?_)
  refine W_cond_v (b := v1) rfl (fun hc4 => ?_) (fun hc4 => ?_)
  · replace h := cond_t hc4 h
    refine WP.seq_k (fun K66 hK66 => WP.region Tt_ok (O_cons (O_read rfl (R_assign rfl (P_some rfl (O_nil (hK66 _ _ _ (WP.ret ?_))))))))
    have e_ := Option.some.inj h
    subst e_
    refine S_tmp rfl (S_nil (Upd.selS [] 1 ?_))
    exact Upd.done hR
  replace h := cond_f hc4 h
  refine WP.skip (hK61 _ _ _ (WP.seq_k (fun K67 hK67 => WP.seq_k (fun K68 hK68 => WP.region Tt_ok (O_cons (O_read rfl (R_fa0 (o' := 2) rfl rfl rfl rfl rfl rfl (P_some rfl (O_cons (O_read rfl (R_load rfl rfl rfl (Ex.mk _ (Cell.seg 0 0 rfl rfl rfl) (P_some rfl ?_)))))))))))))
  refine O_cons (O_read rfl (R_lenS rfl rfl rfl (P_some rfl (O_cons (O_read rfl (R_gtrD rfl rfl (P_some rfl (O_nil (hK68 _ _ _ ?_)))))))))
  refine W_cond_v (b := (decide (16 < ((p1.Lines.length : Nat) : Int)))) rfl (fun hc5 => ?_) (fun hc5 => ?_)
  · replace h := cond_t hc5 h
    refine WP.seq_k (fun K69 hK69 => WP.region Tt_ok (O_cons (O_read rfl (R_assign rfl (P_some rfl (O_nil (hK69 _ _ _ (WP.ret ?_))))))))
    have e_ := Option.some.inj h
    subst e_
    refine S_tmp rfl (S_nil (Upd.selS [] 1 ?_))
    exact Upd.done hR
  replace h := cond_f hc5 h
  refine WP.skip (hK67 _ _ _ (WP.seq_k (fun K70 hK70 => WP.seq_k (fun K71 hK71 => WP.region Tt_ok (O_cons (O_read rfl (R_fa0 (o' := 2) rfl rfl rfl rfl rfl rfl (P_some rfl (O_cons (O_read rfl (R_load rfl rfl rfl (Ex.mk _ (Cell.seg 0 0 rfl rfl rfl) (P_some rfl ?_)))))))))))))
  refine O_cons (O_read rfl (R_lenS rfl rfl rfl (P_some rfl (O_cons (O_read rfl (R_lssD rfl rfl (P_some rfl (O_nil (hK71 _ _ _ ?_)))))))))
  refine W_cond_v (b := (decide (((p1.Lines.length : Nat) : Int) < 2))) rfl (fun hc6 => ?_) (fun hc6 => ?_)
  · replace h := cond_t hc6 h
    refine WP.seq_k (fun K72 hK72 => WP.region Tt_ok (O_cons (O_read rfl (R_assign rfl (P_some rfl (O_nil (hK72 _ _ _ (WP.ret ?_))))))))
    have e_ := Option.some.inj h
    subst e_
    refine S_tmp rfl (S_nil (Upd.selS [] 1 ?_))
    exact Upd.done hR
  replace h := cond_f hc6 h
  refine WP.skip (hK70 _ _ _ (WP.seq_k (fun K73 hK73 => WP.region Tt_ok (O_cons (O_read rfl (R_assign rfl (P_some rfl (O_nil (hK73 _ _ _ (WP.seq_k (fun K74 hK74 => WP.seq_k (fun K75 hK75 => WP.region Tt_ok (O_cons ?_)))))))))))))
  refine O_read rfl (R_fa0 (o' := 2) rfl rfl rfl rfl rfl rfl (P_some rfl (O_cons (O_read rfl (R_load rfl rfl rfl (Ex.mk _ (Cell.seg 0 0 rfl rfl rfl) (P_some rfl (O_cons (O_read rfl (R_lenS rfl rfl rfl (P_some rfl (O_cons (O_read rfl ?_)))))))))))))
  refine R_move rfl (P_some rfl (O_nil (hK75 _ _ _ ?_)))
  obtain ⟨o76, h76, h⟩ := obind h
  refine WP.cutK (fun fr_ μ_ L_ => ∃ (sum2 : Int), (.inl sum2) = o76 ∧ SubFr [(3, .int .i64 sum2)] fr_ ∧ SegSub (L) L_ ∧ μ = μ_) ?_ ?_
  · refine WP.block (WP.iter h76 (fun (j_ : Int × Int) fr_ μ_ L_ => ounP j_ fun sum1 v2 => SubFr [(3, .int .i64 sum1), (33, .slice A1 p1.Lines.length c1), (34, .int .i64 ((p1.Lines.length : Nat) : Int)), (35, .int .i64 v2)] fr_ ∧ SegSub (L) L_ ∧ μ = μ_) ⟨SubFr.of ⟨rfl, rfl, rfl, rfl, trivial⟩, SegSub.sel _ [] 1, rfl⟩ ?_)
    rintro ⟨sum1, v2⟩ q92 fr92 μ92 L92 hm92 ⟨hF92, hS92, hu92⟩ hb92 hq92
    unfold ledger_Check_l1 at hb92
    replace hb92 := oun_mk hb92
    subst hu92
    refine WP.at hF92 hS92 (WP.seq_k (fun K94 hK94 => WP.region Tt_ok (O_cons (O_read rfl (R_lssD rfl rfl (P_some rfl (O_nil (hK94 _ _ _ (WP.seq_k (fun K95 hK95 => ?_))))))))))
    refine W_cond_v (b := (decide (v2 < ((p1.Lines.length : Nat) : Int)))) rfl (fun hc7 => ?_) (fun hc7 => ?_)
    · replace hb92 := cond_t hc7 hb92
      refine WP.skip (hK95 _ _ _ (WP.seq_k (fun K96 hK96 => WP.block (WP.seq_k (fun K97 hK97 => WP.region Tt_ok (O_cons ?_))))))
      obtain ⟨x1, hx1, hb92⟩ := obind hb92
      obtain ⟨a1, cs1, hA2, hr1, _, hc8⟩ := Rds.getI (ArrR.rds hA1 L) hx1
      obtain rfl := hr1
      refine O_read rfl (R_iaG rfl rfl rfl rfl rfl rfl ⟨(getI_lt hx1).1, (getI_lt hx1).2.1⟩ hA2 (P_some rfl (O_cons (O_read rfl (R_loadA rfl rfl rfl rfl (Ex.mk [.int .i64 x1.Account, .int .i64 x1.Amount] ⟨rfl, hc8⟩ (P_some rfl (O_cons (O_alloc (cs := #[.int .i64 0, .int .i64 0]) rfl rfl (fun g2 => P_some rfl (O_cons (O_store (vs := [.int .i64 x1.Account, .int .i64 x1.Amount]) rfl rfl rfl rfl rfl rfl (ST_ (L' := ([(g2, .cells #[.int .i64 x1.Account, .int .i64 x1.Amount] 49 (0, 0))] :: L)) 0 0 rfl rfl rfl rfl ?_)))))))))))))
      refine P_none (O_nil (hK97 _ _ _ (WP.seq_k (fun K100 hK100 => WP.seq_k (fun K101 hK101 => WP.region Tt_ok (O_cons (O_read rfl (R_loadA rfl rfl rfl rfl (LA_ (vs := [.int .i64 x1.Account, .int .i64 x1.Amount]) 0 0 rfl rfl rfl rfl (P_some rfl (O_cons (O_call (all := [.agg #[.int .i64 x1.Account, .int .i64 x1.Amount]]) rfl rfl rfl ?_))))))))))))
      obtain ⟨r1, hx2, hb92⟩ := obind hb92
      refine ledger_line_fn  hx2 ((P_some rfl (O_cons (O_read rfl (R_not rfl (P_some rfl (O_nil (hK101 _ _ _ ?_))))))))
      refine W_cond_v (b := !r1) rfl (fun hc9 => ?_) (fun hc9 => ?_)
      · replace hb92 := cond_t hc9 hb92
        refine WP.seq_k (fun K102 hK102 => WP.region Tt_ok (O_cons (O_read rfl (R_assign rfl (P_some rfl (O_nil (hK102 _ _ _ (WP.ret ?_))))))))
        have e_ := Option.some.inj hb92
        subst e_
        have hq_ := hq92 _ rfl
        subst hq_
        replace h := osum_r h
        have e_ := Option.some.inj h
        subst e_
        refine S_tmp rfl (S_nil (Upd.selS [] 1 ?_))
        exact Upd.done hR
      replace hb92 := cond_f hc9 hb92
      refine WP.skip (hK100 _ _ _ (WP.region Tt_ok (O_cons (O_read rfl (R_move rfl (P_some rfl (O_cons (O_read rfl (R_fa0 (o' := 1) rfl rfl rfl rfl rfl rfl (P_some rfl (O_cons (O_read rfl (R_load rfl rfl rfl ?_)))))))))))))
      refine Ex.mk _ (Cell.seg 0 0 rfl rfl rfl) (P_some rfl (O_cons (O_read rfl (R_add rfl rfl (P_some rfl (O_cons (O_read rfl (R_assign rfl (P_some rfl (O_nil (hK96 _ _ _ (WP.region Tt_ok (O_cons ?_)))))))))))))
      refine O_read rfl (R_add rfl rfl (P_some rfl (O_cons (O_read rfl (R_move rfl (P_some rfl (O_nil ?_)))))))
      have e_ := Option.some.inj hb92
      subst e_
      exact ⟨_, rfl, SubFr.of ⟨rfl, rfl, rfl, rfl, trivial⟩, SegSub.sel _ [] 1, rfl⟩
    replace hb92 := cond_f hc7 hb92
    refine WP.exit (B_here ?_)
    have e_ := Option.some.inj hb92
    subst e_
    have hq_ := hq92 _ rfl
    subst hq_
    exact ⟨sum1, rfl, SubFr.of ⟨rfl, trivial⟩, SegSub.sel _ [] 0, rfl⟩
  rintro fr76 μ76 L76 hm76 ⟨sum2, ho76, hF76, hS76, hu76⟩
  subst ho76
  replace h := osum_l h
  subst hu76
  refine hK74 _ _ _ (WP.at hF76 hS76 (WP.seq_k (fun K103 hK103 => WP.seq_k (fun K104 hK104 => WP.region Tt_ok (O_cons (O_read rfl (R_move rfl (P_some rfl (O_cons (O_read rfl (R_neqD rfl rfl (P_some rfl (O_nil ?_)))))))))))))
  refine hK104 _ _ _ ?_
  refine W_cond_v (b := !(decide (sum2 = 0))) rfl (fun hc10 => ?_) (fun hc10 => ?_)
  · replace h := cond_t hc10 h
    refine WP.seq_k (fun K105 hK105 => WP.region Tt_ok (O_cons (O_read rfl (R_assign rfl (P_some rfl (O_nil (hK105 _ _ _ (WP.ret ?_))))))))
    have e_ := Option.some.inj h
    subst e_
    refine S_tmp rfl (S_nil (Upd.selS [] 0 ?_))
    exact Upd.done hR
  replace h := cond_f hc10 h
  refine WP.skip (hK103 _ _ _ (WP.seq_k (fun K106 hK106 => WP.region Tt_ok (O_cons (O_read rfl (R_assign rfl (P_some rfl (O_nil (hK106 _ _ _ (WP.ret ?_))))))))))
  have e_ := Option.some.inj h
  subst e_
  refine S_tmp rfl (S_nil (Upd.selS [] 0 ?_))
  exact Upd.done hR

theorem ledger_Ledger_accept_1_fn {μ : Gh} {L : List Seg} {R : Value → Gh → List Seg → Prop}  {q1 : T_api_Posting} {b1 : T_api_Posting} {A1 : Option Addr} {c1 : Nat} {g1 : Nat} {A2 : Option Addr} {c2 : Nat} {res1 : Bool}
    (hl1 : q1.Lines.length ≤ c1 ∧ c1 ≤ maxLen) (hA1 : ArrR r_api_Line μ A1 q1.Lines) (hl2 : b1.Lines.length ≤ c2 ∧ c2 ≤ maxLen) (hA2 : ArrR r_api_Line μ A2 b1.Lines) (h : ledger_Ledger_accept_1 q1 b1 = some res1)
    (hR : R (.bool res1) μ ([(g1, .cells #[.int .i64 b1.ID, .int .i64 b1.At, .slice A2 b1.Lines.length c2] 24 (0, 0))] :: L)) :
    Fn Try.prog 38 [.agg #[.int .i64 q1.ID, .int .i64 q1.At, .slice A1 q1.Lines.length c1], .pointer (some ⟨g1, 0, none⟩)] μ ([(g1, .cells #[.int .i64 b1.ID, .int .i64 b1.At, .slice A2 b1.Lines.length c2] 24 (0, 0))] :: L) R := by
  unfold ledger_Ledger_accept_1 at h
  refine Fn.of_body Tt_ok Try.func38 (by kernel_rfl) rfl Try.ntmps38 (by simp) ?_
  simp only [Try.f38, argFr, List.zipIdx, List.map, Nat.reduceAdd]
  refine WP.seq_k (fun K141 hK141 => WP.region Tt_ok (O_cons (O_box (cs := #[.int .i64 q1.ID, .int .i64 q1.At, .slice A1 q1.Lines.length c1]) rfl rfl (fun g2 => P_some rfl (O_cons (O_read rfl (R_assign rfl (P_some rfl (O_nil (hK141 _ _ _ (WP.seq_k (fun K143 hK143 => WP.region Tt_ok (O_cons ?_)))))))))))))
  refine O_read rfl (R_fa0 (o' := 0) rfl rfl rfl rfl rfl rfl (P_some rfl (O_cons (O_read rfl (R_load rfl rfl rfl (Ex.mk _ (Cell.seg 0 0 rfl rfl rfl) (P_some rfl (O_cons (O_read rfl (R_fa0 (o' := 0) rfl rfl rfl rfl rfl rfl (P_some rfl (O_cons (O_read rfl ?_)))))))))))))
  refine R_load rfl rfl rfl (Ex.mk _ (Cell.seg 1 0 rfl rfl rfl) (P_some rfl (O_cons (O_read rfl (R_eqlD rfl rfl (P_some rfl (O_cons (O_read rfl (R_assign rfl (P_some rfl (O_nil (hK143 _ _ _ (WP.ret ?_)))))))))))))
  have e_ := Option.some.inj h
  subst e_
  refine S_tmp rfl (S_nil (Upd.seg (L2 := ([(g1, .cells #[.int .i64 b1.ID, .int .i64 b1.At, .slice A2 b1.Lines.length c2] 24 (0, 0))] :: L)) (SegSub.trans (SegSub.flat (by simp [selS])) (SegSub.sel _ [some 1] 2)) ?_))
  exact Upd.done hR

theorem slices_IndexFunc_Posting_c38_fn {μ : Gh} {L : List Seg} {R : Value → Gh → List Seg → Prop}  {s1 : (List T_api_Posting)} {b1 : T_api_Posting} {A1 : Option Addr} {c1 : Nat} {g1 : Nat} {A2 : Option Addr} {c2 : Nat} {res1 : Int}
    (hl1 : s1.length ≤ c1 ∧ c1 ≤ maxLen) (hA1 : Rds r_api_Posting μ L A1 s1) (hl2 : b1.Lines.length ≤ c2 ∧ c2 ≤ maxLen) (hA2 : ArrR r_api_Line μ A2 b1.Lines) (h : slices_IndexFunc_Posting_c38 s1 b1 = some res1)
    (hR : R (.int .i64 res1) μ ([(g1, .cells #[.int .i64 b1.ID, .int .i64 b1.At, .slice A2 b1.Lines.length c2] 24 (0, 0))] :: L)) :
    Fn Try.prog 44 [.slice A1 s1.length c1, .func (.func 38) #[] #[.pointer (some ⟨g1, 0, none⟩)]] μ ([(g1, .cells #[.int .i64 b1.ID, .int .i64 b1.At, .slice A2 b1.Lines.length c2] 24 (0, 0))] :: L) R := by
  unfold slices_IndexFunc_Posting_c38 at h
  refine Fn.of_body Tt_ok Try.func44 (by kernel_rfl) rfl Try.ntmps44 (by simp) ?_
  simp only [Try.f44, argFr, List.zipIdx, List.map, Nat.reduceAdd]
  refine WP.seq_k (fun K124 hK124 => WP.region Tt_ok (O_cons (O_read rfl (R_assign rfl (P_some rfl (O_nil (hK124 _ _ _ (WP.seq_k (fun K125 hK125 => WP.seq_k (fun K126 hK126 => WP.region Tt_ok (O_cons (O_read rfl (R_move rfl ?_)))))))))))))
  refine P_some rfl (O_cons (O_read rfl (R_lenS rfl rfl rfl (P_some rfl (O_cons (O_read rfl (R_move rfl (P_some rfl (O_nil (hK126 _ _ _ ?_))))))))))
  obtain ⟨o127, h127, h⟩ := obind h
  refine WP.cutK (fun fr_ μ_ L_ => (.inl ()) = o127 ∧ SubFr [] fr_ ∧ SegSub ([(g1, .cells #[.int .i64 b1.ID, .int .i64 b1.At, .slice A2 b1.Lines.length c2] 24 (0, 0))] :: L) L_ ∧ μ = μ_) ?_ ?_
  · refine WP.block (WP.iter h127 (fun (v1 : Int) fr_ μ_ L_ => SubFr [(0, .slice A1 s1.length c1), (1, .func (.func 38) #[] #[.pointer (some ⟨g1, 0, none⟩)]), (7, .int .i64 ((s1.length : Nat) : Int)), (8, .int .i64 v1)] fr_ ∧ SegSub ([(g1, .cells #[.int .i64 b1.ID, .int .i64 b1.At, .slice A2 b1.Lines.length c2] 24 (0, 0))] :: L) L_ ∧ μ = μ_) ⟨SubFr.of ⟨rfl, rfl, rfl, rfl, trivial⟩, SegSub.sel _ [some 0] 1, rfl⟩ ?_)
    rintro v1 q146 fr146 μ146 L146 hm146 ⟨hF146, hS146, hu146⟩ hb146 hq146
    unfold slices_IndexFunc_Posting_c38_l1 at hb146
    subst hu146
    refine WP.at hF146 hS146 (WP.seq_k (fun K150 hK150 => WP.region Tt_ok (O_cons (O_read rfl (R_lssD rfl rfl (P_some rfl (O_nil (hK150 _ _ _ (WP.seq_k (fun K151 hK151 => ?_))))))))))
    refine W_cond_v (b := (decide (v1 < ((s1.length : Nat) : Int)))) rfl (fun hc1 => ?_) (fun hc1 => ?_)
    · replace hb146 := cond_t hc1 hb146
      refine WP.skip (hK151 _ _ _ (WP.seq_k (fun K152 hK152 => WP.block (WP.seq_k (fun K153 hK153 => WP.region Tt_ok (O_cons (O_read rfl (R_move rfl (P_some rfl (O_cons (O_read rfl (R_assign rfl (P_some rfl ?_)))))))))))))
      refine O_nil (hK153 _ _ _ (WP.seq_k (fun K154 hK154 => WP.region Tt_ok (O_cons (O_read rfl (R_move rfl (P_some rfl (O_cons (O_read rfl (R_move rfl (P_some rfl (O_cons (O_read rfl ?_)))))))))))))
      refine R_move rfl (P_some rfl (O_cons ?_))
      obtain ⟨x1, hx1, hb146⟩ := obind hb146
      obtain ⟨a1, cs1, hA3, hr1, _, hc2⟩ := Rds.getI hA1 hx1
      obtain ⟨A3, c3, rfl, hl3, hA4⟩ := hr1
      refine O_read rfl (R_iaG rfl rfl rfl rfl rfl rfl ⟨(getI_lt hx1).1, (getI_lt hx1).2.1⟩ hA3 (P_some rfl (O_cons (O_read rfl (R_loadA rfl rfl rfl rfl (Ex.mk [.int .i64 x1.ID, .int .i64 x1.At, .slice A3 x1.Lines.length c3] ⟨rfl, (hc2.push)⟩ (P_some rfl (O_cons (O_call (all := [.agg #[.int .i64 x1.ID, .int .i64 x1.At, .slice A3 x1.Lines.length c3], .pointer (some ⟨g1, 0, none⟩)]) rfl rfl rfl ?_)))))))))
      obtain ⟨r1, hx2, hb146⟩ := obind hb146
      refine ledger_Ledger_accept_1_fn hl3 hA4 hl2 hA2 hx2 ((P_some rfl (O_nil (hK154 _ _ _ ?_))))
      refine W_cond_v (b := r1) rfl (fun hc3 => ?_) (fun hc3 => ?_)
      · replace hb146 := cond_t hc3 hb146
        refine WP.seq_k (fun K157 hK157 => WP.region Tt_ok (O_cons (O_read rfl (R_move rfl (P_some rfl (O_cons (O_read rfl (R_assign rfl (P_some rfl (O_nil (hK157 _ _ _ (WP.ret ?_))))))))))))
        have e_ := Option.some.inj hb146
        subst e_
        have hq_ := hq146 _ rfl
        subst hq_
        replace h := osum_r h
        have e_ := Option.some.inj h
        subst e_
        refine S_tmp rfl (S_nil (Upd.seg (L2 := ([(g1, .cells #[.int .i64 b1.ID, .int .i64 b1.At, .slice A2 b1.Lines.length c2] 24 (0, 0))] :: L)) (SegSub.trans (SegSub.flat (by simp [selS])) (SegSub.sel _ [some 0] 1)) ?_))
        exact Upd.done hR
      replace hb146 := cond_f hc3 hb146
      refine WP.skip (hK152 _ _ _ (WP.region Tt_ok (O_cons (O_read rfl (R_add rfl rfl (P_some rfl (O_cons (O_read rfl (R_move rfl (P_some rfl (O_nil ?_)))))))))))
      have e_ := Option.some.inj hb146
      subst e_
      exact ⟨_, rfl, SubFr.of ⟨rfl, rfl, rfl, rfl, trivial⟩, SegSub.sel _ [some 0] 1, rfl⟩
    replace hb146 := cond_f hc1 hb146
    refine WP.exit (B_here ?_)
    have e_ := Option.some.inj hb146
    subst e_
    have hq_ := hq146 _ rfl
    subst hq_
    exact ⟨rfl, SubFr.of trivial, SegSub.sel _ [some 0] 1, rfl⟩
  rintro fr127 μ127 L127 hm127 ⟨ho127, hF127, hS127, hu127⟩
  subst ho127
  replace h := osum_l h
  subst hu127
  refine hK125 _ _ _ (WP.at hF127 hS127 (WP.seq_k (fun K160 hK160 => WP.region Tt_ok (O_cons (O_read rfl (R_assign rfl (P_some rfl (O_nil (hK160 _ _ _ (WP.ret ?_))))))))))
  have e_ := Option.some.inj h
  subst e_
  refine S_tmp rfl (S_nil (Upd.seg (L2 := ([(g1, .cells #[.int .i64 b1.ID, .int .i64 b1.At, .slice A2 b1.Lines.length c2] 24 (0, 0))] :: L)) (SegSub.trans (SegSub.flat (by simp [selS])) (SegSub.sel _ [some 0] 1)) ?_))
  exact Upd.done hR

theorem slices_ContainsFunc_Posting_c38_fn {μ : Gh} {L : List Seg} {R : Value → Gh → List Seg → Prop}  {s1 : (List T_api_Posting)} {b1 : T_api_Posting} {A1 : Option Addr} {c1 : Nat} {g1 : Nat} {A2 : Option Addr} {c2 : Nat} {res1 : Bool}
    (hl1 : s1.length ≤ c1 ∧ c1 ≤ maxLen) (hA1 : Rds r_api_Posting μ L A1 s1) (hl2 : b1.Lines.length ≤ c2 ∧ c2 ≤ maxLen) (hA2 : ArrR r_api_Line μ A2 b1.Lines) (h : slices_ContainsFunc_Posting_c38 s1 b1 = some res1)
    (hR : R (.bool res1) μ ([(g1, .cells #[.int .i64 b1.ID, .int .i64 b1.At, .slice A2 b1.Lines.length c2] 24 (0, 0))] :: L)) :
    Fn Try.prog 37 [.slice A1 s1.length c1, .func (.func 38) #[] #[.pointer (some ⟨g1, 0, none⟩)]] μ ([(g1, .cells #[.int .i64 b1.ID, .int .i64 b1.At, .slice A2 b1.Lines.length c2] 24 (0, 0))] :: L) R := by
  unfold slices_ContainsFunc_Posting_c38 at h
  refine Fn.of_body Tt_ok Try.func37 (by kernel_rfl) rfl Try.ntmps37 (by simp) ?_
  simp only [Try.f37, argFr, List.zipIdx, List.map, Nat.reduceAdd]
  refine WP.seq_k (fun K119 hK119 => WP.region Tt_ok (O_cons (O_read rfl (R_assign rfl (P_some rfl (O_nil (hK119 _ _ _ (WP.seq_k (fun K120 hK120 => WP.region Tt_ok (O_cons (O_read rfl (R_move rfl (P_some rfl ?_)))))))))))))
  refine O_cons (O_read rfl (R_move rfl (P_some rfl (O_cons (O_call (all := [.slice A1 s1.length c1, .func (.func 38) #[] #[.pointer (some ⟨g1, 0, none⟩)]]) rfl rfl rfl ?_)))))
  obtain ⟨r1, hx1, h⟩ := obind h
  refine slices_IndexFunc_Posting_c38_fn hl1 hA1 hl2 hA2 hx1 ((P_some rfl (O_cons (O_read rfl (R_geqD rfl rfl (P_some rfl (O_cons (O_read rfl (R_assign rfl (P_some rfl (O_nil (hK120 _ _ _ (WP.ret ?_)))))))))))))
  have e_ := Option.some.inj h
  subst e_
  refine S_tmp rfl (S_nil (Upd.seg (L2 := ([(g1, .cells #[.int .i64 b1.ID, .int .i64 b1.At, .slice A2 b1.Lines.length c2] 24 (0, 0))] :: L)) (SegSub.trans (SegSub.flat (by simp [selS])) (SegSub.sel _ [some 0] 1)) ?_))
  exact Upd.done hR

theorem ledger_Ledger_accept_fn {μ : Gh} {L : List Seg} {R : Value → Gh → List Seg → Prop}  {l1 : T_ledger_Ledger} {p1 : T_api_Posting} {pv1 : Value} {so1 : Seg} {A1 : Option Addr} {c1 : Nat} {res1 : Int} {res2 : T_ledger_Ledger}
    (hP1 : Obj_ledger_Ledger μ pv1 l1 so1) (hl1 : p1.Lines.length ≤ c1 ∧ c1 ≤ maxLen) (hA1 : ArrR r_api_Line μ A1 p1.Lines) (h : ledger_Ledger_accept l1 p1 = some (res1, res2))
    (hR : ∀ (sp0 : Seg), Obj_ledger_Ledger μ pv1 res2 sp0 → R (.int .i64 res1) μ (sp0 :: L)) :
    Fn Try.prog 31 [pv1, .agg #[.int .i64 p1.ID, .int .i64 p1.At, .slice A1 p1.Lines.length c1]] μ (so1 :: L) R := by
  unfold ledger_Ledger_accept at h
  refine Fn.of_body Tt_ok Try.func31 (by kernel_rfl) rfl Try.ntmps31 (by simp) ?_
  simp only [Try.f31, argFr, List.zipIdx, List.map, Nat.reduceAdd]
  refine WP.seq_k (fun K184 hK184 => WP.region Tt_ok (O_cons (O_box (cs := #[.int .i64 p1.ID, .int .i64 p1.At, .slice A1 p1.Lines.length c1]) rfl rfl (fun g1 => P_some rfl (O_cons (O_read rfl (R_assign rfl (P_some rfl (O_nil (hK184 _ _ _ (WP.seq_k (fun K187 hK187 => WP.seq_k (fun K188 hK188 => WP.region Tt_ok ?_)))))))))))))
  refine O_cons (O_read rfl (R_loadA rfl rfl rfl rfl (LA_ (vs := [.int .i64 p1.ID, .int .i64 p1.At, .slice A1 p1.Lines.length c1]) 0 0 rfl rfl rfl rfl (P_some rfl (O_cons (O_call (all := [.agg #[.int .i64 p1.ID, .int .i64 p1.At, .slice A1 p1.Lines.length c1]]) rfl rfl rfl ?_))))))
  obtain ⟨r1, hx1, h⟩ := obind h
  refine ledger_Check_fn hl1 hA1 hx1 ((P_some rfl (O_cons (O_read rfl (R_assign rfl (P_some rfl (O_nil (hK188 _ _ _ (WP.seq_k (fun K189 hK189 => WP.region Tt_ok (O_cons (O_read rfl (R_move rfl (P_some rfl ?_))))))))))))))
  refine O_cons (O_read rfl (R_neqD rfl rfl (P_some rfl (O_nil (hK189 _ _ _ ?_)))))
  refine W_cond_v (b := !(decide (r1 = 0))) rfl (fun hc1 => ?_) (fun hc1 => ?_)
  · replace h := cond_t hc1 h
    refine WP.seq_k (fun K190 hK190 => WP.region Tt_ok (O_cons (O_read rfl (R_move rfl (P_some rfl (O_cons (O_read rfl (R_assign rfl (P_some rfl (O_nil (hK190 _ _ _ (WP.ret ?_))))))))))))
    have e_ := Option.some.inj h
    obtain ⟨e0a_, e0b_⟩ := Prod.mk.inj e_
    clear e_
    subst e0a_
    subst e0b_
    refine S_tmp rfl (S_nil (Upd.selS [some 1] 2 ?_))
    exact Upd.done (hR so1 (hP1))
  replace h := cond_f hc1 h
  refine WP.skip (hK187 _ _ _ (WP.seq_k (fun K191 hK191 => WP.seq_k (fun K192 hK192 => ?_))))
  obtain ⟨g2, A2, c2, ch1, g3, es1, cn1, hv1, rfl, hO1, hM1⟩ := hP1
  subst hv1
  refine WP.seg (L2 := ([(g1, .cells #[.int .i64 p1.ID, .int .i64 p1.At, .slice A1 p1.Lines.length c1] 24 (0, 0))] :: [(g2, .cells #[.slice A2 l1.postings.length c2, .map (some g3)] 60 (0, 0))] :: ch1 :: [(g3, .map es1 cn1)] :: L)) (SegSub.flat (by simp)) (WP.region Tt_ok (O_cons (O_read rfl (R_move rfl (P_some rfl (O_cons (O_read rfl (R_nilP rfl (P_some rfl (O_cons (O_read rfl (R_fa0 (o' := 0) rfl rfl rfl rfl rfl rfl (P_some rfl ?_)))))))))))))
  refine O_cons (O_read rfl (R_load rfl rfl rfl (Ex.mk _ (Cell.seg 1 0 rfl rfl rfl) (P_some rfl (O_cons (O_read rfl (R_mkf rfl rfl (P_some rfl (O_cons (O_call (all := [.slice A2 l1.postings.length c2, .func (.func 38) #[] #[.pointer (some ⟨g1, 0, none⟩)]]) rfl rfl rfl ?_))))))))))
  obtain ⟨r2, hx2, h⟩ := obind h
  refine slices_ContainsFunc_Posting_c38_fn (Own.lenOk hO1) (Own.rds (L := ([(g2, .cells #[.slice A2 l1.postings.length c2, .map (some g3)] 60 (0, 0))] :: ch1 :: [(g3, .map es1 cn1)] :: L)) hO1 1 rfl) hl1 hA1 hx2 ((P_some rfl (O_nil (hK192 _ _ _ ?_))))
  refine W_cond_v (b := r2) rfl (fun hc2 => ?_) (fun hc2 => ?_)
  · replace h := cond_t hc2 h
    refine WP.seq_k (fun K200 hK200 => WP.region Tt_ok (O_cons (O_read rfl (R_assign rfl (P_some rfl (O_nil (hK200 _ _ _ (WP.ret ?_))))))))
    have e_ := Option.some.inj h
    obtain ⟨e0a_, e0b_⟩ := Prod.mk.inj e_
    clear e_
    subst e0a_
    subst e0b_
    refine S_tmp rfl (S_nil (Upd.seg (L2 := (((g2, Obj.cells #[.slice A2 l1.postings.length c2, .map (some g3)] 60 (0, 0)) :: (ch1 ++ ((g3, Obj.map es1 cn1) :: []))) :: L)) (SegSub.trans (SegSub.flat (by simp [selS])) (SegSub.sel _ [some 1, some 2, some 3] 4)) ?_))
    exact Upd.done (hR ((g2, Obj.cells #[.slice A2 l1.postings.length c2, .map (some g3)] 60 (0, 0)) :: (ch1 ++ ((g3, Obj.map es1 cn1) :: []))) (⟨g2, A2, c2, ch1, g3, es1, cn1, rfl, rfl, hO1, hM1⟩))
  replace h := cond_f hc2 h
  refine WP.skip (hK191 _ _ _ (WP.seq_k (fun K201 hK201 => WP.region Tt_ok (O_cons (O_read rfl (R_move rfl (P_some rfl (O_cons (O_read rfl (R_nilP rfl (P_some rfl (O_cons (O_read rfl ?_)))))))))))))
  refine R_fa0 (o' := 0) rfl rfl rfl rfl rfl rfl (P_some rfl (O_cons (O_read rfl (R_load rfl rfl rfl (Ex.mk _ (Cell.seg 1 0 rfl rfl rfl) (P_some rfl (O_cons (O_read rfl (R_lenS rfl rfl rfl (P_some rfl (O_cons (O_read rfl (R_assign rfl ?_)))))))))))))
  refine P_some rfl (O_nil (hK201 _ _ _ (WP.seq_k (fun K202 hK202 => WP.seq_k (fun K203 hK203 => ?_)))))
  obtain ⟨o206, h206, h⟩ := obind h
  refine WP.cutK (fun fr_ μ_ L_ => ∃ (v1 : Bool), v1 = o206 ∧ SubFr [(6, .int .i64 ((l1.postings.length : Nat) : Int)), (38, .bool v1)] fr_ ∧ SegSub ([(g2, .cells #[.slice A2 l1.postings.length c2, .map (some g3)] 60 (0, 0))] :: ch1 :: [(g3, .map es1 cn1)] :: L) L_ ∧ μ = μ_) ?_ ?_
  · refine WP.drawn (id := 7) (l' := List.replicate 16 true) wide Tt_ok _ Kept.refl [(true, 0), (true, 1), (true, 2), (true, 3), (true, 4), (true, 5), (true, 6), (true, 7), (true, 8), (true, 9), (true, 10), (true, 11), (true, 12), (true, 13), (true, 14), (true, 15)] (by kernel_rfl) (by kernel_rfl) rfl (PL_t rfl (R_move rfl (P_some rfl (PL_t rfl (R_gtrD rfl rfl (P_some rfl (PL_t rfl (R_move rfl (P_some rfl ?_)))))))))
    refine PL_tv (z := (decide (0 < ((l1.postings.length : Nat) : Int)))) rfl rfl rfl (fun hc3 => ?_) (fun hc3 => ?_)
    · replace h206 := cond_t hc3 h206
      refine R_fa0 (o' := 1) rfl rfl rfl rfl rfl rfl (P_some rfl (PL_tY rfl rfl rfl hc3 (R_load rfl rfl rfl (Ex.mk _ (Cell.seg 0 0 rfl rfl rfl) (P_some rfl (PL_tY rfl rfl rfl hc3 (R_move rfl (P_some rfl (PL_tY rfl rfl rfl hc3 (R_nilP rfl (P_some rfl (PL_tY rfl rfl rfl hc3 (R_fa0 (o' := 0) rfl rfl rfl rfl rfl rfl ?_)))))))))))))
      refine P_some rfl (PL_tY rfl rfl rfl hc3 (R_load rfl rfl rfl (Ex.mk _ (Cell.seg 1 0 rfl rfl rfl) (P_some rfl (PL_tY rfl rfl rfl hc3 (R_move rfl (P_some rfl (PL_tY rfl rfl rfl hc3 (R_sub rfl rfl (P_some rfl (PL_tY rfl rfl rfl hc3 ?_)))))))))))
      obtain ⟨x1, hx3, h206⟩ := obind h206
      obtain ⟨a1, cs1, hA2, hr1, _, hc4⟩ := Rds.getI (Own.rds (L := ([(g1, .cells #[.int .i64 p1.ID, .int .i64 p1.At, .slice A1 p1.Lines.length c1] 24 (0, 0))] :: [(g2, .cells #[.slice A2 l1.postings.length c2, .map (some g3)] 60 (0, 0))] :: ch1 :: [(g3, .map es1 cn1)] :: L)) hO1 2 rfl) hx3
      obtain ⟨A3, c3, rfl, hl2, hA3⟩ := hr1
      refine R_iaG rfl rfl rfl rfl rfl rfl ⟨(getI_lt hx3).1, (getI_lt hx3).2.1⟩ hA2 (P_some rfl (PL_tY rfl rfl rfl hc3 (R_fa rfl rfl rfl rfl rfl (P_some rfl (PL_tY rfl rfl rfl hc3 (R_load rfl rfl rfl (Ex.mk _ (Cell.of_cells hc4 1 rfl) (P_some rfl (PL_tY rfl rfl rfl hc3 (R_lssD rfl rfl (P_some rfl (PL_t rfl (R_pick_T rfl hc3 rfl ?_)))))))))))))
      refine P_some rfl (PL_nil (AN.done0 (by kernel_rfl) ?_))
      have e_ := Option.some.inj h206
      subst e_
      exact ⟨(decide (p1.At < x1.At)), rfl, SubFr.of ⟨rfl, rfl, trivial⟩, SegSub.sel _ [some 1, some 2, some 3] 4, rfl⟩
    replace h206 := cond_f hc3 h206
    refine P_some rfl (PL_tN rfl rfl rfl hc3 (P_some rfl (PL_tN rfl rfl rfl hc3 (P_some rfl (PL_tN rfl rfl rfl hc3 (P_some rfl (PL_tN rfl rfl rfl hc3 (P_some rfl (PL_tN rfl rfl rfl hc3 (P_some rfl (PL_tN rfl rfl rfl hc3 (P_some rfl (PL_tN rfl rfl rfl hc3 ?_)))))))))))))
    refine P_some rfl (PL_tN rfl rfl rfl hc3 (P_some rfl (PL_tN rfl rfl rfl hc3 (P_some rfl (PL_tN rfl rfl rfl hc3 (P_some rfl (PL_tN rfl rfl rfl hc3 (P_some rfl (PL_t rfl (R_pick_F rfl hc3 rfl (P_some rfl (PL_nil (AN.done0 (by kernel_rfl) ?_)))))))))))))
    have e_ := Option.some.inj h206
    subst e_
    exact ⟨false, rfl, SubFr.of ⟨rfl, rfl, trivial⟩, SegSub.sel _ [some 1, some 2, some 3] 4, rfl⟩
  rintro fr206 μ206 L206 hm206 ⟨v1, ho206, hF206, hS206, hu206⟩
  subst ho206
  subst hu206
  refine hK203 _ _ _ (WP.at hF206 hS206 ?_)
  refine W_cond_v (b := v1) rfl (fun hc5 => ?_) (fun hc5 => ?_)
  · replace h := cond_t hc5 h
    refine WP.seq_k (fun K213 hK213 => WP.region Tt_ok (O_cons (O_read rfl (R_assign rfl (P_some rfl (O_nil (hK213 _ _ _ (WP.ret ?_))))))))
    have e_ := Option.some.inj h
    obtain ⟨e0a_, e0b_⟩ := Prod.mk.inj e_
    clear e_
    subst e0a_
    subst e0b_
    refine S_tmp rfl (S_nil (Upd.seg (L2 := (((g2, Obj.cells #[.slice A2 l1.postings.length c2, .map (some g3)] 60 (0, 0)) :: (ch1 ++ ((g3, Obj.map es1 cn1) :: []))) :: L)) (SegSub.trans (SegSub.flat (by simp [selS])) (SegSub.sel _ [some 0, some 1, some 2] 3)) ?_))
    exact Upd.done (hR ((g2, Obj.cells #[.slice A2 l1.postings.length c2, .map (some g3)] 60 (0, 0)) :: (ch1 ++ ((g3, Obj.map es1 cn1) :: []))) (⟨g2, A2, c2, ch1, g3, es1, cn1, rfl, rfl, hO1, hM1⟩))
  replace h := cond_f hc5 h
  refine WP.skip (hK202 _ _ _ (WP.seq_k (fun K214 hK214 => WP.seq_k (fun K215 hK215 => WP.region Tt_ok (O_cons (O_read rfl (R_move rfl (P_some rfl (O_cons (O_read rfl (R_geqD rfl rfl (P_some rfl (O_nil ?_)))))))))))))
  refine hK215 _ _ _ ?_
  refine W_cond_v (b := (decide (512 ≤ ((l1.postings.length : Nat) : Int)))) rfl (fun hc6 => ?_) (fun hc6 => ?_)
  · replace h := cond_t hc6 h
    refine WP.seq_k (fun K216 hK216 => WP.region Tt_ok (O_cons (O_read rfl (R_assign rfl (P_some rfl (O_nil (hK216 _ _ _ (WP.ret ?_))))))))
    have e_ := Option.some.inj h
    obtain ⟨e0a_, e0b_⟩ := Prod.mk.inj e_
    clear e_
    subst e0a_
    subst e0b_
    refine S_tmp rfl (S_nil (Upd.seg (L2 := (((g2, Obj.cells #[.slice A2 l1.postings.length c2, .map (some g3)] 60 (0, 0)) :: (ch1 ++ ((g3, Obj.map es1 cn1) :: []))) :: L)) (SegSub.trans (SegSub.flat (by simp [selS])) (SegSub.sel _ [some 0, some 1, some 2] 3)) ?_))
    exact Upd.done (hR ((g2, Obj.cells #[.slice A2 l1.postings.length c2, .map (some g3)] 60 (0, 0)) :: (ch1 ++ ((g3, Obj.map es1 cn1) :: []))) (⟨g2, A2, c2, ch1, g3, es1, cn1, rfl, rfl, hO1, hM1⟩))
  replace h := cond_f hc6 h
  refine WP.skip (hK214 _ _ _ (WP.seq_k (fun K217 hK217 => WP.region Tt_ok (O_cons (O_read rfl (R_assign rfl (P_some rfl (O_nil (hK217 _ _ _ (WP.ret ?_))))))))))
  have e_ := Option.some.inj h
  obtain ⟨e0a_, e0b_⟩ := Prod.mk.inj e_
  clear e_
  subst e0a_
  subst e0b_
  refine S_tmp rfl (S_nil (Upd.seg (L2 := (((g2, Obj.cells #[.slice A2 l1.postings.length c2, .map (some g3)] 60 (0, 0)) :: (ch1 ++ ((g3, Obj.map es1 cn1) :: []))) :: L)) (SegSub.trans (SegSub.flat (by simp [selS])) (SegSub.sel _ [some 0, some 1, some 2] 3)) ?_))
  exact Upd.done (hR ((g2, Obj.cells #[.slice A2 l1.postings.length c2, .map (some g3)] 60 (0, 0)) :: (ch1 ++ ((g3, Obj.map es1 cn1) :: []))) (⟨g2, A2, c2, ch1, g3, es1, cn1, rfl, rfl, hO1, hM1⟩))

theorem ledger_copied_fn {μ : Gh} {L : List Seg} {R : Value → Gh → List Seg → Prop}  {p1 : T_api_Posting} {A1 : Option Addr} {c1 : Nat} {res1 : T_api_Posting}
    (hl1 : p1.Lines.length ≤ c1 ∧ c1 ≤ maxLen) (hA1 : ArrR r_api_Line μ A1 p1.Lines) (h : ledger_copied p1 = some res1)
    (hR : ∀ (μ' : Gh) (A0_2 : Option Addr) (c0_2 : Nat), μ.le μ' → (res1.Lines.length ≤ c0_2 ∧ c0_2 ≤ maxLen) → ArrR r_api_Line μ' A0_2 res1.Lines → R (.agg #[.int .i64 res1.ID, .int .i64 res1.At, .slice A0_2 res1.Lines.length c0_2]) μ' (L)) :
    Fn Try.prog 34 [.agg #[.int .i64 p1.ID, .int .i64 p1.At, .slice A1 p1.Lines.length c1]] μ (L) R := by
  unfold ledger_copied at h
  refine Fn.of_body Tt_ok Try.func34 (by kernel_rfl) rfl Try.ntmps34 (by simp) ?_
  simp only [Try.f34, argFr, List.zipIdx, List.map, Nat.reduceAdd]
  refine WP.seq_k (fun K424 hK424 => WP.region Tt_ok (O_cons (O_box (cs := #[.int .i64 p1.ID, .int .i64 p1.At, .slice A1 p1.Lines.length c1]) rfl rfl (fun g1 => P_some rfl (O_cons (O_alloc (cs := #[.int .i64 0, .int .i64 0, .slice none 0 0]) rfl rfl (fun g2 => P_some rfl (O_nil (hK424 _ _ _ (WP.seq_k (fun K428 hK428 => WP.region Tt_ok (O_cons (O_read rfl ?_)))))))))))))
  refine R_fa0 (o' := 2) rfl rfl rfl rfl rfl rfl (P_some rfl (O_cons (O_read rfl (R_load rfl rfl rfl (Ex.mk _ (Cell.seg 1 0 rfl rfl rfl) (P_some rfl (O_cons (O_call (all := [.slice A1 p1.Lines.length c1]) rfl rfl rfl ?_))))))))
  obtain ⟨l1, hs1, h⟩ := obind h
  refine cloneR (r := r_api_Line) clone_f40 rfl rfl (ArrR.rds hA1 ([(g2, .cells #[.int .i64 0, .int .i64 0, .slice none 0 0] 24 (0, 0))] :: [(g1, .cells #[.int .i64 p1.ID, .int .i64 p1.At, .slice A1 p1.Lines.length c1] 24 (0, 0))] :: L)) hs1 fun A2 c2 ch1 hO1 => P_some rfl (O_cons (O_read rfl (R_fa0 (o' := 2) rfl rfl rfl rfl rfl rfl (P_some rfl (O_cons (O_store (vs := [.slice A2 l1.length c2]) rfl rfl rfl rfl rfl rfl (ST_ (L' := (ch1 :: [(g2, .cells #[.int .i64 0, .int .i64 0, .slice none 0 0] 24 (0, 0))] :: [(g1, .cells #[.int .i64 p1.ID, .int .i64 p1.At, .slice A2 l1.length c2] 24 (0, 0))] :: L)) 2 0 rfl rfl rfl rfl (P_none (O_nil (hK428 _ _ _ (WP.seq_k (fun K431 hK431 => WP.region Tt_ok ?_))))))))))))
  refine O_cons (O_read rfl (R_loadA rfl rfl rfl rfl (LA_ (vs := [.int .i64 p1.ID, .int .i64 p1.At, .slice A2 l1.length c2]) 2 0 rfl rfl rfl rfl (P_some rfl (O_cons (O_store (vs := [.int .i64 p1.ID, .int .i64 p1.At, .slice A2 l1.length c2]) rfl rfl rfl rfl rfl rfl (ST_ (L' := (ch1 :: [(g2, .cells #[.int .i64 p1.ID, .int .i64 p1.At, .slice A2 l1.length c2] 24 (0, 0))] :: [(g1, .cells #[.int .i64 p1.ID, .int .i64 p1.At, .slice A2 l1.length c2] 24 (0, 0))] :: L)) 1 0 rfl rfl rfl rfl (P_none (O_nil (hK431 _ _ _ (WP.ret ?_)))))))))))
  have e_ := Option.some.inj h
  subst e_
  refine S_cell rfl rfl rfl rfl (LA_ (vs := [.int .i64 p1.ID, .int .i64 p1.At, .slice A2 l1.length c2]) 1 0 rfl rfl rfl rfl (S_nil ?_))
  have hl2 := Own.lenOk hO1
  refine Upd.frzOwn 0 rfl hO1 fun v1 hm_1 hA2 => ?_
  replace hA1 := hA1.mono hm_1
  replace hO1 := hO1.mono hm_1
  refine Upd.selS [] 3 ?_
  exact Upd.done (hR _ A2 c2 (hm_1) (hl2) (hA2))

theorem ledger_Ledger_Post_fn {μ : Gh} {L : List Seg} {R : Value → Gh → List Seg → Prop}  {l1 : T_ledger_Ledger} {p1 : T_api_Posting} {pv1 : Value} {so1 : Seg} {A1 : Option Addr} {c1 : Nat} {res1 : Int} {res2 : T_ledger_Ledger}
    (hP1 : Obj_ledger_Ledger μ pv1 l1 so1) (hl1 : p1.Lines.length ≤ c1 ∧ c1 ≤ maxLen) (hA1 : ArrR r_api_Line μ A1 p1.Lines) (h : ledger_Ledger_Post l1 p1 = some (res1, res2))
    (hR : ∀ (μ' : Gh) (sp0 : Seg), μ.le μ' → Obj_ledger_Ledger μ' pv1 res2 sp0 → R (.int .i64 res1) μ' (sp0 :: L)) :
    Fn Try.prog 16 [pv1, .agg #[.int .i64 p1.ID, .int .i64 p1.At, .slice A1 p1.Lines.length c1]] μ (so1 :: L) R := by
  unfold ledger_Ledger_Post at h
  refine Fn.of_bodyD Try.func16 (by kernel_rfl) rfl rfl Try.ntmps16 (by simp) ?_
  simp only [Try.f16, argFr, List.zipIdx, List.map, Nat.reduceAdd]
  refine WPG.seqP ?_; intro K520 hK520
  obtain ⟨g1, A2, c2, ch1, g2, es1, cn1, hv1, rfl, hO1, hM1⟩ := hP1
  subst hv1
  refine WP.seg (L2 := ([(g1, .cells #[.slice A2 l1.postings.length c2, .map (some g2)] 60 (0, 0))] :: ch1 :: [(g2, .map es1 cn1)] :: L)) (SegSub.flat (by simp)) (WP.region Tt_ok (O_cons (O_box (cs := #[.pointer (some ⟨g1, 0, none⟩)]) rfl rfl (fun g3 => P_some rfl (O_cons (O_box (cs := #[.int .i64 p1.ID, .int .i64 p1.At, .slice A1 p1.Lines.length c1]) rfl rfl (fun g4 => P_some rfl (O_cons (O_alloc (cs := #[.int .i64 0]) rfl rfl (fun g5 => P_some rfl (O_nil (hK520 _ _ _ (WPG.seqP (fun K528 hK528 => ?_))))))))))))))
  refine WP.seq_k (fun K529 hK529 => WP.region Tt_ok (O_cons (O_read rfl (R_load rfl rfl rfl (Ex.mk _ (Cell.seg 2 0 rfl rfl rfl) (P_some rfl (O_cons (O_read rfl (R_eqP1 rfl rfl rfl rfl (P_some rfl (O_nil (hK529 _ _ _ (W_cond_f rfl ?_)))))))))))))
  refine WP.skip (hK528 _ _ _ (WPG.seqP (fun K530 hK530 => WP.seq_k (fun K531 hK531 => WP.region Tt_ok (O_cons (O_read rfl (R_load rfl rfl rfl (Ex.mk _ (Cell.seg 2 0 rfl rfl rfl) (P_some rfl (O_cons (O_read rfl (R_loadA rfl rfl rfl rfl (LA_ (vs := [.int .i64 p1.ID, .int .i64 p1.At, .slice A1 p1.Lines.length c1]) 1 0 rfl rfl rfl rfl ?_)))))))))))))
  refine P_some rfl (O_cons (O_call (all := [.pointer (some ⟨g1, 0, none⟩), .agg #[.int .i64 p1.ID, .int .i64 p1.At, .slice A1 p1.Lines.length c1]]) rfl rfl rfl ?_))
  have hP2 : Obj_ledger_Ledger μ (.pointer (some ⟨g1, 0, none⟩)) l1 ((g1, Obj.cells #[.slice A2 l1.postings.length c2, .map (some g2)] 60 (0, 0)) :: (ch1 ++ ((g2, Obj.map es1 cn1) :: []))) := ⟨g1, A2, c2, ch1, g2, es1, cn1, rfl, rfl, hO1, hM1⟩
  refine Fn.seg (L2 := (((g1, Obj.cells #[.slice A2 l1.postings.length c2, .map (some g2)] 60 (0, 0)) :: (ch1 ++ ((g2, Obj.map es1 cn1) :: []))) :: [(g5, .cells #[.int .i64 0] 26 (0, 0))] :: [(g4, .cells #[.int .i64 p1.ID, .int .i64 p1.At, .slice A1 p1.Lines.length c1] 24 (0, 0))] :: [(g3, .cells #[.pointer (some ⟨g1, 0, none⟩)] 31 (0, 0))] :: L)) (SegSub.trans (SegSub.flat (by simp [selS])) (SegSub.sel _ [some 3, some 4, some 5, some 0, some 1, some 2] 6)) ?_
  obtain ⟨⟨r1, r2⟩, hx1, h⟩ := obind h
  replace h := oun_mk h
  refine ledger_Ledger_accept_fn hP2 hl1 hA1 hx1 (fun so2 hP3 => P_some rfl (O_cons (O_read rfl (R_assign rfl (P_some rfl (O_nil (hK531 _ _ _ (WP.seq_k (fun K540 hK540 => WP.region Tt_ok (O_cons (O_read rfl (R_move rfl (P_some rfl ?_)))))))))))))
  refine O_cons (O_read rfl (R_neqD rfl rfl (P_some rfl (O_nil (hK540 _ _ _ ?_)))))
  refine W_cond_v (b := !(decide (r1 = 0))) rfl (fun hc1 => ?_) (fun hc1 => ?_)
  · replace h := cond_t hc1 h
    refine WP.seq_k (fun K541 hK541 => WP.region Tt_ok (O_cons (O_read rfl (R_move rfl (P_some rfl (O_cons (O_store (vs := [.int .i64 r1]) rfl rfl rfl rfl rfl rfl (ST_ (L' := (so2 :: [(g5, .cells #[.int .i64 r1] 26 (0, 0))] :: [(g4, .cells #[.int .i64 p1.ID, .int .i64 p1.At, .slice A1 p1.Lines.length c1] 24 (0, 0))] :: [(g3, .cells #[.pointer (some ⟨g1, 0, none⟩)] 31 (0, 0))] :: L)) 1 0 rfl rfl rfl rfl (P_none (O_nil (hK541 _ _ _ (WP.ret (FinG.nil (.inr rfl) Tt_ok ?_)))))))))))))
    have e_ := Option.some.inj h
    obtain ⟨e0a_, e0b_⟩ := Prod.mk.inj e_
    clear e_
    subst e0a_
    subst e0b_
    refine S_cell1 rfl rfl rfl (Ex.mk _ (Cell.seg 1 0 rfl rfl rfl) (S_nil (Upd.selS [some 0] 4 ?_)))
    exact Upd.done (hR _ so2 (Gh.le.refl _) (hP3))
  replace h := cond_f hc1 h
  refine WP.skip (hK530 _ _ _ (WPG.seqP (fun K544 hK544 => ?_)))
  obtain ⟨g6, A3, c3, ch2, g7, es2, cn2, hv2, rfl, hO2, hM2⟩ := hP3
  replace hv2 := ptr_inj hv2
  subst hv2
  refine WP.seg (L2 := ([(g1, .cells #[.slice A3 r2.postings.length c3, .map (some g7)] 60 (0, 0))] :: ch2 :: [(g7, .map es2 cn2)] :: [(g5, .cells #[.int .i64 0] 26 (0, 0))] :: [(g4, .cells #[.int .i64 p1.ID, .int .i64 p1.At, .slice A1 p1.Lines.length c1] 24 (0, 0))] :: [(g3, .cells #[.pointer (some ⟨g1, 0, none⟩)] 31 (0, 0))] :: L)) (SegSub.flat (by simp)) (WP.region Tt_ok (O_cons (O_read rfl (R_load rfl rfl rfl (Ex.mk _ (Cell.seg 5 0 rfl rfl rfl) (P_some rfl (O_cons (O_read rfl (R_nilP rfl (P_some rfl (O_cons (O_read rfl (R_fa0 (o' := 1) rfl rfl rfl rfl rfl rfl ?_)))))))))))))
  refine P_some rfl (O_cons (O_read rfl (R_load rfl rfl rfl (Ex.mk _ (Cell.seg 0 0 rfl rfl rfl) (P_some rfl (O_cons (O_call (all := [.map (some g7)]) rfl rfl rfl (mapClone_fn 2 rfl fun g8 => P_some rfl (O_cons (O_alloc (cs := #[.map none]) rfl rfl (fun g9 => P_some rfl (O_cons ?_))))))))))))
  refine O_store (vs := [.map (some g8)]) rfl rfl rfl rfl rfl rfl (ST_ (L' := ([(g9, .cells #[.map (some g8)] 58 (0, 0))] :: [(g8, .map es2 cn2)] :: [(g1, .cells #[.slice A3 r2.postings.length c3, .map (some g7)] 60 (0, 0))] :: ch2 :: [(g7, .map es2 cn2)] :: [(g5, .cells #[.int .i64 0] 26 (0, 0))] :: [(g4, .cells #[.int .i64 p1.ID, .int .i64 p1.At, .slice A1 p1.Lines.length c1] 24 (0, 0))] :: [(g3, .cells #[.pointer (some ⟨g1, 0, none⟩)] 31 (0, 0))] :: L)) 0 0 rfl rfl rfl rfl (P_none (O_nil (hK544 _ _ _ (WPG.defer2 (g := 33) (cap := #[.pointer (some ⟨g5, 0, none⟩), .pointer (some ⟨g9, 0, none⟩), .pointer (some ⟨g3, 0, none⟩)]) Tt_ok (O_read rfl (R_mkf rfl rfl ?_)))))))
  refine ⟨rfl, by decide, ?_⟩
  refine WPG.seqP (fun K555 hK555 => WP.seq_k (fun K556 hK556 => WP.region Tt_ok (O_cons (O_read rfl (R_fa0 (o' := 2) rfl rfl rfl rfl rfl rfl (P_some rfl (O_cons (O_read rfl (R_load rfl rfl rfl (Ex.mk _ (Cell.seg 6 0 rfl rfl rfl) (P_some rfl (O_cons (O_read rfl ?_)))))))))))))
  refine R_lenS rfl rfl rfl (P_some rfl (O_cons (O_read rfl (R_move rfl (P_some rfl (O_nil (hK556 _ _ _ ?_)))))))
  obtain ⟨o557, h557, h⟩ := obind h
  refine WP.cutK (fun fr_ μ_ L_ => ∃ (m2 : (List (Int × Int))) (es5 : Array MapEntry) (cn5 : Nat), m2 = o557 ∧ SubFr [(2, .pointer (some ⟨g3, 0, none⟩)), (3, .pointer (some ⟨g4, 0, none⟩)), (4, .pointer (some ⟨g5, 0, none⟩)), (25, .func (.func 33) #[] #[.pointer (some ⟨g5, 0, none⟩), .pointer (some ⟨g9, 0, none⟩), .pointer (some ⟨g3, 0, none⟩)])] fr_ ∧ SegSub ([(g3, .cells #[.pointer (some ⟨g1, 0, none⟩)] 31 (0, 0))] :: [(g1, .cells #[.slice A3 r2.postings.length c3, .map (some g7)] 60 (0, 0))] :: ch2 :: [(g7, .map es5 cn5)] :: [(g4, .cells #[.int .i64 p1.ID, .int .i64 p1.At, .slice A1 p1.Lines.length c1] 24 (0, 0))] :: [(g5, .cells #[.int .i64 0] 26 (0, 0))] :: [(g9, .cells #[.map (some g8)] 58 (0, 0))] :: [(g8, .map es2 cn2)] :: L) L_ ∧ MapB (Value.int .i64) es5 cn5 m2) ?_ ?_
  · refine WP.block (WP.iter h557 (fun (j_ : (List (Int × Int)) × Int) fr_ μ_ L_ => ounP j_ fun m1 v1 => ∃ (es3 : Array MapEntry) (cn3 : Nat), SubFr [(2, .pointer (some ⟨g3, 0, none⟩)), (3, .pointer (some ⟨g4, 0, none⟩)), (4, .pointer (some ⟨g5, 0, none⟩)), (25, .func (.func 33) #[] #[.pointer (some ⟨g5, 0, none⟩), .pointer (some ⟨g9, 0, none⟩), .pointer (some ⟨g3, 0, none⟩)]), (27, .slice A1 p1.Lines.length c1), (28, .int .i64 ((p1.Lines.length : Nat) : Int)), (29, .int .i64 v1)] fr_ ∧ SegSub ([(g3, .cells #[.pointer (some ⟨g1, 0, none⟩)] 31 (0, 0))] :: [(g1, .cells #[.slice A3 r2.postings.length c3, .map (some g7)] 60 (0, 0))] :: ch2 :: [(g7, .map es3 cn3)] :: [(g4, .cells #[.int .i64 p1.ID, .int .i64 p1.At, .slice A1 p1.Lines.length c1] 24 (0, 0))] :: [(g5, .cells #[.int .i64 0] 26 (0, 0))] :: [(g9, .cells #[.map (some g8)] 58 (0, 0))] :: [(g8, .map es2 cn2)] :: L) L_ ∧ MapB (Value.int .i64) es3 cn3 m1) ⟨es2, cn2, SubFr.of ⟨rfl, rfl, rfl, rfl, rfl, rfl, rfl, trivial⟩, SegSub.sel _ [some 7, some 2, some 3, some 4, some 6, some 5, some 0, some 1] 8, (hM2)⟩ ?_)
    rintro ⟨m1, v1⟩ q588 fr588 μ588 L588 hm588 ⟨es3, cn3, hF588, hS588, hM3⟩ hb588 hq588
    unfold ledger_Ledger_Post_l1 at hb588
    replace hb588 := oun_mk hb588
    replace hA1 := hA1.mono hm588
    replace hO1 := hO1.mono hm588
    replace hP2 := hP2.mono hm588
    replace hO2 := hO2.mono hm588
    refine WP.at hF588 hS588 (WP.seq_k (fun K606 hK606 => WP.region Tt_ok (O_cons (O_read rfl (R_lssD rfl rfl (P_some rfl (O_nil (hK606 _ _ _ (WP.seq_k (fun K607 hK607 => ?_))))))))))
    refine W_cond_v (b := (decide (v1 < ((p1.Lines.length : Nat) : Int)))) rfl (fun hc2 => ?_) (fun hc2 => ?_)
    · replace hb588 := cond_t hc2 hb588
      refine WP.skip (hK607 _ _ _ (WP.seq_k (fun K608 hK608 => WP.block (WP.seq_k (fun K609 hK609 => WP.region Tt_ok (O_cons ?_))))))
      obtain ⟨x1, hx2, hb588⟩ := obind hb588
      obtain ⟨a1, cs1, hA2, hr1, _, hc3⟩ := Rds.getI (ArrR.rds hA1 L) hx2
      obtain rfl := hr1
      refine O_read rfl (R_iaG rfl rfl rfl rfl rfl rfl ⟨(getI_lt hx2).1, (getI_lt hx2).2.1⟩ hA2 (P_some rfl (O_cons (O_read rfl (R_loadA rfl rfl rfl rfl (Ex.mk [.int .i64 x1.Account, .int .i64 x1.Amount] ⟨rfl, (hc3.push.push.push.push.push.push.push.push)⟩ (P_some rfl (O_cons (O_alloc (cs := #[.int .i64 0, .int .i64 0]) rfl rfl (fun g10 => P_some rfl (O_cons (O_store (vs := [.int .i64 x1.Account, .int .i64 x1.Amount]) rfl rfl rfl rfl rfl rfl (ST_ (L' := ([(g10, .cells #[.int .i64 x1.Account, .int .i64 x1.Amount] 49 (0, 0))] :: [(g3, .cells #[.pointer (some ⟨g1, 0, none⟩)] 31 (0, 0))] :: [(g1, .cells #[.slice A3 r2.postings.length c3, .map (some g7)] 60 (0, 0))] :: ch2 :: [(g7, .map es3 cn3)] :: [(g4, .cells #[.int .i64 p1.ID, .int .i64 p1.At, .slice A1 p1.Lines.length c1] 24 (0, 0))] :: [(g5, .cells #[.int .i64 0] 26 (0, 0))] :: [(g9, .cells #[.map (some g8)] 58 (0, 0))] :: [(g8, .map es2 cn2)] :: L)) 0 0 rfl rfl rfl rfl ?_)))))))))))))
      refine P_none (O_nil (hK609 _ _ _ (WP.drawn (id := 11) (l' := List.replicate 11 true) wide Tt_ok ([(g10, .cells #[.int .i64 x1.Account, .int .i64 x1.Amount] 49 (0, 0))] :: [(g3, .cells #[.pointer (some ⟨g1, 0, none⟩)] 31 (0, 0))] :: [(g1, .cells #[.slice A3 r2.postings.length c3, .map (some g7)] 60 (0, 0))] :: ch2 :: [(g4, .cells #[.int .i64 p1.ID, .int .i64 p1.At, .slice A1 p1.Lines.length c1] 24 (0, 0))] :: [(g5, .cells #[.int .i64 0] 26 (0, 0))] :: [(g9, .cells #[.map (some g8)] 58 (0, 0))] :: [(g8, .map es2 cn2)] :: L) (Kept.ofT (keep := [[(g10, .cells #[.int .i64 x1.Account, .int .i64 x1.Amount] 49 (0, 0))], [(g3, .cells #[.pointer (some ⟨g1, 0, none⟩)] 31 (0, 0))], [(g1, .cells #[.slice A3 r2.postings.length c3, .map (some g7)] 60 (0, 0))], ch2, [(g4, .cells #[.int .i64 p1.ID, .int .i64 p1.At, .slice A1 p1.Lines.length c1] 24 (0, 0))], [(g5, .cells #[.int .i64 0] 26 (0, 0))], [(g9, .cells #[.map (some g8)] 58 (0, 0))], [(g8, .map es2 cn2)]]) (A := [[(g10, .cells #[.int .i64 x1.Account, .int .i64 x1.Amount] 49 (0, 0))], [(g3, .cells #[.pointer (some ⟨g1, 0, none⟩)] 31 (0, 0))], [(g1, .cells #[.slice A3 r2.postings.length c3, .map (some g7)] 60 (0, 0))], ch2, [(g7, .map es3 cn3)], [(g4, .cells #[.int .i64 p1.ID, .int .i64 p1.At, .slice A1 p1.Lines.length c1] 24 (0, 0))], [(g5, .cells #[.int .i64 0] 26 (0, 0))], [(g9, .cells #[.map (some g8)] 58 (0, 0))], [(g8, .map es2 cn2)]]) (by simp)) [(true, 0), (true, 1), (true, 2), (true, 3), (true, 4), (true, 5), (true, 7), (true, 8), (false, 6), (true, 9), (false, 10)] (by kernel_rfl) (by kernel_rfl) rfl ?_)))
      refine PL_t rfl (R_load rfl rfl rfl (Ex.mk _ (Cell.seg 1 0 rfl rfl rfl) (P_some rfl (PL_t rfl (R_nilP rfl (P_some rfl (PL_t rfl (R_fa0 (o' := 1) rfl rfl rfl rfl rfl rfl (P_some rfl (PL_t rfl (R_load rfl rfl rfl (Ex.mk _ (Cell.seg 2 0 rfl rfl rfl) (P_some rfl ?_)))))))))))))
      refine PL_t rfl (R_fa0 (o' := 0) rfl rfl rfl rfl rfl rfl (P_some rfl (PL_t rfl (R_load rfl rfl rfl (Ex.mk _ (Cell.seg 0 0 rfl rfl rfl) (P_some rfl (PL_t rfl (R_fa0 (o' := 1) rfl rfl rfl rfl rfl rfl (P_some rfl (PL_t rfl (R_load rfl rfl rfl (Ex.mk _ (Cell.seg 0 0 rfl rfl rfl) (P_some rfl ?_)))))))))))))
      refine PL_f rfl (O_read rfl (R_look rfl rfl rfl rfl rfl rfl rfl rfl (Ex.mk _ (hM3.look (ObjAt.seg 4 0 rfl rfl) (zb := 0) rfl x1.Account) ?_)))
      refine ⟨Kept.ofT (keep := [[(g10, .cells #[.int .i64 x1.Account, .int .i64 x1.Amount] 49 (0, 0))], [(g3, .cells #[.pointer (some ⟨g1, 0, none⟩)] 31 (0, 0))], [(g1, .cells #[.slice A3 r2.postings.length c3, .map (some g7)] 60 (0, 0))], ch2, [(g4, .cells #[.int .i64 p1.ID, .int .i64 p1.At, .slice A1 p1.Lines.length c1] 24 (0, 0))], [(g5, .cells #[.int .i64 0] 26 (0, 0))], [(g9, .cells #[.map (some g8)] 58 (0, 0))], [(g8, .map es2 cn2)]]) (A := [[(g10, .cells #[.int .i64 x1.Account, .int .i64 x1.Amount] 49 (0, 0))], [(g3, .cells #[.pointer (some ⟨g1, 0, none⟩)] 31 (0, 0))], [(g1, .cells #[.slice A3 r2.postings.length c3, .map (some g7)] 60 (0, 0))], ch2, [(g7, .map es3 cn3)], [(g4, .cells #[.int .i64 p1.ID, .int .i64 p1.At, .slice A1 p1.Lines.length c1] 24 (0, 0))], [(g5, .cells #[.int .i64 0] 26 (0, 0))], [(g9, .cells #[.map (some g8)] 58 (0, 0))], [(g8, .map es2 cn2)]]) (by simp), ?_⟩
      refine P_some rfl (PL_t rfl (R_add rfl rfl (P_some rfl (PL_f rfl (O_mapUpdate rfl rfl rfl (semu_mapB Tt_ok rfl rfl rfl rfl 4 (b := w64 (((mget x1.Account m1).getD 0) + x1.Amount)) rfl hM3 rfl fun es4 cn4 hM4 => ?_))))))
      refine ⟨Kept.ofT (keep := [[(g10, .cells #[.int .i64 x1.Account, .int .i64 x1.Amount] 49 (0, 0))], [(g3, .cells #[.pointer (some ⟨g1, 0, none⟩)] 31 (0, 0))], [(g1, .cells #[.slice A3 r2.postings.length c3, .map (some g7)] 60 (0, 0))], ch2, [(g4, .cells #[.int .i64 p1.ID, .int .i64 p1.At, .slice A1 p1.Lines.length c1] 24 (0, 0))], [(g5, .cells #[.int .i64 0] 26 (0, 0))], [(g9, .cells #[.map (some g8)] 58 (0, 0))], [(g8, .map es2 cn2)]]) (A := [[(g10, .cells #[.int .i64 x1.Account, .int .i64 x1.Amount] 49 (0, 0))], [(g3, .cells #[.pointer (some ⟨g1, 0, none⟩)] 31 (0, 0))], [(g1, .cells #[.slice A3 r2.postings.length c3, .map (some g7)] 60 (0, 0))], ch2, [(g7, .map es4 cn4)], [(g4, .cells #[.int .i64 p1.ID, .int .i64 p1.At, .slice A1 p1.Lines.length c1] 24 (0, 0))], [(g5, .cells #[.int .i64 0] 26 (0, 0))], [(g9, .cells #[.map (some g8)] 58 (0, 0))], [(g8, .map es2 cn2)]]) (by simp), ?_⟩
      refine P_none (PL_nil (AN.done0 (by kernel_rfl) (hK608 _ _ _ (WP.region Tt_ok (O_cons (O_read rfl (R_add rfl rfl (P_some rfl (O_cons (O_read rfl (R_move rfl (P_some rfl (O_nil ?_)))))))))))))
      have e_ := Option.some.inj hb588
      subst e_
      exact ⟨_, rfl, es4, cn4, SubFr.of ⟨rfl, rfl, rfl, rfl, rfl, rfl, rfl, trivial⟩, SegSub.sel _ [some 1, some 2, some 3, some 4, some 5, some 6, some 7, some 8] 9, (hM4)⟩
    replace hb588 := cond_f hc2 hb588
    refine WP.exit (B_here ?_)
    have e_ := Option.some.inj hb588
    subst e_
    have hq_ := hq588 _ rfl
    subst hq_
    exact ⟨m1, es3, cn3, rfl, SubFr.of ⟨rfl, rfl, rfl, rfl, trivial⟩, SegSub.sel _ [some 0, some 1, some 2, some 3, some 4, some 5, some 6, some 7] 8, (hM3)⟩
  rintro fr557 μ557 L557 hm557 ⟨m2, es5, cn5, ho557, hF557, hS557, hM5⟩
  subst ho557
  replace hA1 := hA1.mono hm557
  replace hO1 := hO1.mono hm557
  replace hP2 := hP2.mono hm557
  replace hO2 := hO2.mono hm557
  refine hK555 _ _ _ (WPG.at hF557 hS557 (WPG.seqP (fun K631 hK631 => WP.seq_k (fun K632 hK632 => WP.region Tt_ok (O_cons (O_read rfl (R_fa0 (o' := 2) rfl rfl rfl rfl rfl rfl (P_some rfl (O_cons (O_read rfl (R_load rfl rfl rfl (Ex.mk _ (Cell.seg 4 0 rfl rfl rfl) (P_some rfl ?_)))))))))))))
  refine O_cons (O_read rfl (R_lenS rfl rfl rfl (P_some rfl (O_cons (O_read rfl (R_move rfl (P_some rfl (O_nil (hK632 _ _ _ ?_)))))))))
  obtain ⟨o633, h633, h⟩ := obind h
  refine WP.cutK (fun fr_ μ_ L_ => (.inl ()) = o633 ∧ SubFr [(2, .pointer (some ⟨g3, 0, none⟩)), (3, .pointer (some ⟨g4, 0, none⟩)), (4, .pointer (some ⟨g5, 0, none⟩)), (25, .func (.func 33) #[] #[.pointer (some ⟨g5, 0, none⟩), .pointer (some ⟨g9, 0, none⟩), .pointer (some ⟨g3, 0, none⟩)])] fr_ ∧ SegSub ([(g3, .cells #[.pointer (some ⟨g1, 0, none⟩)] 31 (0, 0))] :: [(g1, .cells #[.slice A3 r2.postings.length c3, .map (some g7)] 60 (0, 0))] :: ch2 :: [(g7, .map es5 cn5)] :: [(g4, .cells #[.int .i64 p1.ID, .int .i64 p1.At, .slice A1 p1.Lines.length c1] 24 (0, 0))] :: [(g5, .cells #[.int .i64 0] 26 (0, 0))] :: [(g9, .cells #[.map (some g8)] 58 (0, 0))] :: [(g8, .map es2 cn2)] :: L) L_) ?_ ?_
  · refine WP.block (WP.iter h633 (fun (v2 : Int) fr_ μ_ L_ => SubFr [(2, .pointer (some ⟨g3, 0, none⟩)), (3, .pointer (some ⟨g4, 0, none⟩)), (4, .pointer (some ⟨g5, 0, none⟩)), (25, .func (.func 33) #[] #[.pointer (some ⟨g5, 0, none⟩), .pointer (some ⟨g9, 0, none⟩), .pointer (some ⟨g3, 0, none⟩)]), (45, .slice A1 p1.Lines.length c1), (46, .int .i64 ((p1.Lines.length : Nat) : Int)), (47, .int .i64 v2)] fr_ ∧ SegSub ([(g3, .cells #[.pointer (some ⟨g1, 0, none⟩)] 31 (0, 0))] :: [(g1, .cells #[.slice A3 r2.postings.length c3, .map (some g7)] 60 (0, 0))] :: ch2 :: [(g7, .map es5 cn5)] :: [(g4, .cells #[.int .i64 p1.ID, .int .i64 p1.At, .slice A1 p1.Lines.length c1] 24 (0, 0))] :: [(g5, .cells #[.int .i64 0] 26 (0, 0))] :: [(g9, .cells #[.map (some g8)] 58 (0, 0))] :: [(g8, .map es2 cn2)] :: L) L_) ⟨SubFr.of ⟨rfl, rfl, rfl, rfl, rfl, rfl, rfl, trivial⟩, SegSub.sel _ [some 0, some 1, some 2, some 3, some 4, some 5, some 6, some 7] 8⟩ ?_)
    rintro v2 q673 fr673 μ673 L673 hm673 ⟨hF673, hS673⟩ hb673 hq673
    unfold ledger_Ledger_Post_l2 at hb673
    replace hA1 := hA1.mono hm673
    replace hO1 := hO1.mono hm673
    replace hP2 := hP2.mono hm673
    replace hO2 := hO2.mono hm673
    refine WP.at hF673 hS673 (WP.seq_k (fun K689 hK689 => WP.region Tt_ok (O_cons (O_read rfl (R_lssD rfl rfl (P_some rfl (O_nil (hK689 _ _ _ (WP.seq_k (fun K690 hK690 => ?_))))))))))
    refine W_cond_v (b := (decide (v2 < ((p1.Lines.length : Nat) : Int)))) rfl (fun hc4 => ?_) (fun hc4 => ?_)
    · replace hb673 := cond_t hc4 hb673
      refine WP.skip (hK690 _ _ _ (WP.seq_k (fun K691 hK691 => WP.block (WP.seq_k (fun K692 hK692 => WP.region Tt_ok (O_cons ?_))))))
      obtain ⟨x2, hx3, hb673⟩ := obind hb673
      obtain ⟨a2, cs2, hA3, hr2, _, hc5⟩ := Rds.getI (ArrR.rds hA1 L) hx3
      obtain rfl := hr2
      refine O_read rfl (R_iaG rfl rfl rfl rfl rfl rfl ⟨(getI_lt hx3).1, (getI_lt hx3).2.1⟩ hA3 (P_some rfl (O_cons (O_read rfl (R_loadA rfl rfl rfl rfl (Ex.mk [.int .i64 x2.Account, .int .i64 x2.Amount] ⟨rfl, (hc5.push.push.push.push.push.push.push.push)⟩ (P_some rfl (O_cons (O_alloc (cs := #[.int .i64 0, .int .i64 0]) rfl rfl (fun g11 => P_some rfl (O_cons (O_store (vs := [.int .i64 x2.Account, .int .i64 x2.Amount]) rfl rfl rfl rfl rfl rfl (ST_ (L' := ([(g11, .cells #[.int .i64 x2.Account, .int .i64 x2.Amount] 49 (0, 0))] :: [(g3, .cells #[.pointer (some ⟨g1, 0, none⟩)] 31 (0, 0))] :: [(g1, .cells #[.slice A3 r2.postings.length c3, .map (some g7)] 60 (0, 0))] :: ch2 :: [(g7, .map es5 cn5)] :: [(g4, .cells #[.int .i64 p1.ID, .int .i64 p1.At, .slice A1 p1.Lines.length c1] 24 (0, 0))] :: [(g5, .cells #[.int .i64 0] 26 (0, 0))] :: [(g9, .cells #[.map (some g8)] 58 (0, 0))] :: [(g8, .map es2 cn2)] :: L)) 0 0 rfl rfl rfl rfl ?_)))))))))))))
      refine P_none (O_nil (hK692 _ _ _ (WP.seq_k (fun K695 hK695 => WP.drawn (id := 16) (l' := List.replicate 8 true) wide Tt_ok _ Kept.refl [(true, 0), (true, 1), (true, 2), (true, 3), (true, 4), (true, 5), (true, 6), (true, 7)] (by kernel_rfl) (by kernel_rfl) rfl (PL_t rfl (R_load rfl rfl rfl (Ex.mk _ (Cell.seg 1 0 rfl rfl rfl) (P_some rfl (PL_t rfl (R_nilP rfl (P_some rfl (PL_t rfl (R_fa0 (o' := 1) rfl rfl rfl rfl rfl rfl ?_)))))))))))))
      refine P_some rfl (PL_t rfl (R_load rfl rfl rfl (Ex.mk _ (Cell.seg 2 0 rfl rfl rfl) (P_some rfl (PL_t rfl (R_fa0 (o' := 0) rfl rfl rfl rfl rfl rfl (P_some rfl (PL_t rfl (R_load rfl rfl rfl (Ex.mk _ (Cell.seg 0 0 rfl rfl rfl) (P_some rfl (PL_t rfl (R_look rfl rfl rfl rfl rfl rfl rfl rfl ?_)))))))))))))
      refine Ex.mk _ (hM5.look (ObjAt.seg 4 0 rfl rfl) (zb := 0) rfl x2.Account) (P_some rfl (PL_t rfl (R_assign rfl (P_some rfl (PL_nil (AN.done0 (by kernel_rfl) (hK695 _ _ _ (WP.seq_k (fun K696 hK696 => ?_)))))))))
      obtain ⟨o697, h697, hb673⟩ := obind hb673
      refine WP.cutK (fun fr_ μ_ L_ => ∃ (v3 : Bool), v3 = o697 ∧ SubFr [(2, .pointer (some ⟨g3, 0, none⟩)), (3, .pointer (some ⟨g4, 0, none⟩)), (4, .pointer (some ⟨g5, 0, none⟩)), (25, .func (.func 33) #[] #[.pointer (some ⟨g5, 0, none⟩), .pointer (some ⟨g9, 0, none⟩), .pointer (some ⟨g3, 0, none⟩)]), (45, .slice A1 p1.Lines.length c1), (46, .int .i64 ((p1.Lines.length : Nat) : Int)), (47, .int .i64 v2), (63, .bool v3)] fr_ ∧ SegSub ([(g3, .cells #[.pointer (some ⟨g1, 0, none⟩)] 31 (0, 0))] :: [(g1, .cells #[.slice A3 r2.postings.length c3, .map (some g7)] 60 (0, 0))] :: ch2 :: [(g7, .map es5 cn5)] :: [(g4, .cells #[.int .i64 p1.ID, .int .i64 p1.At, .slice A1 p1.Lines.length c1] 24 (0, 0))] :: [(g5, .cells #[.int .i64 0] 26 (0, 0))] :: [(g9, .cells #[.map (some g8)] 58 (0, 0))] :: [(g8, .map es2 cn2)] :: L) L_) ?_ ?_
      · refine WP.region Tt_ok (O_cons (O_read rfl (R_move rfl (P_some rfl (O_cons (O_read rfl (R_lssD rfl rfl (P_some rfl (O_cons (O_read rfl (R_move rfl (P_some rfl ?_))))))))))))
        refine O_gv (z := (decide (((mget x2.Account m2).getD 0) < (-1000000000000)))) rfl rfl (fun hc6 => ?_) (fun hc6 => ?_)
        · replace h697 := cond_f hc6 h697
          refine O_read rfl (R_move rfl (P_some rfl (O_gY rfl rfl hc6 (O_read rfl (R_gtrD rfl rfl (P_some rfl (O_cons (O_read rfl (R_pick_F rfl hc6 rfl (P_some rfl (O_nil ?_)))))))))))
          have e_ := Option.some.inj h697
          subst e_
          exact ⟨(decide (1000000000000 < ((mget x2.Account m2).getD 0))), rfl, SubFr.of ⟨rfl, rfl, rfl, rfl, rfl, rfl, rfl, rfl, trivial⟩, SegSub.sel _ [some 1, some 2, some 3, some 4, some 5, some 6, some 7, some 8] 9⟩
        replace h697 := cond_t hc6 h697
        refine P_some rfl (O_gN rfl rfl hc6 (P_some rfl (O_cons (O_read rfl (R_pick_T rfl hc6 rfl (P_some rfl (O_nil ?_)))))))
        have e_ := Option.some.inj h697
        subst e_
        exact ⟨true, rfl, SubFr.of ⟨rfl, rfl, rfl, rfl, rfl, rfl, rfl, rfl, trivial⟩, SegSub.sel _ [some 1, some 2, some 3, some 4, some 5, some 6, some 7, some 8] 9⟩
      rintro fr697 μ697 L697 hm697 ⟨v3, ho697, hF697, hS697⟩
      subst ho697
      replace hA1 := hA1.mono hm697
      replace hO1 := hO1.mono hm697
      replace hP2 := hP2.mono hm697
      replace hO2 := hO2.mono hm697
      replace hc5 := hc5.lift hm697
      refine hK696 _ _ _ (WP.at hF697 hS697 ?_)
      refine W_cond_v (b := v3) rfl (fun hc7 => ?_) (fun hc7 => ?_)
      · replace hb673 := cond_t hc7 hb673
        refine WP.seq_k (fun K708 hK708 => WP.region Tt_ok (O_cons (O_store (vs := [.int .i64 2]) rfl rfl rfl rfl rfl rfl (ST_ (L' := ([(g3, .cells #[.pointer (some ⟨g1, 0, none⟩)] 31 (0, 0))] :: [(g1, .cells #[.slice A3 r2.postings.length c3, .map (some g7)] 60 (0, 0))] :: ch2 :: [(g7, .map es5 cn5)] :: [(g4, .cells #[.int .i64 p1.ID, .int .i64 p1.At, .slice A1 p1.Lines.length c1] 24 (0, 0))] :: [(g5, .cells #[.int .i64 2] 26 (0, 0))] :: [(g9, .cells #[.map (some g8)] 58 (0, 0))] :: [(g8, .map es2 cn2)] :: L)) 5 0 rfl rfl rfl rfl (P_none (O_nil (hK708 _ _ _ (WP.ret (FinG.cons (.inr rfl) Try.func33 (by kernel_rfl) rfl Try.ntmps33 rfl (by simp) ?_)))))))))
        simp only [Try.f33, argFr, List.zipIdx, List.map, Nat.reduceAdd, List.toList_toArray]
        refine WP.seq_k (fun K710 hK710 => WP.region Tt_ok (O_cons (O_read rfl (R_load rfl rfl rfl (Ex.mk _ (Cell.seg 5 0 rfl rfl rfl) (P_some rfl (O_cons (O_read rfl (R_neqD rfl rfl (P_some rfl (O_nil (hK710 _ _ _ ?_))))))))))))
        refine W_cond_v (b := !(decide (2 = 0))) rfl (fun hc8 => ?_) (fun hc8 => ?_)
        · replace hb673 := cond_t hc8 hb673
          refine WP.region Tt_ok (O_cons (O_read rfl (R_load rfl rfl rfl (Ex.mk _ (Cell.seg 0 0 rfl rfl rfl) (P_some rfl (O_cons (O_read rfl (R_load rfl rfl rfl (Ex.mk _ (Cell.seg 6 0 rfl rfl rfl) (P_some rfl (O_cons (O_read rfl (R_nilP rfl ?_)))))))))))))
          refine P_some rfl (O_cons (O_read rfl (R_fa0 (o' := 1) rfl rfl rfl rfl rfl rfl (P_some rfl (O_cons (O_store (vs := [.map (some g8)]) rfl rfl rfl rfl rfl rfl (ST_ (L' := ([(g3, .cells #[.pointer (some ⟨g1, 0, none⟩)] 31 (0, 0))] :: [(g1, .cells #[.slice A3 r2.postings.length c3, .map (some g8)] 60 (0, 0))] :: ch2 :: [(g7, .map es5 cn5)] :: [(g4, .cells #[.int .i64 p1.ID, .int .i64 p1.At, .slice A1 p1.Lines.length c1] 24 (0, 0))] :: [(g5, .cells #[.int .i64 2] 26 (0, 0))] :: [(g9, .cells #[.map (some g8)] 58 (0, 0))] :: [(g8, .map es2 cn2)] :: L)) 1 0 rfl rfl rfl rfl (P_none (O_nil (FinG.nil (.inr rfl) Tt_ok ?_))))))))))
          have e_ := Option.some.inj hb673
          subst e_
          have hq_ := hq673 _ rfl
          subst hq_
          replace h := osum_r h
          have e_ := Option.some.inj h
          obtain ⟨e0a_, e0b_⟩ := Prod.mk.inj e_
          clear e_
          subst e0a_
          subst e0b_
          refine S_cell1 rfl rfl rfl (Ex.mk _ (Cell.seg 5 0 rfl rfl rfl) (S_nil (Upd.seg (L2 := (((g1, Obj.cells #[.slice A3 r2.postings.length c3, .map (some g8)] 60 (0, 0)) :: (ch2 ++ ((g8, Obj.map es2 cn2) :: []))) :: L)) (SegSub.trans (SegSub.flat (by simp [selS])) (SegSub.sel _ [some 1, some 2, some 7] 8)) ?_)))
          exact Upd.done (hR _ ((g1, Obj.cells #[.slice A3 r2.postings.length c3, .map (some g8)] 60 (0, 0)) :: (ch2 ++ ((g8, Obj.map es2 cn2) :: []))) (Gh.le.trans hm557 (Gh.le.trans hm673 (hm697))) (⟨g1, A3, c3, ch2, g8, es2, cn2, rfl, rfl, hO2, hM2⟩))
        replace hb673 := cond_f hc8 hb673
        refine WP.skip (FinG.nil (.inr rfl) Tt_ok ?_)
        have e_ := Option.some.inj hb673
        subst e_
        have hq_ := hq673 _ rfl
        subst hq_
        replace h := osum_r h
        have e_ := Option.some.inj h
        obtain ⟨e0a_, e0b_⟩ := Prod.mk.inj e_
        clear e_
        subst e0a_
        subst e0b_
        refine S_cell1 rfl rfl rfl (Ex.mk _ (Cell.seg 5 0 rfl rfl rfl) (S_nil (Upd.seg (L2 := (((g1, Obj.cells #[.slice A3 r2.postings.length c3, .map (some g7)] 60 (0, 0)) :: (ch2 ++ ((g7, Obj.map es5 cn5) :: []))) :: L)) (SegSub.trans (SegSub.flat (by simp [selS])) (SegSub.sel _ [some 1, some 2, some 3] 8)) ?_)))
        exact Upd.done (hR _ ((g1, Obj.cells #[.slice A3 r2.postings.length c3, .map (some g7)] 60 (0, 0)) :: (ch2 ++ ((g7, Obj.map es5 cn5) :: []))) (Gh.le.trans hm557 (Gh.le.trans hm673 (hm697))) (⟨g1, A3, c3, ch2, g7, es5, cn5, rfl, rfl, hO2, hM5⟩))
      replace hb673 := cond_f hc7 hb673
      refine WP.skip (hK691 _ _ _ (WP.region Tt_ok (O_cons (O_read rfl (R_add rfl rfl (P_some rfl (O_cons (O_read rfl (R_move rfl (P_some rfl (O_nil ?_)))))))))))
      have e_ := Option.some.inj hb673
      subst e_
      exact ⟨_, rfl, SubFr.of ⟨rfl, rfl, rfl, rfl, rfl, rfl, rfl, trivial⟩, SegSub.sel _ [some 0, some 1, some 2, some 3, some 4, some 5, some 6, some 7] 8⟩
    replace hb673 := cond_f hc4 hb673
    refine WP.exit (B_here ?_)
    have e_ := Option.some.inj hb673
    subst e_
    have hq_ := hq673 _ rfl
    subst hq_
    exact ⟨rfl, SubFr.of ⟨rfl, rfl, rfl, rfl, trivial⟩, SegSub.sel _ [some 0, some 1, some 2, some 3, some 4, some 5, some 6, some 7] 8⟩
  rintro fr633 μ633 L633 hm633 ⟨ho633, hF633, hS633⟩
  subst ho633
  replace h := osum_l h
  replace hA1 := hA1.mono hm633
  replace hO1 := hO1.mono hm633
  replace hP2 := hP2.mono hm633
  replace hO2 := hO2.mono hm633
  refine hK631 _ _ _ (WPG.at hF633 hS633 (WPG.seqP (fun K722 hK722 => ?_)))
  obtain ⟨o747, h747, h⟩ := obind h
  refine WP.cutK (fun fr_ μ_ L_ => ∃ (f1 : (List T_api_Posting)) (A6 : Option Addr) (c6 : Nat) (ch4 : Seg), f1 = o747 ∧ SubFr [(4, .pointer (some ⟨g5, 0, none⟩)), (25, .func (.func 33) #[] #[.pointer (some ⟨g5, 0, none⟩), .pointer (some ⟨g9, 0, none⟩), .pointer (some ⟨g3, 0, none⟩)])] fr_ ∧ SegSub ([(g5, .cells #[.int .i64 0] 26 (0, 0))] :: [(g9, .cells #[.map (some g8)] 58 (0, 0))] :: [(g8, .map es2 cn2)] :: [(g3, .cells #[.pointer (some ⟨g1, 0, none⟩)] 31 (0, 0))] :: [(g1, .cells #[.slice A6 f1.length c6, .map (some g7)] 60 (0, 0))] :: ch4 :: [(g7, .map es5 cn5)] :: L) L_ ∧ Own r_api_Posting 24 μ_ (.slice A6 f1.length c6) f1 ch4) ?_ ?_
  · refine WP.draw (id := 20) wide ([(g3, .cells #[.pointer (some ⟨g1, 0, none⟩)] 31 (0, 0))] :: [(g7, .map es5 cn5)] :: [(g4, .cells #[.int .i64 p1.ID, .int .i64 p1.At, .slice A1 p1.Lines.length c1] 24 (0, 0))] :: [(g5, .cells #[.int .i64 0] 26 (0, 0))] :: [(g9, .cells #[.map (some g8)] 58 (0, 0))] :: [(g8, .map es2 cn2)] :: L) (Kept.ofT (keep := [[(g3, .cells #[.pointer (some ⟨g1, 0, none⟩)] 31 (0, 0))], [(g7, .map es5 cn5)], [(g4, .cells #[.int .i64 p1.ID, .int .i64 p1.At, .slice A1 p1.Lines.length c1] 24 (0, 0))], [(g5, .cells #[.int .i64 0] 26 (0, 0))], [(g9, .cells #[.map (some g8)] 58 (0, 0))], [(g8, .map es2 cn2)]]) (A := [[(g3, .cells #[.pointer (some ⟨g1, 0, none⟩)] 31 (0, 0))], [(g1, .cells #[.slice A3 r2.postings.length c3, .map (some g7)] 60 (0, 0))], ch2, [(g7, .map es5 cn5)], [(g4, .cells #[.int .i64 p1.ID, .int .i64 p1.At, .slice A1 p1.Lines.length c1] 24 (0, 0))], [(g5, .cells #[.int .i64 0] 26 (0, 0))], [(g9, .cells #[.map (some g8)] 58 (0, 0))], [(g8, .map es2 cn2)]]) (by simp)) rfl ?_
    refine AN.run (fuel := 7) (listed' := [true, true, true, true, false, true, false, false, false, false, false, false]) Tt_ok [(true, 0), (true, 1), (true, 2), (true, 3), (true, 5)] (by kernel_rfl) (by kernel_rfl) rfl (PL_t rfl (R_load rfl rfl rfl (Ex.mk _ (Cell.seg 0 0 rfl rfl rfl) (P_some rfl (PL_t rfl (R_load rfl rfl rfl (Ex.mk _ (Cell.seg 0 0 rfl rfl rfl) (P_some rfl (PL_t rfl (R_nilP rfl (P_some rfl (PL_t rfl (R_fa0 (o' := 0) rfl rfl rfl rfl rfl rfl ?_)))))))))))))
    refine P_some rfl (PL_t rfl (R_loadA rfl rfl rfl rfl (LA_ (vs := [.int .i64 p1.ID, .int .i64 p1.At, .slice A1 p1.Lines.length c1]) 2 0 rfl rfl rfl rfl (P_some rfl (PL_nil ?_)))))
    refine FK_2 Tt_ok (a := 4) (b := 6) (by kernel_rfl) ?_ ?_
    · refine FO_ rfl rfl (O_read rfl (R_load rfl rfl rfl (Ex.mk _ (Cell.seg 1 0 rfl rfl rfl) ?_)))
      refine ⟨Kept.ofT (keep := [[(g3, .cells #[.pointer (some ⟨g1, 0, none⟩)] 31 (0, 0))], [(g7, .map es5 cn5)], [(g4, .cells #[.int .i64 p1.ID, .int .i64 p1.At, .slice A1 p1.Lines.length c1] 24 (0, 0))], [(g5, .cells #[.int .i64 0] 26 (0, 0))], [(g9, .cells #[.map (some g8)] 58 (0, 0))], [(g8, .map es2 cn2)]]) (A := [[(g3, .cells #[.pointer (some ⟨g1, 0, none⟩)] 31 (0, 0))], [(g1, .cells #[.slice A3 r2.postings.length c3, .map (some g7)] 60 (0, 0))], ch2, [(g7, .map es5 cn5)], [(g4, .cells #[.int .i64 p1.ID, .int .i64 p1.At, .slice A1 p1.Lines.length c1] 24 (0, 0))], [(g5, .cells #[.int .i64 0] 26 (0, 0))], [(g9, .cells #[.map (some g8)] 58 (0, 0))], [(g8, .map es2 cn2)]]) (by simp), ?_⟩
      refine P_some rfl (AN.run (fuel := 0) (listed' := [true, true, true, true, true, true, true, true, true, true, true, true]) Tt_ok [(false, 6), (false, 7), (false, 8), (true, 9), (true, 10), (false, 11)] (by kernel_rfl) (by kernel_rfl) rfl (PL_f rfl (O_call (all := [.agg #[.int .i64 p1.ID, .int .i64 p1.At, .slice A1 p1.Lines.length c1]]) rfl rfl rfl ?_)))
      obtain ⟨r3, hx4, h747⟩ := obind h747
      refine ledger_copied_fn hl1 hA1 hx4 (fun v4 A4 c4 hm_1 hl2 hA4 => ?_)
      replace hA1 := hA1.mono hm_1
      replace hO1 := hO1.mono hm_1
      replace hP2 := hP2.mono hm_1
      replace hO2 := hO2.mono hm_1
      refine ⟨Kept.ofT (keep := [[(g3, .cells #[.pointer (some ⟨g1, 0, none⟩)] 31 (0, 0))], [(g7, .map es5 cn5)], [(g4, .cells #[.int .i64 p1.ID, .int .i64 p1.At, .slice A1 p1.Lines.length c1] 24 (0, 0))], [(g5, .cells #[.int .i64 0] 26 (0, 0))], [(g9, .cells #[.map (some g8)] 58 (0, 0))], [(g8, .map es2 cn2)]]) (A := [[(g3, .cells #[.pointer (some ⟨g1, 0, none⟩)] 31 (0, 0))], [(g1, .cells #[.slice A3 r2.postings.length c3, .map (some g7)] 60 (0, 0))], ch2, [(g7, .map es5 cn5)], [(g4, .cells #[.int .i64 p1.ID, .int .i64 p1.At, .slice A1 p1.Lines.length c1] 24 (0, 0))], [(g5, .cells #[.int .i64 0] 26 (0, 0))], [(g9, .cells #[.map (some g8)] 58 (0, 0))], [(g8, .map es2 cn2)]]) (by simp), ?_⟩
      refine P_some rfl (PL_f rfl (O_bsl (z := [.int .i64 0, .int .i64 0, .slice none 0 0]) rfl rfl rfl rfl rfl rfl rfl (F_cons (cells' := [.int .i64 r3.ID, .int .i64 r3.At, .slice A4 r3.Lines.length c4]) rfl rfl rfl rfl (F_nil (fun g12 => ?_)))))
      refine ⟨Kept.ofT (keep := [[(g3, .cells #[.pointer (some ⟨g1, 0, none⟩)] 31 (0, 0))], [(g7, .map es5 cn5)], [(g4, .cells #[.int .i64 p1.ID, .int .i64 p1.At, .slice A1 p1.Lines.length c1] 24 (0, 0))], [(g5, .cells #[.int .i64 0] 26 (0, 0))], [(g9, .cells #[.map (some g8)] 58 (0, 0))], [(g8, .map es2 cn2)]]) (A := [[(g12, .cells #[.int .i64 r3.ID, .int .i64 r3.At, .slice A4 r3.Lines.length c4] 24 (0, 0))], [(g3, .cells #[.pointer (some ⟨g1, 0, none⟩)] 31 (0, 0))], [(g1, .cells #[.slice A3 r2.postings.length c3, .map (some g7)] 60 (0, 0))], ch2, [(g7, .map es5 cn5)], [(g4, .cells #[.int .i64 p1.ID, .int .i64 p1.At, .slice A1 p1.Lines.length c1] 24 (0, 0))], [(g5, .cells #[.int .i64 0] 26 (0, 0))], [(g9, .cells #[.map (some g8)] 58 (0, 0))], [(g8, .map es2 cn2)]]) (by simp), ?_⟩
      refine P_some rfl (PL_f rfl (O_append rfl ?_))
      obtain ⟨l2, hz1, h747⟩ := obind h747
      refine sem_appR (r := r_api_Posting) Tt_ok rfl rfl rfl rfl (by decide) rfl rfl 3 rfl hO2 rfl (Own.rds (L := ([(g12, .cells #[.int .i64 r3.ID, .int .i64 r3.At, .slice A4 r3.Lines.length c4] 24 (0, 0))] :: [(g3, .cells #[.pointer (some ⟨g1, 0, none⟩)] 31 (0, 0))] :: [(g1, .cells #[.slice A3 r2.postings.length c3, .map (some g7)] 60 (0, 0))] :: ch2 :: [(g7, .map es5 cn5)] :: [(g4, .cells #[.int .i64 p1.ID, .int .i64 p1.At, .slice A1 p1.Lines.length c1] 24 (0, 0))] :: [(g5, .cells #[.int .i64 0] 26 (0, 0))] :: [(g9, .cells #[.map (some g8)] 58 (0, 0))] :: [(g8, .map es2 cn2)] :: L)) (Own.lit (r := r_api_Posting) (e := 24) (g := g12) (xs := [r3]) (cs := [.int .i64 r3.ID, .int .i64 r3.At, .slice A4 r3.Lines.length c4]) (css := [[.int .i64 r3.ID, .int .i64 r3.At, .slice A4 r3.Lines.length c4]]) rfl (All2.cons (⟨A4, c4, rfl, hl2, hA4⟩) (All2.nil)) rfl rfl) 0 rfl) hz1 fun A5 c5 ch3 hO3 => ?_
      refine ⟨Kept.ofT (keep := [[(g3, .cells #[.pointer (some ⟨g1, 0, none⟩)] 31 (0, 0))], [(g7, .map es5 cn5)], [(g4, .cells #[.int .i64 p1.ID, .int .i64 p1.At, .slice A1 p1.Lines.length c1] 24 (0, 0))], [(g5, .cells #[.int .i64 0] 26 (0, 0))], [(g9, .cells #[.map (some g8)] 58 (0, 0))], [(g8, .map es2 cn2)]]) (A := [[(g12, .cells #[.int .i64 r3.ID, .int .i64 r3.At, .slice A4 r3.Lines.length c4] 24 (0, 0))], [(g3, .cells #[.pointer (some ⟨g1, 0, none⟩)] 31 (0, 0))], [(g1, .cells #[.slice A3 r2.postings.length c3, .map (some g7)] 60 (0, 0))], ch3, [(g7, .map es5 cn5)], [(g4, .cells #[.int .i64 p1.ID, .int .i64 p1.At, .slice A1 p1.Lines.length c1] 24 (0, 0))], [(g5, .cells #[.int .i64 0] 26 (0, 0))], [(g9, .cells #[.map (some g8)] 58 (0, 0))], [(g8, .map es2 cn2)]]) (by simp), ?_⟩
      refine P_some rfl (PL_t rfl (R_nilP rfl (P_some rfl (PL_t rfl (R_fa0 (o' := 0) rfl rfl rfl rfl rfl rfl (P_some rfl (PL_f rfl (O_store (vs := [.slice A5 l2.length c5]) rfl rfl rfl rfl rfl rfl (ST_ (L' := ([(g12, .cells #[.int .i64 r3.ID, .int .i64 r3.At, .slice A4 r3.Lines.length c4] 24 (0, 0))] :: [(g3, .cells #[.pointer (some ⟨g1, 0, none⟩)] 31 (0, 0))] :: [(g1, .cells #[.slice A5 l2.length c5, .map (some g7)] 60 (0, 0))] :: ch3 :: [(g7, .map es5 cn5)] :: [(g4, .cells #[.int .i64 p1.ID, .int .i64 p1.At, .slice A1 p1.Lines.length c1] 24 (0, 0))] :: [(g5, .cells #[.int .i64 0] 26 (0, 0))] :: [(g9, .cells #[.map (some g8)] 58 (0, 0))] :: [(g8, .map es2 cn2)] :: L)) 2 0 rfl rfl rfl rfl ?_)))))))))
      refine ⟨Kept.ofT (keep := [[(g3, .cells #[.pointer (some ⟨g1, 0, none⟩)] 31 (0, 0))], [(g7, .map es5 cn5)], [(g4, .cells #[.int .i64 p1.ID, .int .i64 p1.At, .slice A1 p1.Lines.length c1] 24 (0, 0))], [(g5, .cells #[.int .i64 0] 26 (0, 0))], [(g9, .cells #[.map (some g8)] 58 (0, 0))], [(g8, .map es2 cn2)]]) (A := [[(g12, .cells #[.int .i64 r3.ID, .int .i64 r3.At, .slice A4 r3.Lines.length c4] 24 (0, 0))], [(g3, .cells #[.pointer (some ⟨g1, 0, none⟩)] 31 (0, 0))], [(g1, .cells #[.slice A5 l2.length c5, .map (some g7)] 60 (0, 0))], ch3, [(g7, .map es5 cn5)], [(g4, .cells #[.int .i64 p1.ID, .int .i64 p1.At, .slice A1 p1.Lines.length c1] 24 (0, 0))], [(g5, .cells #[.int .i64 0] 26 (0, 0))], [(g9, .cells #[.map (some g8)] 58 (0, 0))], [(g8, .map es2 cn2)]]) (by simp), ?_⟩
      refine P_none (PL_nil (AN.done0 (by kernel_rfl) ?_))
      have e_ := Option.some.inj h747
      subst e_
      exact ⟨l2, A5, c5, ch3, rfl, SubFr.of ⟨rfl, rfl, trivial⟩, SegSub.sel _ [some 6, some 7, some 8, some 1, some 2, some 3, some 4] 9, (hO3)⟩
    obtain ⟨r3, hx4, h747⟩ := obind h747
    obtain ⟨l2, hz1, h747⟩ := obind h747
    refine FO_ rfl rfl (O_call (all := [.agg #[.int .i64 p1.ID, .int .i64 p1.At, .slice A1 p1.Lines.length c1]]) rfl rfl rfl (ledger_copied_fn hl1 hA1 hx4 (fun v4 A4 c4 hm_1 hl2 hA4 => ?_)))
    replace hA1 := hA1.mono hm_1
    replace hO1 := hO1.mono hm_1
    replace hP2 := hP2.mono hm_1
    replace hO2 := hO2.mono hm_1
    refine ⟨Kept.ofT (keep := [[(g3, .cells #[.pointer (some ⟨g1, 0, none⟩)] 31 (0, 0))], [(g7, .map es5 cn5)], [(g4, .cells #[.int .i64 p1.ID, .int .i64 p1.At, .slice A1 p1.Lines.length c1] 24 (0, 0))], [(g5, .cells #[.int .i64 0] 26 (0, 0))], [(g9, .cells #[.map (some g8)] 58 (0, 0))], [(g8, .map es2 cn2)]]) (A := [[(g3, .cells #[.pointer (some ⟨g1, 0, none⟩)] 31 (0, 0))], [(g1, .cells #[.slice A3 r2.postings.length c3, .map (some g7)] 60 (0, 0))], ch2, [(g7, .map es5 cn5)], [(g4, .cells #[.int .i64 p1.ID, .int .i64 p1.At, .slice A1 p1.Lines.length c1] 24 (0, 0))], [(g5, .cells #[.int .i64 0] 26 (0, 0))], [(g9, .cells #[.map (some g8)] 58 (0, 0))], [(g8, .map es2 cn2)]]) (by simp), ?_⟩
    apply P_some; exact rfl
    refine FK_2 Tt_ok (a := 4) (b := 7) (by kernel_rfl) ?_ ?_
    · refine FO_ rfl rfl (O_read rfl (R_load rfl rfl rfl (Ex.mk _ (Cell.seg 1 0 rfl rfl rfl) ?_)))
      refine ⟨Kept.ofT (keep := [[(g3, .cells #[.pointer (some ⟨g1, 0, none⟩)] 31 (0, 0))], [(g7, .map es5 cn5)], [(g4, .cells #[.int .i64 p1.ID, .int .i64 p1.At, .slice A1 p1.Lines.length c1] 24 (0, 0))], [(g5, .cells #[.int .i64 0] 26 (0, 0))], [(g9, .cells #[.map (some g8)] 58 (0, 0))], [(g8, .map es2 cn2)]]) (A := [[(g3, .cells #[.pointer (some ⟨g1, 0, none⟩)] 31 (0, 0))], [(g1, .cells #[.slice A3 r2.postings.length c3, .map (some g7)] 60 (0, 0))], ch2, [(g7, .map es5 cn5)], [(g4, .cells #[.int .i64 p1.ID, .int .i64 p1.At, .slice A1 p1.Lines.length c1] 24 (0, 0))], [(g5, .cells #[.int .i64 0] 26 (0, 0))], [(g9, .cells #[.map (some g8)] 58 (0, 0))], [(g8, .map es2 cn2)]]) (by simp), ?_⟩
      refine P_some rfl (AN.run (fuel := 0) (listed' := [true, true, true, true, true, true, true, true, true, true, true, true]) Tt_ok [(false, 7), (false, 8), (true, 9), (true, 10), (false, 11)] (by kernel_rfl) (by kernel_rfl) rfl (PL_f rfl (O_bsl (z := [.int .i64 0, .int .i64 0, .slice none 0 0]) rfl rfl rfl rfl rfl rfl rfl (F_cons (cells' := [.int .i64 r3.ID, .int .i64 r3.At, .slice A4 r3.Lines.length c4]) rfl rfl rfl rfl (F_nil (fun g12 => ?_))))))
      refine ⟨Kept.ofT (keep := [[(g3, .cells #[.pointer (some ⟨g1, 0, none⟩)] 31 (0, 0))], [(g7, .map es5 cn5)], [(g4, .cells #[.int .i64 p1.ID, .int .i64 p1.At, .slice A1 p1.Lines.length c1] 24 (0, 0))], [(g5, .cells #[.int .i64 0] 26 (0, 0))], [(g9, .cells #[.map (some g8)] 58 (0, 0))], [(g8, .map es2 cn2)]]) (A := [[(g12, .cells #[.int .i64 r3.ID, .int .i64 r3.At, .slice A4 r3.Lines.length c4] 24 (0, 0))], [(g3, .cells #[.pointer (some ⟨g1, 0, none⟩)] 31 (0, 0))], [(g1, .cells #[.slice A3 r2.postings.length c3, .map (some g7)] 60 (0, 0))], ch2, [(g7, .map es5 cn5)], [(g4, .cells #[.int .i64 p1.ID, .int .i64 p1.At, .slice A1 p1.Lines.length c1] 24 (0, 0))], [(g5, .cells #[.int .i64 0] 26 (0, 0))], [(g9, .cells #[.map (some g8)] 58 (0, 0))], [(g8, .map es2 cn2)]]) (by simp), ?_⟩
      refine P_some rfl (PL_f rfl (O_append rfl (sem_appR (r := r_api_Posting) Tt_ok rfl rfl rfl rfl (by decide) rfl rfl 3 rfl hO2 rfl (Own.rds (L := ([(g12, .cells #[.int .i64 r3.ID, .int .i64 r3.At, .slice A4 r3.Lines.length c4] 24 (0, 0))] :: [(g3, .cells #[.pointer (some ⟨g1, 0, none⟩)] 31 (0, 0))] :: [(g1, .cells #[.slice A3 r2.postings.length c3, .map (some g7)] 60 (0, 0))] :: ch2 :: [(g7, .map es5 cn5)] :: [(g4, .cells #[.int .i64 p1.ID, .int .i64 p1.At, .slice A1 p1.Lines.length c1] 24 (0, 0))] :: [(g5, .cells #[.int .i64 0] 26 (0, 0))] :: [(g9, .cells #[.map (some g8)] 58 (0, 0))] :: [(g8, .map es2 cn2)] :: L)) (Own.lit (r := r_api_Posting) (e := 24) (g := g12) (xs := [r3]) (cs := [.int .i64 r3.ID, .int .i64 r3.At, .slice A4 r3.Lines.length c4]) (css := [[.int .i64 r3.ID, .int .i64 r3.At, .slice A4 r3.Lines.length c4]]) rfl (All2.cons (⟨A4, c4, rfl, hl2, hA4⟩) (All2.nil)) rfl rfl) 0 rfl) hz1 fun A5 c5 ch3 hO3 => ?_)))
      refine ⟨Kept.ofT (keep := [[(g3, .cells #[.pointer (some ⟨g1, 0, none⟩)] 31 (0, 0))], [(g7, .map es5 cn5)], [(g4, .cells #[.int .i64 p1.ID, .int .i64 p1.At, .slice A1 p1.Lines.length c1] 24 (0, 0))], [(g5, .cells #[.int .i64 0] 26 (0, 0))], [(g9, .cells #[.map (some g8)] 58 (0, 0))], [(g8, .map es2 cn2)]]) (A := [[(g12, .cells #[.int .i64 r3.ID, .int .i64 r3.At, .slice A4 r3.Lines.length c4] 24 (0, 0))], [(g3, .cells #[.pointer (some ⟨g1, 0, none⟩)] 31 (0, 0))], [(g1, .cells #[.slice A3 r2.postings.length c3, .map (some g7)] 60 (0, 0))], ch3, [(g7, .map es5 cn5)], [(g4, .cells #[.int .i64 p1.ID, .int .i64 p1.At, .slice A1 p1.Lines.length c1] 24 (0, 0))], [(g5, .cells #[.int .i64 0] 26 (0, 0))], [(g9, .cells #[.map (some g8)] 58 (0, 0))], [(g8, .map es2 cn2)]]) (by simp), ?_⟩
      refine P_some rfl (PL_t rfl (R_nilP rfl (P_some rfl (PL_t rfl (R_fa0 (o' := 0) rfl rfl rfl rfl rfl rfl (P_some rfl (PL_f rfl (O_store (vs := [.slice A5 l2.length c5]) rfl rfl rfl rfl rfl rfl (ST_ (L' := ([(g12, .cells #[.int .i64 r3.ID, .int .i64 r3.At, .slice A4 r3.Lines.length c4] 24 (0, 0))] :: [(g3, .cells #[.pointer (some ⟨g1, 0, none⟩)] 31 (0, 0))] :: [(g1, .cells #[.slice A5 l2.length c5, .map (some g7)] 60 (0, 0))] :: ch3 :: [(g7, .map es5 cn5)] :: [(g4, .cells #[.int .i64 p1.ID, .int .i64 p1.At, .slice A1 p1.Lines.length c1] 24 (0, 0))] :: [(g5, .cells #[.int .i64 0] 26 (0, 0))] :: [(g9, .cells #[.map (some g8)] 58 (0, 0))] :: [(g8, .map es2 cn2)] :: L)) 2 0 rfl rfl rfl rfl ?_)))))))))
      refine ⟨Kept.ofT (keep := [[(g3, .cells #[.pointer (some ⟨g1, 0, none⟩)] 31 (0, 0))], [(g7, .map es5 cn5)], [(g4, .cells #[.int .i64 p1.ID, .int .i64 p1.At, .slice A1 p1.Lines.length c1] 24 (0, 0))], [(g5, .cells #[.int .i64 0] 26 (0, 0))], [(g9, .cells #[.map (some g8)] 58 (0, 0))], [(g8, .map es2 cn2)]]) (A := [[(g12, .cells #[.int .i64 r3.ID, .int .i64 r3.At, .slice A4 r3.Lines.length c4] 24 (0, 0))], [(g3, .cells #[.pointer (some ⟨g1, 0, none⟩)] 31 (0, 0))], [(g1, .cells #[.slice A5 l2.length c5, .map (some g7)] 60 (0, 0))], ch3, [(g7, .map es5 cn5)], [(g4, .cells #[.int .i64 p1.ID, .int .i64 p1.At, .slice A1 p1.Lines.length c1] 24 (0, 0))], [(g5, .cells #[.int .i64 0] 26 (0, 0))], [(g9, .cells #[.map (some g8)] 58 (0, 0))], [(g8, .map es2 cn2)]]) (by simp), ?_⟩
      refine P_none (PL_nil (AN.done0 (by kernel_rfl) ?_))
      have e_ := Option.some.inj h747
      subst e_
      exact ⟨l2, A5, c5, ch3, rfl, SubFr.of ⟨rfl, rfl, trivial⟩, SegSub.sel _ [some 6, some 7, some 8, some 1, some 2, some 3, some 4] 9, (hO3)⟩
    refine FO_ rfl rfl (O_bsl (z := [.int .i64 0, .int .i64 0, .slice none 0 0]) rfl rfl rfl rfl rfl rfl rfl (F_cons (cells' := [.int .i64 r3.ID, .int .i64 r3.At, .slice A4 r3.Lines.length c4]) rfl rfl rfl rfl (F_nil (fun g12 => ?_))))
    refine ⟨Kept.ofT (keep := [[(g3, .cells #[.pointer (some ⟨g1, 0, none⟩)] 31 (0, 0))], [(g7, .map es5 cn5)], [(g4, .cells #[.int .i64 p1.ID, .int .i64 p1.At, .slice A1 p1.Lines.length c1] 24 (0, 0))], [(g5, .cells #[.int .i64 0] 26 (0, 0))], [(g9, .cells #[.map (some g8)] 58 (0, 0))], [(g8, .map es2 cn2)]]) (A := [[(g12, .cells #[.int .i64 r3.ID, .int .i64 r3.At, .slice A4 r3.Lines.length c4] 24 (0, 0))], [(g3, .cells #[.pointer (some ⟨g1, 0, none⟩)] 31 (0, 0))], [(g1, .cells #[.slice A3 r2.postings.length c3, .map (some g7)] 60 (0, 0))], ch2, [(g7, .map es5 cn5)], [(g4, .cells #[.int .i64 p1.ID, .int .i64 p1.At, .slice A1 p1.Lines.length c1] 24 (0, 0))], [(g5, .cells #[.int .i64 0] 26 (0, 0))], [(g9, .cells #[.map (some g8)] 58 (0, 0))], [(g8, .map es2 cn2)]]) (by simp), ?_⟩
    refine P_some rfl (AN.run (fuel := 0) (listed' := [true, true, true, true, true, true, true, true, true, true, true, true]) Tt_ok [(false, 4), (false, 8), (true, 9), (true, 10), (false, 11)] (by kernel_rfl) (by kernel_rfl) rfl (PL_f rfl (O_read rfl (R_load rfl rfl rfl (Ex.mk _ (Cell.seg 2 0 rfl rfl rfl) ?_)))))
    refine ⟨Kept.ofT (keep := [[(g3, .cells #[.pointer (some ⟨g1, 0, none⟩)] 31 (0, 0))], [(g7, .map es5 cn5)], [(g4, .cells #[.int .i64 p1.ID, .int .i64 p1.At, .slice A1 p1.Lines.length c1] 24 (0, 0))], [(g5, .cells #[.int .i64 0] 26 (0, 0))], [(g9, .cells #[.map (some g8)] 58 (0, 0))], [(g8, .map es2 cn2)]]) (A := [[(g12, .cells #[.int .i64 r3.ID, .int .i64 r3.At, .slice A4 r3.Lines.length c4] 24 (0, 0))], [(g3, .cells #[.pointer (some ⟨g1, 0, none⟩)] 31 (0, 0))], [(g1, .cells #[.slice A3 r2.postings.length c3, .map (some g7)] 60 (0, 0))], ch2, [(g7, .map es5 cn5)], [(g4, .cells #[.int .i64 p1.ID, .int .i64 p1.At, .slice A1 p1.Lines.length c1] 24 (0, 0))], [(g5, .cells #[.int .i64 0] 26 (0, 0))], [(g9, .cells #[.map (some g8)] 58 (0, 0))], [(g8, .map es2 cn2)]]) (by simp), ?_⟩
    refine P_some rfl (PL_f rfl (O_append rfl (sem_appR (r := r_api_Posting) Tt_ok rfl rfl rfl rfl (by decide) rfl rfl 3 rfl hO2 rfl (Own.rds (L := ([(g12, .cells #[.int .i64 r3.ID, .int .i64 r3.At, .slice A4 r3.Lines.length c4] 24 (0, 0))] :: [(g3, .cells #[.pointer (some ⟨g1, 0, none⟩)] 31 (0, 0))] :: [(g1, .cells #[.slice A3 r2.postings.length c3, .map (some g7)] 60 (0, 0))] :: ch2 :: [(g7, .map es5 cn5)] :: [(g4, .cells #[.int .i64 p1.ID, .int .i64 p1.At, .slice A1 p1.Lines.length c1] 24 (0, 0))] :: [(g5, .cells #[.int .i64 0] 26 (0, 0))] :: [(g9, .cells #[.map (some g8)] 58 (0, 0))] :: [(g8, .map es2 cn2)] :: L)) (Own.lit (r := r_api_Posting) (e := 24) (g := g12) (xs := [r3]) (cs := [.int .i64 r3.ID, .int .i64 r3.At, .slice A4 r3.Lines.length c4]) (css := [[.int .i64 r3.ID, .int .i64 r3.At, .slice A4 r3.Lines.length c4]]) rfl (All2.cons (⟨A4, c4, rfl, hl2, hA4⟩) (All2.nil)) rfl rfl) 0 rfl) hz1 fun A5 c5 ch3 hO3 => ?_)))
    refine ⟨Kept.ofT (keep := [[(g3, .cells #[.pointer (some ⟨g1, 0, none⟩)] 31 (0, 0))], [(g7, .map es5 cn5)], [(g4, .cells #[.int .i64 p1.ID, .int .i64 p1.At, .slice A1 p1.Lines.length c1] 24 (0, 0))], [(g5, .cells #[.int .i64 0] 26 (0, 0))], [(g9, .cells #[.map (some g8)] 58 (0, 0))], [(g8, .map es2 cn2)]]) (A := [[(g12, .cells #[.int .i64 r3.ID, .int .i64 r3.At, .slice A4 r3.Lines.length c4] 24 (0, 0))], [(g3, .cells #[.pointer (some ⟨g1, 0, none⟩)] 31 (0, 0))], [(g1, .cells #[.slice A3 r2.postings.length c3, .map (some g7)] 60 (0, 0))], ch3, [(g7, .map es5 cn5)], [(g4, .cells #[.int .i64 p1.ID, .int .i64 p1.At, .slice A1 p1.Lines.length c1] 24 (0, 0))], [(g5, .cells #[.int .i64 0] 26 (0, 0))], [(g9, .cells #[.map (some g8)] 58 (0, 0))], [(g8, .map es2 cn2)]]) (by simp), ?_⟩
    refine P_some rfl (PL_t rfl (R_nilP rfl (P_some rfl (PL_t rfl (R_fa0 (o' := 0) rfl rfl rfl rfl rfl rfl (P_some rfl (PL_f rfl (O_store (vs := [.slice A5 l2.length c5]) rfl rfl rfl rfl rfl rfl (ST_ (L' := ([(g12, .cells #[.int .i64 r3.ID, .int .i64 r3.At, .slice A4 r3.Lines.length c4] 24 (0, 0))] :: [(g3, .cells #[.pointer (some ⟨g1, 0, none⟩)] 31 (0, 0))] :: [(g1, .cells #[.slice A5 l2.length c5, .map (some g7)] 60 (0, 0))] :: ch3 :: [(g7, .map es5 cn5)] :: [(g4, .cells #[.int .i64 p1.ID, .int .i64 p1.At, .slice A1 p1.Lines.length c1] 24 (0, 0))] :: [(g5, .cells #[.int .i64 0] 26 (0, 0))] :: [(g9, .cells #[.map (some g8)] 58 (0, 0))] :: [(g8, .map es2 cn2)] :: L)) 2 0 rfl rfl rfl rfl ?_)))))))))
    refine ⟨Kept.ofT (keep := [[(g3, .cells #[.pointer (some ⟨g1, 0, none⟩)] 31 (0, 0))], [(g7, .map es5 cn5)], [(g4, .cells #[.int .i64 p1.ID, .int .i64 p1.At, .slice A1 p1.Lines.length c1] 24 (0, 0))], [(g5, .cells #[.int .i64 0] 26 (0, 0))], [(g9, .cells #[.map (some g8)] 58 (0, 0))], [(g8, .map es2 cn2)]]) (A := [[(g12, .cells #[.int .i64 r3.ID, .int .i64 r3.At, .slice A4 r3.Lines.length c4] 24 (0, 0))], [(g3, .cells #[.pointer (some ⟨g1, 0, none⟩)] 31 (0, 0))], [(g1, .cells #[.slice A5 l2.length c5, .map (some g7)] 60 (0, 0))], ch3, [(g7, .map es5 cn5)], [(g4, .cells #[.int .i64 p1.ID, .int .i64 p1.At, .slice A1 p1.Lines.length c1] 24 (0, 0))], [(g5, .cells #[.int .i64 0] 26 (0, 0))], [(g9, .cells #[.map (some g8)] 58 (0, 0))], [(g8, .map es2 cn2)]]) (by simp), ?_⟩
    refine P_none (PL_nil (AN.done0 (by kernel_rfl) ?_))
    have e_ := Option.some.inj h747
    subst e_
    exact ⟨l2, A5, c5, ch3, rfl, SubFr.of ⟨rfl, rfl, trivial⟩, SegSub.sel _ [some 6, some 7, some 8, some 1, some 2, some 3, some 4] 9, (hO3)⟩
  rintro fr747 μ747 L747 hm747 ⟨f1, A6, c6, ch4, ho747, hF747, hS747, hO4⟩
  subst ho747
  replace hA1 := hA1.mono hm747
  replace hO1 := hO1.mono hm747
  replace hP2 := hP2.mono hm747
  replace hO2 := hO2.mono hm747
  refine hK722 _ _ _ (WPG.at hF747 hS747 (WPG.seqP (fun K800 hK800 => WP.region Tt_ok (O_cons (O_store (vs := [.int .i64 0]) rfl rfl rfl rfl rfl rfl (ST_ (L' := ([(g5, .cells #[.int .i64 0] 26 (0, 0))] :: [(g9, .cells #[.map (some g8)] 58 (0, 0))] :: [(g8, .map es2 cn2)] :: [(g3, .cells #[.pointer (some ⟨g1, 0, none⟩)] 31 (0, 0))] :: [(g1, .cells #[.slice A6 f1.length c6, .map (some g7)] 60 (0, 0))] :: ch4 :: [(g7, .map es5 cn5)] :: L)) 0 0 rfl rfl rfl rfl (P_none (O_nil (hK800 _ _ _ (WPG.last (WP.ret (FinG.cons (.inr rfl) Try.func33 (by kernel_rfl) rfl Try.ntmps33 rfl (by simp) ?_))))))))))))
  simp only [Try.f33, argFr, List.zipIdx, List.map, Nat.reduceAdd, List.toList_toArray]
  refine WP.seq_k (fun K802 hK802 => WP.region Tt_ok (O_cons (O_read rfl (R_load rfl rfl rfl (Ex.mk _ (Cell.seg 0 0 rfl rfl rfl) (P_some rfl (O_cons (O_read rfl (R_neqD rfl rfl (P_some rfl (O_nil (hK802 _ _ _ ?_))))))))))))
  refine W_cond_v (b := !(decide (0 = 0))) rfl (fun hc9 => ?_) (fun hc9 => ?_)
  · replace h := cond_t hc9 h
    refine WP.region Tt_ok (O_cons (O_read rfl (R_load rfl rfl rfl (Ex.mk _ (Cell.seg 3 0 rfl rfl rfl) (P_some rfl (O_cons (O_read rfl (R_load rfl rfl rfl (Ex.mk _ (Cell.seg 1 0 rfl rfl rfl) (P_some rfl (O_cons (O_read rfl (R_nilP rfl ?_)))))))))))))
    refine P_some rfl (O_cons (O_read rfl (R_fa0 (o' := 1) rfl rfl rfl rfl rfl rfl (P_some rfl (O_cons (O_store (vs := [.map (some g8)]) rfl rfl rfl rfl rfl rfl (ST_ (L' := ([(g5, .cells #[.int .i64 0] 26 (0, 0))] :: [(g9, .cells #[.map (some g8)] 58 (0, 0))] :: [(g8, .map es2 cn2)] :: [(g3, .cells #[.pointer (some ⟨g1, 0, none⟩)] 31 (0, 0))] :: [(g1, .cells #[.slice A6 f1.length c6, .map (some g8)] 60 (0, 0))] :: ch4 :: [(g7, .map es5 cn5)] :: L)) 4 0 rfl rfl rfl rfl (P_none (O_nil (FinG.nil (.inr rfl) Tt_ok ?_))))))))))
    have e_ := Option.some.inj h
    obtain ⟨e0a_, e0b_⟩ := Prod.mk.inj e_
    clear e_
    subst e0a_
    subst e0b_
    refine S_cell1 rfl rfl rfl (Ex.mk _ (Cell.seg 0 0 rfl rfl rfl) (S_nil (Upd.seg (L2 := (((g1, Obj.cells #[.slice A6 f1.length c6, .map (some g8)] 60 (0, 0)) :: (ch4 ++ ((g8, Obj.map es2 cn2) :: []))) :: L)) (SegSub.trans (SegSub.flat (by simp [selS])) (SegSub.sel _ [some 4, some 5, some 2] 7)) ?_)))
    exact Upd.done (hR _ ((g1, Obj.cells #[.slice A6 f1.length c6, .map (some g8)] 60 (0, 0)) :: (ch4 ++ ((g8, Obj.map es2 cn2) :: []))) (Gh.le.trans hm557 (Gh.le.trans hm633 (hm747))) (⟨g1, A6, c6, ch4, g8, es2, cn2, rfl, rfl, hO4, hM2⟩))
  replace h := cond_f hc9 h
  refine WP.skip (FinG.nil (.inr rfl) Tt_ok ?_)
  have e_ := Option.some.inj h
  obtain ⟨e0a_, e0b_⟩ := Prod.mk.inj e_
  clear e_
  subst e0a_
  subst e0b_
  refine S_cell1 rfl rfl rfl (Ex.mk _ (Cell.seg 0 0 rfl rfl rfl) (S_nil (Upd.seg (L2 := (((g1, Obj.cells #[.slice A6 f1.length c6, .map (some g7)] 60 (0, 0)) :: (ch4 ++ ((g7, Obj.map es5 cn5) :: []))) :: L)) (SegSub.trans (SegSub.flat (by simp [selS])) (SegSub.sel _ [some 4, some 5, some 6] 7)) ?_)))
  exact Upd.done (hR _ ((g1, Obj.cells #[.slice A6 f1.length c6, .map (some g7)] 60 (0, 0)) :: (ch4 ++ ((g7, Obj.map es5 cn5) :: []))) (Gh.le.trans hm557 (Gh.le.trans hm633 (hm747))) (⟨g1, A6, c6, ch4, g7, es5, cn5, rfl, rfl, hO4, hM5⟩))

theorem ledger_Ledger_Balance_fn {μ : Gh} {L : List Seg} {R : Value → Gh → List Seg → Prop}  {l1 : T_ledger_Ledger} {account1 : Int} {pv1 : Value} {so1 : Seg} {res1 : Int} {res2 : T_ledger_Ledger}
    (hP1 : Obj_ledger_Ledger μ pv1 l1 so1) (h : ledger_Ledger_Balance l1 account1 = some (res1, res2))
    (hR : ∀ (sp0 : Seg), Obj_ledger_Ledger μ pv1 res2 sp0 → R (.int .i64 res1) μ (sp0 :: L)) :
    Fn Try.prog 24 [pv1, .int .i64 account1] μ (so1 :: L) R := by
  unfold ledger_Ledger_Balance at h
  refine Fn.of_body Tt_ok Try.func24 (by kernel_rfl) rfl Try.ntmps24 (by simp) ?_
  simp only [Try.f24, argFr, List.zipIdx, List.map, Nat.reduceAdd]
  refine WP.seq_k (fun K852 hK852 => WP.region Tt_ok (O_cons (O_read rfl (R_assign rfl (P_some rfl (O_nil (hK852 _ _ _ (WP.seq_k (fun K853 hK853 => WP.seq_k (fun K854 hK854 => ?_))))))))))
  obtain ⟨g1, A1, c1, ch1, g2, es1, cn1, hv1, rfl, hO1, hM1⟩ := hP1
  subst hv1
  refine WP.seg (L2 := ([(g1, .cells #[.slice A1 l1.postings.length c1, .map (some g2)] 60 (0, 0))] :: ch1 :: [(g2, .map es1 cn1)] :: L)) (SegSub.flat (by simp)) (WP.region Tt_ok (O_cons (O_read rfl (R_move rfl (P_some rfl (O_cons (O_read rfl (R_eqP1 rfl rfl rfl rfl (P_some rfl (O_nil (hK854 _ _ _ (W_cond_f rfl (WP.skip ?_)))))))))))))
  refine hK853 _ _ _ (WP.seq_k (fun K859 hK859 => WP.region Tt_ok (O_cons (O_read rfl (R_move rfl (P_some rfl (O_cons (O_read rfl (R_nilP rfl (P_some rfl (O_cons (O_read rfl (R_fa0 (o' := 1) rfl rfl rfl rfl rfl rfl ?_)))))))))))))
  refine P_some rfl (O_cons (O_read rfl (R_load rfl rfl rfl (Ex.mk _ (Cell.seg 0 0 rfl rfl rfl) (P_some rfl (O_cons (O_read rfl (R_move rfl (P_some rfl (O_cons (O_read rfl (R_look rfl rfl rfl rfl rfl rfl rfl rfl (Ex.mk _ (hM1.look (ObjAt.seg 2 0 rfl rfl) (zb := 0) rfl account1) ?_)))))))))))))
  refine P_some rfl (O_cons (O_read rfl (R_assign rfl (P_some rfl (O_nil (hK859 _ _ _ (WP.ret ?_)))))))
  have e_ := Option.some.inj h
  obtain ⟨e0a_, e0b_⟩ := Prod.mk.inj e_
  clear e_
  subst e0a_
  subst e0b_
  refine S_tmp rfl (S_nil (Upd.seg (L2 := (((g1, Obj.cells #[.slice A1 l1.postings.length c1, .map (some g2)] 60 (0, 0)) :: (ch1 ++ ((g2, Obj.map es1 cn1) :: []))) :: L)) (SegSub.trans (SegSub.flat (by simp [selS])) (SegSub.sel _ [some 0, some 1, some 2] 3)) ?_))
  exact Upd.done (hR ((g1, Obj.cells #[.slice A1 l1.postings.length c1, .map (some g2)] 60 (0, 0)) :: (ch1 ++ ((g2, Obj.map es1 cn1) :: []))) (⟨g1, A1, c1, ch1, g2, es1, cn1, rfl, rfl, hO1, hM1⟩))

theorem ledger_Ledger_At_fn {μ : Gh} {L : List Seg} {R : Value → Gh → List Seg → Prop}  {l1 : T_ledger_Ledger} {account1 : Int} {t1 : Int} {pv1 : Value} {so1 : Seg} {res1 : Int} {res2 : T_ledger_Ledger}
    (hP1 : Obj_ledger_Ledger μ pv1 l1 so1) (h : ledger_Ledger_At l1 account1 t1 = some (res1, res2))
    (hR : ∀ (sp0 : Seg), Obj_ledger_Ledger μ pv1 res2 sp0 → R (.int .i64 res1) μ (sp0 :: L)) :
    Fn Try.prog 26 [pv1, .int .i64 account1, .int .i64 t1] μ (so1 :: L) R := by
  unfold ledger_Ledger_At at h
  refine Fn.of_body Tt_ok Try.func26 (by kernel_rfl) rfl Try.ntmps26 (by simp) ?_
  simp only [Try.f26, argFr, List.zipIdx, List.map, Nat.reduceAdd]
  refine WP.seq_k (fun K984 hK984 => WP.region Tt_ok (O_cons (O_read rfl (R_assign rfl (P_some rfl (O_nil (hK984 _ _ _ (WP.seq_k (fun K985 hK985 => WP.seq_k (fun K986 hK986 => ?_))))))))))
  obtain ⟨g1, A1, c1, ch1, g2, es1, cn1, hv1, rfl, hO1, hM1⟩ := hP1
  subst hv1
  refine WP.seg (L2 := ([(g1, .cells #[.slice A1 l1.postings.length c1, .map (some g2)] 60 (0, 0))] :: ch1 :: [(g2, .map es1 cn1)] :: L)) (SegSub.flat (by simp)) (WP.region Tt_ok (O_cons (O_read rfl (R_move rfl (P_some rfl (O_cons (O_read rfl (R_eqP1 rfl rfl rfl rfl (P_some rfl (O_nil (hK986 _ _ _ (W_cond_f rfl (WP.skip ?_)))))))))))))
  refine hK985 _ _ _ (WP.seq_k (fun K991 hK991 => WP.region Tt_ok (O_cons (O_read rfl (R_assign rfl (P_some rfl (O_nil (hK991 _ _ _ (WP.seq_k (fun K992 hK992 => WP.seq_k (fun K993 hK993 => WP.region Tt_ok (O_cons (O_read rfl ?_)))))))))))))
  refine R_move rfl (P_some rfl (O_cons (O_read rfl (R_nilP rfl (P_some rfl (O_cons (O_read rfl (R_fa0 (o' := 0) rfl rfl rfl rfl rfl rfl (P_some rfl (O_cons (O_read rfl (R_load rfl rfl rfl (Ex.mk _ (Cell.seg 0 0 rfl rfl rfl) ?_)))))))))))))
  refine P_some rfl (O_cons (O_read rfl (R_lenS rfl rfl rfl (P_some rfl (O_cons (O_read rfl (R_move rfl (P_some rfl (O_nil (hK993 _ _ _ ?_))))))))))
  obtain ⟨o994, h994, h⟩ := obind h
  refine WP.cutK (fun fr_ μ_ L_ => ∃ (n6 : Int), n6 = o994 ∧ SubFr [(7, .int .i64 n6)] fr_ ∧ SegSub ([(g1, .cells #[.slice A1 l1.postings.length c1, .map (some g2)] 60 (0, 0))] :: ch1 :: [(g2, .map es1 cn1)] :: L) L_ ∧ μ = μ_) ?_ ?_
  · refine WP.block (WP.iter h994 (fun (j_ : Int × Int) fr_ μ_ L_ => ounP j_ fun n1 v1 => SubFr [(1, .int .i64 account1), (2, .int .i64 t1), (7, .int .i64 n1), (17, .slice A1 l1.postings.length c1), (18, .int .i64 ((l1.postings.length : Nat) : Int)), (19, .int .i64 v1)] fr_ ∧ SegSub (ch1 :: [(g1, .cells #[.slice A1 l1.postings.length c1, .map (some g2)] 60 (0, 0))] :: [(g2, .map es1 cn1)] :: L) L_ ∧ μ = μ_) ⟨SubFr.of ⟨rfl, rfl, rfl, rfl, rfl, rfl, trivial⟩, SegSub.sel _ [some 1, some 0, some 2] 3, rfl⟩ ?_)
    rintro ⟨n1, v1⟩ q1048 fr1048 μ1048 L1048 hm1048 ⟨hF1048, hS1048, hu1048⟩ hb1048 hq1048
    unfold ledger_Ledger_At_l2 at hb1048
    replace hb1048 := oun_mk hb1048
    subst hu1048
    refine WP.at hF1048 hS1048 (WP.seq_k (fun K1052 hK1052 => WP.region Tt_ok (O_cons (O_read rfl (R_lssD rfl rfl (P_some rfl (O_nil (hK1052 _ _ _ (WP.seq_k (fun K1053 hK1053 => ?_))))))))))
    refine W_cond_v (b := (decide (v1 < ((l1.postings.length : Nat) : Int)))) rfl (fun hc1 => ?_) (fun hc1 => ?_)
    · replace hb1048 := cond_t hc1 hb1048
      refine WP.skip (hK1053 _ _ _ (WP.seq_k (fun K1054 hK1054 => ?_)))
      obtain ⟨o1055, h1055, hb1048⟩ := obind hb1048
      refine WP.cutK (fun fr_ μ_ L_ => ∃ (n5 : Int), (.inl n5) = o1055 ∧ SubFr [(1, .int .i64 account1), (2, .int .i64 t1), (7, .int .i64 n5), (17, .slice A1 l1.postings.length c1), (18, .int .i64 ((l1.postings.length : Nat) : Int)), (19, .int .i64 v1)] fr_ ∧ SegSub (ch1 :: [(g1, .cells #[.slice A1 l1.postings.length c1, .map (some g2)] 60 (0, 0))] :: [(g2, .map es1 cn1)] :: L) L_ ∧ μ = μ_) ?_ ?_
      · refine WP.block (WP.seq_k (fun K1056 hK1056 => WP.region Tt_ok (O_cons ?_)))
        obtain ⟨x1, hx1, h1055⟩ := obind h1055
        obtain ⟨a1, cs1, hA1, hr1, _, hc2⟩ := Rds.getI (Own.rds (L := (ch1 :: [(g1, .cells #[.slice A1 l1.postings.length c1, .map (some g2)] 60 (0, 0))] :: [(g2, .map es1 cn1)] :: L)) hO1 0 rfl) hx1
        obtain ⟨A2, c2, rfl, hl1, hA2⟩ := hr1
        refine O_read rfl (R_iaG rfl rfl rfl rfl rfl rfl ⟨(getI_lt hx1).1, (getI_lt hx1).2.1⟩ hA1 (P_some rfl (O_cons (O_read rfl (R_loadA rfl rfl rfl rfl (Ex.mk [.int .i64 x1.ID, .int .i64 x1.At, .slice A2 x1.Lines.length c2] ⟨rfl, hc2⟩ (P_some rfl (O_cons (O_alloc (cs := #[.int .i64 0, .int .i64 0, .slice none 0 0]) rfl rfl (fun g3 => P_some rfl (O_cons (O_store (vs := [.int .i64 x1.ID, .int .i64 x1.At, .slice A2 x1.Lines.length c2]) rfl rfl rfl rfl rfl rfl (ST_ (L' := ([(g3, .cells #[.int .i64 x1.ID, .int .i64 x1.At, .slice A2 x1.Lines.length c2] 24 (0, 0))] :: ch1 :: [(g1, .cells #[.slice A1 l1.postings.length c1, .map (some g2)] 60 (0, 0))] :: [(g2, .map es1 cn1)] :: L)) 0 0 rfl rfl rfl rfl ?_)))))))))))))
        refine P_none (O_nil (hK1056 _ _ _ (WP.seq_k (fun K1061 hK1061 => WP.seq_k (fun K1062 hK1062 => WP.region Tt_ok (O_cons (O_read rfl (R_fa0 (o' := 1) rfl rfl rfl rfl rfl rfl (P_some rfl (O_cons (O_read rfl (R_load rfl rfl rfl (Ex.mk _ (Cell.seg 0 0 rfl rfl rfl) ?_)))))))))))))
        refine P_some rfl (O_cons (O_read rfl (R_move rfl (P_some rfl (O_cons (O_read rfl (R_gtrD rfl rfl (P_some rfl (O_nil (hK1062 _ _ _ ?_))))))))))
        refine W_cond_v (b := (decide (t1 < x1.At))) rfl (fun hc3 => ?_) (fun hc3 => ?_)
        · replace h1055 := cond_t hc3 h1055
          refine WP.exit (B_out rfl (B_here ?_))
          have e_ := Option.some.inj h1055
          subst e_
          replace hb1048 := osum_r hb1048
          have e_ := Option.some.inj hb1048
          subst e_
          have hq_ := hq1048 _ rfl
          subst hq_
          exact ⟨n1, rfl, SubFr.of ⟨rfl, trivial⟩, SegSub.sel _ [some 2, some 1, some 3] 4, rfl⟩
        replace h1055 := cond_f hc3 h1055
        refine WP.skip (hK1061 _ _ _ (WP.seq_k (fun K1063 hK1063 => WP.region Tt_ok (O_cons (O_read rfl (R_fa0 (o' := 2) rfl rfl rfl rfl rfl rfl (P_some rfl (O_cons (O_read rfl (R_load rfl rfl rfl (Ex.mk _ (Cell.seg 0 0 rfl rfl rfl) (P_some rfl (O_cons ?_)))))))))))))
        refine O_read rfl (R_lenS rfl rfl rfl (P_some rfl (O_cons (O_read rfl (R_move rfl (P_some rfl (O_nil (hK1063 _ _ _ ?_))))))))
        obtain ⟨o1064, h1064, h1055⟩ := obind h1055
        refine WP.cutK (fun fr_ μ_ L_ => ∃ (n4 : Int), n4 = o1064 ∧ SubFr [(1, .int .i64 account1), (2, .int .i64 t1), (7, .int .i64 n4), (17, .slice A1 l1.postings.length c1), (18, .int .i64 ((l1.postings.length : Nat) : Int)), (19, .int .i64 v1)] fr_ ∧ SegSub (ch1 :: [(g1, .cells #[.slice A1 l1.postings.length c1, .map (some g2)] 60 (0, 0))] :: [(g2, .map es1 cn1)] :: L) L_ ∧ μ = μ_) ?_ ?_
        · refine WP.block (WP.iter h1064 (fun (j_ : Int × Int) fr_ μ_ L_ => ounP j_ fun n2 v2 => SubFr [(1, .int .i64 account1), (2, .int .i64 t1), (7, .int .i64 n2), (17, .slice A1 l1.postings.length c1), (18, .int .i64 ((l1.postings.length : Nat) : Int)), (19, .int .i64 v1), (28, .slice A2 x1.Lines.length c2), (29, .int .i64 ((x1.Lines.length : Nat) : Int)), (30, .int .i64 v2)] fr_ ∧ SegSub (ch1 :: [(g1, .cells #[.slice A1 l1.postings.length c1, .map (some g2)] 60 (0, 0))] :: [(g2, .map es1 cn1)] :: L) L_ ∧ μ = μ_) ⟨SubFr.of ⟨rfl, rfl, rfl, rfl, rfl, rfl, rfl, rfl, rfl, trivial⟩, SegSub.sel _ [some 1, some 2, some 3] 4, rfl⟩ ?_)
          rintro ⟨n2, v2⟩ q1080 fr1080 μ1080 L1080 hm1080 ⟨hF1080, hS1080, hu1080⟩ hb1080 hq1080
          unfold ledger_Ledger_At_l1 at hb1080
          replace hb1080 := oun_mk hb1080
          subst hu1080
          refine WP.at hF1080 hS1080 (WP.seq_k (fun K1085 hK1085 => WP.region Tt_ok (O_cons (O_read rfl (R_lssD rfl rfl (P_some rfl (O_nil (hK1085 _ _ _ (WP.seq_k (fun K1086 hK1086 => ?_))))))))))
          refine W_cond_v (b := (decide (v2 < ((x1.Lines.length : Nat) : Int)))) rfl (fun hc4 => ?_) (fun hc4 => ?_)
          · replace hb1080 := cond_t hc4 hb1080
            refine WP.skip (hK1086 _ _ _ (WP.seq_k (fun K1087 hK1087 => ?_)))
            obtain ⟨o1088, h1088, hb1080⟩ := obind hb1080
            refine WP.cutK (fun fr_ μ_ L_ => ∃ (n3 : Int), n3 = o1088 ∧ SubFr [(1, .int .i64 account1), (2, .int .i64 t1), (7, .int .i64 n3), (17, .slice A1 l1.postings.length c1), (18, .int .i64 ((l1.postings.length : Nat) : Int)), (19, .int .i64 v1), (28, .slice A2 x1.Lines.length c2), (29, .int .i64 ((x1.Lines.length : Nat) : Int)), (30, .int .i64 v2)] fr_ ∧ SegSub (ch1 :: [(g1, .cells #[.slice A1 l1.postings.length c1, .map (some g2)] 60 (0, 0))] :: [(g2, .map es1 cn1)] :: L) L_ ∧ μ = μ_) ?_ ?_
            · refine WP.block (WP.seq_k (fun K1089 hK1089 => WP.region Tt_ok (O_cons ?_)))
              obtain ⟨x2, hx2, h1088⟩ := obind h1088
              obtain ⟨a2, cs2, hA3, hr2, _, hc5⟩ := Rds.getI (ArrR.rds hA2 L) hx2
              obtain rfl := hr2
              refine O_read rfl (R_iaG rfl rfl rfl rfl rfl rfl ⟨(getI_lt hx2).1, (getI_lt hx2).2.1⟩ hA3 (P_some rfl (O_cons (O_read rfl (R_loadA rfl rfl rfl rfl (Ex.mk [.int .i64 x2.Account, .int .i64 x2.Amount] ⟨rfl, (hc5.push.push.push)⟩ (P_some rfl (O_cons (O_alloc (cs := #[.int .i64 0, .int .i64 0]) rfl rfl (fun g4 => P_some rfl (O_cons (O_store (vs := [.int .i64 x2.Account, .int .i64 x2.Amount]) rfl rfl rfl rfl rfl rfl (ST_ (L' := ([(g4, .cells #[.int .i64 x2.Account, .int .i64 x2.Amount] 49 (0, 0))] :: ch1 :: [(g1, .cells #[.slice A1 l1.postings.length c1, .map (some g2)] 60 (0, 0))] :: [(g2, .map es1 cn1)] :: L)) 0 0 rfl rfl rfl rfl ?_)))))))))))))
              refine P_none (O_nil (hK1089 _ _ _ (WP.seq_k (fun K1092 hK1092 => WP.region Tt_ok (O_cons (O_read rfl (R_fa0 (o' := 0) rfl rfl rfl rfl rfl rfl (P_some rfl (O_cons (O_read rfl (R_load rfl rfl rfl (Ex.mk _ (Cell.seg 0 0 rfl rfl rfl) (P_some rfl ?_)))))))))))))
              refine O_cons (O_read rfl (R_move rfl (P_some rfl (O_cons (O_read rfl (R_eqlD rfl rfl (P_some rfl (O_nil (hK1092 _ _ _ ?_)))))))))
              refine W_cond_v (b := (decide (x2.Account = account1))) rfl (fun hc6 => ?_) (fun hc6 => ?_)
              · replace h1088 := cond_t hc6 h1088
                refine WP.region Tt_ok (O_cons (O_read rfl (R_move rfl (P_some rfl (O_cons (O_read rfl (R_fa0 (o' := 1) rfl rfl rfl rfl rfl rfl (P_some rfl (O_cons (O_read rfl (R_load rfl rfl rfl (Ex.mk _ (Cell.seg 0 0 rfl rfl rfl) (P_some rfl ?_)))))))))))))
                refine O_cons (O_read rfl (R_add rfl rfl (P_some rfl (O_cons (O_read rfl (R_assign rfl (P_some rfl (O_nil ?_))))))))
                have e_ := Option.some.inj h1088
                subst e_
                exact ⟨w64 (n2 + x2.Amount), rfl, SubFr.of ⟨rfl, rfl, rfl, rfl, rfl, rfl, rfl, rfl, rfl, trivial⟩, SegSub.sel _ [some 1, some 2, some 3] 4, rfl⟩
              replace h1088 := cond_f hc6 h1088
              apply WP.skip
              have e_ := Option.some.inj h1088
              subst e_
              exact ⟨n2, rfl, SubFr.of ⟨rfl, rfl, rfl, rfl, rfl, rfl, rfl, rfl, rfl, trivial⟩, SegSub.sel _ [some 1, some 2, some 3] 4, rfl⟩
            rintro fr1088 μ1088 L1088 hm1088 ⟨n3, ho1088, hF1088, hS1088, hu1088⟩
            subst ho1088
            subst hu1088
            refine hK1087 _ _ _ (WP.at hF1088 hS1088 (WP.region Tt_ok (O_cons (O_read rfl (R_add rfl rfl (P_some rfl (O_cons (O_read rfl (R_move rfl (P_some rfl (O_nil ?_)))))))))))
            have e_ := Option.some.inj hb1080
            subst e_
            exact ⟨_, rfl, SubFr.of ⟨rfl, rfl, rfl, rfl, rfl, rfl, rfl, rfl, rfl, trivial⟩, SegSub.sel _ [some 0, some 1, some 2] 3, rfl⟩
          replace hb1080 := cond_f hc4 hb1080
          refine WP.exit (B_here ?_)
          have e_ := Option.some.inj hb1080
          subst e_
          have hq_ := hq1080 _ rfl
          subst hq_
          exact ⟨n2, rfl, SubFr.of ⟨rfl, rfl, rfl, rfl, rfl, rfl, trivial⟩, SegSub.sel _ [some 0, some 1, some 2] 3, rfl⟩
        rintro fr1064 μ1064 L1064 hm1064 ⟨n4, ho1064, hF1064, hS1064, hu1064⟩
        subst ho1064
        subst hu1064
        have e_ := Option.some.inj h1055
        subst e_
        exact ⟨n4, rfl, SubFr.trans (fr := [(1, .int .i64 account1), (2, .int .i64 t1), (7, .int .i64 n4), (17, .slice A1 l1.postings.length c1), (18, .int .i64 ((l1.postings.length : Nat) : Int)), (19, .int .i64 v1)]) (SubFr.of ⟨rfl, rfl, rfl, rfl, rfl, rfl, trivial⟩) hF1064, SegSub.trans (M := (ch1 :: [(g1, .cells #[.slice A1 l1.postings.length c1, .map (some g2)] 60 (0, 0))] :: [(g2, .map es1 cn1)] :: L)) (SegSub.sel _ [some 0, some 1, some 2] 3) hS1064, rfl⟩
      rintro fr1055 μ1055 L1055 hm1055 ⟨n5, ho1055, hF1055, hS1055, hu1055⟩
      subst ho1055
      replace hb1048 := osum_l hb1048
      subst hu1055
      refine hK1054 _ _ _ (WP.at hF1055 hS1055 (WP.region Tt_ok (O_cons (O_read rfl (R_add rfl rfl (P_some rfl (O_cons (O_read rfl (R_move rfl (P_some rfl (O_nil ?_)))))))))))
      have e_ := Option.some.inj hb1048
      subst e_
      exact ⟨_, rfl, SubFr.of ⟨rfl, rfl, rfl, rfl, rfl, rfl, trivial⟩, SegSub.sel _ [some 0, some 1, some 2] 3, rfl⟩
    replace hb1048 := cond_f hc1 hb1048
    refine WP.exit (B_here ?_)
    have e_ := Option.some.inj hb1048
    subst e_
    have hq_ := hq1048 _ rfl
    subst hq_
    exact ⟨n1, rfl, SubFr.of ⟨rfl, trivial⟩, SegSub.sel _ [some 1, some 0, some 2] 3, rfl⟩
  rintro fr994 μ994 L994 hm994 ⟨n6, ho994, hF994, hS994, hu994⟩
  subst ho994
  subst hu994
  refine hK992 _ _ _ (WP.at hF994 hS994 (WP.seq_k (fun K1103 hK1103 => WP.region Tt_ok (O_cons (O_read rfl (R_move rfl (P_some rfl (O_cons (O_read rfl (R_assign rfl (P_some rfl (O_nil (hK1103 _ _ _ ?_)))))))))))))
  apply WP.ret
  have e_ := Option.some.inj h
  obtain ⟨e0a_, e0b_⟩ := Prod.mk.inj e_
  clear e_
  subst e0a_
  subst e0b_
  refine S_tmp rfl (S_nil (Upd.seg (L2 := (((g1, Obj.cells #[.slice A1 l1.postings.length c1, .map (some g2)] 60 (0, 0)) :: (ch1 ++ ((g2, Obj.map es1 cn1) :: []))) :: L)) (SegSub.trans (SegSub.flat (by simp [selS])) (SegSub.sel _ [some 0, some 1, some 2] 3)) ?_))
  exact Upd.done (hR ((g1, Obj.cells #[.slice A1 l1.postings.length c1, .map (some g2)] 60 (0, 0)) :: (ch1 ++ ((g2, Obj.map es1 cn1) :: []))) (⟨g1, A1, c1, ch1, g2, es1, cn1, rfl, rfl, hO1, hM1⟩))

theorem ledger_Ledger_Accounts_fn {μ : Gh} {L : List Seg} {R : Value → Gh → List Seg → Prop}  {l1 : T_ledger_Ledger} {pv1 : Value} {so1 : Seg} {res1 : (List Int)} {res2 : T_ledger_Ledger}
    (hP1 : Obj_ledger_Ledger μ pv1 l1 so1) (h : ledger_Ledger_Accounts l1 = some (res1, res2))
    (hR : ∀ (A0 : Option Addr) (c0 : Nat) (ch0 : Seg) (sp0 : Seg), Own rInt 3 μ (.slice A0 res1.length c0) res1 ch0 → Obj_ledger_Ledger μ pv1 res2 sp0 → R (.slice A0 res1.length c0) μ (ch0 :: sp0 :: L)) :
    Fn Try.prog 21 [pv1] μ (so1 :: L) R := by
  unfold ledger_Ledger_Accounts at h
  refine Fn.of_body Tt_ok Try.func21 (by kernel_rfl) rfl Try.ntmps21 (by simp) ?_
  simp only [Try.f21, argFr, List.zipIdx, List.map, Nat.reduceAdd]
  refine WP.seq_k (fun K1121 hK1121 => WP.region Tt_ok (O_cons (O_read rfl (R_assign rfl (P_some rfl (O_nil (hK1121 _ _ _ (WP.seq_k (fun K1126 hK1126 => WP.seq_k (fun K1127 hK1127 => ?_))))))))))
  obtain ⟨g1, A1, c1, ch1, g2, es1, cn1, hv1, rfl, hO1, hM1⟩ := hP1
  subst hv1
  refine WP.seg (L2 := ([(g1, .cells #[.slice A1 l1.postings.length c1, .map (some g2)] 60 (0, 0))] :: ch1 :: [(g2, .map es1 cn1)] :: L)) (SegSub.flat (by simp)) (WP.region Tt_ok (O_cons (O_read rfl (R_move rfl (P_some rfl (O_cons (O_read rfl (R_eqP1 rfl rfl rfl rfl (P_some rfl (O_nil (hK1127 _ _ _ (W_cond_f rfl (WP.skip ?_)))))))))))))
  refine hK1126 _ _ _ (WP.seq_k (fun K1132 hK1132 => WP.region Tt_ok (O_cons (O_read rfl (R_move rfl (P_some rfl (O_cons (O_read rfl (R_nilP rfl (P_some rfl (O_cons (O_read rfl (R_fa0 (o' := 1) rfl rfl rfl rfl rfl rfl ?_)))))))))))))
  refine P_some rfl (O_cons (O_read rfl (R_load rfl rfl rfl (Ex.mk _ (Cell.seg 0 0 rfl rfl rfl) (P_some rfl (O_cons (O_call (all := [.map (some g2)]) rfl rfl rfl (keysI_fn fun g3 => P_some rfl (O_cons (O_call (all := [.func (.func 43) #[] #[.pointer (some ⟨g3, 0, none⟩)]]) rfl rfl rfl ?_))))))))))
  obtain ⟨l2, hs1, h⟩ := obind h
  refine sortedKeys_fn 0 3 rfl rfl hM1 hs1 fun A2 c2 ch2 hO2 => P_some rfl (O_cons (O_read rfl (R_assign rfl (P_some rfl (O_nil (hK1132 _ _ _ (WP.ret ?_)))))))
  have e_ := Option.some.inj h
  obtain ⟨e0a_, e0b_⟩ := Prod.mk.inj e_
  clear e_
  subst e0a_
  subst e0b_
  refine S_tmp rfl (S_nil (Upd.seg (L2 := (ch2 :: ((g1, Obj.cells #[.slice A1 l1.postings.length c1, .map (some g2)] 60 (0, 0)) :: (ch1 ++ ((g2, Obj.map es1 cn1) :: []))) :: L)) (SegSub.trans (SegSub.flat (by simp [selS])) (SegSub.sel _ [some 0, some 2, some 3, some 4] 5)) ?_))
  exact Upd.done (hR A2 c2 ch2 ((g1, Obj.cells #[.slice A1 l1.postings.length c1, .map (some g2)] 60 (0, 0)) :: (ch1 ++ ((g2, Obj.map es1 cn1) :: []))) (hO2) (⟨g1, A1, c1, ch1, g2, es1, cn1, rfl, rfl, hO1, hM1⟩))

theorem recyclingref48_SameInts_fn {μ : Gh} {L : List Seg} {R : Value → Gh → List Seg → Prop}  {a1 : (List Int)} {b1 : (List Int)} {A1 : Option Addr} {c1 : Nat} {A2 : Option Addr} {c2 : Nat} {res1 : Bool}
    (hl1 : a1.length ≤ c1 ∧ c1 ≤ maxLen) (hA1 : Rds rInt μ L A1 a1) (hl2 : b1.length ≤ c2 ∧ c2 ≤ maxLen) (hA2 : Rds rInt μ L A2 b1) (h : recyclingref48_SameInts a1 b1 = some res1)
    (hR : R (.bool res1) μ (L)) :
    Fn Try.prog 20 [.slice A1 a1.length c1, .slice A2 b1.length c2] μ (L) R := by
  unfold recyclingref48_SameInts at h
  refine Fn.of_body Tt_ok Try.func20 (by kernel_rfl) rfl Try.ntmps20 (by simp) ?_
  simp only [Try.f20, argFr, List.zipIdx, List.map, Nat.reduceAdd]
  refine WP.seq_k (fun K1140 hK1140 => WP.region Tt_ok (O_cons (O_read rfl (R_assign rfl (P_some rfl (O_nil (hK1140 _ _ _ (WP.seq_k (fun K1141 hK1141 => WP.seq_k (fun K1142 hK1142 => WP.region Tt_ok (O_cons (O_read rfl (R_move rfl ?_)))))))))))))
  refine P_some rfl (O_cons (O_read rfl (R_lenS rfl rfl rfl (P_some rfl (O_cons (O_read rfl (R_move rfl (P_some rfl (O_cons (O_read rfl (R_lenS rfl rfl rfl (P_some rfl (O_cons ?_)))))))))))))
  refine O_read rfl (R_neqD rfl rfl (P_some rfl (O_nil (hK1142 _ _ _ ?_))))
  refine W_cond_v (b := !(decide (((a1.length : Nat) : Int) = ((b1.length : Nat) : Int)))) rfl (fun hc1 => ?_) (fun hc1 => ?_)
  · replace h := cond_t hc1 h
    refine WP.seq_k (fun K1143 hK1143 => WP.region Tt_ok (O_cons (O_read rfl (R_assign rfl (P_some rfl (O_nil (hK1143 _ _ _ (WP.ret ?_))))))))
    have e_ := Option.some.inj h
    subst e_
    refine S_tmp rfl (S_nil (Upd.selS [] 0 ?_))
    exact Upd.done hR
  replace h := cond_f hc1 h
  refine WP.skip (hK1141 _ _ _ (WP.seq_k (fun K1144 hK1144 => WP.seq_k (fun K1145 hK1145 => WP.region Tt_ok (O_cons (O_read rfl (R_assign rfl (P_some rfl (O_nil (hK1145 _ _ _ ?_))))))))))
  obtain ⟨o1146, h1146, h⟩ := obind h
  refine WP.cutK (fun fr_ μ_ L_ => (.inl ()) = o1146 ∧ SubFr [] fr_ ∧ SegSub (L) L_ ∧ μ = μ_) ?_ ?_
  · refine WP.block (WP.iter h1146 (fun (i1 : Int) fr_ μ_ L_ => SubFr [(0, .slice A1 a1.length c1), (1, .slice A2 b1.length c2), (5, .int .i64 i1)] fr_ ∧ SegSub (L) L_ ∧ μ = μ_) ⟨SubFr.of ⟨rfl, rfl, rfl, trivial⟩, SegSub.sel _ [] 0, rfl⟩ ?_)
    rintro i1 q1153 fr1153 μ1153 L1153 hm1153 ⟨hF1153, hS1153, hu1153⟩ hb1153 hq1153
    unfold recyclingref48_SameInts_l1 at hb1153
    subst hu1153
    refine WP.at hF1153 hS1153 (WP.seq_k (fun K1154 hK1154 => WP.seq_k (fun K1155 hK1155 => WP.region Tt_ok (O_cons (O_read rfl (R_move rfl (P_some rfl (O_cons (O_read rfl (R_move rfl (P_some rfl (O_cons (O_read rfl ?_)))))))))))))
    refine R_lenS rfl rfl rfl (P_some rfl (O_cons (O_read rfl (R_lssD rfl rfl (P_some rfl (O_nil (hK1155 _ _ _ ?_)))))))
    refine W_cond_v (b := (decide (i1 < ((a1.length : Nat) : Int)))) rfl (fun hc2 => ?_) (fun hc2 => ?_)
    · replace hb1153 := cond_t hc2 hb1153
      refine WP.skip (hK1154 _ _ _ (WP.seq_k (fun K1156 hK1156 => WP.block (WP.seq_k (fun K1157 hK1157 => WP.drawn (id := 6) (l' := List.replicate 9 true) wide Tt_ok _ Kept.refl [(true, 0), (true, 1), (true, 2), (true, 3), (true, 4), (true, 5), (true, 6), (true, 7), (true, 8)] (by kernel_rfl) (by kernel_rfl) rfl (PL_t rfl (R_move rfl (P_some rfl (PL_t rfl (R_move rfl (P_some rfl (PL_t rfl ?_))))))))))))
      obtain ⟨x1, hx1, hb1153⟩ := obind hb1153
      obtain ⟨a2, cs1, hA3, hr1, _, hc3⟩ := Rds.getI hA1 hx1
      obtain rfl := hr1
      refine R_iaG rfl rfl rfl rfl rfl rfl ⟨(getI_lt hx1).1, (getI_lt hx1).2.1⟩ hA3 (P_some rfl (PL_t rfl (R_load rfl rfl rfl (Ex.mk _ (Cell.of_cells0 hc3 rfl) (P_some rfl (PL_t rfl (R_move rfl (P_some rfl (PL_t rfl (R_move rfl (P_some rfl (PL_t rfl ?_))))))))))))
      obtain ⟨x2, hx2, hb1153⟩ := obind hb1153
      obtain ⟨a3, cs2, hA4, hr2, _, hc4⟩ := Rds.getI hA2 hx2
      obtain rfl := hr2
      refine R_iaG rfl rfl rfl rfl rfl rfl ⟨(getI_lt hx2).1, (getI_lt hx2).2.1⟩ hA4 (P_some rfl (PL_t rfl (R_load rfl rfl rfl (Ex.mk _ (Cell.of_cells0 hc4 rfl) (P_some rfl (PL_t rfl (R_neqD rfl rfl (P_some rfl (PL_nil (AN.done0 (by kernel_rfl) (hK1157 _ _ _ ?_)))))))))))
      refine W_cond_v (b := !(decide (x1 = x2))) rfl (fun hc5 => ?_) (fun hc5 => ?_)
      · replace hb1153 := cond_t hc5 hb1153
        refine WP.seq_k (fun K1158 hK1158 => WP.region Tt_ok (O_cons (O_read rfl (R_assign rfl (P_some rfl (O_nil (hK1158 _ _ _ (WP.ret ?_))))))))
        have e_ := Option.some.inj hb1153
        subst e_
        have hq_ := hq1153 _ rfl
        subst hq_
        replace h := osum_r h
        have e_ := Option.some.inj h
        subst e_
        refine S_tmp rfl (S_nil (Upd.selS [] 0 ?_))
        exact Upd.done hR
      replace hb1153 := cond_f hc5 hb1153
      refine WP.skip (hK1156 _ _ _ (WP.region Tt_ok (O_cons (O_read rfl (R_move rfl (P_some rfl (O_cons (O_read rfl (R_add rfl rfl (P_some rfl (O_cons (O_read rfl (R_assign rfl ?_)))))))))))))
      refine P_some rfl (O_nil ?_)
      have e_ := Option.some.inj hb1153
      subst e_
      exact ⟨_, rfl, SubFr.of ⟨rfl, rfl, rfl, trivial⟩, SegSub.sel _ [] 0, rfl⟩
    replace hb1153 := cond_f hc2 hb1153
    refine WP.exit (B_here ?_)
    have e_ := Option.some.inj hb1153
    subst e_
    have hq_ := hq1153 _ rfl
    subst hq_
    exact ⟨rfl, SubFr.of trivial, SegSub.sel _ [] 0, rfl⟩
  rintro fr1146 μ1146 L1146 hm1146 ⟨ho1146, hF1146, hS1146, hu1146⟩
  subst ho1146
  replace h := osum_l h
  subst hu1146
  refine hK1144 _ _ _ (WP.at hF1146 hS1146 (WP.seq_k (fun K1159 hK1159 => WP.region Tt_ok (O_cons (O_read rfl (R_assign rfl (P_some rfl (O_nil (hK1159 _ _ _ (WP.ret ?_))))))))))
  have e_ := Option.some.inj h
  subst e_
  refine S_tmp rfl (S_nil (Upd.selS [] 0 ?_))
  exact Upd.done hR

theorem ledger_Ledger_Postings_fn {μ : Gh} {L : List Seg} {R : Value → Gh → List Seg → Prop}  {l1 : T_ledger_Ledger} {pv1 : Value} {so1 : Seg} {res1 : (List T_api_Posting)} {res2 : T_ledger_Ledger}
    (hP1 : Obj_ledger_Ledger μ pv1 l1 so1) (h : ledger_Ledger_Postings l1 = some (res1, res2))
    (hR : ∀ (μ' : Gh) (A0 : Option Addr) (c0 : Nat) (ch0 : Seg) (sp0 : Seg), μ.le μ' → Own r_api_Posting 24 μ' (.slice A0 res1.length c0) res1 ch0 → Obj_ledger_Ledger μ' pv1 res2 sp0 → R (.slice A0 res1.length c0) μ' (ch0 :: sp0 :: L)) :
    Fn Try.prog 19 [pv1] μ (so1 :: L) R := by
  unfold ledger_Ledger_Postings at h
  refine Fn.of_body Tt_ok Try.func19 (by kernel_rfl) rfl Try.ntmps19 (by simp) ?_
  simp only [Try.f19, argFr, List.zipIdx, List.map, Nat.reduceAdd]
  refine WP.seq_k (fun K1220 hK1220 => WP.region Tt_ok (O_cons (O_read rfl (R_assign rfl (P_some rfl (O_nil (hK1220 _ _ _ (WP.seq_k (fun K1225 hK1225 => WP.seq_k (fun K1226 hK1226 => ?_))))))))))
  obtain ⟨g1, A1, c1, ch1, g2, es1, cn1, hv1, rfl, hO1, hM1⟩ := hP1
  subst hv1
  refine WP.seg (L2 := ([(g1, .cells #[.slice A1 l1.postings.length c1, .map (some g2)] 60 (0, 0))] :: ch1 :: [(g2, .map es1 cn1)] :: L)) (SegSub.flat (by simp)) (WP.region Tt_ok (O_cons (O_read rfl (R_move rfl (P_some rfl (O_cons (O_read rfl (R_eqP1 rfl rfl rfl rfl (P_some rfl (O_nil (hK1226 _ _ _ (W_cond_f rfl (WP.skip ?_)))))))))))))
  refine hK1225 _ _ _ (WP.seq_k (fun K1231 hK1231 => WP.region Tt_ok (O_cons (O_read rfl (R_move rfl (P_some rfl (O_cons (O_read rfl (R_nilP rfl (P_some rfl (O_cons (O_read rfl (R_fa0 (o' := 0) rfl rfl rfl rfl rfl rfl ?_)))))))))))))
  refine P_some rfl (O_cons (O_read rfl (R_load rfl rfl rfl (Ex.mk _ (Cell.seg 0 0 rfl rfl rfl) (P_some rfl (O_cons (O_read rfl (R_lenS rfl rfl rfl (P_some rfl (O_cons (O_mksl rfl rfl ?_)))))))))))
  obtain ⟨l2, hn1, h⟩ := obind h
  refine sem_mkO (r := r_api_Posting) (zc := [.int .i64 0, .int .i64 0, .slice none 0 0]) Tt_ok rfl rfl rfl rfl rfl (⟨none, 0, rfl, ⟨Nat.le_refl _, Nat.zero_le _⟩, ArrR.nil⟩) rfl hn1 fun A2 c2 ch2 hO2 => P_some rfl (O_cons (O_read rfl (R_assign rfl (P_some rfl (O_nil (hK1231 _ _ _ (WP.seq_k (fun K1234 hK1234 => WP.seq_k (fun K1235 hK1235 => WP.region Tt_ok (O_cons (O_read rfl (R_move rfl ?_))))))))))))
  refine P_some rfl (O_cons (O_read rfl (R_nilP rfl (P_some rfl (O_cons (O_read rfl (R_fa0 (o' := 0) rfl rfl rfl rfl rfl rfl (P_some rfl (O_cons (O_read rfl (R_load rfl rfl rfl (Ex.mk _ (Cell.seg 1 0 rfl rfl rfl) (P_some rfl ?_)))))))))))))
  refine O_cons (O_read rfl (R_lenS rfl rfl rfl (P_some rfl (O_cons (O_read rfl (R_move rfl (P_some rfl (O_nil (hK1235 _ _ _ ?_)))))))))
  obtain ⟨o1236, h1236, h⟩ := obind h
  refine WP.cutK (fun fr_ μ_ L_ => ∃ (out2 : (List T_api_Posting)) (A8 : Option Addr) (c8 : Nat) (ch5 : Seg), out2 = o1236 ∧ SubFr [(3, .slice A8 out2.length c8)] fr_ ∧ SegSub (ch5 :: [(g1, .cells #[.slice A1 l1.postings.length c1, .map (some g2)] 60 (0, 0))] :: ch1 :: [(g2, .map es1 cn1)] :: L) L_ ∧ Own r_api_Posting 24 μ_ (.slice A8 out2.length c8) out2 ch5) ?_ ?_
  · refine WP.block (WP.iter h1236 (fun (j_ : (List T_api_Posting) × Int) fr_ μ_ L_ => ounP j_ fun out1 v1 => ∃ (A3 : Option Addr) (c3 : Nat) (ch3 : Seg), SubFr [(3, .slice A3 out1.length c3), (17, .slice A1 l1.postings.length c1), (18, .int .i64 ((l1.postings.length : Nat) : Int)), (19, .int .i64 v1)] fr_ ∧ SegSub (ch3 :: ch1 :: [(g1, .cells #[.slice A1 l1.postings.length c1, .map (some g2)] 60 (0, 0))] :: [(g2, .map es1 cn1)] :: L) L_ ∧ Own r_api_Posting 24 μ_ (.slice A3 out1.length c3) out1 ch3) ⟨A2, c2, ch2, SubFr.of ⟨rfl, rfl, rfl, rfl, trivial⟩, SegSub.sel _ [some 0, some 2, some 1, some 3] 4, (hO2)⟩ ?_)
    rintro ⟨out1, v1⟩ q1255 fr1255 μ1255 L1255 hm1255 ⟨A3, c3, ch3, hF1255, hS1255, hO3⟩ hb1255 hq1255
    unfold ledger_Ledger_Postings_l1 at hb1255
    replace hb1255 := oun_mk hb1255
    replace hO1 := hO1.mono hm1255
    replace hO2 := hO2.mono hm1255
    refine WP.at hF1255 hS1255 (WP.seq_k (fun K1260 hK1260 => WP.region Tt_ok (O_cons (O_read rfl (R_lssD rfl rfl (P_some rfl (O_nil (hK1260 _ _ _ (WP.seq_k (fun K1261 hK1261 => ?_))))))))))
    refine W_cond_v (b := (decide (v1 < ((l1.postings.length : Nat) : Int)))) rfl (fun hc1 => ?_) (fun hc1 => ?_)
    · replace hb1255 := cond_t hc1 hb1255
      refine WP.skip (hK1261 _ _ _ (WP.seq_k (fun K1262 hK1262 => WP.block (WP.seq_k (fun K1263 hK1263 => WP.region Tt_ok (O_cons (O_read rfl (R_move rfl (P_some rfl (O_cons ?_))))))))))
      obtain ⟨x1, hx1, hb1255⟩ := obind hb1255
      obtain ⟨a1, cs1, hA1, hr1, _, hc2⟩ := Rds.getI (Own.rds (L := (ch3 :: ch1 :: [(g1, .cells #[.slice A1 l1.postings.length c1, .map (some g2)] 60 (0, 0))] :: [(g2, .map es1 cn1)] :: L)) hO1 1 rfl) hx1
      obtain ⟨A4, c4, rfl, hl1, hA2⟩ := hr1
      refine O_read rfl (R_iaG rfl rfl rfl rfl rfl rfl ⟨(getI_lt hx1).1, (getI_lt hx1).2.1⟩ hA1 (P_some rfl (O_cons (O_read rfl (R_loadA rfl rfl rfl rfl (Ex.mk [.int .i64 x1.ID, .int .i64 x1.At, .slice A4 x1.Lines.length c4] ⟨rfl, hc2⟩ (P_some rfl (O_cons (O_alloc (cs := #[.int .i64 0, .int .i64 0, .slice none 0 0]) rfl rfl (fun g3 => P_some rfl (O_cons (O_read rfl (R_assign rfl ?_)))))))))))))
      refine P_some rfl (O_cons (O_store (vs := [.int .i64 x1.ID, .int .i64 x1.At, .slice A4 x1.Lines.length c4]) rfl rfl rfl rfl rfl rfl (ST_ (L' := ([(g3, .cells #[.int .i64 x1.ID, .int .i64 x1.At, .slice A4 x1.Lines.length c4] 24 (0, 0))] :: ch3 :: ch1 :: [(g1, .cells #[.slice A1 l1.postings.length c1, .map (some g2)] 60 (0, 0))] :: [(g2, .map es1 cn1)] :: L)) 0 0 rfl rfl rfl rfl (P_none (O_nil (hK1263 _ _ _ (WP.region Tt_ok (O_cons (O_read rfl (R_move rfl (P_some rfl (O_cons (O_read rfl ?_)))))))))))))
      refine R_move rfl (P_some rfl (O_cons (O_read rfl (R_loadA rfl rfl rfl rfl (LA_ (vs := [.int .i64 x1.ID, .int .i64 x1.At, .slice A4 x1.Lines.length c4]) 0 0 rfl rfl rfl rfl (P_some rfl (O_cons (O_call (all := [.agg #[.int .i64 x1.ID, .int .i64 x1.At, .slice A4 x1.Lines.length c4]]) rfl rfl rfl ?_))))))))
      obtain ⟨r1, hx2, hb1255⟩ := obind hb1255
      refine ledger_copied_fn hl1 hA2 hx2 (fun v2 A5 c5 hm_1 hl2 hA3 => ?_)
      replace hO1 := hO1.mono hm_1
      replace hO2 := hO2.mono hm_1
      replace hO3 := hO3.mono hm_1
      replace hA2 := hA2.mono hm_1
      replace hc2 := hc2.lift hm_1
      refine P_some rfl (O_cons ?_)
      obtain ⟨x2, hx3, hb1255⟩ := obind hb1255
      obtain ⟨a2, cs2, hA4, hr2, _, hc3⟩ := Rds.getI (Own.rds (L := ([(g3, .cells #[.int .i64 x1.ID, .int .i64 x1.At, .slice A4 x1.Lines.length c4] 24 (0, 0))] :: ch3 :: ch1 :: [(g1, .cells #[.slice A1 l1.postings.length c1, .map (some g2)] 60 (0, 0))] :: [(g2, .map es1 cn1)] :: L)) hO3 1 rfl) hx3
      obtain ⟨A6, c6, rfl, hl3, hA5⟩ := hr2
      refine O_read rfl (R_iaG rfl rfl rfl rfl rfl rfl ⟨(getI_lt hx3).1, (getI_lt hx3).2.1⟩ hA4 (P_some rfl (O_cons (O_store (vs := [.int .i64 r1.ID, .int .i64 r1.At, .slice A5 r1.Lines.length c5]) rfl rfl rfl rfl rfl rfl ?_))))
      rw [← Addr.add_zero' ((a2.add (v1.toNat * 3)))]
      refine Own.store (r := r_api_Posting) (x' := r1) (o := 0) (sz := 3) 1 rfl hO3 hA4 hx3 rfl rfl (by rintro _ ⟨A7, c7, rfl, hl4, hA6⟩; exact ⟨A5, c5, rfl, hl2, hA3⟩) fun ch4 hO4 => ?_
      rw [← length_setI out1 v1 r1] at hO4 ⊢
      refine P_none (O_nil (hK1262 _ _ _ (WP.region Tt_ok (O_cons (O_read rfl (R_add rfl rfl (P_some rfl (O_cons (O_read rfl (R_move rfl (P_some rfl (O_nil ?_))))))))))))
      have e_ := Option.some.inj hb1255
      subst e_
      exact ⟨_, rfl, A3, c3, ch4, SubFr.of ⟨rfl, rfl, rfl, rfl, trivial⟩, SegSub.sel _ [some 1, some 2, some 3, some 4] 5, (hO4)⟩
    replace hb1255 := cond_f hc1 hb1255
    refine WP.exit (B_here ?_)
    have e_ := Option.some.inj hb1255
    subst e_
    have hq_ := hq1255 _ rfl
    subst hq_
    exact ⟨out1, A3, c3, ch3, rfl, SubFr.of ⟨rfl, trivial⟩, SegSub.sel _ [some 0, some 2, some 1, some 3] 4, (hO3)⟩
  rintro fr1236 μ1236 L1236 hm1236 ⟨out2, A8, c8, ch5, ho1236, hF1236, hS1236, hO5⟩
  subst ho1236
  replace hO1 := hO1.mono hm1236
  replace hO2 := hO2.mono hm1236
  refine hK1234 _ _ _ (WP.at hF1236 hS1236 (WP.seq_k (fun K1277 hK1277 => WP.region Tt_ok (O_cons (O_read rfl (R_move rfl (P_some rfl (O_cons (O_read rfl (R_assign rfl (P_some rfl (O_nil (hK1277 _ _ _ ?_)))))))))))))
  apply WP.ret
  have e_ := Option.some.inj h
  obtain ⟨e0a_, e0b_⟩ := Prod.mk.inj e_
  clear e_
  subst e0a_
  subst e0b_
  refine S_tmp rfl (S_nil (Upd.seg (L2 := (ch5 :: ((g1, Obj.cells #[.slice A1 l1.postings.length c1, .map (some g2)] 60 (0, 0)) :: (ch1 ++ ((g2, Obj.map es1 cn1) :: []))) :: L)) (SegSub.trans (SegSub.flat (by simp [selS])) (SegSub.sel _ [some 0, some 1, some 2, some 3] 4)) ?_))
  exact Upd.done (hR _ A8 c8 ch5 ((g1, Obj.cells #[.slice A1 l1.postings.length c1, .map (some g2)] 60 (0, 0)) :: (ch1 ++ ((g2, Obj.map es1 cn1) :: []))) (hm1236) (hO5) (⟨g1, A1, c1, ch1, g2, es1, cn1, rfl, rfl, hO1, hM1⟩))

theorem recyclinglaw48_awake_fn {μ : Gh} {L : List Seg} {R : Value → Gh → List Seg → Prop}    {res1 : Bool}
     (h : recyclinglaw48_awake = some res1)
    (hR : ∀ (μ' : Gh) , μ.le μ' → R (.bool res1) μ' (L)) :
    Fn Try.prog 11 [] μ (L) R := by
  unfold recyclinglaw48_awake at h
  refine Fn.of_body Tt_ok Try.func11 (by kernel_rfl) rfl Try.ntmps11 (by simp) ?_
  simp only [Try.f11, argFr, List.zipIdx, List.map, Nat.reduceAdd]
  refine WP.seq_k (fun K1288 hK1288 => WP.region Tt_ok (O_cons (O_read rfl (R_assign rfl (P_some rfl (O_nil (hK1288 _ _ _ (WP.seq_k (fun K1289 hK1289 => WP.region Tt_ok (O_cons (O_call (all := []) rfl rfl rfl ?_)))))))))))
  obtain ⟨r1, hx1, h⟩ := obind h
  refine ledger_New_fn  hx1 (fun pv1 so1 hP1 => P_some rfl (O_cons (O_read rfl (R_assign rfl (P_some rfl (O_nil (hK1289 _ _ _ (WP.seq_k (fun K1291 hK1291 => WP.region Tt_ok (O_cons (O_read rfl (R_move rfl (P_some rfl ?_)))))))))))))
  refine O_cons (O_call (all := [.int .i64 1, .int .i64 10, .int .i64 7, .int .i64 100, .int .i64 500]) rfl rfl rfl ?_)
  obtain ⟨r2, hx2, h⟩ := obind h
  refine recyclinglaw48_pay_fn  hx2 (fun v1 A1 c1 hm_1 hl1 hA1 => ?_)
  replace hP1 := hP1.mono hm_1
  refine P_some rfl (O_cons (O_call (all := [pv1, .agg #[.int .i64 r2.ID, .int .i64 r2.At, .slice A1 r2.Lines.length c1]]) rfl rfl rfl ?_))
  obtain ⟨⟨r3, r4⟩, hx3, h⟩ := obind h
  replace h := oun_mk h
  refine ledger_Ledger_Post_fn hP1 hl1 hA1 hx3 (fun v2 so2 hm_2 hP2 => ?_)
  replace hP1 := hP1.mono hm_2
  replace hA1 := hA1.mono hm_2
  refine P_some rfl (O_cons (O_read rfl (R_assign rfl (P_some rfl (O_nil (hK1291 _ _ _ (WP.seq_k (fun K1296 hK1296 => WP.region Tt_ok (O_cons (O_read rfl (R_move rfl (P_some rfl (O_cons ?_)))))))))))))
  apply O_call (all := [.int .i64 2, .int .i64 20, .int .i64 100, .int .i64 7, .int .i64 200]); exact rfl; exact rfl; exact rfl
  obtain ⟨r5, hx4, h⟩ := obind h
  refine recyclinglaw48_pay_fn  hx4 (fun v3 A2 c2 hm_3 hl2 hA2 => ?_)
  replace hP1 := hP1.mono hm_3
  replace hA1 := hA1.mono hm_3
  replace hP2 := hP2.mono hm_3
  refine P_some rfl (O_cons (O_call (all := [pv1, .agg #[.int .i64 r5.ID, .int .i64 r5.At, .slice A2 r5.Lines.length c2]]) rfl rfl rfl ?_))
  obtain ⟨⟨r6, r7⟩, hx5, h⟩ := obind h
  replace h := oun_mk h
  refine ledger_Ledger_Post_fn hP2 hl2 hA2 hx5 (fun v4 so3 hm_4 hP3 => ?_)
  replace hP1 := hP1.mono hm_4
  replace hA1 := hA1.mono hm_4
  replace hP2 := hP2.mono hm_4
  replace hA2 := hA2.mono hm_4
  refine P_some rfl (O_cons (O_read rfl (R_assign rfl (P_some rfl (O_nil (hK1296 _ _ _ (WP.seq_k (fun K1301 hK1301 => WP.region Tt_ok (O_cons (O_read rfl (R_move rfl (P_some rfl (O_cons ?_)))))))))))))
  apply O_call (all := [.int .i64 2, .int .i64 20, .int .i64 100, .int .i64 7, .int .i64 200]); exact rfl; exact rfl; exact rfl
  obtain ⟨r8, hx6, h⟩ := obind h
  refine recyclinglaw48_pay_fn  hx6 (fun v5 A3 c3 hm_5 hl3 hA3 => ?_)
  replace hP1 := hP1.mono hm_5
  replace hA1 := hA1.mono hm_5
  replace hP2 := hP2.mono hm_5
  replace hA2 := hA2.mono hm_5
  replace hP3 := hP3.mono hm_5
  refine P_some rfl (O_cons (O_call (all := [pv1, .agg #[.int .i64 r8.ID, .int .i64 r8.At, .slice A3 r8.Lines.length c3]]) rfl rfl rfl ?_))
  obtain ⟨⟨r9, r10⟩, hx7, h⟩ := obind h
  replace h := oun_mk h
  refine ledger_Ledger_Post_fn hP3 hl3 hA3 hx7 (fun v6 so4 hm_6 hP4 => ?_)
  replace hP1 := hP1.mono hm_6
  replace hA1 := hA1.mono hm_6
  replace hP2 := hP2.mono hm_6
  replace hA2 := hA2.mono hm_6
  replace hP3 := hP3.mono hm_6
  replace hA3 := hA3.mono hm_6
  refine P_some rfl (O_cons (O_read rfl (R_assign rfl (P_some rfl (O_nil (hK1301 _ _ _ (WP.seq_k (fun K1306 hK1306 => WP.region Tt_ok (O_cons (O_read rfl (R_move rfl (P_some rfl (O_cons ?_)))))))))))))
  apply O_call (all := [.int .i64 3, .int .i64 19, .int .i64 100, .int .i64 7, .int .i64 200]); exact rfl; exact rfl; exact rfl
  obtain ⟨r11, hx8, h⟩ := obind h
  refine recyclinglaw48_pay_fn  hx8 (fun v7 A4 c4 hm_7 hl4 hA4 => ?_)
  replace hP1 := hP1.mono hm_7
  replace hA1 := hA1.mono hm_7
  replace hP2 := hP2.mono hm_7
  replace hA2 := hA2.mono hm_7
  replace hP3 := hP3.mono hm_7
  replace hA3 := hA3.mono hm_7
  replace hP4 := hP4.mono hm_7
  refine P_some rfl (O_cons (O_call (all := [pv1, .agg #[.int .i64 r11.ID, .int .i64 r11.At, .slice A4 r11.Lines.length c4]]) rfl rfl rfl ?_))
  obtain ⟨⟨r12, r13⟩, hx9, h⟩ := obind h
  replace h := oun_mk h
  refine ledger_Ledger_Post_fn hP4 hl4 hA4 hx9 (fun v8 so5 hm_8 hP5 => ?_)
  replace hP1 := hP1.mono hm_8
  replace hA1 := hA1.mono hm_8
  replace hP2 := hP2.mono hm_8
  replace hA2 := hA2.mono hm_8
  replace hP3 := hP3.mono hm_8
  replace hA3 := hA3.mono hm_8
  replace hP4 := hP4.mono hm_8
  replace hA4 := hA4.mono hm_8
  refine P_some rfl (O_cons (O_read rfl (R_assign rfl (P_some rfl (O_nil (hK1306 _ _ _ (WP.seq_k (fun K1311 hK1311 => WP.region Tt_ok (O_cons (O_read rfl (R_build rfl rfl rfl rfl (F_cons (cells' := [.int .i64 1, .int .i64 0]) rfl rfl rfl rfl (F_cons (cells' := [.int .i64 1, .int .i64 5]) rfl rfl rfl rfl ?_)))))))))))))
  refine F_nil (P_some rfl (O_cons (O_read rfl (R_build rfl rfl rfl rfl (F_cons (cells' := [.int .i64 2, .int .i64 0]) rfl rfl rfl rfl (F_cons (cells' := [.int .i64 2, .int .i64 (-4)]) rfl rfl rfl rfl (F_nil (P_some rfl (O_cons (O_bsl (z := [.int .i64 0, .int .i64 0, .int .i64 0, .int .i64 0]) rfl rfl rfl rfl rfl rfl rfl (F_cons (cells' := [.int .i64 1, .int .i64 5, .int .i64 0, .int .i64 0]) rfl rfl rfl rfl (F_cons (cells' := [.int .i64 1, .int .i64 5, .int .i64 2, .int .i64 (-4)]) rfl rfl rfl rfl (F_nil (fun g1 => ?_))))))))))))))
  refine P_some rfl (O_cons (O_read rfl (R_build rfl rfl rfl rfl (F_cons (cells' := [.int .i64 1, .int .i64 0, .slice none 0 0]) rfl rfl rfl rfl (F_cons (cells' := [.int .i64 1, .int .i64 0, .slice (some ⟨g1, 0, none⟩) 2 2]) rfl rfl rfl rfl (F_nil (P_some rfl (O_cons (O_call (all := [.agg #[.int .i64 1, .int .i64 0, .slice (some ⟨g1, 0, none⟩) 2 2]]) rfl rfl rfl ?_)))))))))
  have hl5 : [(T_api_Line.mk 1 5), (T_api_Line.mk 2 (-4))].length ≤ 2 ∧ 2 ≤ maxLen := ⟨Nat.le_refl _, by unfold maxLen; omega⟩
  refine Fn.pre Try.func12 (by kernel_rfl) rfl (Upd.frzOwn 0 rfl (Own.lit (r := r_api_Line) (e := 49) (g := g1) (xs := [(T_api_Line.mk 1 5), (T_api_Line.mk 2 (-4))]) (cs := [.int .i64 1, .int .i64 5, .int .i64 2, .int .i64 (-4)]) (css := [[.int .i64 1, .int .i64 5], [.int .i64 2, .int .i64 (-4)]]) rfl (All2.cons (rfl) (All2.cons (rfl) (All2.nil))) rfl rfl) fun v9 hm_9 hA5 => Upd.done ?_)
  replace hP1 := hP1.mono hm_9
  replace hA1 := hA1.mono hm_9
  replace hP2 := hP2.mono hm_9
  replace hA2 := hA2.mono hm_9
  replace hP3 := hP3.mono hm_9
  replace hA3 := hA3.mono hm_9
  replace hP4 := hP4.mono hm_9
  replace hA4 := hA4.mono hm_9
  replace hP5 := hP5.mono hm_9
  obtain ⟨r14, hx10, h⟩ := obind h
  refine ledger_Check_fn hl5 hA5 hx10 ((P_some rfl (O_cons (O_read rfl (R_assign rfl (P_some rfl (O_nil (hK1311 _ _ _ (WP.seq_k (fun K1320 hK1320 => WP.region Tt_ok (O_cons (O_read rfl (R_build rfl rfl rfl rfl (F_cons (cells' := [.int .i64 1, .int .i64 0]) rfl rfl rfl rfl ?_))))))))))))))
  refine F_cons (cells' := [.int .i64 1, .int .i64 5]) rfl rfl rfl rfl (F_nil (P_some rfl (O_cons (O_bsl (z := [.int .i64 0, .int .i64 0]) rfl rfl rfl rfl rfl rfl rfl (F_cons (cells' := [.int .i64 1, .int .i64 5]) rfl rfl rfl rfl (F_nil (fun g2 => P_some rfl (O_cons (O_read rfl (R_build rfl rfl rfl rfl (F_cons (cells' := [.int .i64 1, .int .i64 0, .slice none 0 0]) rfl rfl rfl rfl (F_cons (cells' := [.int .i64 1, .int .i64 0, .slice (some ⟨g2, 0, none⟩) 1 1]) rfl rfl rfl rfl (F_nil ?_)))))))))))))
  refine P_some rfl (O_cons (O_call (all := [.agg #[.int .i64 1, .int .i64 0, .slice (some ⟨g2, 0, none⟩) 1 1]]) rfl rfl rfl ?_))
  have hl6 : [(T_api_Line.mk 1 5)].length ≤ 1 ∧ 1 ≤ maxLen := ⟨Nat.le_refl _, by unfold maxLen; omega⟩
  refine Fn.pre Try.func12 (by kernel_rfl) rfl (Upd.frzOwn 0 rfl (Own.lit (r := r_api_Line) (e := 49) (g := g2) (xs := [(T_api_Line.mk 1 5)]) (cs := [.int .i64 1, .int .i64 5]) (css := [[.int .i64 1, .int .i64 5]]) rfl (All2.cons (rfl) (All2.nil)) rfl rfl) fun v10 hm_10 hA6 => Upd.done ?_)
  replace hP1 := hP1.mono hm_10
  replace hA1 := hA1.mono hm_10
  replace hP2 := hP2.mono hm_10
  replace hA2 := hA2.mono hm_10
  replace hP3 := hP3.mono hm_10
  replace hA3 := hA3.mono hm_10
  replace hP4 := hP4.mono hm_10
  replace hA4 := hA4.mono hm_10
  replace hP5 := hP5.mono hm_10
  replace hA5 := hA5.mono hm_10
  obtain ⟨r15, hx11, h⟩ := obind h
  refine ledger_Check_fn hl6 hA6 hx11 ((P_some rfl (O_cons (O_read rfl (R_assign rfl (P_some rfl (O_nil (hK1320 _ _ _ (WP.seq_k (fun K1329 hK1329 => ?_))))))))))
  obtain ⟨o1330, h1330, h⟩ := obind h
  refine WP.cutK (fun fr_ μ_ L_ => ∃ (v12 : Bool), v12 = o1330 ∧ SubFr [(0, .bool v12)] fr_ ∧ SegSub (L) L_) ?_ ?_
  · refine WP.region Tt_ok (O_cons (O_read rfl (R_move rfl (P_some rfl (O_cons (O_read rfl (R_eqlD rfl rfl (P_some rfl (O_cons (O_read rfl (R_move rfl (P_some rfl ?_))))))))))))
    refine O_gv (z := (decide (r3 = 0))) rfl rfl (fun hc1 => ?_) (fun hc1 => ?_)
    · replace h1330 := cond_t hc1 h1330
      refine O_read rfl (R_move rfl (P_some rfl (O_gY rfl rfl hc1 (O_read rfl (R_eqlD rfl rfl (P_some rfl (O_cons (O_read rfl (R_pick_T rfl hc1 rfl (P_some rfl (O_cons (O_read rfl (R_move rfl ?_)))))))))))))
      apply P_some; exact rfl
      refine O_gv (z := (decide (r6 = 0))) rfl rfl (fun hc2 => ?_) (fun hc2 => ?_)
      · replace h1330 := cond_t hc2 h1330
        refine O_read rfl (R_move rfl (P_some rfl (O_gY rfl rfl hc2 (O_read rfl (R_eqlD rfl rfl (P_some rfl (O_cons (O_read rfl (R_pick_T rfl hc2 rfl (P_some rfl (O_cons (O_read rfl (R_move rfl ?_)))))))))))))
        apply P_some; exact rfl
        refine O_gv (z := (decide (r9 = 6))) rfl rfl (fun hc3 => ?_) (fun hc3 => ?_)
        · replace h1330 := cond_t hc3 h1330
          refine O_read rfl (R_move rfl (P_some rfl (O_gY rfl rfl hc3 (O_read rfl (R_eqlD rfl rfl (P_some rfl (O_cons (O_read rfl (R_pick_T rfl hc3 rfl (P_some rfl (O_cons (O_read rfl (R_move rfl ?_)))))))))))))
          apply P_some; exact rfl
          refine O_gv (z := (decide (r12 = 9))) rfl rfl (fun hc4 => ?_) (fun hc4 => ?_)
          · replace h1330 := cond_t hc4 h1330
            refine O_read rfl (R_move rfl (P_some rfl (O_gY rfl rfl hc4 (O_read rfl (R_eqlD rfl rfl (P_some rfl (O_cons (O_read rfl (R_pick_T rfl hc4 rfl (P_some rfl (O_cons (O_read rfl (R_move rfl ?_)))))))))))))
            apply P_some; exact rfl
            refine O_gv (z := (decide (r14 = 16))) rfl rfl (fun hc5 => ?_) (fun hc5 => ?_)
            · replace h1330 := cond_t hc5 h1330
              refine O_read rfl (R_move rfl (P_some rfl (O_gY rfl rfl hc5 (O_read rfl (R_eqlD rfl rfl (P_some rfl (O_cons (O_read rfl (R_pick_T rfl hc5 rfl (P_some rfl (O_cons (O_read rfl (R_move rfl ?_)))))))))))))
              apply P_some; exact rfl
              refine O_gv (z := (decide (r15 = 10))) rfl rfl (fun hc6 => ?_) (fun hc6 => ?_)
              · replace h1330 := cond_t hc6 h1330
                refine O_read rfl (R_move rfl (P_some rfl (O_gY rfl rfl hc6 (O_call (all := [pv1, .int .i64 100]) rfl rfl rfl (Fn.seg (L2 := (so5 :: [] :: [] :: L)) (SegSub.sel _ [some 2, some 0, some 1] 3) ?_)))))
                obtain ⟨⟨r16, r17⟩, hx12, h1330⟩ := obind h1330
                replace h1330 := oun_mk h1330
                refine ledger_Ledger_Balance_fn hP5 hx12 (fun so6 hP6 => P_some rfl (O_gY rfl rfl hc6 (O_read rfl (R_eqlD rfl rfl (P_some rfl (O_cons (O_read rfl (R_pick_T rfl hc6 rfl (P_some rfl (O_cons (O_read rfl (R_move rfl (P_some rfl ?_)))))))))))))
                refine O_gv (z := (decide (r16 = 300))) rfl rfl (fun hc7 => ?_) (fun hc7 => ?_)
                · replace h1330 := cond_t hc7 h1330
                  refine O_read rfl (R_move rfl (P_some rfl (O_gY rfl rfl hc7 (O_call (all := [pv1, .int .i64 7]) rfl rfl rfl ?_))))
                  obtain ⟨⟨r18, r19⟩, hx13, h1330⟩ := obind h1330
                  replace h1330 := oun_mk h1330
                  refine ledger_Ledger_Balance_fn hP6 hx13 (fun so7 hP7 => P_some rfl (O_gY rfl rfl hc7 (O_read rfl (R_eqlD rfl rfl (P_some rfl (O_cons (O_read rfl (R_pick_T rfl hc7 rfl (P_some rfl (O_cons (O_read rfl (R_move rfl (P_some rfl ?_)))))))))))))
                  refine O_gv (z := (decide (r18 = (-300)))) rfl rfl (fun hc8 => ?_) (fun hc8 => ?_)
                  · replace h1330 := cond_t hc8 h1330
                    refine O_read rfl (R_move rfl (P_some rfl (O_gY rfl rfl hc8 (O_call (all := [pv1, .int .i64 100, .int .i64 19]) rfl rfl rfl ?_))))
                    obtain ⟨⟨r20, r21⟩, hx14, h1330⟩ := obind h1330
                    replace h1330 := oun_mk h1330
                    refine ledger_Ledger_At_fn hP7 hx14 (fun so8 hP8 => P_some rfl (O_gY rfl rfl hc8 (O_read rfl (R_eqlD rfl rfl (P_some rfl (O_cons (O_read rfl (R_pick_T rfl hc8 rfl (P_some rfl (O_cons (O_read rfl (R_move rfl (P_some rfl ?_)))))))))))))
                    refine O_gv (z := (decide (r20 = 500))) rfl rfl (fun hc9 => ?_) (fun hc9 => ?_)
                    · replace h1330 := cond_t hc9 h1330
                      refine O_read rfl (R_move rfl (P_some rfl (O_gY rfl rfl hc9 (O_call (all := [pv1]) rfl rfl rfl ?_))))
                      obtain ⟨⟨r22, r23⟩, hx15, h1330⟩ := obind h1330
                      replace h1330 := oun_mk h1330
                      refine ledger_Ledger_Accounts_fn hP8 hx15 (fun A5 c5 ch1 so9 hO1 hP9 => P_some rfl (O_gY rfl rfl hc9 (O_bsl (z := [.int .i64 0, .int .i64 0]) rfl rfl rfl rfl rfl rfl rfl (F_cons (cells' := [.int .i64 7, .int .i64 0]) rfl rfl rfl rfl (F_cons (cells' := [.int .i64 7, .int .i64 100]) rfl rfl rfl rfl (F_nil (fun g3 => P_some rfl (O_gY rfl rfl hc9 (O_call (all := [.slice A5 r22.length c5, .slice (some ⟨g3, 0, none⟩) 2 2]) rfl rfl rfl ?_)))))))))
                      obtain ⟨r24, hx16, h1330⟩ := obind h1330
                      refine recyclingref48_SameInts_fn (Own.lenOk hO1) (Own.rds (L := ([(g3, .cells #[.int .i64 7, .int .i64 100] 3 (0, 0))] :: ch1 :: so9 :: [] :: [] :: L)) hO1 1 rfl) (lenLit (c := 2) rfl rfl) (Own.rds (L := ([(g3, .cells #[.int .i64 7, .int .i64 100] 3 (0, 0))] :: ch1 :: so9 :: [] :: [] :: L)) (Own.lit (r := rInt) (e := 3) (g := g3) (xs := [7, 100]) (cs := [.int .i64 7, .int .i64 100]) (css := [[.int .i64 7], [.int .i64 100]]) rfl (All2.cons (rfl) (All2.cons (rfl) (All2.nil))) rfl rfl) 0 rfl) hx16 ((P_some rfl (O_cons (O_read rfl (R_pick_T rfl hc9 rfl (P_some rfl (O_cons (O_read rfl (R_move rfl (P_some rfl ?_))))))))))
                      refine O_gv (z := r24) rfl rfl (fun hc10 => ?_) (fun hc10 => ?_)
                      · replace h1330 := cond_t hc10 h1330
                        refine O_read rfl (R_move rfl (P_some rfl (O_gY rfl rfl hc10 (O_call (all := [pv1]) rfl rfl rfl (Fn.seg (L2 := (so9 :: [(g3, .cells #[.int .i64 7, .int .i64 100] 3 (0, 0))] :: ch1 :: [] :: [] :: L)) (SegSub.sel _ [some 2, some 0, some 1, some 3, some 4] 5) ?_)))))
                        obtain ⟨⟨r25, r26⟩, hx17, h1330⟩ := obind h1330
                        replace h1330 := oun_mk h1330
                        refine ledger_Ledger_Postings_fn hP9 hx17 (fun v11 A6 c6 ch2 so10 hm_11 hO2 hP10 => ?_)
                        replace hP1 := hP1.mono hm_11
                        replace hA1 := hA1.mono hm_11
                        replace hP2 := hP2.mono hm_11
                        replace hA2 := hA2.mono hm_11
                        replace hP3 := hP3.mono hm_11
                        replace hA3 := hA3.mono hm_11
                        replace hP4 := hP4.mono hm_11
                        replace hA4 := hA4.mono hm_11
                        replace hP5 := hP5.mono hm_11
                        replace hA5 := hA5.mono hm_11
                        replace hA6 := hA6.mono hm_11
                        replace hP6 := hP6.mono hm_11
                        replace hP7 := hP7.mono hm_11
                        replace hP8 := hP8.mono hm_11
                        replace hO1 := hO1.mono hm_11
                        replace hP9 := hP9.mono hm_11
                        refine P_some rfl (O_gY rfl rfl hc10 (O_read rfl (R_lenS rfl rfl rfl (P_some rfl (O_gY rfl rfl hc10 (O_read rfl (R_eqlD rfl rfl (P_some rfl (O_cons (O_read rfl (R_pick_T rfl hc10 rfl (P_some rfl (O_cons ?_)))))))))))))
                        refine O_read rfl (R_assign rfl (P_some rfl (O_nil ?_)))
                        have e_ := Option.some.inj h1330
                        subst e_
                        exact ⟨(decide (((r25.length : Nat) : Int) = 2)), rfl, SubFr.of ⟨rfl, trivial⟩, SegSub.sel _ [] 6⟩
                      replace h1330 := cond_f hc10 h1330
                      refine P_some rfl (O_gN rfl rfl hc10 (P_some rfl (O_gN rfl rfl hc10 (P_some rfl (O_gN rfl rfl hc10 (P_some rfl (O_cons (O_read rfl (R_pick_F rfl hc10 rfl (P_some rfl (O_cons (O_read rfl (R_assign rfl ?_)))))))))))))
                      refine P_some rfl (O_nil ?_)
                      have e_ := Option.some.inj h1330
                      subst e_
                      exact ⟨false, rfl, SubFr.of ⟨rfl, trivial⟩, SegSub.sel _ [] 5⟩
                    replace h1330 := cond_f hc9 h1330
                    refine P_some rfl (O_gN rfl rfl hc9 (P_some rfl (O_gN rfl rfl hc9 (P_some rfl (O_gN rfl rfl hc9 (P_some rfl (O_cons (O_read rfl (R_pick_F rfl hc9 rfl (P_some rfl (O_cons (O_read rfl (R_move rfl ?_)))))))))))))
                    refine P_some rfl (O_gN rfl rfl rfl (P_some rfl (O_gN rfl rfl rfl (P_some rfl (O_gN rfl rfl rfl (P_some rfl (O_gN rfl rfl rfl (P_some rfl (O_cons (O_read rfl (R_pick_F rfl rfl rfl (P_some rfl (O_cons ?_)))))))))))))
                    refine O_read rfl (R_assign rfl (P_some rfl (O_nil ?_)))
                    have e_ := Option.some.inj h1330
                    subst e_
                    exact ⟨false, rfl, SubFr.of ⟨rfl, trivial⟩, SegSub.sel _ [] 3⟩
                  replace h1330 := cond_f hc8 h1330
                  refine P_some rfl (O_gN rfl rfl hc8 (P_some rfl (O_gN rfl rfl hc8 (P_some rfl (O_cons (O_read rfl (R_pick_F rfl hc8 rfl (P_some rfl (O_cons (O_read rfl (R_move rfl (P_some rfl (O_gN rfl rfl rfl ?_)))))))))))))
                  refine P_some rfl (O_gN rfl rfl rfl (P_some rfl (O_gN rfl rfl rfl (P_some rfl (O_gN rfl rfl rfl (P_some rfl (O_cons (O_read rfl (R_pick_F rfl rfl rfl (P_some rfl (O_cons (O_read rfl (R_move rfl ?_)))))))))))))
                  refine P_some rfl (O_gN rfl rfl rfl (P_some rfl (O_gN rfl rfl rfl (P_some rfl (O_gN rfl rfl rfl (P_some rfl (O_gN rfl rfl rfl (P_some rfl (O_cons (O_read rfl (R_pick_F rfl rfl rfl (P_some rfl (O_cons ?_)))))))))))))
                  refine O_read rfl (R_assign rfl (P_some rfl (O_nil ?_)))
                  have e_ := Option.some.inj h1330
                  subst e_
                  exact ⟨false, rfl, SubFr.of ⟨rfl, trivial⟩, SegSub.sel _ [] 3⟩
                replace h1330 := cond_f hc7 h1330
                refine P_some rfl (O_gN rfl rfl hc7 (P_some rfl (O_gN rfl rfl hc7 (P_some rfl (O_cons (O_read rfl (R_pick_F rfl hc7 rfl (P_some rfl (O_cons (O_read rfl (R_move rfl (P_some rfl (O_gN rfl rfl rfl ?_)))))))))))))
                refine P_some rfl (O_gN rfl rfl rfl (P_some rfl (O_gN rfl rfl rfl (P_some rfl (O_cons (O_read rfl (R_pick_F rfl rfl rfl (P_some rfl (O_cons (O_read rfl (R_move rfl (P_some rfl (O_gN rfl rfl rfl ?_)))))))))))))
                refine P_some rfl (O_gN rfl rfl rfl (P_some rfl (O_gN rfl rfl rfl (P_some rfl (O_gN rfl rfl rfl (P_some rfl (O_cons (O_read rfl (R_pick_F rfl rfl rfl (P_some rfl (O_cons (O_read rfl (R_move rfl ?_)))))))))))))
                refine P_some rfl (O_gN rfl rfl rfl (P_some rfl (O_gN rfl rfl rfl (P_some rfl (O_gN rfl rfl rfl (P_some rfl (O_gN rfl rfl rfl (P_some rfl (O_cons (O_read rfl (R_pick_F rfl rfl rfl (P_some rfl (O_cons ?_)))))))))))))
                refine O_read rfl (R_assign rfl (P_some rfl (O_nil ?_)))
                have e_ := Option.some.inj h1330
                subst e_
                exact ⟨false, rfl, SubFr.of ⟨rfl, trivial⟩, SegSub.sel _ [] 3⟩
              replace h1330 := cond_f hc6 h1330
              refine P_some rfl (O_gN rfl rfl hc6 (P_some rfl (O_gN rfl rfl hc6 (P_some rfl (O_cons (O_read rfl (R_pick_F rfl hc6 rfl (P_some rfl (O_cons (O_read rfl (R_move rfl (P_some rfl (O_gN rfl rfl rfl ?_)))))))))))))
              refine P_some rfl (O_gN rfl rfl rfl (P_some rfl (O_gN rfl rfl rfl (P_some rfl (O_cons (O_read rfl (R_pick_F rfl rfl rfl (P_some rfl (O_cons (O_read rfl (R_move rfl (P_some rfl (O_gN rfl rfl rfl ?_)))))))))))))
              refine P_some rfl (O_gN rfl rfl rfl (P_some rfl (O_gN rfl rfl rfl (P_some rfl (O_cons (O_read rfl (R_pick_F rfl rfl rfl (P_some rfl (O_cons (O_read rfl (R_move rfl (P_some rfl (O_gN rfl rfl rfl ?_)))))))))))))
              refine P_some rfl (O_gN rfl rfl rfl (P_some rfl (O_gN rfl rfl rfl (P_some rfl (O_gN rfl rfl rfl (P_some rfl (O_cons (O_read rfl (R_pick_F rfl rfl rfl (P_some rfl (O_cons (O_read rfl (R_move rfl ?_)))))))))))))
              refine P_some rfl (O_gN rfl rfl rfl (P_some rfl (O_gN rfl rfl rfl (P_some rfl (O_gN rfl rfl rfl (P_some rfl (O_gN rfl rfl rfl (P_some rfl (O_cons (O_read rfl (R_pick_F rfl rfl rfl (P_some rfl (O_cons ?_)))))))))))))
              refine O_read rfl (R_assign rfl (P_some rfl (O_nil ?_)))
              have e_ := Option.some.inj h1330
              subst e_
              exact ⟨false, rfl, SubFr.of ⟨rfl, trivial⟩, SegSub.sel _ [] 3⟩
            replace h1330 := cond_f hc5 h1330
            refine P_some rfl (O_gN rfl rfl hc5 (P_some rfl (O_cons (O_read rfl (R_pick_F rfl hc5 rfl (P_some rfl (O_cons (O_read rfl (R_move rfl (P_some rfl (O_gN rfl rfl rfl (P_some rfl (O_gN rfl rfl rfl ?_)))))))))))))
            refine P_some rfl (O_gN rfl rfl rfl (P_some rfl (O_cons (O_read rfl (R_pick_F rfl rfl rfl (P_some rfl (O_cons (O_read rfl (R_move rfl (P_some rfl (O_gN rfl rfl rfl (P_some rfl (O_gN rfl rfl rfl ?_)))))))))))))
            refine P_some rfl (O_gN rfl rfl rfl (P_some rfl (O_cons (O_read rfl (R_pick_F rfl rfl rfl (P_some rfl (O_cons (O_read rfl (R_move rfl (P_some rfl (O_gN rfl rfl rfl (P_some rfl (O_gN rfl rfl rfl ?_)))))))))))))
            refine P_some rfl (O_gN rfl rfl rfl (P_some rfl (O_cons (O_read rfl (R_pick_F rfl rfl rfl (P_some rfl (O_cons (O_read rfl (R_move rfl (P_some rfl (O_gN rfl rfl rfl (P_some rfl (O_gN rfl rfl rfl ?_)))))))))))))
            refine P_some rfl (O_gN rfl rfl rfl (P_some rfl (O_gN rfl rfl rfl (P_some rfl (O_cons (O_read rfl (R_pick_F rfl rfl rfl (P_some rfl (O_cons (O_read rfl (R_move rfl (P_some rfl (O_gN rfl rfl rfl ?_)))))))))))))
            refine P_some rfl (O_gN rfl rfl rfl (P_some rfl (O_gN rfl rfl rfl (P_some rfl (O_gN rfl rfl rfl (P_some rfl (O_cons (O_read rfl (R_pick_F rfl rfl rfl (P_some rfl (O_cons (O_read rfl (R_assign rfl ?_)))))))))))))
            refine P_some rfl (O_nil ?_)
            have e_ := Option.some.inj h1330
            subst e_
            exact ⟨false, rfl, SubFr.of ⟨rfl, trivial⟩, SegSub.sel _ [] 3⟩
          replace h1330 := cond_f hc4 h1330
          refine P_some rfl (O_gN rfl rfl hc4 (P_some rfl (O_cons (O_read rfl (R_pick_F rfl hc4 rfl (P_some rfl (O_cons (O_read rfl (R_move rfl (P_some rfl (O_gN rfl rfl rfl (P_some rfl (O_gN rfl rfl rfl ?_)))))))))))))
          refine P_some rfl (O_cons (O_read rfl (R_pick_F rfl rfl rfl (P_some rfl (O_cons (O_read rfl (R_move rfl (P_some rfl (O_gN rfl rfl rfl (P_some rfl (O_gN rfl rfl rfl (P_some rfl (O_gN rfl rfl rfl ?_)))))))))))))
          refine P_some rfl (O_cons (O_read rfl (R_pick_F rfl rfl rfl (P_some rfl (O_cons (O_read rfl (R_move rfl (P_some rfl (O_gN rfl rfl rfl (P_some rfl (O_gN rfl rfl rfl (P_some rfl (O_gN rfl rfl rfl ?_)))))))))))))
          refine P_some rfl (O_cons (O_read rfl (R_pick_F rfl rfl rfl (P_some rfl (O_cons (O_read rfl (R_move rfl (P_some rfl (O_gN rfl rfl rfl (P_some rfl (O_gN rfl rfl rfl (P_some rfl (O_gN rfl rfl rfl ?_)))))))))))))
          refine P_some rfl (O_cons (O_read rfl (R_pick_F rfl rfl rfl (P_some rfl (O_cons (O_read rfl (R_move rfl (P_some rfl (O_gN rfl rfl rfl (P_some rfl (O_gN rfl rfl rfl (P_some rfl (O_gN rfl rfl rfl ?_)))))))))))))
          refine P_some rfl (O_gN rfl rfl rfl (P_some rfl (O_cons (O_read rfl (R_pick_F rfl rfl rfl (P_some rfl (O_cons (O_read rfl (R_move rfl (P_some rfl (O_gN rfl rfl rfl (P_some rfl (O_gN rfl rfl rfl ?_)))))))))))))
          refine P_some rfl (O_gN rfl rfl rfl (P_some rfl (O_gN rfl rfl rfl (P_some rfl (O_cons (O_read rfl (R_pick_F rfl rfl rfl (P_some rfl (O_cons (O_read rfl (R_assign rfl (P_some rfl (O_nil ?_)))))))))))))
          have e_ := Option.some.inj h1330
          subst e_
          exact ⟨false, rfl, SubFr.of ⟨rfl, trivial⟩, SegSub.sel _ [] 3⟩
        replace h1330 := cond_f hc3 h1330
        refine P_some rfl (O_gN rfl rfl hc3 (P_some rfl (O_cons (O_read rfl (R_pick_F rfl hc3 rfl (P_some rfl (O_cons (O_read rfl (R_move rfl (P_some rfl (O_gN rfl rfl rfl (P_some rfl (O_gN rfl rfl rfl ?_)))))))))))))
        refine P_some rfl (O_cons (O_read rfl (R_pick_F rfl rfl rfl (P_some rfl (O_cons (O_read rfl (R_move rfl (P_some rfl (O_gN rfl rfl rfl (P_some rfl (O_gN rfl rfl rfl (P_some rfl (O_cons ?_)))))))))))))
        refine O_read rfl (R_pick_F rfl rfl rfl (P_some rfl (O_cons (O_read rfl (R_move rfl (P_some rfl (O_gN rfl rfl rfl (P_some rfl (O_gN rfl rfl rfl (P_some rfl (O_gN rfl rfl rfl (P_some rfl (O_cons ?_)))))))))))))
        refine O_read rfl (R_pick_F rfl rfl rfl (P_some rfl (O_cons (O_read rfl (R_move rfl (P_some rfl (O_gN rfl rfl rfl (P_some rfl (O_gN rfl rfl rfl (P_some rfl (O_gN rfl rfl rfl (P_some rfl (O_cons ?_)))))))))))))
        refine O_read rfl (R_pick_F rfl rfl rfl (P_some rfl (O_cons (O_read rfl (R_move rfl (P_some rfl (O_gN rfl rfl rfl (P_some rfl (O_gN rfl rfl rfl (P_some rfl (O_gN rfl rfl rfl (P_some rfl (O_cons ?_)))))))))))))
        refine O_read rfl (R_pick_F rfl rfl rfl (P_some rfl (O_cons (O_read rfl (R_move rfl (P_some rfl (O_gN rfl rfl rfl (P_some rfl (O_gN rfl rfl rfl (P_some rfl (O_gN rfl rfl rfl (P_some rfl (O_gN rfl rfl rfl ?_)))))))))))))
        refine P_some rfl (O_cons (O_read rfl (R_pick_F rfl rfl rfl (P_some rfl (O_cons (O_read rfl (R_move rfl (P_some rfl (O_gN rfl rfl rfl (P_some rfl (O_gN rfl rfl rfl (P_some rfl (O_gN rfl rfl rfl ?_)))))))))))))
        refine P_some rfl (O_gN rfl rfl rfl (P_some rfl (O_cons (O_read rfl (R_pick_F rfl rfl rfl (P_some rfl (O_cons (O_read rfl (R_assign rfl (P_some rfl (O_nil ?_)))))))))))
        have e_ := Option.some.inj h1330
        subst e_
        exact ⟨false, rfl, SubFr.of ⟨rfl, trivial⟩, SegSub.sel _ [] 3⟩
      replace h1330 := cond_f hc2 h1330
      refine P_some rfl (O_gN rfl rfl hc2 (P_some rfl (O_cons (O_read rfl (R_pick_F rfl hc2 rfl (P_some rfl (O_cons (O_read rfl (R_move rfl (P_some rfl (O_gN rfl rfl rfl (P_some rfl (O_gN rfl rfl rfl ?_)))))))))))))
      refine P_some rfl (O_cons (O_read rfl (R_pick_F rfl rfl rfl (P_some rfl (O_cons (O_read rfl (R_move rfl (P_some rfl (O_gN rfl rfl rfl (P_some rfl (O_gN rfl rfl rfl (P_some rfl (O_cons ?_)))))))))))))
      refine O_read rfl (R_pick_F rfl rfl rfl (P_some rfl (O_cons (O_read rfl (R_move rfl (P_some rfl (O_gN rfl rfl rfl (P_some rfl (O_gN rfl rfl rfl (P_some rfl (O_cons (O_read rfl (R_pick_F rfl rfl rfl ?_)))))))))))))
      refine P_some rfl (O_cons (O_read rfl (R_move rfl (P_some rfl (O_gN rfl rfl rfl (P_some rfl (O_gN rfl rfl rfl (P_some rfl (O_gN rfl rfl rfl (P_some rfl (O_cons (O_read rfl (R_pick_F rfl rfl rfl ?_)))))))))))))
      refine P_some rfl (O_cons (O_read rfl (R_move rfl (P_some rfl (O_gN rfl rfl rfl (P_some rfl (O_gN rfl rfl rfl (P_some rfl (O_gN rfl rfl rfl (P_some rfl (O_cons (O_read rfl (R_pick_F rfl rfl rfl ?_)))))))))))))
      refine P_some rfl (O_cons (O_read rfl (R_move rfl (P_some rfl (O_gN rfl rfl rfl (P_some rfl (O_gN rfl rfl rfl (P_some rfl (O_gN rfl rfl rfl (P_some rfl (O_cons (O_read rfl (R_pick_F rfl rfl rfl ?_)))))))))))))
      refine P_some rfl (O_cons (O_read rfl (R_move rfl (P_some rfl (O_gN rfl rfl rfl (P_some rfl (O_gN rfl rfl rfl (P_some rfl (O_gN rfl rfl rfl (P_some rfl (O_gN rfl rfl rfl (P_some rfl (O_cons ?_)))))))))))))
      refine O_read rfl (R_pick_F rfl rfl rfl (P_some rfl (O_cons (O_read rfl (R_move rfl (P_some rfl (O_gN rfl rfl rfl (P_some rfl (O_gN rfl rfl rfl (P_some rfl (O_gN rfl rfl rfl (P_some rfl (O_gN rfl rfl rfl ?_)))))))))))))
      refine P_some rfl (O_cons (O_read rfl (R_pick_F rfl rfl rfl (P_some rfl (O_cons (O_read rfl (R_assign rfl (P_some rfl (O_nil ?_)))))))))
      have e_ := Option.some.inj h1330
      subst e_
      exact ⟨false, rfl, SubFr.of ⟨rfl, trivial⟩, SegSub.sel _ [] 3⟩
    replace h1330 := cond_f hc1 h1330
    refine P_some rfl (O_gN rfl rfl hc1 (P_some rfl (O_cons (O_read rfl (R_pick_F rfl hc1 rfl (P_some rfl (O_cons (O_read rfl (R_move rfl (P_some rfl (O_gN rfl rfl rfl (P_some rfl (O_gN rfl rfl rfl ?_)))))))))))))
    refine P_some rfl (O_cons (O_read rfl (R_pick_F rfl rfl rfl (P_some rfl (O_cons (O_read rfl (R_move rfl (P_some rfl (O_gN rfl rfl rfl (P_some rfl (O_gN rfl rfl rfl (P_some rfl (O_cons ?_)))))))))))))
    refine O_read rfl (R_pick_F rfl rfl rfl (P_some rfl (O_cons (O_read rfl (R_move rfl (P_some rfl (O_gN rfl rfl rfl (P_some rfl (O_gN rfl rfl rfl (P_some rfl (O_cons (O_read rfl (R_pick_F rfl rfl rfl ?_)))))))))))))
    refine P_some rfl (O_cons (O_read rfl (R_move rfl (P_some rfl (O_gN rfl rfl rfl (P_some rfl (O_gN rfl rfl rfl (P_some rfl (O_cons (O_read rfl (R_pick_F rfl rfl rfl (P_some rfl (O_cons ?_)))))))))))))
    refine O_read rfl (R_move rfl (P_some rfl (O_gN rfl rfl rfl (P_some rfl (O_gN rfl rfl rfl (P_some rfl (O_gN rfl rfl rfl (P_some rfl (O_cons (O_read rfl (R_pick_F rfl rfl rfl (P_some rfl (O_cons ?_)))))))))))))
    refine O_read rfl (R_move rfl (P_some rfl (O_gN rfl rfl rfl (P_some rfl (O_gN rfl rfl rfl (P_some rfl (O_gN rfl rfl rfl (P_some rfl (O_cons (O_read rfl (R_pick_F rfl rfl rfl (P_some rfl (O_cons ?_)))))))))))))
    refine O_read rfl (R_move rfl (P_some rfl (O_gN rfl rfl rfl (P_some rfl (O_gN rfl rfl rfl (P_some rfl (O_gN rfl rfl rfl (P_some rfl (O_cons (O_read rfl (R_pick_F rfl rfl rfl (P_some rfl (O_cons ?_)))))))))))))
    refine O_read rfl (R_move rfl (P_some rfl (O_gN rfl rfl rfl (P_some rfl (O_gN rfl rfl rfl (P_some rfl (O_gN rfl rfl rfl (P_some rfl (O_gN rfl rfl rfl (P_some rfl (O_cons (O_read rfl (R_pick_F rfl rfl rfl ?_)))))))))))))
    refine P_some rfl (O_cons (O_read rfl (R_move rfl (P_some rfl (O_gN rfl rfl rfl (P_some rfl (O_gN rfl rfl rfl (P_some rfl (O_gN rfl rfl rfl (P_some rfl (O_gN rfl rfl rfl (P_some rfl (O_cons ?_)))))))))))))
    refine O_read rfl (R_pick_F rfl rfl rfl (P_some rfl (O_cons (O_read rfl (R_assign rfl (P_some rfl (O_nil ?_)))))))
    have e_ := Option.some.inj h1330
    subst e_
    exact ⟨false, rfl, SubFr.of ⟨rfl, trivial⟩, SegSub.sel _ [] 3⟩
  rintro fr1330 μ1330 L1330 hm1330 ⟨v12, ho1330, hF1330, hS1330⟩
  subst ho1330
  replace hP1 := hP1.mono hm1330
  replace hA1 := hA1.mono hm1330
  replace hP2 := hP2.mono hm1330
  replace hA2 := hA2.mono hm1330
  replace hP3 := hP3.mono hm1330
  replace hA3 := hA3.mono hm1330
  replace hP4 := hP4.mono hm1330
  replace hA4 := hA4.mono hm1330
  replace hP5 := hP5.mono hm1330
  replace hA5 := hA5.mono hm1330
  replace hA6 := hA6.mono hm1330
  refine hK1329 _ _ _ (WP.at hF1330 hS1330 (WP.ret ?_))
  have e_ := Option.some.inj h
  subst e_
  refine S_tmp rfl (S_nil (Upd.selS [] 0 ?_))
  exact Upd.done (hR _ (Gh.le.trans hm_1 (Gh.le.trans hm_2 (Gh.le.trans hm_3 (Gh.le.trans hm_4 (Gh.le.trans hm_5 (Gh.le.trans hm_6 (Gh.le.trans hm_7 (Gh.le.trans hm_8 (Gh.le.trans hm_9 (Gh.le.trans hm_10 (hm1330))))))))))))

theorem recyclingref48_Check_fn {μ : Gh} {L : List Seg} {R : Value → Gh → List Seg → Prop}  {p1 : T_api_Posting} {A1 : Option Addr} {c1 : Nat} {res1 : Int}
    (hl1 : p1.Lines.length ≤ c1 ∧ c1 ≤ maxLen) (hA1 : ArrR r_api_Line μ A1 p1.Lines) (h : recyclingref48_Check p1 = some res1)
    (hR : R (.int .i64 res1) μ (L)) :
    Fn Try.prog 13 [.agg #[.int .i64 p1.ID, .int .i64 p1.At, .slice A1 p1.Lines.length c1]] μ (L) R := by
  unfold recyclingref48_Check at h
  refine Fn.of_body Tt_ok Try.func13 (by kernel_rfl) rfl Try.ntmps13 (by simp) ?_
  simp only [Try.f13, argFr, List.zipIdx, List.map, Nat.reduceAdd]
  refine WP.seq_k (fun K1349 hK1349 => WP.region Tt_ok (O_cons (O_box (cs := #[.int .i64 p1.ID, .int .i64 p1.At, .slice A1 p1.Lines.length c1]) rfl rfl (fun g1 => P_some rfl (O_cons (O_read rfl (R_assign rfl (P_some rfl (O_nil (hK1349 _ _ _ (WP.seq_k (fun K1351 hK1351 => WP.seq_k (fun K1352 hK1352 => ?_)))))))))))))
  obtain ⟨o1353, h1353, h⟩ := obind h
  refine WP.cutK (fun fr_ μ_ L_ => ∃ (v1 : Bool), v1 = o1353 ∧ SubFr [(1, .pointer (some ⟨g1, 0, none⟩)), (24, .bool v1)] fr_ ∧ SegSub ([(g1, .cells #[.int .i64 p1.ID, .int .i64 p1.At, .slice A1 p1.Lines.length c1] 24 (0, 0))] :: L) L_ ∧ μ = μ_) ?_ ?_
  · refine WP.region Tt_ok (O_cons (O_read rfl (R_fa0 (o' := 0) rfl rfl rfl rfl rfl rfl (P_some rfl (O_cons (O_read rfl (R_load rfl rfl rfl (Ex.mk _ (Cell.seg 0 0 rfl rfl rfl) (P_some rfl (O_cons (O_read rfl (R_lssD rfl rfl (P_some rfl ?_)))))))))))))
    refine O_cons (O_read rfl (R_move rfl (P_some rfl ?_)))
    refine O_gv (z := (decide (p1.ID < 1))) rfl rfl (fun hc1 => ?_) (fun hc1 => ?_)
    · replace h1353 := cond_f hc1 h1353
      refine O_read rfl (R_fa0 (o' := 0) rfl rfl rfl rfl rfl rfl (P_some rfl (O_gY rfl rfl hc1 (O_read rfl (R_load rfl rfl rfl (Ex.mk _ (Cell.seg 0 0 rfl rfl rfl) (P_some rfl (O_gY rfl rfl hc1 (O_read rfl (R_gtrD rfl rfl (P_some rfl (O_cons (O_read rfl ?_)))))))))))))
      refine R_pick_F rfl hc1 rfl (P_some rfl (O_cons (O_read rfl (R_move rfl (P_some rfl ?_)))))
      refine O_gv (z := (decide (1000000 < p1.ID))) rfl rfl (fun hc2 => ?_) (fun hc2 => ?_)
      · replace h1353 := cond_f hc2 h1353
        refine O_read rfl (R_fa0 (o' := 1) rfl rfl rfl rfl rfl rfl (P_some rfl (O_gY rfl rfl hc2 (O_read rfl (R_load rfl rfl rfl (Ex.mk _ (Cell.seg 0 0 rfl rfl rfl) (P_some rfl (O_gY rfl rfl hc2 (O_read rfl (R_lssD rfl rfl (P_some rfl (O_cons (O_read rfl ?_)))))))))))))
        refine R_pick_F rfl hc2 rfl (P_some rfl (O_cons (O_read rfl (R_move rfl (P_some rfl ?_)))))
        refine O_gv (z := (decide (p1.At < 0))) rfl rfl (fun hc3 => ?_) (fun hc3 => ?_)
        · replace h1353 := cond_f hc3 h1353
          refine O_read rfl (R_fa0 (o' := 1) rfl rfl rfl rfl rfl rfl (P_some rfl (O_gY rfl rfl hc3 (O_read rfl (R_load rfl rfl rfl (Ex.mk _ (Cell.seg 0 0 rfl rfl rfl) (P_some rfl (O_gY rfl rfl hc3 (O_read rfl (R_gtrD rfl rfl (P_some rfl (O_cons (O_read rfl ?_)))))))))))))
          refine R_pick_F rfl hc3 rfl (P_some rfl (O_nil ?_))
          have e_ := Option.some.inj h1353
          subst e_
          exact ⟨(decide (3155759999 < p1.At)), rfl, SubFr.of ⟨rfl, rfl, trivial⟩, SegSub.sel _ [some 0] 1, rfl⟩
        replace h1353 := cond_t hc3 h1353
        refine P_some rfl (O_gN rfl rfl hc3 (P_some rfl (O_gN rfl rfl hc3 (P_some rfl (O_cons (O_read rfl (R_pick_T rfl hc3 rfl (P_some rfl (O_nil ?_)))))))))
        have e_ := Option.some.inj h1353
        subst e_
        exact ⟨true, rfl, SubFr.of ⟨rfl, rfl, trivial⟩, SegSub.sel _ [some 0] 1, rfl⟩
      replace h1353 := cond_t hc2 h1353
      refine P_some rfl (O_gN rfl rfl hc2 (P_some rfl (O_gN rfl rfl hc2 (P_some rfl (O_cons (O_read rfl (R_pick_T rfl hc2 rfl (P_some rfl (O_cons (O_read rfl (R_move rfl (P_some rfl (O_gN rfl rfl rfl ?_)))))))))))))
      refine P_some rfl (O_gN rfl rfl rfl (P_some rfl (O_gN rfl rfl rfl (P_some rfl (O_cons (O_read rfl (R_pick_T rfl rfl rfl (P_some rfl (O_nil ?_)))))))))
      have e_ := Option.some.inj h1353
      subst e_
      exact ⟨true, rfl, SubFr.of ⟨rfl, rfl, trivial⟩, SegSub.sel _ [some 0] 1, rfl⟩
    replace h1353 := cond_t hc1 h1353
    refine P_some rfl (O_gN rfl rfl hc1 (P_some rfl (O_gN rfl rfl hc1 (P_some rfl (O_cons (O_read rfl (R_pick_T rfl hc1 rfl (P_some rfl (O_cons (O_read rfl (R_move rfl (P_some rfl (O_gN rfl rfl rfl ?_)))))))))))))
    refine P_some rfl (O_gN rfl rfl rfl (P_some rfl (O_gN rfl rfl rfl (P_some rfl (O_cons (O_read rfl (R_pick_T rfl rfl rfl (P_some rfl (O_cons (O_read rfl (R_move rfl (P_some rfl (O_gN rfl rfl rfl ?_)))))))))))))
    refine P_some rfl (O_gN rfl rfl rfl (P_some rfl (O_gN rfl rfl rfl (P_some rfl (O_cons (O_read rfl (R_pick_T rfl rfl rfl (P_some rfl (O_nil ?_)))))))))
    have e_ := Option.some.inj h1353
    subst e_
    exact ⟨true, rfl, SubFr.of ⟨rfl, rfl, trivial⟩, SegSub.sel _ [some 0] 1, rfl⟩
  rintro fr1353 μ1353 L1353 hm1353 ⟨v1, ho1353, hF1353, hS1353, hu1353⟩
  subst ho1353
  subst hu1353
  refine hK1352 _ _ _ (WP.at hF1353 hS1353 ?_)
  refine W_cond_v (b := v1) rfl (fun hc4 => ?_) (fun hc4 => ?_)
  · replace h := cond_t hc4 h
    refine WP.seq_k (fun K1356 hK1356 => WP.region Tt_ok (O_cons (O_read rfl (R_assign rfl (P_some rfl (O_nil (hK1356 _ _ _ (WP.ret ?_))))))))
    have e_ := Option.some.inj h
    subst e_
    refine S_tmp rfl (S_nil (Upd.selS [] 1 ?_))
    exact Upd.done hR
  replace h := cond_f hc4 h
  refine WP.skip (hK1351 _ _ _ (WP.seq_k (fun K1357 hK1357 => WP.seq_k (fun K1358 hK1358 => WP.region Tt_ok (O_cons (O_read rfl (R_fa0 (o' := 2) rfl rfl rfl rfl rfl rfl (P_some rfl (O_cons (O_read rfl (R_load rfl rfl rfl (Ex.mk _ (Cell.seg 0 0 rfl rfl rfl) (P_some rfl ?_)))))))))))))
  refine O_cons (O_read rfl (R_lenS rfl rfl rfl (P_some rfl (O_cons (O_read rfl (R_gtrD rfl rfl (P_some rfl (O_nil (hK1358 _ _ _ ?_)))))))))
  refine W_cond_v (b := (decide (16 < ((p1.Lines.length : Nat) : Int)))) rfl (fun hc5 => ?_) (fun hc5 => ?_)
  · replace h := cond_t hc5 h
    refine WP.seq_k (fun K1359 hK1359 => WP.region Tt_ok (O_cons (O_read rfl (R_assign rfl (P_some rfl (O_nil (hK1359 _ _ _ (WP.ret ?_))))))))
    have e_ := Option.some.inj h
    subst e_
    refine S_tmp rfl (S_nil (Upd.selS [] 1 ?_))
    exact Upd.done hR
  replace h := cond_f hc5 h
  refine WP.skip (hK1357 _ _ _ (WP.seq_k (fun K1360 hK1360 => WP.seq_k (fun K1361 hK1361 => WP.region Tt_ok (O_cons (O_read rfl (R_fa0 (o' := 2) rfl rfl rfl rfl rfl rfl (P_some rfl (O_cons (O_read rfl (R_load rfl rfl rfl (Ex.mk _ (Cell.seg 0 0 rfl rfl rfl) (P_some rfl ?_)))))))))))))
  refine O_cons (O_read rfl (R_lenS rfl rfl rfl (P_some rfl (O_cons (O_read rfl (R_lssD rfl rfl (P_some rfl (O_nil (hK1361 _ _ _ ?_)))))))))
  refine W_cond_v (b := (decide (((p1.Lines.length : Nat) : Int) < 2))) rfl (fun hc6 => ?_) (fun hc6 => ?_)
  · replace h := cond_t hc6 h
    refine WP.seq_k (fun K1362 hK1362 => WP.region Tt_ok (O_cons (O_read rfl (R_assign rfl (P_some rfl (O_nil (hK1362 _ _ _ (WP.ret ?_))))))))
    have e_ := Option.some.inj h
    subst e_
    refine S_tmp rfl (S_nil (Upd.selS [] 1 ?_))
    exact Upd.done hR
  replace h := cond_f hc6 h
  refine WP.skip (hK1360 _ _ _ (WP.seq_k (fun K1363 hK1363 => WP.seq_k (fun K1364 hK1364 => WP.region Tt_ok (O_cons (O_read rfl (R_assign rfl (P_some rfl (O_nil (hK1364 _ _ _ ?_))))))))))
  obtain ⟨o1365, h1365, h⟩ := obind h
  refine WP.cutK (fun fr_ μ_ L_ => (.inl ()) = o1365 ∧ SubFr [(1, .pointer (some ⟨g1, 0, none⟩))] fr_ ∧ SegSub ([(g1, .cells #[.int .i64 p1.ID, .int .i64 p1.At, .slice A1 p1.Lines.length c1] 24 (0, 0))] :: L) L_ ∧ μ = μ_) ?_ ?_
  · refine WP.block (WP.iter h1365 (fun (i1 : Int) fr_ μ_ L_ => SubFr [(1, .pointer (some ⟨g1, 0, none⟩)), (3, .int .i64 i1)] fr_ ∧ SegSub ([(g1, .cells #[.int .i64 p1.ID, .int .i64 p1.At, .slice A1 p1.Lines.length c1] 24 (0, 0))] :: L) L_ ∧ μ = μ_) ⟨SubFr.of ⟨rfl, rfl, trivial⟩, SegSub.sel _ [some 0] 1, rfl⟩ ?_)
    rintro i1 q1381 fr1381 μ1381 L1381 hm1381 ⟨hF1381, hS1381, hu1381⟩ hb1381 hq1381
    unfold recyclingref48_Check_l1 at hb1381
    subst hu1381
    refine WP.at hF1381 hS1381 (WP.seq_k (fun K1385 hK1385 => WP.seq_k (fun K1386 hK1386 => WP.region Tt_ok (O_cons (O_read rfl (R_move rfl (P_some rfl (O_cons (O_read rfl (R_fa0 (o' := 2) rfl rfl rfl rfl rfl rfl (P_some rfl (O_cons (O_read rfl ?_)))))))))))))
    refine R_load rfl rfl rfl (Ex.mk _ (Cell.seg 0 0 rfl rfl rfl) (P_some rfl (O_cons (O_read rfl (R_lenS rfl rfl rfl (P_some rfl (O_cons (O_read rfl (R_lssD rfl rfl (P_some rfl (O_nil (hK1386 _ _ _ ?_))))))))))))
    refine W_cond_v (b := (decide (i1 < ((p1.Lines.length : Nat) : Int)))) rfl (fun hc7 => ?_) (fun hc7 => ?_)
    · replace hb1381 := cond_t hc7 hb1381
      refine WP.skip (hK1385 _ _ _ (WP.seq_k (fun K1387 hK1387 => WP.block (WP.seq_k (fun K1388 hK1388 => WP.region Tt_ok (O_cons (O_read rfl (R_fa0 (o' := 2) rfl rfl rfl rfl rfl rfl (P_some rfl (O_cons (O_read rfl (R_load rfl rfl rfl (Ex.mk _ (Cell.seg 0 0 rfl rfl rfl) ?_)))))))))))))
      refine P_some rfl (O_cons (O_read rfl (R_move rfl (P_some rfl (O_cons ?_)))))
      obtain ⟨x1, hx1, hb1381⟩ := obind hb1381
      obtain ⟨a1, cs1, hA2, hr1, _, hc8⟩ := Rds.getI (ArrR.rds hA1 L) hx1
      obtain rfl := hr1
      refine O_read rfl (R_iaG rfl rfl rfl rfl rfl rfl ⟨(getI_lt hx1).1, (getI_lt hx1).2.1⟩ hA2 (P_some rfl (O_cons (O_read rfl (R_loadA rfl rfl rfl rfl (Ex.mk [.int .i64 x1.Account, .int .i64 x1.Amount] ⟨rfl, (hc8.push)⟩ (P_some rfl (O_cons (O_alloc (cs := #[.int .i64 0, .int .i64 0]) rfl rfl (fun g2 => P_some rfl (O_cons (O_store (vs := [.int .i64 x1.Account, .int .i64 x1.Amount]) rfl rfl rfl rfl rfl rfl (ST_ (L' := ([(g2, .cells #[.int .i64 x1.Account, .int .i64 x1.Amount] 49 (0, 0))] :: [(g1, .cells #[.int .i64 p1.ID, .int .i64 p1.At, .slice A1 p1.Lines.length c1] 24 (0, 0))] :: L)) 0 0 rfl rfl rfl rfl ?_)))))))))))))
      refine P_none (O_nil (hK1388 _ _ _ (WP.seq_k (fun K1391 hK1391 => ?_))))
      obtain ⟨o1392, h1392, hb1381⟩ := obind hb1381
      refine WP.cutK (fun fr_ μ_ L_ => ∃ (v2 : Bool), v2 = o1392 ∧ SubFr [(1, .pointer (some ⟨g1, 0, none⟩)), (3, .int .i64 i1), (67, .bool v2)] fr_ ∧ SegSub ([(g1, .cells #[.int .i64 p1.ID, .int .i64 p1.At, .slice A1 p1.Lines.length c1] 24 (0, 0))] :: L) L_ ∧ μ = μ_) ?_ ?_
      · refine WP.region Tt_ok (O_cons (O_read rfl (R_fa0 (o' := 0) rfl rfl rfl rfl rfl rfl (P_some rfl (O_cons (O_read rfl (R_load rfl rfl rfl (Ex.mk _ (Cell.seg 0 0 rfl rfl rfl) (P_some rfl (O_cons (O_read rfl (R_lssD rfl rfl (P_some rfl ?_)))))))))))))
        refine O_cons (O_read rfl (R_move rfl (P_some rfl ?_)))
        refine O_gv (z := (decide (x1.Account < 0))) rfl rfl (fun hc9 => ?_) (fun hc9 => ?_)
        · replace h1392 := cond_f hc9 h1392
          refine O_read rfl (R_fa0 (o' := 0) rfl rfl rfl rfl rfl rfl (P_some rfl (O_gY rfl rfl hc9 (O_read rfl (R_load rfl rfl rfl (Ex.mk _ (Cell.seg 0 0 rfl rfl rfl) (P_some rfl (O_gY rfl rfl hc9 (O_read rfl (R_gtrD rfl rfl (P_some rfl (O_cons (O_read rfl ?_)))))))))))))
          refine R_pick_F rfl hc9 rfl (P_some rfl (O_cons (O_read rfl (R_move rfl (P_some rfl ?_)))))
          refine O_gv (z := (decide (1000000 < x1.Account))) rfl rfl (fun hc10 => ?_) (fun hc10 => ?_)
          · replace h1392 := cond_f hc10 h1392
            refine O_read rfl (R_fa0 (o' := 1) rfl rfl rfl rfl rfl rfl (P_some rfl (O_gY rfl rfl hc10 (O_read rfl (R_load rfl rfl rfl (Ex.mk _ (Cell.seg 0 0 rfl rfl rfl) (P_some rfl (O_gY rfl rfl hc10 (O_read rfl (R_eqlD rfl rfl (P_some rfl (O_cons (O_read rfl ?_)))))))))))))
            refine R_pick_F rfl hc10 rfl (P_some rfl (O_cons (O_read rfl (R_move rfl (P_some rfl ?_)))))
            refine O_gv (z := (decide (x1.Amount = 0))) rfl rfl (fun hc11 => ?_) (fun hc11 => ?_)
            · replace h1392 := cond_f hc11 h1392
              refine O_read rfl (R_fa0 (o' := 1) rfl rfl rfl rfl rfl rfl (P_some rfl (O_gY rfl rfl hc11 (O_read rfl (R_load rfl rfl rfl (Ex.mk _ (Cell.seg 0 0 rfl rfl rfl) (P_some rfl (O_gY rfl rfl hc11 (O_read rfl (R_lssD rfl rfl (P_some rfl (O_cons (O_read rfl ?_)))))))))))))
              refine R_pick_F rfl hc11 rfl (P_some rfl (O_cons (O_read rfl (R_move rfl (P_some rfl ?_)))))
              refine O_gv (z := (decide (x1.Amount < (-1000000000000)))) rfl rfl (fun hc12 => ?_) (fun hc12 => ?_)
              · replace h1392 := cond_f hc12 h1392
                refine O_read rfl (R_fa0 (o' := 1) rfl rfl rfl rfl rfl rfl (P_some rfl (O_gY rfl rfl hc12 (O_read rfl (R_load rfl rfl rfl (Ex.mk _ (Cell.seg 0 0 rfl rfl rfl) (P_some rfl (O_gY rfl rfl hc12 (O_read rfl (R_gtrD rfl rfl (P_some rfl (O_cons (O_read rfl ?_)))))))))))))
                refine R_pick_F rfl hc12 rfl (P_some rfl (O_nil ?_))
                have e_ := Option.some.inj h1392
                subst e_
                exact ⟨(decide (1000000000000 < x1.Amount)), rfl, SubFr.of ⟨rfl, rfl, rfl, trivial⟩, SegSub.sel _ [some 1] 2, rfl⟩
              replace h1392 := cond_t hc12 h1392
              refine P_some rfl (O_gN rfl rfl hc12 (P_some rfl (O_gN rfl rfl hc12 (P_some rfl (O_cons (O_read rfl (R_pick_T rfl hc12 rfl (P_some rfl (O_nil ?_)))))))))
              have e_ := Option.some.inj h1392
              subst e_
              exact ⟨true, rfl, SubFr.of ⟨rfl, rfl, rfl, trivial⟩, SegSub.sel _ [some 1] 2, rfl⟩
            replace h1392 := cond_t hc11 h1392
            refine P_some rfl (O_gN rfl rfl hc11 (P_some rfl (O_gN rfl rfl hc11 (P_some rfl (O_cons (O_read rfl (R_pick_T rfl hc11 rfl (P_some rfl (O_cons (O_read rfl (R_move rfl (P_some rfl (O_gN rfl rfl rfl ?_)))))))))))))
            refine P_some rfl (O_gN rfl rfl rfl (P_some rfl (O_gN rfl rfl rfl (P_some rfl (O_cons (O_read rfl (R_pick_T rfl rfl rfl (P_some rfl (O_nil ?_)))))))))
            have e_ := Option.some.inj h1392
            subst e_
            exact ⟨true, rfl, SubFr.of ⟨rfl, rfl, rfl, trivial⟩, SegSub.sel _ [some 1] 2, rfl⟩
          replace h1392 := cond_t hc10 h1392
          refine P_some rfl (O_gN rfl rfl hc10 (P_some rfl (O_gN rfl rfl hc10 (P_some rfl (O_cons (O_read rfl (R_pick_T rfl hc10 rfl (P_some rfl (O_cons (O_read rfl (R_move rfl (P_some rfl (O_gN rfl rfl rfl ?_)))))))))))))
          refine P_some rfl (O_gN rfl rfl rfl (P_some rfl (O_gN rfl rfl rfl (P_some rfl (O_cons (O_read rfl (R_pick_T rfl rfl rfl (P_some rfl (O_cons (O_read rfl (R_move rfl (P_some rfl (O_gN rfl rfl rfl ?_)))))))))))))
          refine P_some rfl (O_gN rfl rfl rfl (P_some rfl (O_gN rfl rfl rfl (P_some rfl (O_cons (O_read rfl (R_pick_T rfl rfl rfl (P_some rfl (O_nil ?_)))))))))
          have e_ := Option.some.inj h1392
          subst e_
          exact ⟨true, rfl, SubFr.of ⟨rfl, rfl, rfl, trivial⟩, SegSub.sel _ [some 1] 2, rfl⟩
        replace h1392 := cond_t hc9 h1392
        refine P_some rfl (O_gN rfl rfl hc9 (P_some rfl (O_gN rfl rfl hc9 (P_some rfl (O_cons (O_read rfl (R_pick_T rfl hc9 rfl (P_some rfl (O_cons (O_read rfl (R_move rfl (P_some rfl (O_gN rfl rfl rfl ?_)))))))))))))
        refine P_some rfl (O_gN rfl rfl rfl (P_some rfl (O_gN rfl rfl rfl (P_some rfl (O_cons (O_read rfl (R_pick_T rfl rfl rfl (P_some rfl (O_cons (O_read rfl (R_move rfl (P_some rfl (O_gN rfl rfl rfl ?_)))))))))))))
        refine P_some rfl (O_gN rfl rfl rfl (P_some rfl (O_gN rfl rfl rfl (P_some rfl (O_cons (O_read rfl (R_pick_T rfl rfl rfl (P_some rfl (O_cons (O_read rfl (R_move rfl (P_some rfl (O_gN rfl rfl rfl ?_)))))))))))))
        refine P_some rfl (O_gN rfl rfl rfl (P_some rfl (O_gN rfl rfl rfl (P_some rfl (O_cons (O_read rfl (R_pick_T rfl rfl rfl (P_some rfl (O_nil ?_)))))))))
        have e_ := Option.some.inj h1392
        subst e_
        exact ⟨true, rfl, SubFr.of ⟨rfl, rfl, rfl, trivial⟩, SegSub.sel _ [some 1] 2, rfl⟩
      rintro fr1392 μ1392 L1392 hm1392 ⟨v2, ho1392, hF1392, hS1392, hu1392⟩
      subst ho1392
      subst hu1392
      refine hK1391 _ _ _ (WP.at hF1392 hS1392 ?_)
      refine W_cond_v (b := v2) rfl (fun hc13 => ?_) (fun hc13 => ?_)
      · replace hb1381 := cond_t hc13 hb1381
        refine WP.seq_k (fun K1395 hK1395 => WP.region Tt_ok (O_cons (O_read rfl (R_assign rfl (P_some rfl (O_nil (hK1395 _ _ _ (WP.ret ?_))))))))
        have e_ := Option.some.inj hb1381
        subst e_
        have hq_ := hq1381 _ rfl
        subst hq_
        replace h := osum_r h
        have e_ := Option.some.inj h
        subst e_
        refine S_tmp rfl (S_nil (Upd.selS [] 1 ?_))
        exact Upd.done hR
      replace hb1381 := cond_f hc13 hb1381
      refine WP.skip (hK1387 _ _ _ (WP.region Tt_ok (O_cons (O_read rfl (R_move rfl (P_some rfl (O_cons (O_read rfl (R_add rfl rfl (P_some rfl (O_cons (O_read rfl (R_assign rfl ?_)))))))))))))
      refine P_some rfl (O_nil ?_)
      have e_ := Option.some.inj hb1381
      subst e_
      exact ⟨_, rfl, SubFr.of ⟨rfl, rfl, trivial⟩, SegSub.sel _ [some 0] 1, rfl⟩
    replace hb1381 := cond_f hc7 hb1381
    refine WP.exit (B_here ?_)
    have e_ := Option.some.inj hb1381
    subst e_
    have hq_ := hq1381 _ rfl
    subst hq_
    exact ⟨rfl, SubFr.of ⟨rfl, trivial⟩, SegSub.sel _ [some 0] 1, rfl⟩
  rintro fr1365 μ1365 L1365 hm1365 ⟨ho1365, hF1365, hS1365, hu1365⟩
  subst ho1365
  replace h := osum_l h
  subst hu1365
  refine hK1363 _ _ _ (WP.at hF1365 hS1365 (WP.seq_k (fun K1398 hK1398 => WP.region Tt_ok (O_cons (O_read rfl (R_assign rfl (P_some rfl (O_nil (hK1398 _ _ _ (WP.seq_k (fun K1399 hK1399 => WP.seq_k (fun K1400 hK1400 => WP.region Tt_ok (O_cons ?_)))))))))))))
  refine O_read rfl (R_assign rfl (P_some rfl (O_nil (hK1400 _ _ _ ?_))))
  obtain ⟨o1401, h1401, h⟩ := obind h
  refine WP.cutK (fun fr_ μ_ L_ => ∃ (sum2 : Int), sum2 = o1401 ∧ SubFr [(5, .int .i64 sum2)] fr_ ∧ SegSub (L) L_ ∧ μ = μ_) ?_ ?_
  · refine WP.block (WP.iter h1401 (fun (j_ : Int × Int) fr_ μ_ L_ => ounP j_ fun sum1 i2 => SubFr [(1, .pointer (some ⟨g1, 0, none⟩)), (5, .int .i64 sum1), (6, .int .i64 i2)] fr_ ∧ SegSub ([(g1, .cells #[.int .i64 p1.ID, .int .i64 p1.At, .slice A1 p1.Lines.length c1] 24 (0, 0))] :: L) L_ ∧ μ = μ_) ⟨SubFr.of ⟨rfl, rfl, rfl, trivial⟩, SegSub.sel _ [some 0] 1, rfl⟩ ?_)
    rintro ⟨sum1, i2⟩ q1409 fr1409 μ1409 L1409 hm1409 ⟨hF1409, hS1409, hu1409⟩ hb1409 hq1409
    unfold recyclingref48_Check_l2 at hb1409
    replace hb1409 := oun_mk hb1409
    subst hu1409
    refine WP.at hF1409 hS1409 (WP.seq_k (fun K1413 hK1413 => WP.seq_k (fun K1414 hK1414 => WP.region Tt_ok (O_cons (O_read rfl (R_move rfl (P_some rfl (O_cons (O_read rfl (R_fa0 (o' := 2) rfl rfl rfl rfl rfl rfl (P_some rfl (O_cons (O_read rfl ?_)))))))))))))
    refine R_load rfl rfl rfl (Ex.mk _ (Cell.seg 0 0 rfl rfl rfl) (P_some rfl (O_cons (O_read rfl (R_lenS rfl rfl rfl (P_some rfl (O_cons (O_read rfl (R_lssD rfl rfl (P_some rfl (O_nil (hK1414 _ _ _ ?_))))))))))))
    refine W_cond_v (b := (decide (i2 < ((p1.Lines.length : Nat) : Int)))) rfl (fun hc14 => ?_) (fun hc14 => ?_)
    · replace hb1409 := cond_t hc14 hb1409
      refine WP.skip (hK1413 _ _ _ (WP.seq_k (fun K1415 hK1415 => WP.block (WP.region Tt_ok (O_cons (O_read rfl (R_move rfl (P_some rfl (O_cons (O_read rfl (R_fa0 (o' := 2) rfl rfl rfl rfl rfl rfl (P_some rfl (O_cons ?_)))))))))))))
      refine O_read rfl (R_load rfl rfl rfl (Ex.mk _ (Cell.seg 0 0 rfl rfl rfl) (P_some rfl (O_cons (O_read rfl (R_move rfl (P_some rfl (O_cons ?_))))))))
      obtain ⟨x2, hx2, hb1409⟩ := obind hb1409
      obtain ⟨a2, cs2, hA3, hr2, _, hc15⟩ := Rds.getI (ArrR.rds hA1 L) hx2
      obtain rfl := hr2
      refine O_read rfl (R_iaG rfl rfl rfl rfl rfl rfl ⟨(getI_lt hx2).1, (getI_lt hx2).2.1⟩ hA3 (P_some rfl (O_cons (O_read rfl (R_fa rfl rfl rfl rfl rfl (P_some rfl (O_cons (O_read rfl (R_load rfl rfl rfl (Ex.mk _ (Cell.of_cells (hc15.push) 1 rfl) (P_some rfl (O_cons (O_read rfl ?_)))))))))))))
      refine R_add rfl rfl (P_some rfl (O_cons (O_read rfl (R_assign rfl (P_some rfl (O_nil (hK1415 _ _ _ (WP.region Tt_ok (O_cons (O_read rfl (R_move rfl (P_some rfl (O_cons ?_)))))))))))))
      refine O_read rfl (R_add rfl rfl (P_some rfl (O_cons (O_read rfl (R_assign rfl (P_some rfl (O_nil ?_)))))))
      have e_ := Option.some.inj hb1409
      subst e_
      exact ⟨_, rfl, SubFr.of ⟨rfl, rfl, rfl, trivial⟩, SegSub.sel _ [some 0] 1, rfl⟩
    replace hb1409 := cond_f hc14 hb1409
    refine WP.exit (B_here ?_)
    have e_ := Option.some.inj hb1409
    subst e_
    have hq_ := hq1409 _ rfl
    subst hq_
    exact ⟨sum1, rfl, SubFr.of ⟨rfl, trivial⟩, SegSub.sel _ [] 1, rfl⟩
  rintro fr1401 μ1401 L1401 hm1401 ⟨sum2, ho1401, hF1401, hS1401, hu1401⟩
  subst ho1401
  subst hu1401
  refine hK1399 _ _ _ (WP.at hF1401 hS1401 (WP.seq_k (fun K1416 hK1416 => WP.seq_k (fun K1417 hK1417 => WP.region Tt_ok (O_cons (O_read rfl (R_move rfl (P_some rfl (O_cons (O_read rfl (R_neqD rfl rfl (P_some rfl (O_nil ?_)))))))))))))
  refine hK1417 _ _ _ ?_
  refine W_cond_v (b := !(decide (sum2 = 0))) rfl (fun hc16 => ?_) (fun hc16 => ?_)
  · replace h := cond_t hc16 h
    refine WP.seq_k (fun K1418 hK1418 => WP.region Tt_ok (O_cons (O_read rfl (R_assign rfl (P_some rfl (O_nil (hK1418 _ _ _ (WP.ret ?_))))))))
    have e_ := Option.some.inj h
    subst e_
    refine S_tmp rfl (S_nil (Upd.selS [] 0 ?_))
    exact Upd.done hR
  replace h := cond_f hc16 h
  refine WP.skip (hK1416 _ _ _ (WP.seq_k (fun K1419 hK1419 => WP.region Tt_ok (O_cons (O_read rfl (R_assign rfl (P_some rfl (O_nil (hK1419 _ _ _ (WP.ret ?_))))))))))
  have e_ := Option.some.inj h
  subst e_
  refine S_tmp rfl (S_nil (Upd.selS [] 0 ?_))
  exact Upd.done hR

theorem recyclinglaw48_LedgerChecks_fn {μ : Gh} {L : List Seg} {R : Value → Gh → List Seg → Prop}  {p1 : T_api_Posting} {A1 : Option Addr} {c1 : Nat} {res1 : Bool}
    (hl1 : p1.Lines.length ≤ c1 ∧ c1 ≤ maxLen) (hA1 : ArrR r_api_Line μ A1 p1.Lines) (h : recyclinglaw48_LedgerChecks p1 = some res1)
    (hR : ∀ (μ' : Gh) , μ.le μ' → R (.bool res1) μ' (L)) :
    Fn Try.prog 3 [.agg #[.int .i64 p1.ID, .int .i64 p1.At, .slice A1 p1.Lines.length c1]] μ (L) R := by
  unfold recyclinglaw48_LedgerChecks at h
  refine Fn.of_body Tt_ok Try.func3 (by kernel_rfl) rfl Try.ntmps3 (by simp) ?_
  simp only [Try.f3, argFr, List.zipIdx, List.map, Nat.reduceAdd]
  refine WP.seq_k (fun K1422 hK1422 => WP.region Tt_ok (O_cons (O_box (cs := #[.int .i64 p1.ID, .int .i64 p1.At, .slice A1 p1.Lines.length c1]) rfl rfl (fun g1 => P_some rfl (O_cons (O_read rfl (R_assign rfl (P_some rfl (O_nil (hK1422 _ _ _ (WP.seq_k (fun K1424 hK1424 => WP.seq_k (fun K1425 hK1425 => WP.region Tt_ok ?_)))))))))))))
  refine O_cons (O_read rfl (R_fa0 (o' := 2) rfl rfl rfl rfl rfl rfl (P_some rfl (O_cons (O_read rfl (R_load rfl rfl rfl (Ex.mk _ (Cell.seg 0 0 rfl rfl rfl) (P_some rfl (O_cons (O_read rfl (R_lenS rfl rfl rfl (P_some rfl (O_cons ?_)))))))))))))
  refine O_read rfl (R_gtrD rfl rfl (P_some rfl (O_nil (hK1425 _ _ _ ?_))))
  refine W_cond_v (b := (decide (40 < ((p1.Lines.length : Nat) : Int)))) rfl (fun hc1 => ?_) (fun hc1 => ?_)
  · replace h := cond_t hc1 h
    refine WP.seq_k (fun K1426 hK1426 => WP.region Tt_ok (O_cons (O_call (all := []) rfl rfl rfl ?_)))
    obtain ⟨r1, hx1, h⟩ := obind h
    refine recyclinglaw48_awake_fn  hx1 (fun v1 hm_1 => ?_)
    replace hA1 := hA1.mono hm_1
    refine P_some rfl (O_cons (O_read rfl (R_assign rfl (P_some rfl (O_nil (hK1426 _ _ _ (WP.ret ?_)))))))
    have e_ := Option.some.inj h
    subst e_
    refine S_tmp rfl (S_nil (Upd.selS [] 1 ?_))
    exact Upd.done (hR _ (hm_1))
  replace h := cond_f hc1 h
  refine WP.skip (hK1424 _ _ _ (WP.seq_k (fun K1427 hK1427 => ?_)))
  obtain ⟨o1428, h1428, h⟩ := obind h
  refine WP.cutK (fun fr_ μ_ L_ => ∃ (v3 : Bool), v3 = o1428 ∧ SubFr [(2, .bool v3)] fr_ ∧ SegSub (L) L_) ?_ ?_
  · refine WP.drawn (id := 3) (l' := List.replicate 9 true) wide Tt_ok _ Kept.refl [(true, 0), (true, 2), (false, 1), (false, 3), (true, 4), (true, 5), (false, 6), (true, 7), (true, 8)] (by kernel_rfl) (by kernel_rfl) rfl (PL_t rfl (R_loadA rfl rfl rfl rfl (LA_ (vs := [.int .i64 p1.ID, .int .i64 p1.At, .slice A1 p1.Lines.length c1]) 0 0 rfl rfl rfl rfl (P_some rfl (PL_t rfl (R_loadA rfl rfl rfl rfl (LA_ (vs := [.int .i64 p1.ID, .int .i64 p1.At, .slice A1 p1.Lines.length c1]) 0 0 rfl rfl rfl rfl (P_some rfl (PL_f rfl (O_call (all := [.agg #[.int .i64 p1.ID, .int .i64 p1.At, .slice A1 p1.Lines.length c1]]) rfl rfl rfl ?_))))))))))
    obtain ⟨r2, hx2, h1428⟩ := obind h1428
    refine ledger_Check_fn hl1 hA1 hx2 (?_)
    refine ⟨Kept.refl, ?_⟩
    refine P_some rfl (PL_f rfl (O_call (all := [.agg #[.int .i64 p1.ID, .int .i64 p1.At, .slice A1 p1.Lines.length c1]]) rfl rfl rfl ?_))
    obtain ⟨r3, hx3, h1428⟩ := obind h1428
    refine recyclingref48_Check_fn hl1 hA1 hx3 (?_)
    refine ⟨Kept.refl, ?_⟩
    refine P_some rfl (PL_t rfl (R_eqlD rfl rfl (P_some rfl (PL_t rfl (R_move rfl (P_some rfl ?_))))))
    refine PL_fv (z := (decide (r2 = r3))) rfl rfl rfl (fun hc2 => ?_) (fun hc2 => ?_)
    · replace h1428 := cond_t hc2 h1428
      apply O_call (all := []); exact rfl; exact rfl; exact rfl
      obtain ⟨r4, hx4, h1428⟩ := obind h1428
      refine recyclinglaw48_awake_fn  hx4 (fun v2 hm_2 => ?_)
      replace hA1 := hA1.mono hm_2
      refine ⟨Kept.refl, ?_⟩
      refine P_some rfl (PL_t rfl (R_pick_T rfl hc2 rfl (P_some rfl (PL_t rfl (R_assign rfl (P_some rfl (PL_nil (AN.done0 (by kernel_rfl) ?_))))))))
      have e_ := Option.some.inj h1428
      subst e_
      exact ⟨r4, rfl, SubFr.of ⟨rfl, trivial⟩, SegSub.sel _ [] 1⟩
    replace h1428 := cond_f hc2 h1428
    refine P_some rfl (PL_t rfl (R_pick_F rfl hc2 rfl (P_some rfl (PL_t rfl (R_assign rfl (P_some rfl (PL_nil (AN.done0 (by kernel_rfl) ?_))))))))
    have e_ := Option.some.inj h1428
    subst e_
    exact ⟨false, rfl, SubFr.of ⟨rfl, trivial⟩, SegSub.sel _ [] 1⟩
  rintro fr1428 μ1428 L1428 hm1428 ⟨v3, ho1428, hF1428, hS1428⟩
  subst ho1428
  replace hA1 := hA1.mono hm1428
  refine hK1427 _ _ _ (WP.at hF1428 hS1428 (WP.ret ?_))
  have e_ := Option.some.inj h
  subst e_
  refine S_tmp rfl (S_nil (Upd.selS [] 0 ?_))
  exact Upd.done (hR _ (hm1428))

theorem recyclinglaw48_great_fn {μ : Gh} {L : List Seg} {R : Value → Gh → List Seg → Prop}  {l1 : (List T_api_Posting)} {A1 : Option Addr} {c1 : Nat} {res1 : Bool}
    (hl1 : l1.length ≤ c1 ∧ c1 ≤ maxLen) (hA1 : Rds r_api_Posting μ L A1 l1) (h : recyclinglaw48_great l1 = some res1)
    (hR : R (.bool res1) μ (L)) :
    Fn Try.prog 14 [.slice A1 l1.length c1] μ (L) R := by
  unfold recyclinglaw48_great at h
  refine Fn.of_body Tt_ok Try.func14 (by kernel_rfl) rfl Try.ntmps14 (by simp) ?_
  simp only [Try.f14, argFr, List.zipIdx, List.map, Nat.reduceAdd]
  refine WP.seq_k (fun K1434 hK1434 => WP.region Tt_ok (O_cons (O_read rfl (R_assign rfl (P_some rfl (O_nil (hK1434 _ _ _ (WP.seq_k (fun K1435 hK1435 => WP.seq_k (fun K1436 hK1436 => WP.region Tt_ok (O_cons (O_read rfl (R_move rfl ?_)))))))))))))
  refine P_some rfl (O_cons (O_read rfl (R_lenS rfl rfl rfl (P_some rfl (O_cons (O_read rfl (R_gtrD rfl rfl (P_some rfl (O_nil (hK1436 _ _ _ ?_))))))))))
  refine W_cond_v (b := (decide (60 < ((l1.length : Nat) : Int)))) rfl (fun hc1 => ?_) (fun hc1 => ?_)
  · replace h := cond_t hc1 h
    refine WP.seq_k (fun K1437 hK1437 => WP.region Tt_ok (O_cons (O_read rfl (R_assign rfl (P_some rfl (O_nil (hK1437 _ _ _ (WP.ret ?_))))))))
    have e_ := Option.some.inj h
    subst e_
    refine S_tmp rfl (S_nil (Upd.selS [] 0 ?_))
    exact Upd.done hR
  replace h := cond_f hc1 h
  refine WP.skip (hK1435 _ _ _ (WP.seq_k (fun K1438 hK1438 => WP.seq_k (fun K1439 hK1439 => WP.region Tt_ok (O_cons (O_read rfl (R_assign rfl (P_some rfl (O_nil (hK1439 _ _ _ ?_))))))))))
  obtain ⟨o1440, h1440, h⟩ := obind h
  refine WP.cutK (fun fr_ μ_ L_ => (.inl ()) = o1440 ∧ SubFr [] fr_ ∧ SegSub (L) L_ ∧ μ = μ_) ?_ ?_
  · refine WP.block (WP.iter h1440 (fun (i1 : Int) fr_ μ_ L_ => SubFr [(0, .slice A1 l1.length c1), (3, .int .i64 i1)] fr_ ∧ SegSub (L) L_ ∧ μ = μ_) ⟨SubFr.of ⟨rfl, rfl, trivial⟩, SegSub.sel _ [] 0, rfl⟩ ?_)
    rintro i1 q1448 fr1448 μ1448 L1448 hm1448 ⟨hF1448, hS1448, hu1448⟩ hb1448 hq1448
    unfold recyclinglaw48_great_l1 at hb1448
    subst hu1448
    refine WP.at hF1448 hS1448 (WP.seq_k (fun K1449 hK1449 => WP.seq_k (fun K1450 hK1450 => WP.region Tt_ok (O_cons (O_read rfl (R_move rfl (P_some rfl (O_cons (O_read rfl (R_move rfl (P_some rfl (O_cons (O_read rfl ?_)))))))))))))
    refine R_lenS rfl rfl rfl (P_some rfl (O_cons (O_read rfl (R_lssD rfl rfl (P_some rfl (O_nil (hK1450 _ _ _ ?_)))))))
    refine W_cond_v (b := (decide (i1 < ((l1.length : Nat) : Int)))) rfl (fun hc2 => ?_) (fun hc2 => ?_)
    · replace hb1448 := cond_t hc2 hb1448
      refine WP.skip (hK1449 _ _ _ (WP.seq_k (fun K1451 hK1451 => WP.block (WP.seq_k (fun K1452 hK1452 => WP.region Tt_ok (O_cons (O_read rfl (R_move rfl (P_some rfl (O_cons (O_read rfl (R_move rfl (P_some rfl ?_)))))))))))))
      apply O_cons
      obtain ⟨x1, hx1, hb1448⟩ := obind hb1448
      obtain ⟨a1, cs1, hA2, hr1, _, hc3⟩ := Rds.getI hA1 hx1
      obtain ⟨A2, c2, rfl, hl2, hA3⟩ := hr1
      refine O_read rfl (R_iaG rfl rfl rfl rfl rfl rfl ⟨(getI_lt hx1).1, (getI_lt hx1).2.1⟩ hA2 (P_some rfl (O_cons (O_read rfl (R_fa rfl rfl rfl rfl rfl (P_some rfl (O_cons (O_read rfl (R_load rfl rfl rfl (Ex.mk _ (Cell.of_cells hc3 2 rfl) (P_some rfl (O_cons (O_read rfl ?_)))))))))))))
      refine R_lenS rfl rfl rfl (P_some rfl (O_cons (O_read rfl (R_gtrD rfl rfl (P_some rfl (O_nil (hK1452 _ _ _ ?_)))))))
      refine W_cond_v (b := (decide (40 < ((x1.Lines.length : Nat) : Int)))) rfl (fun hc4 => ?_) (fun hc4 => ?_)
      · replace hb1448 := cond_t hc4 hb1448
        refine WP.seq_k (fun K1454 hK1454 => WP.region Tt_ok (O_cons (O_read rfl (R_assign rfl (P_some rfl (O_nil (hK1454 _ _ _ (WP.ret ?_))))))))
        have e_ := Option.some.inj hb1448
        subst e_
        have hq_ := hq1448 _ rfl
        subst hq_
        replace h := osum_r h
        have e_ := Option.some.inj h
        subst e_
        refine S_tmp rfl (S_nil (Upd.selS [] 0 ?_))
        exact Upd.done hR
      replace hb1448 := cond_f hc4 hb1448
      refine WP.skip (hK1451 _ _ _ (WP.region Tt_ok (O_cons (O_read rfl (R_move rfl (P_some rfl (O_cons (O_read rfl (R_add rfl rfl (P_some rfl (O_cons (O_read rfl (R_assign rfl ?_)))))))))))))
      refine P_some rfl (O_nil ?_)
      have e_ := Option.some.inj hb1448
      subst e_
      exact ⟨_, rfl, SubFr.of ⟨rfl, rfl, trivial⟩, SegSub.sel _ [] 0, rfl⟩
    replace hb1448 := cond_f hc2 hb1448
    refine WP.exit (B_here ?_)
    have e_ := Option.some.inj hb1448
    subst e_
    have hq_ := hq1448 _ rfl
    subst hq_
    exact ⟨rfl, SubFr.of trivial, SegSub.sel _ [] 0, rfl⟩
  rintro fr1440 μ1440 L1440 hm1440 ⟨ho1440, hF1440, hS1440, hu1440⟩
  subst ho1440
  replace h := osum_l h
  subst hu1440
  refine hK1438 _ _ _ (WP.at hF1440 hS1440 (WP.seq_k (fun K1455 hK1455 => WP.region Tt_ok (O_cons (O_read rfl (R_assign rfl (P_some rfl (O_nil (hK1455 _ _ _ (WP.ret ?_))))))))))
  have e_ := Option.some.inj h
  subst e_
  refine S_tmp rfl (S_nil (Upd.selS [] 0 ?_))
  exact Upd.done hR

end Go.Proofs.Ytpghcnpheabbgaa
