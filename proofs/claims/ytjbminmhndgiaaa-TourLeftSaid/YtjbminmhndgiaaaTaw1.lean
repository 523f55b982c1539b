/- Printed by gen.py of this repo: the walks that tie the functions to their specifications. -/
import Derived.Laws.StructEq
import Derived.Test.YtjbminmhndgiaaaTt
import Derived.Test.YtjbminmhndgiaaaTas
import Derived.Test.YtjbminmhndgiaaaGe
import Derived.Test.YtjbminmhndgiaaaGt
import Derived.Test.YtjbminmhndgiaaaGx
namespace Go.Proofs.Ytjbminmhndgiaaa
open Go.RowKit
set_option linter.unusedSimpArgs false
set_option linter.unusedVariables false
attribute [local irreducible] WP SemOk SemU Fn AN Upd vcR vcO vcOps vcPlan putK fillK resK inBlk forkOne Cell StAt Kept

theorem eqRun_T_api_Visit (a b : T_api_Visit) : PureRun Try.prog (do eqGuard .eql 48 (.tmp 0) (.tmp 0) (.agg #[.int .i64 a.Stop, .int .i64 a.Node, .int .i64 a.Arrive, .int .i64 a.Start, .int .i64 a.Leave, .int .i64 a.Load]) (.agg #[.int .i64 b.Stop, .int .i64 b.Node, .int .i64 b.Arrive, .int .i64 b.Start, .int .i64 b.Leave, .int .i64 b.Load]); binOp .eql 48 (.agg #[.int .i64 a.Stop, .int .i64 a.Node, .int .i64 a.Arrive, .int .i64 a.Start, .int .i64 a.Leave, .int .i64 a.Load]) (.agg #[.int .i64 b.Stop, .int .i64 b.Node, .int .i64 b.Arrive, .int .i64 b.Start, .int .i64 b.Leave, .int .i64 b.Load])) (.bool (decide (a = b))) := by
  obtain ⟨x0, x1, x2, x3, x4, x5⟩ := a
  obtain ⟨y0, y1, y2, y3, y4, y5⟩ := b
  intro w
  rw [Sem.run_bind, run_eqGuard_agg w _ _ _ _ _ _ (by kernel_rfl), Result.andThen_ok]
  simp only [binOp, Op.equal, Op.maxDepth, Sem.run_bind]
  rw [run_equalIn_struct w 9999 _ _ _ (by kernel_rfl) (by kernel_rfl)]
  by_cases h0 : x0 = y0
  case neg => simp [Program.fieldsOf, Try.underlying48, go_sem, h0]
  by_cases h1 : x1 = y1
  case neg => simp [Program.fieldsOf, Try.underlying48, go_sem, h0, h1]
  by_cases h2 : x2 = y2
  case neg => simp [Program.fieldsOf, Try.underlying48, go_sem, h0, h1, h2]
  by_cases h3 : x3 = y3
  case neg => simp [Program.fieldsOf, Try.underlying48, go_sem, h0, h1, h2, h3]
  by_cases h4 : x4 = y4
  case neg => simp [Program.fieldsOf, Try.underlying48, go_sem, h0, h1, h2, h3, h4]
  by_cases h5 : x5 = y5
  case neg => simp [Program.fieldsOf, Try.underlying48, go_sem, h0, h1, h2, h3, h4, h5]
  simp [Program.fieldsOf, Try.underlying48, go_sem, h0, h1, h2, h3, h4, h5]

theorem neRun_T_api_Visit (a b : T_api_Visit) : PureRun Try.prog (do eqGuard .neq 48 (.tmp 0) (.tmp 0) (.agg #[.int .i64 a.Stop, .int .i64 a.Node, .int .i64 a.Arrive, .int .i64 a.Start, .int .i64 a.Leave, .int .i64 a.Load]) (.agg #[.int .i64 b.Stop, .int .i64 b.Node, .int .i64 b.Arrive, .int .i64 b.Start, .int .i64 b.Leave, .int .i64 b.Load]); binOp .neq 48 (.agg #[.int .i64 a.Stop, .int .i64 a.Node, .int .i64 a.Arrive, .int .i64 a.Start, .int .i64 a.Leave, .int .i64 a.Load]) (.agg #[.int .i64 b.Stop, .int .i64 b.Node, .int .i64 b.Arrive, .int .i64 b.Start, .int .i64 b.Leave, .int .i64 b.Load])) (.bool (!(decide (a = b)))) := by
  obtain ⟨x0, x1, x2, x3, x4, x5⟩ := a
  obtain ⟨y0, y1, y2, y3, y4, y5⟩ := b
  intro w
  rw [Sem.run_bind, run_eqGuard_agg w _ _ _ _ _ _ (by kernel_rfl), Result.andThen_ok]
  simp only [binOp, Op.equal, Op.maxDepth, Sem.run_bind]
  rw [run_equalIn_struct w 9999 _ _ _ (by kernel_rfl) (by kernel_rfl)]
  by_cases h0 : x0 = y0
  case neg => simp [Program.fieldsOf, Try.underlying48, go_sem, h0]
  by_cases h1 : x1 = y1
  case neg => simp [Program.fieldsOf, Try.underlying48, go_sem, h0, h1]
  by_cases h2 : x2 = y2
  case neg => simp [Program.fieldsOf, Try.underlying48, go_sem, h0, h1, h2]
  by_cases h3 : x3 = y3
  case neg => simp [Program.fieldsOf, Try.underlying48, go_sem, h0, h1, h2, h3]
  by_cases h4 : x4 = y4
  case neg => simp [Program.fieldsOf, Try.underlying48, go_sem, h0, h1, h2, h3, h4]
  by_cases h5 : x5 = y5
  case neg => simp [Program.fieldsOf, Try.underlying48, go_sem, h0, h1, h2, h3, h4, h5]
  simp [Program.fieldsOf, Try.underlying48, go_sem, h0, h1, h2, h3, h4, h5]

theorem eqRun_T_api_Leg (a b : T_api_Leg) : PureRun Try.prog (do eqGuard .eql 51 (.tmp 0) (.tmp 0) (.agg #[.int .i64 a.Secs, .int .i64 a.Meters]) (.agg #[.int .i64 b.Secs, .int .i64 b.Meters]); binOp .eql 51 (.agg #[.int .i64 a.Secs, .int .i64 a.Meters]) (.agg #[.int .i64 b.Secs, .int .i64 b.Meters])) (.bool (decide (a = b))) := by
  obtain ⟨x0, x1⟩ := a
  obtain ⟨y0, y1⟩ := b
  intro w
  rw [Sem.run_bind, run_eqGuard_agg w _ _ _ _ _ _ (by kernel_rfl), Result.andThen_ok]
  simp only [binOp, Op.equal, Op.maxDepth, Sem.run_bind]
  rw [run_equalIn_struct w 9999 _ _ _ (by kernel_rfl) (by kernel_rfl)]
  by_cases h0 : x0 = y0
  case neg => simp [Program.fieldsOf, Try.underlying51, go_sem, h0]
  by_cases h1 : x1 = y1
  case neg => simp [Program.fieldsOf, Try.underlying51, go_sem, h0, h1]
  simp [Program.fieldsOf, Try.underlying51, go_sem, h0, h1]

theorem neRun_T_api_Leg (a b : T_api_Leg) : PureRun Try.prog (do eqGuard .neq 51 (.tmp 0) (.tmp 0) (.agg #[.int .i64 a.Secs, .int .i64 a.Meters]) (.agg #[.int .i64 b.Secs, .int .i64 b.Meters]); binOp .neq 51 (.agg #[.int .i64 a.Secs, .int .i64 a.Meters]) (.agg #[.int .i64 b.Secs, .int .i64 b.Meters])) (.bool (!(decide (a = b)))) := by
  obtain ⟨x0, x1⟩ := a
  obtain ⟨y0, y1⟩ := b
  intro w
  rw [Sem.run_bind, run_eqGuard_agg w _ _ _ _ _ _ (by kernel_rfl), Result.andThen_ok]
  simp only [binOp, Op.equal, Op.maxDepth, Sem.run_bind]
  rw [run_equalIn_struct w 9999 _ _ _ (by kernel_rfl) (by kernel_rfl)]
  by_cases h0 : x0 = y0
  case neg => simp [Program.fieldsOf, Try.underlying51, go_sem, h0]
  by_cases h1 : x1 = y1
  case neg => simp [Program.fieldsOf, Try.underlying51, go_sem, h0, h1]
  simp [Program.fieldsOf, Try.underlying51, go_sem, h0, h1]
theorem recyclingref22_Large_fn {μ : Gh} {L : List Seg} {R : Value → Gh → List Seg → Prop}  {p1 : T_api_Problem} {A1 : Option Addr} {c1 : Nat} {A2 : Option Addr} {c2 : Nat} {A3 : Option Addr} {c3 : Nat} {res1 : Bool}
    (hl1 : p1.Road.Edges.length ≤ c1 ∧ c1 ≤ maxLen) (hA1 : ArrR r_api_Edge μ A1 p1.Road.Edges) (hl2 : p1.Vehicles.length ≤ c2 ∧ c2 ≤ maxLen) (hA2 : ArrR r_api_Vehicle μ A2 p1.Vehicles) (hl3 : p1.Demands.length ≤ c3 ∧ c3 ≤ maxLen) (hA3 : ArrR r_api_Demand μ A3 p1.Demands) (h : recyclingref22_Large p1 = some res1)
    (hR : R (.bool res1) μ (L)) :
    Fn Try.prog 11 [.agg #[.int .i64 p1.Road.Nodes, .slice A1 p1.Road.Edges.length c1, .slice A2 p1.Vehicles.length c2, .slice A3 p1.Demands.length c3, .int .i64 p1.Unload, .int .i64 p1.UnloadSecs]] μ (L) R := by
  unfold recyclingref22_Large at h
  refine Fn.of_body Tt_ok Try.func11 (by kernel_rfl) rfl Try.ntmps11 (by simp) ?_
  simp only [Try.f11, argFr, List.zipIdx, List.map, Nat.reduceAdd]
  refine WP.seq_k (fun K11 hK11 => WP.region Tt_ok (O_cons (O_box (cs := #[.int .i64 p1.Road.Nodes, .slice A1 p1.Road.Edges.length c1, .slice A2 p1.Vehicles.length c2, .slice A3 p1.Demands.length c3, .int .i64 p1.Unload, .int .i64 p1.UnloadSecs]) rfl rfl (fun g1 => Pc rfl rfl (R_assign rfl (Pn rfl (hK11 _ _ _ (WP.seq_k (fun K13 hK13 => WP.seq_k (fun K14 hK14 => ?_))))))))))
  obtain ⟨o15, h15, h⟩ := obind h
  refine WP.cutK (fun fr_ μ_ L_ => ∃ (v1 : Bool), v1 = o15 ∧ SubFr [(1, .pointer (some ⟨g1, 0, none⟩)), (21, .bool v1)] fr_ ∧ SegSub ([(g1, .cells #[.int .i64 p1.Road.Nodes, .slice A1 p1.Road.Edges.length c1, .slice A2 p1.Vehicles.length c2, .slice A3 p1.Demands.length c3, .int .i64 p1.Unload, .int .i64 p1.UnloadSecs] 28 (0, 0))] :: L) L_ ∧ μ = μ_) ?_ ?_
  · refine Wr Tt_ok rfl (R_fa0 (o' := 0) rfl rfl rfl rfl rfl rfl (Pc rfl rfl (R_fa0 (o' := 1) rfl rfl rfl rfl rfl rfl (Pc rfl rfl (R_load rfl rfl rfl (Ex.mk _ (Cell.seg 0 0 rfl rfl rfl) (Pc rfl rfl (R_lenS rfl rfl rfl (P_some rfl ?_)))))))))
    refine O_cons (O_read rfl (R_gtrD rfl rfl (Pc rfl rfl (R_move rfl (P_some rfl ?_)))))
    refine O_gv (z := (decide (600 < ((p1.Road.Edges.length : Nat) : Int)))) rfl rfl (fun hc1 => ?_) (fun hc1 => ?_)
    · replace h15 := cond_f hc1 h15
      refine O_read rfl (R_fa0 (o' := 2) rfl rfl rfl rfl rfl rfl (P_some rfl (O_gY rfl rfl hc1 (O_read rfl (R_load rfl rfl rfl (Ex.mk _ (Cell.seg 0 0 rfl rfl rfl) (P_some rfl (O_gY rfl rfl hc1 (O_read rfl (R_lenS rfl rfl rfl (P_some rfl (O_gY rfl rfl hc1 (O_read rfl (R_gtrD rfl rfl (Pc rfl rfl ?_)))))))))))))))
      refine R_pick_F rfl hc1 rfl (Pc rfl rfl (R_move rfl (P_some rfl ?_)))
      refine O_gv (z := (decide (30 < ((p1.Vehicles.length : Nat) : Int)))) rfl rfl (fun hc2 => ?_) (fun hc2 => ?_)
      · replace h15 := cond_f hc2 h15
        refine O_read rfl (R_fa0 (o' := 3) rfl rfl rfl rfl rfl rfl (P_some rfl (O_gY rfl rfl hc2 (O_read rfl (R_load rfl rfl rfl (Ex.mk _ (Cell.seg 0 0 rfl rfl rfl) (P_some rfl (O_gY rfl rfl hc2 (O_read rfl (R_lenS rfl rfl rfl (P_some rfl (O_gY rfl rfl hc2 (O_read rfl (R_gtrD rfl rfl (Pc rfl rfl ?_)))))))))))))))
        refine R_pick_F rfl hc2 rfl (Pn rfl ?_)
        have e_ := Option.some.inj h15
        subst e_
        exact ⟨(decide (60 < ((p1.Demands.length : Nat) : Int))), rfl, SubFr.of ⟨rfl, rfl, trivial⟩, SegSub.sel _ [some 0] 1, rfl⟩
      replace h15 := cond_t hc2 h15
      refine P_some rfl (O_gN rfl rfl hc2 (P_some rfl (O_gN rfl rfl hc2 (P_some rfl (O_gN rfl rfl hc2 (Pc rfl rfl (R_pick_T rfl hc2 rfl (Pn rfl ?_))))))))
      have e_ := Option.some.inj h15
      subst e_
      exact ⟨true, rfl, SubFr.of ⟨rfl, rfl, trivial⟩, SegSub.sel _ [some 0] 1, rfl⟩
    replace h15 := cond_t hc1 h15
    refine P_some rfl (O_gN rfl rfl hc1 (P_some rfl (O_gN rfl rfl hc1 (P_some rfl (O_gN rfl rfl hc1 (Pc rfl rfl (R_pick_T rfl hc1 rfl (Pc rfl rfl (R_move rfl (P_some rfl (O_gN rfl rfl rfl (P_some rfl (O_gN rfl rfl rfl ?_)))))))))))))
    refine P_some rfl (O_gN rfl rfl rfl (P_some rfl (O_gN rfl rfl rfl (Pc rfl rfl (R_pick_T rfl rfl rfl (Pn rfl ?_))))))
    have e_ := Option.some.inj h15
    subst e_
    exact ⟨true, rfl, SubFr.of ⟨rfl, rfl, trivial⟩, SegSub.sel _ [some 0] 1, rfl⟩
  rintro fr15 μ15 L15 hm15 ⟨v1, ho15, hF15, hS15, hu15⟩
  subst ho15
  subst hu15
  refine hK14 _ _ _ (WP.at hF15 hS15 ?_)
  refine W_cond_v (b := v1) rfl (fun hc3 => ?_) (fun hc3 => ?_)
  · replace h := cond_t hc3 h
    refine WP.seq_k (fun K18 hK18 => Wr Tt_ok rfl (R_assign rfl (Pn rfl (hK18 _ _ _ (WP.ret ?_)))))
    have e_ := Option.some.inj h
    subst e_
    refine S_tmp rfl (S_nil (Upd.selS [] 1 ?_))
    exact Upd.done hR
  replace h := cond_f hc3 h
  refine WP.skip (hK13 _ _ _ (WP.seq_k (fun K19 hK19 => WP.seq_k (fun K20 hK20 => Wr Tt_ok rfl (R_fa0 (o' := 2) rfl rfl rfl rfl rfl rfl (Pc rfl rfl (R_load rfl rfl rfl (Ex.mk _ (Cell.seg 0 0 rfl rfl rfl) (Pc rfl rfl (R_lenS rfl rfl rfl (P_some rfl ?_)))))))))))
  refine O_cons (O_read rfl (R_move rfl (Pn rfl (hK20 _ _ _ ?_))))
  obtain ⟨o21, h21, h⟩ := obind h
  refine WP.cutK (fun fr_ μ_ L_ => (.inl ()) = o21 ∧ SubFr [] fr_ ∧ SegSub (L) L_ ∧ μ = μ_) ?_ ?_
  · refine WP.block (WP.iter h21 (fun (v2 : Int) fr_ μ_ L_ => SubFr [(23, .slice A2 p1.Vehicles.length c2), (24, .int .i64 ((p1.Vehicles.length : Nat) : Int)), (25, .int .i64 v2)] fr_ ∧ SegSub (L) L_ ∧ μ = μ_) ⟨SubFr.of ⟨rfl, rfl, rfl, trivial⟩, SegSub.sel _ [] 1, rfl⟩ ?_)
    rintro v2 q32 fr32 μ32 L32 hm32 ⟨hF32, hS32, hu32⟩ hb32 hq32
    unfold recyclingref22_Large_l1 at hb32
    subst hu32
    refine WP.at hF32 hS32 (WP.seq_k (fun K34 hK34 => Wr Tt_ok rfl (R_lssD rfl rfl (Pn rfl (hK34 _ _ _ (WP.seq_k (fun K35 hK35 => ?_)))))))
    refine W_cond_v (b := (decide (v2 < ((p1.Vehicles.length : Nat) : Int)))) rfl (fun hc4 => ?_) (fun hc4 => ?_)
    · replace hb32 := cond_t hc4 hb32
      refine WP.skip (hK35 _ _ _ (WP.seq_k (fun K36 hK36 => WP.block (WP.seq_k (fun K37 hK37 => WP.region Tt_ok (O_cons ?_))))))
      obtain ⟨x1, hx1, hb32⟩ := obind hb32
      obtain ⟨a1, cs1, hA4, hr1, _, hc5⟩ := Rds.getI (ArrR.rds hA2 L) hx1
      obtain rfl := hr1
      refine O_read rfl (R_iaG rfl rfl rfl rfl rfl rfl ⟨(getI_lt hx1).1, (getI_lt hx1).2.1⟩ hA4 (Pc rfl rfl (R_loadA rfl rfl rfl rfl (Ex.mk [.string x1.ID, .int .i64 x1.Depot, .int .i64 x1.Shift.From, .int .i64 x1.Shift.To, .int .i64 x1.Grams, .int .i64 x1.Kinds] ⟨rfl, hc5⟩ (P_some rfl (O_cons (O_alloc (cs := #[.string ⟨#[]⟩, .int .i64 0, .int .i64 0, .int .i64 0, .int .i64 0, .int .i64 0]) rfl rfl (fun g2 => P_some rfl (O_cons (O_store (vs := [.string x1.ID, .int .i64 x1.Depot, .int .i64 x1.Shift.From, .int .i64 x1.Shift.To, .int .i64 x1.Grams, .int .i64 x1.Kinds]) rfl rfl rfl rfl rfl rfl (ST_ (L' := ([(g2, .cells #[.string x1.ID, .int .i64 x1.Depot, .int .i64 x1.Shift.From, .int .i64 x1.Shift.To, .int .i64 x1.Grams, .int .i64 x1.Kinds] 46 (0, 0))] :: L)) 0 0 rfl rfl rfl rfl (P_none (O_nil (hK37 _ _ _ ?_))))))))))))))
      refine WP.seq_k (fun K40 hK40 => Wr Tt_ok rfl (R_fa0 (o' := 0) rfl rfl rfl rfl rfl rfl (Pc rfl rfl (R_load rfl rfl rfl (Ex.mk _ (Cell.seg 0 0 rfl rfl rfl) (Pc rfl rfl (R_lenG rfl rfl rfl (Pc rfl rfl (R_gtrD rfl rfl ?_)))))))))
      refine Pn rfl (hK40 _ _ _ ?_)
      refine W_cond_v (b := (decide (200 < ((x1.ID.size : Nat) : Int)))) rfl (fun hc6 => ?_) (fun hc6 => ?_)
      · replace hb32 := cond_t hc6 hb32
        refine WP.seq_k (fun K41 hK41 => Wr Tt_ok rfl (R_assign rfl (Pn rfl (hK41 _ _ _ (WP.ret ?_)))))
        have e_ := Option.some.inj hb32
        subst e_
        have hq_ := hq32 _ rfl
        subst hq_
        replace h := osum_r h
        have e_ := Option.some.inj h
        subst e_
        refine S_tmp rfl (S_nil (Upd.selS [] 1 ?_))
        exact Upd.done hR
      replace hb32 := cond_f hc6 hb32
      refine WP.skip (hK36 _ _ _ (Wr Tt_ok rfl (R_add rfl rfl (Pc rfl rfl (R_move rfl (Pn rfl ?_))))))
      have e_ := Option.some.inj hb32
      subst e_
      exact ⟨_, rfl, SubFr.of ⟨rfl, rfl, rfl, trivial⟩, SegSub.sel _ [] 1, rfl⟩
    replace hb32 := cond_f hc4 hb32
    refine WP.exit (B_here ?_)
    have e_ := Option.some.inj hb32
    subst e_
    have hq_ := hq32 _ rfl
    subst hq_
    exact ⟨rfl, SubFr.of trivial, SegSub.sel _ [] 0, rfl⟩
  rintro fr21 μ21 L21 hm21 ⟨ho21, hF21, hS21, hu21⟩
  subst ho21
  replace h := osum_l h
  subst hu21
  refine hK19 _ _ _ (WP.at hF21 hS21 (WP.seq_k (fun K42 hK42 => Wr Tt_ok rfl (R_assign rfl (Pn rfl (hK42 _ _ _ (WP.ret ?_)))))))
  have e_ := Option.some.inj h
  subst e_
  refine S_tmp rfl (S_nil (Upd.selS [] 0 ?_))
  exact Upd.done hR

theorem recyclinglaw22_example_fn {μ : Gh} {L : List Seg} {R : Value → Gh → List Seg → Prop}    {res1 : T_api_Problem}
     (h : recyclinglaw22_example = some res1)
    (hR : ∀ (μ' : Gh) (A0_1 : Option Addr) (c0_1 : Nat) (A0_2 : Option Addr) (c0_2 : Nat) (A0_3 : Option Addr) (c0_3 : Nat), μ.le μ' → (res1.Road.Edges.length ≤ c0_1 ∧ c0_1 ≤ maxLen) → ArrR r_api_Edge μ' A0_1 res1.Road.Edges → (res1.Vehicles.length ≤ c0_2 ∧ c0_2 ≤ maxLen) → ArrR r_api_Vehicle μ' A0_2 res1.Vehicles → (res1.Demands.length ≤ c0_3 ∧ c0_3 ≤ maxLen) → ArrR r_api_Demand μ' A0_3 res1.Demands → R (.agg #[.int .i64 res1.Road.Nodes, .slice A0_1 res1.Road.Edges.length c0_1, .slice A0_2 res1.Vehicles.length c0_2, .slice A0_3 res1.Demands.length c0_3, .int .i64 res1.Unload, .int .i64 res1.UnloadSecs]) μ' (L)) :
    Fn Try.prog 27 [] μ (L) R := by
  unfold recyclinglaw22_example at h
  refine Fn.of_body Tt_ok Try.func27 (by kernel_rfl) rfl Try.ntmps27 (by simp) ?_
  simp only [Try.f27, argFr, List.zipIdx, List.map, Nat.reduceAdd]
  refine WP.seq_k (fun K69 hK69 => WP.region Tt_ok (O_cons (O_alloc (cs := #[.int .i64 0, .slice none 0 0, .slice none 0 0, .slice none 0 0, .int .i64 0, .int .i64 0]) rfl rfl (fun g1 => Pn rfl (hK69 _ _ _ (WP.seq_k (fun K74 hK74 => Wr Tt_ok rfl (R_build rfl rfl rfl rfl (F_cons (cells' := [.int .i64 0, .int .i64 0, .int .i64 0, .int .i64 0]) rfl rfl rfl rfl (F_cons (cells' := [.int .i64 0, .int .i64 1, .int .i64 0, .int .i64 0]) rfl rfl rfl rfl (F_cons (cells' := [.int .i64 0, .int .i64 1, .int .i64 500, .int .i64 0]) rfl rfl rfl rfl (F_cons (cells' := [.int .i64 0, .int .i64 1, .int .i64 500, .int .i64 60]) rfl rfl rfl rfl (F_nil (P_some rfl ?_))))))))))))))
  refine O_cons (O_read rfl (R_build rfl rfl rfl rfl (F_cons (cells' := [.int .i64 1, .int .i64 0, .int .i64 0, .int .i64 0]) rfl rfl rfl rfl (F_cons (cells' := [.int .i64 1, .int .i64 0, .int .i64 0, .int .i64 0]) rfl rfl rfl rfl (F_cons (cells' := [.int .i64 1, .int .i64 0, .int .i64 500, .int .i64 0]) rfl rfl rfl rfl (F_cons (cells' := [.int .i64 1, .int .i64 0, .int .i64 500, .int .i64 60]) rfl rfl rfl rfl (F_nil (P_some rfl (O_cons (O_bsl (z := [.int .i64 0, .int .i64 0, .int .i64 0, .int .i64 0, .int .i64 0, .int .i64 0, .int .i64 0, .int .i64 0]) rfl rfl rfl rfl rfl rfl rfl (F_cons (cells' := [.int .i64 0, .int .i64 1, .int .i64 500, .int .i64 60, .int .i64 0, .int .i64 0, .int .i64 0, .int .i64 0]) rfl rfl rfl rfl (F_cons (cells' := [.int .i64 0, .int .i64 1, .int .i64 500, .int .i64 60, .int .i64 1, .int .i64 0, .int .i64 500, .int .i64 60]) rfl rfl rfl rfl ?_))))))))))))
  refine F_nil (fun g2 => Pc rfl rfl (R_build rfl rfl rfl rfl (F_cons (cells' := [.int .i64 2, .slice none 0 0]) rfl rfl rfl rfl (F_cons (cells' := [.int .i64 2, .slice (some ⟨g2, 0, none⟩) 2 2]) rfl rfl rfl rfl (F_nil (Pc rfl rfl (R_build rfl rfl rfl rfl (F_cons (cells' := [.int .i64 1000, .int .i64 0]) rfl rfl rfl rfl (F_cons (cells' := [.int .i64 1000, .int .i64 2000]) rfl rfl rfl rfl (F_nil (Pc rfl rfl ?_)))))))))))
  refine R_build rfl rfl rfl rfl (F_cons (cells' := [.string ⟨#[118]⟩, .int .i64 0, .int .i64 0, .int .i64 0, .int .i64 0, .int .i64 0]) rfl rfl rfl rfl (F_cons (cells' := [.string ⟨#[118]⟩, .int .i64 0, .int .i64 0, .int .i64 0, .int .i64 0, .int .i64 0]) rfl rfl rfl rfl (F_cons (cells' := [.string ⟨#[118]⟩, .int .i64 0, .int .i64 1000, .int .i64 2000, .int .i64 0, .int .i64 0]) rfl rfl rfl rfl (F_cons (cells' := [.string ⟨#[118]⟩, .int .i64 0, .int .i64 1000, .int .i64 2000, .int .i64 1000, .int .i64 0]) rfl rfl rfl rfl (F_cons (cells' := [.string ⟨#[118]⟩, .int .i64 0, .int .i64 1000, .int .i64 2000, .int .i64 1000, .int .i64 1]) rfl rfl rfl rfl (F_nil (P_some rfl (O_cons (O_bsl (z := [.string ⟨#[]⟩, .int .i64 0, .int .i64 0, .int .i64 0, .int .i64 0, .int .i64 0]) rfl rfl rfl rfl rfl rfl rfl (F_cons (cells' := [.string ⟨#[118]⟩, .int .i64 0, .int .i64 1000, .int .i64 2000, .int .i64 1000, .int .i64 1]) rfl rfl rfl rfl ?_))))))))))
  refine F_nil (fun g3 => Pc rfl rfl (R_build rfl rfl rfl rfl (F_cons (cells' := [.int .i64 1100, .int .i64 0]) rfl rfl rfl rfl (F_cons (cells' := [.int .i64 1100, .int .i64 1200]) rfl rfl rfl rfl (F_nil (Pc rfl rfl (R_build rfl rfl rfl rfl (F_cons (cells' := [.int .i64 0, .int .i64 0, .int .i64 0, .int .i64 0, .int .i64 0, .int .i64 0, .int .i64 0]) rfl rfl rfl rfl (F_cons (cells' := [.int .i64 0, .int .i64 1, .int .i64 0, .int .i64 0, .int .i64 0, .int .i64 0, .int .i64 0]) rfl rfl rfl rfl (F_cons (cells' := [.int .i64 0, .int .i64 1, .int .i64 0, .int .i64 0, .int .i64 0, .int .i64 0, .int .i64 0]) rfl rfl rfl rfl (F_cons (cells' := [.int .i64 0, .int .i64 1, .int .i64 0, .int .i64 300, .int .i64 0, .int .i64 0, .int .i64 0]) rfl rfl rfl rfl (F_cons (cells' := [.int .i64 0, .int .i64 1, .int .i64 0, .int .i64 300, .int .i64 1100, .int .i64 1200, .int .i64 0]) rfl rfl rfl rfl ?_))))))))))))
  refine F_cons (cells' := [.int .i64 0, .int .i64 1, .int .i64 0, .int .i64 300, .int .i64 1100, .int .i64 1200, .int .i64 30]) rfl rfl rfl rfl (F_nil (P_some rfl (O_cons (O_bsl (z := [.int .i64 0, .int .i64 0, .int .i64 0, .int .i64 0, .int .i64 0, .int .i64 0, .int .i64 0]) rfl rfl rfl rfl rfl rfl rfl (F_cons (cells' := [.int .i64 0, .int .i64 1, .int .i64 0, .int .i64 300, .int .i64 1100, .int .i64 1200, .int .i64 30]) rfl rfl rfl rfl (F_nil (fun g4 => Pc rfl rfl (R_build rfl rfl rfl rfl (F_cons (cells' := [.int .i64 2, .slice (some ⟨g2, 0, none⟩) 2 2, .slice none 0 0, .slice none 0 0, .int .i64 0, .int .i64 0]) rfl rfl rfl rfl (F_cons (cells' := [.int .i64 2, .slice (some ⟨g2, 0, none⟩) 2 2, .slice (some ⟨g3, 0, none⟩) 1 1, .slice none 0 0, .int .i64 0, .int .i64 0]) rfl rfl rfl rfl (F_cons (cells' := [.int .i64 2, .slice (some ⟨g2, 0, none⟩) 2 2, .slice (some ⟨g3, 0, none⟩) 1 1, .slice (some ⟨g4, 0, none⟩) 1 1, .int .i64 0, .int .i64 0]) rfl rfl rfl rfl ?_)))))))))))
  refine F_cons (cells' := [.int .i64 2, .slice (some ⟨g2, 0, none⟩) 2 2, .slice (some ⟨g3, 0, none⟩) 1 1, .slice (some ⟨g4, 0, none⟩) 1 1, .int .i64 0, .int .i64 0]) rfl rfl rfl rfl (F_cons (cells' := [.int .i64 2, .slice (some ⟨g2, 0, none⟩) 2 2, .slice (some ⟨g3, 0, none⟩) 1 1, .slice (some ⟨g4, 0, none⟩) 1 1, .int .i64 0, .int .i64 20]) rfl rfl rfl rfl (F_nil (P_some rfl (O_cons (O_store (vs := [.int .i64 2, .slice (some ⟨g2, 0, none⟩) 2 2, .slice (some ⟨g3, 0, none⟩) 1 1, .slice (some ⟨g4, 0, none⟩) 1 1, .int .i64 0, .int .i64 20]) rfl rfl rfl rfl rfl rfl (ST_ (L' := ([(g4, .cells #[.int .i64 0, .int .i64 1, .int .i64 0, .int .i64 300, .int .i64 1100, .int .i64 1200, .int .i64 30] 79 (0, 0))] :: [(g3, .cells #[.string ⟨#[118]⟩, .int .i64 0, .int .i64 1000, .int .i64 2000, .int .i64 1000, .int .i64 1] 46 (0, 0))] :: [(g2, .cells #[.int .i64 0, .int .i64 1, .int .i64 500, .int .i64 60, .int .i64 1, .int .i64 0, .int .i64 500, .int .i64 60] 86 (0, 0))] :: [(g1, .cells #[.int .i64 2, .slice (some ⟨g2, 0, none⟩) 2 2, .slice (some ⟨g3, 0, none⟩) 1 1, .slice (some ⟨g4, 0, none⟩) 1 1, .int .i64 0, .int .i64 20] 28 (0, 0))] :: L)) 3 0 rfl rfl rfl rfl ?_))))))
  refine P_none (O_nil (hK74 _ _ _ (WP.ret ?_)))
  have e_ := Option.some.inj h
  subst e_
  refine S_cell rfl rfl rfl rfl (LA_ (vs := [.int .i64 2, .slice (some ⟨g2, 0, none⟩) 2 2, .slice (some ⟨g3, 0, none⟩) 1 1, .slice (some ⟨g4, 0, none⟩) 1 1, .int .i64 0, .int .i64 20]) 3 0 rfl rfl rfl rfl (S_nil ?_))
  have hl1 : [(T_api_Edge.mk 0 1 500 60), (T_api_Edge.mk 1 0 500 60)].length ≤ 2 ∧ 2 ≤ maxLen := ⟨Nat.le_refl _, by unfold maxLen; omega⟩
  refine Upd.frzOwn 2 rfl (Own.lit (r := r_api_Edge) (e := 86) (g := g2) (xs := [(T_api_Edge.mk 0 1 500 60), (T_api_Edge.mk 1 0 500 60)]) (cs := [.int .i64 0, .int .i64 1, .int .i64 500, .int .i64 60, .int .i64 1, .int .i64 0, .int .i64 500, .int .i64 60]) (css := [[.int .i64 0, .int .i64 1, .int .i64 500, .int .i64 60], [.int .i64 1, .int .i64 0, .int .i64 500, .int .i64 60]]) rfl (All2.cons (rfl) (All2.cons (rfl) (All2.nil))) rfl rfl) fun v1 hm_1 hA1 => ?_
  have hl2 : [(T_api_Vehicle.mk ⟨#[118]⟩ 0 (T_api_Window.mk 1000 2000) 1000 1)].length ≤ 1 ∧ 1 ≤ maxLen := ⟨Nat.le_refl _, by unfold maxLen; omega⟩
  refine Upd.frzOwn 1 rfl (Own.lit (r := r_api_Vehicle) (e := 46) (g := g3) (xs := [(T_api_Vehicle.mk ⟨#[118]⟩ 0 (T_api_Window.mk 1000 2000) 1000 1)]) (cs := [.string ⟨#[118]⟩, .int .i64 0, .int .i64 1000, .int .i64 2000, .int .i64 1000, .int .i64 1]) (css := [[.string ⟨#[118]⟩, .int .i64 0, .int .i64 1000, .int .i64 2000, .int .i64 1000, .int .i64 1]]) rfl (All2.cons (rfl) (All2.nil)) rfl rfl) fun v2 hm_2 hA2 => ?_
  replace hA1 := hA1.mono hm_2
  have hl3 : [(T_api_Demand.mk 0 1 0 300 (T_api_Window.mk 1100 1200) 30)].length ≤ 1 ∧ 1 ≤ maxLen := ⟨Nat.le_refl _, by unfold maxLen; omega⟩
  refine Upd.frzOwn 0 rfl (Own.lit (r := r_api_Demand) (e := 79) (g := g4) (xs := [(T_api_Demand.mk 0 1 0 300 (T_api_Window.mk 1100 1200) 30)]) (cs := [.int .i64 0, .int .i64 1, .int .i64 0, .int .i64 300, .int .i64 1100, .int .i64 1200, .int .i64 30]) (css := [[.int .i64 0, .int .i64 1, .int .i64 0, .int .i64 300, .int .i64 1100, .int .i64 1200, .int .i64 30]]) rfl (All2.cons (rfl) (All2.nil)) rfl rfl) fun v3 hm_3 hA3 => ?_
  replace hA1 := hA1.mono hm_3
  replace hA2 := hA2.mono hm_3
  refine Upd.selS [] 4 ?_
  exact Upd.done (hR _ (some ⟨g2, 0, none⟩) 2 (some ⟨g3, 0, none⟩) 1 (some ⟨g4, 0, none⟩) 1 (Gh.le.trans hm_1 (Gh.le.trans hm_2 (hm_3))) (hl1) (hA1) (hl2) (hA2) (hl3) (hA3))

theorem road_network_fn {μ : Gh} {L : List Seg} {R : Value → Gh → List Seg → Prop}  {r1 : T_api_Road} {A1 : Option Addr} {c1 : Nat} {res1 : T_api_Graph}
    (hl1 : r1.Edges.length ≤ c1 ∧ c1 ≤ maxLen) (hA1 : ArrR r_api_Edge μ A1 r1.Edges) (h : road_network r1 = some res1)
    (hR : ∀ (μ' : Gh) (A0_1 : Option Addr) (c0_1 : Nat), μ.le μ' → (res1.Arcs.length ≤ c0_1 ∧ c0_1 ≤ maxLen) → ArrR r_api_Arc μ' A0_1 res1.Arcs → R (.agg #[.int .i64 res1.Nodes, .slice A0_1 res1.Arcs.length c0_1]) μ' (L)) :
    Fn Try.prog 42 [.agg #[.int .i64 r1.Nodes, .slice A1 r1.Edges.length c1]] μ (L) R := by
  unfold road_network at h
  refine Fn.of_body Tt_ok Try.func42 (by kernel_rfl) rfl Try.ntmps42 (by simp) ?_
  simp only [Try.f42, argFr, List.zipIdx, List.map, Nat.reduceAdd]
  refine WP.seq_k (fun K247 hK247 => WP.region Tt_ok (O_cons (O_box (cs := #[.int .i64 r1.Nodes, .slice A1 r1.Edges.length c1]) rfl rfl (fun g1 => P_some rfl (O_cons (O_alloc (cs := #[.int .i64 0, .slice none 0 0]) rfl rfl (fun g2 => Pn rfl (hK247 _ _ _ (WP.seq_k (fun K251 hK251 => Wr Tt_ok rfl (R_fa0 (o' := 0) rfl rfl rfl rfl rfl rfl (Pc rfl rfl ?_))))))))))))
  refine R_load rfl rfl rfl (Ex.mk _ (Cell.seg 1 0 rfl rfl rfl) (Pc rfl rfl (R_build rfl rfl rfl rfl (F_cons (cells' := [.int .i64 r1.Nodes, .slice none 0 0]) rfl rfl rfl rfl (F_nil (P_some rfl (O_cons (O_alloc (cs := #[.int .i64 0, .slice none 0 0]) rfl rfl (fun g3 => P_some rfl (O_cons (O_store (vs := [.int .i64 r1.Nodes, .slice none 0 0]) rfl rfl rfl rfl rfl rfl (ST_ (L' := ([(g3, .cells #[.int .i64 r1.Nodes, .slice none 0 0] 90 (0, 0))] :: [(g2, .cells #[.int .i64 0, .slice none 0 0] 90 (0, 0))] :: [(g1, .cells #[.int .i64 r1.Nodes, .slice A1 r1.Edges.length c1] 24 (0, 0))] :: L)) 0 0 rfl rfl rfl rfl (P_none (O_nil (hK251 _ _ _ ?_)))))))))))))))
  refine WP.seq_k (fun K256 hK256 => WP.seq_k (fun K257 hK257 => Wr Tt_ok rfl (R_fa0 (o' := 1) rfl rfl rfl rfl rfl rfl (Pc rfl rfl (R_load rfl rfl rfl (Ex.mk _ (Cell.seg 2 0 rfl rfl rfl) (Pc rfl rfl (R_lenS rfl rfl rfl (Pc rfl rfl ?_)))))))))
  refine R_move rfl (Pn rfl (hK257 _ _ _ ?_))
  obtain ⟨o258, h258, h⟩ := obind h
  refine WP.cutK (fun fr_ μ_ L_ => ∃ (f2 : (List T_api_Arc)) (A4 : Option Addr) (c4 : Nat) (ch3 : Seg), f2 = o258 ∧ SubFr [(2, .pointer (some ⟨g2, 0, none⟩)), (3, .pointer (some ⟨g3, 0, none⟩))] fr_ ∧ SegSub ([(g2, .cells #[.int .i64 0, .slice none 0 0] 90 (0, 0))] :: [(g3, .cells #[.int .i64 r1.Nodes, .slice A4 f2.length c4] 90 (0, 0))] :: ch3 :: L) L_ ∧ Own r_api_Arc 108 μ_ (.slice A4 f2.length c4) f2 ch3) ?_ ?_
  · refine WP.block (WP.iter h258 (fun (j_ : (List T_api_Arc) × Int) fr_ μ_ L_ => ounP j_ fun f1 v1 => ∃ (A2 : Option Addr) (c2 : Nat) (ch1 : Seg), SubFr [(2, .pointer (some ⟨g2, 0, none⟩)), (3, .pointer (some ⟨g3, 0, none⟩)), (10, .slice A1 r1.Edges.length c1), (11, .int .i64 ((r1.Edges.length : Nat) : Int)), (12, .int .i64 v1)] fr_ ∧ SegSub ([(g2, .cells #[.int .i64 0, .slice none 0 0] 90 (0, 0))] :: [(g3, .cells #[.int .i64 r1.Nodes, .slice A2 f1.length c2] 90 (0, 0))] :: ch1 :: L) L_ ∧ Own r_api_Arc 108 μ_ (.slice A2 f1.length c2) f1 ch1) ⟨none, 0, [], SubFr.of ⟨rfl, rfl, rfl, rfl, rfl, trivial⟩, SegSub.sel _ [some 1, some 0, none] 3, (Own.nil)⟩ ?_)
    rintro ⟨f1, v1⟩ q277 fr277 μ277 L277 hm277 ⟨A2, c2, ch1, hF277, hS277, hO1⟩ hb277 hq277
    unfold road_network_l1 at hb277
    replace hb277 := oun_mk hb277
    replace hA1 := hA1.mono hm277
    refine WP.at hF277 hS277 (WP.seq_k (fun K287 hK287 => Wr Tt_ok rfl (R_lssD rfl rfl (Pn rfl (hK287 _ _ _ (WP.seq_k (fun K288 hK288 => ?_)))))))
    refine W_cond_v (b := (decide (v1 < ((r1.Edges.length : Nat) : Int)))) rfl (fun hc1 => ?_) (fun hc1 => ?_)
    · replace hb277 := cond_t hc1 hb277
      refine WP.skip (hK288 _ _ _ (WP.seq_k (fun K289 hK289 => WP.block (WP.seq_k (fun K290 hK290 => WP.region Tt_ok (O_cons ?_))))))
      obtain ⟨x1, hx1, hb277⟩ := obind hb277
      obtain ⟨a1, cs1, hA2, hr1, _, hc2⟩ := Rds.getI (ArrR.rds hA1 L) hx1
      obtain rfl := hr1
      refine O_read rfl (R_iaG rfl rfl rfl rfl rfl rfl ⟨(getI_lt hx1).1, (getI_lt hx1).2.1⟩ hA2 (Pc rfl rfl (R_loadA rfl rfl rfl rfl (Ex.mk [.int .i64 x1.From, .int .i64 x1.To, .int .i64 x1.Meters, .int .i64 x1.Secs] ⟨rfl, (hc2.push.push.push)⟩ (P_some rfl (O_cons (O_alloc (cs := #[.int .i64 0, .int .i64 0, .int .i64 0, .int .i64 0]) rfl rfl (fun g4 => P_some rfl (O_cons (O_store (vs := [.int .i64 x1.From, .int .i64 x1.To, .int .i64 x1.Meters, .int .i64 x1.Secs]) rfl rfl rfl rfl rfl rfl (ST_ (L' := ([(g4, .cells #[.int .i64 x1.From, .int .i64 x1.To, .int .i64 x1.Meters, .int .i64 x1.Secs] 86 (0, 0))] :: [(g2, .cells #[.int .i64 0, .slice none 0 0] 90 (0, 0))] :: [(g3, .cells #[.int .i64 r1.Nodes, .slice A2 f1.length c2] 90 (0, 0))] :: ch1 :: L)) 0 0 rfl rfl rfl rfl (P_none (O_nil (hK290 _ _ _ (WP.region Tt_ok ?_)))))))))))))))
      refine O_cons (O_read rfl (R_fa0 (o' := 1) rfl rfl rfl rfl rfl rfl (Pc rfl rfl (R_load rfl rfl rfl (Ex.mk _ (Cell.seg 2 0 rfl rfl rfl) (Pc rfl rfl (R_fa0 (o' := 0) rfl rfl rfl rfl rfl rfl (Pc rfl rfl (R_load rfl rfl rfl (Ex.mk _ (Cell.seg 0 0 rfl rfl rfl) (P_some rfl ?_)))))))))))
      refine O_cons (O_read rfl (R_fa0 (o' := 1) rfl rfl rfl rfl rfl rfl (Pc rfl rfl (R_load rfl rfl rfl (Ex.mk _ (Cell.seg 0 0 rfl rfl rfl) (Pc rfl rfl (R_build rfl rfl rfl rfl (F_cons (cells' := [.int .i64 x1.From, .int .i64 0]) rfl rfl rfl rfl (F_cons (cells' := [.int .i64 x1.From, .int .i64 x1.To]) rfl rfl rfl rfl (F_nil (P_some rfl (O_cons (O_bsl (z := [.int .i64 0, .int .i64 0]) rfl rfl rfl rfl rfl rfl rfl ?_)))))))))))))
      refine F_cons (cells' := [.int .i64 x1.From, .int .i64 x1.To]) rfl rfl rfl rfl (F_nil (fun g5 => P_some rfl (O_cons (O_append rfl ?_))))
      obtain ⟨l1, hz1, hb277⟩ := obind hb277
      refine sem_appR (r := r_api_Arc) Tt_ok rfl rfl rfl rfl (by decide) rfl rfl 4 rfl hO1 rfl (Own.rds (L := ([(g5, .cells #[.int .i64 x1.From, .int .i64 x1.To] 108 (0, 0))] :: [(g4, .cells #[.int .i64 x1.From, .int .i64 x1.To, .int .i64 x1.Meters, .int .i64 x1.Secs] 86 (0, 0))] :: [(g2, .cells #[.int .i64 0, .slice none 0 0] 90 (0, 0))] :: [(g3, .cells #[.int .i64 r1.Nodes, .slice A2 f1.length c2] 90 (0, 0))] :: ch1 :: L)) (Own.lit (r := r_api_Arc) (e := 108) (g := g5) (xs := [(T_api_Arc.mk x1.From x1.To)]) (cs := [.int .i64 x1.From, .int .i64 x1.To]) (css := [[.int .i64 x1.From, .int .i64 x1.To]]) rfl (All2.cons (rfl) (All2.nil)) rfl rfl) 0 rfl) hz1 fun A3 c3 ch2 hO2 => Pc rfl rfl (R_fa0 (o' := 1) rfl rfl rfl rfl rfl rfl (P_some rfl (O_cons (O_store (vs := [.slice A3 l1.length c3]) rfl rfl rfl rfl rfl rfl ?_))))
      refine ST_ (L' := ([(g5, .cells #[.int .i64 x1.From, .int .i64 x1.To] 108 (0, 0))] :: [(g4, .cells #[.int .i64 x1.From, .int .i64 x1.To, .int .i64 x1.Meters, .int .i64 x1.Secs] 86 (0, 0))] :: [(g2, .cells #[.int .i64 0, .slice none 0 0] 90 (0, 0))] :: [(g3, .cells #[.int .i64 r1.Nodes, .slice A3 l1.length c3] 90 (0, 0))] :: ch2 :: L)) 3 0 rfl rfl rfl rfl (P_none (O_nil (hK289 _ _ _ (Wr Tt_ok rfl (R_add rfl rfl (Pc rfl rfl (R_move rfl (Pn rfl ?_))))))))
      have e_ := Option.some.inj hb277
      subst e_
      exact ⟨_, rfl, A3, c3, ch2, SubFr.of ⟨rfl, rfl, rfl, rfl, rfl, trivial⟩, SegSub.sel _ [some 2, some 3, some 4] 5, (hO2)⟩
    replace hb277 := cond_f hc1 hb277
    refine WP.exit (B_here ?_)
    have e_ := Option.some.inj hb277
    subst e_
    have hq_ := hq277 _ rfl
    subst hq_
    exact ⟨f1, A2, c2, ch1, rfl, SubFr.of ⟨rfl, rfl, trivial⟩, SegSub.sel _ [some 0, some 1, some 2] 3, (hO1)⟩
  rintro fr258 μ258 L258 hm258 ⟨f2, A4, c4, ch3, ho258, hF258, hS258, hO3⟩
  subst ho258
  replace hA1 := hA1.mono hm258
  refine hK256 _ _ _ (WP.at hF258 hS258 (WP.seq_k (fun K301 hK301 => Wr Tt_ok rfl (R_loadA rfl rfl rfl rfl (LA_ (vs := [.int .i64 r1.Nodes, .slice A4 f2.length c4]) 1 0 rfl rfl rfl rfl (P_some rfl (O_cons (O_store (vs := [.int .i64 r1.Nodes, .slice A4 f2.length c4]) rfl rfl rfl rfl rfl rfl (ST_ (L' := ([(g2, .cells #[.int .i64 r1.Nodes, .slice A4 f2.length c4] 90 (0, 0))] :: [(g3, .cells #[.int .i64 r1.Nodes, .slice A4 f2.length c4] 90 (0, 0))] :: ch3 :: L)) 0 0 rfl rfl rfl rfl (P_none (O_nil (hK301 _ _ _ (WP.ret ?_)))))))))))))
  have e_ := Option.some.inj h
  subst e_
  refine S_cell rfl rfl rfl rfl (LA_ (vs := [.int .i64 r1.Nodes, .slice A4 f2.length c4]) 0 0 rfl rfl rfl rfl (S_nil ?_))
  have hl2 := Own.lenOk hO3
  refine Upd.frzOwn 2 rfl hO3 fun v2 hm_1 hA3 => ?_
  replace hA1 := hA1.mono hm_1
  replace hO3 := hO3.mono hm_1
  refine Upd.selS [] 3 ?_
  exact Upd.done (hR _ A4 c4 (Gh.le.trans hm258 (hm_1)) (hl2) (hA3))

theorem graph_Check_fn {μ : Gh} {L : List Seg} {R : Value → Gh → List Seg → Prop}  {g1 : T_api_Graph} {A1 : Option Addr} {c1 : Nat} {res1 : Int}
    (hl1 : g1.Arcs.length ≤ c1 ∧ c1 ≤ maxLen) (hA1 : ArrR r_api_Arc μ A1 g1.Arcs) (h : graph_Check g1 = some res1)
    (hR : R (.int .i64 res1) μ (L)) :
    Fn Try.prog 41 [.agg #[.int .i64 g1.Nodes, .slice A1 g1.Arcs.length c1]] μ (L) R := by
  unfold graph_Check at h
  refine Fn.of_body Tt_ok Try.func41 (by kernel_rfl) rfl Try.ntmps41 (by simp) ?_
  simp only [Try.f41, argFr, List.zipIdx, List.map, Nat.reduceAdd]
  refine WP.seq_k (fun K309 hK309 => WP.region Tt_ok (O_cons (O_box (cs := #[.int .i64 g1.Nodes, .slice A1 g1.Arcs.length c1]) rfl rfl (fun g2 => Pc rfl rfl (R_assign rfl (Pn rfl (hK309 _ _ _ (WP.seq_k (fun K311 hK311 => WP.seq_k (fun K312 hK312 => ?_))))))))))
  obtain ⟨o313, h313, h⟩ := obind h
  refine WP.cutK (fun fr_ μ_ L_ => ∃ (v1 : Bool), v1 = o313 ∧ SubFr [(1, .pointer (some ⟨g2, 0, none⟩)), (12, .bool v1)] fr_ ∧ SegSub ([(g2, .cells #[.int .i64 g1.Nodes, .slice A1 g1.Arcs.length c1] 90 (0, 0))] :: L) L_ ∧ μ = μ_) ?_ ?_
  · refine Wr Tt_ok rfl (R_fa0 (o' := 0) rfl rfl rfl rfl rfl rfl (Pc rfl rfl (R_load rfl rfl rfl (Ex.mk _ (Cell.seg 0 0 rfl rfl rfl) (Pc rfl rfl (R_lssD rfl rfl (Pc rfl rfl (R_move rfl (P_some rfl ?_)))))))))
    refine O_gv (z := (decide (g1.Nodes < 0))) rfl rfl (fun hc1 => ?_) (fun hc1 => ?_)
    · replace h313 := cond_f hc1 h313
      refine O_read rfl (R_fa0 (o' := 0) rfl rfl rfl rfl rfl rfl (P_some rfl (O_gY rfl rfl hc1 (O_read rfl (R_load rfl rfl rfl (Ex.mk _ (Cell.seg 0 0 rfl rfl rfl) (P_some rfl (O_gY rfl rfl hc1 (O_read rfl (R_gtrD rfl rfl (Pc rfl rfl (R_pick_F rfl hc1 rfl (Pn rfl ?_)))))))))))))
      have e_ := Option.some.inj h313
      subst e_
      exact ⟨(decide (64 < g1.Nodes)), rfl, SubFr.of ⟨rfl, rfl, trivial⟩, SegSub.sel _ [some 0] 1, rfl⟩
    replace h313 := cond_t hc1 h313
    refine P_some rfl (O_gN rfl rfl hc1 (P_some rfl (O_gN rfl rfl hc1 (Pc rfl rfl (R_pick_T rfl hc1 rfl (Pn rfl ?_))))))
    have e_ := Option.some.inj h313
    subst e_
    exact ⟨true, rfl, SubFr.of ⟨rfl, rfl, trivial⟩, SegSub.sel _ [some 0] 1, rfl⟩
  rintro fr313 μ313 L313 hm313 ⟨v1, ho313, hF313, hS313, hu313⟩
  subst ho313
  subst hu313
  refine hK312 _ _ _ (WP.at hF313 hS313 ?_)
  refine W_cond_v (b := v1) rfl (fun hc2 => ?_) (fun hc2 => ?_)
  · replace h := cond_t hc2 h
    refine WP.seq_k (fun K316 hK316 => Wr Tt_ok rfl (R_assign rfl (Pn rfl (hK316 _ _ _ (WP.ret ?_)))))
    have e_ := Option.some.inj h
    subst e_
    refine S_tmp rfl (S_nil (Upd.selS [] 1 ?_))
    exact Upd.done hR
  replace h := cond_f hc2 h
  refine WP.skip (hK311 _ _ _ (WP.seq_k (fun K317 hK317 => WP.seq_k (fun K318 hK318 => Wr Tt_ok rfl (R_fa0 (o' := 1) rfl rfl rfl rfl rfl rfl (Pc rfl rfl (R_load rfl rfl rfl (Ex.mk _ (Cell.seg 0 0 rfl rfl rfl) (Pc rfl rfl (R_lenS rfl rfl rfl (P_some rfl ?_)))))))))))
  refine O_cons (O_read rfl (R_gtrD rfl rfl (Pn rfl (hK318 _ _ _ ?_))))
  refine W_cond_v (b := (decide (512 < ((g1.Arcs.length : Nat) : Int)))) rfl (fun hc3 => ?_) (fun hc3 => ?_)
  · replace h := cond_t hc3 h
    refine WP.seq_k (fun K319 hK319 => Wr Tt_ok rfl (R_assign rfl (Pn rfl (hK319 _ _ _ (WP.ret ?_)))))
    have e_ := Option.some.inj h
    subst e_
    refine S_tmp rfl (S_nil (Upd.selS [] 1 ?_))
    exact Upd.done hR
  replace h := cond_f hc3 h
  refine WP.skip (hK317 _ _ _ (WP.seq_k (fun K320 hK320 => WP.seq_k (fun K321 hK321 => Wr Tt_ok rfl (R_fa0 (o' := 1) rfl rfl rfl rfl rfl rfl (Pc rfl rfl (R_load rfl rfl rfl (Ex.mk _ (Cell.seg 0 0 rfl rfl rfl) (Pc rfl rfl (R_lenS rfl rfl rfl (P_some rfl ?_)))))))))))
  refine O_cons (O_read rfl (R_move rfl (Pn rfl (hK321 _ _ _ ?_))))
  obtain ⟨o322, h322, h⟩ := obind h
  refine WP.cutK (fun fr_ μ_ L_ => (.inl ()) = o322 ∧ SubFr [] fr_ ∧ SegSub (L) L_ ∧ μ = μ_) ?_ ?_
  · refine WP.block (WP.iter h322 (fun (v2 : Int) fr_ μ_ L_ => SubFr [(1, .pointer (some ⟨g2, 0, none⟩)), (18, .slice A1 g1.Arcs.length c1), (19, .int .i64 ((g1.Arcs.length : Nat) : Int)), (20, .int .i64 v2)] fr_ ∧ SegSub ([(g2, .cells #[.int .i64 g1.Nodes, .slice A1 g1.Arcs.length c1] 90 (0, 0))] :: L) L_ ∧ μ = μ_) ⟨SubFr.of ⟨rfl, rfl, rfl, rfl, trivial⟩, SegSub.sel _ [some 0] 1, rfl⟩ ?_)
    rintro v2 q338 fr338 μ338 L338 hm338 ⟨hF338, hS338, hu338⟩ hb338 hq338
    unfold graph_Check_l1 at hb338
    subst hu338
    refine WP.at hF338 hS338 (WP.seq_k (fun K342 hK342 => Wr Tt_ok rfl (R_lssD rfl rfl (Pn rfl (hK342 _ _ _ (WP.seq_k (fun K343 hK343 => ?_)))))))
    refine W_cond_v (b := (decide (v2 < ((g1.Arcs.length : Nat) : Int)))) rfl (fun hc4 => ?_) (fun hc4 => ?_)
    · replace hb338 := cond_t hc4 hb338
      refine WP.skip (hK343 _ _ _ (WP.seq_k (fun K344 hK344 => WP.block (WP.seq_k (fun K345 hK345 => WP.region Tt_ok (O_cons ?_))))))
      obtain ⟨x1, hx1, hb338⟩ := obind hb338
      obtain ⟨a1, cs1, hA2, hr1, _, hc5⟩ := Rds.getI (ArrR.rds hA1 L) hx1
      obtain rfl := hr1
      refine O_read rfl (R_iaG rfl rfl rfl rfl rfl rfl ⟨(getI_lt hx1).1, (getI_lt hx1).2.1⟩ hA2 (Pc rfl rfl (R_loadA rfl rfl rfl rfl (Ex.mk [.int .i64 x1.From, .int .i64 x1.To] ⟨rfl, (hc5.push)⟩ (P_some rfl (O_cons (O_alloc (cs := #[.int .i64 0, .int .i64 0]) rfl rfl (fun g3 => P_some rfl (O_cons (O_store (vs := [.int .i64 x1.From, .int .i64 x1.To]) rfl rfl rfl rfl rfl rfl (ST_ (L' := ([(g3, .cells #[.int .i64 x1.From, .int .i64 x1.To] 108 (0, 0))] :: [(g2, .cells #[.int .i64 g1.Nodes, .slice A1 g1.Arcs.length c1] 90 (0, 0))] :: L)) 0 0 rfl rfl rfl rfl (P_none (O_nil (hK345 _ _ _ (WP.seq_k (fun K348 hK348 => ?_))))))))))))))))
      obtain ⟨o349, h349, hb338⟩ := obind hb338
      refine WP.cutK (fun fr_ μ_ L_ => ∃ (v3 : Bool), v3 = o349 ∧ SubFr [(1, .pointer (some ⟨g2, 0, none⟩)), (18, .slice A1 g1.Arcs.length c1), (19, .int .i64 ((g1.Arcs.length : Nat) : Int)), (20, .int .i64 v2), (45, .bool v3)] fr_ ∧ SegSub ([(g2, .cells #[.int .i64 g1.Nodes, .slice A1 g1.Arcs.length c1] 90 (0, 0))] :: L) L_ ∧ μ = μ_) ?_ ?_
      · refine Wr Tt_ok rfl (R_fa0 (o' := 0) rfl rfl rfl rfl rfl rfl (Pc rfl rfl (R_load rfl rfl rfl (Ex.mk _ (Cell.seg 0 0 rfl rfl rfl) (Pc rfl rfl (R_lssD rfl rfl (Pc rfl rfl (R_move rfl (P_some rfl ?_)))))))))
        refine O_gv (z := (decide (x1.From < 0))) rfl rfl (fun hc6 => ?_) (fun hc6 => ?_)
        · replace h349 := cond_f hc6 h349
          refine O_read rfl (R_fa0 (o' := 0) rfl rfl rfl rfl rfl rfl (P_some rfl (O_gY rfl rfl hc6 (O_read rfl (R_load rfl rfl rfl (Ex.mk _ (Cell.seg 0 0 rfl rfl rfl) (P_some rfl (O_gY rfl rfl hc6 (O_read rfl (R_fa0 (o' := 0) rfl rfl rfl rfl rfl rfl (P_some rfl (O_gY rfl rfl hc6 (O_read rfl (R_load rfl rfl rfl (Ex.mk _ (Cell.seg 1 0 rfl rfl rfl) (P_some rfl (O_gY rfl rfl hc6 ?_)))))))))))))))))
          refine O_read rfl (R_geqD rfl rfl (Pc rfl rfl (R_pick_F rfl hc6 rfl (Pc rfl rfl (R_move rfl (P_some rfl ?_))))))
          refine O_gv (z := (decide (g1.Nodes ≤ x1.From))) rfl rfl (fun hc7 => ?_) (fun hc7 => ?_)
          · replace h349 := cond_f hc7 h349
            refine O_read rfl (R_fa0 (o' := 1) rfl rfl rfl rfl rfl rfl (P_some rfl (O_gY rfl rfl hc7 (O_read rfl (R_load rfl rfl rfl (Ex.mk _ (Cell.seg 0 0 rfl rfl rfl) (P_some rfl (O_gY rfl rfl hc7 (O_read rfl (R_lssD rfl rfl (Pc rfl rfl (R_pick_F rfl hc7 rfl (Pc rfl rfl ?_)))))))))))))
            refine R_move rfl (P_some rfl ?_)
            refine O_gv (z := (decide (x1.To < 0))) rfl rfl (fun hc8 => ?_) (fun hc8 => ?_)
            · replace h349 := cond_f hc8 h349
              refine O_read rfl (R_fa0 (o' := 1) rfl rfl rfl rfl rfl rfl (P_some rfl (O_gY rfl rfl hc8 (O_read rfl (R_load rfl rfl rfl (Ex.mk _ (Cell.seg 0 0 rfl rfl rfl) (P_some rfl (O_gY rfl rfl hc8 (O_read rfl (R_fa0 (o' := 0) rfl rfl rfl rfl rfl rfl (P_some rfl (O_gY rfl rfl hc8 (O_read rfl (R_load rfl rfl rfl (Ex.mk _ (Cell.seg 1 0 rfl rfl rfl) (P_some rfl (O_gY rfl rfl hc8 ?_)))))))))))))))))
              refine O_read rfl (R_geqD rfl rfl (Pc rfl rfl (R_pick_F rfl hc8 rfl (Pn rfl ?_))))
              have e_ := Option.some.inj h349
              subst e_
              exact ⟨(decide (g1.Nodes ≤ x1.To)), rfl, SubFr.of ⟨rfl, rfl, rfl, rfl, rfl, trivial⟩, SegSub.sel _ [some 1] 2, rfl⟩
            replace h349 := cond_t hc8 h349
            refine P_some rfl (O_gN rfl rfl hc8 (P_some rfl (O_gN rfl rfl hc8 (P_some rfl (O_gN rfl rfl hc8 (P_some rfl (O_gN rfl rfl hc8 (Pc rfl rfl (R_pick_T rfl hc8 rfl (Pn rfl ?_))))))))))
            have e_ := Option.some.inj h349
            subst e_
            exact ⟨true, rfl, SubFr.of ⟨rfl, rfl, rfl, rfl, rfl, trivial⟩, SegSub.sel _ [some 1] 2, rfl⟩
          replace h349 := cond_t hc7 h349
          refine P_some rfl (O_gN rfl rfl hc7 (P_some rfl (O_gN rfl rfl hc7 (Pc rfl rfl (R_pick_T rfl hc7 rfl (Pc rfl rfl (R_move rfl (P_some rfl (O_gN rfl rfl rfl (P_some rfl (O_gN rfl rfl rfl (P_some rfl (O_gN rfl rfl rfl ?_)))))))))))))
          refine P_some rfl (O_gN rfl rfl rfl (P_some rfl (O_gN rfl rfl rfl (Pc rfl rfl (R_pick_T rfl rfl rfl (Pn rfl ?_))))))
          have e_ := Option.some.inj h349
          subst e_
          exact ⟨true, rfl, SubFr.of ⟨rfl, rfl, rfl, rfl, rfl, trivial⟩, SegSub.sel _ [some 1] 2, rfl⟩
        replace h349 := cond_t hc6 h349
        refine P_some rfl (O_gN rfl rfl hc6 (P_some rfl (O_gN rfl rfl hc6 (P_some rfl (O_gN rfl rfl hc6 (P_some rfl (O_gN rfl rfl hc6 (Pc rfl rfl (R_pick_T rfl hc6 rfl (Pc rfl rfl (R_move rfl (P_some rfl (O_gN rfl rfl rfl ?_)))))))))))))
        refine P_some rfl (O_gN rfl rfl rfl (P_some rfl (O_gN rfl rfl rfl (Pc rfl rfl (R_pick_T rfl rfl rfl (Pc rfl rfl (R_move rfl (P_some rfl (O_gN rfl rfl rfl (P_some rfl (O_gN rfl rfl rfl (P_some rfl (O_gN rfl rfl rfl ?_)))))))))))))
        refine P_some rfl (O_gN rfl rfl rfl (P_some rfl (O_gN rfl rfl rfl (Pc rfl rfl (R_pick_T rfl rfl rfl (Pn rfl ?_))))))
        have e_ := Option.some.inj h349
        subst e_
        exact ⟨true, rfl, SubFr.of ⟨rfl, rfl, rfl, rfl, rfl, trivial⟩, SegSub.sel _ [some 1] 2, rfl⟩
      rintro fr349 μ349 L349 hm349 ⟨v3, ho349, hF349, hS349, hu349⟩
      subst ho349
      subst hu349
      refine hK348 _ _ _ (WP.at hF349 hS349 ?_)
      refine W_cond_v (b := v3) rfl (fun hc9 => ?_) (fun hc9 => ?_)
      · replace hb338 := cond_t hc9 hb338
        refine WP.seq_k (fun K352 hK352 => Wr Tt_ok rfl (R_assign rfl (Pn rfl (hK352 _ _ _ (WP.ret ?_)))))
        have e_ := Option.some.inj hb338
        subst e_
        have hq_ := hq338 _ rfl
        subst hq_
        replace h := osum_r h
        have e_ := Option.some.inj h
        subst e_
        refine S_tmp rfl (S_nil (Upd.selS [] 1 ?_))
        exact Upd.done hR
      replace hb338 := cond_f hc9 hb338
      refine WP.skip (hK344 _ _ _ (Wr Tt_ok rfl (R_add rfl rfl (Pc rfl rfl (R_move rfl (Pn rfl ?_))))))
      have e_ := Option.some.inj hb338
      subst e_
      exact ⟨_, rfl, SubFr.of ⟨rfl, rfl, rfl, rfl, trivial⟩, SegSub.sel _ [some 0] 1, rfl⟩
    replace hb338 := cond_f hc4 hb338
    refine WP.exit (B_here ?_)
    have e_ := Option.some.inj hb338
    subst e_
    have hq_ := hq338 _ rfl
    subst hq_
    exact ⟨rfl, SubFr.of trivial, SegSub.sel _ [] 1, rfl⟩
  rintro fr322 μ322 L322 hm322 ⟨ho322, hF322, hS322, hu322⟩
  subst ho322
  replace h := osum_l h
  subst hu322
  refine hK320 _ _ _ (WP.at hF322 hS322 (WP.seq_k (fun K353 hK353 => Wr Tt_ok rfl (R_assign rfl (Pn rfl (hK353 _ _ _ (WP.ret ?_)))))))
  have e_ := Option.some.inj h
  subst e_
  refine S_tmp rfl (S_nil (Upd.selS [] 0 ?_))
  exact Upd.done hR

theorem road_Check_fn {μ : Gh} {L : List Seg} {R : Value → Gh → List Seg → Prop}  {r1 : T_api_Road} {A1 : Option Addr} {c1 : Nat} {res1 : Int}
    (hl1 : r1.Edges.length ≤ c1 ∧ c1 ≤ maxLen) (hA1 : ArrR r_api_Edge μ A1 r1.Edges) (h : road_Check r1 = some res1)
    (hR : ∀ (μ' : Gh) , μ.le μ' → R (.int .i64 res1) μ' (L)) :
    Fn Try.prog 28 [.agg #[.int .i64 r1.Nodes, .slice A1 r1.Edges.length c1]] μ (L) R := by
  unfold road_Check at h
  refine Fn.of_body Tt_ok Try.func28 (by kernel_rfl) rfl Try.ntmps28 (by simp) ?_
  simp only [Try.f28, argFr, List.zipIdx, List.map, Nat.reduceAdd]
  refine WP.seq_k (fun K355 hK355 => WP.region Tt_ok (O_cons (O_box (cs := #[.int .i64 r1.Nodes, .slice A1 r1.Edges.length c1]) rfl rfl (fun g1 => Pc rfl rfl (R_assign rfl (Pn rfl (hK355 _ _ _ (WP.seq_k (fun K357 hK357 => WP.seq_k (fun K358 hK358 => ?_))))))))))
  obtain ⟨o359, h359, h⟩ := obind h
  refine WP.cutK (fun fr_ μ_ L_ => ∃ (v1 : Bool), v1 = o359 ∧ SubFr [(1, .pointer (some ⟨g1, 0, none⟩)), (12, .bool v1)] fr_ ∧ SegSub ([(g1, .cells #[.int .i64 r1.Nodes, .slice A1 r1.Edges.length c1] 24 (0, 0))] :: L) L_) ?_ ?_
  · refine Wr Tt_ok rfl (R_fa0 (o' := 0) rfl rfl rfl rfl rfl rfl (Pc rfl rfl (R_load rfl rfl rfl (Ex.mk _ (Cell.seg 0 0 rfl rfl rfl) (Pc rfl rfl (R_lssD rfl rfl (Pc rfl rfl (R_move rfl (P_some rfl ?_)))))))))
    refine O_gv (z := (decide (r1.Nodes < 1))) rfl rfl (fun hc1 => ?_) (fun hc1 => ?_)
    · replace h359 := cond_f hc1 h359
      refine O_read rfl (R_fa0 (o' := 0) rfl rfl rfl rfl rfl rfl (P_some rfl (O_gY rfl rfl hc1 (O_read rfl (R_load rfl rfl rfl (Ex.mk _ (Cell.seg 0 0 rfl rfl rfl) (P_some rfl (O_gY rfl rfl hc1 (O_read rfl (R_gtrD rfl rfl (Pc rfl rfl (R_pick_F rfl hc1 rfl (Pn rfl ?_)))))))))))))
      have e_ := Option.some.inj h359
      subst e_
      exact ⟨(decide (64 < r1.Nodes)), rfl, SubFr.of ⟨rfl, rfl, trivial⟩, SegSub.sel _ [some 0] 1⟩
    replace h359 := cond_t hc1 h359
    refine P_some rfl (O_gN rfl rfl hc1 (P_some rfl (O_gN rfl rfl hc1 (Pc rfl rfl (R_pick_T rfl hc1 rfl (Pn rfl ?_))))))
    have e_ := Option.some.inj h359
    subst e_
    exact ⟨true, rfl, SubFr.of ⟨rfl, rfl, trivial⟩, SegSub.sel _ [some 0] 1⟩
  rintro fr359 μ359 L359 hm359 ⟨v1, ho359, hF359, hS359⟩
  subst ho359
  replace hA1 := hA1.mono hm359
  refine hK358 _ _ _ (WP.at hF359 hS359 ?_)
  refine W_cond_v (b := v1) rfl (fun hc2 => ?_) (fun hc2 => ?_)
  · replace h := cond_t hc2 h
    refine WP.seq_k (fun K362 hK362 => Wr Tt_ok rfl (R_assign rfl (Pn rfl (hK362 _ _ _ (WP.ret ?_)))))
    have e_ := Option.some.inj h
    subst e_
    refine S_tmp rfl (S_nil (Upd.selS [] 1 ?_))
    exact Upd.done (hR _ (hm359))
  replace h := cond_f hc2 h
  refine WP.skip (hK357 _ _ _ (WP.seq_k (fun K363 hK363 => WP.seq_k (fun K364 hK364 => Wr Tt_ok rfl (R_fa0 (o' := 1) rfl rfl rfl rfl rfl rfl (Pc rfl rfl (R_load rfl rfl rfl (Ex.mk _ (Cell.seg 0 0 rfl rfl rfl) (Pc rfl rfl (R_lenS rfl rfl rfl (P_some rfl ?_)))))))))))
  refine O_cons (O_read rfl (R_gtrD rfl rfl (Pn rfl (hK364 _ _ _ ?_))))
  refine W_cond_v (b := (decide (512 < ((r1.Edges.length : Nat) : Int)))) rfl (fun hc3 => ?_) (fun hc3 => ?_)
  · replace h := cond_t hc3 h
    refine WP.seq_k (fun K365 hK365 => Wr Tt_ok rfl (R_assign rfl (Pn rfl (hK365 _ _ _ (WP.ret ?_)))))
    have e_ := Option.some.inj h
    subst e_
    refine S_tmp rfl (S_nil (Upd.selS [] 1 ?_))
    exact Upd.done (hR _ (hm359))
  replace h := cond_f hc3 h
  refine WP.skip (hK363 _ _ _ (WP.seq_k (fun K366 hK366 => WP.seq_k (fun K367 hK367 => Wr Tt_ok rfl (R_fa0 (o' := 1) rfl rfl rfl rfl rfl rfl (Pc rfl rfl (R_load rfl rfl rfl (Ex.mk _ (Cell.seg 0 0 rfl rfl rfl) (Pc rfl rfl (R_lenS rfl rfl rfl (P_some rfl ?_)))))))))))
  refine O_cons (O_read rfl (R_move rfl (Pn rfl (hK367 _ _ _ ?_))))
  obtain ⟨o368, h368, h⟩ := obind h
  refine WP.cutK (fun fr_ μ_ L_ => (.inl ()) = o368 ∧ SubFr [(1, .pointer (some ⟨g1, 0, none⟩))] fr_ ∧ SegSub ([(g1, .cells #[.int .i64 r1.Nodes, .slice A1 r1.Edges.length c1] 24 (0, 0))] :: L) L_) ?_ ?_
  · refine WP.block (WP.iter h368 (fun (v2 : Int) fr_ μ_ L_ => SubFr [(1, .pointer (some ⟨g1, 0, none⟩)), (18, .slice A1 r1.Edges.length c1), (19, .int .i64 ((r1.Edges.length : Nat) : Int)), (20, .int .i64 v2)] fr_ ∧ SegSub ([(g1, .cells #[.int .i64 r1.Nodes, .slice A1 r1.Edges.length c1] 24 (0, 0))] :: L) L_) ⟨SubFr.of ⟨rfl, rfl, rfl, rfl, trivial⟩, SegSub.sel _ [some 0] 1⟩ ?_)
    rintro v2 q392 fr392 μ392 L392 hm392 ⟨hF392, hS392⟩ hb392 hq392
    unfold road_Check_l1 at hb392
    replace hA1 := hA1.mono hm392
    refine WP.at hF392 hS392 (WP.seq_k (fun K396 hK396 => Wr Tt_ok rfl (R_lssD rfl rfl (Pn rfl (hK396 _ _ _ (WP.seq_k (fun K397 hK397 => ?_)))))))
    refine W_cond_v (b := (decide (v2 < ((r1.Edges.length : Nat) : Int)))) rfl (fun hc4 => ?_) (fun hc4 => ?_)
    · replace hb392 := cond_t hc4 hb392
      refine WP.skip (hK397 _ _ _ (WP.seq_k (fun K398 hK398 => WP.block (WP.seq_k (fun K399 hK399 => WP.region Tt_ok (O_cons ?_))))))
      obtain ⟨x1, hx1, hb392⟩ := obind hb392
      obtain ⟨a1, cs1, hA2, hr1, _, hc5⟩ := Rds.getI (ArrR.rds hA1 L) hx1
      obtain rfl := hr1
      refine O_read rfl (R_iaG rfl rfl rfl rfl rfl rfl ⟨(getI_lt hx1).1, (getI_lt hx1).2.1⟩ hA2 (Pc rfl rfl (R_loadA rfl rfl rfl rfl (Ex.mk [.int .i64 x1.From, .int .i64 x1.To, .int .i64 x1.Meters, .int .i64 x1.Secs] ⟨rfl, (hc5.push)⟩ (P_some rfl (O_cons (O_alloc (cs := #[.int .i64 0, .int .i64 0, .int .i64 0, .int .i64 0]) rfl rfl (fun g2 => P_some rfl (O_cons (O_store (vs := [.int .i64 x1.From, .int .i64 x1.To, .int .i64 x1.Meters, .int .i64 x1.Secs]) rfl rfl rfl rfl rfl rfl (ST_ (L' := ([(g2, .cells #[.int .i64 x1.From, .int .i64 x1.To, .int .i64 x1.Meters, .int .i64 x1.Secs] 86 (0, 0))] :: [(g1, .cells #[.int .i64 r1.Nodes, .slice A1 r1.Edges.length c1] 24 (0, 0))] :: L)) 0 0 rfl rfl rfl rfl (P_none (O_nil (hK399 _ _ _ (WP.seq_k (fun K402 hK402 => ?_))))))))))))))))
      refine WP.seq_k ?_; intro K403 hK403
      obtain ⟨o404, h404, hb392⟩ := obind hb392
      refine WP.cutK (fun fr_ μ_ L_ => ∃ (v3 : Bool), v3 = o404 ∧ SubFr [(1, .pointer (some ⟨g1, 0, none⟩)), (4, .pointer (some ⟨g2, 0, none⟩)), (18, .slice A1 r1.Edges.length c1), (19, .int .i64 ((r1.Edges.length : Nat) : Int)), (20, .int .i64 v2), (45, .bool v3)] fr_ ∧ SegSub ([(g1, .cells #[.int .i64 r1.Nodes, .slice A1 r1.Edges.length c1] 24 (0, 0))] :: [(g2, .cells #[.int .i64 x1.From, .int .i64 x1.To, .int .i64 x1.Meters, .int .i64 x1.Secs] 86 (0, 0))] :: L) L_) ?_ ?_
      · refine Wr Tt_ok rfl (R_fa0 (o' := 0) rfl rfl rfl rfl rfl rfl (Pc rfl rfl (R_load rfl rfl rfl (Ex.mk _ (Cell.seg 0 0 rfl rfl rfl) (Pc rfl rfl (R_lssD rfl rfl (Pc rfl rfl (R_move rfl (P_some rfl ?_)))))))))
        refine O_gv (z := (decide (x1.From < 0))) rfl rfl (fun hc6 => ?_) (fun hc6 => ?_)
        · replace h404 := cond_f hc6 h404
          refine O_read rfl (R_fa0 (o' := 0) rfl rfl rfl rfl rfl rfl (P_some rfl (O_gY rfl rfl hc6 (O_read rfl (R_load rfl rfl rfl (Ex.mk _ (Cell.seg 0 0 rfl rfl rfl) (P_some rfl (O_gY rfl rfl hc6 (O_read rfl (R_fa0 (o' := 0) rfl rfl rfl rfl rfl rfl (P_some rfl (O_gY rfl rfl hc6 (O_read rfl (R_load rfl rfl rfl (Ex.mk _ (Cell.seg 1 0 rfl rfl rfl) (P_some rfl (O_gY rfl rfl hc6 ?_)))))))))))))))))
          refine O_read rfl (R_geqD rfl rfl (Pc rfl rfl (R_pick_F rfl hc6 rfl (Pc rfl rfl (R_move rfl (P_some rfl ?_))))))
          refine O_gv (z := (decide (r1.Nodes ≤ x1.From))) rfl rfl (fun hc7 => ?_) (fun hc7 => ?_)
          · replace h404 := cond_f hc7 h404
            refine O_read rfl (R_fa0 (o' := 1) rfl rfl rfl rfl rfl rfl (P_some rfl (O_gY rfl rfl hc7 (O_read rfl (R_load rfl rfl rfl (Ex.mk _ (Cell.seg 0 0 rfl rfl rfl) (P_some rfl (O_gY rfl rfl hc7 (O_read rfl (R_lssD rfl rfl (Pc rfl rfl (R_pick_F rfl hc7 rfl (Pc rfl rfl ?_)))))))))))))
            refine R_move rfl (P_some rfl ?_)
            refine O_gv (z := (decide (x1.To < 0))) rfl rfl (fun hc8 => ?_) (fun hc8 => ?_)
            · replace h404 := cond_f hc8 h404
              refine O_read rfl (R_fa0 (o' := 1) rfl rfl rfl rfl rfl rfl (P_some rfl (O_gY rfl rfl hc8 (O_read rfl (R_load rfl rfl rfl (Ex.mk _ (Cell.seg 0 0 rfl rfl rfl) (P_some rfl (O_gY rfl rfl hc8 (O_read rfl (R_fa0 (o' := 0) rfl rfl rfl rfl rfl rfl (P_some rfl (O_gY rfl rfl hc8 (O_read rfl (R_load rfl rfl rfl (Ex.mk _ (Cell.seg 1 0 rfl rfl rfl) (P_some rfl (O_gY rfl rfl hc8 ?_)))))))))))))))))
              refine O_read rfl (R_geqD rfl rfl (Pc rfl rfl (R_pick_F rfl hc8 rfl (Pn rfl ?_))))
              have e_ := Option.some.inj h404
              subst e_
              exact ⟨(decide (r1.Nodes ≤ x1.To)), rfl, SubFr.of ⟨rfl, rfl, rfl, rfl, rfl, rfl, trivial⟩, SegSub.sel _ [some 1, some 0] 2⟩
            replace h404 := cond_t hc8 h404
            refine P_some rfl (O_gN rfl rfl hc8 (P_some rfl (O_gN rfl rfl hc8 (P_some rfl (O_gN rfl rfl hc8 (P_some rfl (O_gN rfl rfl hc8 (Pc rfl rfl (R_pick_T rfl hc8 rfl (Pn rfl ?_))))))))))
            have e_ := Option.some.inj h404
            subst e_
            exact ⟨true, rfl, SubFr.of ⟨rfl, rfl, rfl, rfl, rfl, rfl, trivial⟩, SegSub.sel _ [some 1, some 0] 2⟩
          replace h404 := cond_t hc7 h404
          refine P_some rfl (O_gN rfl rfl hc7 (P_some rfl (O_gN rfl rfl hc7 (Pc rfl rfl (R_pick_T rfl hc7 rfl (Pc rfl rfl (R_move rfl (P_some rfl (O_gN rfl rfl rfl (P_some rfl (O_gN rfl rfl rfl (P_some rfl (O_gN rfl rfl rfl ?_)))))))))))))
          refine P_some rfl (O_gN rfl rfl rfl (P_some rfl (O_gN rfl rfl rfl (Pc rfl rfl (R_pick_T rfl rfl rfl (Pn rfl ?_))))))
          have e_ := Option.some.inj h404
          subst e_
          exact ⟨true, rfl, SubFr.of ⟨rfl, rfl, rfl, rfl, rfl, rfl, trivial⟩, SegSub.sel _ [some 1, some 0] 2⟩
        replace h404 := cond_t hc6 h404
        refine P_some rfl (O_gN rfl rfl hc6 (P_some rfl (O_gN rfl rfl hc6 (P_some rfl (O_gN rfl rfl hc6 (P_some rfl (O_gN rfl rfl hc6 (Pc rfl rfl (R_pick_T rfl hc6 rfl (Pc rfl rfl (R_move rfl (P_some rfl (O_gN rfl rfl rfl ?_)))))))))))))
        refine P_some rfl (O_gN rfl rfl rfl (P_some rfl (O_gN rfl rfl rfl (Pc rfl rfl (R_pick_T rfl rfl rfl (Pc rfl rfl (R_move rfl (P_some rfl (O_gN rfl rfl rfl (P_some rfl (O_gN rfl rfl rfl (P_some rfl (O_gN rfl rfl rfl ?_)))))))))))))
        refine P_some rfl (O_gN rfl rfl rfl (P_some rfl (O_gN rfl rfl rfl (Pc rfl rfl (R_pick_T rfl rfl rfl (Pn rfl ?_))))))
        have e_ := Option.some.inj h404
        subst e_
        exact ⟨true, rfl, SubFr.of ⟨rfl, rfl, rfl, rfl, rfl, rfl, trivial⟩, SegSub.sel _ [some 1, some 0] 2⟩
      rintro fr404 μ404 L404 hm404 ⟨v3, ho404, hF404, hS404⟩
      subst ho404
      replace hA1 := hA1.mono hm404
      replace hc5 := hc5.lift hm404
      refine hK403 _ _ _ (WP.at hF404 hS404 ?_)
      refine W_cond_v (b := v3) rfl (fun hc9 => ?_) (fun hc9 => ?_)
      · replace hb392 := cond_t hc9 hb392
        refine WP.seq_k (fun K409 hK409 => Wr Tt_ok rfl (R_assign rfl (Pn rfl (hK409 _ _ _ (WP.ret ?_)))))
        have e_ := Option.some.inj hb392
        subst e_
        have hq_ := hq392 _ rfl
        subst hq_
        replace h := osum_r h
        have e_ := Option.some.inj h
        subst e_
        refine S_tmp rfl (S_nil (Upd.selS [] 2 ?_))
        exact Upd.done (hR _ (Gh.le.trans hm359 (Gh.le.trans hm392 (hm404))))
      replace hb392 := cond_f hc9 hb392
      refine WP.skip (hK402 _ _ _ (WP.seq_k (fun K410 hK410 => ?_)))
      obtain ⟨o411, h411, hb392⟩ := obind hb392
      refine WP.cutK (fun fr_ μ_ L_ => ∃ (v4 : Bool), v4 = o411 ∧ SubFr [(1, .pointer (some ⟨g1, 0, none⟩)), (18, .slice A1 r1.Edges.length c1), (19, .int .i64 ((r1.Edges.length : Nat) : Int)), (20, .int .i64 v2), (70, .bool v4)] fr_ ∧ SegSub ([(g1, .cells #[.int .i64 r1.Nodes, .slice A1 r1.Edges.length c1] 24 (0, 0))] :: L) L_) ?_ ?_
      · refine Wr Tt_ok rfl (R_fa0 (o' := 0) rfl rfl rfl rfl rfl rfl (Pc rfl rfl (R_load rfl rfl rfl (Ex.mk _ (Cell.seg 1 0 rfl rfl rfl) (Pc rfl rfl (R_fa0 (o' := 1) rfl rfl rfl rfl rfl rfl (Pc rfl rfl (R_load rfl rfl rfl (Ex.mk _ (Cell.seg 1 0 rfl rfl rfl) ?_)))))))))
        refine Pc rfl rfl (R_eqlD rfl rfl (Pc rfl rfl (R_move rfl (P_some rfl ?_))))
        refine O_gv (z := (decide (x1.From = x1.To))) rfl rfl (fun hc10 => ?_) (fun hc10 => ?_)
        · replace h411 := cond_f hc10 h411
          refine O_read rfl (R_fa0 (o' := 2) rfl rfl rfl rfl rfl rfl (P_some rfl (O_gY rfl rfl hc10 (O_read rfl (R_load rfl rfl rfl (Ex.mk _ (Cell.seg 1 0 rfl rfl rfl) (P_some rfl (O_gY rfl rfl hc10 (O_read rfl (R_lssD rfl rfl (Pc rfl rfl (R_pick_F rfl hc10 rfl (Pc rfl rfl ?_)))))))))))))
          refine R_move rfl (P_some rfl ?_)
          refine O_gv (z := (decide (x1.Meters < 1))) rfl rfl (fun hc11 => ?_) (fun hc11 => ?_)
          · replace h411 := cond_f hc11 h411
            refine O_read rfl (R_fa0 (o' := 2) rfl rfl rfl rfl rfl rfl (P_some rfl (O_gY rfl rfl hc11 (O_read rfl (R_load rfl rfl rfl (Ex.mk _ (Cell.seg 1 0 rfl rfl rfl) (P_some rfl (O_gY rfl rfl hc11 (O_read rfl (R_gtrD rfl rfl (Pc rfl rfl (R_pick_F rfl hc11 rfl (Pc rfl rfl ?_)))))))))))))
            refine R_move rfl (P_some rfl ?_)
            refine O_gv (z := (decide (100000 < x1.Meters))) rfl rfl (fun hc12 => ?_) (fun hc12 => ?_)
            · replace h411 := cond_f hc12 h411
              refine O_read rfl (R_fa0 (o' := 3) rfl rfl rfl rfl rfl rfl (P_some rfl (O_gY rfl rfl hc12 (O_read rfl (R_load rfl rfl rfl (Ex.mk _ (Cell.seg 1 0 rfl rfl rfl) (P_some rfl (O_gY rfl rfl hc12 (O_read rfl (R_lssD rfl rfl (Pc rfl rfl (R_pick_F rfl hc12 rfl (Pc rfl rfl ?_)))))))))))))
              refine R_move rfl (P_some rfl ?_)
              refine O_gv (z := (decide (x1.Secs < 1))) rfl rfl (fun hc13 => ?_) (fun hc13 => ?_)
              · replace h411 := cond_f hc13 h411
                refine O_read rfl (R_fa0 (o' := 3) rfl rfl rfl rfl rfl rfl (P_some rfl (O_gY rfl rfl hc13 (O_read rfl (R_load rfl rfl rfl (Ex.mk _ (Cell.seg 1 0 rfl rfl rfl) (P_some rfl (O_gY rfl rfl hc13 (O_read rfl (R_gtrD rfl rfl (Pc rfl rfl (R_pick_F rfl hc13 rfl (Pn rfl ?_)))))))))))))
                have e_ := Option.some.inj h411
                subst e_
                exact ⟨(decide (100000 < x1.Secs)), rfl, SubFr.of ⟨rfl, rfl, rfl, rfl, rfl, trivial⟩, SegSub.sel _ [some 0] 2⟩
              replace h411 := cond_t hc13 h411
              refine P_some rfl (O_gN rfl rfl hc13 (P_some rfl (O_gN rfl rfl hc13 (Pc rfl rfl (R_pick_T rfl hc13 rfl (Pn rfl ?_))))))
              have e_ := Option.some.inj h411
              subst e_
              exact ⟨true, rfl, SubFr.of ⟨rfl, rfl, rfl, rfl, rfl, trivial⟩, SegSub.sel _ [some 0] 2⟩
            replace h411 := cond_t hc12 h411
            refine P_some rfl (O_gN rfl rfl hc12 (P_some rfl (O_gN rfl rfl hc12 (Pc rfl rfl (R_pick_T rfl hc12 rfl (Pc rfl rfl (R_move rfl (P_some rfl (O_gN rfl rfl rfl (P_some rfl (O_gN rfl rfl rfl (P_some rfl (O_gN rfl rfl rfl ?_)))))))))))))
            refine Pc rfl rfl (R_pick_T rfl rfl rfl (Pn rfl ?_))
            have e_ := Option.some.inj h411
            subst e_
            exact ⟨true, rfl, SubFr.of ⟨rfl, rfl, rfl, rfl, rfl, trivial⟩, SegSub.sel _ [some 0] 2⟩
          replace h411 := cond_t hc11 h411
          refine P_some rfl (O_gN rfl rfl hc11 (P_some rfl (O_gN rfl rfl hc11 (Pc rfl rfl (R_pick_T rfl hc11 rfl (Pc rfl rfl (R_move rfl (P_some rfl (O_gN rfl rfl rfl (P_some rfl (O_gN rfl rfl rfl (P_some rfl (O_gN rfl rfl rfl ?_)))))))))))))
          refine Pc rfl rfl (R_pick_T rfl rfl rfl (Pc rfl rfl (R_move rfl (P_some rfl (O_gN rfl rfl rfl (P_some rfl (O_gN rfl rfl rfl (P_some rfl (O_gN rfl rfl rfl (Pc rfl rfl (R_pick_T rfl rfl rfl ?_)))))))))))
          refine Pn rfl ?_
          have e_ := Option.some.inj h411
          subst e_
          exact ⟨true, rfl, SubFr.of ⟨rfl, rfl, rfl, rfl, rfl, trivial⟩, SegSub.sel _ [some 0] 2⟩
        replace h411 := cond_t hc10 h411
        refine P_some rfl (O_gN rfl rfl hc10 (P_some rfl (O_gN rfl rfl hc10 (Pc rfl rfl (R_pick_T rfl hc10 rfl (Pc rfl rfl (R_move rfl (P_some rfl (O_gN rfl rfl rfl (P_some rfl (O_gN rfl rfl rfl (P_some rfl (O_gN rfl rfl rfl ?_)))))))))))))
        refine Pc rfl rfl (R_pick_T rfl rfl rfl (Pc rfl rfl (R_move rfl (P_some rfl (O_gN rfl rfl rfl (P_some rfl (O_gN rfl rfl rfl (P_some rfl (O_gN rfl rfl rfl (Pc rfl rfl (R_pick_T rfl rfl rfl ?_)))))))))))
        refine Pc rfl rfl (R_move rfl (P_some rfl (O_gN rfl rfl rfl (P_some rfl (O_gN rfl rfl rfl (P_some rfl (O_gN rfl rfl rfl (Pc rfl rfl (R_pick_T rfl rfl rfl (Pn rfl ?_))))))))))
        have e_ := Option.some.inj h411
        subst e_
        exact ⟨true, rfl, SubFr.of ⟨rfl, rfl, rfl, rfl, rfl, trivial⟩, SegSub.sel _ [some 0] 2⟩
      rintro fr411 μ411 L411 hm411 ⟨v4, ho411, hF411, hS411⟩
      subst ho411
      replace hA1 := hA1.mono hm411
      replace hc5 := hc5.lift hm411
      refine hK410 _ _ _ (WP.at hF411 hS411 ?_)
      refine W_cond_v (b := v4) rfl (fun hc14 => ?_) (fun hc14 => ?_)
      · replace hb392 := cond_t hc14 hb392
        refine WP.seq_k (fun K414 hK414 => Wr Tt_ok rfl (R_assign rfl (Pn rfl (hK414 _ _ _ (WP.ret ?_)))))
        have e_ := Option.some.inj hb392
        subst e_
        have hq_ := hq392 _ rfl
        subst hq_
        replace h := osum_r h
        have e_ := Option.some.inj h
        subst e_
        refine S_tmp rfl (S_nil (Upd.selS [] 1 ?_))
        exact Upd.done (hR _ (Gh.le.trans hm359 (Gh.le.trans hm392 (Gh.le.trans hm404 (hm411)))))
      replace hb392 := cond_f hc14 hb392
      refine WP.skip (hK398 _ _ _ (Wr Tt_ok rfl (R_add rfl rfl (Pc rfl rfl (R_move rfl (Pn rfl ?_))))))
      have e_ := Option.some.inj hb392
      subst e_
      exact ⟨_, rfl, SubFr.of ⟨rfl, rfl, rfl, rfl, trivial⟩, SegSub.sel _ [some 0] 1⟩
    replace hb392 := cond_f hc4 hb392
    refine WP.exit (B_here ?_)
    have e_ := Option.some.inj hb392
    subst e_
    have hq_ := hq392 _ rfl
    subst hq_
    exact ⟨rfl, SubFr.of ⟨rfl, trivial⟩, SegSub.sel _ [some 0] 1⟩
  rintro fr368 μ368 L368 hm368 ⟨ho368, hF368, hS368⟩
  subst ho368
  replace h := osum_l h
  replace hA1 := hA1.mono hm368
  refine hK366 _ _ _ (WP.at hF368 hS368 (WP.seq_k (fun K417 hK417 => Wr Tt_ok rfl (R_loadA rfl rfl rfl rfl (LA_ (vs := [.int .i64 r1.Nodes, .slice A1 r1.Edges.length c1]) 0 0 rfl rfl rfl rfl (P_some rfl (O_cons (O_call (all := [.agg #[.int .i64 r1.Nodes, .slice A1 r1.Edges.length c1]]) rfl rfl rfl ?_))))))))
  obtain ⟨r2, hx2, h⟩ := obind h
  refine road_network_fn hl1 hA1 hx2 (fun v5 A2 c2 hm_1 hl2 hA3 => ?_)
  replace hA1 := hA1.mono hm_1
  refine P_some rfl (O_cons (O_call (all := [.agg #[.int .i64 r2.Nodes, .slice A2 r2.Arcs.length c2]]) rfl rfl rfl ?_))
  obtain ⟨r3, hx3, h⟩ := obind h
  refine graph_Check_fn hl2 hA3 hx3 ((Pc rfl rfl (R_assign rfl (Pn rfl (hK417 _ _ _ (WP.ret ?_))))))
  have e_ := Option.some.inj h
  subst e_
  refine S_tmp rfl (S_nil (Upd.selS [] 1 ?_))
  exact Upd.done (hR _ (Gh.le.trans hm359 (Gh.le.trans hm368 (hm_1))))

theorem ident_letter_fn {μ : Gh} {L : List Seg} {R : Value → Gh → List Seg → Prop}  {c1 : Int}  {res1 : Bool}
     (h : ident_letter c1 = some res1)
    (hR : R (.bool res1) μ (L)) :
    Fn Try.prog 70 [.int .u8 c1] μ (L) R := by
  unfold ident_letter at h
  refine Fn.of_body Tt_ok Try.func70 (by kernel_rfl) rfl Try.ntmps70 (by simp) ?_
  simp only [Try.f70, argFr, List.zipIdx, List.map, Nat.reduceAdd]
  refine WP.seq_k (fun K454 hK454 => Wr Tt_ok rfl (R_assign rfl (Pn rfl (hK454 _ _ _ (WP.seq_k (fun K455 hK455 => ?_))))))
  obtain ⟨o456, h456, h⟩ := obind h
  refine WP.cutK (fun fr_ μ_ L_ => ∃ (v1 : Bool), v1 = o456 ∧ SubFr [(2, .bool v1)] fr_ ∧ SegSub (L) L_ ∧ μ = μ_) ?_ ?_
  · refine Wr Tt_ok rfl (R_move rfl (Pc rfl rfl (R_geqD rfl rfl (Pc rfl rfl (R_move rfl (P_some rfl ?_))))))
    refine O_gv (z := (decide (97 ≤ c1))) rfl rfl (fun hc1 => ?_) (fun hc1 => ?_)
    · replace h456 := cond_t hc1 h456
      refine O_read rfl (R_move rfl (P_some rfl (O_gY rfl rfl hc1 (O_read rfl (R_leqD rfl rfl (Pc rfl rfl (R_pick_T rfl hc1 rfl (Pc rfl rfl (R_move rfl (P_some rfl ?_))))))))))
      refine O_gv (z := (decide (c1 ≤ 122))) rfl rfl (fun hc2 => ?_) (fun hc2 => ?_)
      · replace h456 := cond_f hc2 h456
        refine O_read rfl (R_move rfl (P_some rfl (O_gY rfl rfl hc2 (O_read rfl (R_geqD rfl rfl (P_some rfl (O_gY rfl rfl hc2 (O_read rfl (R_move rfl (P_some rfl ?_))))))))))
        refine O_gv (z := (decide (65 ≤ c1))) rfl rfl (fun hc3 => ?_) (fun hc3 => ?_)
        · replace h456 := cond_t hc3 h456
          refine O_read rfl (R_move rfl (P_some rfl (O_gY rfl rfl hc3 (O_read rfl (R_leqD rfl rfl (P_some rfl (O_gY rfl rfl hc2 (O_read rfl (R_pick_T rfl hc3 rfl (Pc rfl rfl (R_pick_F rfl hc2 rfl (Pc rfl rfl (R_assign rfl ?_)))))))))))))
          refine Pn rfl ?_
          have e_ := Option.some.inj h456
          subst e_
          exact ⟨(decide (c1 ≤ 90)), rfl, SubFr.of ⟨rfl, trivial⟩, SegSub.sel _ [] 0, rfl⟩
        replace h456 := cond_f hc3 h456
        refine P_some rfl (O_gN rfl rfl hc3 (P_some rfl (O_gY rfl rfl hc2 (O_read rfl (R_pick_F rfl hc3 rfl (Pc rfl rfl (R_pick_F rfl hc2 rfl (Pc rfl rfl (R_assign rfl (Pn rfl ?_))))))))))
        have e_ := Option.some.inj h456
        subst e_
        exact ⟨false, rfl, SubFr.of ⟨rfl, trivial⟩, SegSub.sel _ [] 0, rfl⟩
      replace h456 := cond_t hc2 h456
      refine P_some rfl (O_gN rfl rfl hc2 (P_some rfl (O_gN rfl rfl hc2 (P_some rfl (O_gu rfl rfl (P_some rfl (O_gu rfl rfl (P_some rfl (O_gN rfl rfl hc2 (Pc rfl rfl (R_pick_T rfl hc2 rfl (Pc rfl rfl (R_assign rfl ?_)))))))))))))
      refine Pn rfl ?_
      have e_ := Option.some.inj h456
      subst e_
      exact ⟨true, rfl, SubFr.of ⟨rfl, trivial⟩, SegSub.sel _ [] 0, rfl⟩
    replace h456 := cond_f hc1 h456
    refine P_some rfl (O_gN rfl rfl hc1 (Pc rfl rfl (R_pick_F rfl hc1 rfl (Pc rfl rfl (R_move rfl (P_some rfl (O_gY rfl rfl rfl (O_read rfl (R_move rfl (P_some rfl (O_gY rfl rfl rfl (O_read rfl (R_geqD rfl rfl ?_)))))))))))))
    refine P_some rfl (O_gY rfl rfl rfl (O_read rfl (R_move rfl (P_some rfl ?_))))
    refine O_gv (z := (decide (65 ≤ c1))) rfl rfl (fun hc4 => ?_) (fun hc4 => ?_)
    · replace h456 := cond_t hc4 h456
      refine O_read rfl (R_move rfl (P_some rfl (O_gY rfl rfl hc4 (O_read rfl (R_leqD rfl rfl (P_some rfl (O_gY rfl rfl rfl (O_read rfl (R_pick_T rfl hc4 rfl (Pc rfl rfl (R_pick_F rfl rfl rfl (Pc rfl rfl (R_assign rfl ?_)))))))))))))
      refine Pn rfl ?_
      have e_ := Option.some.inj h456
      subst e_
      exact ⟨(decide (c1 ≤ 90)), rfl, SubFr.of ⟨rfl, trivial⟩, SegSub.sel _ [] 0, rfl⟩
    replace h456 := cond_f hc4 h456
    refine P_some rfl (O_gN rfl rfl hc4 (P_some rfl (O_gY rfl rfl rfl (O_read rfl (R_pick_F rfl hc4 rfl (Pc rfl rfl (R_pick_F rfl rfl rfl (Pc rfl rfl (R_assign rfl (Pn rfl ?_))))))))))
    have e_ := Option.some.inj h456
    subst e_
    exact ⟨false, rfl, SubFr.of ⟨rfl, trivial⟩, SegSub.sel _ [] 0, rfl⟩
  rintro fr456 μ456 L456 hm456 ⟨v1, ho456, hF456, hS456, hu456⟩
  subst ho456
  subst hu456
  refine hK455 _ _ _ (WP.at hF456 hS456 (WP.ret ?_))
  have e_ := Option.some.inj h
  subst e_
  refine S_tmp rfl (S_nil (Upd.selS [] 0 ?_))
  exact Upd.done hR

theorem ident_Valid_fn {μ : Gh} {L : List Seg} {R : Value → Gh → List Seg → Prop} {F : Nat} {s1 : ByteArray}  {res1 : Bool}
     (h : ident_Valid F s1 = some res1)
    (hR : R (.bool res1) μ (L)) :
    Fn Try.prog 59 [.string s1] μ (L) R := by
  unfold ident_Valid at h
  refine Fn.of_body Tt_ok Try.func59 (by kernel_rfl) rfl Try.ntmps59 (by simp) ?_
  simp only [Try.f59, argFr, List.zipIdx, List.map, Nat.reduceAdd]
  refine WP.seq_k (fun K450 hK450 => Wr Tt_ok rfl (R_assign rfl (Pn rfl (hK450 _ _ _ (WP.seq_k (fun K451 hK451 => WP.seq_k (fun K452 hK452 => ?_)))))))
  obtain ⟨o453, h453, h⟩ := obind h
  refine WP.cutK (fun fr_ μ_ L_ => ∃ (v1 : Bool), v1 = o453 ∧ SubFr [(0, .string s1), (18, .bool v1)] fr_ ∧ SegSub (L) L_ ∧ μ = μ_) ?_ ?_
  · refine Wr Tt_ok rfl (R_move rfl (Pc rfl rfl (R_lenG rfl rfl rfl (Pc rfl rfl (R_lssD rfl rfl (Pc rfl rfl (R_move rfl (P_some rfl ?_))))))))
    refine O_gv (z := (decide (((s1.size : Nat) : Int) < 1))) rfl rfl (fun hc1 => ?_) (fun hc1 => ?_)
    · replace h453 := cond_f hc1 h453
      refine O_read rfl (R_move rfl (P_some rfl (O_gY rfl rfl hc1 (O_read rfl (R_lenG rfl rfl rfl (P_some rfl (O_gY rfl rfl hc1 (O_read rfl (R_gtrD rfl rfl (Pc rfl rfl (R_pick_F rfl hc1 rfl (Pc rfl rfl (R_move rfl ?_)))))))))))))
      apply P_some; exact rfl
      refine O_gv (z := (decide (32 < ((s1.size : Nat) : Int)))) rfl rfl (fun hc2 => ?_) (fun hc2 => ?_)
      · replace h453 := cond_f hc2 h453
        refine O_read rfl (R_move rfl (P_some rfl (O_gY rfl rfl hc2 ?_)))
        obtain ⟨x1, hb1, h453⟩ := obind h453
        refine O_read rfl (R_idxB Tt_ok rfl rfl rfl rfl hb1 (P_some rfl (O_gY rfl rfl hc2 (O_call (all := [.int .u8 x1]) rfl rfl rfl ?_))))
        obtain ⟨r1, hx1, h453⟩ := obind h453
        refine ident_letter_fn  hx1 ((P_some rfl (O_gY rfl rfl hc2 (O_read rfl (R_not rfl (Pc rfl rfl (R_pick_F rfl hc2 rfl (Pn rfl ?_))))))))
        have e_ := Option.some.inj h453
        subst e_
        exact ⟨!r1, rfl, SubFr.of ⟨rfl, rfl, trivial⟩, SegSub.sel _ [] 0, rfl⟩
      replace h453 := cond_t hc2 h453
      refine P_some rfl (O_gN rfl rfl hc2 (P_some rfl (O_gN rfl rfl hc2 (P_some rfl (O_gN rfl rfl hc2 (Pc rfl rfl (R_pick_T rfl hc2 rfl (Pn rfl ?_))))))))
      have e_ := Option.some.inj h453
      subst e_
      exact ⟨true, rfl, SubFr.of ⟨rfl, rfl, trivial⟩, SegSub.sel _ [] 0, rfl⟩
    replace h453 := cond_t hc1 h453
    refine P_some rfl (O_gN rfl rfl hc1 (P_some rfl (O_gN rfl rfl hc1 (Pc rfl rfl (R_pick_T rfl hc1 rfl (Pc rfl rfl (R_move rfl (P_some rfl (O_gN rfl rfl rfl (P_some rfl (O_gN rfl rfl rfl (P_some rfl (O_gN rfl rfl rfl ?_)))))))))))))
    refine P_some rfl (O_gN rfl rfl rfl (Pc rfl rfl (R_pick_T rfl rfl rfl (Pn rfl ?_))))
    have e_ := Option.some.inj h453
    subst e_
    exact ⟨true, rfl, SubFr.of ⟨rfl, rfl, trivial⟩, SegSub.sel _ [] 0, rfl⟩
  rintro fr453 μ453 L453 hm453 ⟨v1, ho453, hF453, hS453, hu453⟩
  subst ho453
  subst hu453
  refine hK452 _ _ _ (WP.at hF453 hS453 ?_)
  refine W_cond_v (b := v1) rfl (fun hc3 => ?_) (fun hc3 => ?_)
  · replace h := cond_t hc3 h
    refine WP.seq_k (fun K457 hK457 => Wr Tt_ok rfl (R_assign rfl (Pn rfl (hK457 _ _ _ (WP.ret ?_)))))
    have e_ := Option.some.inj h
    subst e_
    refine S_tmp rfl (S_nil (Upd.selS [] 0 ?_))
    exact Upd.done hR
  replace h := cond_f hc3 h
  refine WP.skip (hK451 _ _ _ (WP.seq_k (fun K458 hK458 => WP.seq_k (fun K459 hK459 => Wr Tt_ok rfl (R_assign rfl (Pn rfl (hK459 _ _ _ ?_)))))))
  obtain ⟨o460, h460, h⟩ := obind h
  refine WP.cutK (fun fr_ μ_ L_ => (.inl ()) = o460 ∧ SubFr [] fr_ ∧ SegSub (L) L_ ∧ μ = μ_) ?_ ?_
  · refine WP.block (WP.iter h460 (fun (i1 : Int) fr_ μ_ L_ => SubFr [(0, .string s1), (3, .int .i64 i1)] fr_ ∧ SegSub (L) L_ ∧ μ = μ_) ⟨SubFr.of ⟨rfl, rfl, trivial⟩, SegSub.sel _ [] 0, rfl⟩ ?_)
    rintro i1 q469 fr469 μ469 L469 hm469 ⟨hF469, hS469, hu469⟩ hb469 hq469
    unfold ident_Valid_l1 at hb469
    subst hu469
    refine WP.at hF469 hS469 (WP.seq_k (fun K470 hK470 => WP.seq_k (fun K471 hK471 => Wr Tt_ok rfl (R_move rfl (Pc rfl rfl (R_move rfl (Pc rfl rfl (R_lenG rfl rfl rfl (Pc rfl rfl ?_)))))))))
    refine R_lssD rfl rfl (Pn rfl (hK471 _ _ _ ?_))
    refine W_cond_v (b := (decide (i1 < ((s1.size : Nat) : Int)))) rfl (fun hc4 => ?_) (fun hc4 => ?_)
    · replace hb469 := cond_t hc4 hb469
      refine WP.skip (hK470 _ _ _ (WP.seq_k (fun K472 hK472 => WP.block (WP.seq_k (fun K473 hK473 => Wr Tt_ok rfl (R_move rfl (Pc rfl rfl (R_move rfl (P_some rfl (O_cons ?_))))))))))
      obtain ⟨x2, hb2, hb469⟩ := obind hb469
      refine O_read rfl (R_idxB Tt_ok rfl rfl rfl rfl hb2 (Pc rfl rfl (R_assign rfl (Pn rfl (hK473 _ _ _ (WP.seq_k (fun K474 hK474 => ?_)))))))
      obtain ⟨o475, h475, hb469⟩ := obind hb469
      refine WP.cutK (fun fr_ μ_ L_ => ∃ (v2 : Bool), v2 = o475 ∧ SubFr [(0, .string s1), (3, .int .i64 i1), (50, .bool v2)] fr_ ∧ SegSub (L) L_ ∧ μ = μ_) ?_ ?_
      · refine Wr Tt_ok rfl (R_move rfl (P_some rfl (O_cons (O_call (all := [.int .u8 x2]) rfl rfl rfl ?_))))
        obtain ⟨r2, hx2, h475⟩ := obind h475
        refine ident_letter_fn  hx2 ((Pc rfl rfl (R_not rfl (Pc rfl rfl (R_move rfl (P_some rfl ?_))))))
        refine O_gv (z := !r2) rfl rfl (fun hc5 => ?_) (fun hc5 => ?_)
        · replace h475 := cond_t hc5 h475
          refine O_read rfl (R_move rfl (P_some rfl (O_gY rfl rfl hc5 (O_read rfl (R_lssD rfl rfl (P_some rfl (O_gY rfl rfl hc5 (O_read rfl (R_move rfl (P_some rfl ?_))))))))))
          refine O_gv (z := (decide (x2 < 48))) rfl rfl (fun hc6 => ?_) (fun hc6 => ?_)
          · replace h475 := cond_f hc6 h475
            refine O_read rfl (R_move rfl (P_some rfl (O_gY rfl rfl hc6 (O_read rfl (R_gtrD rfl rfl (P_some rfl (O_gY rfl rfl hc5 (O_read rfl (R_pick_F rfl hc6 rfl (Pc rfl rfl (R_pick_T rfl hc5 rfl (Pc rfl rfl (R_move rfl ?_)))))))))))))
            apply P_some; exact rfl
            refine O_gv (z := (decide (57 < x2))) rfl rfl (fun hc7 => ?_) (fun hc7 => ?_)
            · replace h475 := cond_t hc7 h475
              refine O_read rfl (R_move rfl (P_some rfl (O_gY rfl rfl hc7 (O_read rfl (R_neqD rfl rfl (Pc rfl rfl (R_pick_T rfl hc7 rfl (Pc rfl rfl (R_move rfl (P_some rfl ?_))))))))))
              refine O_gv (z := !(decide (x2 = 45))) rfl rfl (fun hc8 => ?_) (fun hc8 => ?_)
              · replace h475 := cond_t hc8 h475
                refine O_read rfl (R_move rfl (P_some rfl (O_gY rfl rfl hc8 (O_read rfl (R_neqD rfl rfl (Pc rfl rfl (R_pick_T rfl hc8 rfl (Pc rfl rfl (R_move rfl (P_some rfl ?_))))))))))
                refine O_gv (z := !(decide (x2 = 95))) rfl rfl (fun hc9 => ?_) (fun hc9 => ?_)
                · replace h475 := cond_t hc9 h475
                  refine O_read rfl (R_move rfl (P_some rfl (O_gY rfl rfl hc9 (O_read rfl (R_neqD rfl rfl (Pc rfl rfl (R_pick_T rfl hc9 rfl (Pn rfl ?_))))))))
                  have e_ := Option.some.inj h475
                  subst e_
                  exact ⟨!(decide (x2 = 46)), rfl, SubFr.of ⟨rfl, rfl, rfl, trivial⟩, SegSub.sel _ [] 0, rfl⟩
                replace h475 := cond_f hc9 h475
                refine P_some rfl (O_gN rfl rfl hc9 (Pc rfl rfl (R_pick_F rfl hc9 rfl (Pn rfl ?_))))
                have e_ := Option.some.inj h475
                subst e_
                exact ⟨false, rfl, SubFr.of ⟨rfl, rfl, rfl, trivial⟩, SegSub.sel _ [] 0, rfl⟩
              replace h475 := cond_f hc8 h475
              refine P_some rfl (O_gN rfl rfl hc8 (Pc rfl rfl (R_pick_F rfl hc8 rfl (Pc rfl rfl (R_move rfl (P_some rfl (O_gN rfl rfl rfl (P_some rfl (O_gN rfl rfl rfl (Pc rfl rfl (R_pick_F rfl rfl rfl ?_)))))))))))
              refine Pn rfl ?_
              have e_ := Option.some.inj h475
              subst e_
              exact ⟨false, rfl, SubFr.of ⟨rfl, rfl, rfl, trivial⟩, SegSub.sel _ [] 0, rfl⟩
            replace h475 := cond_f hc7 h475
            refine P_some rfl (O_gN rfl rfl hc7 (Pc rfl rfl (R_pick_F rfl hc7 rfl (Pc rfl rfl (R_move rfl (P_some rfl (O_gN rfl rfl rfl (P_some rfl (O_gN rfl rfl rfl (Pc rfl rfl (R_pick_F rfl rfl rfl ?_)))))))))))
            refine Pc rfl rfl (R_move rfl (P_some rfl (O_gN rfl rfl rfl (P_some rfl (O_gN rfl rfl rfl (Pc rfl rfl (R_pick_F rfl rfl rfl (Pn rfl ?_))))))))
            have e_ := Option.some.inj h475
            subst e_
            exact ⟨false, rfl, SubFr.of ⟨rfl, rfl, rfl, trivial⟩, SegSub.sel _ [] 0, rfl⟩
          replace h475 := cond_t hc6 h475
          refine P_some rfl (O_gN rfl rfl hc6 (P_some rfl (O_gY rfl rfl hc5 (O_read rfl (R_pick_T rfl hc6 rfl (Pc rfl rfl (R_pick_T rfl hc5 rfl (Pc rfl rfl (R_move rfl (P_some rfl (O_gY rfl rfl rfl (O_read rfl (R_move rfl ?_)))))))))))))
          refine P_some rfl (O_gY rfl rfl rfl (O_read rfl (R_neqD rfl rfl (Pc rfl rfl (R_pick_T rfl rfl rfl (Pc rfl rfl (R_move rfl (P_some rfl ?_))))))))
          refine O_gv (z := !(decide (x2 = 45))) rfl rfl (fun hc10 => ?_) (fun hc10 => ?_)
          · replace h475 := cond_t hc10 h475
            refine O_read rfl (R_move rfl (P_some rfl (O_gY rfl rfl hc10 (O_read rfl (R_neqD rfl rfl (Pc rfl rfl (R_pick_T rfl hc10 rfl (Pc rfl rfl (R_move rfl (P_some rfl ?_))))))))))
            refine O_gv (z := !(decide (x2 = 95))) rfl rfl (fun hc11 => ?_) (fun hc11 => ?_)
            · replace h475 := cond_t hc11 h475
              refine O_read rfl (R_move rfl (P_some rfl (O_gY rfl rfl hc11 (O_read rfl (R_neqD rfl rfl (Pc rfl rfl (R_pick_T rfl hc11 rfl (Pn rfl ?_))))))))
              have e_ := Option.some.inj h475
              subst e_
              exact ⟨!(decide (x2 = 46)), rfl, SubFr.of ⟨rfl, rfl, rfl, trivial⟩, SegSub.sel _ [] 0, rfl⟩
            replace h475 := cond_f hc11 h475
            refine P_some rfl (O_gN rfl rfl hc11 (Pc rfl rfl (R_pick_F rfl hc11 rfl (Pn rfl ?_))))
            have e_ := Option.some.inj h475
            subst e_
            exact ⟨false, rfl, SubFr.of ⟨rfl, rfl, rfl, trivial⟩, SegSub.sel _ [] 0, rfl⟩
          replace h475 := cond_f hc10 h475
          refine P_some rfl (O_gN rfl rfl hc10 (Pc rfl rfl (R_pick_F rfl hc10 rfl (Pc rfl rfl (R_move rfl (P_some rfl (O_gN rfl rfl rfl (P_some rfl (O_gN rfl rfl rfl (Pc rfl rfl (R_pick_F rfl rfl rfl ?_)))))))))))
          refine Pn rfl ?_
          have e_ := Option.some.inj h475
          subst e_
          exact ⟨false, rfl, SubFr.of ⟨rfl, rfl, rfl, trivial⟩, SegSub.sel _ [] 0, rfl⟩
        replace h475 := cond_f hc5 h475
        refine P_some rfl (O_gN rfl rfl hc5 (P_some rfl (O_gN rfl rfl hc5 (P_some rfl (O_gu rfl rfl (P_some rfl (O_gu rfl rfl (P_some rfl (O_gN rfl rfl hc5 (Pc rfl rfl (R_pick_F rfl hc5 rfl (Pc rfl rfl (R_move rfl ?_)))))))))))))
        refine P_some rfl (O_gN rfl rfl rfl (P_some rfl (O_gN rfl rfl rfl (Pc rfl rfl (R_pick_F rfl rfl rfl (Pc rfl rfl (R_move rfl (P_some rfl (O_gN rfl rfl rfl (P_some rfl (O_gN rfl rfl rfl (P_some rfl (O_cons ?_)))))))))))))
        refine O_read rfl (R_pick_F rfl rfl rfl (Pc rfl rfl (R_move rfl (P_some rfl (O_gN rfl rfl rfl (P_some rfl (O_gN rfl rfl rfl (Pc rfl rfl (R_pick_F rfl rfl rfl (Pn rfl ?_))))))))))
        have e_ := Option.some.inj h475
        subst e_
        exact ⟨false, rfl, SubFr.of ⟨rfl, rfl, rfl, trivial⟩, SegSub.sel _ [] 0, rfl⟩
      rintro fr475 μ475 L475 hm475 ⟨v2, ho475, hF475, hS475, hu475⟩
      subst ho475
      subst hu475
      refine hK474 _ _ _ (WP.at hF475 hS475 ?_)
      refine W_cond_v (b := v2) rfl (fun hc12 => ?_) (fun hc12 => ?_)
      · replace hb469 := cond_t hc12 hb469
        refine WP.seq_k (fun K476 hK476 => Wr Tt_ok rfl (R_assign rfl (Pn rfl (hK476 _ _ _ (WP.ret ?_)))))
        have e_ := Option.some.inj hb469
        subst e_
        have hq_ := hq469 _ rfl
        subst hq_
        replace h := osum_r h
        have e_ := Option.some.inj h
        subst e_
        refine S_tmp rfl (S_nil (Upd.selS [] 0 ?_))
        exact Upd.done hR
      replace hb469 := cond_f hc12 hb469
      refine WP.skip (hK472 _ _ _ (Wr Tt_ok rfl (R_move rfl (Pc rfl rfl (R_add rfl rfl (Pc rfl rfl (R_assign rfl (Pn rfl ?_))))))))
      have e_ := Option.some.inj hb469
      subst e_
      exact ⟨_, rfl, SubFr.of ⟨rfl, rfl, trivial⟩, SegSub.sel _ [] 0, rfl⟩
    replace hb469 := cond_f hc4 hb469
    refine WP.exit (B_here ?_)
    have e_ := Option.some.inj hb469
    subst e_
    have hq_ := hq469 _ rfl
    subst hq_
    exact ⟨rfl, SubFr.of trivial, SegSub.sel _ [] 0, rfl⟩
  rintro fr460 μ460 L460 hm460 ⟨ho460, hF460, hS460, hu460⟩
  subst ho460
  replace h := osum_l h
  subst hu460
  refine hK458 _ _ _ (WP.at hF460 hS460 (WP.seq_k (fun K477 hK477 => Wr Tt_ok rfl (R_assign rfl (Pn rfl (hK477 _ _ _ (WP.ret ?_)))))))
  have e_ := Option.some.inj h
  subst e_
  refine S_tmp rfl (S_nil (Upd.selS [] 0 ?_))
  exact Upd.done hR

theorem vehicle_fault_fn {μ : Gh} {L : List Seg} {R : Value → Gh → List Seg → Prop} {F : Nat} {v1 : T_api_Vehicle} {nodes1 : Int} {materials1 : Int}  {res1 : Int}
     (h : vehicle_fault F v1 nodes1 materials1 = some res1)
    (hR : R (.int .i64 res1) μ (L)) :
    Fn Try.prog 43 [.agg #[.string v1.ID, .int .i64 v1.Depot, .int .i64 v1.Shift.From, .int .i64 v1.Shift.To, .int .i64 v1.Grams, .int .i64 v1.Kinds], .int .i64 nodes1, .int .i64 materials1] μ (L) R := by
  unfold vehicle_fault at h
  refine Fn.of_body Tt_ok Try.func43 (by kernel_rfl) rfl Try.ntmps43 (by simp) ?_
  simp only [Try.f43, argFr, List.zipIdx, List.map, Nat.reduceAdd]
  refine WP.seq_k (fun K446 hK446 => WP.region Tt_ok (O_cons (O_box (cs := #[.string v1.ID, .int .i64 v1.Depot, .int .i64 v1.Shift.From, .int .i64 v1.Shift.To, .int .i64 v1.Grams, .int .i64 v1.Kinds]) rfl rfl (fun g1 => Pc rfl rfl (R_assign rfl (Pn rfl (hK446 _ _ _ (WP.seq_k (fun K448 hK448 => WP.block (WP.seq_k (fun K449 hK449 => Wr Tt_ok rfl (R_fa0 (o' := 0) rfl rfl rfl rfl rfl rfl ?_))))))))))))
  refine Pc rfl rfl (R_load rfl rfl rfl (Ex.mk _ (Cell.seg 0 0 rfl rfl rfl) (P_some rfl (O_cons (O_call (all := [.string v1.ID]) rfl rfl rfl ?_)))))
  obtain ⟨r1, hx1, h⟩ := obind h
  refine ident_Valid_fn  hx1 ((Pc rfl rfl (R_not rfl (Pc rfl rfl (R_assign rfl (Pn rfl (hK449 _ _ _ ?_)))))))
  refine W_cond_v (b := !r1) rfl (fun hc1 => ?_) (fun hc1 => ?_)
  · replace h := cond_t hc1 h
    refine WP.seq_k (fun K478 hK478 => Wr Tt_ok rfl (R_assign rfl (Pn rfl (hK478 _ _ _ (WP.ret ?_)))))
    have e_ := Option.some.inj h
    subst e_
    refine S_tmp rfl (S_nil (Upd.selS [] 1 ?_))
    exact Upd.done hR
  replace h := cond_f hc1 h
  refine WP.seq_k ?_; intro K479 hK479
  obtain ⟨o480, h480, h⟩ := obind h
  refine WP.cutK (fun fr_ μ_ L_ => ∃ (v2 : Bool), v2 = o480 ∧ SubFr [(2, .int .i64 materials1), (3, .pointer (some ⟨g1, 0, none⟩)), (12, .bool v2)] fr_ ∧ SegSub ([(g1, .cells #[.string v1.ID, .int .i64 v1.Depot, .int .i64 v1.Shift.From, .int .i64 v1.Shift.To, .int .i64 v1.Grams, .int .i64 v1.Kinds] 46 (0, 0))] :: L) L_ ∧ μ = μ_) ?_ ?_
  · refine Wr Tt_ok rfl (R_fa0 (o' := 1) rfl rfl rfl rfl rfl rfl (Pc rfl rfl (R_load rfl rfl rfl (Ex.mk _ (Cell.seg 0 0 rfl rfl rfl) (Pc rfl rfl (R_lssD rfl rfl (Pc rfl rfl (R_move rfl (P_some rfl ?_)))))))))
    refine O_gv (z := (decide (v1.Depot < 0))) rfl rfl (fun hc2 => ?_) (fun hc2 => ?_)
    · replace h480 := cond_f hc2 h480
      refine O_read rfl (R_fa0 (o' := 1) rfl rfl rfl rfl rfl rfl (P_some rfl (O_gY rfl rfl hc2 (O_read rfl (R_load rfl rfl rfl (Ex.mk _ (Cell.seg 0 0 rfl rfl rfl) (P_some rfl (O_gY rfl rfl hc2 (O_read rfl (R_move rfl (P_some rfl (O_gY rfl rfl hc2 (O_read rfl (R_geqD rfl rfl (Pc rfl rfl ?_)))))))))))))))
      refine R_pick_F rfl hc2 rfl (Pc rfl rfl (R_assign rfl (Pn rfl ?_)))
      have e_ := Option.some.inj h480
      subst e_
      exact ⟨(decide (nodes1 ≤ v1.Depot)), rfl, SubFr.of ⟨rfl, rfl, rfl, trivial⟩, SegSub.sel _ [some 0] 1, rfl⟩
    replace h480 := cond_t hc2 h480
    refine P_some rfl (O_gN rfl rfl hc2 (P_some rfl (O_gN rfl rfl hc2 (P_some rfl (O_gN rfl rfl hc2 (Pc rfl rfl (R_pick_T rfl hc2 rfl (Pc rfl rfl (R_assign rfl (Pn rfl ?_))))))))))
    have e_ := Option.some.inj h480
    subst e_
    exact ⟨true, rfl, SubFr.of ⟨rfl, rfl, rfl, trivial⟩, SegSub.sel _ [some 0] 1, rfl⟩
  rintro fr480 μ480 L480 hm480 ⟨v2, ho480, hF480, hS480, hu480⟩
  subst ho480
  subst hu480
  refine hK479 _ _ _ (WP.at hF480 hS480 ?_)
  refine W_cond_v (b := v2) rfl (fun hc3 => ?_) (fun hc3 => ?_)
  · replace h := cond_t hc3 h
    refine WP.seq_k (fun K483 hK483 => Wr Tt_ok rfl (R_assign rfl (Pn rfl (hK483 _ _ _ (WP.ret ?_)))))
    have e_ := Option.some.inj h
    subst e_
    refine S_tmp rfl (S_nil (Upd.selS [] 1 ?_))
    exact Upd.done hR
  replace h := cond_f hc3 h
  refine WP.seq_k ?_; intro K484 hK484
  obtain ⟨o485, h485, h⟩ := obind h
  refine WP.cutK (fun fr_ μ_ L_ => ∃ (v3 : Bool), v3 = o485 ∧ SubFr [(2, .int .i64 materials1), (3, .pointer (some ⟨g1, 0, none⟩)), (22, .bool v3)] fr_ ∧ SegSub ([(g1, .cells #[.string v1.ID, .int .i64 v1.Depot, .int .i64 v1.Shift.From, .int .i64 v1.Shift.To, .int .i64 v1.Grams, .int .i64 v1.Kinds] 46 (0, 0))] :: L) L_ ∧ μ = μ_) ?_ ?_
  · refine Wr Tt_ok rfl (R_fa0 (o' := 2) rfl rfl rfl rfl rfl rfl (Pc rfl rfl (R_fa0 (o' := 2) rfl rfl rfl rfl rfl rfl (Pc rfl rfl (R_load rfl rfl rfl (Ex.mk _ (Cell.seg 0 0 rfl rfl rfl) (Pc rfl rfl (R_lssD rfl rfl (P_some rfl ?_)))))))))
    refine O_cons (O_read rfl (R_move rfl (P_some rfl ?_)))
    refine O_gv (z := (decide (v1.Shift.From < 0))) rfl rfl (fun hc4 => ?_) (fun hc4 => ?_)
    · replace h485 := cond_f hc4 h485
      refine O_read rfl (R_fa0 (o' := 2) rfl rfl rfl rfl rfl rfl (P_some rfl (O_gY rfl rfl hc4 (O_read rfl (R_fa0 (o' := 2) rfl rfl rfl rfl rfl rfl (P_some rfl (O_gY rfl rfl hc4 (O_read rfl (R_load rfl rfl rfl (Ex.mk _ (Cell.seg 0 0 rfl rfl rfl) (P_some rfl (O_gY rfl rfl hc4 (O_read rfl (R_fa0 (o' := 2) rfl rfl rfl rfl rfl rfl (P_some rfl (O_gY rfl rfl hc4 (O_read rfl ?_)))))))))))))))))
      refine R_fa0 (o' := 3) rfl rfl rfl rfl rfl rfl (P_some rfl (O_gY rfl rfl hc4 (O_read rfl (R_load rfl rfl rfl (Ex.mk _ (Cell.seg 0 0 rfl rfl rfl) (P_some rfl (O_gY rfl rfl hc4 (O_read rfl (R_geqD rfl rfl (Pc rfl rfl (R_pick_F rfl hc4 rfl (Pc rfl rfl (R_move rfl ?_)))))))))))))
      apply P_some; exact rfl
      refine O_gv (z := (decide (v1.Shift.To ≤ v1.Shift.From))) rfl rfl (fun hc5 => ?_) (fun hc5 => ?_)
      · replace h485 := cond_f hc5 h485
        refine O_read rfl (R_fa0 (o' := 2) rfl rfl rfl rfl rfl rfl (P_some rfl (O_gY rfl rfl hc5 (O_read rfl (R_fa0 (o' := 3) rfl rfl rfl rfl rfl rfl (P_some rfl (O_gY rfl rfl hc5 (O_read rfl (R_load rfl rfl rfl (Ex.mk _ (Cell.seg 0 0 rfl rfl rfl) (P_some rfl (O_gY rfl rfl hc5 (O_read rfl (R_gtrD rfl rfl (Pc rfl rfl ?_)))))))))))))))
        refine R_pick_F rfl hc5 rfl (Pc rfl rfl (R_assign rfl (Pn rfl ?_)))
        have e_ := Option.some.inj h485
        subst e_
        exact ⟨(decide (86400 < v1.Shift.To)), rfl, SubFr.of ⟨rfl, rfl, rfl, trivial⟩, SegSub.sel _ [some 0] 1, rfl⟩
      replace h485 := cond_t hc5 h485
      refine P_some rfl (O_gN rfl rfl hc5 (P_some rfl (O_gN rfl rfl hc5 (P_some rfl (O_gN rfl rfl hc5 (Pc rfl rfl (R_pick_T rfl hc5 rfl (Pc rfl rfl (R_assign rfl (Pn rfl ?_))))))))))
      have e_ := Option.some.inj h485
      subst e_
      exact ⟨true, rfl, SubFr.of ⟨rfl, rfl, rfl, trivial⟩, SegSub.sel _ [some 0] 1, rfl⟩
    replace h485 := cond_t hc4 h485
    refine P_some rfl (O_gN rfl rfl hc4 (P_some rfl (O_gN rfl rfl hc4 (P_some rfl (O_gN rfl rfl hc4 (P_some rfl (O_gN rfl rfl hc4 (P_some rfl (O_gN rfl rfl hc4 (P_some rfl (O_gN rfl rfl hc4 (Pc rfl rfl (R_pick_T rfl hc4 rfl (P_some rfl (O_cons ?_)))))))))))))))
    refine O_read rfl (R_move rfl (P_some rfl (O_gN rfl rfl rfl (P_some rfl (O_gN rfl rfl rfl (P_some rfl (O_gN rfl rfl rfl (P_some rfl (O_gN rfl rfl rfl (Pc rfl rfl (R_pick_T rfl rfl rfl (Pc rfl rfl (R_assign rfl ?_)))))))))))))
    refine Pn rfl ?_
    have e_ := Option.some.inj h485
    subst e_
    exact ⟨true, rfl, SubFr.of ⟨rfl, rfl, rfl, trivial⟩, SegSub.sel _ [some 0] 1, rfl⟩
  rintro fr485 μ485 L485 hm485 ⟨v3, ho485, hF485, hS485, hu485⟩
  subst ho485
  subst hu485
  refine hK484 _ _ _ (WP.at hF485 hS485 ?_)
  refine W_cond_v (b := v3) rfl (fun hc6 => ?_) (fun hc6 => ?_)
  · replace h := cond_t hc6 h
    refine WP.seq_k (fun K488 hK488 => Wr Tt_ok rfl (R_assign rfl (Pn rfl (hK488 _ _ _ (WP.ret ?_)))))
    have e_ := Option.some.inj h
    subst e_
    refine S_tmp rfl (S_nil (Upd.selS [] 1 ?_))
    exact Upd.done hR
  replace h := cond_f hc6 h
  refine WP.seq_k ?_; intro K489 hK489
  obtain ⟨o490, h490, h⟩ := obind h
  refine WP.cutK (fun fr_ μ_ L_ => ∃ (v4 : Bool), v4 = o490 ∧ SubFr [(2, .int .i64 materials1), (3, .pointer (some ⟨g1, 0, none⟩)), (42, .bool v4)] fr_ ∧ SegSub ([(g1, .cells #[.string v1.ID, .int .i64 v1.Depot, .int .i64 v1.Shift.From, .int .i64 v1.Shift.To, .int .i64 v1.Grams, .int .i64 v1.Kinds] 46 (0, 0))] :: L) L_ ∧ μ = μ_) ?_ ?_
  · refine Wr Tt_ok rfl (R_fa0 (o' := 4) rfl rfl rfl rfl rfl rfl (Pc rfl rfl (R_load rfl rfl rfl (Ex.mk _ (Cell.seg 0 0 rfl rfl rfl) (Pc rfl rfl (R_lssD rfl rfl (Pc rfl rfl (R_move rfl (P_some rfl ?_)))))))))
    refine O_gv (z := (decide (v1.Grams < 1))) rfl rfl (fun hc7 => ?_) (fun hc7 => ?_)
    · replace h490 := cond_f hc7 h490
      refine O_read rfl (R_fa0 (o' := 4) rfl rfl rfl rfl rfl rfl (P_some rfl (O_gY rfl rfl hc7 (O_read rfl (R_load rfl rfl rfl (Ex.mk _ (Cell.seg 0 0 rfl rfl rfl) (P_some rfl (O_gY rfl rfl hc7 (O_read rfl (R_gtrD rfl rfl (Pc rfl rfl (R_pick_F rfl hc7 rfl (Pc rfl rfl ?_)))))))))))))
      refine R_assign rfl (Pn rfl ?_)
      have e_ := Option.some.inj h490
      subst e_
      exact ⟨(decide (1073741824 < v1.Grams)), rfl, SubFr.of ⟨rfl, rfl, rfl, trivial⟩, SegSub.sel _ [some 0] 1, rfl⟩
    replace h490 := cond_t hc7 h490
    refine P_some rfl (O_gN rfl rfl hc7 (P_some rfl (O_gN rfl rfl hc7 (Pc rfl rfl (R_pick_T rfl hc7 rfl (Pc rfl rfl (R_assign rfl (Pn rfl ?_))))))))
    have e_ := Option.some.inj h490
    subst e_
    exact ⟨true, rfl, SubFr.of ⟨rfl, rfl, rfl, trivial⟩, SegSub.sel _ [some 0] 1, rfl⟩
  rintro fr490 μ490 L490 hm490 ⟨v4, ho490, hF490, hS490, hu490⟩
  subst ho490
  subst hu490
  refine hK489 _ _ _ (WP.at hF490 hS490 ?_)
  refine W_cond_v (b := v4) rfl (fun hc8 => ?_) (fun hc8 => ?_)
  · replace h := cond_t hc8 h
    refine WP.seq_k (fun K493 hK493 => Wr Tt_ok rfl (R_assign rfl (Pn rfl (hK493 _ _ _ (WP.ret ?_)))))
    have e_ := Option.some.inj h
    subst e_
    refine S_tmp rfl (S_nil (Upd.selS [] 1 ?_))
    exact Upd.done hR
  replace h := cond_f hc8 h
  refine WP.seq_k ?_; intro K494 hK494
  obtain ⟨o495, h495, h⟩ := obind h
  refine WP.cutK (fun fr_ μ_ L_ => ∃ (v5 : Bool), v5 = o495 ∧ SubFr [(51, .bool v5)] fr_ ∧ SegSub (L) L_ ∧ μ = μ_) ?_ ?_
  · refine WP.drawn (id := 9) (l' := List.replicate 11 true) wide Tt_ok _ Kept.refl [(true, 0), (true, 1), (true, 2), (true, 3), (true, 4), (true, 5), (true, 6), (true, 7), (true, 8), (true, 9), (true, 10)] (by kernel_rfl) (by kernel_rfl) rfl (PL_t rfl (R_fa0 (o' := 5) rfl rfl rfl rfl rfl rfl (Pt rfl rfl (R_load rfl rfl rfl (Ex.mk _ (Cell.seg 0 0 rfl rfl rfl) (Pt rfl rfl (R_lssD rfl rfl (Pt rfl rfl (R_move rfl (P_some rfl ?_))))))))))
    refine PL_tv (z := (decide (v1.Kinds < 1))) rfl rfl rfl (fun hc9 => ?_) (fun hc9 => ?_)
    · replace h495 := cond_f hc9 h495
      refine R_fa0 (o' := 5) rfl rfl rfl rfl rfl rfl (P_some rfl (PL_tY rfl rfl rfl hc9 (R_load rfl rfl rfl (Ex.mk _ (Cell.seg 0 0 rfl rfl rfl) (P_some rfl (PL_tY rfl rfl rfl hc9 (R_move rfl (P_some rfl (PL_tY rfl rfl rfl hc9 ?_)))))))))
      obtain ⟨u1, hg1, h495⟩ := obind h495
      refine R_shlD rfl rfl rfl (guardO_some hg1) (P_some rfl (PL_tY rfl rfl rfl hc9 (R_geqD rfl rfl (Pt rfl rfl (R_pick_F rfl hc9 rfl (Pt rfl rfl (R_assign rfl (P_some rfl (PL_nil (AN.done0 (by kernel_rfl) ?_))))))))))
      have e_ := Option.some.inj h495
      subst e_
      exact ⟨(decide ((w64 (1 * 2 ^ materials1.toNat)) ≤ v1.Kinds)), rfl, SubFr.of ⟨rfl, trivial⟩, SegSub.sel _ [] 1, rfl⟩
    replace h495 := cond_t hc9 h495
    refine P_some rfl (PL_tN rfl rfl rfl hc9 (P_some rfl (PL_tN rfl rfl rfl hc9 (P_some rfl (PL_tN rfl rfl rfl hc9 (P_some rfl (PL_tN rfl rfl rfl hc9 (Pt rfl rfl (R_pick_T rfl hc9 rfl (Pt rfl rfl (R_assign rfl (P_some rfl (PL_nil (AN.done0 (by kernel_rfl) ?_))))))))))))))
    have e_ := Option.some.inj h495
    subst e_
    exact ⟨true, rfl, SubFr.of ⟨rfl, trivial⟩, SegSub.sel _ [] 1, rfl⟩
  rintro fr495 μ495 L495 hm495 ⟨v5, ho495, hF495, hS495, hu495⟩
  subst ho495
  subst hu495
  refine hK494 _ _ _ (WP.at hF495 hS495 ?_)
  refine W_cond_v (b := v5) rfl (fun hc10 => ?_) (fun hc10 => ?_)
  · replace h := cond_t hc10 h
    refine WP.seq_k (fun K496 hK496 => Wr Tt_ok rfl (R_assign rfl (Pn rfl (hK496 _ _ _ (WP.ret ?_)))))
    have e_ := Option.some.inj h
    subst e_
    refine S_tmp rfl (S_nil (Upd.selS [] 0 ?_))
    exact Upd.done hR
  replace h := cond_f hc10 h
  refine WP.skip (hK448 _ _ _ (WP.seq_k (fun K497 hK497 => Wr Tt_ok rfl (R_assign rfl (Pn rfl (hK497 _ _ _ (WP.ret ?_)))))))
  have e_ := Option.some.inj h
  subst e_
  refine S_tmp rfl (S_nil (Upd.selS [] 0 ?_))
  exact Upd.done hR

theorem vehicle_Check_fn {μ : Gh} {L : List Seg} {R : Value → Gh → List Seg → Prop} {F : Nat} {l1 : (List T_api_Vehicle)} {nodes1 : Int} {materials1 : Int} {A1 : Option Addr} {c1 : Nat} {res1 : Int}
    (hl1 : l1.length ≤ c1 ∧ c1 ≤ maxLen) (hA1 : Rds r_api_Vehicle μ L A1 l1) (h : vehicle_Check F l1 nodes1 materials1 = some res1)
    (hR : R (.int .i64 res1) μ (L)) :
    Fn Try.prog 29 [.slice A1 l1.length c1, .int .i64 nodes1, .int .i64 materials1] μ (L) R := by
  unfold vehicle_Check at h
  refine Fn.of_body Tt_ok Try.func29 (by kernel_rfl) rfl Try.ntmps29 (by simp) ?_
  simp only [Try.f29, argFr, List.zipIdx, List.map, Nat.reduceAdd]
  refine WP.seq_k (fun K424 hK424 => Wr Tt_ok rfl (R_assign rfl (Pn rfl (hK424 _ _ _ (WP.seq_k (fun K425 hK425 => WP.seq_k (fun K426 hK426 => ?_)))))))
  obtain ⟨o427, h427, h⟩ := obind h
  refine WP.cutK (fun fr_ μ_ L_ => ∃ (v1 : Bool), v1 = o427 ∧ SubFr [(0, .slice A1 l1.length c1), (1, .int .i64 nodes1), (2, .int .i64 materials1), (26, .bool v1)] fr_ ∧ SegSub (L) L_ ∧ μ = μ_) ?_ ?_
  · refine Wr Tt_ok rfl (R_move rfl (Pc rfl rfl (R_lssD rfl rfl (Pc rfl rfl (R_move rfl (P_some rfl ?_))))))
    refine O_gv (z := (decide (nodes1 < 1))) rfl rfl (fun hc1 => ?_) (fun hc1 => ?_)
    · replace h427 := cond_f hc1 h427
      refine O_read rfl (R_move rfl (P_some rfl (O_gY rfl rfl hc1 (O_read rfl (R_gtrD rfl rfl (Pc rfl rfl (R_pick_F rfl hc1 rfl (Pc rfl rfl (R_move rfl (P_some rfl ?_))))))))))
      refine O_gv (z := (decide (64 < nodes1))) rfl rfl (fun hc2 => ?_) (fun hc2 => ?_)
      · replace h427 := cond_f hc2 h427
        refine O_read rfl (R_move rfl (P_some rfl (O_gY rfl rfl hc2 (O_read rfl (R_lssD rfl rfl (Pc rfl rfl (R_pick_F rfl hc2 rfl (Pc rfl rfl (R_move rfl (P_some rfl ?_))))))))))
        refine O_gv (z := (decide (materials1 < 1))) rfl rfl (fun hc3 => ?_) (fun hc3 => ?_)
        · replace h427 := cond_f hc3 h427
          refine O_read rfl (R_move rfl (P_some rfl (O_gY rfl rfl hc3 (O_read rfl (R_gtrD rfl rfl (Pc rfl rfl (R_pick_F rfl hc3 rfl (Pn rfl ?_))))))))
          have e_ := Option.some.inj h427
          subst e_
          exact ⟨(decide (16 < materials1)), rfl, SubFr.of ⟨rfl, rfl, rfl, rfl, trivial⟩, SegSub.sel _ [] 0, rfl⟩
        replace h427 := cond_t hc3 h427
        refine P_some rfl (O_gN rfl rfl hc3 (Pc rfl rfl (R_pick_T rfl hc3 rfl (Pn rfl ?_))))
        have e_ := Option.some.inj h427
        subst e_
        exact ⟨true, rfl, SubFr.of ⟨rfl, rfl, rfl, rfl, trivial⟩, SegSub.sel _ [] 0, rfl⟩
      replace h427 := cond_t hc2 h427
      refine P_some rfl (O_gN rfl rfl hc2 (Pc rfl rfl (R_pick_T rfl hc2 rfl (Pc rfl rfl (R_move rfl (P_some rfl (O_gN rfl rfl rfl (P_some rfl (O_gN rfl rfl rfl (Pc rfl rfl (R_pick_T rfl rfl rfl ?_)))))))))))
      refine Pn rfl ?_
      have e_ := Option.some.inj h427
      subst e_
      exact ⟨true, rfl, SubFr.of ⟨rfl, rfl, rfl, rfl, trivial⟩, SegSub.sel _ [] 0, rfl⟩
    replace h427 := cond_t hc1 h427
    refine P_some rfl (O_gN rfl rfl hc1 (Pc rfl rfl (R_pick_T rfl hc1 rfl (Pc rfl rfl (R_move rfl (P_some rfl (O_gN rfl rfl rfl (P_some rfl (O_gN rfl rfl rfl (Pc rfl rfl (R_pick_T rfl rfl rfl ?_)))))))))))
    refine Pc rfl rfl (R_move rfl (P_some rfl (O_gN rfl rfl rfl (P_some rfl (O_gN rfl rfl rfl (Pc rfl rfl (R_pick_T rfl rfl rfl (Pn rfl ?_))))))))
    have e_ := Option.some.inj h427
    subst e_
    exact ⟨true, rfl, SubFr.of ⟨rfl, rfl, rfl, rfl, trivial⟩, SegSub.sel _ [] 0, rfl⟩
  rintro fr427 μ427 L427 hm427 ⟨v1, ho427, hF427, hS427, hu427⟩
  subst ho427
  subst hu427
  refine hK426 _ _ _ (WP.at hF427 hS427 ?_)
  refine W_cond_v (b := v1) rfl (fun hc4 => ?_) (fun hc4 => ?_)
  · replace h := cond_t hc4 h
    refine WP.seq_k (fun K428 hK428 => Wr Tt_ok rfl (R_assign rfl (Pn rfl (hK428 _ _ _ (WP.ret ?_)))))
    have e_ := Option.some.inj h
    subst e_
    refine S_tmp rfl (S_nil (Upd.selS [] 0 ?_))
    exact Upd.done hR
  replace h := cond_f hc4 h
  refine WP.skip (hK425 _ _ _ (WP.seq_k (fun K429 hK429 => WP.seq_k (fun K430 hK430 => Wr Tt_ok rfl (R_move rfl (Pc rfl rfl (R_lenS rfl rfl rfl (Pc rfl rfl (R_eqlD rfl rfl (Pn rfl ?_))))))))))
  refine hK430 _ _ _ ?_
  refine W_cond_v (b := (decide (((l1.length : Nat) : Int) = 0))) rfl (fun hc5 => ?_) (fun hc5 => ?_)
  · replace h := cond_t hc5 h
    refine WP.seq_k (fun K431 hK431 => Wr Tt_ok rfl (R_assign rfl (Pn rfl (hK431 _ _ _ (WP.ret ?_)))))
    have e_ := Option.some.inj h
    subst e_
    refine S_tmp rfl (S_nil (Upd.selS [] 0 ?_))
    exact Upd.done hR
  replace h := cond_f hc5 h
  refine WP.skip (hK429 _ _ _ (WP.seq_k (fun K432 hK432 => WP.seq_k (fun K433 hK433 => Wr Tt_ok rfl (R_move rfl (Pc rfl rfl (R_lenS rfl rfl rfl (Pc rfl rfl (R_gtrD rfl rfl (Pn rfl ?_))))))))))
  refine hK433 _ _ _ ?_
  refine W_cond_v (b := (decide (16 < ((l1.length : Nat) : Int)))) rfl (fun hc6 => ?_) (fun hc6 => ?_)
  · replace h := cond_t hc6 h
    refine WP.seq_k (fun K434 hK434 => Wr Tt_ok rfl (R_assign rfl (Pn rfl (hK434 _ _ _ (WP.ret ?_)))))
    have e_ := Option.some.inj h
    subst e_
    refine S_tmp rfl (S_nil (Upd.selS [] 0 ?_))
    exact Upd.done hR
  replace h := cond_f hc6 h
  refine WP.skip (hK432 _ _ _ (WP.seq_k (fun K435 hK435 => WP.seq_k (fun K436 hK436 => Wr Tt_ok rfl (R_move rfl (Pc rfl rfl (R_lenS rfl rfl rfl (Pc rfl rfl (R_move rfl (Pn rfl ?_))))))))))
  refine hK436 _ _ _ ?_
  obtain ⟨o437, h437, h⟩ := obind h
  refine WP.cutK (fun fr_ μ_ L_ => (.inl ()) = o437 ∧ SubFr [(0, .slice A1 l1.length c1)] fr_ ∧ SegSub (L) L_ ∧ μ = μ_) ?_ ?_
  · refine WP.block (WP.iter h437 (fun (v2 : Int) fr_ μ_ L_ => SubFr [(0, .slice A1 l1.length c1), (1, .int .i64 nodes1), (2, .int .i64 materials1), (33, .slice A1 l1.length c1), (34, .int .i64 ((l1.length : Nat) : Int)), (35, .int .i64 v2)] fr_ ∧ SegSub (L) L_ ∧ μ = μ_) ⟨SubFr.of ⟨rfl, rfl, rfl, rfl, rfl, rfl, trivial⟩, SegSub.sel _ [] 0, rfl⟩ ?_)
    rintro v2 q500 fr500 μ500 L500 hm500 ⟨hF500, hS500, hu500⟩ hb500 hq500
    unfold vehicle_Check_l1 at hb500
    subst hu500
    refine WP.at hF500 hS500 (WP.seq_k (fun K501 hK501 => Wr Tt_ok rfl (R_lssD rfl rfl (Pn rfl (hK501 _ _ _ (WP.seq_k (fun K502 hK502 => ?_)))))))
    refine W_cond_v (b := (decide (v2 < ((l1.length : Nat) : Int)))) rfl (fun hc7 => ?_) (fun hc7 => ?_)
    · replace hb500 := cond_t hc7 hb500
      refine WP.skip (hK502 _ _ _ (WP.seq_k (fun K503 hK503 => WP.block (WP.seq_k (fun K504 hK504 => WP.region Tt_ok (O_cons ?_))))))
      obtain ⟨x1, hx1, hb500⟩ := obind hb500
      obtain ⟨a1, cs1, hA2, hr1, _, hc8⟩ := Rds.getI hA1 hx1
      obtain rfl := hr1
      refine O_read rfl (R_iaG rfl rfl rfl rfl rfl rfl ⟨(getI_lt hx1).1, (getI_lt hx1).2.1⟩ hA2 (Pc rfl rfl (R_loadA rfl rfl rfl rfl (Ex.mk [.string x1.ID, .int .i64 x1.Depot, .int .i64 x1.Shift.From, .int .i64 x1.Shift.To, .int .i64 x1.Grams, .int .i64 x1.Kinds] ⟨rfl, hc8⟩ (P_some rfl (O_cons (O_alloc (cs := #[.string ⟨#[]⟩, .int .i64 0, .int .i64 0, .int .i64 0, .int .i64 0, .int .i64 0]) rfl rfl (fun g1 => P_some rfl (O_cons (O_store (vs := [.string x1.ID, .int .i64 x1.Depot, .int .i64 x1.Shift.From, .int .i64 x1.Shift.To, .int .i64 x1.Grams, .int .i64 x1.Kinds]) rfl rfl rfl rfl rfl rfl (ST_ (L' := ([(g1, .cells #[.string x1.ID, .int .i64 x1.Depot, .int .i64 x1.Shift.From, .int .i64 x1.Shift.To, .int .i64 x1.Grams, .int .i64 x1.Kinds] 46 (0, 0))] :: L)) 0 0 rfl rfl rfl rfl (P_none (O_nil (hK504 _ _ _ ?_))))))))))))))
      refine WP.seq_k (fun K507 hK507 => Wr Tt_ok rfl (R_loadA rfl rfl rfl rfl (LA_ (vs := [.string x1.ID, .int .i64 x1.Depot, .int .i64 x1.Shift.From, .int .i64 x1.Shift.To, .int .i64 x1.Grams, .int .i64 x1.Kinds]) 0 0 rfl rfl rfl rfl (Pc rfl rfl (R_move rfl (Pc rfl rfl (R_move rfl (P_some rfl (O_cons (O_call (all := [.agg #[.string x1.ID, .int .i64 x1.Depot, .int .i64 x1.Shift.From, .int .i64 x1.Shift.To, .int .i64 x1.Grams, .int .i64 x1.Kinds], .int .i64 nodes1, .int .i64 materials1]) rfl rfl rfl ?_))))))))))
      obtain ⟨r1, hx2, hb500⟩ := obind hb500
      refine vehicle_fault_fn  hx2 ((Pc rfl rfl (R_assign rfl (Pn rfl (hK507 _ _ _ (WP.seq_k (fun K508 hK508 => Wr Tt_ok rfl (R_move rfl (Pc rfl rfl (R_neqD rfl rfl (P_some rfl ?_)))))))))))
      refine O_nil (hK508 _ _ _ ?_)
      refine W_cond_v (b := !(decide (r1 = 0))) rfl (fun hc9 => ?_) (fun hc9 => ?_)
      · replace hb500 := cond_t hc9 hb500
        refine WP.seq_k (fun K509 hK509 => Wr Tt_ok rfl (R_move rfl (Pc rfl rfl (R_assign rfl (Pn rfl (hK509 _ _ _ (WP.ret ?_)))))))
        have e_ := Option.some.inj hb500
        subst e_
        have hq_ := hq500 _ rfl
        subst hq_
        replace h := osum_r h
        have e_ := Option.some.inj h
        subst e_
        refine S_tmp rfl (S_nil (Upd.selS [] 1 ?_))
        exact Upd.done hR
      replace hb500 := cond_f hc9 hb500
      refine WP.skip (hK503 _ _ _ (Wr Tt_ok rfl (R_add rfl rfl (Pc rfl rfl (R_move rfl (Pn rfl ?_))))))
      have e_ := Option.some.inj hb500
      subst e_
      exact ⟨_, rfl, SubFr.of ⟨rfl, rfl, rfl, rfl, rfl, rfl, trivial⟩, SegSub.sel _ [] 1, rfl⟩
    replace hb500 := cond_f hc7 hb500
    refine WP.exit (B_here ?_)
    have e_ := Option.some.inj hb500
    subst e_
    have hq_ := hq500 _ rfl
    subst hq_
    exact ⟨rfl, SubFr.of ⟨rfl, trivial⟩, SegSub.sel _ [] 0, rfl⟩
  rintro fr437 μ437 L437 hm437 ⟨ho437, hF437, hS437, hu437⟩
  subst ho437
  replace h := osum_l h
  subst hu437
  refine hK435 _ _ _ (WP.at hF437 hS437 (WP.seq_k (fun K510 hK510 => WP.region Tt_ok (O_cons (O_mkmap (fun g2 => Pc rfl rfl (R_assign rfl (Pn rfl (hK510 _ _ _ (WP.seq_k (fun K512 hK512 => WP.seq_k (fun K513 hK513 => Wr Tt_ok rfl ?_))))))))))))
  refine R_move rfl (Pc rfl rfl (R_lenS rfl rfl rfl (Pc rfl rfl (R_move rfl (Pn rfl (hK513 _ _ _ ?_))))))
  obtain ⟨o514, h514, h⟩ := obind h
  refine WP.cutK (fun fr_ μ_ L_ => (.inl ()) = o514 ∧ SubFr [] fr_ ∧ SegSub (L) L_ ∧ μ = μ_) ?_ ?_
  · refine WP.block (WP.iter h514 (fun (j_ : (List (ByteArray × Bool)) × Int) fr_ μ_ L_ => ounP j_ fun m1 v3 => ∃ (es1 : Array MapEntry) (cn1 : Nat), SubFr [(10, .map (some g2)), (48, .slice A1 l1.length c1), (49, .int .i64 ((l1.length : Nat) : Int)), (50, .int .i64 v3)] fr_ ∧ SegSub ([(g2, .map es1 cn1)] :: L) L_ ∧ MapSB Value.bool es1 cn1 m1 ∧ μ = μ_) ⟨#[], 0, SubFr.of ⟨rfl, rfl, rfl, rfl, trivial⟩, SegSub.sel _ [some 0] 1, ((MapSB.nil (enc := Value.bool))), rfl⟩ ?_)
    rintro ⟨m1, v3⟩ q526 fr526 μ526 L526 hm526 ⟨es1, cn1, hF526, hS526, hM1, hu526⟩ hb526 hq526
    unfold vehicle_Check_l2 at hb526
    replace hb526 := oun_mk hb526
    subst hu526
    refine WP.at hF526 hS526 (WP.seq_k (fun K529 hK529 => Wr Tt_ok rfl (R_lssD rfl rfl (Pn rfl (hK529 _ _ _ (WP.seq_k (fun K530 hK530 => ?_)))))))
    refine W_cond_v (b := (decide (v3 < ((l1.length : Nat) : Int)))) rfl (fun hc10 => ?_) (fun hc10 => ?_)
    · replace hb526 := cond_t hc10 hb526
      refine WP.skip (hK530 _ _ _ (WP.seq_k (fun K531 hK531 => WP.block (WP.seq_k (fun K532 hK532 => WP.region Tt_ok (O_cons ?_))))))
      obtain ⟨x2, hx3, hb526⟩ := obind hb526
      obtain ⟨a2, cs2, hA3, hr2, _, hc11⟩ := Rds.getI hA1 hx3
      obtain rfl := hr2
      refine O_read rfl (R_iaG rfl rfl rfl rfl rfl rfl ⟨(getI_lt hx3).1, (getI_lt hx3).2.1⟩ hA3 (Pc rfl rfl (R_loadA rfl rfl rfl rfl (Ex.mk [.string x2.ID, .int .i64 x2.Depot, .int .i64 x2.Shift.From, .int .i64 x2.Shift.To, .int .i64 x2.Grams, .int .i64 x2.Kinds] ⟨rfl, (hc11.push)⟩ (P_some rfl (O_cons (O_alloc (cs := #[.string ⟨#[]⟩, .int .i64 0, .int .i64 0, .int .i64 0, .int .i64 0, .int .i64 0]) rfl rfl (fun g3 => P_some rfl (O_cons (O_store (vs := [.string x2.ID, .int .i64 x2.Depot, .int .i64 x2.Shift.From, .int .i64 x2.Shift.To, .int .i64 x2.Grams, .int .i64 x2.Kinds]) rfl rfl rfl rfl rfl rfl (ST_ (L' := ([(g3, .cells #[.string x2.ID, .int .i64 x2.Depot, .int .i64 x2.Shift.From, .int .i64 x2.Shift.To, .int .i64 x2.Grams, .int .i64 x2.Kinds] 46 (0, 0))] :: [(g2, .map es1 cn1)] :: L)) 0 0 rfl rfl rfl rfl ?_)))))))))))
      refine P_none (O_nil (hK532 _ _ _ (WP.seq_k (fun K535 hK535 => WP.seq_k (fun K536 hK536 => Wr Tt_ok rfl (R_move rfl (Pc rfl rfl (R_fa0 (o' := 0) rfl rfl rfl rfl rfl rfl (Pc rfl rfl (R_load rfl rfl rfl (Ex.mk _ (Cell.seg 0 0 rfl rfl rfl) ?_)))))))))))
      refine Pc rfl rfl (R_lookS (zb := false) Tt_ok rfl rfl rfl rfl rfl rfl rfl rfl (ObjAt.seg 1 0 rfl rfl) hM1 (Pn rfl (hK536 _ _ _ ?_)))
      refine W_cond_v (b := (sget x2.ID m1).getD false) rfl (fun hc12 => ?_) (fun hc12 => ?_)
      · replace hb526 := cond_t hc12 hb526
        refine WP.seq_k (fun K537 hK537 => Wr Tt_ok rfl (R_assign rfl (Pn rfl (hK537 _ _ _ (WP.ret ?_)))))
        have e_ := Option.some.inj hb526
        subst e_
        have hq_ := hq526 _ rfl
        subst hq_
        replace h := osum_r h
        have e_ := Option.some.inj h
        subst e_
        refine S_tmp rfl (S_nil (Upd.selS [] 2 ?_))
        exact Upd.done hR
      replace hb526 := cond_f hc12 hb526
      refine WP.skip (hK535 _ _ _ (Wr Tt_ok rfl (R_move rfl (Pc rfl rfl (R_fa0 (o' := 0) rfl rfl rfl rfl rfl rfl (Pc rfl rfl (R_load rfl rfl rfl (Ex.mk _ (Cell.seg 0 0 rfl rfl rfl) (P_some rfl (O_cons (O_mapUpdate rfl rfl rfl ?_)))))))))))
      refine semu_mapSB Tt_ok rfl rfl rfl rfl 1 (b := true) rfl hM1 rfl fun es2 cn2 hM2 => P_none (O_nil (hK531 _ _ _ (Wr Tt_ok rfl (R_add rfl rfl (Pc rfl rfl (R_move rfl (Pn rfl ?_)))))))
      have e_ := Option.some.inj hb526
      subst e_
      exact ⟨_, rfl, es2, cn2, SubFr.of ⟨rfl, rfl, rfl, rfl, trivial⟩, SegSub.sel _ [some 1] 2, (hM2), rfl⟩
    replace hb526 := cond_f hc10 hb526
    refine WP.exit (B_here ?_)
    have e_ := Option.some.inj hb526
    subst e_
    have hq_ := hq526 _ rfl
    subst hq_
    exact ⟨rfl, SubFr.of trivial, SegSub.sel _ [] 1, rfl⟩
  rintro fr514 μ514 L514 hm514 ⟨ho514, hF514, hS514, hu514⟩
  subst ho514
  replace h := osum_l h
  subst hu514
  refine hK512 _ _ _ (WP.at hF514 hS514 (WP.seq_k (fun K539 hK539 => Wr Tt_ok rfl (R_assign rfl (Pn rfl (hK539 _ _ _ (WP.ret ?_)))))))
  have e_ := Option.some.inj h
  subst e_
  refine S_tmp rfl (S_nil (Upd.selS [] 0 ?_))
  exact Upd.done hR

theorem demand_within_fn {μ : Gh} {L : List Seg} {R : Value → Gh → List Seg → Prop}  {n1 : Int} {low1 : Int} {high1 : Int}  {res1 : Bool}
     (h : demand_within n1 low1 high1 = some res1)
    (hR : R (.bool res1) μ (L)) :
    Fn Try.prog 60 [.int .i64 n1, .int .i64 low1, .int .i64 high1] μ (L) R := by
  unfold demand_within at h
  refine Fn.of_body Tt_ok Try.func60 (by kernel_rfl) rfl Try.ntmps60 (by simp) ?_
  simp only [Try.f60, argFr, List.zipIdx, List.map, Nat.reduceAdd]
  refine WP.seq_k (fun K565 hK565 => Wr Tt_ok rfl (R_assign rfl (Pn rfl (hK565 _ _ _ (WP.seq_k (fun K566 hK566 => ?_))))))
  obtain ⟨o567, h567, h⟩ := obind h
  refine WP.cutK (fun fr_ μ_ L_ => ∃ (v1 : Bool), v1 = o567 ∧ SubFr [(6, .bool v1)] fr_ ∧ SegSub (L) L_ ∧ μ = μ_) ?_ ?_
  · refine Wr Tt_ok rfl (R_move rfl (Pc rfl rfl (R_move rfl (Pc rfl rfl (R_geqD rfl rfl (Pc rfl rfl (R_move rfl (P_some rfl ?_))))))))
    refine O_gv (z := (decide (low1 ≤ n1))) rfl rfl (fun hc1 => ?_) (fun hc1 => ?_)
    · replace h567 := cond_t hc1 h567
      refine O_read rfl (R_move rfl (P_some rfl (O_gY rfl rfl hc1 (O_read rfl (R_move rfl (P_some rfl (O_gY rfl rfl hc1 (O_read rfl (R_leqD rfl rfl (Pc rfl rfl (R_pick_T rfl hc1 rfl (Pc rfl rfl (R_assign rfl ?_)))))))))))))
      refine Pn rfl ?_
      have e_ := Option.some.inj h567
      subst e_
      exact ⟨(decide (n1 ≤ high1)), rfl, SubFr.of ⟨rfl, trivial⟩, SegSub.sel _ [] 0, rfl⟩
    replace h567 := cond_f hc1 h567
    refine P_some rfl (O_gN rfl rfl hc1 (P_some rfl (O_gN rfl rfl hc1 (Pc rfl rfl (R_pick_F rfl hc1 rfl (Pc rfl rfl (R_assign rfl (Pn rfl ?_))))))))
    have e_ := Option.some.inj h567
    subst e_
    exact ⟨false, rfl, SubFr.of ⟨rfl, trivial⟩, SegSub.sel _ [] 0, rfl⟩
  rintro fr567 μ567 L567 hm567 ⟨v1, ho567, hF567, hS567, hu567⟩
  subst ho567
  subst hu567
  refine hK566 _ _ _ (WP.at hF567 hS567 (WP.ret ?_))
  have e_ := Option.some.inj h
  subst e_
  refine S_tmp rfl (S_nil (Upd.selS [] 0 ?_))
  exact Upd.done hR

theorem demand_one_fn {μ : Gh} {L : List Seg} {R : Value → Gh → List Seg → Prop}  {x1 : T_api_Demand} {nodes1 : Int} {materials1 : Int}  {res1 : Int}
     (h : demand_one x1 nodes1 materials1 = some res1)
    (hR : R (.int .i64 res1) μ (L)) :
    Fn Try.prog 44 [.agg #[.int .i64 x1.Container, .int .i64 x1.Node, .int .i64 x1.Kind, .int .i64 x1.Grams, .int .i64 x1.When.From, .int .i64 x1.When.To, .int .i64 x1.Service], .int .i64 nodes1, .int .i64 materials1] μ (L) R := by
  unfold demand_one at h
  refine Fn.of_body Tt_ok Try.func44 (by kernel_rfl) rfl Try.ntmps44 (by simp) ?_
  simp only [Try.f44, argFr, List.zipIdx, List.map, Nat.reduceAdd]
  refine WP.seq_k (fun K560 hK560 => WP.region Tt_ok (O_cons (O_box (cs := #[.int .i64 x1.Container, .int .i64 x1.Node, .int .i64 x1.Kind, .int .i64 x1.Grams, .int .i64 x1.When.From, .int .i64 x1.When.To, .int .i64 x1.Service]) rfl rfl (fun g1 => Pc rfl rfl (R_assign rfl (Pn rfl (hK560 _ _ _ (WP.seq_k (fun K562 hK562 => WP.block (WP.seq_k (fun K563 hK563 => ?_)))))))))))
  obtain ⟨o564, h564, h⟩ := obind h
  refine WP.cutK (fun fr_ μ_ L_ => ∃ (v1 : Bool), v1 = o564 ∧ SubFr [(3, .pointer (some ⟨g1, 0, none⟩)), (7, .bool v1)] fr_ ∧ SegSub ([(g1, .cells #[.int .i64 x1.Container, .int .i64 x1.Node, .int .i64 x1.Kind, .int .i64 x1.Grams, .int .i64 x1.When.From, .int .i64 x1.When.To, .int .i64 x1.Service] 79 (0, 0))] :: L) L_ ∧ μ = μ_) ?_ ?_
  · refine Wr Tt_ok rfl (R_fa0 (o' := 0) rfl rfl rfl rfl rfl rfl (Pc rfl rfl (R_load rfl rfl rfl (Ex.mk _ (Cell.seg 0 0 rfl rfl rfl) (P_some rfl (O_cons (O_call (all := [.int .i64 x1.Container, .int .i64 0, .int .i64 255]) rfl rfl rfl ?_)))))))
    obtain ⟨r1, hx1, h564⟩ := obind h564
    refine demand_within_fn  hx1 ((Pc rfl rfl (R_not rfl (Pc rfl rfl (R_move rfl (P_some rfl ?_))))))
    refine O_gv (z := !r1) rfl rfl (fun hc1 => ?_) (fun hc1 => ?_)
    · replace h564 := cond_f hc1 h564
      refine O_read rfl (R_fa0 (o' := 1) rfl rfl rfl rfl rfl rfl (P_some rfl (O_gY rfl rfl hc1 (O_read rfl (R_load rfl rfl rfl (Ex.mk _ (Cell.seg 0 0 rfl rfl rfl) (P_some rfl (O_gY rfl rfl hc1 (O_read rfl (R_lssD rfl rfl (Pc rfl rfl (R_pick_F rfl hc1 rfl (Pc rfl rfl ?_)))))))))))))
      refine R_move rfl (P_some rfl ?_)
      refine O_gv (z := (decide (x1.Node < 0))) rfl rfl (fun hc2 => ?_) (fun hc2 => ?_)
      · replace h564 := cond_f hc2 h564
        refine O_read rfl (R_fa0 (o' := 1) rfl rfl rfl rfl rfl rfl (P_some rfl (O_gY rfl rfl hc2 (O_read rfl (R_load rfl rfl rfl (Ex.mk _ (Cell.seg 0 0 rfl rfl rfl) (P_some rfl (O_gY rfl rfl hc2 (O_read rfl (R_move rfl (P_some rfl (O_gY rfl rfl hc2 (O_read rfl (R_geqD rfl rfl (Pc rfl rfl ?_)))))))))))))))
        refine R_pick_F rfl hc2 rfl (Pc rfl rfl (R_move rfl (P_some rfl ?_)))
        refine O_gv (z := (decide (nodes1 ≤ x1.Node))) rfl rfl (fun hc3 => ?_) (fun hc3 => ?_)
        · replace h564 := cond_f hc3 h564
          refine O_read rfl (R_fa0 (o' := 2) rfl rfl rfl rfl rfl rfl (P_some rfl (O_gY rfl rfl hc3 (O_read rfl (R_load rfl rfl rfl (Ex.mk _ (Cell.seg 0 0 rfl rfl rfl) (P_some rfl (O_gY rfl rfl hc3 (O_read rfl (R_lssD rfl rfl (Pc rfl rfl (R_pick_F rfl hc3 rfl (Pc rfl rfl ?_)))))))))))))
          refine R_move rfl (P_some rfl ?_)
          refine O_gv (z := (decide (x1.Kind < 0))) rfl rfl (fun hc4 => ?_) (fun hc4 => ?_)
          · replace h564 := cond_f hc4 h564
            refine O_read rfl (R_fa0 (o' := 2) rfl rfl rfl rfl rfl rfl (P_some rfl (O_gY rfl rfl hc4 (O_read rfl (R_load rfl rfl rfl (Ex.mk _ (Cell.seg 0 0 rfl rfl rfl) (P_some rfl (O_gY rfl rfl hc4 (O_read rfl (R_move rfl (P_some rfl (O_gY rfl rfl hc4 (O_read rfl (R_geqD rfl rfl (Pc rfl rfl ?_)))))))))))))))
            refine R_pick_F rfl hc4 rfl (Pc rfl rfl (R_assign rfl (Pn rfl ?_)))
            have e_ := Option.some.inj h564
            subst e_
            exact ⟨(decide (materials1 ≤ x1.Kind)), rfl, SubFr.of ⟨rfl, rfl, trivial⟩, SegSub.sel _ [some 0] 1, rfl⟩
          replace h564 := cond_t hc4 h564
          refine P_some rfl (O_gN rfl rfl hc4 (P_some rfl (O_gN rfl rfl hc4 (P_some rfl (O_gN rfl rfl hc4 (Pc rfl rfl (R_pick_T rfl hc4 rfl (Pc rfl rfl (R_assign rfl (Pn rfl ?_))))))))))
          have e_ := Option.some.inj h564
          subst e_
          exact ⟨true, rfl, SubFr.of ⟨rfl, rfl, trivial⟩, SegSub.sel _ [some 0] 1, rfl⟩
        replace h564 := cond_t hc3 h564
        refine P_some rfl (O_gN rfl rfl hc3 (P_some rfl (O_gN rfl rfl hc3 (Pc rfl rfl (R_pick_T rfl hc3 rfl (Pc rfl rfl (R_move rfl (P_some rfl (O_gN rfl rfl rfl (P_some rfl (O_gN rfl rfl rfl (P_some rfl (O_gN rfl rfl rfl ?_)))))))))))))
        refine P_some rfl (O_gN rfl rfl rfl (Pc rfl rfl (R_pick_T rfl rfl rfl (Pc rfl rfl (R_assign rfl (Pn rfl ?_))))))
        have e_ := Option.some.inj h564
        subst e_
        exact ⟨true, rfl, SubFr.of ⟨rfl, rfl, trivial⟩, SegSub.sel _ [some 0] 1, rfl⟩
      replace h564 := cond_t hc2 h564
      refine P_some rfl (O_gN rfl rfl hc2 (P_some rfl (O_gN rfl rfl hc2 (P_some rfl (O_gN rfl rfl hc2 (Pc rfl rfl (R_pick_T rfl hc2 rfl (Pc rfl rfl (R_move rfl (P_some rfl (O_gN rfl rfl rfl (P_some rfl (O_gN rfl rfl rfl ?_)))))))))))))
      refine P_some rfl (O_gN rfl rfl rfl (Pc rfl rfl (R_pick_T rfl rfl rfl (Pc rfl rfl (R_move rfl (P_some rfl (O_gN rfl rfl rfl (P_some rfl (O_gN rfl rfl rfl (P_some rfl (O_gN rfl rfl rfl (P_some rfl (O_gN rfl rfl rfl ?_)))))))))))))
      refine Pc rfl rfl (R_pick_T rfl rfl rfl (Pc rfl rfl (R_assign rfl (Pn rfl ?_))))
      have e_ := Option.some.inj h564
      subst e_
      exact ⟨true, rfl, SubFr.of ⟨rfl, rfl, trivial⟩, SegSub.sel _ [some 0] 1, rfl⟩
    replace h564 := cond_t hc1 h564
    refine P_some rfl (O_gN rfl rfl hc1 (P_some rfl (O_gN rfl rfl hc1 (Pc rfl rfl (R_pick_T rfl hc1 rfl (Pc rfl rfl (R_move rfl (P_some rfl (O_gN rfl rfl rfl (P_some rfl (O_gN rfl rfl rfl (P_some rfl (O_gN rfl rfl rfl ?_)))))))))))))
    refine P_some rfl (O_gN rfl rfl rfl (Pc rfl rfl (R_pick_T rfl rfl rfl (Pc rfl rfl (R_move rfl (P_some rfl (O_gN rfl rfl rfl (P_some rfl (O_gN rfl rfl rfl (P_some rfl (O_gN rfl rfl rfl (P_some rfl (O_cons ?_)))))))))))))
    refine O_read rfl (R_pick_T rfl rfl rfl (Pc rfl rfl (R_move rfl (P_some rfl (O_gN rfl rfl rfl (P_some rfl (O_gN rfl rfl rfl (P_some rfl (O_gN rfl rfl rfl (P_some rfl (O_gN rfl rfl rfl (Pc rfl rfl (R_pick_T rfl rfl rfl ?_)))))))))))))
    refine Pc rfl rfl (R_assign rfl (Pn rfl ?_))
    have e_ := Option.some.inj h564
    subst e_
    exact ⟨true, rfl, SubFr.of ⟨rfl, rfl, trivial⟩, SegSub.sel _ [some 0] 1, rfl⟩
  rintro fr564 μ564 L564 hm564 ⟨v1, ho564, hF564, hS564, hu564⟩
  subst ho564
  subst hu564
  refine hK563 _ _ _ (WP.at hF564 hS564 ?_)
  refine W_cond_v (b := v1) rfl (fun hc5 => ?_) (fun hc5 => ?_)
  · replace h := cond_t hc5 h
    refine WP.seq_k (fun K570 hK570 => Wr Tt_ok rfl (R_assign rfl (Pn rfl (hK570 _ _ _ (WP.ret ?_)))))
    have e_ := Option.some.inj h
    subst e_
    refine S_tmp rfl (S_nil (Upd.selS [] 1 ?_))
    exact Upd.done hR
  replace h := cond_f hc5 h
  refine WP.seq_k ?_; intro K571 hK571
  obtain ⟨o572, h572, h⟩ := obind h
  refine WP.cutK (fun fr_ μ_ L_ => ∃ (v2 : Bool), v2 = o572 ∧ SubFr [(34, .bool v2)] fr_ ∧ SegSub (L) L_ ∧ μ = μ_) ?_ ?_
  · refine Wr Tt_ok rfl (R_fa0 (o' := 3) rfl rfl rfl rfl rfl rfl (Pc rfl rfl (R_load rfl rfl rfl (Ex.mk _ (Cell.seg 0 0 rfl rfl rfl) (P_some rfl (O_cons (O_call (all := [.int .i64 x1.Grams, .int .i64 0, .int .i64 1073741824]) rfl rfl rfl ?_)))))))
    obtain ⟨r2, hx2, h572⟩ := obind h572
    refine demand_within_fn  hx2 ((Pc rfl rfl (R_not rfl (Pc rfl rfl (R_move rfl (P_some rfl ?_))))))
    refine O_gv (z := !r2) rfl rfl (fun hc6 => ?_) (fun hc6 => ?_)
    · replace h572 := cond_f hc6 h572
      refine O_read rfl (R_fa0 (o' := 4) rfl rfl rfl rfl rfl rfl (P_some rfl (O_gY rfl rfl hc6 (O_read rfl (R_fa0 (o' := 4) rfl rfl rfl rfl rfl rfl (P_some rfl (O_gY rfl rfl hc6 (O_read rfl (R_load rfl rfl rfl (Ex.mk _ (Cell.seg 0 0 rfl rfl rfl) (P_some rfl (O_gY rfl rfl hc6 (O_read rfl (R_lssD rfl rfl (Pc rfl rfl ?_)))))))))))))))
      refine R_pick_F rfl hc6 rfl (Pc rfl rfl (R_move rfl (P_some rfl ?_)))
      refine O_gv (z := (decide (x1.When.From < 0))) rfl rfl (fun hc7 => ?_) (fun hc7 => ?_)
      · replace h572 := cond_f hc7 h572
        refine O_read rfl (R_fa0 (o' := 4) rfl rfl rfl rfl rfl rfl (P_some rfl (O_gY rfl rfl hc7 (O_read rfl (R_fa0 (o' := 4) rfl rfl rfl rfl rfl rfl (P_some rfl (O_gY rfl rfl hc7 (O_read rfl (R_load rfl rfl rfl (Ex.mk _ (Cell.seg 0 0 rfl rfl rfl) (P_some rfl (O_gY rfl rfl hc7 (O_read rfl (R_fa0 (o' := 4) rfl rfl rfl rfl rfl rfl (P_some rfl (O_gY rfl rfl hc7 (O_read rfl ?_)))))))))))))))))
        refine R_fa0 (o' := 5) rfl rfl rfl rfl rfl rfl (P_some rfl (O_gY rfl rfl hc7 (O_read rfl (R_load rfl rfl rfl (Ex.mk _ (Cell.seg 0 0 rfl rfl rfl) (P_some rfl (O_gY rfl rfl hc7 (O_read rfl (R_gtrD rfl rfl (Pc rfl rfl (R_pick_F rfl hc7 rfl (Pc rfl rfl (R_move rfl ?_)))))))))))))
        apply P_some; exact rfl
        refine O_gv (z := (decide (x1.When.To < x1.When.From))) rfl rfl (fun hc8 => ?_) (fun hc8 => ?_)
        · replace h572 := cond_f hc8 h572
          refine O_read rfl (R_fa0 (o' := 4) rfl rfl rfl rfl rfl rfl (P_some rfl (O_gY rfl rfl hc8 (O_read rfl (R_fa0 (o' := 5) rfl rfl rfl rfl rfl rfl (P_some rfl (O_gY rfl rfl hc8 (O_read rfl (R_load rfl rfl rfl (Ex.mk _ (Cell.seg 0 0 rfl rfl rfl) (P_some rfl (O_gY rfl rfl hc8 (O_read rfl (R_gtrD rfl rfl (Pc rfl rfl ?_)))))))))))))))
          refine R_pick_F rfl hc8 rfl (Pc rfl rfl (R_move rfl (P_some rfl ?_)))
          refine O_gv (z := (decide (86400 < x1.When.To))) rfl rfl (fun hc9 => ?_) (fun hc9 => ?_)
          · replace h572 := cond_f hc9 h572
            refine O_read rfl (R_fa0 (o' := 6) rfl rfl rfl rfl rfl rfl (P_some rfl (O_gY rfl rfl hc9 (O_read rfl (R_load rfl rfl rfl (Ex.mk _ (Cell.seg 0 0 rfl rfl rfl) (P_some rfl (O_gY rfl rfl hc9 (O_call (all := [.int .i64 x1.Service, .int .i64 0, .int .i64 3600]) rfl rfl rfl ?_)))))))))
            obtain ⟨r3, hx3, h572⟩ := obind h572
            refine demand_within_fn  hx3 ((P_some rfl (O_gY rfl rfl hc9 (O_read rfl (R_not rfl (Pc rfl rfl (R_pick_F rfl hc9 rfl (Pc rfl rfl (R_assign rfl (Pn rfl ?_))))))))))
            have e_ := Option.some.inj h572
            subst e_
            exact ⟨!r3, rfl, SubFr.of ⟨rfl, trivial⟩, SegSub.sel _ [] 1, rfl⟩
          replace h572 := cond_t hc9 h572
          refine P_some rfl (O_gN rfl rfl hc9 (P_some rfl (O_gN rfl rfl hc9 (P_some rfl (O_gN rfl rfl hc9 (Pc rfl rfl (R_pick_T rfl hc9 rfl (Pc rfl rfl (R_assign rfl (Pn rfl ?_))))))))))
          have e_ := Option.some.inj h572
          subst e_
          exact ⟨true, rfl, SubFr.of ⟨rfl, trivial⟩, SegSub.sel _ [] 1, rfl⟩
        replace h572 := cond_t hc8 h572
        refine P_some rfl (O_gN rfl rfl hc8 (P_some rfl (O_gN rfl rfl hc8 (P_some rfl (O_gN rfl rfl hc8 (Pc rfl rfl (R_pick_T rfl hc8 rfl (Pc rfl rfl (R_move rfl (P_some rfl (O_gN rfl rfl rfl (P_some rfl (O_gN rfl rfl rfl ?_)))))))))))))
        refine P_some rfl (O_gN rfl rfl rfl (P_some rfl (O_gN rfl rfl rfl (Pc rfl rfl (R_pick_T rfl rfl rfl (Pc rfl rfl (R_assign rfl (Pn rfl ?_))))))))
        have e_ := Option.some.inj h572
        subst e_
        exact ⟨true, rfl, SubFr.of ⟨rfl, trivial⟩, SegSub.sel _ [] 1, rfl⟩
      replace h572 := cond_t hc7 h572
      refine P_some rfl (O_gN rfl rfl hc7 (P_some rfl (O_gN rfl rfl hc7 (P_some rfl (O_gN rfl rfl hc7 (P_some rfl (O_gN rfl rfl hc7 (P_some rfl (O_gN rfl rfl hc7 (P_some rfl (O_gN rfl rfl hc7 (Pc rfl rfl (R_pick_T rfl hc7 rfl (P_some rfl (O_cons ?_)))))))))))))))
      refine O_read rfl (R_move rfl (P_some rfl (O_gN rfl rfl rfl (P_some rfl (O_gN rfl rfl rfl (P_some rfl (O_gN rfl rfl rfl (P_some rfl (O_gN rfl rfl rfl (Pc rfl rfl (R_pick_T rfl rfl rfl (Pc rfl rfl (R_move rfl ?_)))))))))))))
      refine P_some rfl (O_gN rfl rfl rfl (P_some rfl (O_gN rfl rfl rfl (P_some rfl (O_gN rfl rfl rfl (P_some rfl (O_gN rfl rfl rfl (Pc rfl rfl (R_pick_T rfl rfl rfl (Pc rfl rfl (R_assign rfl (Pn rfl ?_))))))))))))
      have e_ := Option.some.inj h572
      subst e_
      exact ⟨true, rfl, SubFr.of ⟨rfl, trivial⟩, SegSub.sel _ [] 1, rfl⟩
    replace h572 := cond_t hc6 h572
    refine P_some rfl (O_gN rfl rfl hc6 (P_some rfl (O_gN rfl rfl hc6 (P_some rfl (O_gN rfl rfl hc6 (Pc rfl rfl (R_pick_T rfl hc6 rfl (Pc rfl rfl (R_move rfl (P_some rfl (O_gN rfl rfl rfl (P_some rfl (O_gN rfl rfl rfl ?_)))))))))))))
    refine P_some rfl (O_gN rfl rfl rfl (P_some rfl (O_gN rfl rfl rfl (P_some rfl (O_gN rfl rfl rfl (P_some rfl (O_gN rfl rfl rfl (P_some rfl (O_gN rfl rfl rfl (Pc rfl rfl (R_pick_T rfl rfl rfl (Pc rfl rfl (R_move rfl ?_)))))))))))))
    refine P_some rfl (O_gN rfl rfl rfl (P_some rfl (O_gN rfl rfl rfl (P_some rfl (O_gN rfl rfl rfl (P_some rfl (O_gN rfl rfl rfl (Pc rfl rfl (R_pick_T rfl rfl rfl (Pc rfl rfl (R_move rfl (P_some rfl (O_gN rfl rfl rfl ?_)))))))))))))
    refine P_some rfl (O_gN rfl rfl rfl (P_some rfl (O_gN rfl rfl rfl (P_some rfl (O_gN rfl rfl rfl (Pc rfl rfl (R_pick_T rfl rfl rfl (Pc rfl rfl (R_assign rfl (Pn rfl ?_))))))))))
    have e_ := Option.some.inj h572
    subst e_
    exact ⟨true, rfl, SubFr.of ⟨rfl, trivial⟩, SegSub.sel _ [] 1, rfl⟩
  rintro fr572 μ572 L572 hm572 ⟨v2, ho572, hF572, hS572, hu572⟩
  subst ho572
  subst hu572
  refine hK571 _ _ _ (WP.at hF572 hS572 ?_)
  refine W_cond_v (b := v2) rfl (fun hc10 => ?_) (fun hc10 => ?_)
  · replace h := cond_t hc10 h
    refine WP.seq_k (fun K573 hK573 => Wr Tt_ok rfl (R_assign rfl (Pn rfl (hK573 _ _ _ (WP.ret ?_)))))
    have e_ := Option.some.inj h
    subst e_
    refine S_tmp rfl (S_nil (Upd.selS [] 0 ?_))
    exact Upd.done hR
  replace h := cond_f hc10 h
  refine WP.skip (hK562 _ _ _ (WP.seq_k (fun K574 hK574 => Wr Tt_ok rfl (R_assign rfl (Pn rfl (hK574 _ _ _ (WP.ret ?_)))))))
  have e_ := Option.some.inj h
  subst e_
  refine S_tmp rfl (S_nil (Upd.selS [] 0 ?_))
  exact Upd.done hR

theorem demand_Check_1_fn {μ : Gh} {L : List Seg} {R : Value → Gh → List Seg → Prop}  {y1 : T_api_Demand} {b1 : T_api_Demand} {g1 : Nat} {res1 : Bool}
     (h : demand_Check_1 y1 b1 = some res1)
    (hR : R (.bool res1) μ ([(g1, .cells #[.int .i64 b1.Container, .int .i64 b1.Node, .int .i64 b1.Kind, .int .i64 b1.Grams, .int .i64 b1.When.From, .int .i64 b1.When.To, .int .i64 b1.Service] 79 (0, 0))] :: L)) :
    Fn Try.prog 46 [.agg #[.int .i64 y1.Container, .int .i64 y1.Node, .int .i64 y1.Kind, .int .i64 y1.Grams, .int .i64 y1.When.From, .int .i64 y1.When.To, .int .i64 y1.Service], .pointer (some ⟨g1, 0, none⟩)] μ ([(g1, .cells #[.int .i64 b1.Container, .int .i64 b1.Node, .int .i64 b1.Kind, .int .i64 b1.Grams, .int .i64 b1.When.From, .int .i64 b1.When.To, .int .i64 b1.Service] 79 (0, 0))] :: L) R := by
  unfold demand_Check_1 at h
  refine Fn.of_body Tt_ok Try.func46 (by kernel_rfl) rfl Try.ntmps46 (by simp) ?_
  simp only [Try.f46, argFr, List.zipIdx, List.map, Nat.reduceAdd]
  refine WP.seq_k (fun K619 hK619 => WP.region Tt_ok (O_cons (O_box (cs := #[.int .i64 y1.Container, .int .i64 y1.Node, .int .i64 y1.Kind, .int .i64 y1.Grams, .int .i64 y1.When.From, .int .i64 y1.When.To, .int .i64 y1.Service]) rfl rfl (fun g2 => Pc rfl rfl (R_assign rfl (Pn rfl (hK619 _ _ _ (WP.seq_k (fun K621 hK621 => Wr Tt_ok rfl (R_fa0 (o' := 0) rfl rfl rfl rfl rfl rfl (P_some rfl (O_cons ?_))))))))))))
  refine O_read rfl (R_load rfl rfl rfl (Ex.mk _ (Cell.seg 0 0 rfl rfl rfl) (Pc rfl rfl (R_fa0 (o' := 0) rfl rfl rfl rfl rfl rfl (Pc rfl rfl (R_load rfl rfl rfl (Ex.mk _ (Cell.seg 1 0 rfl rfl rfl) (Pc rfl rfl (R_eqlD rfl rfl (P_some rfl (O_cons ?_)))))))))))
  refine O_read rfl (R_assign rfl (Pn rfl (hK621 _ _ _ (WP.ret ?_))))
  have e_ := Option.some.inj h
  subst e_
  refine S_tmp rfl (S_nil (Upd.seg (L2 := ([(g1, .cells #[.int .i64 b1.Container, .int .i64 b1.Node, .int .i64 b1.Kind, .int .i64 b1.Grams, .int .i64 b1.When.From, .int .i64 b1.When.To, .int .i64 b1.Service] 79 (0, 0))] :: L)) (SegSub.trans (SegSub.flat (by simp [selS])) (SegSub.sel _ [some 1] 2)) ?_))
  exact Upd.done hR

theorem slices_IndexFunc_Demand_c46_fn {μ : Gh} {L : List Seg} {R : Value → Gh → List Seg → Prop}  {s1 : (List T_api_Demand)} {b1 : T_api_Demand} {A1 : Option Addr} {c1 : Nat} {g1 : Nat} {res1 : Int}
    (hl1 : s1.length ≤ c1 ∧ c1 ≤ maxLen) (hA1 : Rds r_api_Demand μ L A1 s1) (h : slices_IndexFunc_Demand_c46 s1 b1 = some res1)
    (hR : R (.int .i64 res1) μ ([(g1, .cells #[.int .i64 b1.Container, .int .i64 b1.Node, .int .i64 b1.Kind, .int .i64 b1.Grams, .int .i64 b1.When.From, .int .i64 b1.When.To, .int .i64 b1.Service] 79 (0, 0))] :: L)) :
    Fn Try.prog 61 [.slice A1 s1.length c1, .func (.func 46) #[] #[.pointer (some ⟨g1, 0, none⟩)]] μ ([(g1, .cells #[.int .i64 b1.Container, .int .i64 b1.Node, .int .i64 b1.Kind, .int .i64 b1.Grams, .int .i64 b1.When.From, .int .i64 b1.When.To, .int .i64 b1.Service] 79 (0, 0))] :: L) R := by
  unfold slices_IndexFunc_Demand_c46 at h
  refine Fn.of_body Tt_ok Try.func61 (by kernel_rfl) rfl Try.ntmps61 (by simp) ?_
  simp only [Try.f61, argFr, List.zipIdx, List.map, Nat.reduceAdd]
  refine WP.seq_k (fun K605 hK605 => Wr Tt_ok rfl (R_assign rfl (Pn rfl (hK605 _ _ _ (WP.seq_k (fun K606 hK606 => WP.seq_k (fun K607 hK607 => Wr Tt_ok rfl (R_move rfl (Pc rfl rfl (R_lenS rfl rfl rfl ?_))))))))))
  refine Pc rfl rfl (R_move rfl (Pn rfl (hK607 _ _ _ ?_)))
  obtain ⟨o608, h608, h⟩ := obind h
  refine WP.cutK (fun fr_ μ_ L_ => (.inl ()) = o608 ∧ SubFr [] fr_ ∧ SegSub ([(g1, .cells #[.int .i64 b1.Container, .int .i64 b1.Node, .int .i64 b1.Kind, .int .i64 b1.Grams, .int .i64 b1.When.From, .int .i64 b1.When.To, .int .i64 b1.Service] 79 (0, 0))] :: L) L_ ∧ μ = μ_) ?_ ?_
  · refine WP.block (WP.iter h608 (fun (v1 : Int) fr_ μ_ L_ => SubFr [(0, .slice A1 s1.length c1), (1, .func (.func 46) #[] #[.pointer (some ⟨g1, 0, none⟩)]), (7, .int .i64 ((s1.length : Nat) : Int)), (8, .int .i64 v1)] fr_ ∧ SegSub ([(g1, .cells #[.int .i64 b1.Container, .int .i64 b1.Node, .int .i64 b1.Kind, .int .i64 b1.Grams, .int .i64 b1.When.From, .int .i64 b1.When.To, .int .i64 b1.Service] 79 (0, 0))] :: L) L_ ∧ μ = μ_) ⟨SubFr.of ⟨rfl, rfl, rfl, rfl, trivial⟩, SegSub.sel _ [some 0] 1, rfl⟩ ?_)
    rintro v1 q624 fr624 μ624 L624 hm624 ⟨hF624, hS624, hu624⟩ hb624 hq624
    unfold slices_IndexFunc_Demand_c46_l1 at hb624
    subst hu624
    refine WP.at hF624 hS624 (WP.seq_k (fun K628 hK628 => Wr Tt_ok rfl (R_lssD rfl rfl (Pn rfl (hK628 _ _ _ (WP.seq_k (fun K629 hK629 => ?_)))))))
    refine W_cond_v (b := (decide (v1 < ((s1.length : Nat) : Int)))) rfl (fun hc1 => ?_) (fun hc1 => ?_)
    · replace hb624 := cond_t hc1 hb624
      refine WP.skip (hK629 _ _ _ (WP.seq_k (fun K630 hK630 => WP.block (WP.seq_k (fun K631 hK631 => Wr Tt_ok rfl (R_move rfl (Pc rfl rfl (R_assign rfl (Pn rfl (hK631 _ _ _ (WP.seq_k (fun K632 hK632 => WP.region Tt_ok ?_))))))))))))
      refine O_cons (O_read rfl (R_move rfl (Pc rfl rfl (R_move rfl (Pc rfl rfl (R_move rfl (P_some rfl (O_cons ?_))))))))
      obtain ⟨x1, hx1, hb624⟩ := obind hb624
      obtain ⟨a1, cs1, hA2, hr1, _, hc2⟩ := Rds.getI hA1 hx1
      obtain rfl := hr1
      refine O_read rfl (R_iaG rfl rfl rfl rfl rfl rfl ⟨(getI_lt hx1).1, (getI_lt hx1).2.1⟩ hA2 (Pc rfl rfl (R_loadA rfl rfl rfl rfl (Ex.mk [.int .i64 x1.Container, .int .i64 x1.Node, .int .i64 x1.Kind, .int .i64 x1.Grams, .int .i64 x1.When.From, .int .i64 x1.When.To, .int .i64 x1.Service] ⟨rfl, (hc2.push)⟩ (P_some rfl (O_cons (O_call (all := [.agg #[.int .i64 x1.Container, .int .i64 x1.Node, .int .i64 x1.Kind, .int .i64 x1.Grams, .int .i64 x1.When.From, .int .i64 x1.When.To, .int .i64 x1.Service], .pointer (some ⟨g1, 0, none⟩)]) rfl rfl rfl ?_)))))))
      obtain ⟨r1, hx2, hb624⟩ := obind hb624
      refine demand_Check_1_fn  hx2 ((Pn rfl (hK632 _ _ _ ?_)))
      refine W_cond_v (b := r1) rfl (fun hc3 => ?_) (fun hc3 => ?_)
      · replace hb624 := cond_t hc3 hb624
        refine WP.seq_k (fun K634 hK634 => Wr Tt_ok rfl (R_move rfl (Pc rfl rfl (R_assign rfl (Pn rfl (hK634 _ _ _ (WP.ret ?_)))))))
        have e_ := Option.some.inj hb624
        subst e_
        have hq_ := hq624 _ rfl
        subst hq_
        replace h := osum_r h
        have e_ := Option.some.inj h
        subst e_
        refine S_tmp rfl (S_nil (Upd.seg (L2 := ([(g1, .cells #[.int .i64 b1.Container, .int .i64 b1.Node, .int .i64 b1.Kind, .int .i64 b1.Grams, .int .i64 b1.When.From, .int .i64 b1.When.To, .int .i64 b1.Service] 79 (0, 0))] :: L)) (SegSub.trans (SegSub.flat (by simp [selS])) (SegSub.sel _ [some 0] 1)) ?_))
        exact Upd.done hR
      replace hb624 := cond_f hc3 hb624
      refine WP.skip (hK630 _ _ _ (Wr Tt_ok rfl (R_add rfl rfl (Pc rfl rfl (R_move rfl (Pn rfl ?_))))))
      have e_ := Option.some.inj hb624
      subst e_
      exact ⟨_, rfl, SubFr.of ⟨rfl, rfl, rfl, rfl, trivial⟩, SegSub.sel _ [some 0] 1, rfl⟩
    replace hb624 := cond_f hc1 hb624
    refine WP.exit (B_here ?_)
    have e_ := Option.some.inj hb624
    subst e_
    have hq_ := hq624 _ rfl
    subst hq_
    exact ⟨rfl, SubFr.of trivial, SegSub.sel _ [some 0] 1, rfl⟩
  rintro fr608 μ608 L608 hm608 ⟨ho608, hF608, hS608, hu608⟩
  subst ho608
  replace h := osum_l h
  subst hu608
  refine hK606 _ _ _ (WP.at hF608 hS608 (WP.seq_k (fun K637 hK637 => Wr Tt_ok rfl (R_assign rfl (Pn rfl (hK637 _ _ _ (WP.ret ?_)))))))
  have e_ := Option.some.inj h
  subst e_
  refine S_tmp rfl (S_nil (Upd.seg (L2 := ([(g1, .cells #[.int .i64 b1.Container, .int .i64 b1.Node, .int .i64 b1.Kind, .int .i64 b1.Grams, .int .i64 b1.When.From, .int .i64 b1.When.To, .int .i64 b1.Service] 79 (0, 0))] :: L)) (SegSub.trans (SegSub.flat (by simp [selS])) (SegSub.sel _ [some 0] 1)) ?_))
  exact Upd.done hR

theorem slices_ContainsFunc_Demand_c46_fn {μ : Gh} {L : List Seg} {R : Value → Gh → List Seg → Prop}  {s1 : (List T_api_Demand)} {b1 : T_api_Demand} {A1 : Option Addr} {c1 : Nat} {g1 : Nat} {res1 : Bool}
    (hl1 : s1.length ≤ c1 ∧ c1 ≤ maxLen) (hA1 : Rds r_api_Demand μ L A1 s1) (h : slices_ContainsFunc_Demand_c46 s1 b1 = some res1)
    (hR : R (.bool res1) μ ([(g1, .cells #[.int .i64 b1.Container, .int .i64 b1.Node, .int .i64 b1.Kind, .int .i64 b1.Grams, .int .i64 b1.When.From, .int .i64 b1.When.To, .int .i64 b1.Service] 79 (0, 0))] :: L)) :
    Fn Try.prog 45 [.slice A1 s1.length c1, .func (.func 46) #[] #[.pointer (some ⟨g1, 0, none⟩)]] μ ([(g1, .cells #[.int .i64 b1.Container, .int .i64 b1.Node, .int .i64 b1.Kind, .int .i64 b1.Grams, .int .i64 b1.When.From, .int .i64 b1.When.To, .int .i64 b1.Service] 79 (0, 0))] :: L) R := by
  unfold slices_ContainsFunc_Demand_c46 at h
  refine Fn.of_body Tt_ok Try.func45 (by kernel_rfl) rfl Try.ntmps45 (by simp) ?_
  simp only [Try.f45, argFr, List.zipIdx, List.map, Nat.reduceAdd]
  refine WP.seq_k (fun K601 hK601 => Wr Tt_ok rfl (R_assign rfl (Pn rfl (hK601 _ _ _ (WP.seq_k (fun K602 hK602 => Wr Tt_ok rfl (R_move rfl (Pc rfl rfl (R_move rfl (P_some rfl ?_))))))))))
  refine O_cons (O_call (all := [.slice A1 s1.length c1, .func (.func 46) #[] #[.pointer (some ⟨g1, 0, none⟩)]]) rfl rfl rfl ?_)
  obtain ⟨r1, hx1, h⟩ := obind h
  refine slices_IndexFunc_Demand_c46_fn hl1 hA1 hx1 ((Pc rfl rfl (R_geqD rfl rfl (Pc rfl rfl (R_assign rfl (Pn rfl (hK602 _ _ _ (WP.ret ?_))))))))
  have e_ := Option.some.inj h
  subst e_
  refine S_tmp rfl (S_nil (Upd.seg (L2 := ([(g1, .cells #[.int .i64 b1.Container, .int .i64 b1.Node, .int .i64 b1.Kind, .int .i64 b1.Grams, .int .i64 b1.When.From, .int .i64 b1.When.To, .int .i64 b1.Service] 79 (0, 0))] :: L)) (SegSub.trans (SegSub.flat (by simp [selS])) (SegSub.sel _ [some 0] 1)) ?_))
  exact Upd.done hR

theorem demand_Check_fn {μ : Gh} {L : List Seg} {R : Value → Gh → List Seg → Prop}  {l1 : (List T_api_Demand)} {nodes1 : Int} {materials1 : Int} {A1 : Option Addr} {c1 : Nat} {res1 : Int}
    (hl1 : l1.length ≤ c1 ∧ c1 ≤ maxLen) (hA1 : Rds r_api_Demand μ L A1 l1) (h : demand_Check l1 nodes1 materials1 = some res1)
    (hR : R (.int .i64 res1) μ (L)) :
    Fn Try.prog 30 [.slice A1 l1.length c1, .int .i64 nodes1, .int .i64 materials1] μ (L) R := by
  unfold demand_Check at h
  refine Fn.of_body Tt_ok Try.func30 (by kernel_rfl) rfl Try.ntmps30 (by simp) ?_
  simp only [Try.f30, argFr, List.zipIdx, List.map, Nat.reduceAdd]
  refine WP.seq_k (fun K545 hK545 => Wr Tt_ok rfl (R_assign rfl (Pn rfl (hK545 _ _ _ (WP.seq_k (fun K546 hK546 => WP.seq_k (fun K547 hK547 => Wr Tt_ok rfl (R_move rfl (Pc rfl rfl (R_lenS rfl rfl rfl ?_))))))))))
  refine Pc rfl rfl (R_gtrD rfl rfl (Pn rfl (hK547 _ _ _ ?_)))
  refine W_cond_v (b := (decide (32 < ((l1.length : Nat) : Int)))) rfl (fun hc1 => ?_) (fun hc1 => ?_)
  · replace h := cond_t hc1 h
    refine WP.seq_k (fun K548 hK548 => Wr Tt_ok rfl (R_assign rfl (Pn rfl (hK548 _ _ _ (WP.ret ?_)))))
    have e_ := Option.some.inj h
    subst e_
    refine S_tmp rfl (S_nil (Upd.selS [] 0 ?_))
    exact Upd.done hR
  replace h := cond_f hc1 h
  refine WP.skip (hK546 _ _ _ (WP.seq_k (fun K549 hK549 => WP.seq_k (fun K550 hK550 => Wr Tt_ok rfl (R_move rfl (Pc rfl rfl (R_lenS rfl rfl rfl (Pc rfl rfl (R_move rfl (Pn rfl ?_))))))))))
  refine hK550 _ _ _ ?_
  obtain ⟨o551, h551, h⟩ := obind h
  refine WP.cutK (fun fr_ μ_ L_ => (.inl ()) = o551 ∧ SubFr [(0, .slice A1 l1.length c1)] fr_ ∧ SegSub (L) L_ ∧ μ = μ_) ?_ ?_
  · refine WP.block (WP.iter h551 (fun (v1 : Int) fr_ μ_ L_ => SubFr [(0, .slice A1 l1.length c1), (1, .int .i64 nodes1), (2, .int .i64 materials1), (15, .slice A1 l1.length c1), (16, .int .i64 ((l1.length : Nat) : Int)), (17, .int .i64 v1)] fr_ ∧ SegSub (L) L_ ∧ μ = μ_) ⟨SubFr.of ⟨rfl, rfl, rfl, rfl, rfl, rfl, trivial⟩, SegSub.sel _ [] 0, rfl⟩ ?_)
    rintro v1 q577 fr577 μ577 L577 hm577 ⟨hF577, hS577, hu577⟩ hb577 hq577
    unfold demand_Check_l1 at hb577
    subst hu577
    refine WP.at hF577 hS577 (WP.seq_k (fun K578 hK578 => Wr Tt_ok rfl (R_lssD rfl rfl (Pn rfl (hK578 _ _ _ (WP.seq_k (fun K579 hK579 => ?_)))))))
    refine W_cond_v (b := (decide (v1 < ((l1.length : Nat) : Int)))) rfl (fun hc2 => ?_) (fun hc2 => ?_)
    · replace hb577 := cond_t hc2 hb577
      refine WP.skip (hK579 _ _ _ (WP.seq_k (fun K580 hK580 => WP.block (WP.seq_k (fun K581 hK581 => WP.region Tt_ok (O_cons ?_))))))
      obtain ⟨x1, hx1, hb577⟩ := obind hb577
      obtain ⟨a1, cs1, hA2, hr1, _, hc3⟩ := Rds.getI hA1 hx1
      obtain rfl := hr1
      refine O_read rfl (R_iaG rfl rfl rfl rfl rfl rfl ⟨(getI_lt hx1).1, (getI_lt hx1).2.1⟩ hA2 (Pc rfl rfl (R_loadA rfl rfl rfl rfl (Ex.mk [.int .i64 x1.Container, .int .i64 x1.Node, .int .i64 x1.Kind, .int .i64 x1.Grams, .int .i64 x1.When.From, .int .i64 x1.When.To, .int .i64 x1.Service] ⟨rfl, hc3⟩ (P_some rfl (O_cons (O_alloc (cs := #[.int .i64 0, .int .i64 0, .int .i64 0, .int .i64 0, .int .i64 0, .int .i64 0, .int .i64 0]) rfl rfl (fun g1 => P_some rfl (O_cons (O_store (vs := [.int .i64 x1.Container, .int .i64 x1.Node, .int .i64 x1.Kind, .int .i64 x1.Grams, .int .i64 x1.When.From, .int .i64 x1.When.To, .int .i64 x1.Service]) rfl rfl rfl rfl rfl rfl (ST_ (L' := ([(g1, .cells #[.int .i64 x1.Container, .int .i64 x1.Node, .int .i64 x1.Kind, .int .i64 x1.Grams, .int .i64 x1.When.From, .int .i64 x1.When.To, .int .i64 x1.Service] 79 (0, 0))] :: L)) 0 0 rfl rfl rfl rfl ?_)))))))))))
      refine P_none (O_nil (hK581 _ _ _ (WP.seq_k (fun K584 hK584 => Wr Tt_ok rfl (R_loadA rfl rfl rfl rfl (LA_ (vs := [.int .i64 x1.Container, .int .i64 x1.Node, .int .i64 x1.Kind, .int .i64 x1.Grams, .int .i64 x1.When.From, .int .i64 x1.When.To, .int .i64 x1.Service]) 0 0 rfl rfl rfl rfl (Pc rfl rfl (R_move rfl (Pc rfl rfl (R_move rfl (P_some rfl ?_)))))))))))
      refine O_cons (O_call (all := [.agg #[.int .i64 x1.Container, .int .i64 x1.Node, .int .i64 x1.Kind, .int .i64 x1.Grams, .int .i64 x1.When.From, .int .i64 x1.When.To, .int .i64 x1.Service], .int .i64 nodes1, .int .i64 materials1]) rfl rfl rfl ?_)
      obtain ⟨r1, hx2, hb577⟩ := obind hb577
      refine demand_one_fn  hx2 ((Pc rfl rfl (R_assign rfl (Pn rfl (hK584 _ _ _ (WP.seq_k (fun K585 hK585 => Wr Tt_ok rfl (R_move rfl (Pc rfl rfl (R_neqD rfl rfl (P_some rfl ?_)))))))))))
      refine O_nil (hK585 _ _ _ ?_)
      refine W_cond_v (b := !(decide (r1 = 0))) rfl (fun hc4 => ?_) (fun hc4 => ?_)
      · replace hb577 := cond_t hc4 hb577
        refine WP.seq_k (fun K586 hK586 => Wr Tt_ok rfl (R_move rfl (Pc rfl rfl (R_assign rfl (Pn rfl (hK586 _ _ _ (WP.ret ?_)))))))
        have e_ := Option.some.inj hb577
        subst e_
        have hq_ := hq577 _ rfl
        subst hq_
        replace h := osum_r h
        have e_ := Option.some.inj h
        subst e_
        refine S_tmp rfl (S_nil (Upd.selS [] 1 ?_))
        exact Upd.done hR
      replace hb577 := cond_f hc4 hb577
      refine WP.skip (hK580 _ _ _ (Wr Tt_ok rfl (R_add rfl rfl (Pc rfl rfl (R_move rfl (Pn rfl ?_))))))
      have e_ := Option.some.inj hb577
      subst e_
      exact ⟨_, rfl, SubFr.of ⟨rfl, rfl, rfl, rfl, rfl, rfl, trivial⟩, SegSub.sel _ [] 1, rfl⟩
    replace hb577 := cond_f hc2 hb577
    refine WP.exit (B_here ?_)
    have e_ := Option.some.inj hb577
    subst e_
    have hq_ := hq577 _ rfl
    subst hq_
    exact ⟨rfl, SubFr.of ⟨rfl, trivial⟩, SegSub.sel _ [] 0, rfl⟩
  rintro fr551 μ551 L551 hm551 ⟨ho551, hF551, hS551, hu551⟩
  subst ho551
  replace h := osum_l h
  subst hu551
  refine hK549 _ _ _ (WP.at hF551 hS551 (WP.seq_k (fun K587 hK587 => WP.seq_k (fun K588 hK588 => Wr Tt_ok rfl (R_move rfl (Pc rfl rfl (R_lenS rfl rfl rfl (Pc rfl rfl (R_move rfl (Pn rfl ?_))))))))))
  refine hK588 _ _ _ ?_
  obtain ⟨o589, h589, h⟩ := obind h
  refine WP.cutK (fun fr_ μ_ L_ => (.inl ()) = o589 ∧ SubFr [] fr_ ∧ SegSub (L) L_ ∧ μ = μ_) ?_ ?_
  · refine WP.block (WP.iter h589 (fun (v2 : Int) fr_ μ_ L_ => SubFr [(0, .slice A1 l1.length c1), (29, .slice A1 l1.length c1), (30, .int .i64 ((l1.length : Nat) : Int)), (31, .int .i64 v2)] fr_ ∧ SegSub (L) L_ ∧ μ = μ_) ⟨SubFr.of ⟨rfl, rfl, rfl, rfl, trivial⟩, SegSub.sel _ [] 0, rfl⟩ ?_)
    rintro v2 q641 fr641 μ641 L641 hm641 ⟨hF641, hS641, hu641⟩ hb641 hq641
    unfold demand_Check_l2 at hb641
    subst hu641
    refine WP.at hF641 hS641 (WP.seq_k (fun K642 hK642 => Wr Tt_ok rfl (R_lssD rfl rfl (Pn rfl (hK642 _ _ _ (WP.seq_k (fun K643 hK643 => ?_)))))))
    refine W_cond_v (b := (decide (v2 < ((l1.length : Nat) : Int)))) rfl (fun hc5 => ?_) (fun hc5 => ?_)
    · replace hb641 := cond_t hc5 hb641
      refine WP.skip (hK643 _ _ _ (WP.seq_k (fun K644 hK644 => WP.block (WP.seq_k (fun K645 hK645 => Wr Tt_ok rfl (R_move rfl (P_some rfl (O_cons ?_))))))))
      obtain ⟨x2, hx3, hb641⟩ := obind hb641
      obtain ⟨a2, cs2, hA3, hr2, _, hc6⟩ := Rds.getI hA1 hx3
      obtain rfl := hr2
      refine O_read rfl (R_iaG rfl rfl rfl rfl rfl rfl ⟨(getI_lt hx3).1, (getI_lt hx3).2.1⟩ hA3 (Pc rfl rfl (R_loadA rfl rfl rfl rfl (Ex.mk [.int .i64 x2.Container, .int .i64 x2.Node, .int .i64 x2.Kind, .int .i64 x2.Grams, .int .i64 x2.When.From, .int .i64 x2.When.To, .int .i64 x2.Service] ⟨rfl, hc6⟩ (P_some rfl (O_cons (O_alloc (cs := #[.int .i64 0, .int .i64 0, .int .i64 0, .int .i64 0, .int .i64 0, .int .i64 0, .int .i64 0]) rfl rfl (fun g2 => Pc rfl rfl (R_assign rfl (P_some rfl (O_cons (O_store (vs := [.int .i64 x2.Container, .int .i64 x2.Node, .int .i64 x2.Kind, .int .i64 x2.Grams, .int .i64 x2.When.From, .int .i64 x2.When.To, .int .i64 x2.Service]) rfl rfl rfl rfl rfl rfl (ST_ (L' := ([(g2, .cells #[.int .i64 x2.Container, .int .i64 x2.Node, .int .i64 x2.Kind, .int .i64 x2.Grams, .int .i64 x2.When.From, .int .i64 x2.When.To, .int .i64 x2.Service] 79 (0, 0))] :: L)) 0 0 rfl rfl rfl rfl ?_)))))))))))))
      refine P_none (O_nil (hK645 _ _ _ (WP.seq_k (fun K648 hK648 => Wr Tt_ok rfl (R_move rfl (Pc rfl rfl (R_move rfl (P_some rfl (O_cons ?_)))))))))
      obtain ⟨l2, hs1, hb641⟩ := obind hb641
      refine O_read rfl (R_slHiS rfl rfl rfl rfl rfl rfl hl1.1 hs1 ?_)
      have hA4 := Rds.pre hA1 hs1
      have hl2 := preLen hl1 hs1
      refine Pc rfl rfl (R_mkf rfl rfl (P_some rfl (O_cons (O_call (all := [.slice A1 l2.length c1, .func (.func 46) #[] #[.pointer (some ⟨g2, 0, none⟩)]]) rfl rfl rfl ?_))))
      obtain ⟨r2, hx4, hb641⟩ := obind hb641
      refine slices_ContainsFunc_Demand_c46_fn hl2 hA4 hx4 ((Pn rfl (hK648 _ _ _ ?_)))
      refine W_cond_v (b := r2) rfl (fun hc7 => ?_) (fun hc7 => ?_)
      · replace hb641 := cond_t hc7 hb641
        refine WP.seq_k (fun K651 hK651 => Wr Tt_ok rfl (R_assign rfl (Pn rfl (hK651 _ _ _ (WP.ret ?_)))))
        have e_ := Option.some.inj hb641
        subst e_
        have hq_ := hq641 _ rfl
        subst hq_
        replace h := osum_r h
        have e_ := Option.some.inj h
        subst e_
        refine S_tmp rfl (S_nil (Upd.selS [] 1 ?_))
        exact Upd.done hR
      replace hb641 := cond_f hc7 hb641
      refine WP.skip (hK644 _ _ _ (Wr Tt_ok rfl (R_add rfl rfl (Pc rfl rfl (R_move rfl (Pn rfl ?_))))))
      have e_ := Option.some.inj hb641
      subst e_
      exact ⟨_, rfl, SubFr.of ⟨rfl, rfl, rfl, rfl, trivial⟩, SegSub.sel _ [] 1, rfl⟩
    replace hb641 := cond_f hc5 hb641
    refine WP.exit (B_here ?_)
    have e_ := Option.some.inj hb641
    subst e_
    have hq_ := hq641 _ rfl
    subst hq_
    exact ⟨rfl, SubFr.of trivial, SegSub.sel _ [] 0, rfl⟩
  rintro fr589 μ589 L589 hm589 ⟨ho589, hF589, hS589, hu589⟩
  subst ho589
  replace h := osum_l h
  subst hu589
  refine hK587 _ _ _ (WP.at hF589 hS589 (WP.seq_k (fun K652 hK652 => Wr Tt_ok rfl (R_assign rfl (Pn rfl (hK652 _ _ _ (WP.ret ?_)))))))
  have e_ := Option.some.inj h
  subst e_
  refine S_tmp rfl (S_nil (Upd.selS [] 0 ?_))
  exact Upd.done hR

theorem tour_Check_fn {μ : Gh} {L : List Seg} {R : Value → Gh → List Seg → Prop} {F : Nat} {p1 : T_api_Problem} {A1 : Option Addr} {c1 : Nat} {A2 : Option Addr} {c2 : Nat} {A3 : Option Addr} {c3 : Nat} {res1 : Int}
    (hl1 : p1.Road.Edges.length ≤ c1 ∧ c1 ≤ maxLen) (hA1 : ArrR r_api_Edge μ A1 p1.Road.Edges) (hl2 : p1.Vehicles.length ≤ c2 ∧ c2 ≤ maxLen) (hA2 : ArrR r_api_Vehicle μ A2 p1.Vehicles) (hl3 : p1.Demands.length ≤ c3 ∧ c3 ≤ maxLen) (hA3 : ArrR r_api_Demand μ A3 p1.Demands) (h : tour_Check F p1 = some res1)
    (hR : ∀ (μ' : Gh) , μ.le μ' → R (.int .i64 res1) μ' (L)) :
    Fn Try.prog 13 [.agg #[.int .i64 p1.Road.Nodes, .slice A1 p1.Road.Edges.length c1, .slice A2 p1.Vehicles.length c2, .slice A3 p1.Demands.length c3, .int .i64 p1.Unload, .int .i64 p1.UnloadSecs]] μ (L) R := by
  unfold tour_Check at h
  refine Fn.of_body Tt_ok Try.func13 (by kernel_rfl) rfl Try.ntmps13 (by simp) ?_
  simp only [Try.f13, argFr, List.zipIdx, List.map, Nat.reduceAdd]
  refine WP.seq_k (fun K668 hK668 => WP.region Tt_ok (O_cons (O_box (cs := #[.int .i64 p1.Road.Nodes, .slice A1 p1.Road.Edges.length c1, .slice A2 p1.Vehicles.length c2, .slice A3 p1.Demands.length c3, .int .i64 p1.Unload, .int .i64 p1.UnloadSecs]) rfl rfl (fun g1 => Pc rfl rfl (R_assign rfl (Pn rfl (hK668 _ _ _ (WP.seq_k (fun K670 hK670 => WP.seq_k (fun K671 hK671 => Wr Tt_ok rfl (R_fa0 (o' := 0) rfl rfl rfl rfl rfl rfl (P_some rfl ?_))))))))))))
  refine O_cons (O_read rfl (R_loadA rfl rfl rfl rfl (LA_ (vs := [.int .i64 p1.Road.Nodes, .slice A1 p1.Road.Edges.length c1]) 0 0 rfl rfl rfl rfl (P_some rfl (O_cons (O_call (all := [.agg #[.int .i64 p1.Road.Nodes, .slice A1 p1.Road.Edges.length c1]]) rfl rfl rfl ?_))))))
  obtain ⟨r1, hx1, h⟩ := obind h
  refine road_Check_fn hl1 hA1 hx1 (fun v1 hm_1 => ?_)
  replace hA1 := hA1.mono hm_1
  replace hA2 := hA2.mono hm_1
  replace hA3 := hA3.mono hm_1
  refine Pc rfl rfl (R_assign rfl (Pn rfl (hK671 _ _ _ (WP.seq_k (fun K672 hK672 => Wr Tt_ok rfl (R_move rfl (Pc rfl rfl (R_neqD rfl rfl (Pn rfl ?_)))))))))
  refine hK672 _ _ _ ?_
  refine W_cond_v (b := !(decide (r1 = 0))) rfl (fun hc1 => ?_) (fun hc1 => ?_)
  · replace h := cond_t hc1 h
    refine WP.seq_k (fun K673 hK673 => Wr Tt_ok rfl (R_move rfl (Pc rfl rfl (R_assign rfl (Pn rfl (hK673 _ _ _ (WP.ret ?_)))))))
    have e_ := Option.some.inj h
    subst e_
    refine S_tmp rfl (S_nil (Upd.selS [] 1 ?_))
    exact Upd.done (hR _ (hm_1))
  replace h := cond_f hc1 h
  refine WP.skip (hK670 _ _ _ (WP.seq_k (fun K674 hK674 => WP.seq_k (fun K675 hK675 => Wr Tt_ok rfl (R_fa0 (o' := 2) rfl rfl rfl rfl rfl rfl (Pc rfl rfl (R_load rfl rfl rfl (Ex.mk _ (Cell.seg 0 0 rfl rfl rfl) (Pc rfl rfl (R_fa0 (o' := 0) rfl rfl rfl rfl rfl rfl (P_some rfl ?_)))))))))))
  refine O_cons (O_read rfl (R_fa0 (o' := 0) rfl rfl rfl rfl rfl rfl (Pc rfl rfl (R_load rfl rfl rfl (Ex.mk _ (Cell.seg 0 0 rfl rfl rfl) (P_some rfl (O_cons (O_call (all := [.slice A2 p1.Vehicles.length c2, .int .i64 p1.Road.Nodes, .int .i64 16]) rfl rfl rfl ?_))))))))
  obtain ⟨r2, hx2, h⟩ := obind h
  refine vehicle_Check_fn hl2 (ArrR.rds hA2 ([(g1, .cells #[.int .i64 p1.Road.Nodes, .slice A1 p1.Road.Edges.length c1, .slice A2 p1.Vehicles.length c2, .slice A3 p1.Demands.length c3, .int .i64 p1.Unload, .int .i64 p1.UnloadSecs] 28 (0, 0))] :: L)) hx2 ((Pc rfl rfl (R_assign rfl (Pn rfl (hK675 _ _ _ (WP.seq_k (fun K676 hK676 => Wr Tt_ok rfl (R_move rfl (Pc rfl rfl (R_neqD rfl rfl (P_some rfl ?_)))))))))))
  refine O_nil (hK676 _ _ _ ?_)
  refine W_cond_v (b := !(decide (r2 = 0))) rfl (fun hc2 => ?_) (fun hc2 => ?_)
  · replace h := cond_t hc2 h
    refine WP.seq_k (fun K677 hK677 => Wr Tt_ok rfl (R_move rfl (Pc rfl rfl (R_assign rfl (Pn rfl (hK677 _ _ _ (WP.ret ?_)))))))
    have e_ := Option.some.inj h
    subst e_
    refine S_tmp rfl (S_nil (Upd.selS [] 1 ?_))
    exact Upd.done (hR _ (hm_1))
  replace h := cond_f hc2 h
  refine WP.skip (hK674 _ _ _ (WP.seq_k (fun K678 hK678 => WP.seq_k (fun K679 hK679 => Wr Tt_ok rfl (R_fa0 (o' := 3) rfl rfl rfl rfl rfl rfl (Pc rfl rfl (R_load rfl rfl rfl (Ex.mk _ (Cell.seg 0 0 rfl rfl rfl) (Pc rfl rfl (R_fa0 (o' := 0) rfl rfl rfl rfl rfl rfl (P_some rfl ?_)))))))))))
  refine O_cons (O_read rfl (R_fa0 (o' := 0) rfl rfl rfl rfl rfl rfl (Pc rfl rfl (R_load rfl rfl rfl (Ex.mk _ (Cell.seg 0 0 rfl rfl rfl) (P_some rfl (O_cons (O_call (all := [.slice A3 p1.Demands.length c3, .int .i64 p1.Road.Nodes, .int .i64 16]) rfl rfl rfl ?_))))))))
  obtain ⟨r3, hx3, h⟩ := obind h
  refine demand_Check_fn hl3 (ArrR.rds hA3 ([(g1, .cells #[.int .i64 p1.Road.Nodes, .slice A1 p1.Road.Edges.length c1, .slice A2 p1.Vehicles.length c2, .slice A3 p1.Demands.length c3, .int .i64 p1.Unload, .int .i64 p1.UnloadSecs] 28 (0, 0))] :: L)) hx3 ((Pc rfl rfl (R_assign rfl (Pn rfl (hK679 _ _ _ (WP.seq_k (fun K680 hK680 => Wr Tt_ok rfl (R_move rfl (Pc rfl rfl (R_neqD rfl rfl (P_some rfl ?_)))))))))))
  refine O_nil (hK680 _ _ _ ?_)
  refine W_cond_v (b := !(decide (r3 = 0))) rfl (fun hc3 => ?_) (fun hc3 => ?_)
  · replace h := cond_t hc3 h
    refine WP.seq_k (fun K681 hK681 => Wr Tt_ok rfl (R_move rfl (Pc rfl rfl (R_assign rfl (Pn rfl (hK681 _ _ _ (WP.ret ?_)))))))
    have e_ := Option.some.inj h
    subst e_
    refine S_tmp rfl (S_nil (Upd.selS [] 1 ?_))
    exact Upd.done (hR _ (hm_1))
  replace h := cond_f hc3 h
  refine WP.skip (hK678 _ _ _ (WP.seq_k (fun K682 hK682 => WP.block (WP.seq_k (fun K683 hK683 => ?_)))))
  obtain ⟨o684, h684, h⟩ := obind h
  refine WP.cutK (fun fr_ μ_ L_ => ∃ (v2 : Bool), v2 = o684 ∧ SubFr [(1, .pointer (some ⟨g1, 0, none⟩)), (30, .bool v2)] fr_ ∧ SegSub ([(g1, .cells #[.int .i64 p1.Road.Nodes, .slice A1 p1.Road.Edges.length c1, .slice A2 p1.Vehicles.length c2, .slice A3 p1.Demands.length c3, .int .i64 p1.Unload, .int .i64 p1.UnloadSecs] 28 (0, 0))] :: L) L_) ?_ ?_
  · refine Wr Tt_ok rfl (R_fa0 (o' := 4) rfl rfl rfl rfl rfl rfl (Pc rfl rfl (R_load rfl rfl rfl (Ex.mk _ (Cell.seg 0 0 rfl rfl rfl) (Pc rfl rfl (R_lssD rfl rfl (Pc rfl rfl (R_move rfl (P_some rfl ?_)))))))))
    refine O_gv (z := (decide (p1.Unload < 0))) rfl rfl (fun hc4 => ?_) (fun hc4 => ?_)
    · replace h684 := cond_f hc4 h684
      refine O_read rfl (R_fa0 (o' := 4) rfl rfl rfl rfl rfl rfl (P_some rfl (O_gY rfl rfl hc4 (O_read rfl (R_load rfl rfl rfl (Ex.mk _ (Cell.seg 0 0 rfl rfl rfl) (P_some rfl (O_gY rfl rfl hc4 (O_read rfl (R_fa0 (o' := 0) rfl rfl rfl rfl rfl rfl (P_some rfl (O_gY rfl rfl hc4 (O_read rfl (R_fa0 (o' := 0) rfl rfl rfl rfl rfl rfl (P_some rfl (O_gY rfl rfl hc4 (O_read rfl ?_)))))))))))))))))
      refine R_load rfl rfl rfl (Ex.mk _ (Cell.seg 0 0 rfl rfl rfl) (P_some rfl (O_gY rfl rfl hc4 (O_read rfl (R_geqD rfl rfl (Pc rfl rfl (R_pick_F rfl hc4 rfl (Pc rfl rfl (R_assign rfl (Pn rfl ?_))))))))))
      have e_ := Option.some.inj h684
      subst e_
      exact ⟨(decide (p1.Road.Nodes ≤ p1.Unload)), rfl, SubFr.of ⟨rfl, rfl, trivial⟩, SegSub.sel _ [some 0] 1⟩
    replace h684 := cond_t hc4 h684
    refine P_some rfl (O_gN rfl rfl hc4 (P_some rfl (O_gN rfl rfl hc4 (P_some rfl (O_gN rfl rfl hc4 (P_some rfl (O_gN rfl rfl hc4 (P_some rfl (O_gN rfl rfl hc4 (Pc rfl rfl (R_pick_T rfl hc4 rfl (Pc rfl rfl (R_assign rfl ?_)))))))))))))
    refine Pn rfl ?_
    have e_ := Option.some.inj h684
    subst e_
    exact ⟨true, rfl, SubFr.of ⟨rfl, rfl, trivial⟩, SegSub.sel _ [some 0] 1⟩
  rintro fr684 μ684 L684 hm684 ⟨v2, ho684, hF684, hS684⟩
  subst ho684
  replace hA1 := hA1.mono hm684
  replace hA2 := hA2.mono hm684
  replace hA3 := hA3.mono hm684
  refine hK683 _ _ _ (WP.at hF684 hS684 ?_)
  refine W_cond_v (b := v2) rfl (fun hc5 => ?_) (fun hc5 => ?_)
  · replace h := cond_t hc5 h
    refine WP.seq_k (fun K687 hK687 => Wr Tt_ok rfl (R_assign rfl (Pn rfl (hK687 _ _ _ (WP.ret ?_)))))
    have e_ := Option.some.inj h
    subst e_
    refine S_tmp rfl (S_nil (Upd.selS [] 1 ?_))
    exact Upd.done (hR _ (Gh.le.trans hm_1 (hm684)))
  replace h := cond_f hc5 h
  refine WP.seq_k ?_; intro K688 hK688
  obtain ⟨o689, h689, h⟩ := obind h
  refine WP.cutK (fun fr_ μ_ L_ => ∃ (v3 : Bool), v3 = o689 ∧ SubFr [(42, .bool v3)] fr_ ∧ SegSub (L) L_) ?_ ?_
  · refine Wr Tt_ok rfl (R_fa0 (o' := 5) rfl rfl rfl rfl rfl rfl (Pc rfl rfl (R_load rfl rfl rfl (Ex.mk _ (Cell.seg 0 0 rfl rfl rfl) (Pc rfl rfl (R_lssD rfl rfl (Pc rfl rfl (R_move rfl (P_some rfl ?_)))))))))
    refine O_gv (z := (decide (p1.UnloadSecs < 0))) rfl rfl (fun hc6 => ?_) (fun hc6 => ?_)
    · replace h689 := cond_f hc6 h689
      refine O_read rfl (R_fa0 (o' := 5) rfl rfl rfl rfl rfl rfl (P_some rfl (O_gY rfl rfl hc6 (O_read rfl (R_load rfl rfl rfl (Ex.mk _ (Cell.seg 0 0 rfl rfl rfl) (P_some rfl (O_gY rfl rfl hc6 (O_read rfl (R_gtrD rfl rfl (Pc rfl rfl (R_pick_F rfl hc6 rfl (Pc rfl rfl ?_)))))))))))))
      refine R_assign rfl (Pn rfl ?_)
      have e_ := Option.some.inj h689
      subst e_
      exact ⟨(decide (7200 < p1.UnloadSecs)), rfl, SubFr.of ⟨rfl, trivial⟩, SegSub.sel _ [] 1⟩
    replace h689 := cond_t hc6 h689
    refine P_some rfl (O_gN rfl rfl hc6 (P_some rfl (O_gN rfl rfl hc6 (Pc rfl rfl (R_pick_T rfl hc6 rfl (Pc rfl rfl (R_assign rfl (Pn rfl ?_))))))))
    have e_ := Option.some.inj h689
    subst e_
    exact ⟨true, rfl, SubFr.of ⟨rfl, trivial⟩, SegSub.sel _ [] 1⟩
  rintro fr689 μ689 L689 hm689 ⟨v3, ho689, hF689, hS689⟩
  subst ho689
  replace hA1 := hA1.mono hm689
  replace hA2 := hA2.mono hm689
  replace hA3 := hA3.mono hm689
  refine hK688 _ _ _ (WP.at hF689 hS689 ?_)
  refine W_cond_v (b := v3) rfl (fun hc7 => ?_) (fun hc7 => ?_)
  · replace h := cond_t hc7 h
    refine WP.seq_k (fun K690 hK690 => Wr Tt_ok rfl (R_assign rfl (Pn rfl (hK690 _ _ _ (WP.ret ?_)))))
    have e_ := Option.some.inj h
    subst e_
    refine S_tmp rfl (S_nil (Upd.selS [] 0 ?_))
    exact Upd.done (hR _ (Gh.le.trans hm_1 (Gh.le.trans hm684 (hm689))))
  replace h := cond_f hc7 h
  refine WP.skip (hK682 _ _ _ (WP.seq_k (fun K691 hK691 => Wr Tt_ok rfl (R_assign rfl (Pn rfl (hK691 _ _ _ (WP.ret ?_)))))))
  have e_ := Option.some.inj h
  subst e_
  refine S_tmp rfl (S_nil (Upd.selS [] 0 ?_))
  exact Upd.done (hR _ (Gh.le.trans hm_1 (Gh.le.trans hm684 (hm689))))

theorem slices_Index_int_fn {μ : Gh} {L : List Seg} {R : Value → Gh → List Seg → Prop}  {s1 : (List Int)} {v1 : Int} {A1 : Option Addr} {c1 : Nat} {res1 : Int}
    (hl1 : s1.length ≤ c1 ∧ c1 ≤ maxLen) (hA1 : Rds rInt μ L A1 s1) (h : slices_Index_int s1 v1 = some res1)
    (hR : R (.int .i64 res1) μ (L)) :
    Fn Try.prog 69 [.slice A1 s1.length c1, .int .i64 v1] μ (L) R := by
  unfold slices_Index_int at h
  refine Fn.of_body Tt_ok Try.func69 (by kernel_rfl) rfl Try.ntmps69 (by simp) ?_
  simp only [Try.f69, argFr, List.zipIdx, List.map, Nat.reduceAdd]
  refine WP.seq_k (fun K776 hK776 => Wr Tt_ok rfl (R_assign rfl (Pn rfl (hK776 _ _ _ (WP.seq_k (fun K777 hK777 => WP.seq_k (fun K778 hK778 => Wr Tt_ok rfl (R_move rfl (Pc rfl rfl (R_lenS rfl rfl rfl ?_))))))))))
  refine Pc rfl rfl (R_move rfl (Pn rfl (hK778 _ _ _ ?_)))
  obtain ⟨o779, h779, h⟩ := obind h
  refine WP.cutK (fun fr_ μ_ L_ => (.inl ()) = o779 ∧ SubFr [] fr_ ∧ SegSub (L) L_ ∧ μ = μ_) ?_ ?_
  · refine WP.block (WP.iter h779 (fun (v2 : Int) fr_ μ_ L_ => SubFr [(0, .slice A1 s1.length c1), (1, .int .i64 v1), (7, .int .i64 ((s1.length : Nat) : Int)), (8, .int .i64 v2)] fr_ ∧ SegSub (L) L_ ∧ μ = μ_) ⟨SubFr.of ⟨rfl, rfl, rfl, rfl, trivial⟩, SegSub.sel _ [] 0, rfl⟩ ?_)
    rintro v2 q787 fr787 μ787 L787 hm787 ⟨hF787, hS787, hu787⟩ hb787 hq787
    unfold slices_Index_int_l1 at hb787
    subst hu787
    refine WP.at hF787 hS787 (WP.seq_k (fun K788 hK788 => Wr Tt_ok rfl (R_lssD rfl rfl (Pn rfl (hK788 _ _ _ (WP.seq_k (fun K789 hK789 => ?_)))))))
    refine W_cond_v (b := (decide (v2 < ((s1.length : Nat) : Int)))) rfl (fun hc1 => ?_) (fun hc1 => ?_)
    · replace hb787 := cond_t hc1 hb787
      refine WP.skip (hK789 _ _ _ (WP.seq_k (fun K790 hK790 => WP.block (WP.seq_k (fun K791 hK791 => Wr Tt_ok rfl (R_move rfl (Pc rfl rfl (R_assign rfl (Pn rfl (hK791 _ _ _ (WP.seq_k (fun K792 hK792 => WP.region Tt_ok ?_))))))))))))
      refine O_cons (O_read rfl (R_move rfl (Pc rfl rfl (R_move rfl (Pc rfl rfl (R_move rfl (P_some rfl (O_cons ?_))))))))
      obtain ⟨x1, hx1, hb787⟩ := obind hb787
      obtain ⟨a1, cs1, hA2, hr1, _, hc2⟩ := Rds.getI hA1 hx1
      obtain rfl := hr1
      refine O_read rfl (R_iaG rfl rfl rfl rfl rfl rfl ⟨(getI_lt hx1).1, (getI_lt hx1).2.1⟩ hA2 (Pc rfl rfl (R_load rfl rfl rfl (Ex.mk _ (Cell.of_cells0 hc2 rfl) (Pc rfl rfl (R_eqlD rfl rfl (Pn rfl (hK792 _ _ _ ?_))))))))
      refine W_cond_v (b := (decide (v1 = x1))) rfl (fun hc3 => ?_) (fun hc3 => ?_)
      · replace hb787 := cond_t hc3 hb787
        refine WP.seq_k (fun K793 hK793 => Wr Tt_ok rfl (R_move rfl (Pc rfl rfl (R_assign rfl (Pn rfl (hK793 _ _ _ (WP.ret ?_)))))))
        have e_ := Option.some.inj hb787
        subst e_
        have hq_ := hq787 _ rfl
        subst hq_
        replace h := osum_r h
        have e_ := Option.some.inj h
        subst e_
        refine S_tmp rfl (S_nil (Upd.selS [] 0 ?_))
        exact Upd.done hR
      replace hb787 := cond_f hc3 hb787
      refine WP.skip (hK790 _ _ _ (Wr Tt_ok rfl (R_add rfl rfl (Pc rfl rfl (R_move rfl (Pn rfl ?_))))))
      have e_ := Option.some.inj hb787
      subst e_
      exact ⟨_, rfl, SubFr.of ⟨rfl, rfl, rfl, rfl, trivial⟩, SegSub.sel _ [] 0, rfl⟩
    replace hb787 := cond_f hc1 hb787
    refine WP.exit (B_here ?_)
    have e_ := Option.some.inj hb787
    subst e_
    have hq_ := hq787 _ rfl
    subst hq_
    exact ⟨rfl, SubFr.of trivial, SegSub.sel _ [] 0, rfl⟩
  rintro fr779 μ779 L779 hm779 ⟨ho779, hF779, hS779, hu779⟩
  subst ho779
  replace h := osum_l h
  subst hu779
  refine hK777 _ _ _ (WP.at hF779 hS779 (WP.seq_k (fun K794 hK794 => Wr Tt_ok rfl (R_assign rfl (Pn rfl (hK794 _ _ _ (WP.ret ?_)))))))
  have e_ := Option.some.inj h
  subst e_
  refine S_tmp rfl (S_nil (Upd.selS [] 0 ?_))
  exact Upd.done hR

theorem slices_Contains_int_fn {μ : Gh} {L : List Seg} {R : Value → Gh → List Seg → Prop}  {s1 : (List Int)} {v1 : Int} {A1 : Option Addr} {c1 : Nat} {res1 : Bool}
    (hl1 : s1.length ≤ c1 ∧ c1 ≤ maxLen) (hA1 : Rds rInt μ L A1 s1) (h : slices_Contains_int s1 v1 = some res1)
    (hR : R (.bool res1) μ (L)) :
    Fn Try.prog 58 [.slice A1 s1.length c1, .int .i64 v1] μ (L) R := by
  unfold slices_Contains_int at h
  refine Fn.of_body Tt_ok Try.func58 (by kernel_rfl) rfl Try.ntmps58 (by simp) ?_
  simp only [Try.f58, argFr, List.zipIdx, List.map, Nat.reduceAdd]
  refine WP.seq_k (fun K773 hK773 => Wr Tt_ok rfl (R_assign rfl (Pn rfl (hK773 _ _ _ (WP.seq_k (fun K774 hK774 => Wr Tt_ok rfl (R_move rfl (Pc rfl rfl (R_move rfl (P_some rfl ?_))))))))))
  refine O_cons (O_call (all := [.slice A1 s1.length c1, .int .i64 v1]) rfl rfl rfl ?_)
  obtain ⟨r1, hx1, h⟩ := obind h
  refine slices_Index_int_fn hl1 hA1 hx1 ((Pc rfl rfl (R_geqD rfl rfl (Pc rfl rfl (R_assign rfl (Pn rfl (hK774 _ _ _ (WP.ret ?_))))))))
  have e_ := Option.some.inj h
  subst e_
  refine S_tmp rfl (S_nil (Upd.selS [] 0 ?_))
  exact Upd.done hR

theorem vehicle_Carries_fn {μ : Gh} {L : List Seg} {R : Value → Gh → List Seg → Prop}  {v1 : T_api_Vehicle} {kind1 : Int}  {res1 : Bool}
     (h : vehicle_Carries v1 kind1 = some res1)
    (hR : R (.bool res1) μ (L)) :
    Fn Try.prog 63 [.agg #[.string v1.ID, .int .i64 v1.Depot, .int .i64 v1.Shift.From, .int .i64 v1.Shift.To, .int .i64 v1.Grams, .int .i64 v1.Kinds], .int .i64 kind1] μ (L) R := by
  unfold vehicle_Carries at h
  refine Fn.of_body Tt_ok Try.func63 (by kernel_rfl) rfl Try.ntmps63 (by simp) ?_
  simp only [Try.f63, argFr, List.zipIdx, List.map, Nat.reduceAdd]
  refine WP.seq_k (fun K798 hK798 => WP.region Tt_ok (O_cons (O_box (cs := #[.string v1.ID, .int .i64 v1.Depot, .int .i64 v1.Shift.From, .int .i64 v1.Shift.To, .int .i64 v1.Grams, .int .i64 v1.Kinds]) rfl rfl (fun g1 => Pc rfl rfl (R_assign rfl (Pn rfl (hK798 _ _ _ (WP.seq_k (fun K800 hK800 => ?_)))))))))
  obtain ⟨o801, h801, h⟩ := obind h
  refine WP.cutK (fun fr_ μ_ L_ => ∃ (v2 : Bool), v2 = o801 ∧ SubFr [(4, .bool v2)] fr_ ∧ SegSub (L) L_ ∧ μ = μ_) ?_ ?_
  · refine Wr Tt_ok rfl (R_move rfl (Pc rfl rfl (R_geqD rfl rfl (Pc rfl rfl (R_move rfl (P_some rfl ?_))))))
    refine O_gv (z := (decide (0 ≤ kind1))) rfl rfl (fun hc1 => ?_) (fun hc1 => ?_)
    · replace h801 := cond_t hc1 h801
      refine O_read rfl (R_move rfl (P_some rfl (O_gY rfl rfl hc1 (O_read rfl (R_lssD rfl rfl (Pc rfl rfl (R_pick_T rfl hc1 rfl (Pc rfl rfl (R_move rfl (P_some rfl ?_))))))))))
      refine O_gv (z := (decide (kind1 < 16))) rfl rfl (fun hc2 => ?_) (fun hc2 => ?_)
      · replace h801 := cond_t hc2 h801
        refine O_read rfl (R_fa0 (o' := 5) rfl rfl rfl rfl rfl rfl (P_some rfl (O_gY rfl rfl hc2 (O_read rfl (R_load rfl rfl rfl (Ex.mk _ (Cell.seg 0 0 rfl rfl rfl) (P_some rfl (O_gY rfl rfl hc2 (O_read rfl (R_move rfl (P_some rfl (O_gY rfl rfl hc2 (O_read rfl ?_)))))))))))))
        obtain ⟨u1, hg1, h801⟩ := obind h801
        refine R_shrD rfl rfl rfl (guardO_some hg1) (P_some rfl (O_gY rfl rfl hc2 (O_read rfl ?_)))
        refine R_and rfl rfl ⟨_, andI_run _ _ _, ?_⟩
        refine P_some rfl (O_gY rfl rfl hc2 (O_read rfl (R_eqlD rfl rfl (Pc rfl rfl (R_pick_T rfl hc2 rfl (Pc rfl rfl (R_assign rfl (Pn rfl ?_))))))))
        have e_ := Option.some.inj h801
        subst e_
        exact ⟨(decide ((andI .i64 (v1.Kinds / 2 ^ kind1.toNat) 1) = 1)), rfl, SubFr.of ⟨rfl, trivial⟩, SegSub.sel _ [] 1, rfl⟩
      replace h801 := cond_f hc2 h801
      refine P_some rfl (O_gN rfl rfl hc2 (P_some rfl (O_gN rfl rfl hc2 (P_some rfl (O_gN rfl rfl hc2 (P_some rfl (O_gN rfl rfl hc2 (P_some rfl (O_gN rfl rfl hc2 (Pc rfl rfl (R_pick_F rfl hc2 rfl (Pc rfl rfl (R_assign rfl ?_)))))))))))))
      refine Pn rfl ?_
      have e_ := Option.some.inj h801
      subst e_
      exact ⟨false, rfl, SubFr.of ⟨rfl, trivial⟩, SegSub.sel _ [] 1, rfl⟩
    replace h801 := cond_f hc1 h801
    refine P_some rfl (O_gN rfl rfl hc1 (Pc rfl rfl (R_pick_F rfl hc1 rfl (Pc rfl rfl (R_move rfl (P_some rfl (O_gN rfl rfl rfl (P_some rfl (O_gN rfl rfl rfl (P_some rfl (O_gN rfl rfl rfl (P_some rfl (O_gN rfl rfl rfl ?_)))))))))))))
    refine P_some rfl (O_gN rfl rfl rfl (P_some rfl (O_gN rfl rfl rfl (Pc rfl rfl (R_pick_F rfl rfl rfl (Pc rfl rfl (R_assign rfl (Pn rfl ?_))))))))
    have e_ := Option.some.inj h801
    subst e_
    exact ⟨false, rfl, SubFr.of ⟨rfl, trivial⟩, SegSub.sel _ [] 1, rfl⟩
  rintro fr801 μ801 L801 hm801 ⟨v2, ho801, hF801, hS801, hu801⟩
  subst ho801
  subst hu801
  refine hK800 _ _ _ (WP.at hF801 hS801 (WP.ret ?_))
  have e_ := Option.some.inj h
  subst e_
  refine S_tmp rfl (S_nil (Upd.selS [] 0 ?_))
  exact Upd.done hR

theorem road_none_fn {μ : Gh} {L : List Seg} {R : Value → Gh → List Seg → Prop}    {res1 : T_api_Leg}
     (h : road_none = some res1)
    (hR : R (.agg #[.int .i64 res1.Secs, .int .i64 res1.Meters]) μ (L)) :
    Fn Try.prog 75 [] μ (L) R := by
  unfold road_none at h
  refine Fn.of_body Tt_ok Try.func75 (by kernel_rfl) rfl Try.ntmps75 (by simp) ?_
  simp only [Try.f75, argFr, List.zipIdx, List.map, Nat.reduceAdd]
  refine WP.seq_k (fun K885 hK885 => WP.region Tt_ok (O_cons (O_alloc (cs := #[.int .i64 0, .int .i64 0]) rfl rfl (fun g1 => Pn rfl (hK885 _ _ _ (WP.seq_k (fun K887 hK887 => Wr Tt_ok rfl (R_build rfl rfl rfl rfl (F_cons (cells' := [.int .i64 (-1), .int .i64 0]) rfl rfl rfl rfl (F_nil (P_some rfl (O_cons (O_store (vs := [.int .i64 (-1), .int .i64 0]) rfl rfl rfl rfl rfl rfl (ST_ (L' := ([(g1, .cells #[.int .i64 (-1), .int .i64 0] 51 (0, 0))] :: L)) 0 0 rfl rfl rfl rfl ?_))))))))))))))
  refine P_none (O_nil (hK887 _ _ _ (WP.ret ?_)))
  have e_ := Option.some.inj h
  subst e_
  refine S_cell rfl rfl rfl rfl (LA_ (vs := [.int .i64 (-1), .int .i64 0]) 0 0 rfl rfl rfl rfl (S_nil (Upd.selS [] 1 ?_)))
  exact Upd.done hR

theorem pqueue_New_stop_c77_fn {μ : Gh} {L : List Seg} {R : Value → Gh → List Seg → Prop}    {res1 : T_pqueue_Queue_stop}
     (h : pqueue_New_stop_c77 = some res1)
    (hR : ∀ (v0 : Value) (so0 : Seg), Obj_pqueue_Queue_stop μ v0 res1 so0 → R (v0) μ (so0 :: L)) :
    Fn Try.prog 76 [.func (.func 77) #[] #[]] μ (L) R := by
  unfold pqueue_New_stop_c77 at h
  refine Fn.of_body Tt_ok Try.func76 (by kernel_rfl) rfl Try.ntmps76 (by simp) ?_
  simp only [Try.f76, argFr, List.zipIdx, List.map, Nat.reduceAdd]
  refine WP.seq_k (fun K909 hK909 => Wr Tt_ok rfl (R_assign rfl (Pn rfl (hK909 _ _ _ (WP.seq_k (fun K910 hK910 => WP.seq_k (fun K911 hK911 => Wr Tt_ok rfl (R_move rfl (Pc rfl rfl (R_eqF Tt_ok rfl rfl rfl rfl ?_))))))))))
  refine Pn rfl (hK911 _ _ _ (W_cond_f rfl (WP.skip (hK910 _ _ _ (WP.seq_k (fun K912 hK912 => Wr Tt_ok rfl (R_move rfl (Pc rfl rfl (R_build rfl rfl rfl rfl (F_cons (cells' := [.func (.func 77) #[] #[], .slice none 0 0, .int .i64 0]) rfl rfl rfl rfl (F_nil (P_some rfl ?_))))))))))))
  refine O_cons (O_box (cs := #[.func (.func 77) #[] #[], .slice none 0 0, .int .i64 0]) rfl rfl (fun g1 => Pc rfl rfl (R_assign rfl (Pn rfl (hK912 _ _ _ (WP.ret ?_))))))
  have e_ := Option.some.inj h
  subst e_
  refine S_tmp rfl (S_nil (Upd.selS [some 0] 1 ?_))
  exact Upd.done (hR (.pointer (some ⟨g1, 0, none⟩)) ((g1, Obj.cells #[.func (.func 77) #[] #[], .slice none 0 0, .int .i64 0] 138 (0, 0)) :: ([] ++ [])) (⟨g1, none, 0, [], rfl, rfl, Own.nil⟩))

theorem road_better_fn {μ : Gh} {L : List Seg} {R : Value → Gh → List Seg → Prop}  {a1 : T_api_Leg} {b1 : T_api_Leg}  {res1 : Bool}
     (h : road_better a1 b1 = some res1)
    (hR : R (.bool res1) μ (L)) :
    Fn Try.prog 78 [.agg #[.int .i64 a1.Secs, .int .i64 a1.Meters], .agg #[.int .i64 b1.Secs, .int .i64 b1.Meters]] μ (L) R := by
  unfold road_better at h
  refine Fn.of_body Tt_ok Try.func78 (by kernel_rfl) rfl Try.ntmps78 (by simp) ?_
  simp only [Try.f78, argFr, List.zipIdx, List.map, Nat.reduceAdd]
  refine WP.seq_k (fun K1057 hK1057 => WP.region Tt_ok (O_cons (O_box (cs := #[.int .i64 a1.Secs, .int .i64 a1.Meters]) rfl rfl (fun g1 => P_some rfl (O_cons (O_box (cs := #[.int .i64 b1.Secs, .int .i64 b1.Meters]) rfl rfl (fun g2 => Pc rfl rfl (R_assign rfl (Pn rfl (hK1057 _ _ _ (WP.seq_k (fun K1060 hK1060 => ?_))))))))))))
  obtain ⟨o1061, h1061, h⟩ := obind h
  refine WP.cutK (fun fr_ μ_ L_ => ∃ (v1 : Bool), v1 = o1061 ∧ SubFr [(4, .bool v1)] fr_ ∧ SegSub (L) L_ ∧ μ = μ_) ?_ ?_
  · refine WP.drawn (id := 1) (l' := List.replicate 25 true) wide Tt_ok _ Kept.refl [(true, 0), (false, 1), (true, 2), (true, 3), (true, 4), (true, 5), (true, 6), (true, 7), (true, 8), (true, 9), (true, 10), (true, 11), (true, 12), (true, 13), (true, 14), (true, 15), (true, 16), (true, 17), (true, 18), (true, 19), (true, 20), (true, 21), (true, 22), (true, 23), (true, 24)] (by kernel_rfl) (by kernel_rfl) rfl (PL_t rfl (R_loadA rfl rfl rfl rfl (LA_ (vs := [.int .i64 b1.Secs, .int .i64 b1.Meters]) 0 0 rfl rfl rfl rfl (P_some rfl (PL_f rfl (O_call (all := []) rfl rfl rfl ?_))))))
    obtain ⟨r1, hx1, h1061⟩ := obind h1061
    refine road_none_fn  hx1 (?_)
    refine ⟨Kept.refl, ?_⟩
    refine Pt rfl rfl (R_agg rfl rfl (Ex.mk _ (eqRun_T_api_Leg b1 r1) (Pt rfl rfl (R_move rfl (P_some rfl ?_)))))
    refine PL_tv (z := (decide (b1 = r1))) rfl rfl rfl (fun hc1 => ?_) (fun hc1 => ?_)
    · replace h1061 := cond_f hc1 h1061
      refine R_fa0 (o' := 0) rfl rfl rfl rfl rfl rfl (P_some rfl (PL_tY rfl rfl rfl hc1 (R_load rfl rfl rfl (Ex.mk _ (Cell.seg 1 0 rfl rfl rfl) (P_some rfl (PL_tY rfl rfl rfl hc1 (R_fa0 (o' := 0) rfl rfl rfl rfl rfl rfl (P_some rfl (PL_tY rfl rfl rfl hc1 (R_load rfl rfl rfl (Ex.mk _ (Cell.seg 0 0 rfl rfl rfl) (P_some rfl (PL_tY rfl rfl rfl hc1 (R_lssD rfl rfl (Pt rfl rfl (R_pick_F rfl hc1 rfl ?_))))))))))))))))
      refine Pt rfl rfl (R_move rfl (P_some rfl ?_))
      refine PL_tv (z := (decide (a1.Secs < b1.Secs))) rfl rfl rfl (fun hc2 => ?_) (fun hc2 => ?_)
      · replace h1061 := cond_f hc2 h1061
        refine R_fa0 (o' := 0) rfl rfl rfl rfl rfl rfl (P_some rfl (PL_tY rfl rfl rfl hc2 (R_load rfl rfl rfl (Ex.mk _ (Cell.seg 1 0 rfl rfl rfl) (P_some rfl (PL_tY rfl rfl rfl hc2 (R_fa0 (o' := 0) rfl rfl rfl rfl rfl rfl (P_some rfl (PL_tY rfl rfl rfl hc2 (R_load rfl rfl rfl (Ex.mk _ (Cell.seg 0 0 rfl rfl rfl) (P_some rfl (PL_tY rfl rfl rfl hc2 (R_eqlD rfl rfl (P_some rfl (PL_tY rfl rfl rfl hc2 (R_move rfl ?_)))))))))))))))))
        apply P_some; exact rfl
        refine PL_tv (z := (decide (a1.Secs = b1.Secs))) rfl rfl rfl (fun hc3 => ?_) (fun hc3 => ?_)
        · replace h1061 := cond_t hc3 h1061
          refine R_fa0 (o' := 1) rfl rfl rfl rfl rfl rfl (P_some rfl (PL_tY rfl rfl rfl hc3 (R_load rfl rfl rfl (Ex.mk _ (Cell.seg 1 0 rfl rfl rfl) (P_some rfl (PL_tY rfl rfl rfl hc3 (R_fa0 (o' := 1) rfl rfl rfl rfl rfl rfl (P_some rfl (PL_tY rfl rfl rfl hc3 (R_load rfl rfl rfl (Ex.mk _ (Cell.seg 0 0 rfl rfl rfl) (P_some rfl (PL_tY rfl rfl rfl hc3 (R_lssD rfl rfl (P_some rfl (PL_tY rfl rfl rfl hc2 (R_pick_T rfl hc3 rfl ?_)))))))))))))))))
          refine Pt rfl rfl (R_pick_F rfl hc2 rfl (Pt rfl rfl (R_assign rfl (P_some rfl (PL_nil (AN.done0 (by kernel_rfl) ?_))))))
          have e_ := Option.some.inj h1061
          subst e_
          exact ⟨(decide (a1.Meters < b1.Meters)), rfl, SubFr.of ⟨rfl, trivial⟩, SegSub.sel _ [] 2, rfl⟩
        replace h1061 := cond_f hc3 h1061
        refine P_some rfl (PL_tN rfl rfl rfl hc3 (P_some rfl (PL_tN rfl rfl rfl hc3 (P_some rfl (PL_tN rfl rfl rfl hc3 (P_some rfl (PL_tN rfl rfl rfl hc3 (P_some rfl (PL_tY rfl rfl rfl hc2 (R_pick_F rfl hc3 rfl (Pt rfl rfl (R_pick_F rfl hc2 rfl (Pt rfl rfl (R_assign rfl (P_some rfl ?_)))))))))))))))
        refine PL_nil (AN.done0 (by kernel_rfl) ?_)
        have e_ := Option.some.inj h1061
        subst e_
        exact ⟨false, rfl, SubFr.of ⟨rfl, trivial⟩, SegSub.sel _ [] 2, rfl⟩
      replace h1061 := cond_t hc2 h1061
      refine P_some rfl (PL_tN rfl rfl rfl hc2 (P_some rfl (PL_tN rfl rfl rfl hc2 (P_some rfl (PL_tN rfl rfl rfl hc2 (P_some rfl (PL_tN rfl rfl rfl hc2 (P_some rfl (PL_tN rfl rfl rfl hc2 (P_some rfl (PL_tu rfl rfl rfl (P_some rfl (PL_tu rfl rfl rfl (P_some rfl (PL_tu rfl rfl rfl (P_some rfl (PL_tu rfl rfl rfl ?_)))))))))))))))))
      refine P_some rfl (PL_tu rfl rfl rfl (P_some rfl (PL_tN rfl rfl rfl hc2 (Pt rfl rfl (R_pick_T rfl hc2 rfl (Pt rfl rfl (R_assign rfl (P_some rfl (PL_nil (AN.done0 (by kernel_rfl) ?_))))))))))
      have e_ := Option.some.inj h1061
      subst e_
      exact ⟨true, rfl, SubFr.of ⟨rfl, trivial⟩, SegSub.sel _ [] 2, rfl⟩
    replace h1061 := cond_t hc1 h1061
    refine P_some rfl (PL_tN rfl rfl rfl hc1 (P_some rfl (PL_tN rfl rfl rfl hc1 (P_some rfl (PL_tN rfl rfl rfl hc1 (P_some rfl (PL_tN rfl rfl rfl hc1 (Pt rfl rfl (R_pick_T rfl hc1 rfl (Pt rfl rfl (R_move rfl (P_some rfl (PL_tN rfl rfl rfl rfl (P_some rfl (PL_tN rfl rfl rfl rfl ?_)))))))))))))))
    refine P_some rfl (PL_tN rfl rfl rfl rfl (P_some rfl (PL_tN rfl rfl rfl rfl (P_some rfl (PL_tN rfl rfl rfl rfl (P_some rfl (PL_tN rfl rfl rfl rfl (P_some rfl (PL_tu rfl rfl rfl (P_some rfl (PL_tu rfl rfl rfl (P_some rfl (PL_tu rfl rfl rfl (P_some rfl (PL_tu rfl rfl rfl (P_some rfl (PL_tu rfl rfl rfl ?_)))))))))))))))))
    refine P_some rfl (PL_tN rfl rfl rfl rfl (Pt rfl rfl (R_pick_T rfl rfl rfl (Pt rfl rfl (R_assign rfl (P_some rfl (PL_nil (AN.done0 (by kernel_rfl) ?_))))))))
    have e_ := Option.some.inj h1061
    subst e_
    exact ⟨true, rfl, SubFr.of ⟨rfl, trivial⟩, SegSub.sel _ [] 2, rfl⟩
  rintro fr1061 μ1061 L1061 hm1061 ⟨v1, ho1061, hF1061, hS1061, hu1061⟩
  subst ho1061
  subst hu1061
  refine hK1060 _ _ _ (WP.at hF1061 hS1061 (WP.ret ?_))
  have e_ := Option.some.inj h
  subst e_
  refine S_tmp rfl (S_nil (Upd.selS [] 0 ?_))
  exact Upd.done hR

theorem road_spread_1_fn {μ : Gh} {L : List Seg} {R : Value → Gh → List Seg → Prop}  {a1 : T_road_stop} {b1 : T_road_stop}  {res1 : Bool}
     (h : road_spread_1 a1 b1 = some res1)
    (hR : R (.bool res1) μ (L)) :
    Fn Try.prog 77 [.agg #[.int .i64 a1.node, .int .i64 a1.leg.Secs, .int .i64 a1.leg.Meters], .agg #[.int .i64 b1.node, .int .i64 b1.leg.Secs, .int .i64 b1.leg.Meters]] μ (L) R := by
  unfold road_spread_1 at h
  refine Fn.of_body Tt_ok Try.func77 (by kernel_rfl) rfl Try.ntmps77 (by simp) ?_
  simp only [Try.f77, argFr, List.zipIdx, List.map, Nat.reduceAdd]
  refine WP.seq_k (fun K1052 hK1052 => WP.region Tt_ok (O_cons (O_box (cs := #[.int .i64 a1.node, .int .i64 a1.leg.Secs, .int .i64 a1.leg.Meters]) rfl rfl (fun g1 => P_some rfl (O_cons (O_box (cs := #[.int .i64 b1.node, .int .i64 b1.leg.Secs, .int .i64 b1.leg.Meters]) rfl rfl (fun g2 => Pc rfl rfl (R_assign rfl (Pn rfl (hK1052 _ _ _ (WP.seq_k (fun K1055 hK1055 => ?_))))))))))))
  obtain ⟨o1056, h1056, h⟩ := obind h
  refine WP.cutK (fun fr_ μ_ L_ => ∃ (v1 : Bool), v1 = o1056 ∧ SubFr [(4, .bool v1)] fr_ ∧ SegSub (L) L_ ∧ μ = μ_) ?_ ?_
  · refine Wr Tt_ok rfl (R_fa0 (o' := 1) rfl rfl rfl rfl rfl rfl (Pc rfl rfl (R_loadA rfl rfl rfl rfl (LA_ (vs := [.int .i64 a1.leg.Secs, .int .i64 a1.leg.Meters]) 1 0 rfl rfl rfl rfl (Pc rfl rfl (R_fa0 (o' := 1) rfl rfl rfl rfl rfl rfl (Pc rfl rfl (R_loadA rfl rfl rfl rfl (LA_ (vs := [.int .i64 b1.leg.Secs, .int .i64 b1.leg.Meters]) 0 0 rfl rfl rfl rfl ?_)))))))))
    refine Pc rfl rfl (R_agg rfl rfl (Ex.mk _ (neRun_T_api_Leg a1.leg b1.leg) (Pc rfl rfl (R_move rfl (P_some rfl ?_)))))
    refine O_gv (z := !(decide (a1.leg = b1.leg))) rfl rfl (fun hc1 => ?_) (fun hc1 => ?_)
    · replace h1056 := cond_t hc1 h1056
      refine O_read rfl (R_fa0 (o' := 1) rfl rfl rfl rfl rfl rfl (P_some rfl (O_gY rfl rfl hc1 (O_read rfl (R_loadA rfl rfl rfl rfl (LA_ (vs := [.int .i64 a1.leg.Secs, .int .i64 a1.leg.Meters]) 1 0 rfl rfl rfl rfl (P_some rfl (O_gY rfl rfl hc1 (O_read rfl (R_fa0 (o' := 1) rfl rfl rfl rfl rfl rfl (P_some rfl (O_gY rfl rfl hc1 (O_read rfl (R_loadA rfl rfl rfl rfl (LA_ (vs := [.int .i64 b1.leg.Secs, .int .i64 b1.leg.Meters]) 0 0 rfl rfl rfl rfl (P_some rfl (O_gY rfl rfl hc1 ?_)))))))))))))))))
      apply O_call (all := [.agg #[.int .i64 a1.leg.Secs, .int .i64 a1.leg.Meters], .agg #[.int .i64 b1.leg.Secs, .int .i64 b1.leg.Meters]]); exact rfl; exact rfl; exact rfl
      obtain ⟨r1, hx1, h1056⟩ := obind h1056
      refine road_better_fn  hx1 ((Pc rfl rfl (R_pick_T rfl hc1 rfl (Pc rfl rfl (R_assign rfl (Pn rfl ?_))))))
      have e_ := Option.some.inj h1056
      subst e_
      exact ⟨r1, rfl, SubFr.of ⟨rfl, trivial⟩, SegSub.sel _ [] 2, rfl⟩
    replace h1056 := cond_f hc1 h1056
    refine P_some rfl (O_gN rfl rfl hc1 (P_some rfl (O_gN rfl rfl hc1 (P_some rfl (O_gN rfl rfl hc1 (P_some rfl (O_gN rfl rfl hc1 (Pc rfl rfl (R_pick_F rfl hc1 rfl (Pc rfl rfl (R_assign rfl (Pn rfl ?_))))))))))))
    have e_ := Option.some.inj h1056
    subst e_
    exact ⟨false, rfl, SubFr.of ⟨rfl, trivial⟩, SegSub.sel _ [] 2, rfl⟩
  rintro fr1056 μ1056 L1056 hm1056 ⟨v1, ho1056, hF1056, hS1056, hu1056⟩
  subst ho1056
  subst hu1056
  refine hK1055 _ _ _ (WP.at hF1056 hS1056 (WP.ret ?_))
  have e_ := Option.some.inj h
  subst e_
  refine S_tmp rfl (S_nil (Upd.selS [] 0 ?_))
  exact Upd.done hR

theorem pqueue_Queue_stop_before_fn {μ : Gh} {L : List Seg} {R : Value → Gh → List Seg → Prop}  {q1 : T_pqueue_Queue_stop} {i1 : Int} {k1 : Int} {pv1 : Value} {so1 : Seg} {res1 : Bool}
    (hP1 : Obj_pqueue_Queue_stop μ pv1 q1 so1) (h : pqueue_Queue_stop_before q1 i1 k1 = some res1)
    (hR : R (.bool res1) μ (so1 :: L)) :
    Fn Try.prog 82 [pv1, .int .i64 i1, .int .i64 k1] μ (so1 :: L) R := by
  unfold pqueue_Queue_stop_before at h
  refine Fn.of_body Tt_ok Try.func82 (by kernel_rfl) rfl Try.ntmps82 (by simp) ?_
  simp only [Try.f82, argFr, List.zipIdx, List.map, Nat.reduceAdd]
  refine WP.seq_k (fun K983 hK983 => Wr Tt_ok rfl (R_assign rfl (Pn rfl (hK983 _ _ _ (WP.seq_k (fun K984 hK984 => ?_))))))
  obtain ⟨g1, A1, c1, ch1, hv1, rfl, hO1⟩ := hP1
  subst hv1
  refine WP.seg (L2 := ([(g1, .cells #[.func (.func 77) #[] #[], .slice A1 q1.heap.length c1, .int .i64 q1.count] 138 (0, 0))] :: ch1 :: L)) (SegSub.flat (by simp)) ?_
  obtain ⟨o1010, h1010, h⟩ := obind h
  refine WP.cutK (fun fr_ μ_ L_ => ∃ (f1 : Int) (f2 : Int) (f3 : Int) (f4 : Int) (f5 : Int) (f6 : Int) (f7 : Int) (f8 : Int) (g4 : Nat) (g5 : Nat), (f1, f2, f3, f4, f5, f6, f7, f8) = o1010 ∧ SubFr [(0, .pointer (some ⟨g1, 0, none⟩)), (7, .pointer (some ⟨g4, 0, none⟩)), (8, .pointer (some ⟨g5, 0, none⟩))] fr_ ∧ SegSub ([(g1, .cells #[.func (.func 77) #[] #[], .slice A1 q1.heap.length c1, .int .i64 q1.count] 138 (0, 0))] :: ch1 :: [(g4, .cells #[.int .i64 f1, .int .i64 f2, .int .i64 f3, .int .i64 f4] 140 (0, 0))] :: [(g5, .cells #[.int .i64 f5, .int .i64 f6, .int .i64 f7, .int .i64 f8] 140 (0, 0))] :: L) L_ ∧ μ = μ_) ?_ ?_
  · refine WP.draw (id := 1) wide _ Kept.refl rfl (AN.run (fuel := 4) (listed' := [true, true, true, true, true, true, true, true, true, true, true, true, true, true, false, false, false, false]) Tt_ok [(true, 0), (true, 1), (true, 2), (true, 3), (true, 4), (true, 5), (true, 6), (true, 7), (true, 8), (true, 9), (true, 10), (true, 11), (true, 12), (true, 13)] (by kernel_rfl) (by kernel_rfl) rfl (PL_t rfl (R_move rfl (Pt rfl rfl (R_nilP rfl (Pt rfl rfl (R_fa0 (o' := 1) rfl rfl rfl rfl rfl rfl (Pt rfl rfl (R_load rfl rfl rfl (Ex.mk _ (Cell.seg 0 0 rfl rfl rfl) (Pt rfl rfl (R_move rfl (P_some rfl ?_)))))))))))))
    apply PL_t; exact rfl
    obtain ⟨x1, hx1, h1010⟩ := obind h1010
    obtain ⟨a1, cs1, hA1, hr1, _, hc1⟩ := Rds.getI (Own.rds (L := ([(g1, .cells #[.func (.func 77) #[] #[], .slice A1 q1.heap.length c1, .int .i64 q1.count] 138 (0, 0))] :: ch1 :: L)) hO1 1 rfl) hx1
    obtain rfl := hr1
    refine R_iaG rfl rfl rfl rfl rfl rfl ⟨(getI_lt hx1).1, (getI_lt hx1).2.1⟩ hA1 (Pt rfl rfl (R_loadA rfl rfl rfl rfl (Ex.mk [.int .i64 x1.value.node, .int .i64 x1.value.leg.Secs, .int .i64 x1.value.leg.Meters, .int .i64 x1.n] ⟨rfl, hc1⟩ (Pt rfl rfl (R_move rfl (Pt rfl rfl (R_nilP rfl (Pt rfl rfl (R_fa0 (o' := 1) rfl rfl rfl rfl rfl rfl (Pt rfl rfl (R_load rfl rfl rfl (Ex.mk _ (Cell.seg 0 0 rfl rfl rfl) ?_))))))))))))
    refine Pt rfl rfl (R_move rfl (Pt rfl rfl ?_))
    obtain ⟨x2, hx2, h1010⟩ := obind h1010
    obtain ⟨a2, cs2, hA2, hr2, _, hc2⟩ := Rds.getI (Own.rds (L := ([(g1, .cells #[.func (.func 77) #[] #[], .slice A1 q1.heap.length c1, .int .i64 q1.count] 138 (0, 0))] :: ch1 :: L)) hO1 1 rfl) hx2
    obtain rfl := hr2
    refine R_iaG rfl rfl rfl rfl rfl rfl ⟨(getI_lt hx2).1, (getI_lt hx2).2.1⟩ hA2 (Pt rfl rfl (R_loadA rfl rfl rfl rfl (Ex.mk [.int .i64 x2.value.node, .int .i64 x2.value.leg.Secs, .int .i64 x2.value.leg.Meters, .int .i64 x2.n] ⟨rfl, hc2⟩ (P_some rfl (PL_nil ?_)))))
    refine FK_2 Tt_ok (a := 14) (b := 15) (by kernel_rfl) ?_ ?_
    · refine FO_ rfl rfl (O_alloc (cs := #[.int .i64 0, .int .i64 0, .int .i64 0, .int .i64 0]) rfl rfl (fun g2 => ?_))
      refine ⟨Kept.more (Kept.refl), ?_⟩
      refine P_some rfl (AN.run (fuel := 0) (listed' := [true, true, true, true, true, true, true, true, true, true, true, true, true, true, true, true, true, true]) Tt_ok [(false, 15), (false, 16), (false, 17)] (by kernel_rfl) (by kernel_rfl) rfl (PL_f rfl (O_alloc (cs := #[.int .i64 0, .int .i64 0, .int .i64 0, .int .i64 0]) rfl rfl (fun g3 => ?_))))
      refine ⟨Kept.more (Kept.more (Kept.refl)), ?_⟩
      refine P_some rfl (PL_f rfl (O_store (vs := [.int .i64 x1.value.node, .int .i64 x1.value.leg.Secs, .int .i64 x1.value.leg.Meters, .int .i64 x1.n]) rfl rfl rfl rfl rfl rfl (ST_ (L' := ([(g3, .cells #[.int .i64 0, .int .i64 0, .int .i64 0, .int .i64 0] 140 (0, 0))] :: [(g2, .cells #[.int .i64 x1.value.node, .int .i64 x1.value.leg.Secs, .int .i64 x1.value.leg.Meters, .int .i64 x1.n] 140 (0, 0))] :: [(g1, .cells #[.func (.func 77) #[] #[], .slice A1 q1.heap.length c1, .int .i64 q1.count] 138 (0, 0))] :: ch1 :: L)) 1 0 rfl rfl rfl rfl ?_)))
      refine ⟨Kept.more (Kept.more (Kept.refl)), ?_⟩
      refine P_none (PL_f rfl (O_store (vs := [.int .i64 x2.value.node, .int .i64 x2.value.leg.Secs, .int .i64 x2.value.leg.Meters, .int .i64 x2.n]) rfl rfl rfl rfl rfl rfl (ST_ (L' := ([(g3, .cells #[.int .i64 x2.value.node, .int .i64 x2.value.leg.Secs, .int .i64 x2.value.leg.Meters, .int .i64 x2.n] 140 (0, 0))] :: [(g2, .cells #[.int .i64 x1.value.node, .int .i64 x1.value.leg.Secs, .int .i64 x1.value.leg.Meters, .int .i64 x1.n] 140 (0, 0))] :: [(g1, .cells #[.func (.func 77) #[] #[], .slice A1 q1.heap.length c1, .int .i64 q1.count] 138 (0, 0))] :: ch1 :: L)) 0 0 rfl rfl rfl rfl ?_)))
      refine ⟨Kept.more (Kept.more (Kept.refl)), ?_⟩
      refine P_none (PL_nil (AN.done0 (by kernel_rfl) ?_))
      have e_ := Option.some.inj h1010
      subst e_
      exact ⟨x1.value.node, x1.value.leg.Secs, x1.value.leg.Meters, x1.n, x2.value.node, x2.value.leg.Secs, x2.value.leg.Meters, x2.n, g2, g3, rfl, SubFr.of ⟨rfl, rfl, rfl, trivial⟩, SegSub.sel _ [some 2, some 3, some 1, some 0] 4, rfl⟩
    refine FO_ rfl rfl (O_alloc (cs := #[.int .i64 0, .int .i64 0, .int .i64 0, .int .i64 0]) rfl rfl (fun g3 => ?_))
    refine ⟨Kept.more (Kept.refl), ?_⟩
    refine P_some rfl (AN.run (fuel := 0) (listed' := [true, true, true, true, true, true, true, true, true, true, true, true, true, true, true, true, true, true]) Tt_ok [(false, 14), (false, 16), (false, 17)] (by kernel_rfl) (by kernel_rfl) rfl (PL_f rfl (O_alloc (cs := #[.int .i64 0, .int .i64 0, .int .i64 0, .int .i64 0]) rfl rfl (fun g2 => ?_))))
    refine ⟨Kept.more (Kept.more (Kept.refl)), ?_⟩
    refine P_some rfl (PL_f rfl (O_store (vs := [.int .i64 x1.value.node, .int .i64 x1.value.leg.Secs, .int .i64 x1.value.leg.Meters, .int .i64 x1.n]) rfl rfl rfl rfl rfl rfl (ST_ (L' := ([(g2, .cells #[.int .i64 x1.value.node, .int .i64 x1.value.leg.Secs, .int .i64 x1.value.leg.Meters, .int .i64 x1.n] 140 (0, 0))] :: [(g3, .cells #[.int .i64 0, .int .i64 0, .int .i64 0, .int .i64 0] 140 (0, 0))] :: [(g1, .cells #[.func (.func 77) #[] #[], .slice A1 q1.heap.length c1, .int .i64 q1.count] 138 (0, 0))] :: ch1 :: L)) 0 0 rfl rfl rfl rfl ?_)))
    refine ⟨Kept.more (Kept.more (Kept.refl)), ?_⟩
    refine P_none (PL_f rfl (O_store (vs := [.int .i64 x2.value.node, .int .i64 x2.value.leg.Secs, .int .i64 x2.value.leg.Meters, .int .i64 x2.n]) rfl rfl rfl rfl rfl rfl (ST_ (L' := ([(g2, .cells #[.int .i64 x1.value.node, .int .i64 x1.value.leg.Secs, .int .i64 x1.value.leg.Meters, .int .i64 x1.n] 140 (0, 0))] :: [(g3, .cells #[.int .i64 x2.value.node, .int .i64 x2.value.leg.Secs, .int .i64 x2.value.leg.Meters, .int .i64 x2.n] 140 (0, 0))] :: [(g1, .cells #[.func (.func 77) #[] #[], .slice A1 q1.heap.length c1, .int .i64 q1.count] 138 (0, 0))] :: ch1 :: L)) 1 0 rfl rfl rfl rfl ?_)))
    refine ⟨Kept.more (Kept.more (Kept.refl)), ?_⟩
    refine P_none (PL_nil (AN.done0 (by kernel_rfl) ?_))
    have e_ := Option.some.inj h1010
    subst e_
    exact ⟨x1.value.node, x1.value.leg.Secs, x1.value.leg.Meters, x1.n, x2.value.node, x2.value.leg.Secs, x2.value.leg.Meters, x2.n, g2, g3, rfl, SubFr.of ⟨rfl, rfl, rfl, trivial⟩, SegSub.sel _ [some 2, some 3, some 0, some 1] 4, rfl⟩
  rintro fr1010 μ1010 L1010 hm1010 ⟨f1, f2, f3, f4, f5, f6, f7, f8, g4, g5, ho1010, hF1010, hS1010, hu1010⟩
  subst ho1010
  replace h := oun_mk h
  replace h := oun_mk h
  replace h := oun_mk h
  replace h := oun_mk h
  replace h := oun_mk h
  replace h := oun_mk h
  replace h := oun_mk h
  subst hu1010
  refine hK984 _ _ _ (WP.at hF1010 hS1010 (WP.seq_k (fun K1050 hK1050 => WP.seq_k (fun K1051 hK1051 => WP.drawn (id := 2) (l' := List.replicate 9 true) wide Tt_ok _ Kept.refl [(true, 0), (true, 1), (true, 2), (true, 3), (true, 4), (true, 5), (true, 6), (true, 7), (false, 8)] (by kernel_rfl) (by kernel_rfl) rfl (PL_t rfl (R_move rfl (Pt rfl rfl (R_nilP rfl (Pt rfl rfl (R_fa0 (o' := 0) rfl rfl rfl rfl rfl rfl (Pt rfl rfl (R_load rfl rfl rfl (Ex.mk _ (Cell.seg 0 0 rfl rfl rfl) (P_some rfl ?_))))))))))))))
  refine PL_t rfl (R_fa0 (o' := 0) rfl rfl rfl rfl rfl rfl (Pt rfl rfl (R_loadA rfl rfl rfl rfl (LA_ (vs := [.int .i64 f1, .int .i64 f2, .int .i64 f3]) 2 0 rfl rfl rfl rfl (Pt rfl rfl (R_fa0 (o' := 0) rfl rfl rfl rfl rfl rfl (Pt rfl rfl (R_loadA rfl rfl rfl rfl (LA_ (vs := [.int .i64 f5, .int .i64 f6, .int .i64 f7]) 3 0 rfl rfl rfl rfl (P_some rfl (PL_f rfl (O_call (all := [.agg #[.int .i64 f1, .int .i64 f2, .int .i64 f3], .agg #[.int .i64 f5, .int .i64 f6, .int .i64 f7]]) rfl rfl rfl ?_))))))))))))
  obtain ⟨r1, hx3, h⟩ := obind h
  refine road_spread_1_fn  hx3 (?_)
  refine ⟨Kept.refl, ?_⟩
  refine P_some rfl (PL_nil (AN.done0 (by kernel_rfl) (hK1051 _ _ _ ?_)))
  refine W_cond_v (b := r1) rfl (fun hc3 => ?_) (fun hc3 => ?_)
  · replace h := cond_t hc3 h
    refine WP.seq_k (fun K1062 hK1062 => Wr Tt_ok rfl (R_assign rfl (Pn rfl (hK1062 _ _ _ (WP.ret ?_)))))
    have e_ := Option.some.inj h
    subst e_
    refine S_tmp rfl (S_nil (Upd.seg (L2 := (((g1, Obj.cells #[.func (.func 77) #[] #[], .slice A1 q1.heap.length c1, .int .i64 q1.count] 138 (0, 0)) :: (ch1 ++ [])) :: L)) (SegSub.trans (SegSub.flat (by simp [selS])) (SegSub.sel _ [some 0, some 1] 4)) ?_))
    exact Upd.done hR
  replace h := cond_f hc3 h
  refine WP.skip (hK1050 _ _ _ (WP.seq_k (fun K1063 hK1063 => ?_)))
  obtain ⟨o1064, h1064, h⟩ := obind h
  refine WP.cutK (fun fr_ μ_ L_ => ∃ (v1 : Bool), v1 = o1064 ∧ SubFr [(6, .bool v1)] fr_ ∧ SegSub ([(g1, .cells #[.func (.func 77) #[] #[], .slice A1 q1.heap.length c1, .int .i64 q1.count] 138 (0, 0))] :: ch1 :: L) L_ ∧ μ = μ_) ?_ ?_
  · refine WP.drawn (id := 4) (l' := List.replicate 18 true) wide Tt_ok _ Kept.refl [(true, 0), (true, 1), (true, 2), (true, 3), (true, 4), (true, 5), (true, 6), (true, 7), (true, 8), (true, 9), (true, 10), (true, 11), (true, 12), (true, 13), (false, 14), (true, 15), (true, 16), (true, 17)] (by kernel_rfl) (by kernel_rfl) rfl (PL_t rfl (R_fa0 (o' := 3) rfl rfl rfl rfl rfl rfl (Pt rfl rfl (R_load rfl rfl rfl (Ex.mk _ (Cell.seg 2 0 rfl rfl rfl) (Pt rfl rfl (R_fa0 (o' := 3) rfl rfl rfl rfl rfl rfl (Pt rfl rfl (R_load rfl rfl rfl (Ex.mk _ (Cell.seg 3 0 rfl rfl rfl) (Pt rfl rfl (R_lssD rfl rfl (P_some rfl ?_)))))))))))))
    refine PL_t rfl (R_move rfl (P_some rfl ?_))
    refine PL_tv (z := (decide (f4 < f8))) rfl rfl rfl (fun hc4 => ?_) (fun hc4 => ?_)
    · replace h1064 := cond_t hc4 h1064
      refine R_move rfl (P_some rfl (PL_tY rfl rfl rfl hc4 (R_nilP rfl (P_some rfl (PL_tY rfl rfl rfl hc4 (R_fa0 (o' := 0) rfl rfl rfl rfl rfl rfl (P_some rfl (PL_tY rfl rfl rfl hc4 (R_load rfl rfl rfl (Ex.mk _ (Cell.seg 0 0 rfl rfl rfl) (P_some rfl (PL_tY rfl rfl rfl hc4 (R_fa0 (o' := 0) rfl rfl rfl rfl rfl rfl (P_some rfl (PL_tY rfl rfl rfl hc4 (R_loadA rfl rfl rfl rfl (LA_ (vs := [.int .i64 f5, .int .i64 f6, .int .i64 f7]) 3 0 rfl rfl rfl rfl ?_)))))))))))))))))
      refine P_some rfl (PL_tY rfl rfl rfl hc4 (R_fa0 (o' := 0) rfl rfl rfl rfl rfl rfl (P_some rfl (PL_tY rfl rfl rfl hc4 (R_loadA rfl rfl rfl rfl (LA_ (vs := [.int .i64 f1, .int .i64 f2, .int .i64 f3]) 2 0 rfl rfl rfl rfl (P_some rfl (PL_fY rfl rfl rfl hc4 (O_call (all := [.agg #[.int .i64 f5, .int .i64 f6, .int .i64 f7], .agg #[.int .i64 f1, .int .i64 f2, .int .i64 f3]]) rfl rfl rfl ?_)))))))))
      obtain ⟨r2, hx4, h1064⟩ := obind h1064
      refine road_spread_1_fn  hx4 (?_)
      refine ⟨Kept.refl, ?_⟩
      refine P_some rfl (PL_tY rfl rfl rfl hc4 (R_not rfl (Pt rfl rfl (R_pick_T rfl hc4 rfl (Pt rfl rfl (R_assign rfl (P_some rfl (PL_nil (AN.done0 (by kernel_rfl) ?_)))))))))
      have e_ := Option.some.inj h1064
      subst e_
      exact ⟨!r2, rfl, SubFr.of ⟨rfl, trivial⟩, SegSub.sel _ [some 0, some 1] 4, rfl⟩
    replace h1064 := cond_f hc4 h1064
    refine P_some rfl (PL_tN rfl rfl rfl hc4 (P_some rfl (PL_tN rfl rfl rfl hc4 (P_some rfl (PL_tN rfl rfl rfl hc4 (P_some rfl (PL_tN rfl rfl rfl hc4 (P_some rfl (PL_tN rfl rfl rfl hc4 (P_some rfl (PL_tN rfl rfl rfl hc4 (P_some rfl (PL_tN rfl rfl rfl hc4 (P_some rfl (PL_fN rfl rfl rfl hc4 (P_some rfl (PL_tN rfl rfl rfl hc4 ?_)))))))))))))))))
    refine Pt rfl rfl (R_pick_F rfl hc4 rfl (Pt rfl rfl (R_assign rfl (P_some rfl (PL_nil (AN.done0 (by kernel_rfl) ?_))))))
    have e_ := Option.some.inj h1064
    subst e_
    exact ⟨false, rfl, SubFr.of ⟨rfl, trivial⟩, SegSub.sel _ [some 0, some 1] 4, rfl⟩
  rintro fr1064 μ1064 L1064 hm1064 ⟨v1, ho1064, hF1064, hS1064, hu1064⟩
  subst ho1064
  subst hu1064
  refine hK1063 _ _ _ (WP.at hF1064 hS1064 (WP.ret ?_))
  have e_ := Option.some.inj h
  subst e_
  refine S_tmp rfl (S_nil (Upd.seg (L2 := (((g1, Obj.cells #[.func (.func 77) #[] #[], .slice A1 q1.heap.length c1, .int .i64 q1.count] 138 (0, 0)) :: (ch1 ++ [])) :: L)) (SegSub.trans (SegSub.flat (by simp [selS])) (SegSub.sel _ [some 0, some 1] 2)) ?_))
  exact Upd.done hR

end Go.Proofs.Ytjbminmhndgiaaa
