/- Printed by gen2.py of this repo: the walks that tie the functions to their specifications. -/
import Derived.Laws.StructEq
import Derived.Test.YtjbminmhndgiaaaTt
import Derived.Test.YtjbminmhndgiaaaTas
import Derived.Test.YtjbminmhndgiaaaGe
import Derived.Test.YtjbminmhndgiaaaGt
import Derived.Test.YtjbminmhndgiaaaGx
import Derived.Test.YtjbminmhndgiaaaMd
namespace Go.Proofs.Ytjbminmhndgiaaa
open Go.RowKit
set_option linter.unusedSimpArgs false
set_option linter.unusedVariables false
set_option maxRecDepth 4000
attribute [local irreducible] WP SemOk SemU Fn AN Upd vcR vcO vcOps vcPlan putK fillK resK inBlk forkOne Cell StAt Kept KS

theorem eqRun_T_api_Visit (a b : T_api_Visit) : PureRun Try.prog (do eqGuard .eql 48 (.tmp 0) (.tmp 0) (.agg #[.int .i64 a.Stop, .int .i64 a.Node, .int .i64 a.Arrive, .int .i64 a.Start, .int .i64 a.Leave, .int .i64 a.Load]) (.agg #[.int .i64 b.Stop, .int .i64 b.Node, .int .i64 b.Arrive, .int .i64 b.Start, .int .i64 b.Leave, .int .i64 b.Load]); binOp .eql 48 (.agg #[.int .i64 a.Stop, .int .i64 a.Node, .int .i64 a.Arrive, .int .i64 a.Start, .int .i64 a.Leave, .int .i64 a.Load]) (.agg #[.int .i64 b.Stop, .int .i64 b.Node, .int .i64 b.Arrive, .int .i64 b.Start, .int .i64 b.Leave, .int .i64 b.Load])) (.bool (decide (a = b))) := by
  obtain ⟨x0, x1, x2, x3, x4, x5⟩ := a
  obtain ⟨y0, y1, y2, y3, y4, y5⟩ := b
  intro w
  rw [Sem.run_bind, run_eqGuard_agg w _ _ _ _ _ _ (by kernel_rfl), Result.andThen_ok]
  simp only [binOp, Op.equal, Op.maxDepth, Sem.run_bind]
  rw [run_equalIn_struct w 9999 _ _ _ (by kernel_rfl) (by kernel_rfl)]
  by_cases h0 : x0 = y0
  case neg => simp [Program.fieldsOf, Try.underlying48, go_sem, h0]
  by_cases h1 : x1 = y1
  case neg => simp [Program.fieldsOf, Try.underlying48, go_sem, h0, h1]
  by_cases h2 : x2 = y2
  case neg => simp [Program.fieldsOf, Try.underlying48, go_sem, h0, h1, h2]
  by_cases h3 : x3 = y3
  case neg => simp [Program.fieldsOf, Try.underlying48, go_sem, h0, h1, h2, h3]
  by_cases h4 : x4 = y4
  case neg => simp [Program.fieldsOf, Try.underlying48, go_sem, h0, h1, h2, h3, h4]
  by_cases h5 : x5 = y5
  case neg => simp [Program.fieldsOf, Try.underlying48, go_sem, h0, h1, h2, h3, h4, h5]
  simp [Program.fieldsOf, Try.underlying48, go_sem, h0, h1, h2, h3, h4, h5]

theorem neRun_T_api_Visit (a b : T_api_Visit) : PureRun Try.prog (do eqGuard .neq 48 (.tmp 0) (.tmp 0) (.agg #[.int .i64 a.Stop, .int .i64 a.Node, .int .i64 a.Arrive, .int .i64 a.Start, .int .i64 a.Leave, .int .i64 a.Load]) (.agg #[.int .i64 b.Stop, .int .i64 b.Node, .int .i64 b.Arrive, .int .i64 b.Start, .int .i64 b.Leave, .int .i64 b.Load]); binOp .neq 48 (.agg #[.int .i64 a.Stop, .int .i64 a.Node, .int .i64 a.Arrive, .int .i64 a.Start, .int .i64 a.Leave, .int .i64 a.Load]) (.agg #[.int .i64 b.Stop, .int .i64 b.Node, .int .i64 b.Arrive, .int .i64 b.Start, .int .i64 b.Leave, .int .i64 b.Load])) (.bool (!(decide (a = b)))) := by
  obtain ⟨x0, x1, x2, x3, x4, x5⟩ := a
  obtain ⟨y0, y1, y2, y3, y4, y5⟩ := b
  intro w
  rw [Sem.run_bind, run_eqGuard_agg w _ _ _ _ _ _ (by kernel_rfl), Result.andThen_ok]
  simp only [binOp, Op.equal, Op.maxDepth, Sem.run_bind]
  rw [run_equalIn_struct w 9999 _ _ _ (by kernel_rfl) (by kernel_rfl)]
  by_cases h0 : x0 = y0
  case neg => simp [Program.fieldsOf, Try.underlying48, go_sem, h0]
  by_cases h1 : x1 = y1
  case neg => simp [Program.fieldsOf, Try.underlying48, go_sem, h0, h1]
  by_cases h2 : x2 = y2
  case neg => simp [Program.fieldsOf, Try.underlying48, go_sem, h0, h1, h2]
  by_cases h3 : x3 = y3
  case neg => simp [Program.fieldsOf, Try.underlying48, go_sem, h0, h1, h2, h3]
  by_cases h4 : x4 = y4
  case neg => simp [Program.fieldsOf, Try.underlying48, go_sem, h0, h1, h2, h3, h4]
  by_cases h5 : x5 = y5
  case neg => simp [Program.fieldsOf, Try.underlying48, go_sem, h0, h1, h2, h3, h4, h5]
  simp [Program.fieldsOf, Try.underlying48, go_sem, h0, h1, h2, h3, h4, h5]

theorem eqRun_T_api_Leg (a b : T_api_Leg) : PureRun Try.prog (do eqGuard .eql 51 (.tmp 0) (.tmp 0) (.agg #[.int .i64 a.Secs, .int .i64 a.Meters]) (.agg #[.int .i64 b.Secs, .int .i64 b.Meters]); binOp .eql 51 (.agg #[.int .i64 a.Secs, .int .i64 a.Meters]) (.agg #[.int .i64 b.Secs, .int .i64 b.Meters])) (.bool (decide (a = b))) := by
  obtain ⟨x0, x1⟩ := a
  obtain ⟨y0, y1⟩ := b
  intro w
  rw [Sem.run_bind, run_eqGuard_agg w _ _ _ _ _ _ (by kernel_rfl), Result.andThen_ok]
  simp only [binOp, Op.equal, Op.maxDepth, Sem.run_bind]
  rw [run_equalIn_struct w 9999 _ _ _ (by kernel_rfl) (by kernel_rfl)]
  by_cases h0 : x0 = y0
  case neg => simp [Program.fieldsOf, Try.underlying51, go_sem, h0]
  by_cases h1 : x1 = y1
  case neg => simp [Program.fieldsOf, Try.underlying51, go_sem, h0, h1]
  simp [Program.fieldsOf, Try.underlying51, go_sem, h0, h1]

theorem neRun_T_api_Leg (a b : T_api_Leg) : PureRun Try.prog (do eqGuard .neq 51 (.tmp 0) (.tmp 0) (.agg #[.int .i64 a.Secs, .int .i64 a.Meters]) (.agg #[.int .i64 b.Secs, .int .i64 b.Meters]); binOp .neq 51 (.agg #[.int .i64 a.Secs, .int .i64 a.Meters]) (.agg #[.int .i64 b.Secs, .int .i64 b.Meters])) (.bool (!(decide (a = b)))) := by
  obtain ⟨x0, x1⟩ := a
  obtain ⟨y0, y1⟩ := b
  intro w
  rw [Sem.run_bind, run_eqGuard_agg w _ _ _ _ _ _ (by kernel_rfl), Result.andThen_ok]
  simp only [binOp, Op.equal, Op.maxDepth, Sem.run_bind]
  rw [run_equalIn_struct w 9999 _ _ _ (by kernel_rfl) (by kernel_rfl)]
  by_cases h0 : x0 = y0
  case neg => simp [Program.fieldsOf, Try.underlying51, go_sem, h0]
  by_cases h1 : x1 = y1
  case neg => simp [Program.fieldsOf, Try.underlying51, go_sem, h0, h1]
  simp [Program.fieldsOf, Try.underlying51, go_sem, h0, h1]
variable {μ : Gh} {L : List Seg} {R : Value → Gh → List Seg → Prop}
theorem recyclingref22_Large_fn  {p1 : T_api_Problem} {A1 : Option Addr} {c1 : Nat} {A2 : Option Addr} {c2 : Nat} {A3 : Option Addr} {c3 : Nat} {res1 : Bool}
    (hl1 : p1.Road.Edges.length ≤ c1 ∧ c1 ≤ maxLen) (hA1 : ArrR r_api_Edge μ A1 p1.Road.Edges) (hl2 : p1.Vehicles.length ≤ c2 ∧ c2 ≤ maxLen) (hA2 : ArrR r_api_Vehicle μ A2 p1.Vehicles) (hl3 : p1.Demands.length ≤ c3 ∧ c3 ≤ maxLen) (hA3 : ArrR r_api_Demand μ A3 p1.Demands) (h : recyclingref22_Large p1 = some res1)
    (hR : R (.bool res1) μ (L)) :
    Fn Try.prog 11 [.agg #[.int .i64 p1.Road.Nodes, .slice A1 p1.Road.Edges.length c1, .slice A2 p1.Vehicles.length c2, .slice A3 p1.Demands.length c3, .int .i64 p1.Unload, .int .i64 p1.UnloadSecs]] μ (L) R := by
  unfold recyclingref22_Large at h
  refine FnS Try.func11 (by kernel_rfl) E Try.ntmps11 E E ?_
  refine G0 2 E (Al E fun _ => Q0 4 E ?_)
  refine Cut h (fun f l o_ f_ μ_ l_ => ∃ (v1 : Bool), v1 = o_ ∧ SubFr ((21, .bool v1) :: keepF [1] f) f_ ∧ SegSub l l_ ∧ μ = μ_) ?_ ?_
  · intro _ h9 h
    refine G1 7 [0] E ?_
    refine Br h9 10 E E (fun hc1 h9 => ?_) (fun hc1 h9 => ?_)
    · refine G2 12 [10, 16] [] [] E ?_
      cases h9
      exact Ce E ⟨_, rfl, fE E, sE [some 0] 1 E, rfl⟩
    refine G2 6 [] [10] [0] E ?_
    refine Br h9 16 E E (fun hc2 h9 => ?_) (fun hc2 h9 => ?_)
    · refine G2 6 [16] [] [] E ?_
      cases h9
      exact Ce E ⟨_, rfl, fE E, sE [some 0] 1 E, rfl⟩
    refine G2 6 [] [16] [0] E ?_
    cases h9
    exact Ce E ⟨_, rfl, fE E, sE [some 0] 1 E, rfl⟩
  rintro _ _ _ _ h _ ⟨v1, rfl, hF9, hS9, rfl⟩
  refine Atn 1 hF9 hS9 E E ?_
  refine Br h 21 E E (fun hc3 h => ?_) (fun hc3 h => ?_)
  · refine G2 5 [21] [] [] E ?_
    cases h
    exact Rt [] E E (Ug [] 1 hR)
  refine G2 10 [] [21] [0] E ?_
  refine Cut h (fun f l o_ f_ μ_ l_ => (.inl ()) = o_ ∧ SubFr ([]) f_ ∧ SegSub (selS [] 1 l) l_ ∧ μ = μ_) ?_ ?_
  · intro _ h12 h
    refine Lp h12 (fun f l (v2 : Int) f_ μ_ l_ => SubFr ((25, .int .i64 v2) :: keepF [23, 24] f) f_ ∧ SegSub (selS [] 1 l) l_ ∧ μ = μ_) ⟨fE E, sE [] 1 E, E⟩ ?_
    rintro v2 _ _ _ _ _ ⟨hF17, hS17, rfl⟩ hb17 hq17
    unfold recyclingref22_Large_l1 at hb17
    refine Atn 0 hF17 hS17 E E (G0 5 E ?_)
    refine Br hb17 26 E E (fun hc4 hb17 => ?_) (fun hc4 hb17 => ?_)
    · refine G2 6 [26] [] [] E (Ix hb17 (ArrR.rds hA2 L) E E fun _ _ _ _ hr1 hc5 _ hb17 => ?_)
      obtain rfl := hr1
      refine Q3 1 [] [] [64] (Z1 hc5) E (Al E fun _ => Q1 9 [0, 0] E ?_)
      refine Br hb17 32 E E (fun hc6 hb17 => ?_) (fun hc6 hb17 => ?_)
      · refine G2 5 [32] [] [] E ?_
        cases hb17
        have hq_ := hq17 _ E
        subst hq_
        replace h := osum_r h
        cases h
        exact Rt [] E E (Ug [] 1 hR)
      refine G2 7 [] [32] [] E ?_
      cases hb17
      exact Ce E ⟨_, rfl, fE E, sE [] 1 E, rfl⟩
    refine G2 2 [] [26] [] E ?_
    cases hb17
    have hq_ := hq17 _ E
    subst hq_
    exact Ce E ⟨rfl, fE E, sE [] 0 E, rfl⟩
  rintro _ _ _ _ h _ ⟨rfl, hF12, hS12, rfl⟩
  replace h := osum_l h
  refine Atn 0 hF12 hS12 E E (G0 4 E ?_)
  cases h
  exact Rt [] E E (Ug [] 0 hR)

theorem recyclinglaw22_example_fn    {res1 : T_api_Problem}
     (h : recyclinglaw22_example = some res1)
    (hR : ∀ (μ' : Gh) (A0_1 : Option Addr) (c0_1 : Nat) (A0_2 : Option Addr) (c0_2 : Nat) (A0_3 : Option Addr) (c0_3 : Nat), μ.le μ' → (res1.Road.Edges.length ≤ c0_1 ∧ c0_1 ≤ maxLen) → ArrR r_api_Edge μ' A0_1 res1.Road.Edges → (res1.Vehicles.length ≤ c0_2 ∧ c0_2 ≤ maxLen) → ArrR r_api_Vehicle μ' A0_2 res1.Vehicles → (res1.Demands.length ≤ c0_3 ∧ c0_3 ≤ maxLen) → ArrR r_api_Demand μ' A0_3 res1.Demands → R (.agg #[.int .i64 res1.Road.Nodes, .slice A0_1 res1.Road.Edges.length c0_1, .slice A0_2 res1.Vehicles.length c0_2, .slice A0_3 res1.Demands.length c0_3, .int .i64 res1.Unload, .int .i64 res1.UnloadSecs]) μ' (L)) :
    Fn Try.prog 27 [] μ (L) R := by
  unfold recyclinglaw22_example at h
  refine FnS Try.func27 (by kernel_rfl) E Try.ntmps27 E E ?_
  refine G0 2 E (Al E fun _ => Q0 5 E (So E (O_bsl (z := [.int .i64 0, .int .i64 0, .int .i64 0, .int .i64 0, .int .i64 0, .int .i64 0, .int .i64 0, .int .i64 0]) E E E E E E E (F_cons (cells' := [.int .i64 0, .int .i64 1, .int .i64 500, .int .i64 60, .int .i64 0, .int .i64 0, .int .i64 0, .int .i64 0]) E E E E (F_cons (cells' := [.int .i64 0, .int .i64 1, .int .i64 500, .int .i64 60, .int .i64 1, .int .i64 0, .int .i64 500, .int .i64 60]) E E E E (F_nil (fun g2 => Q0 3 E (So E (O_bsl (z := [.string ⟨#[]⟩, .int .i64 0, .int .i64 0, .int .i64 0, .int .i64 0, .int .i64 0]) E E E E E E E (F_cons (cells' := [.string ⟨#[118]⟩, .int .i64 0, .int .i64 1000, .int .i64 2000, .int .i64 1000, .int .i64 1]) E E E E (F_nil (fun g3 => Q0 2 E (So E (O_bsl (z := [.int .i64 0, .int .i64 0, .int .i64 0, .int .i64 0, .int .i64 0, .int .i64 0, .int .i64 0]) E E E E E E E ?_))))))))))))))
  refine F_cons (cells' := [.int .i64 0, .int .i64 1, .int .i64 0, .int .i64 300, .int .i64 1100, .int .i64 1200, .int .i64 30]) E E E E (F_nil (fun g4 => Q1 3 [3] E ?_))
  cases h
  refine Rt [3] E E ?_
  have hl1 : [(T_api_Edge.mk 0 1 500 60), (T_api_Edge.mk 1 0 500 60)].length ≤ 2 ∧ 2 ≤ maxLen := ⟨Nat.le_refl _, by unfold maxLen; omega⟩
  refine Upd.frzOwn 2 E (Own.lit (r := r_api_Edge) (e := 86) (g := g2) (xs := [(T_api_Edge.mk 0 1 500 60), (T_api_Edge.mk 1 0 500 60)]) (cs := [.int .i64 0, .int .i64 1, .int .i64 500, .int .i64 60, .int .i64 1, .int .i64 0, .int .i64 500, .int .i64 60]) (css := [[.int .i64 0, .int .i64 1, .int .i64 500, .int .i64 60], [.int .i64 1, .int .i64 0, .int .i64 500, .int .i64 60]]) E (All2.cons (E) (All2.cons (E) (All2.nil))) E E) fun _ hm_1 hA1 => ?_
  have hl2 : [(T_api_Vehicle.mk ⟨#[118]⟩ 0 (T_api_Window.mk 1000 2000) 1000 1)].length ≤ 1 ∧ 1 ≤ maxLen := ⟨Nat.le_refl _, by unfold maxLen; omega⟩
  refine Upd.frzOwn 1 E (Own.lit (r := r_api_Vehicle) (e := 46) (g := g3) (xs := [(T_api_Vehicle.mk ⟨#[118]⟩ 0 (T_api_Window.mk 1000 2000) 1000 1)]) (cs := [.string ⟨#[118]⟩, .int .i64 0, .int .i64 1000, .int .i64 2000, .int .i64 1000, .int .i64 1]) (css := [[.string ⟨#[118]⟩, .int .i64 0, .int .i64 1000, .int .i64 2000, .int .i64 1000, .int .i64 1]]) E (All2.cons (E) (All2.nil)) E E) fun _ hm_2 hA2 => ?_
  replace hA1 := hA1.mono hm_2
  have hl3 : [(T_api_Demand.mk 0 1 0 300 (T_api_Window.mk 1100 1200) 30)].length ≤ 1 ∧ 1 ≤ maxLen := ⟨Nat.le_refl _, by unfold maxLen; omega⟩
  refine Upd.frzOwn 0 E (Own.lit (r := r_api_Demand) (e := 79) (g := g4) (xs := [(T_api_Demand.mk 0 1 0 300 (T_api_Window.mk 1100 1200) 30)]) (cs := [.int .i64 0, .int .i64 1, .int .i64 0, .int .i64 300, .int .i64 1100, .int .i64 1200, .int .i64 30]) (css := [[.int .i64 0, .int .i64 1, .int .i64 0, .int .i64 300, .int .i64 1100, .int .i64 1200, .int .i64 30]]) E (All2.cons (E) (All2.nil)) E E) fun _ hm_3 hA3 => ?_
  replace hA1 := hA1.mono hm_3
  replace hA2 := hA2.mono hm_3
  exact (Ug [] 4 (hR _ (some ⟨g2, 0, none⟩) 2 (some ⟨g3, 0, none⟩) 1 (some ⟨g4, 0, none⟩) 1 (hm_1.trans (hm_2.trans hm_3)) hl1 hA1 hl2 hA2 hl3 hA3))

theorem road_network_fn  {r1 : T_api_Road} {A1 : Option Addr} {c1 : Nat} {res1 : T_api_Graph}
    (hl1 : r1.Edges.length ≤ c1 ∧ c1 ≤ maxLen) (hA1 : ArrR r_api_Edge μ A1 r1.Edges) (h : road_network r1 = some res1)
    (hR : ∀ (μ' : Gh) (A0_1 : Option Addr) (c0_1 : Nat), μ.le μ' → (res1.Arcs.length ≤ c0_1 ∧ c0_1 ≤ maxLen) → ArrR r_api_Arc μ' A0_1 res1.Arcs → R (.agg #[.int .i64 res1.Nodes, .slice A0_1 res1.Arcs.length c0_1]) μ' (L)) :
    Fn Try.prog 42 [.agg #[.int .i64 r1.Nodes, .slice A1 r1.Edges.length c1]] μ (L) R := by
  unfold road_network at h
  refine FnS Try.func42 (by kernel_rfl) E Try.ntmps42 E E ?_
  refine G0 2 E (Al E fun _ => Q0 0 E (Al E fun g2 => Q1 6 [1] E (Al E fun g3 => Q1 10 [0, 2] E ?_)))
  refine Cut h (fun f l o_ f_ μ_ l_ => ∃ (f2 : (List T_api_Arc)) (A4 : Option Addr) (c4 : Nat) (ch3 : Seg), f2 = o_ ∧ SubFr (keepF [2, 3] f) f_ ∧ SegSub ([(g2, .cells #[.int .i64 0, .slice none 0 0] 90 (0, 0))] :: [(g3, .cells #[.int .i64 r1.Nodes, .slice A4 f2.length c4] 90 (0, 0))] :: ch3 :: selS [] 3 l) l_ ∧ Own r_api_Arc 108 μ_ (.slice A4 f2.length c4) f2 ch3) ?_ ?_
  · intro _ h177 h
    refine Lp h177 (fun f l (j_ : (List T_api_Arc) × Int) f_ μ_ l_ => ounP j_ fun f1 v1 => ∃ (A2 : Option Addr) (c2 : Nat) (ch1 : Seg), SubFr ((12, .int .i64 v1) :: keepF [2, 3, 10, 11] f) f_ ∧ SegSub ([(g2, .cells #[.int .i64 0, .slice none 0 0] 90 (0, 0))] :: [(g3, .cells #[.int .i64 r1.Nodes, .slice A2 f1.length c2] 90 (0, 0))] :: ch1 :: selS [] 3 l) l_ ∧ Own r_api_Arc 108 μ_ (.slice A2 f1.length c2) f1 ch1) ⟨none, 0, [], fE E, sE [some 1, some 0, none] 3 E, (Own.nil)⟩ ?_
    rintro ⟨f1, v1⟩ _ _ _ _ hm192 ⟨A2, c2, ch1, hF192, hS192, hO1⟩ hb192 hq192
    unfold road_network_l1 at hb192
    replace hb192 := oun_mk hb192
    replace hA1 := hA1.mono hm192
    refine Atn 3 hF192 hS192 E E (G0 5 E ?_)
    refine Br hb192 13 E E (fun hc1 hb192 => ?_) (fun hc1 hb192 => ?_)
    · refine G2 6 [13] [] [] E (Ix hb192 (ArrR.rds hA1 L) E E fun x1 _ _ _ hr1 hc2 _ hb192 => ?_)
      obtain rfl := hr1
      refine Q3 1 [] [] [64] (Z1 (hc2.push.push.push)) E (Al E fun _ => Q1 10 [0, 2, 0, 0] E (So E (O_bsl (z := [.int .i64 0, .int .i64 0]) E E E E E E E (F_cons (cells' := [.int .i64 x1.From, .int .i64 x1.To]) E E E E (F_nil (fun g5 => Q0 0 E (So E (O_append E ?_))))))))
      obtain ⟨_, hz1, hb192⟩ := obind hb192
      refine sem_appR (r := r_api_Arc) Tt_ok E E E E (by decide) E E 4 E hO1 E (Own.rds (Own.lit (r := r_api_Arc) (e := 108) (g := g5) (xs := [(T_api_Arc.mk x1.From x1.To)]) (cs := [.int .i64 x1.From, .int .i64 x1.To]) (css := [[.int .i64 x1.From, .int .i64 x1.To]]) E (All2.cons (E) (All2.nil)) E E) 0 E) hz1 fun A3 c3 ch2 hO2 => Q1 8 [3] E ?_
      cases hb192
      exact Ce E ⟨_, rfl, A3, c3, ch2, fE E, sE [some 2, some 3, some 4] 5 E, (hO2)⟩
    refine G2 2 [] [13] [] E ?_
    cases hb192
    have hq_ := hq192 _ E
    subst hq_
    exact Ce E ⟨_, A2, c2, ch1, rfl, fE E, sE [some 0, some 1, some 2] 3 E, (hO1)⟩
  rintro _ _ _ _ h hm177 ⟨f2, A4, c4, ch3, rfl, hF177, hS177, hO3⟩
  refine Atn 3 hF177 hS177 E E (G1 5 [1, 0] E ?_)
  cases h
  refine Rt [0] E E ?_
  have hl2 := Own.lenOk hO3
  refine Upd.frzOwn 2 E hO3 fun _ hm_1 hA3 => ?_
  exact (Ug [] 3 (hR _ A4 c4 (hm177.trans hm_1) hl2 hA3))

theorem graph_Check_fn  {g1 : T_api_Graph} {A1 : Option Addr} {c1 : Nat} {res1 : Int}
    (hl1 : g1.Arcs.length ≤ c1 ∧ c1 ≤ maxLen) (hA1 : ArrR r_api_Arc μ A1 g1.Arcs) (h : graph_Check g1 = some res1)
    (hR : R (.int .i64 res1) μ (L)) :
    Fn Try.prog 41 [.agg #[.int .i64 g1.Nodes, .slice A1 g1.Arcs.length c1]] μ (L) R := by
  unfold graph_Check at h
  refine FnS Try.func41 (by kernel_rfl) E Try.ntmps41 E E ?_
  refine G0 2 E (Al E fun _ => Q0 4 E ?_)
  refine Cut h (fun f l o_ f_ μ_ l_ => ∃ (v1 : Bool), v1 = o_ ∧ SubFr ((12, .bool v1) :: keepF [1] f) f_ ∧ SegSub l l_ ∧ μ = μ_) ?_ ?_
  · intro _ h220 h
    refine G1 5 [0] E ?_
    refine Br h220 8 E E (fun hc1 h220 => ?_) (fun hc1 h220 => ?_)
    · refine G2 5 [8] [] [] E ?_
      cases h220
      exact Ce E ⟨_, rfl, fE E, sE [some 0] 1 E, rfl⟩
    refine G2 5 [] [8] [0] E ?_
    cases h220
    exact Ce E ⟨_, rfl, fE E, sE [some 0] 1 E, rfl⟩
  rintro _ _ _ _ h _ ⟨v1, rfl, hF220, hS220, rfl⟩
  refine Atn 1 hF220 hS220 E E ?_
  refine Br h 12 E E (fun hc2 h => ?_) (fun hc2 h => ?_)
  · refine G2 5 [12] [] [] E ?_
    cases h
    exact Rt [] E E (Ug [] 1 hR)
  refine G2 10 [] [12] [0] E ?_
  refine Br h 16 E E (fun hc3 h => ?_) (fun hc3 h => ?_)
  · refine G2 5 [16] [] [] E ?_
    cases h
    exact Rt [] E E (Ug [] 1 hR)
  refine G2 10 [] [16] [0] E ?_
  refine Cut h (fun f l o_ f_ μ_ l_ => (.inl ()) = o_ ∧ SubFr ([]) f_ ∧ SegSub (selS [] 1 l) l_ ∧ μ = μ_) ?_ ?_
  · intro _ h223 h
    refine Lp h223 (fun f l (v2 : Int) f_ μ_ l_ => SubFr ((20, .int .i64 v2) :: keepF [1, 18, 19] f) f_ ∧ SegSub l l_ ∧ μ = μ_) ⟨fE E, sE [some 0] 1 E, E⟩ ?_
    rintro v2 _ _ _ _ _ ⟨hF233, hS233, rfl⟩ hb233 hq233
    unfold graph_Check_l1 at hb233
    refine Atn 1 hF233 hS233 E E (G0 5 E ?_)
    refine Br hb233 21 E E (fun hc4 hb233 => ?_) (fun hc4 hb233 => ?_)
    · refine G2 6 [21] [] [] E (Ix hb233 (ArrR.rds hA1 L) E E fun _ _ _ _ hr1 hc5 _ hb233 => ?_)
      obtain rfl := hr1
      refine Q3 1 [] [] [64] (Z1 (hc5.push)) E (Al E fun _ => Q1 3 [0] E ?_)
      refine Cut hb233 (fun f l o_ f_ μ_ l_ => ∃ (v3 : Bool), v3 = o_ ∧ SubFr ((45, .bool v3) :: keepF [1, 18, 19, 20] f) f_ ∧ SegSub (selS [] 1 l) l_ ∧ μ = μ_) ?_ ?_
      · intro _ h239 hb233
        refine G1 5 [0] E ?_
        refine Br h239 27 E E (fun hc6 h239 => ?_) (fun hc6 h239 => ?_)
        · refine G2 19 [27, 34, 39] [] [] E ?_
          cases h239
          exact Ce E ⟨_, rfl, fE E, sE [some 1] 2 E, rfl⟩
        refine G2 7 [] [27] [0, 1] E ?_
        refine Br h239 34 E E (fun hc7 h239 => ?_) (fun hc7 h239 => ?_)
        · refine G2 12 [34, 39] [] [] E ?_
          cases h239
          exact Ce E ⟨_, rfl, fE E, sE [some 1] 2 E, rfl⟩
        refine G2 5 [] [34] [0] E ?_
        refine Br h239 39 E E (fun hc8 h239 => ?_) (fun hc8 h239 => ?_)
        · refine G2 7 [39] [] [] E ?_
          cases h239
          exact Ce E ⟨_, rfl, fE E, sE [some 1] 2 E, rfl⟩
        refine G2 7 [] [39] [0, 1] E ?_
        cases h239
        exact Ce E ⟨_, rfl, fE E, sE [some 1] 2 E, rfl⟩
      rintro _ _ _ _ hb233 _ ⟨v3, rfl, hF239, hS239, rfl⟩
      refine Atn 1 hF239 hS239 E E ?_
      refine Br hb233 45 E E (fun hc9 hb233 => ?_) (fun hc9 hb233 => ?_)
      · refine G2 5 [45] [] [] E ?_
        cases hb233
        have hq_ := hq233 _ E
        subst hq_
        replace h := osum_r h
        cases h
        exact Rt [] E E (Ug [] 1 hR)
      refine G2 7 [] [45] [] E ?_
      cases hb233
      exact Ce E ⟨_, rfl, fE E, sE [some 0] 1 E, rfl⟩
    refine G2 2 [] [21] [] E ?_
    cases hb233
    have hq_ := hq233 _ E
    subst hq_
    exact Ce E ⟨rfl, fE E, sE [] 1 E, rfl⟩
  rintro _ _ _ _ h _ ⟨rfl, hF223, hS223, rfl⟩
  replace h := osum_l h
  refine Atn 0 hF223 hS223 E E (G0 4 E ?_)
  cases h
  exact Rt [] E E (Ug [] 0 hR)

theorem road_Check_fn  {r1 : T_api_Road} {A1 : Option Addr} {c1 : Nat} {res1 : Int}
    (hl1 : r1.Edges.length ≤ c1 ∧ c1 ≤ maxLen) (hA1 : ArrR r_api_Edge μ A1 r1.Edges) (h : road_Check r1 = some res1)
    (hR : ∀ (μ' : Gh) , μ.le μ' → R (.int .i64 res1) μ' (L)) :
    Fn Try.prog 28 [.agg #[.int .i64 r1.Nodes, .slice A1 r1.Edges.length c1]] μ (L) R := by
  unfold road_Check at h
  refine FnS Try.func28 (by kernel_rfl) E Try.ntmps28 E E ?_
  refine G0 2 E (Al E fun _ => Q0 4 E ?_)
  refine Cut h (fun f l o_ f_ μ_ l_ => ∃ (v1 : Bool), v1 = o_ ∧ SubFr ((12, .bool v1) :: keepF [1] f) f_ ∧ SegSub l l_) ?_ ?_
  · intro _ h244 h
    refine G1 5 [0] E ?_
    refine Br h244 8 E E (fun hc1 h244 => ?_) (fun hc1 h244 => ?_)
    · refine G2 5 [8] [] [] E ?_
      cases h244
      exact Ce E ⟨_, rfl, fE E, sE [some 0] 1 E⟩
    refine G2 5 [] [8] [0] E ?_
    cases h244
    exact Ce E ⟨_, rfl, fE E, sE [some 0] 1 E⟩
  rintro _ _ _ _ h hm244 ⟨v1, rfl, hF244, hS244⟩
  replace hA1 := hA1.mono hm244
  refine Atn 1 hF244 hS244 E E ?_
  refine Br h 12 E E (fun hc2 h => ?_) (fun hc2 h => ?_)
  · refine G2 5 [12] [] [] E ?_
    cases h
    exact Rt [] E E (Ug [] 1 (hR _ hm244))
  refine G2 10 [] [12] [0] E ?_
  refine Br h 16 E E (fun hc3 h => ?_) (fun hc3 h => ?_)
  · refine G2 5 [16] [] [] E ?_
    cases h
    exact Rt [] E E (Ug [] 1 (hR _ hm244))
  refine G2 10 [] [16] [0] E ?_
  refine Cut h (fun f l o_ f_ μ_ l_ => (.inl ()) = o_ ∧ SubFr (keepF [1] f) f_ ∧ SegSub l l_) ?_ ?_
  · intro _ h247 h
    refine Lp h247 (fun f l (v2 : Int) f_ μ_ l_ => SubFr ((20, .int .i64 v2) :: keepF [1, 18, 19] f) f_ ∧ SegSub l l_) ⟨fE E, sE [some 0] 1 E⟩ ?_
    rintro v2 _ _ _ _ hm262 ⟨hF262, hS262⟩ hb262 hq262
    unfold road_Check_l1 at hb262
    replace hA1 := hA1.mono hm262
    refine Atn 1 hF262 hS262 E E (G0 5 E ?_)
    refine Br hb262 21 E E (fun hc4 hb262 => ?_) (fun hc4 hb262 => ?_)
    · refine G2 6 [21] [] [] E (Ix hb262 (ArrR.rds hA1 L) E E fun _ _ _ _ hr1 hc5 _ hb262 => ?_)
      obtain rfl := hr1
      refine Q3 1 [] [] [64] (Z1 (hc5.push)) E (Al E fun _ => Q1 4 [0] E ?_)
      refine Cut hb262 (fun f l o_ f_ μ_ l_ => ∃ (v3 : Bool), v3 = o_ ∧ SubFr ((45, .bool v3) :: keepF [1, 4, 18, 19, 20] f) f_ ∧ SegSub (selS [some 1, some 0] 2 l) l_) ?_ ?_
      · intro _ h268 hb262
        refine G1 5 [0] E ?_
        refine Br h268 27 E E (fun hc6 h268 => ?_) (fun hc6 h268 => ?_)
        · refine G2 19 [27, 34, 39] [] [] E ?_
          cases h268
          exact Ce E ⟨_, rfl, fE E, sE [some 1, some 0] 2 E⟩
        refine G2 7 [] [27] [0, 1] E ?_
        refine Br h268 34 E E (fun hc7 h268 => ?_) (fun hc7 h268 => ?_)
        · refine G2 12 [34, 39] [] [] E ?_
          cases h268
          exact Ce E ⟨_, rfl, fE E, sE [some 1, some 0] 2 E⟩
        refine G2 5 [] [34] [0] E ?_
        refine Br h268 39 E E (fun hc8 h268 => ?_) (fun hc8 h268 => ?_)
        · refine G2 7 [39] [] [] E ?_
          cases h268
          exact Ce E ⟨_, rfl, fE E, sE [some 1, some 0] 2 E⟩
        refine G2 7 [] [39] [0, 1] E ?_
        cases h268
        exact Ce E ⟨_, rfl, fE E, sE [some 1, some 0] 2 E⟩
      rintro _ _ _ _ hb262 hm268 ⟨v3, rfl, hF268, hS268⟩
      replace hA1 := hA1.mono hm268
      refine Atn 2 hF268 hS268 E E ?_
      refine Br hb262 45 E E (fun hc9 hb262 => ?_) (fun hc9 hb262 => ?_)
      · refine G2 5 [45] [] [] E ?_
        cases hb262
        have hq_ := hq262 _ E
        subst hq_
        replace h := osum_r h
        cases h
        exact Rt [] E E (Ug [] 2 (hR _ (hm244.trans (hm262.trans hm268))))
      refine G2 3 [] [45] [] E ?_
      refine Cut hb262 (fun f l o_ f_ μ_ l_ => ∃ (v4 : Bool), v4 = o_ ∧ SubFr ((70, .bool v4) :: keepF [1, 18, 19, 20] f) f_ ∧ SegSub (selS [some 0] 2 l) l_) ?_ ?_
      · intro _ h273 hb262
        refine G1 7 [1, 1] E ?_
        refine Br h273 51 E E (fun hc10 h273 => ?_) (fun hc10 h273 => ?_)
        · refine G2 20 [51, 56, 61, 66] [] [] E ?_
          cases h273
          exact Ce E ⟨_, rfl, fE E, sE [some 0] 2 E⟩
        refine G2 5 [] [51] [1] E ?_
        refine Br h273 56 E E (fun hc11 h273 => ?_) (fun hc11 h273 => ?_)
        · refine G2 15 [56, 61, 66] [] [] E ?_
          cases h273
          exact Ce E ⟨_, rfl, fE E, sE [some 0] 2 E⟩
        refine G2 5 [] [56] [1] E ?_
        refine Br h273 61 E E (fun hc12 h273 => ?_) (fun hc12 h273 => ?_)
        · refine G2 10 [61, 66] [] [] E ?_
          cases h273
          exact Ce E ⟨_, rfl, fE E, sE [some 0] 2 E⟩
        refine G2 5 [] [61] [1] E ?_
        refine Br h273 66 E E (fun hc13 h273 => ?_) (fun hc13 h273 => ?_)
        · refine G2 5 [66] [] [] E ?_
          cases h273
          exact Ce E ⟨_, rfl, fE E, sE [some 0] 2 E⟩
        refine G2 5 [] [66] [1] E ?_
        cases h273
        exact Ce E ⟨_, rfl, fE E, sE [some 0] 2 E⟩
      rintro _ _ _ _ hb262 hm273 ⟨v4, rfl, hF273, hS273⟩
      replace hA1 := hA1.mono hm273
      refine Atn 1 hF273 hS273 E E ?_
      refine Br hb262 70 E E (fun hc14 hb262 => ?_) (fun hc14 hb262 => ?_)
      · refine G2 5 [70] [] [] E ?_
        cases hb262
        have hq_ := hq262 _ E
        subst hq_
        replace h := osum_r h
        cases h
        exact Rt [] E E (Ug [] 1 (hR _ (hm244.trans (hm262.trans (hm268.trans hm273)))))
      refine G2 7 [] [70] [] E ?_
      cases hb262
      exact Ce E ⟨_, rfl, fE E, sE [some 0] 1 E⟩
    refine G2 2 [] [21] [] E ?_
    cases hb262
    have hq_ := hq262 _ E
    subst hq_
    exact Ce E ⟨rfl, fE E, sE [some 0] 1 E⟩
  rintro _ _ _ _ h hm247 ⟨rfl, hF247, hS247⟩
  replace h := osum_l h
  replace hA1 := hA1.mono hm247
  refine Atn 1 hF247 hS247 E E (G1 3 [0] E (Cl E ?_))
  obtain ⟨_, hx2, h⟩ := obind h
  refine road_network_fn hl1 hA1 hx2 (fun _ _ _ hm_1 hl2 hA3 => ?_)
  refine Q0 0 E (Cl E ?_)
  obtain ⟨_, hx3, h⟩ := obind h
  refine graph_Check_fn hl2 hA3 hx3 ((Q0 2 E ?_))
  cases h
  exact Rt [] E E (Ug [] 1 (hR _ (hm244.trans (hm247.trans hm_1))))

theorem ident_letter_fn  {c1 : Int}  {res1 : Bool}
     (h : ident_letter c1 = some res1)
    (hR : R (.bool res1) μ (L)) :
    Fn Try.prog 70 [.int .u8 c1] μ (L) R := by
  unfold ident_letter at h
  refine FnS Try.func70 (by kernel_rfl) E Try.ntmps70 E E ?_
  refine G2 5 [] [13] [] E ?_
  refine Cut h (fun f l o_ f_ μ_ l_ => ∃ (v1 : Bool), v1 = o_ ∧ SubFr ((2, .bool v1) :: []) f_ ∧ SegSub l l_ ∧ μ = μ_) ?_ ?_
  · intro _ h287 h
    refine G0 4 E ?_
    refine Br h287 5 E E (fun hc1 h287 => ?_) (fun hc1 h287 => ?_)
    · refine G2 4 [5] [] [] E ?_
      refine Br h287 9 E E (fun hc2 h287 => ?_) (fun hc2 h287 => ?_)
      · refine G2 9 [9] [] [] E ?_
        cases h287
        exact Ce E ⟨_, rfl, fE E, sE [] 0 E, rfl⟩
      refine G2 3 [] [9] [] E ?_
      refine Br h287 12 E E (fun hc3 h287 => ?_) (fun hc3 h287 => ?_)
      · refine G2 6 [12] [9] [] E ?_
        cases h287
        exact Ce E ⟨_, rfl, fE E, sE [] 0 E, rfl⟩
      refine G2 6 [] [9, 12] [] E ?_
      cases h287
      exact Ce E ⟨_, rfl, fE E, sE [] 0 E, rfl⟩
    refine G2 7 [] [5, 9] [] E ?_
    refine Br h287 12 E E (fun hc4 h287 => ?_) (fun hc4 h287 => ?_)
    · refine G2 6 [12] [9] [] E ?_
      cases h287
      exact Ce E ⟨_, rfl, fE E, sE [] 0 E, rfl⟩
    refine G2 6 [] [9, 12] [] E ?_
    cases h287
    exact Ce E ⟨_, rfl, fE E, sE [] 0 E, rfl⟩
  rintro _ _ _ _ h _ ⟨v1, rfl, hF287, hS287, rfl⟩
  refine Atn 0 hF287 hS287 E E ?_
  cases h
  exact Rt [] E E (Ug [] 0 hR)

theorem ident_Valid_fn {F : Nat} {s1 : ByteArray}  {res1 : Bool}
     (h : ident_Valid F s1 = some res1)
    (hR : R (.bool res1) μ (L)) :
    Fn Try.prog 59 [.string s1] μ (L) R := by
  unfold ident_Valid at h
  refine FnS Try.func59 (by kernel_rfl) E Try.ntmps59 E E ?_
  refine G0 6 E ?_
  refine Cut h (fun f l o_ f_ μ_ l_ => ∃ (v1 : Bool), v1 = o_ ∧ SubFr ((18, .bool v1) :: keepF [0] f) f_ ∧ SegSub l l_ ∧ μ = μ_) ?_ ?_
  · intro _ h286 h
    refine G0 5 E ?_
    refine Br h286 8 E E (fun hc1 h286 => ?_) (fun hc1 h286 => ?_)
    · refine G2 11 [8, 13] [] [] E ?_
      cases h286
      exact Ce E ⟨_, rfl, fE E, sE [] 0 E, rfl⟩
    refine G2 5 [] [8] [] E ?_
    refine Br h286 13 E E (fun hc2 h286 => ?_) (fun hc2 h286 => ?_)
    · refine G2 6 [13] [] [] E ?_
      cases h286
      exact Ce E ⟨_, rfl, fE E, sE [] 0 E, rfl⟩
    obtain ⟨_, hb1, h286⟩ := obind h286
    refine G2 1 [] [13] [] E (Rdo E E (R_idxB Tt_ok E E E E hb1 (Q0 0 E (Cl E ?_))))
    obtain ⟨_, hx1, h286⟩ := obind h286
    refine ident_letter_fn  hx1 ((Q2 3 [] [13] [] E ?_))
    cases h286
    exact Ce E ⟨_, rfl, fE E, sE [] 0 E, rfl⟩
  rintro _ _ _ _ h _ ⟨v1, rfl, hF286, hS286, rfl⟩
  refine Atn 0 hF286 hS286 E E ?_
  refine Br h 18 E E (fun hc3 h => ?_) (fun hc3 h => ?_)
  · refine G2 5 [18] [] [] E ?_
    cases h
    exact Rt [] E E (Ug [] 0 hR)
  refine G2 7 [] [18] [] E ?_
  refine Cut h (fun f l o_ f_ μ_ l_ => (.inl ()) = o_ ∧ SubFr ([]) f_ ∧ SegSub l l_ ∧ μ = μ_) ?_ ?_
  · intro _ h288 h
    refine Lp h288 (fun f l (i1 : Int) f_ μ_ l_ => SubFr ((3, .int .i64 i1) :: keepF [0] f) f_ ∧ SegSub l l_ ∧ μ = μ_) ⟨fE E, sE [] 0 E, E⟩ ?_
    rintro i1 _ _ _ _ _ ⟨hF291, hS291, rfl⟩ hb291 hq291
    unfold ident_Valid_l1 at hb291
    refine Atn 0 hF291 hS291 E E (G0 8 E ?_)
    refine Br hb291 22 E E (fun hc4 hb291 => ?_) (fun hc4 hb291 => ?_)
    · obtain ⟨_, hb2, hb291⟩ := obind hb291
      refine G2 8 [22] [] [] E (Rdo E E (R_idxB Tt_ok E E E E hb2 (Q0 3 E ?_)))
      refine Cut hb291 (fun f l o_ f_ μ_ l_ => ∃ (v2 : Bool), v2 = o_ ∧ SubFr ((50, .bool v2) :: keepF [0, 3] f) f_ ∧ SegSub l l_ ∧ μ = μ_) ?_ ?_
      · intro _ h292 hb291
        refine G0 2 E (Cl E ?_)
        obtain ⟨_, hx2, h292⟩ := obind h292
        refine ident_letter_fn  hx2 ((Q0 2 E ?_))
        refine Br h292 31 E E (fun hc5 h292 => ?_) (fun hc5 h292 => ?_)
        · refine G2 3 [31] [] [] E ?_
          refine Br h292 34 E E (fun hc6 h292 => ?_) (fun hc6 h292 => ?_)
          · refine G2 9 [31, 34, 39] [] [] E ?_
            refine Br h292 43 E E (fun hc7 h292 => ?_) (fun hc7 h292 => ?_)
            · refine G2 4 [43] [] [] E ?_
              refine Br h292 47 E E (fun hc8 h292 => ?_) (fun hc8 h292 => ?_)
              · refine G2 4 [47] [] [] E ?_
                cases h292
                exact Ce E ⟨_, rfl, fE E, sE [] 0 E, rfl⟩
              refine G2 4 [] [47] [] E ?_
              cases h292
              exact Ce E ⟨_, rfl, fE E, sE [] 0 E, rfl⟩
            refine G2 8 [] [43, 47] [] E ?_
            cases h292
            exact Ce E ⟨_, rfl, fE E, sE [] 0 E, rfl⟩
          refine G2 5 [31] [34] [] E ?_
          refine Br h292 39 E E (fun hc9 h292 => ?_) (fun hc9 h292 => ?_)
          · refine G2 4 [39] [] [] E ?_
            refine Br h292 43 E E (fun hc10 h292 => ?_) (fun hc10 h292 => ?_)
            · refine G2 4 [43] [] [] E ?_
              refine Br h292 47 E E (fun hc11 h292 => ?_) (fun hc11 h292 => ?_)
              · refine G2 4 [47] [] [] E ?_
                cases h292
                exact Ce E ⟨_, rfl, fE E, sE [] 0 E, rfl⟩
              refine G2 4 [] [47] [] E ?_
              cases h292
              exact Ce E ⟨_, rfl, fE E, sE [] 0 E, rfl⟩
            refine G2 8 [] [43, 47] [] E ?_
            cases h292
            exact Ce E ⟨_, rfl, fE E, sE [] 0 E, rfl⟩
          refine G2 12 [] [39, 43, 47] [] E ?_
          cases h292
          exact Ce E ⟨_, rfl, fE E, sE [] 0 E, rfl⟩
        refine G2 20 [] [31, 39, 43, 47] [] E ?_
        cases h292
        exact Ce E ⟨_, rfl, fE E, sE [] 0 E, rfl⟩
      rintro _ _ _ _ hb291 _ ⟨v2, rfl, hF292, hS292, rfl⟩
      refine Atn 0 hF292 hS292 E E ?_
      refine Br hb291 50 E E (fun hc12 hb291 => ?_) (fun hc12 hb291 => ?_)
      · refine G2 5 [50] [] [] E ?_
        cases hb291
        have hq_ := hq291 _ E
        subst hq_
        replace h := osum_r h
        cases h
        exact Rt [] E E (Ug [] 0 hR)
      refine G2 8 [] [50] [] E ?_
      cases hb291
      exact Ce E ⟨_, rfl, fE E, sE [] 0 E, rfl⟩
    refine G2 2 [] [22] [] E ?_
    cases hb291
    have hq_ := hq291 _ E
    subst hq_
    exact Ce E ⟨rfl, fE E, sE [] 0 E, rfl⟩
  rintro _ _ _ _ h _ ⟨rfl, hF288, hS288, rfl⟩
  replace h := osum_l h
  refine Atn 0 hF288 hS288 E E (G0 4 E ?_)
  cases h
  exact Rt [] E E (Ug [] 0 hR)

theorem vehicle_fault_fn {F : Nat} {v1 : T_api_Vehicle} {nodes1 : Int} {materials1 : Int}  {res1 : Int}
     (h : vehicle_fault F v1 nodes1 materials1 = some res1)
    (hR : R (.int .i64 res1) μ (L)) :
    Fn Try.prog 43 [.agg #[.string v1.ID, .int .i64 v1.Depot, .int .i64 v1.Shift.From, .int .i64 v1.Shift.To, .int .i64 v1.Grams, .int .i64 v1.Kinds], .int .i64 nodes1, .int .i64 materials1] μ (L) R := by
  unfold vehicle_fault at h
  refine FnS Try.func43 (by kernel_rfl) E Try.ntmps43 E E ?_
  refine G0 2 E (Al E fun _ => Q1 8 [0] E (Cl E ?_))
  obtain ⟨_, hx1, h⟩ := obind h
  refine ident_Valid_fn  hx1 ((Q0 3 E ?_))
  refine Br h 7 E E (fun hc1 h => ?_) (fun hc1 h => ?_)
  · refine G2 5 [7] [] [] E ?_
    cases h
    exact Rt [] E E (Ug [] 1 hR)
  refine G2 2 [] [7] [] E ?_
  refine Cut h (fun f l o_ f_ μ_ l_ => ∃ (v2 : Bool), v2 = o_ ∧ SubFr ((12, .bool v2) :: keepF [2, 3] f) f_ ∧ SegSub l l_ ∧ μ = μ_) ?_ ?_
  · intro _ h293 h
    refine G1 5 [0] E ?_
    refine Br h293 16 E E (fun hc2 h293 => ?_) (fun hc2 h293 => ?_)
    · refine G2 7 [16] [] [] E ?_
      cases h293
      exact Ce E ⟨_, rfl, fE E, sE [some 0] 1 E, rfl⟩
    refine G2 7 [] [16] [0] E ?_
    cases h293
    exact Ce E ⟨_, rfl, fE E, sE [some 0] 1 E, rfl⟩
  rintro _ _ _ _ h _ ⟨v2, rfl, hF293, hS293, rfl⟩
  refine Atn 1 hF293 hS293 E E ?_
  refine Br h 12 E E (fun hc3 h => ?_) (fun hc3 h => ?_)
  · refine G2 5 [12] [] [] E ?_
    cases h
    exact Rt [] E E (Ug [] 1 hR)
  refine G2 2 [] [12] [] E ?_
  refine Cut h (fun f l o_ f_ μ_ l_ => ∃ (v3 : Bool), v3 = o_ ∧ SubFr ((22, .bool v3) :: keepF [2, 3] f) f_ ∧ SegSub l l_ ∧ μ = μ_) ?_ ?_
  · intro _ h296 h
    refine G1 6 [0] E ?_
    refine Br h296 27 E E (fun hc4 h296 => ?_) (fun hc4 h296 => ?_)
    · refine G2 16 [27, 36] [] [] E ?_
      cases h296
      exact Ce E ⟨_, rfl, fE E, sE [some 0] 1 E, rfl⟩
    refine G2 9 [] [27] [0, 0] E ?_
    refine Br h296 36 E E (fun hc5 h296 => ?_) (fun hc5 h296 => ?_)
    · refine G2 7 [36] [] [] E ?_
      cases h296
      exact Ce E ⟨_, rfl, fE E, sE [some 0] 1 E, rfl⟩
    refine G2 7 [] [36] [0] E ?_
    cases h296
    exact Ce E ⟨_, rfl, fE E, sE [some 0] 1 E, rfl⟩
  rintro _ _ _ _ h _ ⟨v3, rfl, hF296, hS296, rfl⟩
  refine Atn 1 hF296 hS296 E E ?_
  refine Br h 22 E E (fun hc6 h => ?_) (fun hc6 h => ?_)
  · refine G2 5 [22] [] [] E ?_
    cases h
    exact Rt [] E E (Ug [] 1 hR)
  refine G2 2 [] [22] [] E ?_
  refine Cut h (fun f l o_ f_ μ_ l_ => ∃ (v4 : Bool), v4 = o_ ∧ SubFr ((42, .bool v4) :: keepF [2, 3] f) f_ ∧ SegSub l l_ ∧ μ = μ_) ?_ ?_
  · intro _ h299 h
    refine G1 5 [0] E ?_
    refine Br h299 46 E E (fun hc7 h299 => ?_) (fun hc7 h299 => ?_)
    · refine G2 6 [46] [] [] E ?_
      cases h299
      exact Ce E ⟨_, rfl, fE E, sE [some 0] 1 E, rfl⟩
    refine G2 6 [] [46] [0] E ?_
    cases h299
    exact Ce E ⟨_, rfl, fE E, sE [some 0] 1 E, rfl⟩
  rintro _ _ _ _ h _ ⟨v4, rfl, hF299, hS299, rfl⟩
  refine Atn 1 hF299 hS299 E E ?_
  refine Br h 42 E E (fun hc8 h => ?_) (fun hc8 h => ?_)
  · refine G2 5 [42] [] [] E ?_
    cases h
    exact Rt [] E E (Ug [] 1 hR)
  refine G2 2 [] [42] [] E ?_
  refine Cut h (fun f l o_ f_ μ_ l_ => ∃ (v5 : Bool), v5 = o_ ∧ SubFr ((51, .bool v5) :: []) f_ ∧ SegSub (selS [] 1 l) l_ ∧ μ = μ_) ?_ ?_
  · intro _ h302 h
    refine Dr _ Kept.refl [(true, 0), (true, 1), (true, 2), (true, 3), (true, 4), (true, 5), (true, 6), (true, 7), (true, 8), (true, 9), (true, 10)] (by kernel_rfl) (G1 4 [0] E ?_)
    refine Br h302 55 E E (fun hc9 h302 => ?_) (fun hc9 h302 => ?_)
    · refine G2 8 [55] [] [] E ?_
      cases h302
      exact Ce E ⟨_, rfl, fE E, sE [] 1 E, rfl⟩
    refine G2 3 [] [55] [0] E (Rdo E E ?_)
    obtain ⟨_, hg1, h302⟩ := obind h302
    refine R_shlD E E E (guardO_some hg1) (Q2 4 [] [55] [] E ?_)
    cases h302
    exact Ce E ⟨_, rfl, fE E, sE [] 1 E, rfl⟩
  rintro _ _ _ _ h _ ⟨v5, rfl, hF302, hS302, rfl⟩
  refine Atn 0 hF302 hS302 E E ?_
  refine Br h 51 E E (fun hc10 h => ?_) (fun hc10 h => ?_)
  · refine G2 5 [51] [] [] E ?_
    cases h
    exact Rt [] E E (Ug [] 0 hR)
  refine G2 7 [] [51] [] E ?_
  cases h
  exact Rt [] E E (Ug [] 0 hR)

theorem vehicle_Check_fn {F : Nat} {l1 : (List T_api_Vehicle)} {nodes1 : Int} {materials1 : Int} {A1 : Option Addr} {c1 : Nat} {res1 : Int}
    (hl1 : l1.length ≤ c1 ∧ c1 ≤ maxLen) (hA1 : Rds r_api_Vehicle μ L A1 l1) (h : vehicle_Check F l1 nodes1 materials1 = some res1)
    (hR : R (.int .i64 res1) μ (L)) :
    Fn Try.prog 29 [.slice A1 l1.length c1, .int .i64 nodes1, .int .i64 materials1] μ (L) R := by
  unfold vehicle_Check at h
  refine FnS Try.func29 (by kernel_rfl) E Try.ntmps29 E E ?_
  refine G0 6 E ?_
  refine Cut h (fun f l o_ f_ μ_ l_ => ∃ (v1 : Bool), v1 = o_ ∧ SubFr ((26, .bool v1) :: keepF [0, 1, 2] f) f_ ∧ SegSub l l_ ∧ μ = μ_) ?_ ?_
  · intro _ h280 h
    refine G0 4 E ?_
    refine Br h280 15 E E (fun hc1 h280 => ?_) (fun hc1 h280 => ?_)
    · refine G2 12 [15, 19, 23] [] [] E ?_
      cases h280
      exact Ce E ⟨_, rfl, fE E, sE [] 0 E, rfl⟩
    refine G2 4 [] [15] [] E ?_
    refine Br h280 19 E E (fun hc2 h280 => ?_) (fun hc2 h280 => ?_)
    · refine G2 8 [19, 23] [] [] E ?_
      cases h280
      exact Ce E ⟨_, rfl, fE E, sE [] 0 E, rfl⟩
    refine G2 4 [] [19] [] E ?_
    refine Br h280 23 E E (fun hc3 h280 => ?_) (fun hc3 h280 => ?_)
    · refine G2 4 [23] [] [] E ?_
      cases h280
      exact Ce E ⟨_, rfl, fE E, sE [] 0 E, rfl⟩
    refine G2 4 [] [23] [] E ?_
    cases h280
    exact Ce E ⟨_, rfl, fE E, sE [] 0 E, rfl⟩
  rintro _ _ _ _ h _ ⟨v1, rfl, hF280, hS280, rfl⟩
  refine Atn 0 hF280 hS280 E E ?_
  refine Br h 26 E E (fun hc4 h => ?_) (fun hc4 h => ?_)
  · refine G2 5 [26] [] [] E ?_
    cases h
    exact Rt [] E E (Ug [] 0 hR)
  refine G2 9 [] [26] [] E ?_
  refine Br h 29 E E (fun hc5 h => ?_) (fun hc5 h => ?_)
  · refine G2 5 [29] [] [] E ?_
    cases h
    exact Rt [] E E (Ug [] 0 hR)
  refine G2 9 [] [29] [] E ?_
  refine Br h 32 E E (fun hc6 h => ?_) (fun hc6 h => ?_)
  · refine G2 5 [32] [] [] E ?_
    cases h
    exact Rt [] E E (Ug [] 0 hR)
  refine G2 9 [] [32] [] E ?_
  refine Cut h (fun f l o_ f_ μ_ l_ => (.inl ()) = o_ ∧ SubFr (keepF [0] f) f_ ∧ SegSub l l_ ∧ μ = μ_) ?_ ?_
  · intro _ h281 h
    refine Lp h281 (fun f l (v2 : Int) f_ μ_ l_ => SubFr ((35, .int .i64 v2) :: keepF [0, 1, 2, 33, 34] f) f_ ∧ SegSub l l_ ∧ μ = μ_) ⟨fE E, sE [] 0 E, E⟩ ?_
    rintro v2 _ _ _ _ _ ⟨hF303, hS303, rfl⟩ hb303 hq303
    unfold vehicle_Check_l1 at hb303
    refine Atn 0 hF303 hS303 E E (G0 5 E ?_)
    refine Br hb303 36 E E (fun hc7 hb303 => ?_) (fun hc7 hb303 => ?_)
    · refine G2 6 [36] [] [] E (Ix hb303 hA1 E E fun _ _ _ _ hr1 hc8 _ hb303 => ?_)
      obtain rfl := hr1
      refine Q3 1 [] [] [64] (Z1 hc8) E (Al E fun _ => Q1 7 [0, 0] E (Cl E ?_))
      obtain ⟨_, hx2, hb303⟩ := obind hb303
      refine vehicle_fault_fn  hx2 ((Q0 7 E ?_))
      refine Br hb303 44 E E (fun hc9 hb303 => ?_) (fun hc9 hb303 => ?_)
      · refine G2 6 [44] [] [] E ?_
        cases hb303
        have hq_ := hq303 _ E
        subst hq_
        replace h := osum_r h
        cases h
        exact Rt [] E E (Ug [] 1 hR)
      refine G2 7 [] [44] [] E ?_
      cases hb303
      exact Ce E ⟨_, rfl, fE E, sE [] 1 E, rfl⟩
    refine G2 2 [] [36] [] E ?_
    cases hb303
    have hq_ := hq303 _ E
    subst hq_
    exact Ce E ⟨rfl, fE E, sE [] 0 E, rfl⟩
  rintro _ _ _ _ h _ ⟨rfl, hF281, hS281, rfl⟩
  replace h := osum_l h
  refine Atn 0 hF281 hS281 E E (G0 2 E (So E (O_mkmap (fun g2 => Q0 9 E ?_))))
  refine Cut h (fun f l o_ f_ μ_ l_ => (.inl ()) = o_ ∧ SubFr ([]) f_ ∧ SegSub (selS [] 1 l) l_ ∧ μ = μ_) ?_ ?_
  · intro _ h307 h
    refine Lp h307 (fun f l (j_ : (List (ByteArray × Bool)) × Int) f_ μ_ l_ => ounP j_ fun m1 v3 => ∃ (es1 : Array MapEntry) (cn1 : Nat), SubFr ((50, .int .i64 v3) :: keepF [10, 48, 49] f) f_ ∧ SegSub ([(g2, .map es1 cn1)] :: selS [] 1 l) l_ ∧ MapSB Value.bool es1 cn1 m1 ∧ μ = μ_) ⟨#[], 0, fE E, sE [some 0] 1 E, ((MapSB.nil (enc := Value.bool))), E⟩ ?_
    rintro ⟨m1, v3⟩ _ _ _ _ _ ⟨es1, cn1, hF312, hS312, hM1, rfl⟩ hb312 hq312
    unfold vehicle_Check_l2 at hb312
    replace hb312 := oun_mk hb312
    refine Atn 1 hF312 hS312 E E (G0 5 E ?_)
    refine Br hb312 51 E E (fun hc10 hb312 => ?_) (fun hc10 hb312 => ?_)
    · refine G2 6 [51] [] [] E (Ix hb312 hA1 E E fun _ _ _ _ hr2 hc11 _ hb312 => ?_)
      obtain rfl := hr2
      refine Q3 1 [] [] [64] (Z1 (hc11.push)) E (Al E fun _ => Q1 8 [0, 0] E (Rdo E E (R_lookS (zb := false) Tt_ok E E E E E E E E (ObjAt.seg 1 0 E E) hM1 (Q0 1 E ?_))))
      refine Br hb312 57 E E (fun hc12 hb312 => ?_) (fun hc12 hb312 => ?_)
      · refine G2 5 [57] [] [] E ?_
        cases hb312
        have hq_ := hq312 _ E
        subst hq_
        replace h := osum_r h
        cases h
        exact Rt [] E E (Ug [] 2 hR)
      refine G2 6 [] [57] [0] E (So E (O_mapUpdate E E E (semu_mapSB Tt_ok E E E E 1 (b := true) E hM1 E fun es2 cn2 hM2 => Q0 6 E ?_)))
      cases hb312
      exact Ce E ⟨_, rfl, es2, cn2, fE E, sE [some 1] 2 E, (hM2), rfl⟩
    refine G2 2 [] [51] [] E ?_
    cases hb312
    have hq_ := hq312 _ E
    subst hq_
    exact Ce E ⟨rfl, fE E, sE [] 1 E, rfl⟩
  rintro _ _ _ _ h _ ⟨rfl, hF307, hS307, rfl⟩
  replace h := osum_l h
  refine Atn 0 hF307 hS307 E E (G0 4 E ?_)
  cases h
  exact Rt [] E E (Ug [] 0 hR)

theorem demand_within_fn  {n1 : Int} {low1 : Int} {high1 : Int}  {res1 : Bool}
     (h : demand_within n1 low1 high1 = some res1)
    (hR : R (.bool res1) μ (L)) :
    Fn Try.prog 60 [.int .i64 n1, .int .i64 low1, .int .i64 high1] μ (L) R := by
  unfold demand_within at h
  refine FnS Try.func60 (by kernel_rfl) E Try.ntmps60 E E ?_
  refine G0 5 E ?_
  refine Cut h (fun f l o_ f_ μ_ l_ => ∃ (v1 : Bool), v1 = o_ ∧ SubFr ((6, .bool v1) :: []) f_ ∧ SegSub l l_ ∧ μ = μ_) ?_ ?_
  · intro _ h325 h
    refine G0 5 E ?_
    refine Br h325 10 E E (fun hc1 h325 => ?_) (fun hc1 h325 => ?_)
    · refine G2 6 [10] [] [] E ?_
      cases h325
      exact Ce E ⟨_, rfl, fE E, sE [] 0 E, rfl⟩
    refine G2 6 [] [10] [] E ?_
    cases h325
    exact Ce E ⟨_, rfl, fE E, sE [] 0 E, rfl⟩
  rintro _ _ _ _ h _ ⟨v1, rfl, hF325, hS325, rfl⟩
  refine Atn 0 hF325 hS325 E E ?_
  cases h
  exact Rt [] E E (Ug [] 0 hR)

theorem demand_one_fn  {x1 : T_api_Demand} {nodes1 : Int} {materials1 : Int}  {res1 : Int}
     (h : demand_one x1 nodes1 materials1 = some res1)
    (hR : R (.int .i64 res1) μ (L)) :
    Fn Try.prog 44 [.agg #[.int .i64 x1.Container, .int .i64 x1.Node, .int .i64 x1.Kind, .int .i64 x1.Grams, .int .i64 x1.When.From, .int .i64 x1.When.To, .int .i64 x1.Service], .int .i64 nodes1, .int .i64 materials1] μ (L) R := by
  unfold demand_one at h
  refine FnS Try.func44 (by kernel_rfl) E Try.ntmps44 E E ?_
  refine G0 2 E (Al E fun _ => Q0 5 E ?_)
  refine Cut h (fun f l o_ f_ μ_ l_ => ∃ (v1 : Bool), v1 = o_ ∧ SubFr ((7, .bool v1) :: keepF [3] f) f_ ∧ SegSub l l_ ∧ μ = μ_) ?_ ?_
  · intro _ h324 h
    refine G1 3 [0] E (Cl E ?_)
    obtain ⟨_, hx1, h324⟩ := obind h324
    refine demand_within_fn  hx1 ((Q0 2 E ?_))
    refine Br h324 12 E E (fun hc1 h324 => ?_) (fun hc1 h324 => ?_)
    · refine G2 23 [12, 17, 23, 28] [] [] E ?_
      cases h324
      exact Ce E ⟨_, rfl, fE E, sE [some 0] 1 E, rfl⟩
    refine G2 5 [] [12] [0] E ?_
    refine Br h324 17 E E (fun hc2 h324 => ?_) (fun hc2 h324 => ?_)
    · refine G2 18 [17, 23, 28] [] [] E ?_
      cases h324
      exact Ce E ⟨_, rfl, fE E, sE [some 0] 1 E, rfl⟩
    refine G2 6 [] [17] [0] E ?_
    refine Br h324 23 E E (fun hc3 h324 => ?_) (fun hc3 h324 => ?_)
    · refine G2 12 [23, 28] [] [] E ?_
      cases h324
      exact Ce E ⟨_, rfl, fE E, sE [some 0] 1 E, rfl⟩
    refine G2 5 [] [23] [0] E ?_
    refine Br h324 28 E E (fun hc4 h324 => ?_) (fun hc4 h324 => ?_)
    · refine G2 7 [28] [] [] E ?_
      cases h324
      exact Ce E ⟨_, rfl, fE E, sE [some 0] 1 E, rfl⟩
    refine G2 7 [] [28] [0] E ?_
    cases h324
    exact Ce E ⟨_, rfl, fE E, sE [some 0] 1 E, rfl⟩
  rintro _ _ _ _ h _ ⟨v1, rfl, hF324, hS324, rfl⟩
  refine Atn 1 hF324 hS324 E E ?_
  refine Br h 7 E E (fun hc5 h => ?_) (fun hc5 h => ?_)
  · refine G2 5 [7] [] [] E ?_
    cases h
    exact Rt [] E E (Ug [] 1 hR)
  refine G2 2 [] [7] [] E ?_
  refine Cut h (fun f l o_ f_ μ_ l_ => ∃ (v2 : Bool), v2 = o_ ∧ SubFr ((34, .bool v2) :: []) f_ ∧ SegSub (selS [] 1 l) l_ ∧ μ = μ_) ?_ ?_
  · intro _ h328 h
    refine G1 3 [0] E (Cl E ?_)
    obtain ⟨_, hx2, h328⟩ := obind h328
    refine demand_within_fn  hx2 ((Q0 2 E ?_))
    refine Br h328 39 E E (fun hc6 h328 => ?_) (fun hc6 h328 => ?_)
    · refine G2 28 [39, 45, 54, 60] [] [] E ?_
      cases h328
      exact Ce E ⟨_, rfl, fE E, sE [] 1 E, rfl⟩
    refine G2 6 [] [39] [0] E ?_
    refine Br h328 45 E E (fun hc7 h328 => ?_) (fun hc7 h328 => ?_)
    · refine G2 22 [45, 54, 60] [] [] E ?_
      cases h328
      exact Ce E ⟨_, rfl, fE E, sE [] 1 E, rfl⟩
    refine G2 9 [] [45] [0, 0] E ?_
    refine Br h328 54 E E (fun hc8 h328 => ?_) (fun hc8 h328 => ?_)
    · refine G2 13 [54, 60] [] [] E ?_
      cases h328
      exact Ce E ⟨_, rfl, fE E, sE [] 1 E, rfl⟩
    refine G2 6 [] [54] [0] E ?_
    refine Br h328 60 E E (fun hc9 h328 => ?_) (fun hc9 h328 => ?_)
    · refine G2 7 [60] [] [] E ?_
      cases h328
      exact Ce E ⟨_, rfl, fE E, sE [] 1 E, rfl⟩
    refine G2 2 [] [60] [0] E (Cl E ?_)
    obtain ⟨_, hx3, h328⟩ := obind h328
    refine demand_within_fn  hx3 ((Q2 4 [] [60] [] E ?_))
    cases h328
    exact Ce E ⟨_, rfl, fE E, sE [] 1 E, rfl⟩
  rintro _ _ _ _ h _ ⟨v2, rfl, hF328, hS328, rfl⟩
  refine Atn 0 hF328 hS328 E E ?_
  refine Br h 34 E E (fun hc10 h => ?_) (fun hc10 h => ?_)
  · refine G2 5 [34] [] [] E ?_
    cases h
    exact Rt [] E E (Ug [] 0 hR)
  refine G2 7 [] [34] [] E ?_
  cases h
  exact Rt [] E E (Ug [] 0 hR)

theorem demand_Check_1_fn  {y1 : T_api_Demand} {b1 : T_api_Demand} {g1 : Nat} {res1 : Bool}
     (h : demand_Check_1 y1 b1 = some res1)
    (hR : R (.bool res1) μ ([(g1, .cells #[.int .i64 b1.Container, .int .i64 b1.Node, .int .i64 b1.Kind, .int .i64 b1.Grams, .int .i64 b1.When.From, .int .i64 b1.When.To, .int .i64 b1.Service] 79 (0, 0))] :: L)) :
    Fn Try.prog 46 [.agg #[.int .i64 y1.Container, .int .i64 y1.Node, .int .i64 y1.Kind, .int .i64 y1.Grams, .int .i64 y1.When.From, .int .i64 y1.When.To, .int .i64 y1.Service], .pointer (some ⟨g1, 0, none⟩)] μ ([(g1, .cells #[.int .i64 b1.Container, .int .i64 b1.Node, .int .i64 b1.Kind, .int .i64 b1.Grams, .int .i64 b1.When.From, .int .i64 b1.When.To, .int .i64 b1.Service] 79 (0, 0))] :: L) R := by
  unfold demand_Check_1 at h
  refine FnS Try.func46 (by kernel_rfl) E Try.ntmps46 E E ?_
  refine G0 2 E (Al E fun _ => Q1 11 [0, 1] E ?_)
  cases h
  exact Rt [] E E (Ug [[1]] 2 hR)

theorem slices_IndexFunc_Demand_c46_fn  {s1 : (List T_api_Demand)} {b1 : T_api_Demand} {A1 : Option Addr} {c1 : Nat} {g1 : Nat} {res1 : Int}
    (hl1 : s1.length ≤ c1 ∧ c1 ≤ maxLen) (hA1 : Rds r_api_Demand μ L A1 s1) (h : slices_IndexFunc_Demand_c46 s1 b1 = some res1)
    (hR : R (.int .i64 res1) μ ([(g1, .cells #[.int .i64 b1.Container, .int .i64 b1.Node, .int .i64 b1.Kind, .int .i64 b1.Grams, .int .i64 b1.When.From, .int .i64 b1.When.To, .int .i64 b1.Service] 79 (0, 0))] :: L)) :
    Fn Try.prog 61 [.slice A1 s1.length c1, .func (.func 46) #[] #[.pointer (some ⟨g1, 0, none⟩)]] μ ([(g1, .cells #[.int .i64 b1.Container, .int .i64 b1.Node, .int .i64 b1.Kind, .int .i64 b1.Grams, .int .i64 b1.When.From, .int .i64 b1.When.To, .int .i64 b1.Service] 79 (0, 0))] :: L) R := by
  unfold slices_IndexFunc_Demand_c46 at h
  refine FnS Try.func61 (by kernel_rfl) E Try.ntmps61 E E ?_
  refine G0 11 E ?_
  refine Cut h (fun f l o_ f_ μ_ l_ => (.inl ()) = o_ ∧ SubFr ([]) f_ ∧ SegSub l l_ ∧ μ = μ_) ?_ ?_
  · intro _ h341 h
    refine Lp h341 (fun f l (v1 : Int) f_ μ_ l_ => SubFr ((8, .int .i64 v1) :: keepF [0, 1, 7] f) f_ ∧ SegSub l l_ ∧ μ = μ_) ⟨fE E, sE [some 0] 1 E, E⟩ ?_
    rintro v1 _ _ _ _ _ ⟨hF349, hS349, rfl⟩ hb349 hq349
    unfold slices_IndexFunc_Demand_c46_l1 at hb349
    refine Atn 1 hF349 hS349 E E (G0 5 E ?_)
    refine Br hb349 9 E E (fun hc1 hb349 => ?_) (fun hc1 hb349 => ?_)
    · refine G2 14 [9] [] [] E (Ix hb349 hA1 E E fun _ _ _ _ hr1 hc2 _ hb349 => ?_)
      obtain rfl := hr1
      refine Q3 1 [] [] [64] (Z1 (hc2.push)) E (Cl E ?_)
      obtain ⟨_, hx2, hb349⟩ := obind hb349
      refine demand_Check_1_fn  hx2 ((Q0 1 E ?_))
      refine Br hb349 16 E E (fun hc3 hb349 => ?_) (fun hc3 hb349 => ?_)
      · refine G2 6 [16] [] [] E ?_
        cases hb349
        have hq_ := hq349 _ E
        subst hq_
        replace h := osum_r h
        cases h
        exact Rt [] E E (Ug [[0]] 1 hR)
      refine G2 7 [] [16] [] E ?_
      cases hb349
      exact Ce E ⟨_, rfl, fE E, sE [some 0] 1 E, rfl⟩
    refine G2 2 [] [9] [] E ?_
    cases hb349
    have hq_ := hq349 _ E
    subst hq_
    exact Ce E ⟨rfl, fE E, sE [some 0] 1 E, rfl⟩
  rintro _ _ _ _ h _ ⟨rfl, hF341, hS341, rfl⟩
  replace h := osum_l h
  refine Atn 1 hF341 hS341 E E (G0 4 E ?_)
  cases h
  exact Rt [] E E (Ug [[0]] 1 hR)

theorem slices_ContainsFunc_Demand_c46_fn  {s1 : (List T_api_Demand)} {b1 : T_api_Demand} {A1 : Option Addr} {c1 : Nat} {g1 : Nat} {res1 : Bool}
    (hl1 : s1.length ≤ c1 ∧ c1 ≤ maxLen) (hA1 : Rds r_api_Demand μ L A1 s1) (h : slices_ContainsFunc_Demand_c46 s1 b1 = some res1)
    (hR : R (.bool res1) μ ([(g1, .cells #[.int .i64 b1.Container, .int .i64 b1.Node, .int .i64 b1.Kind, .int .i64 b1.Grams, .int .i64 b1.When.From, .int .i64 b1.When.To, .int .i64 b1.Service] 79 (0, 0))] :: L)) :
    Fn Try.prog 45 [.slice A1 s1.length c1, .func (.func 46) #[] #[.pointer (some ⟨g1, 0, none⟩)]] μ ([(g1, .cells #[.int .i64 b1.Container, .int .i64 b1.Node, .int .i64 b1.Kind, .int .i64 b1.Grams, .int .i64 b1.When.From, .int .i64 b1.When.To, .int .i64 b1.Service] 79 (0, 0))] :: L) R := by
  unfold slices_ContainsFunc_Demand_c46 at h
  refine FnS Try.func45 (by kernel_rfl) E Try.ntmps45 E E ?_
  refine G0 8 E (Cl E ?_)
  obtain ⟨_, hx1, h⟩ := obind h
  refine slices_IndexFunc_Demand_c46_fn hl1 hA1 hx1 ((Q0 3 E ?_))
  cases h
  exact Rt [] E E (Ug [[0]] 1 hR)

theorem demand_Check_fn  {l1 : (List T_api_Demand)} {nodes1 : Int} {materials1 : Int} {A1 : Option Addr} {c1 : Nat} {res1 : Int}
    (hl1 : l1.length ≤ c1 ∧ c1 ≤ maxLen) (hA1 : Rds r_api_Demand μ L A1 l1) (h : demand_Check l1 nodes1 materials1 = some res1)
    (hR : R (.int .i64 res1) μ (L)) :
    Fn Try.prog 30 [.slice A1 l1.length c1, .int .i64 nodes1, .int .i64 materials1] μ (L) R := by
  unfold demand_Check at h
  refine FnS Try.func30 (by kernel_rfl) E Try.ntmps30 E E ?_
  refine G0 11 E ?_
  refine Br h 14 E E (fun hc1 h => ?_) (fun hc1 h => ?_)
  · refine G2 5 [14] [] [] E ?_
    cases h
    exact Rt [] E E (Ug [] 0 hR)
  refine G2 9 [] [14] [] E ?_
  refine Cut h (fun f l o_ f_ μ_ l_ => (.inl ()) = o_ ∧ SubFr (keepF [0] f) f_ ∧ SegSub l l_ ∧ μ = μ_) ?_ ?_
  · intro _ h319 h
    refine Lp h319 (fun f l (v1 : Int) f_ μ_ l_ => SubFr ((17, .int .i64 v1) :: keepF [0, 1, 2, 15, 16] f) f_ ∧ SegSub l l_ ∧ μ = μ_) ⟨fE E, sE [] 0 E, E⟩ ?_
    rintro v1 _ _ _ _ _ ⟨hF329, hS329, rfl⟩ hb329 hq329
    unfold demand_Check_l1 at hb329
    refine Atn 0 hF329 hS329 E E (G0 5 E ?_)
    refine Br hb329 18 E E (fun hc2 hb329 => ?_) (fun hc2 hb329 => ?_)
    · refine G2 6 [18] [] [] E (Ix hb329 hA1 E E fun _ _ _ _ hr1 hc3 _ hb329 => ?_)
      obtain rfl := hr1
      refine Q3 1 [] [] [64] (Z1 hc3) E (Al E fun _ => Q1 7 [0, 0] E (Cl E ?_))
      obtain ⟨_, hx2, hb329⟩ := obind hb329
      refine demand_one_fn  hx2 ((Q0 7 E ?_))
      refine Br hb329 26 E E (fun hc4 hb329 => ?_) (fun hc4 hb329 => ?_)
      · refine G2 6 [26] [] [] E ?_
        cases hb329
        have hq_ := hq329 _ E
        subst hq_
        replace h := osum_r h
        cases h
        exact Rt [] E E (Ug [] 1 hR)
      refine G2 7 [] [26] [] E ?_
      cases hb329
      exact Ce E ⟨_, rfl, fE E, sE [] 1 E, rfl⟩
    refine G2 2 [] [18] [] E ?_
    cases hb329
    have hq_ := hq329 _ E
    subst hq_
    exact Ce E ⟨rfl, fE E, sE [] 0 E, rfl⟩
  rintro _ _ _ _ h _ ⟨rfl, hF319, hS319, rfl⟩
  replace h := osum_l h
  refine Atn 0 hF319 hS319 E E (G0 7 E ?_)
  refine Cut h (fun f l o_ f_ μ_ l_ => (.inl ()) = o_ ∧ SubFr ([]) f_ ∧ SegSub l l_ ∧ μ = μ_) ?_ ?_
  · intro _ h332 h
    refine Lp h332 (fun f l (v2 : Int) f_ μ_ l_ => SubFr ((31, .int .i64 v2) :: keepF [0, 29, 30] f) f_ ∧ SegSub l l_ ∧ μ = μ_) ⟨fE E, sE [] 0 E, E⟩ ?_
    rintro v2 _ _ _ _ _ ⟨hF358, hS358, rfl⟩ hb358 hq358
    unfold demand_Check_l2 at hb358
    refine Atn 0 hF358 hS358 E E (G0 5 E ?_)
    refine Br hb358 32 E E (fun hc5 hb358 => ?_) (fun hc5 hb358 => ?_)
    · refine G2 7 [32] [] [] E (Ix hb358 hA1 E E fun _ _ _ _ hr2 hc6 _ hb358 => ?_)
      obtain rfl := hr2
      refine Q3 1 [] [] [64] (Z1 hc6) E (Al E fun _ => ?_)
      obtain ⟨_, hs1, hb358⟩ := obind hb358
      refine Q1 7 [0] E (Rdo E E (R_slHiS E E E E E E hl1.1 hs1 ?_))
      have hA4 := Rds.pre hA1 hs1
      have hl2 := preLen hl1 hs1
      refine Q0 1 E (Cl E ?_)
      obtain ⟨_, hx4, hb358⟩ := obind hb358
      refine slices_ContainsFunc_Demand_c46_fn hl2 hA4 hx4 ((Q0 1 E ?_))
      refine Br hb358 40 E E (fun hc7 hb358 => ?_) (fun hc7 hb358 => ?_)
      · refine G2 5 [40] [] [] E ?_
        cases hb358
        have hq_ := hq358 _ E
        subst hq_
        replace h := osum_r h
        cases h
        exact Rt [] E E (Ug [] 1 hR)
      refine G2 7 [] [40] [] E ?_
      cases hb358
      exact Ce E ⟨_, rfl, fE E, sE [] 1 E, rfl⟩
    refine G2 2 [] [32] [] E ?_
    cases hb358
    have hq_ := hq358 _ E
    subst hq_
    exact Ce E ⟨rfl, fE E, sE [] 0 E, rfl⟩
  rintro _ _ _ _ h _ ⟨rfl, hF332, hS332, rfl⟩
  replace h := osum_l h
  refine Atn 0 hF332 hS332 E E (G0 4 E ?_)
  cases h
  exact Rt [] E E (Ug [] 0 hR)

theorem tour_Check_fn {F : Nat} {p1 : T_api_Problem} {A1 : Option Addr} {c1 : Nat} {A2 : Option Addr} {c2 : Nat} {A3 : Option Addr} {c3 : Nat} {res1 : Int}
    (hl1 : p1.Road.Edges.length ≤ c1 ∧ c1 ≤ maxLen) (hA1 : ArrR r_api_Edge μ A1 p1.Road.Edges) (hl2 : p1.Vehicles.length ≤ c2 ∧ c2 ≤ maxLen) (hA2 : ArrR r_api_Vehicle μ A2 p1.Vehicles) (hl3 : p1.Demands.length ≤ c3 ∧ c3 ≤ maxLen) (hA3 : ArrR r_api_Demand μ A3 p1.Demands) (h : tour_Check F p1 = some res1)
    (hR : ∀ (μ' : Gh) , μ.le μ' → R (.int .i64 res1) μ' (L)) :
    Fn Try.prog 13 [.agg #[.int .i64 p1.Road.Nodes, .slice A1 p1.Road.Edges.length c1, .slice A2 p1.Vehicles.length c2, .slice A3 p1.Demands.length c3, .int .i64 p1.Unload, .int .i64 p1.UnloadSecs]] μ (L) R := by
  unfold tour_Check at h
  refine FnS Try.func13 (by kernel_rfl) E Try.ntmps13 E E ?_
  refine G0 2 E (Al E fun _ => Q1 7 [0] E (Cl E ?_))
  obtain ⟨_, hx1, h⟩ := obind h
  refine road_Check_fn hl1 hA1 hx1 (fun _ hm_1 => ?_)
  replace hA2 := hA2.mono hm_1
  replace hA3 := hA3.mono hm_1
  refine Q0 7 E ?_
  refine Br h 10 E E (fun hc1 h => ?_) (fun hc1 h => ?_)
  · refine G2 6 [10] [] [] E ?_
    cases h
    exact Rt [] E E (Ug [] 1 (hR _ hm_1))
  refine G2 10 [] [10] [0, 0] E (Cl E ?_)
  obtain ⟨_, hx2, h⟩ := obind h
  refine vehicle_Check_fn hl2 (ArrR.rds hA2 _) hx2 ((Q0 7 E ?_))
  refine Br h 19 E E (fun hc2 h => ?_) (fun hc2 h => ?_)
  · refine G2 6 [19] [] [] E ?_
    cases h
    exact Rt [] E E (Ug [] 1 (hR _ hm_1))
  refine G2 10 [] [19] [0, 0] E (Cl E ?_)
  obtain ⟨_, hx3, h⟩ := obind h
  refine demand_Check_fn hl3 (ArrR.rds hA3 _) hx3 ((Q0 7 E ?_))
  refine Br h 28 E E (fun hc3 h => ?_) (fun hc3 h => ?_)
  · refine G2 6 [28] [] [] E ?_
    cases h
    exact Rt [] E E (Ug [] 1 (hR _ hm_1))
  refine G2 5 [] [28] [] E ?_
  refine Cut h (fun f l o_ f_ μ_ l_ => ∃ (v2 : Bool), v2 = o_ ∧ SubFr ((30, .bool v2) :: keepF [1] f) f_ ∧ SegSub l l_) ?_ ?_
  · intro _ h371 h
    refine G1 5 [0] E ?_
    refine Br h371 34 E E (fun hc4 h371 => ?_) (fun hc4 h371 => ?_)
    · refine G2 9 [34] [] [] E ?_
      cases h371
      exact Ce E ⟨_, rfl, fE E, sE [some 0] 1 E⟩
    refine G2 9 [] [34] [0, 0] E ?_
    cases h371
    exact Ce E ⟨_, rfl, fE E, sE [some 0] 1 E⟩
  rintro _ _ _ _ h hm371 ⟨v2, rfl, hF371, hS371⟩
  refine Atn 1 hF371 hS371 E E ?_
  refine Br h 30 E E (fun hc5 h => ?_) (fun hc5 h => ?_)
  · refine G2 5 [30] [] [] E ?_
    cases h
    exact Rt [] E E (Ug [] 1 (hR _ (hm_1.trans hm371)))
  refine G2 2 [] [30] [] E ?_
  refine Cut h (fun f l o_ f_ μ_ l_ => ∃ (v3 : Bool), v3 = o_ ∧ SubFr ((42, .bool v3) :: []) f_ ∧ SegSub (selS [] 1 l) l_) ?_ ?_
  · intro _ h374 h
    refine G1 5 [0] E ?_
    refine Br h374 46 E E (fun hc6 h374 => ?_) (fun hc6 h374 => ?_)
    · refine G2 6 [46] [] [] E ?_
      cases h374
      exact Ce E ⟨_, rfl, fE E, sE [] 1 E⟩
    refine G2 6 [] [46] [0] E ?_
    cases h374
    exact Ce E ⟨_, rfl, fE E, sE [] 1 E⟩
  rintro _ _ _ _ h hm374 ⟨v3, rfl, hF374, hS374⟩
  refine Atn 0 hF374 hS374 E E ?_
  refine Br h 42 E E (fun hc7 h => ?_) (fun hc7 h => ?_)
  · refine G2 5 [42] [] [] E ?_
    cases h
    exact Rt [] E E (Ug [] 0 (hR _ (hm_1.trans (hm371.trans hm374))))
  refine G2 7 [] [42] [] E ?_
  cases h
  exact Rt [] E E (Ug [] 0 (hR _ (hm_1.trans (hm371.trans hm374))))

theorem slices_Index_int_fn  {s1 : (List Int)} {v1 : Int} {A1 : Option Addr} {c1 : Nat} {res1 : Int}
    (hl1 : s1.length ≤ c1 ∧ c1 ≤ maxLen) (hA1 : Rds rInt μ L A1 s1) (h : slices_Index_int s1 v1 = some res1)
    (hR : R (.int .i64 res1) μ (L)) :
    Fn Try.prog 69 [.slice A1 s1.length c1, .int .i64 v1] μ (L) R := by
  unfold slices_Index_int at h
  refine FnS Try.func69 (by kernel_rfl) E Try.ntmps69 E E ?_
  refine G0 11 E ?_
  refine Cut h (fun f l o_ f_ μ_ l_ => (.inl ()) = o_ ∧ SubFr ([]) f_ ∧ SegSub l l_ ∧ μ = μ_) ?_ ?_
  · intro _ h428 h
    refine Lp h428 (fun f l (v2 : Int) f_ μ_ l_ => SubFr ((8, .int .i64 v2) :: keepF [0, 1, 7] f) f_ ∧ SegSub l l_ ∧ μ = μ_) ⟨fE E, sE [] 0 E, E⟩ ?_
    rintro v2 _ _ _ _ _ ⟨hF430, hS430, rfl⟩ hb430 hq430
    unfold slices_Index_int_l1 at hb430
    refine Atn 0 hF430 hS430 E E (G0 5 E ?_)
    refine Br hb430 9 E E (fun hc1 hb430 => ?_) (fun hc1 hb430 => ?_)
    · refine G2 14 [9] [] [] E (Ix hb430 hA1 E E fun _ _ _ _ hr1 hc2 _ hb430 => ?_)
      obtain rfl := hr1
      refine Q3 3 [] [] [64] (Z1 hc2) E ?_
      refine Br hb430 16 E E (fun hc3 hb430 => ?_) (fun hc3 hb430 => ?_)
      · refine G2 6 [16] [] [] E ?_
        cases hb430
        have hq_ := hq430 _ E
        subst hq_
        replace h := osum_r h
        cases h
        exact Rt [] E E (Ug [] 0 hR)
      refine G2 7 [] [16] [] E ?_
      cases hb430
      exact Ce E ⟨_, rfl, fE E, sE [] 0 E, rfl⟩
    refine G2 2 [] [9] [] E ?_
    cases hb430
    have hq_ := hq430 _ E
    subst hq_
    exact Ce E ⟨rfl, fE E, sE [] 0 E, rfl⟩
  rintro _ _ _ _ h _ ⟨rfl, hF428, hS428, rfl⟩
  replace h := osum_l h
  refine Atn 0 hF428 hS428 E E (G0 4 E ?_)
  cases h
  exact Rt [] E E (Ug [] 0 hR)

theorem slices_Contains_int_fn  {s1 : (List Int)} {v1 : Int} {A1 : Option Addr} {c1 : Nat} {res1 : Bool}
    (hl1 : s1.length ≤ c1 ∧ c1 ≤ maxLen) (hA1 : Rds rInt μ L A1 s1) (h : slices_Contains_int s1 v1 = some res1)
    (hR : R (.bool res1) μ (L)) :
    Fn Try.prog 58 [.slice A1 s1.length c1, .int .i64 v1] μ (L) R := by
  unfold slices_Contains_int at h
  refine FnS Try.func58 (by kernel_rfl) E Try.ntmps58 E E ?_
  refine G0 8 E (Cl E ?_)
  obtain ⟨_, hx1, h⟩ := obind h
  refine slices_Index_int_fn hl1 hA1 hx1 ((Q0 3 E ?_))
  cases h
  exact Rt [] E E (Ug [] 0 hR)

theorem vehicle_Carries_fn  {v1 : T_api_Vehicle} {kind1 : Int}  {res1 : Bool}
     (h : vehicle_Carries v1 kind1 = some res1)
    (hR : R (.bool res1) μ (L)) :
    Fn Try.prog 63 [.agg #[.string v1.ID, .int .i64 v1.Depot, .int .i64 v1.Shift.From, .int .i64 v1.Shift.To, .int .i64 v1.Grams, .int .i64 v1.Kinds], .int .i64 kind1] μ (L) R := by
  unfold vehicle_Carries at h
  refine FnS Try.func63 (by kernel_rfl) E Try.ntmps63 E E ?_
  refine G0 2 E (Al E fun _ => Q0 3 E ?_)
  refine Cut h (fun f l o_ f_ μ_ l_ => ∃ (v2 : Bool), v2 = o_ ∧ SubFr ((4, .bool v2) :: []) f_ ∧ SegSub (selS [] 1 l) l_ ∧ μ = μ_) ?_ ?_
  · intro _ h432 h
    refine G0 4 E ?_
    refine Br h432 7 E E (fun hc1 h432 => ?_) (fun hc1 h432 => ?_)
    · refine G2 4 [7] [] [] E ?_
      refine Br h432 11 E E (fun hc2 h432 => ?_) (fun hc2 h432 => ?_)
      · refine G2 3 [11] [] [0] E (Rdo E E ?_)
        obtain ⟨_, hg1, h432⟩ := obind h432
        refine R_shrD E E E (guardO_some hg1) (Q0 0 E (Rdo E E ?_))
        refine R_and E E ⟨_, andI_run _ _ _, ?_⟩
        refine Q2 4 [11] [] [] E ?_
        cases h432
        exact Ce E ⟨_, rfl, fE E, sE [] 1 E, rfl⟩
      refine G2 9 [] [11] [] E ?_
      cases h432
      exact Ce E ⟨_, rfl, fE E, sE [] 1 E, rfl⟩
    refine G2 13 [] [7, 11] [] E ?_
    cases h432
    exact Ce E ⟨_, rfl, fE E, sE [] 1 E, rfl⟩
  rintro _ _ _ _ h _ ⟨v2, rfl, hF432, hS432, rfl⟩
  refine Atn 0 hF432 hS432 E E ?_
  cases h
  exact Rt [] E E (Ug [] 0 hR)

theorem road_none_fn    {res1 : T_api_Leg}
     (h : road_none = some res1)
    (hR : R (.agg #[.int .i64 res1.Secs, .int .i64 res1.Meters]) μ (L)) :
    Fn Try.prog 75 [] μ (L) R := by
  unfold road_none at h
  refine FnS Try.func75 (by kernel_rfl) E Try.ntmps75 E E ?_
  refine G0 2 E (Al E fun _ => Q1 6 [0] E ?_)
  cases h
  exact Rt [0] E E (Ug [] 1 hR)

theorem pqueue_New_stop_c77_fn    {res1 : T_pqueue_Queue_stop}
     (h : pqueue_New_stop_c77 = some res1)
    (hR : ∀ (v0 : Value) (so0 : Seg), Obj_pqueue_Queue_stop μ v0 res1 so0 → R (v0) μ (so0 :: L)) :
    Fn Try.prog 76 [.func (.func 77) #[] #[]] μ (L) R := by
  unfold pqueue_New_stop_c77 at h
  refine FnS Try.func76 (by kernel_rfl) E Try.ntmps76 E E ?_
  refine G0 8 E (Rdo E E (R_eqF Tt_ok E E E E (Q2 7 [] [4] [] E (Al E fun g1 => Q0 2 E ?_))))
  cases h
  exact Rt [] E E (Ug [[0, 99]] 1 (hR (.pointer (some ⟨g1, 0, none⟩)) _ ⟨g1, none, 0, [], rfl, rfl, Own.nil⟩))

theorem road_better_fn  {a1 : T_api_Leg} {b1 : T_api_Leg}  {res1 : Bool}
     (h : road_better a1 b1 = some res1)
    (hR : R (.bool res1) μ (L)) :
    Fn Try.prog 78 [.agg #[.int .i64 a1.Secs, .int .i64 a1.Meters], .agg #[.int .i64 b1.Secs, .int .i64 b1.Meters]] μ (L) R := by
  unfold road_better at h
  refine FnS Try.func78 (by kernel_rfl) E Try.ntmps78 E E ?_
  refine G2 2 [10] [] [] E (Al E fun _ => Q0 0 E (Al E fun _ => Q0 3 E ?_))
  refine Cut h (fun f l o_ f_ μ_ l_ => ∃ (v1 : Bool), v1 = o_ ∧ SubFr ((4, .bool v1) :: []) f_ ∧ SegSub (selS [] 2 l) l_ ∧ μ = μ_) ?_ ?_
  · intro _ h636 h
    refine Dr _ Kept.refl [(true, 0), (false, 1), (true, 2), (true, 3), (true, 4), (true, 5), (true, 6), (true, 7), (true, 8), (true, 9), (true, 10), (true, 11), (true, 12), (true, 13), (true, 14), (true, 15), (true, 16), (true, 17), (true, 18), (true, 19), (true, 20), (true, 21), (true, 22), (true, 23), (true, 24)] (by kernel_rfl) (G1 1 [0] E (Cl E ?_))
    obtain ⟨r1, hx1, h636⟩ := obind h636
    refine road_none_fn  hx1 (?_)
    refine ⟨Kept.refl, ?_⟩
    refine Q0 0 E (Rdo E E (R_agg E E (Ex.mk _ (eqRun_T_api_Leg b1 r1) (Q0 1 E ?_))))
    refine Br h636 8 E E (fun hc1 h636 => ?_) (fun hc1 h636 => ?_)
    · refine G2 22 [8, 15] [] [] E ?_
      cases h636
      exact Ce E ⟨_, rfl, fE E, sE [] 2 E, rfl⟩
    refine G2 7 [] [8] [1, 0] E ?_
    refine Br h636 15 E E (fun hc2 h636 => ?_) (fun hc2 h636 => ?_)
    · refine G2 15 [15] [] [] E ?_
      cases h636
      exact Ce E ⟨_, rfl, fE E, sE [] 2 E, rfl⟩
    refine G2 6 [] [15] [1, 0] E ?_
    refine Br h636 21 E E (fun hc3 h636 => ?_) (fun hc3 h636 => ?_)
    · refine G2 9 [21] [15] [1, 0] E ?_
      cases h636
      exact Ce E ⟨_, rfl, fE E, sE [] 2 E, rfl⟩
    refine G2 9 [] [15, 21] [] E ?_
    cases h636
    exact Ce E ⟨_, rfl, fE E, sE [] 2 E, rfl⟩
  rintro _ _ _ _ h _ ⟨v1, rfl, hF636, hS636, rfl⟩
  refine Atn 0 hF636 hS636 E E ?_
  cases h
  exact Rt [] E E (Ug [] 0 hR)

theorem road_spread_1_fn  {a1 : T_road_stop} {b1 : T_road_stop}  {res1 : Bool}
     (h : road_spread_1 a1 b1 = some res1)
    (hR : R (.bool res1) μ (L)) :
    Fn Try.prog 77 [.agg #[.int .i64 a1.node, .int .i64 a1.leg.Secs, .int .i64 a1.leg.Meters], .agg #[.int .i64 b1.node, .int .i64 b1.leg.Secs, .int .i64 b1.leg.Meters]] μ (L) R := by
  unfold road_spread_1 at h
  refine FnS Try.func77 (by kernel_rfl) E Try.ntmps77 E E ?_
  refine G0 2 E (Al E fun _ => Q0 0 E (Al E fun _ => Q0 3 E ?_))
  refine Cut h (fun f l o_ f_ μ_ l_ => ∃ (v1 : Bool), v1 = o_ ∧ SubFr ((4, .bool v1) :: []) f_ ∧ SegSub (selS [] 2 l) l_ ∧ μ = μ_) ?_ ?_
  · intro _ h633 h
    refine G1 5 [1, 0] E (Rdo E E (R_agg E E (Ex.mk _ (neRun_T_api_Leg a1.leg b1.leg) (Q0 1 E ?_))))
    refine Br h633 10 E E (fun hc1 h633 => ?_) (fun hc1 h633 => ?_)
    · refine G2 4 [10] [] [1, 0] E (Cl E ?_)
      obtain ⟨_, hx1, h633⟩ := obind h633
      refine road_better_fn  hx1 ((Q2 3 [10] [] [] E ?_))
      cases h633
      exact Ce E ⟨_, rfl, fE E, sE [] 2 E, rfl⟩
    refine G2 8 [] [10] [] E ?_
    cases h633
    exact Ce E ⟨_, rfl, fE E, sE [] 2 E, rfl⟩
  rintro _ _ _ _ h _ ⟨v1, rfl, hF633, hS633, rfl⟩
  refine Atn 0 hF633 hS633 E E ?_
  cases h
  exact Rt [] E E (Ug [] 0 hR)

theorem pqueue_Queue_stop_before_fn  {q1 : T_pqueue_Queue_stop} {i1 : Int} {k1 : Int} {pv1 : Value} {so1 : Seg} {res1 : Bool}
    (hP1 : Obj_pqueue_Queue_stop μ pv1 q1 so1) (h : pqueue_Queue_stop_before q1 i1 k1 = some res1)
    (hR : R (.bool res1) μ (so1 :: L)) :
    Fn Try.prog 82 [pv1, .int .i64 i1, .int .i64 k1] μ (so1 :: L) R := by
  unfold pqueue_Queue_stop_before at h
  refine FnS Try.func82 (by kernel_rfl) E Try.ntmps82 E E ?_
  obtain ⟨g1, A1, c1, ch1, hv1, rfl, hO1⟩ := hP1
  subst hv1
  refine G0 5 E (In Obj_pqueue_Queue_stop.fl 0 2 E E E ?_)
  refine Cut h (fun f l o_ f_ μ_ l_ => ∃ (f1 : Int) (f2 : Int) (f3 : Int) (f4 : Int) (f5 : Int) (f6 : Int) (f7 : Int) (f8 : Int) (g4 : Nat) (g5 : Nat), (f1, f2, f3, f4, f5, f6, f7, f8) = o_ ∧ SubFr ((7, .pointer (some ⟨g4, 0, none⟩)) :: (8, .pointer (some ⟨g5, 0, none⟩)) :: keepF [0] f) f_ ∧ SegSub ([(g1, .cells #[.func (.func 77) #[] #[], .slice A1 q1.heap.length c1, .int .i64 q1.count] 138 (0, 0))] :: ch1 :: [(g4, .cells #[.int .i64 f1, .int .i64 f2, .int .i64 f3, .int .i64 f4] 140 (0, 0))] :: [(g5, .cells #[.int .i64 f5, .int .i64 f6, .int .i64 f7, .int .i64 f8] 140 (0, 0))] :: selS [] 2 l) l_ ∧ μ = μ_) ?_ ?_
  · intro _ h591 h
    refine Cd (WP.draw (id := 1) wide _ Kept.refl E (AN.run (fuel := 4) (listed' := [true, true, true, true, true, true, true, true, true, true, true, true, true, true, false, false, false, false]) Tt_ok [(true, 0), (true, 1), (true, 2), (true, 3), (true, 4), (true, 5), (true, 6), (true, 7), (true, 8), (true, 9), (true, 10), (true, 11), (true, 12), (true, 13)] (by kernel_rfl) (by kernel_rfl) E (PL_t E (R_move E (Pt E E (R_nilP E (Pt E E (R_fa0 (o' := 1) E E E E E E (Pt E E (R_load E E E (Ex.mk _ (Cell.seg 0 0 E E E) (Pt E E (R_move E ?_)))))))))))))
    refine Pt E E ?_
    obtain ⟨x1, hx1, h591⟩ := obind h591
    obtain ⟨_, _, hA1, hr1, _, hc1⟩ := Rds.getI (Own.rds (L := ([(g1, .cells #[.func (.func 77) #[] #[], .slice A1 q1.heap.length c1, .int .i64 q1.count] 138 (0, 0))] :: ch1 :: L)) hO1 1 rfl) hx1
    obtain rfl := hr1
    refine R_iaG E E E E E E ⟨(getI_lt hx1).1, (getI_lt hx1).2.1⟩ hA1 (Pt E E (R_loadA E E E E (Ex.mk [.int .i64 x1.value.node, .int .i64 x1.value.leg.Secs, .int .i64 x1.value.leg.Meters, .int .i64 x1.n] ⟨rfl, hc1⟩ (Pt E E (R_move E (Pt E E (R_nilP E (Pt E E (R_fa0 (o' := 1) E E E E E E (Pt E E (R_load E E E (Ex.mk _ (Cell.seg 0 0 E E E) ?_))))))))))))
    refine Pt E E (R_move E (Pt E E ?_))
    obtain ⟨x2, hx2, h591⟩ := obind h591
    obtain ⟨_, _, hA2, hr2, _, hc2⟩ := Rds.getI (Own.rds (L := ([(g1, .cells #[.func (.func 77) #[] #[], .slice A1 q1.heap.length c1, .int .i64 q1.count] 138 (0, 0))] :: ch1 :: L)) hO1 1 rfl) hx2
    obtain rfl := hr2
    refine R_iaG E E E E E E ⟨(getI_lt hx2).1, (getI_lt hx2).2.1⟩ hA2 (Pt E E (R_loadA E E E E (Ex.mk [.int .i64 x2.value.node, .int .i64 x2.value.leg.Secs, .int .i64 x2.value.leg.Meters, .int .i64 x2.n] ⟨rfl, hc2⟩ (P_some E (PL_nil ?_)))))
    refine FK_2 Tt_ok (a := 14) (b := 15) (by kernel_rfl) ?_ ?_
    · refine FO_ E E (O_alloc (cs := #[.int .i64 0, .int .i64 0, .int .i64 0, .int .i64 0]) E E (fun g2 => ?_))
      refine ⟨Kept.more (Kept.refl), ?_⟩
      refine P_some E (AN.run (fuel := 0) (listed' := [true, true, true, true, true, true, true, true, true, true, true, true, true, true, true, true, true, true]) Tt_ok [(false, 15), (false, 16), (false, 17)] (by kernel_rfl) (by kernel_rfl) E (PL_f E (O_alloc (cs := #[.int .i64 0, .int .i64 0, .int .i64 0, .int .i64 0]) E E (fun g3 => ?_))))
      refine ⟨Kept.more (Kept.more (Kept.refl)), ?_⟩
      refine P_some E (PL_f E (O_store (vs := [.int .i64 x1.value.node, .int .i64 x1.value.leg.Secs, .int .i64 x1.value.leg.Meters, .int .i64 x1.n]) E E E E E E (ST_ (L' := ([(g3, .cells #[.int .i64 0, .int .i64 0, .int .i64 0, .int .i64 0] 140 (0, 0))] :: [(g2, .cells #[.int .i64 x1.value.node, .int .i64 x1.value.leg.Secs, .int .i64 x1.value.leg.Meters, .int .i64 x1.n] 140 (0, 0))] :: [(g1, .cells #[.func (.func 77) #[] #[], .slice A1 q1.heap.length c1, .int .i64 q1.count] 138 (0, 0))] :: ch1 :: L)) 1 0 E E E E ?_)))
      refine ⟨Kept.more (Kept.more (Kept.refl)), ?_⟩
      refine P_none (PL_f E (O_store (vs := [.int .i64 x2.value.node, .int .i64 x2.value.leg.Secs, .int .i64 x2.value.leg.Meters, .int .i64 x2.n]) E E E E E E (ST_ (L' := ([(g3, .cells #[.int .i64 x2.value.node, .int .i64 x2.value.leg.Secs, .int .i64 x2.value.leg.Meters, .int .i64 x2.n] 140 (0, 0))] :: [(g2, .cells #[.int .i64 x1.value.node, .int .i64 x1.value.leg.Secs, .int .i64 x1.value.leg.Meters, .int .i64 x1.n] 140 (0, 0))] :: [(g1, .cells #[.func (.func 77) #[] #[], .slice A1 q1.heap.length c1, .int .i64 q1.count] 138 (0, 0))] :: ch1 :: L)) 0 0 E E E E ?_)))
      refine ⟨Kept.more (Kept.more (Kept.refl)), ?_⟩
      refine P_none (PL_nil (AN.done0 (by kernel_rfl) ?_))
      cases h591
      exact Ce E ⟨_, _, _, _, _, _, _, _, g2, g3, rfl, fE E, sE [some 2, some 3, some 1, some 0] 4 E, rfl⟩
    refine FO_ E E (O_alloc (cs := #[.int .i64 0, .int .i64 0, .int .i64 0, .int .i64 0]) E E (fun g3 => ?_))
    refine ⟨Kept.more (Kept.refl), ?_⟩
    refine P_some E (AN.run (fuel := 0) (listed' := [true, true, true, true, true, true, true, true, true, true, true, true, true, true, true, true, true, true]) Tt_ok [(false, 14), (false, 16), (false, 17)] (by kernel_rfl) (by kernel_rfl) E (PL_f E (O_alloc (cs := #[.int .i64 0, .int .i64 0, .int .i64 0, .int .i64 0]) E E (fun g2 => ?_))))
    refine ⟨Kept.more (Kept.more (Kept.refl)), ?_⟩
    refine P_some E (PL_f E (O_store (vs := [.int .i64 x1.value.node, .int .i64 x1.value.leg.Secs, .int .i64 x1.value.leg.Meters, .int .i64 x1.n]) E E E E E E (ST_ (L' := ([(g2, .cells #[.int .i64 x1.value.node, .int .i64 x1.value.leg.Secs, .int .i64 x1.value.leg.Meters, .int .i64 x1.n] 140 (0, 0))] :: [(g3, .cells #[.int .i64 0, .int .i64 0, .int .i64 0, .int .i64 0] 140 (0, 0))] :: [(g1, .cells #[.func (.func 77) #[] #[], .slice A1 q1.heap.length c1, .int .i64 q1.count] 138 (0, 0))] :: ch1 :: L)) 0 0 E E E E ?_)))
    refine ⟨Kept.more (Kept.more (Kept.refl)), ?_⟩
    refine P_none (PL_f E (O_store (vs := [.int .i64 x2.value.node, .int .i64 x2.value.leg.Secs, .int .i64 x2.value.leg.Meters, .int .i64 x2.n]) E E E E E E (ST_ (L' := ([(g2, .cells #[.int .i64 x1.value.node, .int .i64 x1.value.leg.Secs, .int .i64 x1.value.leg.Meters, .int .i64 x1.n] 140 (0, 0))] :: [(g3, .cells #[.int .i64 x2.value.node, .int .i64 x2.value.leg.Secs, .int .i64 x2.value.leg.Meters, .int .i64 x2.n] 140 (0, 0))] :: [(g1, .cells #[.func (.func 77) #[] #[], .slice A1 q1.heap.length c1, .int .i64 q1.count] 138 (0, 0))] :: ch1 :: L)) 1 0 E E E E ?_)))
    refine ⟨Kept.more (Kept.more (Kept.refl)), ?_⟩
    refine P_none (PL_nil (AN.done0 (by kernel_rfl) ?_))
    cases h591
    exact Ce E ⟨_, _, _, _, _, _, _, _, g2, g3, rfl, fE E, sE [some 2, some 3, some 0, some 1] 4 E, rfl⟩
  rintro _ _ _ _ h _ ⟨f1, f2, f3, f4, f5, f6, f7, f8, g4, g5, rfl, hF591, hS591, rfl⟩
  replace h := oun_mk h
  replace h := oun_mk h
  replace h := oun_mk h
  replace h := oun_mk h
  replace h := oun_mk h
  replace h := oun_mk h
  replace h := oun_mk h
  refine Atn 4 hF591 hS591 E E (G0 2 E (Dr _ Kept.refl [(true, 0), (true, 1), (true, 2), (true, 3), (true, 4), (true, 5), (true, 6), (true, 7), (false, 8)] (by kernel_rfl) (G1 8 [0, 2, 3] E (Cl E ?_))))
  obtain ⟨_, hx3, h⟩ := obind h
  refine road_spread_1_fn  hx3 (?_)
  refine ⟨Kept.refl, ?_⟩
  refine Q0 1 E ?_
  refine Br h 31 E E (fun hc3 h => ?_) (fun hc3 h => ?_)
  · refine G2 5 [31] [] [] E ?_
    cases h
    exact Rt [] E E (Ug [[0, 1]] 4 hR)
  refine G2 3 [] [31] [] E ?_
  refine Cut h (fun f l o_ f_ μ_ l_ => ∃ (v1 : Bool), v1 = o_ ∧ SubFr ((6, .bool v1) :: []) f_ ∧ SegSub (selS [some 0, some 1] 4 l) l_ ∧ μ = μ_) ?_ ?_
  · intro _ h637 h
    refine Dr _ Kept.refl [(true, 0), (true, 1), (true, 2), (true, 3), (true, 4), (true, 5), (true, 6), (true, 7), (true, 8), (true, 9), (true, 10), (true, 11), (true, 12), (true, 13), (false, 14), (true, 15), (true, 16), (true, 17)] (by kernel_rfl) (G1 6 [2, 3] E ?_)
    refine Br h637 37 E E (fun hc4 h637 => ?_) (fun hc4 h637 => ?_)
    · refine G2 8 [37] [] [0, 3, 2] E (Cl E ?_)
      obtain ⟨_, hx4, h637⟩ := obind h637
      refine road_spread_1_fn  hx4 (?_)
      refine ⟨Kept.refl, ?_⟩
      refine Q2 4 [37] [] [] E ?_
      cases h637
      exact Ce E ⟨_, rfl, fE E, sE [some 0, some 1] 4 E, rfl⟩
    refine G2 13 [] [37] [] E ?_
    cases h637
    exact Ce E ⟨_, rfl, fE E, sE [some 0, some 1] 4 E, rfl⟩
  rintro _ _ _ _ h _ ⟨v1, rfl, hF637, hS637, rfl⟩
  refine Atn 2 hF637 hS637 E E ?_
  cases h
  exact Rt [] E E (Ug [[0, 1]] 2 hR)

theorem pqueue_Queue_stop_swap_fn  {q1 : T_pqueue_Queue_stop} {i1 : Int} {k1 : Int} {pv1 : Value} {so1 : Seg} {res1 : T_pqueue_Queue_stop}
    (hP1 : Obj_pqueue_Queue_stop μ pv1 q1 so1) (h : pqueue_Queue_stop_swap q1 i1 k1 = some res1)
    (hR : ∀ (sp0 : Seg), Obj_pqueue_Queue_stop μ pv1 res1 sp0 → R (.tuple #[]) μ (sp0 :: L)) :
    Fn Try.prog 83 [pv1, .int .i64 i1, .int .i64 k1] μ (so1 :: L) R := by
  unfold pqueue_Queue_stop_swap at h
  refine FnS Try.func83 (by kernel_rfl) E Try.ntmps83 E E ?_
  obtain ⟨g1, A1, c1, ch1, hv1, rfl, hO1⟩ := hP1
  subst hv1
  refine In Obj_pqueue_Queue_stop.fl 0 2 E E E ?_
  refine Cut h (fun f l o_ f_ μ_ l_ => ∃ (f1 : (List T_pqueue_item_stop)) (A2 : Option Addr) (c2 : Nat) (ch4 : Seg), f1 = o_ ∧ SubFr ([]) f_ ∧ SegSub ([(g1, .cells #[.func (.func 77) #[] #[], .slice A2 f1.length c2, .int .i64 q1.count] 138 (0, 0))] :: ch4 :: selS [] 2 l) l_ ∧ Own r_pqueue_item_stop 140 μ_ (.slice A2 f1.length c2) f1 ch4 ∧ μ = μ_) ?_ ?_
  · intro _ h920 h
    obtain ⟨n1, hn1⟩ : ∃ n_, n_ = q1.heap.length := ⟨_, rfl⟩
    rw [← hn1] at hO1 ⊢
    refine Cd (WP.draw (id := 0) wide ([(g1, .cells #[.func (.func 77) #[] #[], .slice A1 n1 c1, .int .i64 q1.count] 138 (0, 0))] :: L) (Kp [0] 2 E) E (AN.run (fuel := 8) (listed' := [true, true, true, true, true, true, true, true, true, true, true, true, true, true, true, false, false, true, true, true, true, true, false, false, false, false, false, false]) Tt_ok [(true, 0), (true, 1), (true, 2), (true, 3), (true, 4), (true, 5), (true, 6), (true, 7), (true, 8), (true, 9), (true, 10), (true, 11), (true, 12), (true, 13), (true, 14), (true, 17), (true, 18), (true, 19), (true, 20), (true, 21)] (by kernel_rfl) (by kernel_rfl) E (PL_t E (R_move E (Pt E E (R_nilP E (Pt E E (R_fa0 (o' := 1) E E E E E E (Pt E E (R_load E E E (Ex.mk _ (Cell.seg 0 0 E E E) ?_)))))))))))
    refine Pt E E (R_move E (Pt E E (R_move E (Pt E E (R_nilP E (Pt E E (R_fa0 (o' := 1) E E E E E E (Pt E E (R_load E E E (Ex.mk _ (Cell.seg 0 0 E E E) (Pt E E ?_)))))))))))
    refine R_move E (Pt E E (R_move E (Pt E E (R_nilP E (Pt E E (R_fa0 (o' := 1) E E E E E E (Pt E E (R_load E E E (Ex.mk _ (Cell.seg 0 0 E E E) (Pt E E (R_move E (P_some E ?_))))))))))))
    refine PL_t E (R_move E (Pt E E (R_nilP E (Pt E E (R_fa0 (o' := 1) E E E E E E (Pt E E (R_load E E E (Ex.mk _ (Cell.seg 0 0 E E E) (Pt E E (R_move E (P_some E (PL_nil ?_))))))))))))
    refine FK_2 Tt_ok (a := 15) (b := 22) (by kernel_rfl) ?_ ?_
    · apply FO_; exact rfl; exact rfl
      obtain ⟨x1, hx1, h920⟩ := obind h920
      obtain ⟨a1, cs1, hA1, hr1, _, hc1⟩ := Rds.getI (Own.rds (L := ([(g1, .cells #[.func (.func 77) #[] #[], .slice A1 n1 c1, .int .i64 q1.count] 138 (0, 0))] :: ch1 :: L)) hO1 1 rfl) hx1
      obtain rfl := hr1
      refine O_read E (R_iaG E E E E E E ⟨(getI_lt hx1).1, lenN hn1 (getI_lt hx1).2.1⟩ hA1 ?_)
      refine ⟨Kp [0] 2 E, ?_⟩
      apply P_some; exact rfl
      refine FK_2 Tt_ok (a := 16) (b := 22) (by kernel_rfl) ?_ ?_
      · refine FO_ E E (O_read E (R_loadA E E E E (Ex.mk [.int .i64 x1.value.node, .int .i64 x1.value.leg.Secs, .int .i64 x1.value.leg.Meters, .int .i64 x1.n] ⟨rfl, hc1⟩ ?_)))
        refine ⟨Kp [0] 2 E, ?_⟩
        refine P_some E (AN.run (fuel := 0) (listed' := [true, true, true, true, true, true, true, true, true, true, true, true, true, true, true, true, true, true, true, true, true, true, true, true, true, true, true, true]) Tt_ok [(false, 22), (false, 23), (false, 24), (false, 25), (false, 26), (false, 27)] (by kernel_rfl) (by kernel_rfl) E (PL_f E ?_))
        obtain ⟨x2, hx2, h920⟩ := obind h920
        obtain ⟨a2, cs2, hA2, hr2, _, hc2⟩ := Rds.getI (Own.rds (L := ([(g1, .cells #[.func (.func 77) #[] #[], .slice A1 n1 c1, .int .i64 q1.count] 138 (0, 0))] :: ch1 :: L)) hO1 1 rfl) hx2
        obtain rfl := hr2
        refine O_read E (R_iaG E E E E E E ⟨(getI_lt hx2).1, lenN hn1 (getI_lt hx2).2.1⟩ hA2 ?_)
        refine ⟨Kp [0] 2 E, ?_⟩
        refine P_some E (PL_f E (O_read E (R_loadA E E E E (Ex.mk [.int .i64 x2.value.node, .int .i64 x2.value.leg.Secs, .int .i64 x2.value.leg.Meters, .int .i64 x2.n] ⟨rfl, hc2⟩ ?_))))
        refine ⟨Kp [0] 2 E, ?_⟩
        refine P_some E (PL_f E ?_)
        obtain ⟨x3, hx3, h920⟩ := obind h920
        obtain ⟨a3, cs3, hA3, hr3, _, hc3⟩ := Rds.getI (Own.rds (L := ([(g1, .cells #[.func (.func 77) #[] #[], .slice A1 n1 c1, .int .i64 q1.count] 138 (0, 0))] :: ch1 :: L)) hO1 1 rfl) hx3
        obtain rfl := hr3
        refine O_read E (R_iaG E E E E E E ⟨(getI_lt hx3).1, lenN hn1 (getI_lt hx3).2.1⟩ hA3 ?_)
        refine ⟨Kp [0] 2 E, ?_⟩
        refine P_some E (PL_f E (O_store (vs := [.int .i64 x1.value.node, .int .i64 x1.value.leg.Secs, .int .i64 x1.value.leg.Meters, .int .i64 x1.n]) E E E E E E ?_))
        rw [← Addr.add_zero' ((a3.add (i1.toNat * 4)))]
        refine Own.store (r := r_pqueue_item_stop) (x' := x1) (o := 0) (sz := 4) 1 rfl hO1 hA3 hx3 rfl rfl (by rintro _ rfl; rfl) fun ch2 hO2 => ?_
        have hn2 := hn1.trans (length_setI q1.heap i1 x1).symm
        refine ⟨Kp [0] 2 E, ?_⟩
        refine P_none (PL_f E ?_)
        obtain ⟨x4, hx4, h920⟩ := obind h920
        obtain ⟨a4, cs4, hA4, hr4, _, hc4⟩ := Rds.getI (Own.rds (L := ([(g1, .cells #[.func (.func 77) #[] #[], .slice A1 n1 c1, .int .i64 q1.count] 138 (0, 0))] :: ch2 :: L)) hO2 1 rfl) hx4
        obtain rfl := hr4
        refine O_read E (R_iaG E E E E E E ⟨(getI_lt hx4).1, lenN hn2 (getI_lt hx4).2.1⟩ hA4 ?_)
        refine ⟨Kp [0] 2 E, ?_⟩
        refine P_some E (PL_f E (O_store (vs := [.int .i64 x2.value.node, .int .i64 x2.value.leg.Secs, .int .i64 x2.value.leg.Meters, .int .i64 x2.n]) E E E E E E ?_))
        rw [← Addr.add_zero' ((a4.add (k1.toNat * 4)))]
        refine Own.store (r := r_pqueue_item_stop) (x' := x2) (o := 0) (sz := 4) 1 rfl hO2 hA4 hx4 rfl rfl (by rintro _ rfl; rfl) fun ch3 hO3 => ?_
        have hn3 := hn2.trans (length_setI (setI q1.heap i1 x1) k1 x2).symm
        refine ⟨Kp [0] 2 E, ?_⟩
        refine P_none (PL_nil (AN.done0 (by kernel_rfl) ?_))
        subst hn3
        cases h920
        exact Ce E ⟨_, A1, c1, ch3, rfl, fE E, sE [some 0, some 1] 2 E, (hO3), rfl⟩
      obtain ⟨x2, hx2, h920⟩ := obind h920
      obtain ⟨x3, hx3, h920⟩ := obind h920
      obtain ⟨x4, hx4, h920⟩ := obind h920
      apply FO_; exact rfl; exact rfl
      obtain ⟨a2, cs2, hA2, hr2, _, hc2⟩ := Rds.getI (Own.rds (L := ([(g1, .cells #[.func (.func 77) #[] #[], .slice A1 n1 c1, .int .i64 q1.count] 138 (0, 0))] :: ch1 :: L)) hO1 1 rfl) hx2
      obtain rfl := hr2
      refine O_read E (R_iaG E E E E E E ⟨(getI_lt hx2).1, lenN hn1 (getI_lt hx2).2.1⟩ hA2 ?_)
      refine ⟨Kp [0] 2 E, ?_⟩
      apply P_some; exact rfl
      refine FK_2 Tt_ok (a := 16) (b := 23) (by kernel_rfl) ?_ ?_
      · refine FO_ E E (O_read E (R_loadA E E E E (Ex.mk [.int .i64 x1.value.node, .int .i64 x1.value.leg.Secs, .int .i64 x1.value.leg.Meters, .int .i64 x1.n] ⟨rfl, hc1⟩ ?_)))
        refine ⟨Kp [0] 2 E, ?_⟩
        refine P_some E (AN.run (fuel := 0) (listed' := [true, true, true, true, true, true, true, true, true, true, true, true, true, true, true, true, true, true, true, true, true, true, true, true, true, true, true, true]) Tt_ok [(false, 23), (false, 24), (false, 25), (false, 26), (false, 27)] (by kernel_rfl) (by kernel_rfl) E (PL_f E (O_read E (R_loadA E E E E (Ex.mk [.int .i64 x2.value.node, .int .i64 x2.value.leg.Secs, .int .i64 x2.value.leg.Meters, .int .i64 x2.n] ⟨rfl, hc2⟩ ?_)))))
        refine ⟨Kp [0] 2 E, ?_⟩
        refine P_some E (PL_f E ?_)
        obtain ⟨a3, cs3, hA3, hr3, _, hc3⟩ := Rds.getI (Own.rds (L := ([(g1, .cells #[.func (.func 77) #[] #[], .slice A1 n1 c1, .int .i64 q1.count] 138 (0, 0))] :: ch1 :: L)) hO1 1 rfl) hx2
        obtain rfl := hr3
        refine O_read E (R_iaG E E E E E E ⟨(getI_lt hx2).1, lenN hn1 (getI_lt hx2).2.1⟩ hA3 ?_)
        refine ⟨Kp [0] 2 E, ?_⟩
        refine P_some E (PL_f E (O_store (vs := [.int .i64 x1.value.node, .int .i64 x1.value.leg.Secs, .int .i64 x1.value.leg.Meters, .int .i64 x1.n]) E E E E E E ?_))
        rw [← Addr.add_zero' ((a3.add (i1.toNat * 4)))]
        refine Own.store (r := r_pqueue_item_stop) (x' := x1) (o := 0) (sz := 4) 1 rfl hO1 hA3 hx2 rfl rfl (by rintro _ rfl; rfl) fun ch2 hO2 => ?_
        have hn2 := hn1.trans (length_setI q1.heap i1 x1).symm
        refine ⟨Kp [0] 2 E, ?_⟩
        refine P_none (PL_f E ?_)
        obtain ⟨a4, cs4, hA4, hr4, _, hc4⟩ := Rds.getI (Own.rds (L := ([(g1, .cells #[.func (.func 77) #[] #[], .slice A1 n1 c1, .int .i64 q1.count] 138 (0, 0))] :: ch2 :: L)) hO2 1 rfl) hx4
        obtain rfl := hr4
        refine O_read E (R_iaG E E E E E E ⟨(getI_lt hx4).1, lenN hn2 (getI_lt hx4).2.1⟩ hA4 ?_)
        refine ⟨Kp [0] 2 E, ?_⟩
        refine P_some E (PL_f E (O_store (vs := [.int .i64 x2.value.node, .int .i64 x2.value.leg.Secs, .int .i64 x2.value.leg.Meters, .int .i64 x2.n]) E E E E E E ?_))
        rw [← Addr.add_zero' ((a4.add (k1.toNat * 4)))]
        refine Own.store (r := r_pqueue_item_stop) (x' := x2) (o := 0) (sz := 4) 1 rfl hO2 hA4 hx4 rfl rfl (by rintro _ rfl; rfl) fun ch3 hO3 => ?_
        have hn3 := hn2.trans (length_setI (setI q1.heap i1 x1) k1 x2).symm
        refine ⟨Kp [0] 2 E, ?_⟩
        refine P_none (PL_nil (AN.done0 (by kernel_rfl) ?_))
        subst hn3
        cases h920
        exact Ce E ⟨_, A1, c1, ch3, rfl, fE E, sE [some 0, some 1] 2 E, (hO3), rfl⟩
      refine FO_ E E (O_read E (R_loadA E E E E (Ex.mk [.int .i64 x2.value.node, .int .i64 x2.value.leg.Secs, .int .i64 x2.value.leg.Meters, .int .i64 x2.n] ⟨rfl, hc2⟩ ?_)))
      refine ⟨Kp [0] 2 E, ?_⟩
      refine P_some E (AN.run (fuel := 0) (listed' := [true, true, true, true, true, true, true, true, true, true, true, true, true, true, true, true, true, true, true, true, true, true, true, true, true, true, true, true]) Tt_ok [(false, 16), (false, 24), (false, 25), (false, 26), (false, 27)] (by kernel_rfl) (by kernel_rfl) E (PL_f E (O_read E (R_loadA E E E E (Ex.mk [.int .i64 x1.value.node, .int .i64 x1.value.leg.Secs, .int .i64 x1.value.leg.Meters, .int .i64 x1.n] ⟨rfl, hc1⟩ ?_)))))
      refine ⟨Kp [0] 2 E, ?_⟩
      refine P_some E (PL_f E ?_)
      obtain ⟨a3, cs3, hA3, hr3, _, hc3⟩ := Rds.getI (Own.rds (L := ([(g1, .cells #[.func (.func 77) #[] #[], .slice A1 n1 c1, .int .i64 q1.count] 138 (0, 0))] :: ch1 :: L)) hO1 1 rfl) hx2
      obtain rfl := hr3
      refine O_read E (R_iaG E E E E E E ⟨(getI_lt hx2).1, lenN hn1 (getI_lt hx2).2.1⟩ hA3 ?_)
      refine ⟨Kp [0] 2 E, ?_⟩
      refine P_some E (PL_f E (O_store (vs := [.int .i64 x1.value.node, .int .i64 x1.value.leg.Secs, .int .i64 x1.value.leg.Meters, .int .i64 x1.n]) E E E E E E ?_))
      rw [← Addr.add_zero' ((a3.add (i1.toNat * 4)))]
      refine Own.store (r := r_pqueue_item_stop) (x' := x1) (o := 0) (sz := 4) 1 rfl hO1 hA3 hx2 rfl rfl (by rintro _ rfl; rfl) fun ch2 hO2 => ?_
      have hn2 := hn1.trans (length_setI q1.heap i1 x1).symm
      refine ⟨Kp [0] 2 E, ?_⟩
      refine P_none (PL_f E ?_)
      obtain ⟨a4, cs4, hA4, hr4, _, hc4⟩ := Rds.getI (Own.rds (L := ([(g1, .cells #[.func (.func 77) #[] #[], .slice A1 n1 c1, .int .i64 q1.count] 138 (0, 0))] :: ch2 :: L)) hO2 1 rfl) hx4
      obtain rfl := hr4
      refine O_read E (R_iaG E E E E E E ⟨(getI_lt hx4).1, lenN hn2 (getI_lt hx4).2.1⟩ hA4 ?_)
      refine ⟨Kp [0] 2 E, ?_⟩
      refine P_some E (PL_f E (O_store (vs := [.int .i64 x2.value.node, .int .i64 x2.value.leg.Secs, .int .i64 x2.value.leg.Meters, .int .i64 x2.n]) E E E E E E ?_))
      rw [← Addr.add_zero' ((a4.add (k1.toNat * 4)))]
      refine Own.store (r := r_pqueue_item_stop) (x' := x2) (o := 0) (sz := 4) 1 rfl hO2 hA4 hx4 rfl rfl (by rintro _ rfl; rfl) fun ch3 hO3 => ?_
      have hn3 := hn2.trans (length_setI (setI q1.heap i1 x1) k1 x2).symm
      refine ⟨Kp [0] 2 E, ?_⟩
      refine P_none (PL_nil (AN.done0 (by kernel_rfl) ?_))
      subst hn3
      cases h920
      exact Ce E ⟨_, A1, c1, ch3, rfl, fE E, sE [some 0, some 1] 2 E, (hO3), rfl⟩
    obtain ⟨x1, hx1, h920⟩ := obind h920
    obtain ⟨x2, hx2, h920⟩ := obind h920
    obtain ⟨x3, hx3, h920⟩ := obind h920
    obtain ⟨x4, hx4, h920⟩ := obind h920
    apply FO_; exact rfl; exact rfl
    obtain ⟨a2, cs2, hA2, hr2, _, hc2⟩ := Rds.getI (Own.rds (L := ([(g1, .cells #[.func (.func 77) #[] #[], .slice A1 n1 c1, .int .i64 q1.count] 138 (0, 0))] :: ch1 :: L)) hO1 1 rfl) hx2
    obtain rfl := hr2
    refine O_read E (R_iaG E E E E E E ⟨(getI_lt hx2).1, lenN hn1 (getI_lt hx2).2.1⟩ hA2 ?_)
    refine ⟨Kp [0] 2 E, ?_⟩
    apply P_some; exact rfl
    refine FK_2 Tt_ok (a := 15) (b := 23) (by kernel_rfl) ?_ ?_
    · apply FO_; exact rfl; exact rfl
      obtain ⟨a1, cs1, hA1, hr1, _, hc1⟩ := Rds.getI (Own.rds (L := ([(g1, .cells #[.func (.func 77) #[] #[], .slice A1 n1 c1, .int .i64 q1.count] 138 (0, 0))] :: ch1 :: L)) hO1 1 rfl) hx1
      obtain rfl := hr1
      refine O_read E (R_iaG E E E E E E ⟨(getI_lt hx1).1, lenN hn1 (getI_lt hx1).2.1⟩ hA1 ?_)
      refine ⟨Kp [0] 2 E, ?_⟩
      apply P_some; exact rfl
      refine FK_2 Tt_ok (a := 16) (b := 23) (by kernel_rfl) ?_ ?_
      · refine FO_ E E (O_read E (R_loadA E E E E (Ex.mk [.int .i64 x1.value.node, .int .i64 x1.value.leg.Secs, .int .i64 x1.value.leg.Meters, .int .i64 x1.n] ⟨rfl, hc1⟩ ?_)))
        refine ⟨Kp [0] 2 E, ?_⟩
        refine P_some E (AN.run (fuel := 0) (listed' := [true, true, true, true, true, true, true, true, true, true, true, true, true, true, true, true, true, true, true, true, true, true, true, true, true, true, true, true]) Tt_ok [(false, 23), (false, 24), (false, 25), (false, 26), (false, 27)] (by kernel_rfl) (by kernel_rfl) E (PL_f E (O_read E (R_loadA E E E E (Ex.mk [.int .i64 x2.value.node, .int .i64 x2.value.leg.Secs, .int .i64 x2.value.leg.Meters, .int .i64 x2.n] ⟨rfl, hc2⟩ ?_)))))
        refine ⟨Kp [0] 2 E, ?_⟩
        refine P_some E (PL_f E ?_)
        obtain ⟨a3, cs3, hA3, hr3, _, hc3⟩ := Rds.getI (Own.rds (L := ([(g1, .cells #[.func (.func 77) #[] #[], .slice A1 n1 c1, .int .i64 q1.count] 138 (0, 0))] :: ch1 :: L)) hO1 1 rfl) hx2
        obtain rfl := hr3
        refine O_read E (R_iaG E E E E E E ⟨(getI_lt hx2).1, lenN hn1 (getI_lt hx2).2.1⟩ hA3 ?_)
        refine ⟨Kp [0] 2 E, ?_⟩
        refine P_some E (PL_f E (O_store (vs := [.int .i64 x1.value.node, .int .i64 x1.value.leg.Secs, .int .i64 x1.value.leg.Meters, .int .i64 x1.n]) E E E E E E ?_))
        rw [← Addr.add_zero' ((a3.add (i1.toNat * 4)))]
        refine Own.store (r := r_pqueue_item_stop) (x' := x1) (o := 0) (sz := 4) 1 rfl hO1 hA3 hx2 rfl rfl (by rintro _ rfl; rfl) fun ch2 hO2 => ?_
        have hn2 := hn1.trans (length_setI q1.heap i1 x1).symm
        refine ⟨Kp [0] 2 E, ?_⟩
        refine P_none (PL_f E ?_)
        obtain ⟨a4, cs4, hA4, hr4, _, hc4⟩ := Rds.getI (Own.rds (L := ([(g1, .cells #[.func (.func 77) #[] #[], .slice A1 n1 c1, .int .i64 q1.count] 138 (0, 0))] :: ch2 :: L)) hO2 1 rfl) hx4
        obtain rfl := hr4
        refine O_read E (R_iaG E E E E E E ⟨(getI_lt hx4).1, lenN hn2 (getI_lt hx4).2.1⟩ hA4 ?_)
        refine ⟨Kp [0] 2 E, ?_⟩
        refine P_some E (PL_f E (O_store (vs := [.int .i64 x2.value.node, .int .i64 x2.value.leg.Secs, .int .i64 x2.value.leg.Meters, .int .i64 x2.n]) E E E E E E ?_))
        rw [← Addr.add_zero' ((a4.add (k1.toNat * 4)))]
        refine Own.store (r := r_pqueue_item_stop) (x' := x2) (o := 0) (sz := 4) 1 rfl hO2 hA4 hx4 rfl rfl (by rintro _ rfl; rfl) fun ch3 hO3 => ?_
        have hn3 := hn2.trans (length_setI (setI q1.heap i1 x1) k1 x2).symm
        refine ⟨Kp [0] 2 E, ?_⟩
        refine P_none (PL_nil (AN.done0 (by kernel_rfl) ?_))
        subst hn3
        cases h920
        exact Ce E ⟨_, A1, c1, ch3, rfl, fE E, sE [some 0, some 1] 2 E, (hO3), rfl⟩
      refine FO_ E E (O_read E (R_loadA E E E E (Ex.mk [.int .i64 x2.value.node, .int .i64 x2.value.leg.Secs, .int .i64 x2.value.leg.Meters, .int .i64 x2.n] ⟨rfl, hc2⟩ ?_)))
      refine ⟨Kp [0] 2 E, ?_⟩
      refine P_some E (AN.run (fuel := 0) (listed' := [true, true, true, true, true, true, true, true, true, true, true, true, true, true, true, true, true, true, true, true, true, true, true, true, true, true, true, true]) Tt_ok [(false, 16), (false, 24), (false, 25), (false, 26), (false, 27)] (by kernel_rfl) (by kernel_rfl) E (PL_f E (O_read E (R_loadA E E E E (Ex.mk [.int .i64 x1.value.node, .int .i64 x1.value.leg.Secs, .int .i64 x1.value.leg.Meters, .int .i64 x1.n] ⟨rfl, hc1⟩ ?_)))))
      refine ⟨Kp [0] 2 E, ?_⟩
      refine P_some E (PL_f E ?_)
      obtain ⟨a3, cs3, hA3, hr3, _, hc3⟩ := Rds.getI (Own.rds (L := ([(g1, .cells #[.func (.func 77) #[] #[], .slice A1 n1 c1, .int .i64 q1.count] 138 (0, 0))] :: ch1 :: L)) hO1 1 rfl) hx2
      obtain rfl := hr3
      refine O_read E (R_iaG E E E E E E ⟨(getI_lt hx2).1, lenN hn1 (getI_lt hx2).2.1⟩ hA3 ?_)
      refine ⟨Kp [0] 2 E, ?_⟩
      refine P_some E (PL_f E (O_store (vs := [.int .i64 x1.value.node, .int .i64 x1.value.leg.Secs, .int .i64 x1.value.leg.Meters, .int .i64 x1.n]) E E E E E E ?_))
      rw [← Addr.add_zero' ((a3.add (i1.toNat * 4)))]
      refine Own.store (r := r_pqueue_item_stop) (x' := x1) (o := 0) (sz := 4) 1 rfl hO1 hA3 hx2 rfl rfl (by rintro _ rfl; rfl) fun ch2 hO2 => ?_
      have hn2 := hn1.trans (length_setI q1.heap i1 x1).symm
      refine ⟨Kp [0] 2 E, ?_⟩
      refine P_none (PL_f E ?_)
      obtain ⟨a4, cs4, hA4, hr4, _, hc4⟩ := Rds.getI (Own.rds (L := ([(g1, .cells #[.func (.func 77) #[] #[], .slice A1 n1 c1, .int .i64 q1.count] 138 (0, 0))] :: ch2 :: L)) hO2 1 rfl) hx4
      obtain rfl := hr4
      refine O_read E (R_iaG E E E E E E ⟨(getI_lt hx4).1, lenN hn2 (getI_lt hx4).2.1⟩ hA4 ?_)
      refine ⟨Kp [0] 2 E, ?_⟩
      refine P_some E (PL_f E (O_store (vs := [.int .i64 x2.value.node, .int .i64 x2.value.leg.Secs, .int .i64 x2.value.leg.Meters, .int .i64 x2.n]) E E E E E E ?_))
      rw [← Addr.add_zero' ((a4.add (k1.toNat * 4)))]
      refine Own.store (r := r_pqueue_item_stop) (x' := x2) (o := 0) (sz := 4) 1 rfl hO2 hA4 hx4 rfl rfl (by rintro _ rfl; rfl) fun ch3 hO3 => ?_
      have hn3 := hn2.trans (length_setI (setI q1.heap i1 x1) k1 x2).symm
      refine ⟨Kp [0] 2 E, ?_⟩
      refine P_none (PL_nil (AN.done0 (by kernel_rfl) ?_))
      subst hn3
      cases h920
      exact Ce E ⟨_, A1, c1, ch3, rfl, fE E, sE [some 0, some 1] 2 E, (hO3), rfl⟩
    refine FO_ E E (O_read E (R_loadA E E E E (Ex.mk [.int .i64 x2.value.node, .int .i64 x2.value.leg.Secs, .int .i64 x2.value.leg.Meters, .int .i64 x2.n] ⟨rfl, hc2⟩ ?_)))
    refine ⟨Kp [0] 2 E, ?_⟩
    refine P_some E (AN.run (fuel := 0) (listed' := [true, true, true, true, true, true, true, true, true, true, true, true, true, true, true, true, true, true, true, true, true, true, true, true, true, true, true, true]) Tt_ok [(false, 15), (false, 16), (false, 24), (false, 25), (false, 26), (false, 27)] (by kernel_rfl) (by kernel_rfl) E (PL_f E ?_))
    obtain ⟨a1, cs1, hA1, hr1, _, hc1⟩ := Rds.getI (Own.rds (L := ([(g1, .cells #[.func (.func 77) #[] #[], .slice A1 n1 c1, .int .i64 q1.count] 138 (0, 0))] :: ch1 :: L)) hO1 1 rfl) hx1
    obtain rfl := hr1
    refine O_read E (R_iaG E E E E E E ⟨(getI_lt hx1).1, lenN hn1 (getI_lt hx1).2.1⟩ hA1 ?_)
    refine ⟨Kp [0] 2 E, ?_⟩
    refine P_some E (PL_f E (O_read E (R_loadA E E E E (Ex.mk [.int .i64 x1.value.node, .int .i64 x1.value.leg.Secs, .int .i64 x1.value.leg.Meters, .int .i64 x1.n] ⟨rfl, hc1⟩ ?_))))
    refine ⟨Kp [0] 2 E, ?_⟩
    refine P_some E (PL_f E ?_)
    obtain ⟨a3, cs3, hA3, hr3, _, hc3⟩ := Rds.getI (Own.rds (L := ([(g1, .cells #[.func (.func 77) #[] #[], .slice A1 n1 c1, .int .i64 q1.count] 138 (0, 0))] :: ch1 :: L)) hO1 1 rfl) hx2
    obtain rfl := hr3
    refine O_read E (R_iaG E E E E E E ⟨(getI_lt hx2).1, lenN hn1 (getI_lt hx2).2.1⟩ hA3 ?_)
    refine ⟨Kp [0] 2 E, ?_⟩
    refine P_some E (PL_f E (O_store (vs := [.int .i64 x1.value.node, .int .i64 x1.value.leg.Secs, .int .i64 x1.value.leg.Meters, .int .i64 x1.n]) E E E E E E ?_))
    rw [← Addr.add_zero' ((a3.add (i1.toNat * 4)))]
    refine Own.store (r := r_pqueue_item_stop) (x' := x1) (o := 0) (sz := 4) 1 rfl hO1 hA3 hx2 rfl rfl (by rintro _ rfl; rfl) fun ch2 hO2 => ?_
    have hn2 := hn1.trans (length_setI q1.heap i1 x1).symm
    refine ⟨Kp [0] 2 E, ?_⟩
    refine P_none (PL_f E ?_)
    obtain ⟨a4, cs4, hA4, hr4, _, hc4⟩ := Rds.getI (Own.rds (L := ([(g1, .cells #[.func (.func 77) #[] #[], .slice A1 n1 c1, .int .i64 q1.count] 138 (0, 0))] :: ch2 :: L)) hO2 1 rfl) hx4
    obtain rfl := hr4
    refine O_read E (R_iaG E E E E E E ⟨(getI_lt hx4).1, lenN hn2 (getI_lt hx4).2.1⟩ hA4 ?_)
    refine ⟨Kp [0] 2 E, ?_⟩
    refine P_some E (PL_f E (O_store (vs := [.int .i64 x2.value.node, .int .i64 x2.value.leg.Secs, .int .i64 x2.value.leg.Meters, .int .i64 x2.n]) E E E E E E ?_))
    rw [← Addr.add_zero' ((a4.add (k1.toNat * 4)))]
    refine Own.store (r := r_pqueue_item_stop) (x' := x2) (o := 0) (sz := 4) 1 rfl hO2 hA4 hx4 rfl rfl (by rintro _ rfl; rfl) fun ch3 hO3 => ?_
    have hn3 := hn2.trans (length_setI (setI q1.heap i1 x1) k1 x2).symm
    refine ⟨Kp [0] 2 E, ?_⟩
    refine P_none (PL_nil (AN.done0 (by kernel_rfl) ?_))
    subst hn3
    cases h920
    exact Ce E ⟨_, A1, c1, ch3, rfl, fE E, sE [some 0, some 1] 2 E, (hO3), rfl⟩
  rintro _ _ _ _ h _ ⟨f1, A2, c2, ch4, rfl, hF920, hS920, hO4, rfl⟩
  refine Atn 2 hF920 hS920 E E ?_
  cases h
  exact Rt [] E E (Ug [[0, 1]] 2 (hR _ ⟨g1, A2, c2, ch4, rfl, rfl, hO4⟩))

theorem pqueue_Queue_stop_Push_fn {F : Nat} {q1 : T_pqueue_Queue_stop} {x1 : T_road_stop} {pv1 : Value} {so1 : Seg} {res1 : T_pqueue_Queue_stop}
    (hP1 : Obj_pqueue_Queue_stop μ pv1 q1 so1) (h : pqueue_Queue_stop_Push F q1 x1 = some res1)
    (hR : ∀ (sp0 : Seg), Obj_pqueue_Queue_stop μ pv1 res1 sp0 → R (.tuple #[]) μ (sp0 :: L)) :
    Fn Try.prog 79 [pv1, .agg #[.int .i64 x1.node, .int .i64 x1.leg.Secs, .int .i64 x1.leg.Meters]] μ (so1 :: L) R := by
  unfold pqueue_Queue_stop_Push at h
  refine FnS Try.func79 (by kernel_rfl) E Try.ntmps79 E E ?_
  refine G0 2 E (Al E fun g1 => ?_)
  obtain ⟨g2, A1, c1, _, hv1, rfl, hO1⟩ := hP1
  subst hv1
  refine Q0 3 E (In Obj_pqueue_Queue_stop.fl 1 3 E E E (G2 7 [] [7] [] E (Cd (WP.drawB (id := 2) (l' := List.replicate 15 true ++ [false]) wide Tt_ok ([(g1, .cells #[.int .i64 x1.node, .int .i64 x1.leg.Secs, .int .i64 x1.leg.Meters] 129 (0, 0))] :: [(g2, .cells #[.func (.func 77) #[] #[], .slice A1 q1.heap.length c1, .int .i64 q1.count] 138 (0, 0))] :: L) (Kp [0, 1] 3 E) 15 [(13, [14])] [(true, 0), (true, 1), (true, 2), (true, 3), (true, 4), (true, 5), (true, 6), (true, 7), (true, 8), (true, 9), (true, 10), (false, 11), (false, 12), (true, 13), (true, 14)] (by kernel_rfl) (by kernel_rfl) E (by kernel_rfl) (by kernel_rfl) (PL_t E (R_move E (Pt E E (R_move E (Pt E E (R_nilP E (Pt E E (R_fa0 (o' := 1) E E E E E E (Pt E E ?_)))))))))))))
  refine R_load E E E (Ex.mk _ (Cell.seg 1 0 E E E) (Pt E E (R_loadA E E E E (LA_ (vs := [.int .i64 x1.node, .int .i64 x1.leg.Secs, .int .i64 x1.leg.Meters]) 0 0 E E E E (Pt E E (R_move E (Pt E E (R_nilP E (Pt E E (R_fa0 (o' := 2) E E E E E E (Pt E E (R_load E E E ?_))))))))))))
  refine Ex.mk _ (Cell.seg 1 0 E E E) (Pt E E (R_build E E E E (F_cons (cells' := [.int .i64 x1.node, .int .i64 x1.leg.Secs, .int .i64 x1.leg.Meters, .int .i64 0]) E E E E (F_cons (cells' := [.int .i64 x1.node, .int .i64 x1.leg.Secs, .int .i64 x1.leg.Meters, .int .i64 q1.count]) E E E E (F_nil (P_some E (PL_f E (O_bsl (z := [.int .i64 0, .int .i64 0, .int .i64 0, .int .i64 0]) E E E E E E E (F_cons (cells' := [.int .i64 x1.node, .int .i64 x1.leg.Secs, .int .i64 x1.leg.Meters, .int .i64 q1.count]) E E E E (F_nil (fun g3 => ?_)))))))))))
  refine ⟨Kp [1, 2] 4 E, ?_⟩
  refine P_some E (PL_f E (O_append E ?_))
  obtain ⟨l1, hz1, h⟩ := obind h
  refine sem_appR (r := r_pqueue_item_stop) Tt_ok E E E E (by decide) E E 3 E hO1 E (Own.rds (Own.lit (r := r_pqueue_item_stop) (e := 140) (g := g3) (xs := [(T_pqueue_item_stop.mk x1 q1.count)]) (cs := [.int .i64 x1.node, .int .i64 x1.leg.Secs, .int .i64 x1.leg.Meters, .int .i64 q1.count]) (css := [[.int .i64 x1.node, .int .i64 x1.leg.Secs, .int .i64 x1.leg.Meters, .int .i64 q1.count]]) E (All2.cons (E) (All2.nil)) E E) 0 E) hz1 fun A2 c2 ch2 hO2 => ?_
  refine ⟨Kp [1, 2] 4 E, ?_⟩
  refine Pt E E (R_nilP E (Pt E E (R_fa0 (o' := 1) E E E E E E (P_some E (PL_nil (last_ E (O_store (vs := [.slice A2 l1.length c2]) E E E E E E (ST_ (L' := ([(g3, .cells #[.int .i64 x1.node, .int .i64 x1.leg.Secs, .int .i64 x1.leg.Meters, .int .i64 q1.count] 140 (0, 0))] :: [(g1, .cells #[.int .i64 x1.node, .int .i64 x1.leg.Secs, .int .i64 x1.leg.Meters] 129 (0, 0))] :: [(g2, .cells #[.func (.func 77) #[] #[], .slice A2 l1.length c2, .int .i64 q1.count] 138 (0, 0))] :: ch2 :: L)) 2 0 E E E E (P_none ?_)))))))))
  have hP2 : Obj_pqueue_Queue_stop μ (.pointer (some ⟨g2, 0, none⟩)) (T_pqueue_Queue_stop.mk l1 (w64 (q1.count + 1))) _ := ⟨g2, A2, c2, ch2, rfl, rfl, hO2⟩
  refine G1 21 [2, 2, 2] E (Gp [[2, 3], [0], [1]] 4 3 E E ?_)
  refine Cut h (fun f l o_ f_ μ_ l_ => ∃ (q3 : T_pqueue_Queue_stop) (so4 : Seg), (.inl q3) = o_ ∧ SubFr ([]) f_ ∧ SegSub (so4 :: selS [] 3 l) l_ ∧ Obj_pqueue_Queue_stop μ_ (.pointer (some ⟨g2, 0, none⟩)) q3 so4 ∧ μ = μ_) ?_ ?_
  · intro _ h1098 h
    refine Lp h1098 (fun f l (j_ : T_pqueue_Queue_stop × Int) f_ μ_ l_ => ounP j_ fun q2 i1 => ∃ (so2 : Seg), SubFr ((4, .int .i64 i1) :: keepF [0] f) f_ ∧ SegSub (so2 :: selS [] 3 l) l_ ∧ Obj_pqueue_Queue_stop μ_ (.pointer (some ⟨g2, 0, none⟩)) q2 so2 ∧ μ = μ_) ⟨((g2, Obj.cells #[.func (.func 77) #[] #[], .slice A2 l1.length c2, .int .i64 (w64 (q1.count + 1))] 138 (0, 0)) :: ch2), fE E, sE [some 0] 3 E, (hP2), E⟩ ?_
    rintro ⟨q2, i1⟩ _ _ _ _ _ ⟨so2, hF1103, hS1103, hP3, rfl⟩ hb1103 hq1103
    unfold pqueue_Queue_stop_Push_l1 at hb1103
    replace hb1103 := oun_mk hb1103
    refine Atn 1 hF1103 hS1103 E E (G0 6 E ?_)
    refine Br hb1103 37 E E (fun hc1 hb1103 => ?_) (fun hc1 hb1103 => ?_)
    · refine G2 16 [37] [] [0] E (Cl E ?_)
      obtain ⟨_, hx1, hb1103⟩ := obind hb1103
      refine pqueue_Queue_stop_before_fn hP3 hx1 ((Q0 2 E ?_))
      refine Br hb1103 45 E E (fun hc2 hb1103 => ?_) (fun hc2 hb1103 => ?_)
      · refine G2 1 [45] [] [] E ?_
        cases hb1103
        have hq_ := hq1103 _ E
        subst hq_
        replace h := osum_r h
        cases h
        exact Rt [] E E (Ug [[0]] 1 (hR _ hP3))
      refine G2 7 [] [45] [] E (Cl E ?_)
      obtain ⟨_, hx2, hb1103⟩ := obind hb1103
      refine pqueue_Queue_stop_swap_fn hP3 hx2 (fun so3 hP4 => Q0 6 E ?_)
      cases hb1103
      exact Ce E ⟨_, rfl, so3, fE E, sE [some 0] 1 E, (hP4), rfl⟩
    refine G2 2 [] [37] [] E ?_
    cases hb1103
    have hq_ := hq1103 _ E
    subst hq_
    exact Ce E ⟨_, so2, rfl, fE E, sE [some 0] 1 E, (hP3), rfl⟩
  rintro _ _ _ _ h _ ⟨q3, so4, rfl, hF1098, hS1098, hP5, rfl⟩
  replace h := osum_l h
  refine Atn 1 hF1098 hS1098 E E ?_
  cases h
  exact Rt [] E E (Ug [[0]] 1 (hR _ hP5))

theorem pqueue_Queue_stop_Len_fn  {q1 : T_pqueue_Queue_stop} {pv1 : Value} {so1 : Seg} {res1 : Int}
    (hP1 : Obj_pqueue_Queue_stop μ pv1 q1 so1) (h : pqueue_Queue_stop_Len q1 = some res1)
    (hR : R (.int .i64 res1) μ (so1 :: L)) :
    Fn Try.prog 86 [pv1] μ (so1 :: L) R := by
  unfold pqueue_Queue_stop_Len at h
  refine FnS Try.func86 (by kernel_rfl) E Try.ntmps86 E E ?_
  obtain ⟨_, _, _, _, hv1, rfl, _⟩ := hP1
  subst hv1
  refine G0 6 E (In Obj_pqueue_Queue_stop.fl 0 2 E E E (G2 15 [] [4] [0] E ?_))
  cases h
  exact Rt [] E E (Ug [[0, 1]] 2 hR)

theorem pqueue_Queue_stop_Peek_fn  {q1 : T_pqueue_Queue_stop} {pv1 : Value} {so1 : Seg} {res1 : T_road_stop} {res2 : Bool}
    (hP1 : Obj_pqueue_Queue_stop μ pv1 q1 so1) (h : pqueue_Queue_stop_Peek q1 = some (res1, res2))
    (hR : R (.tuple #[.agg #[.int .i64 res1.node, .int .i64 res1.leg.Secs, .int .i64 res1.leg.Meters], .bool res2]) μ (so1 :: L)) :
    Fn Try.prog 84 [pv1] μ (so1 :: L) R := by
  unfold pqueue_Queue_stop_Peek at h
  refine FnS Try.func84 (by kernel_rfl) E Try.ntmps84 E E ?_
  refine G0 2 E (Al E fun _ => Q0 6 E (Cl E (Fn.gp [[1], [0]] 2 2 E ?_)))
  obtain ⟨_, hx1, h⟩ := obind h
  refine pqueue_Queue_stop_Len_fn hP1 hx1 ((Q0 2 E ?_))
  refine Br h 7 E E (fun hc1 h => ?_) (fun hc1 h => ?_)
  · refine G2 3 [7] [] [] E (Al E fun _ => Q1 7 [0, 2] E ?_)
    cases h
    exact Rt [2] E E (Ug [[1]] 3 hR)
  obtain ⟨_, _, _, _, hv1, rfl, hO1⟩ := hP1
  subst hv1
  refine G2 3 [] [7] [] E (In Obj_pqueue_Queue_stop.fl 0 3 E E E (G1 5 [0] E (IxA h (Own.rds hO1 1 E) E E fun _ _ _ _ hr1 hc2 _ h => ?_)))
  obtain rfl := hr1
  refine Q3 5 [] [] [64, 2] (Z1 hc2) E ?_
  cases h
  exact Rt [2] E E (Ug [[0, 1]] 3 hR)

theorem pqueue_Queue_stop_sink_fn {F : Nat} {q1 : T_pqueue_Queue_stop} {pv1 : Value} {so1 : Seg} {res1 : T_pqueue_Queue_stop}
    (hP1 : Obj_pqueue_Queue_stop μ pv1 q1 so1) (h : pqueue_Queue_stop_sink F q1 = some res1)
    (hR : ∀ (sp0 : Seg), Obj_pqueue_Queue_stop μ pv1 res1 sp0 → R (.tuple #[]) μ (sp0 :: L)) :
    Fn Try.prog 85 [pv1] μ (so1 :: L) R := by
  unfold pqueue_Queue_stop_sink at h
  refine FnS Try.func85 (by kernel_rfl) E Try.ntmps85 E E ?_
  obtain ⟨g1, A1, c1, ch1, hv1, rfl, hO1⟩ := hP1
  subst hv1
  refine G0 4 E (In Obj_pqueue_Queue_stop.fl 0 2 E E E ?_)
  refine Cut h (fun _ _ _ _ _ _ => False) ?_ ?_
  · intro _ h1306 h
    refine Lp h1306 (fun f l (j_ : (List T_pqueue_item_stop) × Int × Int) f_ μ_ l_ => ounP j_ fun f1 j_ => ounP j_ fun f2 i1 => ∃ (A2 : Option Addr) (c2 : Nat) (ch2 : Seg), SubFr ((2, .int .i64 i1) :: keepF [0] f) f_ ∧ SegSub ([(g1, .cells #[.func (.func 77) #[] #[], .slice A2 f1.length c2, .int .i64 f2] 138 (0, 0))] :: ch2 :: selS [] 2 l) l_ ∧ Own r_pqueue_item_stop 140 μ_ (.slice A2 f1.length c2) f1 ch2 ∧ μ = μ_) ⟨A1, c1, ch1, fE E, sE [some 0, some 1] 2 E, (hO1), E⟩ ?_
    rintro ⟨f1, f2, i1⟩ _ _ _ _ _ ⟨A2, c2, ch2, hF1376, hS1376, hO2, rfl⟩ hb1376 hq1376
    unfold pqueue_Queue_stop_sink_l2 at hb1376
    replace hb1376 := oun_mk hb1376
    replace hb1376 := oun_mk hb1376
    refine Atn 2 hF1376 hS1376 E E (G0 14 E ?_)
    refine Cut hb1376 (fun f l o_ f_ μ_ l_ => ∃ (f6 : (List T_pqueue_item_stop)) (f7 : Int) (next3 : Int) (A7 : Option Addr) (c7 : Nat) (ch7 : Seg), (f6, f7, next3) = o_ ∧ SubFr ((3, .int .i64 next3) :: keepF [0, 2] f) f_ ∧ SegSub ([(g1, .cells #[.func (.func 77) #[] #[], .slice A7 f6.length c7, .int .i64 f7] 138 (0, 0))] :: ch7 :: selS [] 2 l) l_ ∧ Own r_pqueue_item_stop 140 μ_ (.slice A7 f6.length c7) f6 ch7 ∧ μ = μ_) ?_ ?_
    · intro _ h1381 hb1376
      refine Lp h1381 (fun f l (j_ : (List T_pqueue_item_stop) × Int × Int × Int) f_ μ_ l_ => ounP j_ fun f3 j_ => ounP j_ fun f4 j_ => ounP j_ fun next1 k1 => ∃ (A3 : Option Addr) (c3 : Nat) (ch3 : Seg), SubFr ((3, .int .i64 next1) :: (4, .int .i64 k1) :: keepF [0, 2] f) f_ ∧ SegSub ([(g1, .cells #[.func (.func 77) #[] #[], .slice A3 f3.length c3, .int .i64 f4] 138 (0, 0))] :: ch3 :: selS [] 2 l) l_ ∧ Own r_pqueue_item_stop 140 μ_ (.slice A3 f3.length c3) f3 ch3 ∧ μ = μ_) ⟨A2, c2, ch2, fE E, sE [some 0, some 1] 2 E, (hO2), E⟩ ?_
      rintro ⟨f3, f4, next1, k1⟩ _ _ _ _ _ ⟨A3, c3, ch3, hF1400, hS1400, hO3, rfl⟩ hb1400 hq1400
      unfold pqueue_Queue_stop_sink_l1 at hb1400
      replace hb1400 := oun_mk hb1400
      replace hb1400 := oun_mk hb1400
      replace hb1400 := oun_mk hb1400
      refine Atn 2 hF1400 hS1400 E E (G0 2 E ?_)
      refine Cut hb1400 (fun f l o_ f_ μ_ l_ => ∃ (v1 : Bool), v1 = o_ ∧ SubFr ((22, .bool v1) :: keepF [0, 2, 3, 4] f) f_ ∧ SegSub l l_ ∧ μ = μ_) ?_ ?_
      · intro _ h1405 hb1400
        refine G0 7 E ?_
        refine Br h1405 14 E E (fun hc1 h1405 => ?_) (fun hc1 h1405 => ?_)
        · refine G2 9 [14] [] [0] E ?_
          cases h1405
          exact Ce E ⟨_, rfl, fE E, sE [some 0, some 1] 2 E, rfl⟩
        refine G2 9 [] [14] [] E ?_
        cases h1405
        exact Ce E ⟨_, rfl, fE E, sE [some 0, some 1] 2 E, rfl⟩
      rintro _ _ _ _ hb1400 _ ⟨v1, rfl, hF1405, hS1405, rfl⟩
      refine Atn 2 hF1405 hS1405 E E ?_
      refine Br hb1400 22 E E (fun hc2 hb1400 => ?_) (fun hc2 hb1400 => ?_)
      · refine G2 3 [22] [] [] E ?_
        refine Cut hb1400 (fun f l o_ f_ μ_ l_ => ∃ (f5 : (List T_pqueue_item_stop)) (next2 : Int) (A6 : Option Addr) (c6 : Nat) (ch6 : Seg), (f5, next2) = o_ ∧ SubFr ((3, .int .i64 next2) :: keepF [0, 2, 4] f) f_ ∧ SegSub ([(g1, .cells #[.func (.func 77) #[] #[], .slice A6 f5.length c6, .int .i64 ((T_pqueue_Queue_stop.mk f3 f4).count)] 138 (0, 0))] :: ch6 :: selS [] 2 l) l_ ∧ Own r_pqueue_item_stop 140 μ_ (.slice A6 f5.length c6) f5 ch6 ∧ μ = μ_) ?_ ?_
        · intro _ h1408 hb1400
          refine G0 6 E (Cl E ?_)
          have hP2 : Obj_pqueue_Queue_stop μ (.pointer (some ⟨g1, 0, none⟩)) (T_pqueue_Queue_stop.mk f3 f4) _ := ⟨g1, A3, c3, ch3, rfl, rfl, hO3⟩
          refine Fn.gp [[0, 1]] 2 1 E ?_
          obtain ⟨_, hx1, h1408⟩ := obind h1408
          refine pqueue_Queue_stop_before_fn hP2 hx1 ((Q0 1 E ?_))
          refine Br h1408 28 E E (fun hc3 h1408 => ?_) (fun hc3 h1408 => ?_)
          · refine G2 6 [28] [] [] E ?_
            obtain ⟨_, A4, c4, ch4, hv2, hs1, hO4⟩ := hP2
            replace hv2 := ptr_inj hv2
            subst hv2
            cases h1408
            exact Ce E ⟨_, _, A4, c4, ch4, rfl, fE E, (SegSub.ins (i := 0) (Obj_pqueue_Queue_stop.fl.trans hs1.symm) E).tr (sE [some 0, some 1] 2 E), (hO4), rfl⟩
          refine G2 3 [] [28] [] E ?_
          obtain ⟨_, A5, c5, ch5, hv3, hs2, hO5⟩ := hP2
          replace hv3 := ptr_inj hv3
          subst hv3
          cases h1408
          exact Ce E ⟨_, _, A5, c5, ch5, rfl, fE E, (SegSub.ins (i := 0) (Obj_pqueue_Queue_stop.fl.trans hs2.symm) E).tr (sE [some 0, some 1] 2 E), (hO5), rfl⟩
        rintro _ _ _ _ hb1400 _ ⟨f5, next2, A6, c6, ch6, rfl, hF1408, hS1408, hO6, rfl⟩
        replace hb1400 := oun_mk hb1400
        refine Atn 2 hF1408 hS1408 E E (G0 5 E ?_)
        cases hb1400
        exact Ce E ⟨_, rfl, A6, c6, ch6, fE E, sE [some 0, some 1] 2 E, (hO6), rfl⟩
      refine G2 2 [] [22] [] E ?_
      cases hb1400
      have hq_ := hq1400 _ E
      subst hq_
      exact Ce E ⟨_, _, _, A3, c3, ch3, rfl, fE E, sE [some 0, some 1] 2 E, (hO3), rfl⟩
    rintro _ _ _ _ hb1376 _ ⟨f6, f7, next3, A7, c7, ch7, rfl, hF1381, hS1381, hO7, rfl⟩
    replace hb1376 := oun_mk hb1376
    replace hb1376 := oun_mk hb1376
    refine Atn 2 hF1381 hS1381 E E (G0 7 E ?_)
    refine Br hb1376 32 E E (fun hc4 hb1376 => ?_) (fun hc4 hb1376 => ?_)
    · refine G2 1 [32] [] [] E ?_
      cases hb1376
      have hq_ := hq1376 _ E
      subst hq_
      cases h
      exact Rt [] E E (Ug [[0, 1]] 2 (hR _ ⟨g1, A7, c7, ch7, rfl, rfl, hO7⟩))
    refine G2 7 [] [32] [] E (Cl E ?_)
    have hP3 : Obj_pqueue_Queue_stop μ (.pointer (some ⟨g1, 0, none⟩)) (T_pqueue_Queue_stop.mk f6 f7) _ := ⟨g1, A7, c7, ch7, rfl, rfl, hO7⟩
    refine Fn.gp [[0, 1]] 2 1 E ?_
    obtain ⟨_, hx2, hb1376⟩ := obind hb1376
    refine pqueue_Queue_stop_swap_fn hP3 hx2 (fun _ hP4 => Q0 6 E ?_)
    obtain ⟨_, A8, c8, ch8, hv4, rfl, hO8⟩ := hP4
    replace hv4 := ptr_inj hv4
    subst hv4
    cases hb1376
    exact Ce E ⟨_, rfl, A8, c8, ch8, fE E, (SegSub.ins (i := 0) Obj_pqueue_Queue_stop.fl E).tr (sE [some 0, some 1] 2 E), (hO8), rfl⟩
  exact fun _ _ _ _ _ _ hf_ => hf_.elim

theorem pqueue_Queue_stop_Pop_fn {F : Nat} {q1 : T_pqueue_Queue_stop} {pv1 : Value} {so1 : Seg} {res1 : T_road_stop} {res2 : Bool} {res3 : T_pqueue_Queue_stop}
    (hP1 : Obj_pqueue_Queue_stop μ pv1 q1 so1) (h : pqueue_Queue_stop_Pop F q1 = some (res1, res2, res3))
    (hR : ∀ (sp0 : Seg), Obj_pqueue_Queue_stop μ pv1 res3 sp0 → R (.tuple #[.agg #[.int .i64 res1.node, .int .i64 res1.leg.Secs, .int .i64 res1.leg.Meters], .bool res2]) μ (sp0 :: L)) :
    Fn Try.prog 80 [pv1] μ (so1 :: L) R := by
  unfold pqueue_Queue_stop_Pop at h
  refine FnS Try.func80 (by kernel_rfl) E Try.ntmps80 E E ?_
  refine G0 2 E (Al E fun g1 => Q0 5 E (Cl E (Fn.gp [[1], [0]] 2 2 E ?_)))
  obtain ⟨⟨r1, _⟩, hx1, h⟩ := obind h
  replace h := oun_mk h
  refine pqueue_Queue_stop_Peek_fn hP1 hx1 ((Q0 3 E (Al E fun g2 => Q1 9 [0] E ?_)))
  refine Br h 13 E E (fun hc1 h => ?_) (fun hc1 h => ?_)
  · refine G2 7 [13] [] [0, 2] E ?_
    cases h
    exact Rt [2] E E (Ug [[1]] 3 (hR _ hP1))
  obtain ⟨g3, A1, c1, ch1, hv1, rfl, hO1⟩ := hP1
  subst hv1
  refine G2 3 [] [13] [] E (In Obj_pqueue_Queue_stop.fl 1 4 E E E (G1 13 [1] E (Cl E ?_)))
  have hP2 : Obj_pqueue_Queue_stop μ (.pointer (some ⟨g3, 0, none⟩)) q1 _ := ⟨g3, A1, c1, ch1, rfl, rfl, hO1⟩
  refine Fn.gp [[1, 2], [0], [3]] 4 3 E ?_
  obtain ⟨r3, hx2, h⟩ := obind h
  refine pqueue_Queue_stop_swap_fn hP2 hx2 (fun _ hP3 => ?_)
  obtain ⟨_, A2, c2, ch2, hv2, rfl, hO2⟩ := hP3
  replace hv2 := ptr_inj hv2
  subst hv2
  refine Q0 2 E (In Obj_pqueue_Queue_stop.fl 0 4 E E E ?_)
  obtain ⟨_, hs1, h⟩ := obind h
  refine G1 6 [0] E (Rdo E E (R_slLoS (r := r_pqueue_item_stop) E E E E E E E (Own.lenOk hO2).1 hs1 fun _ hAe1 => ?_))
  have hA1 := Rds.sub (Own.rds (L := ([(g3, .cells #[.func (.func 77) #[] #[], .slice A2 r3.heap.length c2, .int .i64 r3.count] 138 (0, 0))] :: ch2 :: [(g2, .cells #[.int .i64 r1.node, .int .i64 r1.leg.Secs, .int .i64 r1.leg.Meters] 129 (0, 0))] :: [(g1, .cells #[.int .i64 0, .int .i64 0, .int .i64 0] 129 (0, 0))] :: L)) hO2 1 E) (Own.lenOk hO2).1 hs1 hAe1
  have hl1 := subLen (Own.lenOk hO2) hs1
  refine Q0 0 E (So E (O_clear E (sem_clear (z := (T_pqueue_item_stop.mk (T_road_stop.mk 0 (T_api_Leg.mk 0 0)) 0)) (zc := [.int .i64 0, .int .i64 0, .int .i64 0, .int .i64 0]) Tt_ok E E E E E (E) 1 E hO2 hs1 hAe1 fun ch3 hO3 => ?_)))
  rw [← length_clrO r3.heap (w64 (((q1.heap.length : Nat) : Int) - 1)) (T_pqueue_item_stop.mk (T_road_stop.mk 0 (T_api_Leg.mk 0 0)) 0)] at hO3 ⊢
  obtain ⟨l2, hs2, h⟩ := obind h
  refine Q1 9 [0] E (Rdo E E (R_slHiS E E E E E E (Own.lenOk hO3).1 hs2 ?_))
  have hA2 := Rds.pre (Own.rds (L := ([(g3, .cells #[.func (.func 77) #[] #[], .slice A2 ((clrO r3.heap (w64 (((q1.heap.length : Nat) : Int) - 1)) (T_pqueue_item_stop.mk (T_road_stop.mk 0 (T_api_Leg.mk 0 0)) 0)).length) c2, .int .i64 r3.count] 138 (0, 0))] :: ch3 :: [(g2, .cells #[.int .i64 r1.node, .int .i64 r1.leg.Secs, .int .i64 r1.leg.Meters] 129 (0, 0))] :: [(g1, .cells #[.int .i64 0, .int .i64 0, .int .i64 0] 129 (0, 0))] :: L)) hO3 1 E) hs2
  have hl2 := preLen (Own.lenOk hO3) hs2
  refine Q0 2 E (So E (O_store (vs := [.slice A2 l2.length c2]) E E E E E E ?_))
  have hO4 := Own.cut hO3 hs2
  refine ST_ (L' := ([(g3, .cells #[.func (.func 77) #[] #[], .slice A2 l2.length c2, .int .i64 r3.count] 138 (0, 0))] :: ch3 :: [(g2, .cells #[.int .i64 r1.node, .int .i64 r1.leg.Secs, .int .i64 r1.leg.Meters] 129 (0, 0))] :: [(g1, .cells #[.int .i64 0, .int .i64 0, .int .i64 0] 129 (0, 0))] :: L)) 0 0 E E E E (Q0 4 E (Cl E ?_))
  have hP4 : Obj_pqueue_Queue_stop μ (.pointer (some ⟨g3, 0, none⟩)) (T_pqueue_Queue_stop.mk l2 r3.count) _ := ⟨g3, A2, c2, ch3, rfl, rfl, hO4⟩
  refine Fn.gp [[0, 1], [2], [3]] 4 3 E ?_
  obtain ⟨_, hx3, h⟩ := obind h
  refine pqueue_Queue_stop_sink_fn hP4 hx3 (fun _ hP5 => Q1 7 [1, 2] E ?_)
  cases h
  exact Rt [2] E E (Ug [[0]] 3 (hR _ hP5))

theorem road_forward_fn  {x1 : T_api_Edge}  {res1 : Int} {res2 : Int}
     (h : road_forward x1 = some (res1, res2))
    (hR : R (.tuple #[.int .i64 res1, .int .i64 res2]) μ (L)) :
    Fn Try.prog 74 [.agg #[.int .i64 x1.From, .int .i64 x1.To, .int .i64 x1.Meters, .int .i64 x1.Secs]] μ (L) R := by
  unfold road_forward at h
  refine FnS Try.func74 (by kernel_rfl) E Try.ntmps74 E E ?_
  refine G0 2 E (Al E fun _ => Q0 4 E (Dr _ Kept.refl [(true, 0), (true, 1), (true, 2), (true, 3), (true, 4), (true, 5)] (by kernel_rfl) (G1 7 [0, 0] E ?_)))
  cases h
  exact Rt [] E E (Ug [] 1 hR)

theorem road_after_fn  {l1 : T_api_Leg} {x1 : T_api_Edge}  {res1 : T_api_Leg}
     (h : road_after l1 x1 = some res1)
    (hR : R (.agg #[.int .i64 res1.Secs, .int .i64 res1.Meters]) μ (L)) :
    Fn Try.prog 81 [.agg #[.int .i64 l1.Secs, .int .i64 l1.Meters], .agg #[.int .i64 x1.From, .int .i64 x1.To, .int .i64 x1.Meters, .int .i64 x1.Secs]] μ (L) R := by
  unfold road_after at h
  refine FnS Try.func81 (by kernel_rfl) E Try.ntmps81 E E ?_
  refine G0 2 E (Al E fun _ => Q0 0 E (Al E fun _ => Q0 0 E (Al E fun _ => Q1 16 [2, 1, 2, 1, 0] E ?_)))
  cases h
  exact Rt [0] E E (Ug [] 3 hR)

theorem road_spread_c74_fn {F : Nat} {r1 : T_api_Road} {f_from1 : Int} {A1 : Option Addr} {c1 : Nat} {res1 : (List T_api_Leg)}
    (hl1 : r1.Edges.length ≤ c1 ∧ c1 ≤ maxLen) (hA1 : ArrR r_api_Edge μ A1 r1.Edges) (h : road_spread_c74 F r1 f_from1 = some res1)
    (hR : ∀ (A0 : Option Addr) (c0 : Nat) (ch0 : Seg), Own r_api_Leg 51 μ (.slice A0 res1.length c0) res1 ch0 → R (.slice A0 res1.length c0) μ (ch0 :: L)) :
    Fn Try.prog 73 [.agg #[.int .i64 r1.Nodes, .slice A1 r1.Edges.length c1], .int .i64 f_from1, .func (.func 74) #[] #[]] μ (L) R := by
  unfold road_spread_c74 at h
  refine FnS Try.func73 (by kernel_rfl) E Try.ntmps73 E E ?_
  refine G0 2 E (Al E fun g1 => Q1 6 [0] E (So E (O_mksl E E ?_)))
  obtain ⟨_, hn1, h⟩ := obind h
  refine sem_mkO (r := r_api_Leg) (z := (T_api_Leg.mk 0 0)) (zc := [.int .i64 0, .int .i64 0]) Tt_ok E E E E E (E) E hn1 fun A2 c2 ch1 hO1 => Q0 9 E ?_
  refine Cut h (fun f l o_ f_ μ_ l_ => ∃ (out2 : (List T_api_Leg)) (A4 : Option Addr) (c4 : Nat) (ch4 : Seg), out2 = o_ ∧ SubFr ((7, .slice A4 out2.length c4) :: keepF [1, 2, 3] f) f_ ∧ SegSub ([(g1, .cells #[.int .i64 r1.Nodes, .slice A1 r1.Edges.length c1] 24 (0, 0))] :: ch4 :: selS [] 2 l) l_ ∧ Own r_api_Leg 51 μ_ (.slice A4 out2.length c4) out2 ch4 ∧ μ = μ_) ?_ ?_
  · intro _ h487 h
    refine Lp h487 (fun f l (j_ : (List T_api_Leg) × Int) f_ μ_ l_ => ounP j_ fun out1 v1 => ∃ (A3 : Option Addr) (c3 : Nat) (ch2 : Seg), SubFr ((7, .slice A3 out1.length c3) :: (22, .int .i64 v1) :: keepF [1, 2, 3, 21] f) f_ ∧ SegSub ([(g1, .cells #[.int .i64 r1.Nodes, .slice A1 r1.Edges.length c1] 24 (0, 0))] :: ch2 :: selS [] 2 l) l_ ∧ Own r_api_Leg 51 μ_ (.slice A3 out1.length c3) out1 ch2 ∧ μ = μ_) ⟨A2, c2, ch1, fE E, sE [some 1, some 0] 2 E, (hO1), E⟩ ?_
    rintro ⟨out1, v1⟩ _ _ _ _ _ ⟨A3, c3, ch2, hF496, hS496, hO2, rfl⟩ hb496 hq496
    unfold road_spread_c74_l1 at hb496
    replace hb496 := oun_mk hb496
    refine Atn 2 hF496 hS496 E E (G0 5 E ?_)
    refine Br hb496 23 E E (fun hc1 hb496 => ?_) (fun hc1 hb496 => ?_)
    · refine G2 12 [23] [] [] E (Cl E ?_)
      obtain ⟨r2, hx1, hb496⟩ := obind hb496
      refine road_none_fn  hx1 ((Q0 0 E (IxA hb496 (Own.rds hO2 1 E) E E fun _ a1 _ hx2 hr1 _ hA2 hb496 => ?_)))
      obtain rfl := hr1
      refine Q0 0 E (So E (O_store (vs := [.int .i64 r2.Secs, .int .i64 r2.Meters]) E E E E E E ?_))
      rw [← Addr.add_zero' ((a1.add (v1.toNat * 2)))]
      refine Own.store (r := r_api_Leg) (x' := r2) (o := 0) (sz := 2) 1 rfl hO2 hA2 hx2 rfl rfl (by rintro _ rfl; rfl) fun ch3 hO3 => ?_
      rw [← length_setI out1 v1 r2] at hO3 ⊢
      refine Q0 6 E ?_
      cases hb496
      exact Ce E ⟨_, rfl, A3, c3, ch3, fE E, sE [some 0, some 1] 2 E, (hO3), rfl⟩
    refine G2 2 [] [23] [] E ?_
    cases hb496
    have hq_ := hq496 _ E
    subst hq_
    exact Ce E ⟨_, A3, c3, ch2, rfl, fE E, sE [some 0, some 1] 2 E, (hO2), rfl⟩
  rintro _ _ _ _ h _ ⟨out2, A4, c4, ch4, rfl, hF487, hS487, hO4, rfl⟩
  refine Atn 2 hF487 hS487 E E (G0 5 E (IxA h (Own.rds hO4 1 E) E E fun _ a2 _ hx3 hr2 _ hA3 h => ?_))
  obtain rfl := hr2
  refine Q0 0 E (So E (O_store (vs := [.int .i64 0, .int .i64 0]) E E E E E E ?_))
  rw [← Addr.add_zero' ((a2.add (f_from1.toNat * 2)))]
  refine Own.store (r := r_api_Leg) (x' := (T_api_Leg.mk 0 0)) (o := 0) (sz := 2) 1 rfl hO4 hA3 hx3 rfl rfl (by rintro _ rfl; rfl) fun ch5 hO5 => ?_
  rw [← length_setI out2 f_from1 (T_api_Leg.mk 0 0)] at hO5 ⊢
  refine Q0 3 E (Cl E ?_)
  obtain ⟨_, hx4, h⟩ := obind h
  refine pqueue_New_stop_c77_fn  hx4 (fun pv1 _ hP1 => Q0 7 E (Cl E ?_))
  obtain ⟨_, hx5, h⟩ := obind h
  refine pqueue_Queue_stop_Push_fn hP1 hx5 (fun so2 hP2 => Q0 1 E ?_)
  refine Cut h (fun _ _ _ _ _ _ => False) ?_ ?_
  · intro _ h1116 h
    refine Lp h1116 (fun f l (j_ : (List T_api_Leg) × T_pqueue_Queue_stop) f_ μ_ l_ => ounP j_ fun out3 q1 => ∃ (A5 : Option Addr) (c5 : Nat) (ch6 : Seg) (so3 : Seg), SubFr ((7, .slice A5 out3.length c5) :: keepF [2, 3, 9] f) f_ ∧ SegSub ([(g1, .cells #[.int .i64 r1.Nodes, .slice A1 r1.Edges.length c1] 24 (0, 0))] :: ch6 :: so3 :: selS [] 3 l) l_ ∧ Own r_api_Leg 51 μ_ (.slice A5 out3.length c5) out3 ch6 ∧ Obj_pqueue_Queue_stop μ_ pv1 q1 so3 ∧ μ = μ_) ⟨A4, c4, ch5, so2, fE E, sE [some 1, some 2, some 0] 3 E, (hO5), (hP2), E⟩ ?_
    rintro ⟨out3, q1⟩ _ _ _ _ _ ⟨A5, c5, ch6, so3, hF1604, hS1604, hO6, hP3, rfl⟩ hb1604 hq1604
    unfold road_spread_c74_l3 at hb1604
    replace hb1604 := oun_mk hb1604
    refine Atn 3 hF1604 hS1604 E E (G0 4 E (Cl E (Fn.gp [[2], [0], [1]] 3 3 E ?_)))
    obtain ⟨⟨r5, _, _⟩, hx6, hb1604⟩ := obind hb1604
    replace hb1604 := oun_mk hb1604
    replace hb1604 := oun_mk hb1604
    refine pqueue_Queue_stop_Pop_fn hP3 hx6 (fun so4 hP4 => Q0 3 E (Al E fun g2 => Q1 9 [0] E ?_))
    refine Br hb1604 45 E E (fun hc4 hb1604 => ?_) (fun hc4 hb1604 => ?_)
    · refine G2 6 [45] [] [] E ?_
      cases hb1604
      have hq_ := hq1604 _ E
      subst hq_
      cases h
      exact Rt [] E E (Ug [[3]] 4 (hR A5 c5 ch6 hO6))
    refine G2 4 [] [45] [] E (Dr _ Kept.refl [(true, 0), (true, 1), (true, 2), (true, 3), (true, 4), (true, 5), (true, 6), (true, 7)] (by kernel_rfl) (G1 3 [0] E (Ix hb1604 (Own.rds (L := ([(g2, .cells #[.int .i64 r5.node, .int .i64 r5.leg.Secs, .int .i64 r5.leg.Meters] 129 (0, 0))] :: so4 :: [(g1, .cells #[.int .i64 r1.Nodes, .slice A1 r1.Edges.length c1] 24 (0, 0))] :: ch6 :: L)) hO6 3 E) E E fun x3 _ _ _ hr3 hc5 _ hb1604 => ?_)))
    obtain rfl := hr3
    refine Q3 3 [] [] [64, 0] (Z1 hc5) E (Rdo E E (R_agg E E (Ex.mk _ (neRun_T_api_Leg x3 r5.leg) (Q0 1 E ?_))))
    refine Br hb1604 54 E E (fun hc6 hb1604 => ?_) (fun hc6 hb1604 => ?_)
    · refine G2 2 [54] [] [] E ?_
      cases hb1604
      exact Ce E ⟨_, rfl, A5, c5, ch6, so4, fE E, sE [some 2, some 3, some 1] 4 E, (hO6), (hP4), rfl⟩
    refine G2 9 [] [54] [2] E ?_
    refine Cut hb1604 (fun f l o_ f_ μ_ l_ => ∃ (out6 : (List T_api_Leg)) (q4 : T_pqueue_Queue_stop) (A8 : Option Addr) (c8 : Nat) (ch10 : Seg) (so8 : Seg), (out6, q4) = o_ ∧ SubFr ((7, .slice A8 out6.length c8) :: keepF [2, 3, 9] f) f_ ∧ SegSub ([(g1, .cells #[.int .i64 r1.Nodes, .slice A1 r1.Edges.length c1] 24 (0, 0))] :: ch10 :: so8 :: selS [] 4 l) l_ ∧ Own r_api_Leg 51 μ_ (.slice A8 out6.length c8) out6 ch10 ∧ Obj_pqueue_Queue_stop μ_ pv1 q4 so8 ∧ μ = μ_) ?_ ?_
    · intro _ h1621 hb1604
      refine Lp h1621 (fun f l (j_ : (List T_api_Leg) × T_pqueue_Queue_stop × Int) f_ μ_ l_ => ounP j_ fun out4 j_ => ounP j_ fun q2 v2 => ∃ (A6 : Option Addr) (c6 : Nat) (ch7 : Seg) (so5 : Seg), SubFr ((7, .slice A6 out4.length c6) :: (58, .int .i64 v2) :: keepF [2, 3, 9, 10, 56, 57] f) f_ ∧ SegSub ([(g1, .cells #[.int .i64 r1.Nodes, .slice A1 r1.Edges.length c1] 24 (0, 0))] :: ch7 :: so5 :: selS [some 0] 4 l) l_ ∧ Own r_api_Leg 51 μ_ (.slice A6 out4.length c6) out4 ch7 ∧ Obj_pqueue_Queue_stop μ_ pv1 q2 so5 ∧ μ = μ_) ⟨A5, c5, ch6, so4, fE E, sE [some 2, some 3, some 1, some 0] 4 E, (hO6), (hP4), E⟩ ?_
      rintro ⟨out4, q2, v2⟩ _ _ _ _ _ ⟨A6, c6, ch7, so5, hF1672, hS1672, hO7, hP5, rfl⟩ hb1672 hq1672
      unfold road_spread_c74_l2 at hb1672
      replace hb1672 := oun_mk hb1672
      replace hb1672 := oun_mk hb1672
      refine Atn 4 hF1672 hS1672 E E (G0 5 E ?_)
      refine Br hb1672 59 E E (fun hc7 hb1672 => ?_) (fun hc7 hb1672 => ?_)
      · refine G2 3 [59] [] [] E ?_
        refine Cut hb1672 (fun f l o_ f_ μ_ l_ => ∃ (out5 : (List T_api_Leg)) (q3 : T_pqueue_Queue_stop) (A7 : Option Addr) (c7 : Nat) (ch9 : Seg) (so7 : Seg), (out5, q3) = o_ ∧ SubFr ((7, .slice A7 out5.length c7) :: keepF [2, 3, 9, 10, 56, 57, 58] f) f_ ∧ SegSub ([(g1, .cells #[.int .i64 r1.Nodes, .slice A1 r1.Edges.length c1] 24 (0, 0))] :: ch9 :: so7 :: selS [] 3 l) l_ ∧ Own r_api_Leg 51 μ_ (.slice A7 out5.length c7) out5 ch9 ∧ Obj_pqueue_Queue_stop μ_ pv1 q3 so7 ∧ μ = μ_) ?_ ?_
        · intro _ h1682 hb1672
          refine G0 3 E (Ix h1682 (ArrR.rds hA1 L) E E fun x4 _ _ _ hr4 hc8 _ h1682 => ?_)
          obtain rfl := hr4
          refine Q3 1 [] [] [64] (Z1 (hc8.push.push.push.push)) E (Al E fun g3 => Q1 6 [0, 0] E (Cl E ?_))
          obtain ⟨⟨_, r9⟩, hx9, h1682⟩ := obind h1682
          replace h1682 := oun_mk h1682
          refine road_forward_fn  hx9 ((Q1 14 [4] E ?_))
          refine Br h1682 71 E E (fun hc9 h1682 => ?_) (fun hc9 h1682 => ?_)
          · refine G2 2 [71] [] [] E ?_
            cases h1682
            exact Ce E ⟨_, _, A6, c6, ch7, so5, rfl, fE E, sE [some 1, some 2, some 3, some 4] 5 E, (hO7), (hP5), rfl⟩
          refine G2 7 [] [71] [4, 0] E (Cl E ?_)
          obtain ⟨r10, hx10, h1682⟩ := obind h1682
          refine road_after_fn  hx10 ((Q0 0 E (Al E fun g4 => Q1 3 [0] E (Dr _ Kept.refl [(true, 0), (true, 1), (true, 2), (true, 3), (true, 4), (false, 5)] (by kernel_rfl) (G1 3 [0] E (Ix h1682 (Own.rds (L := ([(g4, .cells #[.int .i64 r10.Secs, .int .i64 r10.Meters] 51 (0, 0))] :: [(g3, .cells #[.int .i64 x4.From, .int .i64 x4.To, .int .i64 x4.Meters, .int .i64 x4.Secs] 86 (0, 0))] :: [(g1, .cells #[.int .i64 r1.Nodes, .slice A1 r1.Edges.length c1] 24 (0, 0))] :: ch7 :: so5 :: [(g2, .cells #[.int .i64 r5.node, .int .i64 r5.leg.Secs, .int .i64 r5.leg.Meters] 129 (0, 0))] :: L)) hO7 3 E) E E fun _ _ _ _ hr5 hc10 _ h1682 => ?_))))))
          obtain rfl := hr5
          refine Q3 1 [] [] [64] (Z1 hc10) E (Cl E ?_)
          obtain ⟨_, hx12, h1682⟩ := obind h1682
          refine road_better_fn  hx12 (?_)
          refine ⟨Kept.refl, ?_⟩
          refine Q0 1 E ?_
          refine Br h1682 81 E E (fun hc11 h1682 => ?_) (fun hc11 h1682 => ?_)
          · refine G2 6 [81] [] [0] E (IxA h1682 (Own.rds hO7 3 E) E E fun _ a6 _ hx13 hr6 _ hA7 h1682 => ?_)
            obtain rfl := hr6
            refine Q0 0 E (So E (O_store (vs := [.int .i64 r10.Secs, .int .i64 r10.Meters]) E E E E E E ?_))
            rw [← Addr.add_zero' ((a6.add (r9.toNat * 2)))]
            refine Own.store (r := r_api_Leg) (x' := r10) (o := 0) (sz := 2) 3 rfl hO7 hA7 hx13 rfl rfl (by rintro _ rfl; rfl) fun ch8 hO8 => ?_
            rw [← length_setI out4 r9 r10] at hO8 ⊢
            refine Q1 6 [0] E (Cl E (Fn.gp [[4], [0], [1], [2], [3], [5]] 6 6 E ?_))
            obtain ⟨_, hx14, h1682⟩ := obind h1682
            refine pqueue_Queue_stop_Push_fn hP5 hx14 (fun so6 hP6 => Q0 2 E ?_)
            cases h1682
            exact Ce E ⟨_, _, A6, c6, ch8, so6, rfl, fE E, sE [some 3, some 4, some 0, some 5] 6 E, (hO8), (hP6), rfl⟩
          refine G2 3 [] [81] [] E ?_
          cases h1682
          exact Ce E ⟨_, _, A6, c6, ch7, so5, rfl, fE E, sE [some 2, some 3, some 4, some 5] 6 E, (hO7), (hP5), rfl⟩
        rintro _ _ _ _ hb1672 _ ⟨out5, q3, A7, c7, ch9, so7, rfl, hF1682, hS1682, hO9, hP7, rfl⟩
        replace hb1672 := oun_mk hb1672
        refine Atn 4 hF1682 hS1682 E E (G0 4 E ?_)
        cases hb1672
        exact Ce E ⟨_, rfl, A7, c7, ch9, so7, fE E, sE [some 0, some 1, some 2, some 3] 4 E, (hO9), (hP7), rfl⟩
      refine G2 2 [] [59] [] E ?_
      cases hb1672
      have hq_ := hq1672 _ E
      subst hq_
      exact Ce E ⟨_, _, A6, c6, ch7, so5, rfl, fE E, sE [some 0, some 1, some 2] 4 E, (hO7), (hP5), rfl⟩
    rintro _ _ _ _ hb1604 _ ⟨out6, q4, A8, c8, ch10, so8, rfl, hF1621, hS1621, hO10, hP8, rfl⟩
    replace hb1604 := oun_mk hb1604
    refine G0 1 E ?_
    cases hb1604
    exact Ce E ⟨_, rfl, A8, c8, ch10, so8, hF1621.tr E, hS1621.tr (sE [some 0, some 1, some 2] 3 E), (hO10), (hP8), rfl⟩
  exact fun _ _ _ _ _ _ hf_ => hf_.elim

theorem road_Legs_fn {F : Nat} {r1 : T_api_Road} {f_from1 : Int} {A1 : Option Addr} {c1 : Nat} {res1 : (List T_api_Leg)} {res2 : Int}
    (hl1 : r1.Edges.length ≤ c1 ∧ c1 ≤ maxLen) (hA1 : ArrR r_api_Edge μ A1 r1.Edges) (h : road_Legs F r1 f_from1 = some (res1, res2))
    (hR : ∀ (μ' : Gh) (A0 : Option Addr) (c0 : Nat) (ch0 : Seg), μ.le μ' → Own r_api_Leg 51 μ' (.slice A0 res1.length c0) res1 ch0 → R (.tuple #[.slice A0 res1.length c0, .int .i64 res2]) μ' (ch0 :: L)) :
    Fn Try.prog 72 [.agg #[.int .i64 r1.Nodes, .slice A1 r1.Edges.length c1], .int .i64 f_from1] μ (L) R := by
  unfold road_Legs at h
  refine FnS Try.func72 (by kernel_rfl) E Try.ntmps72 E E ?_
  refine G0 2 E (Al E fun _ => Q1 7 [0] E (Cl E ?_))
  obtain ⟨_, hx1, h⟩ := obind h
  refine road_Check_fn hl1 hA1 hx1 (fun _ hm_1 => ?_)
  replace hA1 := hA1.mono hm_1
  refine Q0 7 E ?_
  refine Br h 10 E E (fun hc1 h => ?_) (fun hc1 h => ?_)
  · refine G2 7 [10] [] [] E ?_
    cases h
    exact Rt [] E E (Ug [[]] 1 (hR _ none 0 [] hm_1 Own.nil))
  refine G2 4 [] [10] [] E ?_
  refine Cut h (fun f l o_ f_ μ_ l_ => ∃ (v2 : Bool), v2 = o_ ∧ SubFr ((19, .bool v2) :: keepF [1, 2] f) f_ ∧ SegSub l l_) ?_ ?_
  · intro _ h1736 h
    refine G0 4 E ?_
    refine Br h1736 14 E E (fun hc2 h1736 => ?_) (fun hc2 h1736 => ?_)
    · refine G2 6 [14] [] [] E ?_
      cases h1736
      exact Ce E ⟨_, rfl, fE E, sE [some 0] 1 E⟩
    refine G2 6 [] [14] [0] E ?_
    cases h1736
    exact Ce E ⟨_, rfl, fE E, sE [some 0] 1 E⟩
  rintro _ _ _ _ h hm1736 ⟨v2, rfl, hF1736, hS1736⟩
  replace hA1 := hA1.mono hm1736
  refine Atn 1 hF1736 hS1736 E E ?_
  refine Br h 19 E E (fun hc3 h => ?_) (fun hc3 h => ?_)
  · refine G2 6 [19] [] [] E ?_
    cases h
    exact Rt [] E E (Ug [[]] 1 (hR _ none 0 [] (hm_1.trans hm1736) Own.nil))
  refine G2 6 [] [19] [0] E (Cl E ?_)
  obtain ⟨_, hx2, h⟩ := obind h
  refine road_spread_c74_fn hl1 hA1 hx2 (fun A2 c2 ch1 hO1 => Q0 3 E ?_)
  cases h
  exact Rt [] E E (Ug [[0]] 2 (hR _ A2 c2 ch1 (hm_1.trans hm1736) hO1))

theorem tour_walk_leg_fn {F : Nat} {w1 : T_tour_walk} {f_to1 : Int} {pv1 : Value} {so1 : Seg} {res1 : T_api_Leg} {res2 : Bool} {res3 : T_tour_walk}
    (hP1 : Obj_tour_walk μ pv1 w1 so1) (h : tour_walk_leg F w1 f_to1 = some (res1, res2, res3))
    (hR : ∀ (μ' : Gh) (sp0 : Seg), μ.le μ' → Obj_tour_walk μ' pv1 res3 sp0 → R (.tuple #[.agg #[.int .i64 res1.Secs, .int .i64 res1.Meters], .bool res2]) μ' (sp0 :: L)) :
    Fn Try.prog 64 [pv1, .int .i64 f_to1] μ (so1 :: L) R := by
  unfold tour_walk_leg at h
  refine FnS Try.func64 (by kernel_rfl) E Try.ntmps64 E E ?_
  refine G0 2 E (Al E fun g1 => ?_)
  obtain ⟨g2, A1, c1, A2, c2, A3, c3, g3, es1, cn1, A4, c4, ch1, hv1, rfl, ⟨hl1, hA1⟩, ⟨hl2, hA2⟩, ⟨hl3, hA3⟩, hM1, hO1⟩ := hP1
  subst hv1
  refine Q0 3 E (In Obj_tour_walk.fl 1 4 E E E (Dr _ Kept.refl [(true, 0), (true, 1), (true, 2), (true, 3), (true, 4), (true, 5), (true, 6), (true, 7), (true, 8), (true, 9), (true, 10), (true, 11), (true, 12), (true, 13), (true, 14)] (by kernel_rfl) (G1 9 [1, 1] E (Rdo E E ?_))))
  obtain ⟨A5, c5, hx1, hl4, hA4⟩ := MapF.look (L := ([(g1, .cells #[.int .i64 0, .int .i64 0] 51 (0, 0))] :: [(g2, .cells #[.int .i64 w1.place.node, .int .i64 w1.place.time, .int .i64 w1.place.load, .int .i64 w1.place.meters, .int .i64 w1.p.Road.Nodes, .slice A1 w1.p.Road.Edges.length c1, .slice A2 w1.p.Vehicles.length c2, .slice A3 w1.p.Demands.length c3, .int .i64 w1.p.Unload, .int .i64 w1.p.UnloadSecs, .string w1.v.ID, .int .i64 w1.v.Depot, .int .i64 w1.v.Shift.From, .int .i64 w1.v.Shift.To, .int .i64 w1.v.Grams, .int .i64 w1.v.Kinds, .map (some g3), .slice A4 w1.visits.length c4] 73 (0, 0))] :: [(g3, .map es1 cn1)] :: ch1 :: L)) (g := g3) hM1 (ObjAt.seg 2 0 rfl rfl) w1.place.node
  refine R_look E E E E E E E E (Ex.mk _ hx1 (Q0 12 E ?_))
  refine Cut h (fun f l o_ f_ μ_ l_ => ∃ (l1 : (List T_api_Leg)) (m1 : (List (Int × (List T_api_Leg)))) (A7 : Option Addr) (c7 : Nat) (es3 : Array MapEntry) (cn3 : Nat), (l1, m1) = o_ ∧ SubFr ((6, .slice A7 l1.length c7) :: keepF [1, 4] f) f_ ∧ SegSub ([(g1, .cells #[.int .i64 0, .int .i64 0] 51 (0, 0))] :: [(g2, .cells #[.int .i64 w1.place.node, .int .i64 w1.place.time, .int .i64 w1.place.load, .int .i64 w1.place.meters, .int .i64 w1.p.Road.Nodes, .slice A1 w1.p.Road.Edges.length c1, .slice A2 w1.p.Vehicles.length c2, .slice A3 w1.p.Demands.length c3, .int .i64 w1.p.Unload, .int .i64 w1.p.UnloadSecs, .string w1.v.ID, .int .i64 w1.v.Depot, .int .i64 w1.v.Shift.From, .int .i64 w1.v.Shift.To, .int .i64 w1.v.Grams, .int .i64 w1.v.Kinds, .map (some g3), .slice A4 w1.visits.length c4] 73 (0, 0))] :: [(g3, .map es3 cn3)] :: selS [] 3 l) l_ ∧ (l1.length ≤ c7 ∧ c7 ≤ maxLen) ∧ ArrR r_api_Leg μ_ A7 l1 ∧ MapF r_api_Leg μ_ es3 cn3 m1) ?_ ?_
  · intro _ h1824 h
    refine Br h1824 22 E E (fun hc1 h1824 => ?_) (fun hc1 h1824 => ?_)
    · refine G2 2 [22] [] [] E (Dr _ Kept.refl [(true, 0), (true, 1), (true, 2), (true, 3), (true, 4), (true, 5), (true, 6), (true, 7), (true, 8), (true, 9), (false, 10), (true, 11), (true, 12), (true, 13), (true, 14)] (by kernel_rfl) (G1 10 [1, 1] E (Cl E ?_)))
      obtain ⟨⟨_, _⟩, hx2, h1824⟩ := obind h1824
      replace h1824 := oun_mk h1824
      refine road_Legs_fn hl1 hA1 hx2 (fun _ A6 c6 _ hm_1 hO2 => ?_)
      replace hA1 := hA1.mono hm_1
      replace hA2 := hA2.mono hm_1
      replace hA3 := hA3.mono hm_1
      replace hM1 := hM1.mono hm_1
      replace hO1 := hO1.mono hm_1
      replace hA4 := hA4.mono hm_1
      refine ⟨Kept.more (Kept.refl), ?_⟩
      refine Q0 5 E (Drk [0, 3] 3 E [(true, 0), (true, 1), (true, 2), (true, 3), (true, 4), (true, 5), (true, 6), (true, 7), (true, 8), (true, 9), (false, 10)] (by kernel_rfl) (G1 10 [1, 1] E (So E (O_mapUpdate E E E ?_))))
      have hl5 := Own.lenOk hO2
      refine SemU.pre (Upd.frzOwn 0 E hO2 fun _ hm_2 hA5 => Upd.done ?_)
      replace hA1 := hA1.mono hm_2
      replace hA2 := hA2.mono hm_2
      replace hA3 := hA3.mono hm_2
      replace hM1 := hM1.mono hm_2
      replace hO1 := hO1.mono hm_2
      replace hA4 := hA4.mono hm_2
      refine semu_mapF Tt_ok E E E E 3 E hM1 E hl5 hA5 fun es2 cn2 hM2 => ?_
      refine ⟨Kp [1, 2, 4] 5 E, ?_⟩
      refine Q0 1 E ?_
      cases h1824
      exact Ce E ⟨_, _, A6, c6, es2, cn2, rfl, fE E, sE [some 1, some 2, some 3, some 4] 5 E, (hl5), (hA5), (hM2)⟩
    refine G2 2 [] [22] [] E ?_
    cases h1824
    exact Ce E ⟨_, _, A5, c5, es1, cn1, rfl, fE E, sE [some 0, some 1, some 2, some 3] 4 E, (hl4), (hA4), (hM1)⟩
  rintro _ _ _ _ h hm1824 ⟨l1, m1, A7, c7, es3, cn3, rfl, hF1824, hS1824, _, hA6, hM3⟩
  replace h := oun_mk h
  replace hA1 := hA1.mono hm1824
  replace hA2 := hA2.mono hm1824
  replace hA3 := hA3.mono hm1824
  replace hO1 := hO1.mono hm1824
  refine Atn 4 hF1824 hS1824 E E (G0 1 E (Drk [0] 3 E [(true, 0), (true, 1), (true, 2), (true, 3), (true, 4), (true, 5), (true, 6), (true, 7), (true, 8), (true, 9), (false, 10), (true, 11)] (by kernel_rfl) (G0 2 E (Ix h (ArrR.rds hA6 L) E E fun x1 _ _ _ hr1 hc2 _ h => ?_))))
  obtain rfl := hr1
  refine Q3 3 [] [] [64] (Z1 (hc2.push.push.push)) E (Ix h (ArrR.rds hA6 L) E E fun _ _ _ _ hr2 hc3 _ h => ?_)
  obtain rfl := hr2
  refine Q3 3 [] [] [64] (Z1 (hc3.push.push.push)) E (So E (O_store (vs := [.int .i64 x1.Secs, .int .i64 x1.Meters]) E E E E E E (ST_ (L' := ([(g1, .cells #[.int .i64 x1.Secs, .int .i64 x1.Meters] 51 (0, 0))] :: [(g2, .cells #[.int .i64 w1.place.node, .int .i64 w1.place.time, .int .i64 w1.place.load, .int .i64 w1.place.meters, .int .i64 w1.p.Road.Nodes, .slice A1 w1.p.Road.Edges.length c1, .slice A2 w1.p.Vehicles.length c2, .slice A3 w1.p.Demands.length c3, .int .i64 w1.p.Unload, .int .i64 w1.p.UnloadSecs, .string w1.v.ID, .int .i64 w1.v.Depot, .int .i64 w1.v.Shift.From, .int .i64 w1.v.Shift.To, .int .i64 w1.v.Grams, .int .i64 w1.v.Kinds, .map (some g3), .slice A4 w1.visits.length c4] 73 (0, 0))] :: [(g3, .map es3 cn3)] :: ch1 :: L)) 0 0 E E E E ?_)))
  refine ⟨Kp [1, 2, 3] 4 E, ?_⟩
  refine Q0 2 E ?_
  cases h
  exact Rt [0] E E (Ug [[1, 2, 3]] 4 (hR _ _ hm1824 ⟨g2, A1, c1, A2, c2, A3, c3, g3, es3, cn3, A4, c4, ch1, rfl, rfl, ⟨hl1, hA1⟩, ⟨hl2, hA2⟩, ⟨hl3, hA3⟩, hM3, hO1⟩))

theorem tour_walk_note_fn  {w1 : T_tour_walk} {stop1 : Int} {arrive1 : Int} {start1 : Int} {pv1 : Value} {so1 : Seg} {res1 : T_tour_walk}
    (hP1 : Obj_tour_walk μ pv1 w1 so1) (h : tour_walk_note w1 stop1 arrive1 start1 = some res1)
    (hR : ∀ (sp0 : Seg), Obj_tour_walk μ pv1 res1 sp0 → R (.tuple #[]) μ (sp0 :: L)) :
    Fn Try.prog 66 [pv1, .int .i64 stop1, .int .i64 arrive1, .int .i64 start1] μ (so1 :: L) R := by
  unfold tour_walk_note at h
  refine FnS Try.func66 (by kernel_rfl) E Try.ntmps66 E E ?_
  obtain ⟨g1, A1, c1, A2, c2, A3, c3, g2, es1, cn1, A4, c4, _, hv1, rfl, ⟨hl1, hA1⟩, ⟨hl2, hA2⟩, ⟨hl3, hA3⟩, hM1, hO1⟩ := hP1
  subst hv1
  refine In Obj_tour_walk.fl 0 3 E E E (Cd (WP.drawB (id := 0) (l' := List.replicate 28 true ++ [false]) wide Tt_ok ([(g1, .cells #[.int .i64 w1.place.node, .int .i64 w1.place.time, .int .i64 w1.place.load, .int .i64 w1.place.meters, .int .i64 w1.p.Road.Nodes, .slice A1 w1.p.Road.Edges.length c1, .slice A2 w1.p.Vehicles.length c2, .slice A3 w1.p.Demands.length c3, .int .i64 w1.p.Unload, .int .i64 w1.p.UnloadSecs, .string w1.v.ID, .int .i64 w1.v.Depot, .int .i64 w1.v.Shift.From, .int .i64 w1.v.Shift.To, .int .i64 w1.v.Grams, .int .i64 w1.v.Kinds, .map (some g2), .slice A4 w1.visits.length c4] 73 (0, 0))] :: [(g2, .map es1 cn1)] :: L) (Kp [0, 1] 3 E) 28 [(26, [27])] [(true, 0), (true, 1), (true, 2), (true, 3), (true, 4), (true, 5), (true, 6), (true, 7), (true, 8), (true, 9), (true, 10), (true, 11), (true, 12), (true, 13), (true, 14), (true, 15), (true, 16), (true, 17), (true, 18), (true, 19), (true, 20), (true, 21), (true, 22), (true, 23), (false, 24), (false, 25), (true, 26), (true, 27)] (by kernel_rfl) (by kernel_rfl) E (by kernel_rfl) (by kernel_rfl) ?_))
  refine PL_t E (R_move E (Pt E E (R_move E (Pt E E (R_nilP E (Pt E E (R_fa0 (o' := 17) E E E E E E (Pt E E (R_load E E E (Ex.mk _ (Cell.seg 0 0 E E E) (Pt E E (R_move E ?_))))))))))))
  refine Pt E E (R_move E (Pt E E (R_nilP E (Pt E E (R_fa0 (o' := 0) E E E E E E (Pt E E (R_fa0 (o' := 0) E E E E E E (Pt E E (R_load E E E (Ex.mk _ (Cell.seg 0 0 E E E) (Pt E E ?_)))))))))))
  refine R_move E (Pt E E (R_move E (Pt E E (R_move E (Pt E E (R_nilP E (Pt E E (R_fa0 (o' := 0) E E E E E E (Pt E E (R_fa0 (o' := 1) E E E E E E (Pt E E ?_)))))))))))
  refine R_load E E E (Ex.mk _ (Cell.seg 0 0 E E E) (Pt E E (R_move E (Pt E E (R_nilP E (Pt E E (R_fa0 (o' := 0) E E E E E E (Pt E E (R_fa0 (o' := 2) E E E E E E (Pt E E (R_load E E E (Ex.mk _ (Cell.seg 0 0 E E E) ?_))))))))))))
  refine Pt E E (R_build E E E E (F_cons (cells' := [.int .i64 stop1, .int .i64 0, .int .i64 0, .int .i64 0, .int .i64 0, .int .i64 0]) E E E E (F_cons (cells' := [.int .i64 stop1, .int .i64 w1.place.node, .int .i64 0, .int .i64 0, .int .i64 0, .int .i64 0]) E E E E (F_cons (cells' := [.int .i64 stop1, .int .i64 w1.place.node, .int .i64 arrive1, .int .i64 0, .int .i64 0, .int .i64 0]) E E E E (F_cons (cells' := [.int .i64 stop1, .int .i64 w1.place.node, .int .i64 arrive1, .int .i64 start1, .int .i64 0, .int .i64 0]) E E E E (F_cons (cells' := [.int .i64 stop1, .int .i64 w1.place.node, .int .i64 arrive1, .int .i64 start1, .int .i64 w1.place.time, .int .i64 0]) E E E E (F_cons (cells' := [.int .i64 stop1, .int .i64 w1.place.node, .int .i64 arrive1, .int .i64 start1, .int .i64 w1.place.time, .int .i64 w1.place.load]) E E E E ?_)))))))
  refine F_nil (P_some E (PL_f E (O_bsl (z := [.int .i64 0, .int .i64 0, .int .i64 0, .int .i64 0, .int .i64 0, .int .i64 0]) E E E E E E E (F_cons (cells' := [.int .i64 stop1, .int .i64 w1.place.node, .int .i64 arrive1, .int .i64 start1, .int .i64 w1.place.time, .int .i64 w1.place.load]) E E E E (F_nil (fun g3 => ?_))))))
  refine ⟨Kp [1, 2] 4 E, ?_⟩
  refine P_some E (PL_f E (O_append E ?_))
  obtain ⟨l1, hz1, h⟩ := obind h
  refine sem_appR (r := r_api_Visit) Tt_ok E E E E (by decide) E E 3 E hO1 E (Own.rds (Own.lit (r := r_api_Visit) (e := 48) (g := g3) (xs := [(T_api_Visit.mk stop1 w1.place.node arrive1 start1 w1.place.time w1.place.load)]) (cs := [.int .i64 stop1, .int .i64 w1.place.node, .int .i64 arrive1, .int .i64 start1, .int .i64 w1.place.time, .int .i64 w1.place.load]) (css := [[.int .i64 stop1, .int .i64 w1.place.node, .int .i64 arrive1, .int .i64 start1, .int .i64 w1.place.time, .int .i64 w1.place.load]]) E (All2.cons (E) (All2.nil)) E E) 0 E) hz1 fun A5 c5 ch2 hO2 => ?_
  refine ⟨Kp [1, 2] 4 E, ?_⟩
  refine Pt E E (R_nilP E (Pt E E (R_fa0 (o' := 17) E E E E E E (P_some E (PL_nil (last_ E (O_store (vs := [.slice A5 l1.length c5]) E E E E E E (ST_ (L' := ([(g3, .cells #[.int .i64 stop1, .int .i64 w1.place.node, .int .i64 arrive1, .int .i64 start1, .int .i64 w1.place.time, .int .i64 w1.place.load] 48 (0, 0))] :: [(g1, .cells #[.int .i64 w1.place.node, .int .i64 w1.place.time, .int .i64 w1.place.load, .int .i64 w1.place.meters, .int .i64 w1.p.Road.Nodes, .slice A1 w1.p.Road.Edges.length c1, .slice A2 w1.p.Vehicles.length c2, .slice A3 w1.p.Demands.length c3, .int .i64 w1.p.Unload, .int .i64 w1.p.UnloadSecs, .string w1.v.ID, .int .i64 w1.v.Depot, .int .i64 w1.v.Shift.From, .int .i64 w1.v.Shift.To, .int .i64 w1.v.Grams, .int .i64 w1.v.Kinds, .map (some g2), .slice A5 l1.length c5] 73 (0, 0))] :: [(g2, .map es1 cn1)] :: ch2 :: L)) 1 0 E E E E ?_))))))))
  apply P_none
  cases h
  exact Rt [] E E (Ug [[1, 2, 3]] 4 (hR _ ⟨g1, A1, c1, A2, c2, A3, c3, g2, es1, cn1, A5, c5, ch2, rfl, rfl, ⟨hl1, hA1⟩, ⟨hl2, hA2⟩, ⟨hl3, hA3⟩, hM1, hO2⟩))

theorem tour_walk_serve_fn {F : Nat} {w1 : T_tour_walk} {t1 : T_api_Tour} {i1 : Int} {pv1 : Value} {so1 : Seg} {A1 : Option Addr} {c1 : Nat} {res1 : Int} {res2 : T_tour_walk}
    (hP1 : Obj_tour_walk μ pv1 w1 so1) (hl1 : t1.Stops.length ≤ c1 ∧ c1 ≤ maxLen) (hA1 : ArrR rInt μ A1 t1.Stops) (h : tour_walk_serve F w1 t1 i1 = some (res1, res2))
    (hR : ∀ (μ' : Gh) (sp0 : Seg), μ.le μ' → Obj_tour_walk μ' pv1 res2 sp0 → R (.int .i64 res1) μ' (sp0 :: L)) :
    Fn Try.prog 48 [pv1, .agg #[.int .i64 t1.Vehicle, .slice A1 t1.Stops.length c1], .int .i64 i1] μ (so1 :: L) R := by
  unfold tour_walk_serve at h
  refine FnS Try.func48 (by kernel_rfl) E Try.ntmps48 E E ?_
  refine G0 2 E (Al E fun _ => Q1 7 [0] E (Ix h (ArrR.rds hA1 L) E E fun _ _ _ _ hr1 hc1 _ h => ?_))
  obtain rfl := hr1
  obtain ⟨g2, A2, c2, A3, c3, A4, c4, g3, es1, cn1, A5, c5, ch1, hv1, rfl, ⟨hl2, hA3⟩, ⟨hl3, hA4⟩, ⟨hl4, hA5⟩, hM1, hO1⟩ := hP1
  subst hv1
  refine Q3 4 [] [] [64] (Z1 (hc1.push.push)) E (In Obj_tour_walk.fl 1 4 E E E (G1 14 [1] E ?_))
  refine Cut h (fun f l o_ f_ μ_ l_ => ∃ (node1 : Int), (.inl node1) = o_ ∧ SubFr ((8, .int .i64 node1) :: keepF [0, 7] f) f_ ∧ SegSub (selS [] 1 l) l_) ?_ ?_
  · intro _ h2423 h
    refine Br h2423 25 E E (fun hc2 h2423 => ?_) (fun hc2 h2423 => ?_)
    · refine G2 3 [25] [] [] E ?_
      refine Cut h2423 (fun f l o_ f_ μ_ l_ => ∃ (v1 : Bool), v1 = o_ ∧ SubFr ((37, .bool v1) :: keepF [0, 2, 4, 7] f) f_ ∧ SegSub (selS [some 1, some 2, some 3, some 0] 4 l) l_) ?_ ?_
      · intro _ h2424 h2423
        refine G0 4 E ?_
        refine Br h2424 28 E E (fun hc3 h2424 => ?_) (fun hc3 h2424 => ?_)
        · refine G2 10 [28] [] [] E ?_
          cases h2424
          exact Ce E ⟨_, rfl, fE E, sE [some 1, some 2, some 3, some 0] 4 E⟩
        refine G2 10 [] [28] [1] E ?_
        cases h2424
        exact Ce E ⟨_, rfl, fE E, sE [some 1, some 2, some 3, some 0] 4 E⟩
      rintro _ _ _ _ h2423 hm2424 ⟨v1, rfl, hF2424, hS2424⟩
      replace hA1 := hA1.mono hm2424
      replace hA3 := hA3.mono hm2424
      replace hA4 := hA4.mono hm2424
      replace hA5 := hA5.mono hm2424
      replace hM1 := hM1.mono hm2424
      replace hO1 := hO1.mono hm2424
      refine Atn 4 hF2424 hS2424 E E ?_
      refine Br h2423 37 E E (fun hc4 h2423 => ?_) (fun hc4 h2423 => ?_)
      · refine G2 5 [37] [] [] E ?_
        cases h2423
        replace h := osum_r h
        cases h
        exact Rt [] E E (Ug [[0, 1, 2]] 4 (hR _ _ hm2424 ⟨g2, A2, c2, A3, c3, A4, c4, g3, es1, cn1, A5, c5, ch1, rfl, rfl, ⟨hl2, hA3⟩, ⟨hl3, hA4⟩, ⟨hl4, hA5⟩, hM1, hO1⟩))
      obtain ⟨_, hs1, h2423⟩ := obind h2423
      refine G2 8 [] [37] [3] E (Rdo E E (R_slHiS E E E E E E hl1.1 hs1 ?_))
      have hA6 := ArrR.pre hA1 hs1
      have hl5 := preLen hl1 hs1
      refine Q0 1 E (Cl E ?_)
      obtain ⟨_, hx2, h2423⟩ := obind h2423
      refine slices_Contains_int_fn hl5 (ArrR.rds hA6 _) hx2 ((Q0 1 E ?_))
      refine Br h2423 43 E E (fun hc5 h2423 => ?_) (fun hc5 h2423 => ?_)
      · refine G2 5 [43] [] [] E ?_
        cases h2423
        replace h := osum_r h
        cases h
        exact Rt [] E E (Ug [[0, 1, 2]] 4 (hR _ _ hm2424 ⟨g2, A2, c2, A3, c3, A4, c4, g3, es1, cn1, A5, c5, ch1, rfl, rfl, ⟨hl2, hA3⟩, ⟨hl3, hA4⟩, ⟨hl4, hA5⟩, hM1, hO1⟩))
      refine G2 4 [] [43] [] E (Dr _ Kept.refl [(true, 0), (true, 1), (true, 2), (true, 3), (true, 4), (true, 5), (true, 6), (true, 7), (true, 8), (true, 9), (true, 10), (true, 11), (true, 12), (false, 13), (true, 14)] (by kernel_rfl) (G1 10 [0, 0] E (Ix h2423 (ArrR.rds hA5 L) E E fun _ _ _ _ hr2 hc6 _ h2423 => ?_)))
      obtain rfl := hr2
      refine Q3 2 [] [] [66] (Z1 (hc6.push.push.push.push)) E (Cl E ?_)
      obtain ⟨_, hx4, h2423⟩ := obind h2423
      refine vehicle_Carries_fn  hx4 (?_)
      refine ⟨Kept.refl, ?_⟩
      refine Q0 2 E ?_
      refine Br h2423 58 E E (fun hc7 h2423 => ?_) (fun hc7 h2423 => ?_)
      · refine G2 5 [58] [] [] E ?_
        cases h2423
        replace h := osum_r h
        cases h
        exact Rt [] E E (Ug [[0, 1, 2]] 4 (hR _ _ hm2424 ⟨g2, A2, c2, A3, c3, A4, c4, g3, es1, cn1, A5, c5, ch1, rfl, rfl, ⟨hl2, hA3⟩, ⟨hl3, hA4⟩, ⟨hl4, hA5⟩, hM1, hO1⟩))
      refine G2 9 [] [58] [0] E (Ix h2423 (ArrR.rds hA5 L) E E fun _ _ _ _ hr3 hc8 _ h2423 => ?_)
      obtain rfl := hr3
      refine Q3 4 [] [] [65] (Z1 (hc8.push.push.push.push)) E ?_
      cases h2423
      exact Ce E ⟨_, rfl, fE E, sE [some 0, some 1, some 2] 4 E⟩
    refine G2 2 [] [25] [] E ?_
    cases h2423
    exact Ce E ⟨_, rfl, fE E, sE [some 1, some 2, some 3] 4 E⟩
  rintro _ _ μ2423 _ h hm2423 ⟨node1, rfl, hF2423, hS2423⟩
  replace h := osum_l h
  replace hA3 := hA3.mono hm2423
  replace hA4 := hA4.mono hm2423
  replace hA5 := hA5.mono hm2423
  replace hM1 := hM1.mono hm2423
  replace hO1 := hO1.mono hm2423
  refine Atn 3 hF2423 hS2423 E E (G0 4 E (Cl E ?_))
  have hP2 : Obj_tour_walk μ2423 (.pointer (some ⟨g2, 0, none⟩)) w1 _ := ⟨g2, A2, c2, A3, c3, A4, c4, g3, es1, cn1, A5, c5, ch1, rfl, rfl, ⟨hl2, hA3⟩, ⟨hl3, hA4⟩, ⟨hl4, hA5⟩, hM1, hO1⟩
  refine Fn.gp [[0, 1, 2]] 3 1 E ?_
  obtain ⟨⟨r3, _, r5⟩, hx6, h⟩ := obind h
  replace h := oun_mk h
  replace h := oun_mk h
  refine tour_walk_leg_fn hP2 hx6 (fun v2 _ hm_1 hP3 => ?_)
  refine Q0 3 E (Al E fun g4 => Q1 9 [0] E ?_)
  refine Br h 75 E E (fun hc9 h => ?_) (fun hc9 h => ?_)
  · refine G2 5 [75] [] [] E ?_
    cases h
    exact Rt [] E E (Ug [[1]] 2 (hR _ _ (hm2423.trans hm_1) hP3))
  obtain ⟨_, A6, c6, A7, c7, A8, c8, g6, es2, cn2, A9, c9, ch2, hv2, rfl, ⟨hl6, hA9⟩, ⟨hl7, hA10⟩, ⟨hl8, hA11⟩, hM2, hO2⟩ := hP3
  replace hv2 := ptr_inj hv2
  subst hv2
  refine G2 3 [] [75] [] E (In Obj_tour_walk.fl 1 4 E E E (Drk [1] 3 E [(true, 0), (true, 1), (true, 2), (true, 3), (true, 4), (false, 5)] (by kernel_rfl) (G1 5 [0] E (Cl E (FnS Try.func65 (by kernel_rfl) E Try.ntmps65 E E (G0 2 E (Al E fun g7 => Q1 10 [2] E (Drk [2] 4 E [(true, 0), (true, 1), (true, 2), (true, 4), (true, 5), (false, 3), (true, 6), (true, 7), (true, 8), (false, 9)] (by kernel_rfl) (G1 5 [0] E (So E (O_read E (R_load E E E (Ex.mk _ (Cell.seg 2 0 E E E) ?_)))))))))))))
  refine ⟨Kp [0, 1, 3, 4] 5 E, ?_⟩
  refine Q0 3 E (So E (O_store (vs := [.int .i64 (w64 (r5.place.time + r3.Secs))]) E E E E E E (ST_ (L' := ([(g7, .cells #[.int .i64 r3.Secs, .int .i64 r3.Meters] 51 (0, 0))] :: [(g4, .cells #[.int .i64 r3.Secs, .int .i64 r3.Meters] 51 (0, 0))] :: [(g2, .cells #[.int .i64 node1, .int .i64 (w64 (r5.place.time + r3.Secs)), .int .i64 r5.place.load, .int .i64 r5.place.meters, .int .i64 r5.p.Road.Nodes, .slice A6 r5.p.Road.Edges.length c6, .slice A7 r5.p.Vehicles.length c7, .slice A8 r5.p.Demands.length c8, .int .i64 r5.p.Unload, .int .i64 r5.p.UnloadSecs, .string r5.v.ID, .int .i64 r5.v.Depot, .int .i64 r5.v.Shift.From, .int .i64 r5.v.Shift.To, .int .i64 r5.v.Grams, .int .i64 r5.v.Kinds, .map (some g6), .slice A9 r5.visits.length c9] 73 (0, 0))] :: [(g6, .map es2 cn2)] :: ch2 :: L)) 2 0 E E E E ?_)))
  refine ⟨Kp [0, 1, 3, 4] 5 E, ?_⟩
  refine Q0 1 E (Drk [2] 4 E [(true, 0), (true, 1), (true, 2), (true, 4), (true, 5), (false, 3), (true, 6), (true, 7), (true, 8), (false, 9)] (by kernel_rfl) (G1 5 [0] E (So E (O_read E (R_load E E E (Ex.mk _ (Cell.seg 2 0 E E E) ?_))))))
  refine ⟨Kp [0, 1, 3, 4] 5 E, ?_⟩
  refine Q0 3 E (So E (O_store (vs := [.int .i64 (w64 (r5.place.meters + r3.Meters))]) E E E E E E (ST_ (L' := ([(g7, .cells #[.int .i64 r3.Secs, .int .i64 r3.Meters] 51 (0, 0))] :: [(g4, .cells #[.int .i64 r3.Secs, .int .i64 r3.Meters] 51 (0, 0))] :: [(g2, .cells #[.int .i64 node1, .int .i64 (w64 (r5.place.time + r3.Secs)), .int .i64 r5.place.load, .int .i64 (w64 (r5.place.meters + r3.Meters)), .int .i64 r5.p.Road.Nodes, .slice A6 r5.p.Road.Edges.length c6, .slice A7 r5.p.Vehicles.length c7, .slice A8 r5.p.Demands.length c8, .int .i64 r5.p.Unload, .int .i64 r5.p.UnloadSecs, .string r5.v.ID, .int .i64 r5.v.Depot, .int .i64 r5.v.Shift.From, .int .i64 r5.v.Shift.To, .int .i64 r5.v.Grams, .int .i64 r5.v.Kinds, .map (some g6), .slice A9 r5.visits.length c9] 73 (0, 0))] :: [(g6, .map es2 cn2)] :: ch2 :: L)) 2 0 E E E E ?_)))
  refine ⟨Kp [0, 1, 3, 4] 5 E, ?_⟩
  refine Q0 1 E (Rt [] E E (Upd.done ?_))
  refine ⟨Kp [1, 3, 4] 5 E, ?_⟩
  refine Q1 16 [2] E ?_
  refine Br h 88 E E (fun hc10 h => ?_) (fun hc10 h => ?_)
  · refine G2 2 [88] [] [] E (Cd (WP.drawB (id := 17) (l' := List.replicate 14 true ++ [false]) wide Tt_ok _ Kept.refl 14 [(11, [13, 12]), (12, [13])] [(true, 0), (true, 1), (true, 2), (true, 3), (true, 4), (true, 5), (true, 6), (true, 7), (true, 8), (true, 9), (true, 10), (true, 11), (true, 12), (true, 13)] (by kernel_rfl) (by kernel_rfl) E (by kernel_rfl) (by kernel_rfl) (PL_t E (R_move E (Pt E E (R_nilP E (Pt E E (R_fa0 (o' := 0) E E E E E E (Pt E E (R_fa0 (o' := 1) E E E E E E (Pt E E (R_load E E E (Ex.mk _ (Cell.seg 2 0 E E E) ?_)))))))))))))
    refine Pt E E (R_move E (Pt E E (R_nilP E (Pt E E (R_fa0 (o' := 4) E E E E E E (Pt E E (R_fa0 (o' := 9) E E E E E E (Pt E E (R_load E E E (Ex.mk _ (Cell.seg 2 0 E E E) (Pt E E ?_)))))))))))
    refine R_add E E (Pt E E (R_nilP E (Pt E E (R_fa0 (o' := 0) E E E E E E (Pt E E (R_fa0 (o' := 1) E E E E E E (P_some E (PL_nil (last_ E (O_store (vs := [.int .i64 (w64 ((w64 (r5.place.time + r3.Secs)) + r5.p.UnloadSecs))]) E E E E E E (ST_ (L' := ([(g7, .cells #[.int .i64 r3.Secs, .int .i64 r3.Meters] 51 (0, 0))] :: [(g4, .cells #[.int .i64 r3.Secs, .int .i64 r3.Meters] 51 (0, 0))] :: [(g2, .cells #[.int .i64 node1, .int .i64 (w64 ((w64 (r5.place.time + r3.Secs)) + r5.p.UnloadSecs)), .int .i64 r5.place.load, .int .i64 (w64 (r5.place.meters + r3.Meters)), .int .i64 r5.p.Road.Nodes, .slice A6 r5.p.Road.Edges.length c6, .slice A7 r5.p.Vehicles.length c7, .slice A8 r5.p.Demands.length c8, .int .i64 r5.p.Unload, .int .i64 r5.p.UnloadSecs, .string r5.v.ID, .int .i64 r5.v.Depot, .int .i64 r5.v.Shift.From, .int .i64 r5.v.Shift.To, .int .i64 r5.v.Grams, .int .i64 r5.v.Kinds, .map (some g6), .slice A9 r5.visits.length c9] 73 (0, 0))] :: [(g6, .map es2 cn2)] :: ch2 :: L)) 2 0 E E E E ?_)))))))))))
    refine P_none (G1 14 [2] E (Cl E ?_))
    have hP4 : Obj_tour_walk v2 (.pointer (some ⟨g2, 0, none⟩)) (T_tour_walk.mk (T_tour_place.mk node1 (w64 ((w64 (r5.place.time + r3.Secs)) + r5.p.UnloadSecs)) 0 (w64 (r5.place.meters + r3.Meters))) r5.p r5.v r5.legs r5.visits) _ := ⟨g2, A6, c6, A7, c7, A8, c8, g6, es2, cn2, A9, c9, ch2, rfl, rfl, ⟨hl6, hA9⟩, ⟨hl7, hA10⟩, ⟨hl8, hA11⟩, hM2, hO2⟩
    refine Fn.gp [[2, 3, 4], [0], [1]] 5 3 E ?_
    obtain ⟨_, hx7, h⟩ := obind h
    refine tour_walk_note_fn hP4 hx7 (fun _ hP5 => Q0 5 E ?_)
    cases h
    exact Rt [] E E (Ug [[0]] 3 (hR _ _ (hm2423.trans hm_1) hP5))
  refine G2 10 [] [88] [2] E (Ix h (ArrR.rds hA11 L) E E fun x4 _ _ _ hr4 hc11 _ h => ?_)
  obtain rfl := hr4
  refine Q3 1 [] [] [64] (Z1 (hc11.push.push.push.push.push)) E (Al E fun g8 => Q1 20 [0, 0, 0] E ?_)
  refine Br h 129 E E (fun hc12 h => ?_) (fun hc12 h => ?_)
  · refine G2 5 [129] [] [] E ?_
    cases h
    exact Rt [] E E (Ug [[3, 4, 5]] 6 (hR _ _ (hm2423.trans hm_1) ⟨g2, A6, c6, A7, c7, A8, c8, g6, es2, cn2, A9, c9, ch2, rfl, rfl, ⟨hl6, hA9⟩, ⟨hl7, hA10⟩, ⟨hl8, hA11⟩, hM2, hO2⟩))
  refine G2 4 [] [129] [] E (Dr _ Kept.refl [(true, 0), (true, 1), (true, 2), (true, 3), (true, 4), (true, 5), (true, 6), (true, 7), (true, 8), (true, 9), (true, 10), (true, 11), (true, 12), (true, 13)] (by kernel_rfl) (G1 15 [3, 0, 3] E ?_))
  refine Br h 143 E E (fun hc13 h => ?_) (fun hc13 h => ?_)
  · refine G2 5 [143] [] [] E ?_
    cases h
    exact Rt [] E E (Ug [[3, 4, 5]] 6 (hR _ _ (hm2423.trans hm_1) ⟨g2, A6, c6, A7, c7, A8, c8, g6, es2, cn2, A9, c9, ch2, rfl, rfl, ⟨hl6, hA9⟩, ⟨hl7, hA10⟩, ⟨hl8, hA11⟩, hM2, hO2⟩))
  refine G2 15 [] [143] [0, 3] E (Drk [3] 5 E [(true, 0), (true, 1), (true, 2), (true, 3), (true, 5), (true, 6), (false, 4), (true, 7), (true, 8), (true, 9), (true, 10), (false, 11)] (by kernel_rfl) (G1 6 [0] E (So E (O_read E (R_load E E E (Ex.mk _ (Cell.seg 3 0 E E E) ?_))))))
  refine ⟨Kp [0, 1, 2, 4, 5] 6 E, ?_⟩
  refine Q0 4 E (So E (O_store (vs := [.int .i64 (w64 (r5.place.load + x4.Grams))]) E E E E E E (ST_ (L' := ([(g8, .cells #[.int .i64 x4.Container, .int .i64 x4.Node, .int .i64 x4.Kind, .int .i64 x4.Grams, .int .i64 x4.When.From, .int .i64 x4.When.To, .int .i64 x4.Service] 79 (0, 0))] :: [(g7, .cells #[.int .i64 r3.Secs, .int .i64 r3.Meters] 51 (0, 0))] :: [(g4, .cells #[.int .i64 r3.Secs, .int .i64 r3.Meters] 51 (0, 0))] :: [(g2, .cells #[.int .i64 node1, .int .i64 (w64 ((max (w64 (r5.place.time + r3.Secs)) x4.When.From) + x4.Service)), .int .i64 (w64 (r5.place.load + x4.Grams)), .int .i64 (w64 (r5.place.meters + r3.Meters)), .int .i64 r5.p.Road.Nodes, .slice A6 r5.p.Road.Edges.length c6, .slice A7 r5.p.Vehicles.length c7, .slice A8 r5.p.Demands.length c8, .int .i64 r5.p.Unload, .int .i64 r5.p.UnloadSecs, .string r5.v.ID, .int .i64 r5.v.Depot, .int .i64 r5.v.Shift.From, .int .i64 r5.v.Shift.To, .int .i64 r5.v.Grams, .int .i64 r5.v.Kinds, .map (some g6), .slice A9 r5.visits.length c9] 73 (0, 0))] :: [(g6, .map es2 cn2)] :: ch2 :: L)) 3 0 E E E E ?_)))
  refine ⟨Kp [0, 1, 2, 4, 5] 6 E, ?_⟩
  refine Q0 7 E (Cl E ?_)
  have hP6 : Obj_tour_walk v2 (.pointer (some ⟨g2, 0, none⟩)) (T_tour_walk.mk (T_tour_place.mk node1 (w64 ((max (w64 (r5.place.time + r3.Secs)) x4.When.From) + x4.Service)) (w64 (r5.place.load + x4.Grams)) (w64 (r5.place.meters + r3.Meters))) r5.p r5.v r5.legs r5.visits) _ := ⟨g2, A6, c6, A7, c7, A8, c8, g6, es2, cn2, A9, c9, ch2, rfl, rfl, ⟨hl6, hA9⟩, ⟨hl7, hA10⟩, ⟨hl8, hA11⟩, hM2, hO2⟩
  refine Fn.gp [[3, 4, 5], [0], [1], [2]] 6 4 E ?_
  obtain ⟨_, hx9, h⟩ := obind h
  refine tour_walk_note_fn hP6 hx9 (fun _ hP7 => Q0 5 E ?_)
  cases h
  exact Rt [] E E (Ug [[0]] 4 (hR _ _ (hm2423.trans hm_1) hP7))

theorem tour_walk_back_fn {F : Nat} {w1 : T_tour_walk} {pv1 : Value} {so1 : Seg} {res1 : Int} {res2 : T_tour_walk}
    (hP1 : Obj_tour_walk μ pv1 w1 so1) (h : tour_walk_back F w1 = some (res1, res2))
    (hR : ∀ (μ' : Gh) (sp0 : Seg), μ.le μ' → Obj_tour_walk μ' pv1 res2 sp0 → R (.int .i64 res1) μ' (sp0 :: L)) :
    Fn Try.prog 49 [pv1] μ (so1 :: L) R := by
  unfold tour_walk_back at h
  refine FnS Try.func49 (by kernel_rfl) E Try.ntmps49 E E ?_
  obtain ⟨g1, A1, c1, A2, c2, A3, c3, g2, es1, cn1, A4, c4, ch1, hv1, rfl, ⟨hl1, hA1⟩, ⟨hl2, hA2⟩, ⟨hl3, hA3⟩, hM1, hO1⟩ := hP1
  subst hv1
  refine G0 5 E (In Obj_tour_walk.fl 0 3 E E E (G1 7 [0] E (Cl E ?_)))
  have hP2 : Obj_tour_walk μ (.pointer (some ⟨g1, 0, none⟩)) w1 _ := ⟨g1, A1, c1, A2, c2, A3, c3, g2, es1, cn1, A4, c4, ch1, rfl, rfl, ⟨hl1, hA1⟩, ⟨hl2, hA2⟩, ⟨hl3, hA3⟩, hM1, hO1⟩
  refine Fn.gp [[0, 1, 2]] 3 1 E ?_
  obtain ⟨⟨r1, _, r3⟩, hx1, h⟩ := obind h
  replace h := oun_mk h
  replace h := oun_mk h
  refine tour_walk_leg_fn hP2 hx1 (fun v1 _ hm_1 hP3 => ?_)
  refine Q0 3 E (Al E fun g3 => Q1 9 [0] E ?_)
  refine Br h 16 E E (fun hc1 h => ?_) (fun hc1 h => ?_)
  · refine G2 5 [16] [] [] E ?_
    cases h
    exact Rt [] E E (Ug [[1]] 2 (hR _ _ hm_1 hP3))
  obtain ⟨_, A5, c5, A6, c6, A7, c7, g5, es2, cn2, A8, c8, ch2, hv2, rfl, ⟨hl4, hA4⟩, ⟨hl5, hA5⟩, ⟨hl6, hA6⟩, hM2, hO2⟩ := hP3
  replace hv2 := ptr_inj hv2
  subst hv2
  refine G2 4 [] [16] [] E (In Obj_tour_walk.fl 1 4 E E E (G1 8 [1] E ?_))
  refine Br h 22 E E (fun hc2 h => ?_) (fun hc2 h => ?_)
  · refine G2 5 [22] [] [] E ?_
    cases h
    exact Rt [] E E (Ug [[1, 2, 3]] 4 (hR _ _ hm_1 ⟨g1, A5, c5, A6, c6, A7, c7, g5, es2, cn2, A8, c8, ch2, rfl, rfl, ⟨hl4, hA4⟩, ⟨hl5, hA5⟩, ⟨hl6, hA6⟩, hM2, hO2⟩))
  refine G2 3 [] [22] [] E (Drk [1] 3 E [(true, 0), (true, 1), (true, 2), (true, 3), (true, 4), (true, 5), (true, 6), (true, 8), (false, 7), (false, 9)] (by kernel_rfl) (G1 8 [0] E (So E (O_read E (R_load E E E (Ex.mk _ (Cell.seg 1 0 E E E) ?_))))))
  refine ⟨Kp [0, 2, 3] 4 E, ?_⟩
  refine Q0 0 E (Cl E (FnS Try.func65 (by kernel_rfl) E Try.ntmps65 E E (G0 2 E (Al E fun g6 => Q1 10 [2] E (Drk [2] 4 E [(true, 0), (true, 1), (true, 2), (true, 4), (true, 5), (false, 3), (true, 6), (true, 7), (true, 8), (false, 9)] (by kernel_rfl) (G1 5 [0] E (So E (O_read E (R_load E E E (Ex.mk _ (Cell.seg 2 0 E E E) ?_))))))))))
  refine ⟨Kp [0, 1, 3, 4] 5 E, ?_⟩
  refine Q0 3 E (So E (O_store (vs := [.int .i64 (w64 (r3.place.time + r1.Secs))]) E E E E E E (ST_ (L' := ([(g6, .cells #[.int .i64 r1.Secs, .int .i64 r1.Meters] 51 (0, 0))] :: [(g3, .cells #[.int .i64 r1.Secs, .int .i64 r1.Meters] 51 (0, 0))] :: [(g1, .cells #[.int .i64 r3.v.Depot, .int .i64 (w64 (r3.place.time + r1.Secs)), .int .i64 r3.place.load, .int .i64 r3.place.meters, .int .i64 r3.p.Road.Nodes, .slice A5 r3.p.Road.Edges.length c5, .slice A6 r3.p.Vehicles.length c6, .slice A7 r3.p.Demands.length c7, .int .i64 r3.p.Unload, .int .i64 r3.p.UnloadSecs, .string r3.v.ID, .int .i64 r3.v.Depot, .int .i64 r3.v.Shift.From, .int .i64 r3.v.Shift.To, .int .i64 r3.v.Grams, .int .i64 r3.v.Kinds, .map (some g5), .slice A8 r3.visits.length c8] 73 (0, 0))] :: [(g5, .map es2 cn2)] :: ch2 :: L)) 2 0 E E E E ?_)))
  refine ⟨Kp [0, 1, 3, 4] 5 E, ?_⟩
  refine Q0 1 E (Drk [2] 4 E [(true, 0), (true, 1), (true, 2), (true, 4), (true, 5), (false, 3), (true, 6), (true, 7), (true, 8), (false, 9)] (by kernel_rfl) (G1 5 [0] E (So E (O_read E (R_load E E E (Ex.mk _ (Cell.seg 2 0 E E E) ?_))))))
  refine ⟨Kp [0, 1, 3, 4] 5 E, ?_⟩
  refine Q0 3 E (So E (O_store (vs := [.int .i64 (w64 (r3.place.meters + r1.Meters))]) E E E E E E (ST_ (L' := ([(g6, .cells #[.int .i64 r1.Secs, .int .i64 r1.Meters] 51 (0, 0))] :: [(g3, .cells #[.int .i64 r1.Secs, .int .i64 r1.Meters] 51 (0, 0))] :: [(g1, .cells #[.int .i64 r3.v.Depot, .int .i64 (w64 (r3.place.time + r1.Secs)), .int .i64 r3.place.load, .int .i64 (w64 (r3.place.meters + r1.Meters)), .int .i64 r3.p.Road.Nodes, .slice A5 r3.p.Road.Edges.length c5, .slice A6 r3.p.Vehicles.length c6, .slice A7 r3.p.Demands.length c7, .int .i64 r3.p.Unload, .int .i64 r3.p.UnloadSecs, .string r3.v.ID, .int .i64 r3.v.Depot, .int .i64 r3.v.Shift.From, .int .i64 r3.v.Shift.To, .int .i64 r3.v.Grams, .int .i64 r3.v.Kinds, .map (some g5), .slice A8 r3.visits.length c8] 73 (0, 0))] :: [(g5, .map es2 cn2)] :: ch2 :: L)) 2 0 E E E E ?_)))
  refine ⟨Kp [0, 1, 3, 4] 5 E, ?_⟩
  refine Q0 1 E (Rt [] E E (Upd.done ?_))
  refine ⟨Kp [1, 3, 4] 5 E, ?_⟩
  refine Q0 3 E (Dr _ Kept.refl [(true, 0), (true, 1), (true, 2), (true, 3), (true, 4), (true, 5), (true, 6), (true, 7), (true, 8), (true, 9), (true, 10), (true, 11)] (by kernel_rfl) (G1 13 [2, 2] E ?_))
  refine Br h 44 E E (fun hc3 h => ?_) (fun hc3 h => ?_)
  · refine G2 5 [44] [] [] E ?_
    cases h
    exact Rt [] E E (Ug [[2, 3, 4]] 5 (hR _ _ hm_1 ⟨g1, A5, c5, A6, c6, A7, c7, g5, es2, cn2, A8, c8, ch2, rfl, rfl, ⟨hl4, hA4⟩, ⟨hl5, hA5⟩, ⟨hl6, hA6⟩, hM2, hO2⟩))
  refine G2 3 [] [44] [] E (Cd (WP.drawB (id := 9) (l' := List.replicate 11 true ++ [false]) wide Tt_ok _ Kept.refl 11 [(1, [5, 4, 3, 2]), (2, [5, 4, 3]), (3, [5, 4]), (4, [5]), (6, [10, 9, 8, 7]), (7, [10, 9, 8]), (8, [10, 9]), (9, [10])] [(true, 0), (true, 1), (true, 2), (true, 3), (true, 4), (true, 5), (true, 6), (true, 7), (true, 8), (true, 9), (true, 10)] (by kernel_rfl) (by kernel_rfl) E (by kernel_rfl) (by kernel_rfl) (PL_t E (R_move E (Pt E E (R_move E (Pt E E (R_nilP E (Pt E E (R_fa0 (o' := 0) E E E E E E (Pt E E (R_fa0 (o' := 1) E E E E E E (P_some E ?_)))))))))))))
  refine PL_t E (R_load E E E (Ex.mk _ (Cell.seg 2 0 E E E) (Pt E E (R_move E (Pt E E (R_nilP E (Pt E E (R_fa0 (o' := 0) E E E E E E (Pt E E (R_fa0 (o' := 1) E E E E E E (Pt E E (R_load E E E ?_))))))))))))
  refine Ex.mk _ (Cell.seg 2 0 E E E) (P_some E (PL_nil (last_ E (O_call (all := [.pointer (some ⟨g1, 0, none⟩), .int .i64 (-2), .int .i64 (w64 (r3.place.time + r1.Secs)), .int .i64 (w64 (r3.place.time + r1.Secs))]) E E E ?_))))
  have hP4 : Obj_tour_walk v1 (.pointer (some ⟨g1, 0, none⟩)) (T_tour_walk.mk (T_tour_place.mk r3.v.Depot (w64 (r3.place.time + r1.Secs)) r3.place.load (w64 (r3.place.meters + r1.Meters))) r3.p r3.v r3.legs r3.visits) _ := ⟨g1, A5, c5, A6, c6, A7, c7, g5, es2, cn2, A8, c8, ch2, rfl, rfl, ⟨hl4, hA4⟩, ⟨hl5, hA5⟩, ⟨hl6, hA6⟩, hM2, hO2⟩
  refine Fn.gp [[2, 3, 4], [0], [1]] 5 3 E ?_
  obtain ⟨_, hx2, h⟩ := obind h
  refine tour_walk_note_fn hP4 hx2 (fun _ hP5 => P_some E (G0 4 E ?_))
  cases h
  exact Rt [] E E (Ug [[0]] 3 (hR _ _ hm_1 hP5))

theorem tour_follow_fn {F : Nat} {p1 : T_api_Problem} {t1 : T_api_Tour} {A1 : Option Addr} {c1 : Nat} {A2 : Option Addr} {c2 : Nat} {A3 : Option Addr} {c3 : Nat} {A4 : Option Addr} {c4 : Nat} {res1 : (Option T_tour_walk)} {res2 : Int} {res3 : Int}
    (hl1 : p1.Road.Edges.length ≤ c1 ∧ c1 ≤ maxLen) (hA1 : ArrR r_api_Edge μ A1 p1.Road.Edges) (hl2 : p1.Vehicles.length ≤ c2 ∧ c2 ≤ maxLen) (hA2 : ArrR r_api_Vehicle μ A2 p1.Vehicles) (hl3 : p1.Demands.length ≤ c3 ∧ c3 ≤ maxLen) (hA3 : ArrR r_api_Demand μ A3 p1.Demands) (hl4 : t1.Stops.length ≤ c4 ∧ c4 ≤ maxLen) (hA4 : ArrR rInt μ A4 t1.Stops) (h : tour_follow F p1 t1 = some (res1, res2, res3))
    (hR : ∀ (μ' : Gh) (v0 : Value) (so0 : Seg), μ.le μ' → ObjO Obj_tour_walk μ' v0 res1 so0 → R (.tuple #[v0, .int .i64 res2, .int .i64 res3]) μ' (so0 :: L)) :
    Fn Try.prog 34 [.agg #[.int .i64 p1.Road.Nodes, .slice A1 p1.Road.Edges.length c1, .slice A2 p1.Vehicles.length c2, .slice A3 p1.Demands.length c3, .int .i64 p1.Unload, .int .i64 p1.UnloadSecs], .agg #[.int .i64 t1.Vehicle, .slice A4 t1.Stops.length c4]] μ (L) R := by
  unfold tour_follow at h
  refine FnS Try.func34 (by kernel_rfl) E Try.ntmps34 E E ?_
  refine G0 2 E (Al E fun _ => Q0 0 E (Al E fun g2 => Q0 7 E ?_))
  refine Cut h (fun f l o_ f_ μ_ l_ => ∃ (v1 : Bool), v1 = o_ ∧ SubFr ((21, .bool v1) :: keepF [2, 3] f) f_ ∧ SegSub (selS [some 1, some 0] 2 l) l_) ?_ ?_
  · intro _ h4394 h
    refine G1 5 [0] E ?_
    refine Br h4394 14 E E (fun hc1 h4394 => ?_) (fun hc1 h4394 => ?_)
    · refine G2 8 [14] [] [] E ?_
      cases h4394
      exact Ce E ⟨_, rfl, fE E, sE [some 1, some 0] 2 E⟩
    refine G2 8 [] [14] [0, 1] E ?_
    cases h4394
    exact Ce E ⟨_, rfl, fE E, sE [some 1, some 0] 2 E⟩
  rintro _ _ μ4394 _ h hm4394 ⟨v1, rfl, hF4394, hS4394⟩
  replace hA1 := hA1.mono hm4394
  replace hA2 := hA2.mono hm4394
  replace hA3 := hA3.mono hm4394
  replace hA4 := hA4.mono hm4394
  refine Atn 2 hF4394 hS4394 E E ?_
  refine Br h 21 E E (fun hc2 h => ?_) (fun hc2 h => ?_)
  · refine G2 7 [21] [] [] E ?_
    cases h
    exact Rt [] E E (Ug [[]] 2 (hR _ (.pointer none) [] hm4394 ObjO.nil))
  refine G2 10 [] [21] [1] E ?_
  refine Br h 25 E E (fun hc3 h => ?_) (fun hc3 h => ?_)
  · refine G2 7 [25] [] [] E ?_
    cases h
    exact Rt [] E E (Ug [[]] 2 (hR _ (.pointer none) [] hm4394 ObjO.nil))
  refine G2 8 [] [25] [0, 1] E (Ix h (ArrR.rds hA2 L) E E fun x1 _ _ _ hr1 hc4 _ h => ?_)
  obtain rfl := hr1
  refine Q3 1 [] [] [64] (Z1 (hc4.push.push)) E (Al E fun _ => Q1 12 [0, 0, 0, 1, 0] E (So E (O_mkmap (fun g4 => Q0 1 E (Al E fun g5 => ?_)))))
  have hP1 : Obj_tour_walk μ4394 (.pointer (some ⟨g5, 0, none⟩)) (T_tour_walk.mk (T_tour_place.mk x1.Depot x1.Shift.From 0 0) p1 x1 [] []) _ := ⟨g5, A1, c1, A2, c2, A3, c3, g4, #[], 0, none, 0, [], rfl, rfl, ⟨hl1, hA1⟩, ⟨hl2, hA2⟩, ⟨hl3, hA3⟩, (MapF.nil (r := r_api_Leg)), Own.nil⟩
  refine Q0 10 E (Gp [[0, 1, 99], [2], [3], [4]] 5 4 E E ?_)
  refine Cut h (fun f l o_ f_ μ_ l_ => ∃ (q2 : T_tour_walk) (e2 : Int) (f_at2 : Int) (so3 : Seg), (q2, e2, f_at2) = o_ ∧ SubFr ((9, .int .i64 e2) :: (10, .int .i64 f_at2) :: keepF [8] f) f_ ∧ SegSub (so3 :: selS [] 4 l) l_ ∧ Obj_tour_walk μ_ (.pointer (some ⟨g5, 0, none⟩)) q2 so3) ?_ ?_
  · intro _ h4411 h
    refine Lp h4411 (fun f l (j_ : T_tour_walk × Int × Int) f_ μ_ l_ => ounP j_ fun q1 j_ => ounP j_ fun e1 f_at1 => ∃ (so1 : Seg), SubFr ((9, .int .i64 e1) :: (10, .int .i64 f_at1) :: keepF [3, 8] f) f_ ∧ SegSub ([(g2, .cells #[.int .i64 t1.Vehicle, .slice A4 t1.Stops.length c4] 35 (0, 0))] :: so1 :: selS [] 4 l) l_ ∧ Obj_tour_walk μ_ (.pointer (some ⟨g5, 0, none⟩)) q1 so1) ⟨((g5, Obj.cells #[.int .i64 x1.Depot, .int .i64 x1.Shift.From, .int .i64 0, .int .i64 0, .int .i64 p1.Road.Nodes, .slice A1 p1.Road.Edges.length c1, .slice A2 p1.Vehicles.length c2, .slice A3 p1.Demands.length c3, .int .i64 p1.Unload, .int .i64 p1.UnloadSecs, .string x1.ID, .int .i64 x1.Depot, .int .i64 x1.Shift.From, .int .i64 x1.Shift.To, .int .i64 x1.Grams, .int .i64 x1.Kinds, .map (some g4), .slice none 0 0] 73 (0, 0)) :: ((g4, Obj.map #[] 0) :: [])), fE E, sE [some 3, some 0] 4 E, (hP1)⟩ ?_
    rintro ⟨q1, e1, f_at1⟩ _ _ _ _ hm4424 ⟨so1, hF4424, hS4424, hP2⟩ hb4424 hq4424
    unfold tour_follow_l1 at hb4424
    replace hb4424 := oun_mk hb4424
    replace hb4424 := oun_mk hb4424
    replace hA4 := hA4.mono hm4424
    refine Atn 2 hF4424 hS4424 E E (G1 9 [0] E ?_)
    refine Br hb4424 47 E E (fun hc5 hb4424 => ?_) (fun hc5 hb4424 => ?_)
    · refine G2 9 [47] [] [0] E (Cl E (Fn.gp [[1], [0]] 2 2 E ?_))
      obtain ⟨⟨_, _⟩, hx2, hb4424⟩ := obind hb4424
      replace hb4424 := oun_mk hb4424
      refine tour_walk_serve_fn hP2 hl4 hA4 hx2 (fun _ so2 hm_1 hP3 => ?_)
      replace hP2 := hP2.mono hm_1
      refine Q0 7 E ?_
      refine Br hb4424 53 E E (fun hc6 hb4424 => ?_) (fun hc6 hb4424 => ?_)
      · refine G2 2 [53] [] [] E ?_
        cases hb4424
        have hq_ := hq4424 _ E
        subst hq_
        exact Ce E ⟨_, _, _, so2, rfl, fE E, sE [some 0] 2 E, (hP3)⟩
      refine G2 8 [] [53] [] E ?_
      cases hb4424
      exact Ce E ⟨_, rfl, so2, fE E, sE [some 1, some 0] 2 E, (hP3)⟩
    refine G2 2 [] [47] [] E ?_
    cases hb4424
    have hq_ := hq4424 _ E
    subst hq_
    exact Ce E ⟨_, _, _, so1, rfl, fE E, sE [some 1] 2 E, (hP2)⟩
  rintro _ _ _ _ h hm4411 ⟨q2, e2, f_at2, so3, rfl, hF4411, hS4411, hP4⟩
  replace h := oun_mk h
  replace h := oun_mk h
  refine Atn 1 hF4411 hS4411 E E (G0 6 E ?_)
  refine Cut h (fun f l o_ f_ μ_ l_ => ∃ (q3 : T_tour_walk) (e3 : Int) (so5 : Seg), (q3, e3) = o_ ∧ SubFr ((9, .int .i64 e3) :: keepF [8, 10] f) f_ ∧ SegSub (so5 :: selS [] 1 l) l_ ∧ Obj_tour_walk μ_ (.pointer (some ⟨g5, 0, none⟩)) q3 so5) ?_ ?_
  · intro _ h4439 h
    refine Br h4439 57 E E (fun hc7 h4439 => ?_) (fun hc7 h4439 => ?_)
    · refine G2 3 [57] [] [] E (Cl E ?_)
      obtain ⟨⟨_, _⟩, hx3, h4439⟩ := obind h4439
      replace h4439 := oun_mk h4439
      refine tour_walk_back_fn hP4 hx3 (fun _ so4 hm_2 hP5 => ?_)
      replace hP4 := hP4.mono hm_2
      refine Q0 2 E ?_
      cases h4439
      exact Ce E ⟨_, _, so4, rfl, fE E, sE [some 0] 1 E, (hP5)⟩
    refine G2 2 [] [57] [] E ?_
    cases h4439
    exact Ce E ⟨_, _, so3, rfl, fE E, sE [some 0] 1 E, (hP4)⟩
  rintro _ _ _ _ h hm4439 ⟨q3, e3, so5, rfl, hF4439, hS4439, hP6⟩
  replace h := oun_mk h
  refine Atn 1 hF4439 hS4439 E E (G0 6 E ?_)
  refine Br h 61 E E (fun hc8 h => ?_) (fun hc8 h => ?_)
  · refine G2 9 [61] [] [] E ?_
    cases h
    exact Rt [] E E (Ug [[]] 1 (hR _ (.pointer none) [] (hm4394.trans (hm4411.trans hm4439)) ObjO.nil))
  refine G2 9 [] [61] [] E ?_
  cases h
  exact Rt [] E E (Ug [[0]] 1 (hR _ (.pointer (some ⟨g5, 0, none⟩)) _ (hm4394.trans (hm4411.trans hm4439)) hP6))

theorem tour_Walk_fn {F : Nat} {p1 : T_api_Problem} {t1 : T_api_Tour} {A1 : Option Addr} {c1 : Nat} {A2 : Option Addr} {c2 : Nat} {A3 : Option Addr} {c3 : Nat} {A4 : Option Addr} {c4 : Nat} {res1 : (List T_api_Visit)} {res2 : Int} {res3 : Int}
    (hl1 : p1.Road.Edges.length ≤ c1 ∧ c1 ≤ maxLen) (hA1 : ArrR r_api_Edge μ A1 p1.Road.Edges) (hl2 : p1.Vehicles.length ≤ c2 ∧ c2 ≤ maxLen) (hA2 : ArrR r_api_Vehicle μ A2 p1.Vehicles) (hl3 : p1.Demands.length ≤ c3 ∧ c3 ≤ maxLen) (hA3 : ArrR r_api_Demand μ A3 p1.Demands) (hl4 : t1.Stops.length ≤ c4 ∧ c4 ≤ maxLen) (hA4 : ArrR rInt μ A4 t1.Stops) (h : tour_Walk F p1 t1 = some (res1, res2, res3))
    (hR : ∀ (μ' : Gh) (A0 : Option Addr) (c0 : Nat) (ch0 : Seg), μ.le μ' → Own r_api_Visit 48 μ' (.slice A0 res1.length c0) res1 ch0 → R (.tuple #[.slice A0 res1.length c0, .int .i64 res2, .int .i64 res3]) μ' (ch0 :: L)) :
    Fn Try.prog 15 [.agg #[.int .i64 p1.Road.Nodes, .slice A1 p1.Road.Edges.length c1, .slice A2 p1.Vehicles.length c2, .slice A3 p1.Demands.length c3, .int .i64 p1.Unload, .int .i64 p1.UnloadSecs], .agg #[.int .i64 t1.Vehicle, .slice A4 t1.Stops.length c4]] μ (L) R := by
  unfold tour_Walk at h
  refine FnS Try.func15 (by kernel_rfl) E Try.ntmps15 E E ?_
  refine G0 2 E (Al E fun _ => Q0 0 E (Al E fun _ => Q1 8 [1] E (Cl E ?_)))
  obtain ⟨_, hx1, h⟩ := obind h
  refine tour_Check_fn hl1 hA1 hl2 hA2 hl3 hA3 hx1 (fun _ hm_1 => ?_)
  replace hA1 := hA1.mono hm_1
  replace hA2 := hA2.mono hm_1
  replace hA3 := hA3.mono hm_1
  replace hA4 := hA4.mono hm_1
  refine Q0 7 E ?_
  refine Br h 14 E E (fun hc1 h => ?_) (fun hc1 h => ?_)
  · refine G2 8 [14] [] [] E ?_
    cases h
    exact Rt [] E E (Ug [[]] 2 (hR _ none 0 [] hm_1 Own.nil))
  refine G2 6 [] [14] [1, 0] E (Cl E ?_)
  obtain ⟨⟨_, _, _⟩, hx2, h⟩ := obind h
  replace h := oun_mk h
  replace h := oun_mk h
  refine tour_follow_fn hl1 hA1 hl2 hA2 hl3 hA3 hl4 hA4 hx2 (fun _ _ _ hm_2 hP1 => ?_)
  refine Q0 14 E ?_
  refine Br h 24 E E (fun hc2 h => ?_) (fun hc2 h => ?_)
  · refine G2 9 [24] [] [] E ?_
    cases h
    exact Rt [] E E (Ug [[]] 3 (hR _ none 0 [] (hm_1.trans hm_2) Own.nil))
  obtain ⟨_, hm_3, h⟩ := obind h
  have hP2 := ObjO.get hP1 hm_3
  obtain ⟨_, _, _, _, _, _, _, _, _, _, A8, c8, ch1, hv1, rfl, ⟨_, _⟩, ⟨_, _⟩, ⟨_, _⟩, _, hO1⟩ := hP2
  subst hv1
  refine G2 3 [] [24] [] E (In Obj_tour_walk.fl 0 5 E E E (G1 9 [0] E ?_))
  cases h
  exact Rt [] E E (Ug [[2]] 5 (hR _ A8 c8 ch1 (hm_1.trans hm_2) hO1))

theorem tour_Cost_fn {F : Nat} {p1 : T_api_Problem} {t1 : T_api_Tour} {A1 : Option Addr} {c1 : Nat} {A2 : Option Addr} {c2 : Nat} {A3 : Option Addr} {c3 : Nat} {A4 : Option Addr} {c4 : Nat} {res1 : Int} {res2 : Int}
    (hl1 : p1.Road.Edges.length ≤ c1 ∧ c1 ≤ maxLen) (hA1 : ArrR r_api_Edge μ A1 p1.Road.Edges) (hl2 : p1.Vehicles.length ≤ c2 ∧ c2 ≤ maxLen) (hA2 : ArrR r_api_Vehicle μ A2 p1.Vehicles) (hl3 : p1.Demands.length ≤ c3 ∧ c3 ≤ maxLen) (hA3 : ArrR r_api_Demand μ A3 p1.Demands) (hl4 : t1.Stops.length ≤ c4 ∧ c4 ≤ maxLen) (hA4 : ArrR rInt μ A4 t1.Stops) (h : tour_Cost F p1 t1 = some (res1, res2))
    (hR : ∀ (μ' : Gh) , μ.le μ' → R (.tuple #[.int .i64 res1, .int .i64 res2]) μ' (L)) :
    Fn Try.prog 18 [.agg #[.int .i64 p1.Road.Nodes, .slice A1 p1.Road.Edges.length c1, .slice A2 p1.Vehicles.length c2, .slice A3 p1.Demands.length c3, .int .i64 p1.Unload, .int .i64 p1.UnloadSecs], .agg #[.int .i64 t1.Vehicle, .slice A4 t1.Stops.length c4]] μ (L) R := by
  unfold tour_Cost at h
  refine FnS Try.func18 (by kernel_rfl) E Try.ntmps18 E E ?_
  refine G0 2 E (Al E fun _ => Q0 0 E (Al E fun _ => Q1 7 [1] E (Cl E ?_)))
  obtain ⟨_, hx1, h⟩ := obind h
  refine tour_Check_fn hl1 hA1 hl2 hA2 hl3 hA3 hx1 (fun _ hm_1 => ?_)
  replace hA1 := hA1.mono hm_1
  replace hA2 := hA2.mono hm_1
  replace hA3 := hA3.mono hm_1
  replace hA4 := hA4.mono hm_1
  refine Q0 7 E ?_
  refine Br h 13 E E (fun hc1 h => ?_) (fun hc1 h => ?_)
  · refine G2 7 [13] [] [] E ?_
    cases h
    exact Rt [] E E (Ug [] 2 (hR _ hm_1))
  refine G2 6 [] [13] [1, 0] E (Cl E ?_)
  obtain ⟨⟨_, _, _⟩, hx2, h⟩ := obind h
  replace h := oun_mk h
  replace h := oun_mk h
  refine tour_follow_fn hl1 hA1 hl2 hA2 hl3 hA3 hl4 hA4 hx2 (fun _ _ _ hm_2 hP1 => ?_)
  refine Q0 14 E ?_
  refine Br h 23 E E (fun hc2 h => ?_) (fun hc2 h => ?_)
  · refine G2 7 [23] [] [] E ?_
    cases h
    exact Rt [] E E (Ug [] 3 (hR _ (hm_1.trans hm_2)))
  obtain ⟨_, hm_3, h⟩ := obind h
  have hP2 := ObjO.get hP1 hm_3
  obtain ⟨_, _, _, _, _, _, _, _, _, _, _, _, _, hv1, rfl, ⟨_, _⟩, ⟨_, _⟩, ⟨_, _⟩, _, _⟩ := hP2
  subst hv1
  refine G2 3 [] [23] [] E (In Obj_tour_walk.fl 0 5 E E E (G1 9 [0] E ?_))
  cases h
  exact Rt [] E E (Ug [] 5 (hR _ (hm_1.trans hm_2)))

theorem recyclingref22_Same_fn  {a1 : (List T_api_Visit)} {b1 : (List T_api_Visit)} {A1 : Option Addr} {c1 : Nat} {A2 : Option Addr} {c2 : Nat} {res1 : Bool}
    (hl1 : a1.length ≤ c1 ∧ c1 ≤ maxLen) (hA1 : Rds r_api_Visit μ L A1 a1) (hl2 : b1.length ≤ c2 ∧ c2 ≤ maxLen) (hA2 : Rds r_api_Visit μ L A2 b1) (h : recyclingref22_Same a1 b1 = some res1)
    (hR : R (.bool res1) μ (L)) :
    Fn Try.prog 17 [.slice A1 a1.length c1, .slice A2 b1.length c2] μ (L) R := by
  unfold recyclingref22_Same at h
  refine FnS Try.func17 (by kernel_rfl) E Try.ntmps17 E E ?_
  refine G0 13 E ?_
  refine Br h 10 E E (fun hc1 h => ?_) (fun hc1 h => ?_)
  · refine G2 5 [10] [] [] E ?_
    cases h
    exact Rt [] E E (Ug [] 0 hR)
  refine G2 9 [] [10] [] E ?_
  refine Cut h (fun f l o_ f_ μ_ l_ => (.inl ()) = o_ ∧ SubFr ([]) f_ ∧ SegSub l l_ ∧ μ = μ_) ?_ ?_
  · intro _ h4544 h
    refine Lp h4544 (fun f l (v1 : Int) f_ μ_ l_ => SubFr ((13, .int .i64 v1) :: keepF [0, 1, 12] f) f_ ∧ SegSub l l_ ∧ μ = μ_) ⟨fE E, sE [] 0 E, E⟩ ?_
    rintro v1 _ _ _ _ _ ⟨hF4546, hS4546, rfl⟩ hb4546 hq4546
    unfold recyclingref22_Same_l1 at hb4546
    refine Atn 0 hF4546 hS4546 E E (G0 5 E ?_)
    refine Br hb4546 14 E E (fun hc2 hb4546 => ?_) (fun hc2 hb4546 => ?_)
    · refine G2 10 [14] [] [] E (Dr _ Kept.refl [(true, 0), (true, 1), (true, 2), (true, 3), (true, 4), (true, 5), (true, 6), (true, 7), (true, 8)] (by kernel_rfl) (G0 2 E (Ix hb4546 hA1 E E fun x1 _ _ _ hr1 hc3 _ hb4546 => ?_)))
      obtain rfl := hr1
      refine Q3 3 [] [] [64] (Z1 hc3) E (Ix hb4546 hA2 E E fun x2 _ _ _ hr2 hc4 _ hb4546 => ?_)
      obtain rfl := hr2
      refine Q3 1 [] [] [64] (Z1 hc4) E (Rdo E E (R_agg E E (Ex.mk _ (neRun_T_api_Visit x1 x2) (Q0 1 E ?_))))
      refine Br hb4546 24 E E (fun hc5 hb4546 => ?_) (fun hc5 hb4546 => ?_)
      · refine G2 5 [24] [] [] E ?_
        cases hb4546
        have hq_ := hq4546 _ E
        subst hq_
        replace h := osum_r h
        cases h
        exact Rt [] E E (Ug [] 0 hR)
      refine G2 7 [] [24] [] E ?_
      cases hb4546
      exact Ce E ⟨_, rfl, fE E, sE [] 0 E, rfl⟩
    refine G2 2 [] [14] [] E ?_
    cases hb4546
    have hq_ := hq4546 _ E
    subst hq_
    exact Ce E ⟨rfl, fE E, sE [] 0 E, rfl⟩
  rintro _ _ _ _ h _ ⟨rfl, hF4544, hS4544, rfl⟩
  replace h := osum_l h
  refine Atn 0 hF4544 hS4544 E E (G0 4 E ?_)
  cases h
  exact Rt [] E E (Ug [] 0 hR)

theorem tour_plan_1_fn  {u1 : T_api_Tour} {b1 : T_api_Tour} {A1 : Option Addr} {c1 : Nat} {g1 : Nat} {A2 : Option Addr} {c2 : Nat} {res1 : Bool}
    (hl1 : u1.Stops.length ≤ c1 ∧ c1 ≤ maxLen) (hA1 : ArrR rInt μ A1 u1.Stops) (hl2 : b1.Stops.length ≤ c2 ∧ c2 ≤ maxLen) (hA2 : ArrR rInt μ A2 b1.Stops) (h : tour_plan_1 u1 b1 = some res1)
    (hR : R (.bool res1) μ ([(g1, .cells #[.int .i64 b1.Vehicle, .slice A2 b1.Stops.length c2] 35 (0, 0))] :: L)) :
    Fn Try.prog 55 [.agg #[.int .i64 u1.Vehicle, .slice A1 u1.Stops.length c1], .pointer (some ⟨g1, 0, none⟩)] μ ([(g1, .cells #[.int .i64 b1.Vehicle, .slice A2 b1.Stops.length c2] 35 (0, 0))] :: L) R := by
  unfold tour_plan_1 at h
  refine FnS Try.func55 (by kernel_rfl) E Try.ntmps55 E E ?_
  refine G0 2 E (Al E fun _ => Q1 11 [0, 1] E ?_)
  cases h
  exact Rt [] E E (Ug [[1]] 2 hR)

theorem slices_IndexFunc_Tour_c55_fn  {s1 : (List T_api_Tour)} {b1 : T_api_Tour} {A1 : Option Addr} {c1 : Nat} {g1 : Nat} {A2 : Option Addr} {c2 : Nat} {res1 : Int}
    (hl1 : s1.length ≤ c1 ∧ c1 ≤ maxLen) (hA1 : Rds r_api_Tour μ L A1 s1) (hl2 : b1.Stops.length ≤ c2 ∧ c2 ≤ maxLen) (hA2 : ArrR rInt μ A2 b1.Stops) (h : slices_IndexFunc_Tour_c55 s1 b1 = some res1)
    (hR : R (.int .i64 res1) μ ([(g1, .cells #[.int .i64 b1.Vehicle, .slice A2 b1.Stops.length c2] 35 (0, 0))] :: L)) :
    Fn Try.prog 67 [.slice A1 s1.length c1, .func (.func 55) #[] #[.pointer (some ⟨g1, 0, none⟩)]] μ ([(g1, .cells #[.int .i64 b1.Vehicle, .slice A2 b1.Stops.length c2] 35 (0, 0))] :: L) R := by
  unfold slices_IndexFunc_Tour_c55 at h
  refine FnS Try.func67 (by kernel_rfl) E Try.ntmps67 E E ?_
  refine G0 11 E ?_
  refine Cut h (fun f l o_ f_ μ_ l_ => (.inl ()) = o_ ∧ SubFr ([]) f_ ∧ SegSub l l_ ∧ μ = μ_) ?_ ?_
  · intro _ h4582 h
    refine Lp h4582 (fun f l (v1 : Int) f_ μ_ l_ => SubFr ((8, .int .i64 v1) :: keepF [0, 1, 7] f) f_ ∧ SegSub l l_ ∧ μ = μ_) ⟨fE E, sE [some 0] 1 E, E⟩ ?_
    rintro v1 _ _ _ _ _ ⟨hF4593, hS4593, rfl⟩ hb4593 hq4593
    unfold slices_IndexFunc_Tour_c55_l1 at hb4593
    refine Atn 1 hF4593 hS4593 E E (G0 5 E ?_)
    refine Br hb4593 9 E E (fun hc1 hb4593 => ?_) (fun hc1 hb4593 => ?_)
    · refine G2 14 [9] [] [] E (Ix hb4593 hA1 E E fun _ _ _ _ hr1 hc2 _ hb4593 => ?_)
      obtain ⟨_, _, rfl, hl3, hA4⟩ := hr1
      refine Q3 1 [] [] [64] (Z1 (hc2.push)) E (Cl E ?_)
      obtain ⟨_, hx2, hb4593⟩ := obind hb4593
      refine tour_plan_1_fn hl3 hA4 hl2 hA2 hx2 ((Q0 1 E ?_))
      refine Br hb4593 16 E E (fun hc3 hb4593 => ?_) (fun hc3 hb4593 => ?_)
      · refine G2 6 [16] [] [] E ?_
        cases hb4593
        have hq_ := hq4593 _ E
        subst hq_
        replace h := osum_r h
        cases h
        exact Rt [] E E (Ug [[0]] 1 hR)
      refine G2 7 [] [16] [] E ?_
      cases hb4593
      exact Ce E ⟨_, rfl, fE E, sE [some 0] 1 E, rfl⟩
    refine G2 2 [] [9] [] E ?_
    cases hb4593
    have hq_ := hq4593 _ E
    subst hq_
    exact Ce E ⟨rfl, fE E, sE [some 0] 1 E, rfl⟩
  rintro _ _ _ _ h _ ⟨rfl, hF4582, hS4582, rfl⟩
  replace h := osum_l h
  refine Atn 1 hF4582 hS4582 E E (G0 4 E ?_)
  cases h
  exact Rt [] E E (Ug [[0]] 1 hR)

theorem slices_ContainsFunc_Tour_c55_fn  {s1 : (List T_api_Tour)} {b1 : T_api_Tour} {A1 : Option Addr} {c1 : Nat} {g1 : Nat} {A2 : Option Addr} {c2 : Nat} {res1 : Bool}
    (hl1 : s1.length ≤ c1 ∧ c1 ≤ maxLen) (hA1 : Rds r_api_Tour μ L A1 s1) (hl2 : b1.Stops.length ≤ c2 ∧ c2 ≤ maxLen) (hA2 : ArrR rInt μ A2 b1.Stops) (h : slices_ContainsFunc_Tour_c55 s1 b1 = some res1)
    (hR : R (.bool res1) μ ([(g1, .cells #[.int .i64 b1.Vehicle, .slice A2 b1.Stops.length c2] 35 (0, 0))] :: L)) :
    Fn Try.prog 54 [.slice A1 s1.length c1, .func (.func 55) #[] #[.pointer (some ⟨g1, 0, none⟩)]] μ ([(g1, .cells #[.int .i64 b1.Vehicle, .slice A2 b1.Stops.length c2] 35 (0, 0))] :: L) R := by
  unfold slices_ContainsFunc_Tour_c55 at h
  refine FnS Try.func54 (by kernel_rfl) E Try.ntmps54 E E ?_
  refine G0 8 E (Cl E ?_)
  obtain ⟨_, hx1, h⟩ := obind h
  refine slices_IndexFunc_Tour_c55_fn hl1 hA1 hl2 hA2 hx1 ((Q0 3 E ?_))
  cases h
  exact Rt [] E E (Ug [[0]] 1 hR)

theorem tour_plan_2_fn  {n1 : Int}  {res1 : Bool}
     (h : tour_plan_2 n1 = some res1)
    (hR : R (.bool res1) μ (L)) :
    Fn Try.prog 57 [.int .i64 n1] μ (L) R := by
  unfold tour_plan_2 at h
  refine FnS Try.func57 (by kernel_rfl) E Try.ntmps57 E E ?_
  refine G0 10 E ?_
  cases h
  exact Rt [] E E (Ug [] 0 hR)

theorem slices_IndexFunc_int_c57_fn  {s1 : (List Int)} {A1 : Option Addr} {c1 : Nat} {res1 : Int}
    (hl1 : s1.length ≤ c1 ∧ c1 ≤ maxLen) (hA1 : Rds rInt μ L A1 s1) (h : slices_IndexFunc_int_c57 s1 = some res1)
    (hR : R (.int .i64 res1) μ (L)) :
    Fn Try.prog 68 [.slice A1 s1.length c1, .func (.func 57) #[] #[]] μ (L) R := by
  unfold slices_IndexFunc_int_c57 at h
  refine FnS Try.func68 (by kernel_rfl) E Try.ntmps68 E E ?_
  refine G0 11 E ?_
  refine Cut h (fun f l o_ f_ μ_ l_ => (.inl ()) = o_ ∧ SubFr ([]) f_ ∧ SegSub l l_ ∧ μ = μ_) ?_ ?_
  · intro _ h4727 h
    refine Lp h4727 (fun f l (v1 : Int) f_ μ_ l_ => SubFr ((8, .int .i64 v1) :: keepF [0, 1, 7] f) f_ ∧ SegSub l l_ ∧ μ = μ_) ⟨fE E, sE [] 0 E, E⟩ ?_
    rintro v1 _ _ _ _ _ ⟨hF4729, hS4729, rfl⟩ hb4729 hq4729
    unfold slices_IndexFunc_int_c57_l1 at hb4729
    refine Atn 0 hF4729 hS4729 E E (G0 5 E ?_)
    refine Br hb4729 9 E E (fun hc1 hb4729 => ?_) (fun hc1 hb4729 => ?_)
    · refine G2 14 [9] [] [] E (Ix hb4729 hA1 E E fun _ _ _ _ hr1 hc2 _ hb4729 => ?_)
      obtain rfl := hr1
      refine Q3 1 [] [] [64] (Z1 hc2) E (Cl E ?_)
      obtain ⟨_, hx2, hb4729⟩ := obind hb4729
      refine tour_plan_2_fn  hx2 ((Q0 1 E ?_))
      refine Br hb4729 16 E E (fun hc3 hb4729 => ?_) (fun hc3 hb4729 => ?_)
      · refine G2 6 [16] [] [] E ?_
        cases hb4729
        have hq_ := hq4729 _ E
        subst hq_
        replace h := osum_r h
        cases h
        exact Rt [] E E (Ug [] 0 hR)
      refine G2 7 [] [16] [] E ?_
      cases hb4729
      exact Ce E ⟨_, rfl, fE E, sE [] 0 E, rfl⟩
    refine G2 2 [] [9] [] E ?_
    cases hb4729
    have hq_ := hq4729 _ E
    subst hq_
    exact Ce E ⟨rfl, fE E, sE [] 0 E, rfl⟩
  rintro _ _ _ _ h _ ⟨rfl, hF4727, hS4727, rfl⟩
  replace h := osum_l h
  refine Atn 0 hF4727 hS4727 E E (G0 4 E ?_)
  cases h
  exact Rt [] E E (Ug [] 0 hR)

theorem slices_ContainsFunc_int_c57_fn  {s1 : (List Int)} {A1 : Option Addr} {c1 : Nat} {res1 : Bool}
    (hl1 : s1.length ≤ c1 ∧ c1 ≤ maxLen) (hA1 : Rds rInt μ L A1 s1) (h : slices_ContainsFunc_int_c57 s1 = some res1)
    (hR : R (.bool res1) μ (L)) :
    Fn Try.prog 56 [.slice A1 s1.length c1, .func (.func 57) #[] #[]] μ (L) R := by
  unfold slices_ContainsFunc_int_c57 at h
  refine FnS Try.func56 (by kernel_rfl) E Try.ntmps56 E E ?_
  refine G0 8 E (Cl E ?_)
  obtain ⟨_, hx1, h⟩ := obind h
  refine slices_IndexFunc_int_c57_fn hl1 hA1 hx1 ((Q0 3 E ?_))
  cases h
  exact Rt [] E E (Ug [] 0 hR)

theorem tour_plan_fn {F : Nat} {p1 : T_api_Problem} {x1 : T_api_Plan} {A1 : Option Addr} {c1 : Nat} {A2 : Option Addr} {c2 : Nat} {A3 : Option Addr} {c3 : Nat} {A4 : Option Addr} {c4 : Nat} {A5 : Option Addr} {c5 : Nat} {res1 : Int} {res2 : Int}
    (hl1 : p1.Road.Edges.length ≤ c1 ∧ c1 ≤ maxLen) (hA1 : ArrR r_api_Edge μ A1 p1.Road.Edges) (hl2 : p1.Vehicles.length ≤ c2 ∧ c2 ≤ maxLen) (hA2 : ArrR r_api_Vehicle μ A2 p1.Vehicles) (hl3 : p1.Demands.length ≤ c3 ∧ c3 ≤ maxLen) (hA3 : ArrR r_api_Demand μ A3 p1.Demands) (hl4 : x1.Tours.length ≤ c4 ∧ c4 ≤ maxLen) (hA4 : ArrR r_api_Tour μ A4 x1.Tours) (hl5 : x1.Left.length ≤ c5 ∧ c5 ≤ maxLen) (hA5 : ArrR rInt μ A5 x1.Left) (h : tour_plan F p1 x1 = some (res1, res2))
    (hR : ∀ (μ' : Gh) , μ.le μ' → R (.tuple #[.int .i64 res1, .int .i64 res2]) μ' (L)) :
    Fn Try.prog 39 [.agg #[.int .i64 p1.Road.Nodes, .slice A1 p1.Road.Edges.length c1, .slice A2 p1.Vehicles.length c2, .slice A3 p1.Demands.length c3, .int .i64 p1.Unload, .int .i64 p1.UnloadSecs], .agg #[.slice A4 x1.Tours.length c4, .slice A5 x1.Left.length c5]] μ (L) R := by
  unfold tour_plan at h
  refine FnS Try.func39 (by kernel_rfl) E Try.ntmps39 E E ?_
  refine G0 2 E (Al E fun _ => Q0 0 E (Al E fun g2 => Q1 7 [1] E (Cl E ?_)))
  obtain ⟨_, hx1, h⟩ := obind h
  refine tour_Check_fn hl1 hA1 hl2 hA2 hl3 hA3 hx1 (fun _ hm_1 => ?_)
  replace hA1 := hA1.mono hm_1
  replace hA2 := hA2.mono hm_1
  replace hA3 := hA3.mono hm_1
  replace hA4 := hA4.mono hm_1
  replace hA5 := hA5.mono hm_1
  refine Q0 7 E ?_
  refine Br h 23 E E (fun hc1 h => ?_) (fun hc1 h => ?_)
  · refine G2 7 [23] [] [] E ?_
    cases h
    exact Rt [] E E (Ug [] 2 (hR _ hm_1))
  refine G2 14 [] [23] [0] E ?_
  refine Cut h (fun f l o_ f_ μ_ l_ => ∃ (sum2 : Int), (.inl sum2) = o_ ∧ SubFr ((7, .int .i64 sum2) :: keepF [2, 3] f) f_ ∧ SegSub (selS [some 1, some 0] 2 l) l_) ?_ ?_
  · intro _ h4737 h
    refine Lp h4737 (fun f l (j_ : Int × Int) f_ μ_ l_ => ounP j_ fun sum1 v2 => SubFr ((7, .int .i64 sum1) :: (28, .int .i64 v2) :: keepF [2, 3, 26, 27] f) f_ ∧ SegSub (selS [some 1, some 0] 2 l) l_) ⟨fE E, sE [some 1, some 0] 2 E⟩ ?_
    rintro ⟨sum1, v2⟩ _ _ _ _ hm4768 ⟨hF4768, hS4768⟩ hb4768 hq4768
    unfold tour_plan_l1 at hb4768
    replace hb4768 := oun_mk hb4768
    replace hA1 := hA1.mono hm4768
    replace hA2 := hA2.mono hm4768
    replace hA3 := hA3.mono hm4768
    replace hA4 := hA4.mono hm4768
    replace hA5 := hA5.mono hm4768
    refine Atn 2 hF4768 hS4768 E E (G0 5 E ?_)
    refine Br hb4768 29 E E (fun hc2 hb4768 => ?_) (fun hc2 hb4768 => ?_)
    · refine G2 7 [29] [] [] E (Ix hb4768 (ArrR.rds hA4 L) E E fun _ _ _ _ hr1 hc3 _ hb4768 => ?_)
      obtain ⟨_, _, rfl, hl6, hA7⟩ := hr1
      refine Q3 1 [] [] [64] (Z1 (hc3.push.push)) E (Al E fun _ => ?_)
      obtain ⟨_, hs1, hb4768⟩ := obind hb4768
      refine Q1 9 [0, 2] E (Rdo E E (R_slHiS E E E E E E hl4.1 hs1 ?_))
      have hA8 := ArrR.pre hA4 hs1
      have hl7 := preLen hl4 hs1
      refine Q0 1 E (Cl E ?_)
      obtain ⟨_, hx3, hb4768⟩ := obind hb4768
      refine slices_ContainsFunc_Tour_c55_fn hl7 (ArrR.rds hA8 _) hl6 hA7 hx3 ((Q0 1 E ?_))
      refine Br hb4768 38 E E (fun hc4 hb4768 => ?_) (fun hc4 hb4768 => ?_)
      · refine G2 6 [38] [] [] E ?_
        cases hb4768
        have hq_ := hq4768 _ E
        subst hq_
        replace h := osum_r h
        cases h
        exact Rt [] E E (Ug [] 3 (hR _ (hm_1.trans hm4768)))
      refine G2 6 [] [38] [1, 0] E (Cl E ?_)
      obtain ⟨⟨_, _, _⟩, hx4, hb4768⟩ := obind hb4768
      replace hb4768 := oun_mk hb4768
      replace hb4768 := oun_mk hb4768
      refine tour_follow_fn hl1 hA1 hl2 hA2 hl3 hA3 hl6 hA7 hx4 (fun _ _ _ hm_2 hP1 => ?_)
      replace hA4 := hA4.mono hm_2
      replace hA5 := hA5.mono hm_2
      refine Q0 14 E ?_
      refine Br hb4768 47 E E (fun hc5 hb4768 => ?_) (fun hc5 hb4768 => ?_)
      · refine G2 7 [47] [] [] E ?_
        cases hb4768
        have hq_ := hq4768 _ E
        subst hq_
        replace h := osum_r h
        cases h
        exact Rt [] E E (Ug [] 4 (hR _ (hm_1.trans (hm4768.trans hm_2))))
      obtain ⟨_, hm_3, hb4768⟩ := obind hb4768
      have hP2 := ObjO.get hP1 hm_3
      obtain ⟨_, _, _, _, _, _, _, _, _, _, _, _, _, hv1, rfl, ⟨_, _⟩, ⟨_, _⟩, ⟨_, _⟩, _, _⟩ := hP2
      subst hv1
      refine G2 2 [] [47] [] E (In Obj_tour_walk.fl 0 6 E E E (G1 15 [0] E ?_))
      cases hb4768
      exact Ce E ⟨_, rfl, fE E, sE [some 4, some 5] 6 E⟩
    refine G2 2 [] [29] [] E ?_
    cases hb4768
    have hq_ := hq4768 _ E
    subst hq_
    exact Ce E ⟨_, rfl, fE E, sE [some 0, some 1] 2 E⟩
  rintro _ _ _ _ h hm4737 ⟨sum2, rfl, hF4737, hS4737⟩
  replace h := osum_l h
  replace hA4 := hA4.mono hm4737
  replace hA5 := hA5.mono hm4737
  refine Atn 2 hF4737 hS4737 E E (G1 5 [0] E (So E (O_mksl E E ?_)))
  obtain ⟨_, hn1, h⟩ := obind h
  refine sem_mkO (r := rInt) (z := 0) (zc := [.int .i64 0]) Tt_ok E E E E E (E) E hn1 fun A11 c11 ch2 hO2 => Q1 10 [2] E ?_
  refine Cut h (fun f l o_ f_ μ_ l_ => ∃ (times2 : (List Int)) (A13 : Option Addr) (c13 : Nat) (ch5 : Seg), (.inl times2) = o_ ∧ SubFr ((13, .slice A13 times2.length c13) :: keepF [3, 7] f) f_ ∧ SegSub ([(g2, .cells #[.slice A4 x1.Tours.length c4, .slice A5 x1.Left.length c5] 56 (0, 0))] :: ch5 :: selS [] 3 l) l_ ∧ Own rInt 3 μ_ (.slice A13 times2.length c13) times2 ch5) ?_ ?_
  · intro _ h4803 h
    refine Lp h4803 (fun f l (j_ : (List Int) × Int) f_ μ_ l_ => ounP j_ fun times1 v4 => ∃ (A12 : Option Addr) (c12 : Nat) (ch3 : Seg), SubFr ((13, .slice A12 times1.length c12) :: (64, .int .i64 v4) :: keepF [3, 7, 62, 63] f) f_ ∧ SegSub ([(g2, .cells #[.slice A4 x1.Tours.length c4, .slice A5 x1.Left.length c5] 56 (0, 0))] :: ch3 :: selS [] 3 l) l_ ∧ Own rInt 3 μ_ (.slice A12 times1.length c12) times1 ch3) ⟨A11, c11, ch2, fE E, sE [some 2, some 0] 3 E, (hO2)⟩ ?_
    rintro ⟨times1, v4⟩ _ _ _ _ hm4814 ⟨A12, c12, ch3, hF4814, hS4814, hO3⟩ hb4814 hq4814
    unfold tour_plan_l2 at hb4814
    replace hb4814 := oun_mk hb4814
    replace hA4 := hA4.mono hm4814
    replace hA5 := hA5.mono hm4814
    refine Atn 2 hF4814 hS4814 E E (G0 5 E ?_)
    refine Br hb4814 65 E E (fun hc6 hb4814 => ?_) (fun hc6 hb4814 => ?_)
    · refine G2 6 [65] [] [] E (Ix hb4814 (ArrR.rds hA5 L) E E fun x3 _ _ _ hr2 hc7 _ hb4814 => ?_)
      obtain rfl := hr2
      refine Q3 5 [] [] [64] (Z1 (hc7.push.push)) E ?_
      refine Cut hb4814 (fun f l o_ f_ μ_ l_ => ∃ (v5 : Bool), v5 = o_ ∧ SubFr ((75, .bool v5) :: keepF [3, 7, 13, 15, 62, 63, 64] f) f_ ∧ SegSub l l_) ?_ ?_
      · intro _ h4820 hb4814
        refine G0 4 E ?_
        refine Br h4820 70 E E (fun hc8 h4820 => ?_) (fun hc8 h4820 => ?_)
        · refine G2 6 [70] [] [] E ?_
          cases h4820
          exact Ce E ⟨_, rfl, fE E, sE [some 0, some 1] 2 E⟩
        refine G2 6 [] [70] [] E ?_
        cases h4820
        exact Ce E ⟨_, rfl, fE E, sE [some 0, some 1] 2 E⟩
      rintro _ _ _ _ hb4814 hm4820 ⟨v5, rfl, hF4820, hS4820⟩
      replace hA4 := hA4.mono hm4820
      replace hO3 := hO3.mono hm4820
      refine Atn 2 hF4820 hS4820 E E ?_
      refine Br hb4814 75 E E (fun hc9 hb4814 => ?_) (fun hc9 hb4814 => ?_)
      · refine G2 6 [75] [] [] E ?_
        cases hb4814
        have hq_ := hq4814 _ E
        subst hq_
        replace h := osum_r h
        cases h
        exact Rt [] E E (Ug [] 2 (hR _ (hm_1.trans (hm4737.trans (hm4814.trans hm4820)))))
      refine G2 5 [] [75] [] E (IxA hb4814 (Own.rds hO3 1 E) E E fun x4 _ _ _ hr3 hc10 _ hb4814 => ?_)
      obtain rfl := hr3
      refine Q3 2 [] [] [64] (Z1 hc10) E (IxA hb4814 (Own.rds hO3 1 E) E E fun _ a4 _ hx7 hr4 _ hA14 hb4814 => ?_)
      obtain rfl := hr4
      refine Q0 0 E (So E (O_store (vs := [.int .i64 (w64 (x4 + 1))]) E E E E E E ?_))
      rw [← Addr.add_zero' ((a4.add (x3.toNat * 1)))]
      refine Own.store (r := rInt) (x' := w64 (x4 + 1)) (o := 0) (sz := 1) 1 rfl hO3 hA14 hx7 rfl rfl (by rintro _ rfl; rfl) fun ch4 hO4 => ?_
      rw [← length_setI times1 x3 (w64 (x4 + 1))] at hO4 ⊢
      refine Q0 6 E ?_
      cases hb4814
      exact Ce E ⟨_, rfl, A12, c12, ch4, fE E, sE [some 0, some 1] 2 E, (hO4)⟩
    refine G2 2 [] [65] [] E ?_
    cases hb4814
    have hq_ := hq4814 _ E
    subst hq_
    exact Ce E ⟨_, A12, c12, ch3, rfl, fE E, sE [some 0, some 1] 2 E, (hO3)⟩
  rintro _ _ _ _ h hm4803 ⟨times2, A13, c13, ch5, rfl, hF4803, hS4803, hO5⟩
  replace h := osum_l h
  replace hA4 := hA4.mono hm4803
  refine Atn 2 hF4803 hS4803 E E (G1 8 [0] E ?_)
  refine Cut h (fun f l o_ f_ μ_ l_ => ∃ (times8 : (List Int)) (A20 : Option Addr) (c20 : Nat) (ch12 : Seg), times8 = o_ ∧ SubFr ((13, .slice A20 times8.length c20) :: keepF [7] f) f_ ∧ SegSub (ch12 :: selS [] 2 l) l_ ∧ Own rInt 3 μ_ (.slice A20 times8.length c20) times8 ch12) ?_ ?_
  · intro _ h4828 h
    refine Lp h4828 (fun f l (j_ : (List Int) × Int) f_ μ_ l_ => ounP j_ fun times3 v6 => ∃ (A14 : Option Addr) (c14 : Nat) (ch6 : Seg), SubFr ((13, .slice A14 times3.length c14) :: (86, .int .i64 v6) :: keepF [7, 84, 85] f) f_ ∧ SegSub (ch6 :: selS [] 2 l) l_ ∧ Own rInt 3 μ_ (.slice A14 times3.length c14) times3 ch6) ⟨A13, c13, ch5, fE E, sE [some 1] 2 E, (hO5)⟩ ?_
    rintro ⟨times3, v6⟩ _ _ _ _ hm4850 ⟨A14, c14, ch6, hF4850, hS4850, hO6⟩ hb4850 hq4850
    unfold tour_plan_l4 at hb4850
    replace hb4850 := oun_mk hb4850
    replace hA4 := hA4.mono hm4850
    refine Atn 1 hF4850 hS4850 E E (G0 5 E ?_)
    refine Br hb4850 87 E E (fun hc12 hb4850 => ?_) (fun hc12 hb4850 => ?_)
    · refine G2 3 [87] [] [] E ?_
      refine Cut hb4850 (fun f l o_ f_ μ_ l_ => ∃ (times7 : (List Int)) (A19 : Option Addr) (c19 : Nat) (ch11 : Seg), times7 = o_ ∧ SubFr ((13, .slice A19 times7.length c19) :: keepF [7, 84, 85, 86] f) f_ ∧ SegSub (ch11 :: selS [] 1 l) l_ ∧ Own rInt 3 μ_ (.slice A19 times7.length c19) times7 ch11) ?_ ?_
      · intro _ h4853 hb4850
        refine G0 3 E (Ix h4853 (ArrR.rds hA4 L) E E fun _ _ _ _ hr5 hc13 _ h4853 => ?_)
        obtain ⟨_, _, rfl, _, hA16⟩ := hr5
        refine Q3 1 [] [] [64] (Z1 (hc13.push)) E (Al E fun _ => Q1 9 [0, 0] E ?_)
        refine Cut h4853 (fun f l o_ f_ μ_ l_ => ∃ (times6 : (List Int)) (A18 : Option Addr) (c18 : Nat) (ch10 : Seg), times6 = o_ ∧ SubFr ((13, .slice A18 times6.length c18) :: keepF [7, 84, 85, 86] f) f_ ∧ SegSub (ch10 :: selS [] 2 l) l_ ∧ Own rInt 3 μ_ (.slice A18 times6.length c18) times6 ch10) ?_ ?_
        · intro _ h4858 h4853
          refine Lp h4858 (fun f l (j_ : (List Int) × Int) f_ μ_ l_ => ounP j_ fun times4 v7 => ∃ (A16 : Option Addr) (c16 : Nat) (ch7 : Seg), SubFr ((13, .slice A16 times4.length c16) :: (93, .int .i64 v7) :: keepF [7, 84, 85, 86, 91, 92] f) f_ ∧ SegSub (ch7 :: selS [] 2 l) l_ ∧ Own rInt 3 μ_ (.slice A16 times4.length c16) times4 ch7) ⟨A14, c14, ch6, fE E, sE [some 1] 2 E, (hO6)⟩ ?_
          rintro ⟨times4, v7⟩ _ _ _ _ hm4864 ⟨A16, c16, ch7, hF4864, hS4864, hO7⟩ hb4864 hq4864
          unfold tour_plan_l3 at hb4864
          replace hb4864 := oun_mk hb4864
          replace hO6 := hO6.mono hm4864
          replace hA16 := hA16.mono hm4864
          refine Atn 1 hF4864 hS4864 E E (G0 5 E ?_)
          refine Br hb4864 94 E E (fun hc14 hb4864 => ?_) (fun hc14 hb4864 => ?_)
          · refine G2 3 [94] [] [] E ?_
            refine Cut hb4864 (fun f l o_ f_ μ_ l_ => ∃ (times5 : (List Int)) (A17 : Option Addr) (c17 : Nat) (ch9 : Seg), times5 = o_ ∧ SubFr ((13, .slice A17 times5.length c17) :: keepF [7, 84, 85, 86, 91, 92, 93] f) f_ ∧ SegSub (ch9 :: selS [] 1 l) l_ ∧ Own rInt 3 μ_ (.slice A17 times5.length c17) times5 ch9) ?_ ?_
            · intro _ h4867 hb4864
              refine G0 3 E (Ix h4867 (ArrR.rds hA16 L) E E fun x7 _ _ _ hr6 hc15 _ h4867 => ?_)
              obtain rfl := hr6
              refine Q3 8 [] [] [64] (Z1 (hc15.push)) E ?_
              refine Br h4867 98 E E (fun hc16 h4867 => ?_) (fun hc16 h4867 => ?_)
              · refine G2 4 [98] [] [] E (IxA h4867 (Own.rds hO7 0 E) E E fun x8 _ _ _ hr7 hc17 _ h4867 => ?_)
                obtain rfl := hr7
                refine Q3 2 [] [] [64] (Z1 hc17) E (IxA h4867 (Own.rds hO7 0 E) E E fun _ a8 _ hx11 hr8 _ hA19 h4867 => ?_)
                obtain rfl := hr8
                refine Q0 0 E (So E (O_store (vs := [.int .i64 (w64 (x8 + 1))]) E E E E E E ?_))
                rw [← Addr.add_zero' ((a8.add (x7.toNat * 1)))]
                refine Own.store (r := rInt) (x' := w64 (x8 + 1)) (o := 0) (sz := 1) 0 rfl hO7 hA19 hx11 rfl rfl (by rintro _ rfl; rfl) fun ch8 hO8 => ?_
                rw [← length_setI times4 x7 (w64 (x8 + 1))] at hO8 ⊢
                refine Q0 2 E ?_
                cases h4867
                exact Ce E ⟨_, A16, c16, ch8, rfl, fE E, sE [some 0] 1 E, (hO8)⟩
              refine G2 3 [] [98] [] E ?_
              cases h4867
              exact Ce E ⟨_, A16, c16, ch7, rfl, fE E, sE [some 0] 1 E, (hO7)⟩
            rintro _ _ _ _ hb4864 hm4867 ⟨times5, A17, c17, ch9, rfl, hF4867, hS4867, hO9⟩
            replace hO6 := hO6.mono hm4867
            replace hO7 := hO7.mono hm4867
            refine Atn 1 hF4867 hS4867 E E (G0 4 E ?_)
            cases hb4864
            exact Ce E ⟨_, rfl, A17, c17, ch9, fE E, sE [some 0] 1 E, (hO9)⟩
          refine G2 2 [] [94] [] E ?_
          cases hb4864
          have hq_ := hq4864 _ E
          subst hq_
          exact Ce E ⟨_, A16, c16, ch7, rfl, fE E, sE [some 0] 1 E, (hO7)⟩
        rintro _ _ _ _ h4853 hm4858 ⟨times6, A18, c18, ch10, rfl, hF4858, hS4858, hO10⟩
        replace hO6 := hO6.mono hm4858
        refine G0 1 E ?_
        cases h4853
        exact Ce E ⟨_, A18, c18, ch10, rfl, hF4858.tr E, hS4858.tr (sE [some 0] 1 E), (hO10)⟩
      rintro _ _ _ _ hb4850 hm4853 ⟨times7, A19, c19, ch11, rfl, hF4853, hS4853, hO11⟩
      replace hO6 := hO6.mono hm4853
      refine Atn 1 hF4853 hS4853 E E (G0 4 E ?_)
      cases hb4850
      exact Ce E ⟨_, rfl, A19, c19, ch11, fE E, sE [some 0] 1 E, (hO11)⟩
    refine G2 2 [] [87] [] E ?_
    cases hb4850
    have hq_ := hq4850 _ E
    subst hq_
    exact Ce E ⟨_, A14, c14, ch6, rfl, fE E, sE [some 0] 1 E, (hO6)⟩
  rintro _ _ _ _ h hm4828 ⟨times8, A20, c20, ch12, rfl, hF4828, hS4828, hO12⟩
  refine Atn 1 hF4828 hS4828 E E (G0 4 E (Cl E ?_))
  obtain ⟨_, hx12, h⟩ := obind h
  refine slices_ContainsFunc_int_c57_fn (Own.lenOk hO12) (Own.rds hO12 0 E) hx12 ((Q0 1 E ?_))
  refine Br h 108 E E (fun hc19 h => ?_) (fun hc19 h => ?_)
  · refine G2 6 [108] [] [] E ?_
    cases h
    exact Rt [] E E (Ug [] 1 (hR _ (hm_1.trans (hm4737.trans (hm4803.trans hm4828)))))
  refine G2 6 [] [108] [] E (Cl E ?_)
  obtain ⟨_, hx13, h⟩ := obind h
  refine slices_Contains_int_fn (Own.lenOk hO12) (Own.rds hO12 0 E) hx13 ((Q0 1 E ?_))
  refine Br h 110 E E (fun hc20 h => ?_) (fun hc20 h => ?_)
  · refine G2 6 [110] [] [] E ?_
    cases h
    exact Rt [] E E (Ug [] 1 (hR _ (hm_1.trans (hm4737.trans (hm4803.trans hm4828)))))
  refine G2 8 [] [110] [] E ?_
  cases h
  exact Rt [] E E (Ug [] 1 (hR _ (hm_1.trans (hm4737.trans (hm4803.trans hm4828)))))

theorem tour_Feasible_fn {F : Nat} {p1 : T_api_Problem} {x1 : T_api_Plan} {A1 : Option Addr} {c1 : Nat} {A2 : Option Addr} {c2 : Nat} {A3 : Option Addr} {c3 : Nat} {A4 : Option Addr} {c4 : Nat} {A5 : Option Addr} {c5 : Nat} {res1 : Int}
    (hl1 : p1.Road.Edges.length ≤ c1 ∧ c1 ≤ maxLen) (hA1 : ArrR r_api_Edge μ A1 p1.Road.Edges) (hl2 : p1.Vehicles.length ≤ c2 ∧ c2 ≤ maxLen) (hA2 : ArrR r_api_Vehicle μ A2 p1.Vehicles) (hl3 : p1.Demands.length ≤ c3 ∧ c3 ≤ maxLen) (hA3 : ArrR r_api_Demand μ A3 p1.Demands) (hl4 : x1.Tours.length ≤ c4 ∧ c4 ≤ maxLen) (hA4 : ArrR r_api_Tour μ A4 x1.Tours) (hl5 : x1.Left.length ≤ c5 ∧ c5 ≤ maxLen) (hA5 : ArrR rInt μ A5 x1.Left) (h : tour_Feasible F p1 x1 = some res1)
    (hR : ∀ (μ' : Gh) , μ.le μ' → R (.int .i64 res1) μ' (L)) :
    Fn Try.prog 25 [.agg #[.int .i64 p1.Road.Nodes, .slice A1 p1.Road.Edges.length c1, .slice A2 p1.Vehicles.length c2, .slice A3 p1.Demands.length c3, .int .i64 p1.Unload, .int .i64 p1.UnloadSecs], .agg #[.slice A4 x1.Tours.length c4, .slice A5 x1.Left.length c5]] μ (L) R := by
  unfold tour_Feasible at h
  refine FnS Try.func25 (by kernel_rfl) E Try.ntmps25 E E ?_
  refine G0 2 E (Al E fun _ => Q0 0 E (Al E fun _ => Q1 6 [1, 0] E (Cl E ?_)))
  obtain ⟨⟨_, _⟩, hx1, h⟩ := obind h
  replace h := oun_mk h
  refine tour_plan_fn hl1 hA1 hl2 hA2 hl3 hA3 hl4 hA4 hl5 hA5 hx1 (fun _ hm_1 => ?_)
  refine Q0 11 E ?_
  cases h
  exact Rt [] E E (Ug [] 2 (hR _ hm_1))

end Go.Proofs.Ytjbminmhndgiaaa
