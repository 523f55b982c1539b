/- Printed by gen2.py of this repo: the walks that tie the functions to their specifications. -/
import Derived.Test.YtfekfbcghnlohaaTt
import Derived.Test.YtfekfbcghnlohaaTas
import Derived.Test.YtfekfbcghnlohaaTaw1
namespace Go.Proofs.Ytfekfbcghnlohaa
open Go.RowKit
set_option linter.unusedSimpArgs false
set_option linter.unusedVariables false
set_option maxHeartbeats 2000000
set_option maxRecDepth 4000
attribute [local irreducible] WP SemOk SemU Fn AN Upd vcR vcO vcOps vcPlan putK fillK resK inBlk forkOne Cell StAt Kept KS

variable {μ : Gh} {L : List Seg} {R : Value → Gh → List Seg → Prop}
theorem recyclinglaw23_light_fn  {p1 : T_api_Problem} {t1 : T_api_Tour} {A1 : Option Addr} {c1 : Nat} {A2 : Option Addr} {c2 : Nat} {A3 : Option Addr} {c3 : Nat} {A4 : Option Addr} {c4 : Nat} {res1 : Bool}
    (hl1 : p1.Road.Edges.length ≤ c1 ∧ c1 ≤ maxLen) (hA1 : ArrR r_api_Edge μ A1 p1.Road.Edges) (hl2 : p1.Vehicles.length ≤ c2 ∧ c2 ≤ maxLen) (hA2 : ArrR r_api_Vehicle μ A2 p1.Vehicles) (hl3 : p1.Demands.length ≤ c3 ∧ c3 ≤ maxLen) (hA3 : ArrR r_api_Demand μ A3 p1.Demands) (hl4 : t1.Stops.length ≤ c4 ∧ c4 ≤ maxLen) (hA4 : ArrR rInt μ A4 t1.Stops) (h : recyclinglaw23_light p1 t1 = some res1)
    (hR : R (.bool res1) μ (L)) :
    Fn Try.prog 10 [.agg #[.int .i64 p1.Road.Nodes, .slice A1 p1.Road.Edges.length c1, .slice A2 p1.Vehicles.length c2, .slice A3 p1.Demands.length c3, .int .i64 p1.Unload, .int .i64 p1.UnloadSecs], .agg #[.int .i64 t1.Vehicle, .slice A4 t1.Stops.length c4]] μ (L) R := by
  unfold recyclinglaw23_light at h
  refine FnS Try.func10 (by kernel_rfl) E Try.ntmps10 E E ?_
  refine G0 2 E (Al E fun _ => Q0 0 E (Al E fun _ => Q0 3 E ?_))
  refine Cut h (fun f l o_ f_ μ_ l_ => ∃ (v1 : Bool), v1 = o_ ∧ SubFr ((4, .bool v1) :: []) f_ ∧ SegSub (selS [] 2 l) l_ ∧ μ = μ_) ?_ ?_
  · intro _ h13 h
    refine G1 2 [1] E (Cl E ?_)
    obtain ⟨_, hx1, h13⟩ := obind h13
    refine recyclingref22_Large_fn hl1 hA1 hl2 hA2 hl3 hA3 hx1 ((Q0 2 E ?_))
    refine Br h13 8 E E (fun hc1 h13 => ?_) (fun hc1 h13 => ?_)
    · refine G2 7 [8] [] [0] E ?_
      cases h13
      exact Ce E ⟨_, rfl, fE E, sE [] 2 E, rfl⟩
    refine G2 7 [] [8] [] E ?_
    cases h13
    exact Ce E ⟨_, rfl, fE E, sE [] 2 E, rfl⟩
  rintro _ _ _ _ h _ ⟨v1, rfl, hF13, hS13, rfl⟩
  refine Atn 0 hF13 hS13 E E ?_
  cases h
  exact Rt [] E E (Ug [] 0 hR)

end Go.Proofs.Ytfekfbcghnlohaa
