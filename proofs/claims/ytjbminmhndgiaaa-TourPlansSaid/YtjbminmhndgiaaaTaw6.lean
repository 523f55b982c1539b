/- Printed by gen2.py of this repo: the walks that tie the functions to their specifications. -/
import Derived.Test.YtjbminmhndgiaaaTt
import Derived.Test.YtjbminmhndgiaaaTas
import Derived.Test.YtjbminmhndgiaaaTaw1
import Derived.Test.YtjbminmhndgiaaaTaw4
import Derived.Test.YtjbminmhndgiaaaTaw5
namespace Go.Proofs.Ytjbminmhndgiaaa
open Go.RowKit
set_option linter.unusedSimpArgs false
set_option linter.unusedVariables false
set_option maxRecDepth 4000
attribute [local irreducible] WP SemOk SemU Fn AN Upd vcR vcO vcOps vcPlan putK fillK resK inBlk forkOne Cell StAt Kept KS

variable {μ : Gh} {L : List Seg} {R : Value → Gh → List Seg → Prop}
theorem recyclingref22_Cost_fn  {p1 : T_api_Problem} {t1 : T_api_Tour} {A1 : Option Addr} {c1 : Nat} {A2 : Option Addr} {c2 : Nat} {A3 : Option Addr} {c3 : Nat} {A4 : Option Addr} {c4 : Nat} {res1 : Int} {res2 : Int}
    (hl1 : p1.Road.Edges.length ≤ c1 ∧ c1 ≤ maxLen) (hA1 : ArrR r_api_Edge μ A1 p1.Road.Edges) (hl2 : p1.Vehicles.length ≤ c2 ∧ c2 ≤ maxLen) (hA2 : ArrR r_api_Vehicle μ A2 p1.Vehicles) (hl3 : p1.Demands.length ≤ c3 ∧ c3 ≤ maxLen) (hA3 : ArrR r_api_Demand μ A3 p1.Demands) (hl4 : t1.Stops.length ≤ c4 ∧ c4 ≤ maxLen) (hA4 : ArrR rInt μ A4 t1.Stops) (h : recyclingref22_Cost p1 t1 = some (res1, res2))
    (hR : R (.tuple #[.int .i64 res1, .int .i64 res2]) μ (L)) :
    Fn Try.prog 19 [.agg #[.int .i64 p1.Road.Nodes, .slice A1 p1.Road.Edges.length c1, .slice A2 p1.Vehicles.length c2, .slice A3 p1.Demands.length c3, .int .i64 p1.Unload, .int .i64 p1.UnloadSecs], .agg #[.int .i64 t1.Vehicle, .slice A4 t1.Stops.length c4]] μ (L) R := by
  unfold recyclingref22_Cost at h
  refine FnS Try.func19 (by kernel_rfl) E Try.ntmps19 E E ?_
  refine G0 2 E (Al E fun _ => Q0 0 E (Al E fun _ => Q1 7 [1, 0] E (Cl E ?_)))
  obtain ⟨⟨_, _, _⟩, hx1, h⟩ := obind h
  replace h := oun_mk h
  replace h := oun_mk h
  refine recyclingref22_Walk_fn hl1 hA1 hl2 hA2 hl3 hA3 hl4 hA4 hx1 (fun _ _ _ hO1 => Q0 14 E ?_)
  refine Br h 21 E E (fun hc1 h => ?_) (fun hc1 h => ?_)
  · refine G2 7 [21] [] [] E ?_
    cases h
    exact Rt [] E E (Ug [] 3 hR)
  refine G2 12 [] [21] [2, 1] E (Ix h (ArrR.rds hA2 L) E E fun _ _ _ _ hr1 hc2 _ h => ?_)
  obtain rfl := hr1
  refine Q3 11 [] [] [65] (Z1 (hc2.push.push.push)) E ?_
  refine Cut h (fun f l o_ f_ μ_ l_ => ∃ (sum2 : Int), sum2 = o_ ∧ SubFr ((9, .int .i64 sum2) :: []) f_ ∧ SegSub (selS [] 3 l) l_ ∧ μ = μ_) ?_ ?_
  · intro _ h5505 h
    refine Lp h5505 (fun f l (j_ : Int × Int × Int) f_ μ_ l_ => ounP j_ fun sum1 j_ => ounP j_ fun f_at1 v1 => SubFr ((9, .int .i64 sum1) :: (10, .int .i64 f_at1) :: (32, .int .i64 v1) :: keepF [2, 30, 31] f) f_ ∧ SegSub (selS [some 2, some 0] 3 l) l_ ∧ μ = μ_) ⟨fE E, sE [some 2, some 0] 3 E, E⟩ ?_
    rintro ⟨sum1, f_at1, v1⟩ _ _ _ _ _ ⟨hF5513, hS5513, rfl⟩ hb5513 hq5513
    unfold recyclingref22_Cost_l1 at hb5513
    replace hb5513 := oun_mk hb5513
    replace hb5513 := oun_mk hb5513
    refine Atn 2 hF5513 hS5513 E E (G0 5 E ?_)
    refine Br hb5513 33 E E (fun hc3 hb5513 => ?_) (fun hc3 hb5513 => ?_)
    · refine G2 6 [33] [] [] E (IxA hb5513 (Own.rds hO1 1 E) E E fun _ _ _ _ hr2 hc4 _ hb5513 => ?_)
      obtain rfl := hr2
      refine Q3 1 [] [] [64] (Z1 hc4) E (Al E fun _ => Q1 9 [0, 1, 0] E (Cl E ?_))
      obtain ⟨_, hx4, hb5513⟩ := obind hb5513
      refine recyclingref22_Leg_fn hl1 hA1 hl2 hA2 hl3 hA3 hx4 ((Q1 14 [0] E ?_))
      cases hb5513
      exact Ce E ⟨_, rfl, fE E, sE [some 1, some 2] 3 E, rfl⟩
    refine G2 2 [] [33] [] E ?_
    cases hb5513
    have hq_ := hq5513 _ E
    subst hq_
    exact Ce E ⟨_, rfl, fE E, sE [] 2 E, rfl⟩
  rintro _ _ _ _ h _ ⟨sum2, rfl, hF5505, hS5505, rfl⟩
  refine Atn 0 hF5505 hS5505 E E (G0 6 E ?_)
  cases h
  exact Rt [] E E (Ug [] 0 hR)

end Go.Proofs.Ytjbminmhndgiaaa
