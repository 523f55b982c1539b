/- Printed by gen2.py of this repo: the walks that tie the functions to their specifications. -/
import Derived.Test.YthpgjbbjpfiniaaGreatTt
import Derived.Test.YthpgjbbjpfiniaaGreatTas
import Derived.Test.YthpgjbbjpfiniaaGreatTaw1
namespace Go.Proofs.YthpgjbbjpfiniaaGreat
open Go.RowKit
set_option linter.unusedSimpArgs false
set_option linter.unusedVariables false
set_option maxHeartbeats 2000000
set_option maxRecDepth 4000
attribute [local irreducible] WP SemOk SemU Fn AN Upd vcR vcO vcOps vcPlan putK fillK resK inBlk forkOne Cell StAt Kept KS
variable {μ : Gh} {L : List Seg} {R : Value → Gh → List Seg → Prop}
theorem recyclingref25_Of_fn  {x1 : T_api_Plan} {v1 : Int} {A1 : Option Addr} {c1 : Nat} {A2 : Option Addr} {c2 : Nat} {res1 : T_api_Tour}
    (hl1 : x1.Tours.length ≤ c1 ∧ c1 ≤ maxLen) (hA1 : ArrR r_api_Tour μ A1 x1.Tours) (hl2 : x1.Left.length ≤ c2 ∧ c2 ≤ maxLen) (hA2 : ArrR rInt μ A2 x1.Left) (h : recyclingref25_Of x1 v1 = some res1)
    (hR : ∀ (A0_1 : Option Addr) (c0_1 : Nat), (res1.Stops.length ≤ c0_1 ∧ c0_1 ≤ maxLen) → ArrR rInt μ A0_1 res1.Stops → R (.agg #[.int .i64 res1.Vehicle, .slice A0_1 res1.Stops.length c0_1]) μ (L)) :
    Fn Tryz.prog 24 [.agg #[.slice A1 x1.Tours.length c1, .slice A2 x1.Left.length c2], .int .i64 v1] μ (L) R := by
  unfold recyclingref25_Of at h
  refine FnS Tryz.func24 (by kernel_rfl) E Tryz.ntmps24 E E ?_
  refine G0 2 E (Al E fun _ => Q0 0 E (Al E fun _ => Q1 9 [1] E ?_))
  refine Cut h (fun f l o_ f_ μ_ l_ => (.inl ()) = o_ ∧ SubFr (keepF [1, 4] f) f_ ∧ SegSub (selS [some 0] 2 l) l_ ∧ μ = μ_) ?_ ?_
  · intro _ h37532 h
    refine Lp h37532 (fun f l (v2 : Int) f_ μ_ l_ => SubFr ((10, .int .i64 v2) :: keepF [1, 4, 8, 9] f) f_ ∧ SegSub (selS [some 0] 2 l) l_ ∧ μ = μ_) ⟨fE E, sE [some 0] 2 E, E⟩ ?_
    rintro v2 _ _ _ _ _ ⟨hF37543, hS37543, rfl⟩ hb37543 hq37543
    unfold recyclingref25_Of_l1 at hb37543
    refine Atn 1 hF37543 hS37543 E E (G0 5 E ?_)
    refine Br hb37543 11 E E (fun hc1 hb37543 => ?_) (fun hc1 hb37543 => ?_)
    · refine G2 6 [11] [] [] E (Ix hb37543 (ArrR.rds hA1 L) E E fun _ _ _ _ hr1 hc2 _ hb37543 => ?_)
      obtain ⟨A3, c3, rfl, hl3, hA4⟩ := hr1
      refine Q3 1 [] [] [64] (Z1 (hc2.push)) E (Al E fun _ => Q1 9 [0, 0] E ?_)
      refine Br hb37543 17 E E (fun hc3 hb37543 => ?_) (fun hc3 hb37543 => ?_)
      · refine G2 6 [17] [] [0, 1] E ?_
        cases hb37543
        have hq_ := hq37543 _ E
        subst hq_
        replace h := osum_r h
        cases h
        exact Rt [1] E E (Ug [] 2 (hR A3 c3 hl3 hA4))
      refine G2 7 [] [17] [] E ?_
      cases hb37543
      exact Ce E ⟨_, rfl, fE E, sE [some 1] 2 E, rfl⟩
    refine G2 2 [] [11] [] E ?_
    cases hb37543
    have hq_ := hq37543 _ E
    subst hq_
    exact Ce E ⟨rfl, fE E, sE [some 0] 1 E, rfl⟩
  rintro _ _ _ _ h _ ⟨rfl, hF37532, hS37532, rfl⟩
  replace h := osum_l h
  refine Atn 1 hF37532 hS37532 E E (G1 6 [0] E ?_)
  cases h
  exact Rt [0] E E (Ug [] 1 (hR none 0 ⟨Nat.le_refl _, Nat.zero_le _⟩ ArrR.nil))
end Go.Proofs.YthpgjbbjpfiniaaGreat
