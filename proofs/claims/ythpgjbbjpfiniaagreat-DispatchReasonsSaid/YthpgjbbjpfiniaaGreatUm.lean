/- The plain laws of the tours: a tour that is cut (TourFirst). -/
import Derived.Test.YthpgjbbjpfiniaaGreatUl
namespace Go.Proofs.YthpgjbbjpfiniaaGreat
open Go.RowKit
set_option linter.unusedSimpArgs false
set_option linter.unusedVariables false
theorem folR_append {p : Pr} {v : Ve} (b : List Int) : ∀ (a pre : List Int) (x : Vi), folR p v pre (a ++ b) x = match folR p v pre a x with
    | .inr q => .inr q
    | .inl z => match folR p v (pre ++ a) b z.1 with
      | .inr q => .inr q
      | .inl z2 => .inl (z2.1, z.2 ++ z2.2)
  | [], pre, x => by
    simp only [List.nil_append, folR, List.append_nil]
    cases folR p v pre b x <;> rfl
  | s :: a, pre, x => by
    simp only [List.cons_append, folR]
    cases stepR p v pre x s with
    | inr e => rfl
    | inl y =>
      simp only []
      rw [folR_append b a (pre ++ [s]) y]
      cases folR p v (pre ++ [s]) a y with
      | inr q => rfl
      | inl z =>
        simp only [List.append_assoc, List.singleton_append]
        cases folR p v (pre ++ s :: a) b z.1 <;> rfl
theorem tourR_eq {p : Pr} {t : T_api_Tour} {v : Ve} (h0 : 0 ≤ t.Vehicle) (h1 : t.Vehicle < ((p.Vehicles.length : Nat) : Int)) (hv : getI p.Vehicles t.Vehicle = some v) (hs : t.Stops.length ≤ 40) :
    tourR p t = match folR p v [] t.Stops (x0 v) with
      | .inr q => .inr (q.1, ((q.2 : Nat) : Int))
      | .inl z => match homeR p v z.1 with
        | .inr e => .inr (e, ((t.Stops.length : Nat) : Int))
        | .inl y => .inl (z.1, z.2 ++ [y], v) := by
  unfold tourR
  rw [if_neg (by omega), if_neg (by omega)]
  unfold getI at hv
  rw [if_pos h0] at hv
  rw [hv]
  rfl
end Go.Proofs.YthpgjbbjpfiniaaGreat
