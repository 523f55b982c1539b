/- The plain laws of the tours: what a walk is (TourWalk). -/
import Derived.Test.YthpgjbbjpfiniaaGreatUk
namespace Go.Proofs.YthpgjbbjpfiniaaGreat
open Go.RowKit
set_option linter.unusedSimpArgs false
set_option linter.unusedVariables false
structure Fol (p : Pr) (t : T_api_Tour) (v : Ve) (z : Vi × List Vi) (y : Vi) : Prop where
  t0 : 0 ≤ t.Vehicle
  t1 : t.Vehicle < ((p.Vehicles.length : Nat) : Int)
  sl : t.Stops.length ≤ 40
  hv : getI p.Vehicles t.Vehicle = some v
  fol : folR p v [] t.Stops (x0 v) = .inl z
  hom : homeR p v z.1 = .inl y
theorem tourR_ok {p : Pr} {t : T_api_Tour} {u : Vi × List Vi × Ve} (h : tourR p t = .inl u) : ∃ z y, Fol p t u.2.2 z y ∧ u.1 = z.1 ∧ u.2.1 = z.2 ++ [y] := by
  unfold tourR at h
  split at h
  · cases h
  · rename_i h1
    split at h
    · cases h
    · rename_i h2
      split at h
      · cases h
      · rename_i v hv
        split at h
        · cases h
        · rename_i z hf
          split at h
          · cases h
          · rename_i y hm
            injection h with h; subst h
            exact ⟨z, y, ⟨by omega, by omega, by omega, by unfold getI; rw [if_pos (by omega)]; exact hv, hf, hm⟩, rfl, rfl⟩
end Go.Proofs.YthpgjbbjpfiniaaGreat
