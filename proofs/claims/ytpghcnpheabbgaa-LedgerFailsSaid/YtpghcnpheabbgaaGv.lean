/- The values, and the keys, of a map of integers, sorted: words of specifications. -/
import Derived.Test.YtpghcnpheabbgaaGs
namespace Go.Proofs.Ytpghcnpheabbgaa
open Go.RowKit
set_option linter.unusedSimpArgs false
set_option linter.unusedVariables false

instance (k : IntKind) (n : Int) : Decidable (wfI k n) := by unfold wfI; infer_instance
def wfM (m : List (Int × Int)) : Prop := m.length ≤ 1000000 ∧ ∀ p ∈ m, wfI .i64 p.1 ∧ wfI .i64 p.2
instance (m : List (Int × Int)) : Decidable (wfM m) := by unfold wfM; infer_instance
def valsO (m : List (Int × Int)) : Option (List Int) := if wfM m then some (isort (m.map Prod.snd)) else none
def keysO (m : List (Int × Int)) : Option (List Int) := if wfM m then some (isort (m.map Prod.fst)) else none

end Go.Proofs.Ytpghcnpheabbgaa
