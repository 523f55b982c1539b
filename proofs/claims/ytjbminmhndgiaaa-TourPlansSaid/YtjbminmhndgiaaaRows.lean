/-
  No cell of these rows narrows 'for every input' (looked for: loops, veiled, ifaces, maps, wideKeys, modest, calm, conditions, laid).
  DERIVED. THE GIVEN ROWS OF THIS SEAT. 8 by the template 'for every input the law returns true; each argument reads behind the call as it read before'; 0 by the template 'total and deterministic' (their statements: YtjbminmhndgiaaaTotals.lean).
  GIVEN WITH THE SEED: the statements are not yours to turn. If you find one false, say at which input.
  Laid BY PROGRAM, IN A SANDBOX (cutbox-rows.mjs): the forced cells as the released guide's own fill.sh prints them over the translation 0c2d5df642adf7f9… (all of the seat's roots in one cut). By AI agents, Wed Nov 11 2026. No macro, syntax, notation, axiom, sorry.
-/
import Derived.Test.YtjbminmhndgiaaaChecked
import GoSem.Claim
import GoSem.ClaimJoined
import GoSem.ClaimMapViews
import Derived.JoinedTies
import Derived.KernelRfl
namespace Go.Proofs.Ytjbminmhndgiaaa
/- THE CELL 'sum', in the pinned program and in every row, IS THE sha256 OF THE DUMP (.gsa) THAT YtjbminmhndgiaaaProg.lean LOADS. Nothing in Lean hashes anything: it is a label: what it is worth is what the hold of that sum in a sandbox is worth. -/
noncomputable def Try.pinned : Pinned := { name := "ytjbminmhndgiaaa", sum := "0c2d5df642adf7f946bc0fdbfdea954a310c0b25c9b537309cab24ca5fdd2e58", checked := Try.checked }
namespace Rows
def none {H : Type} : Left H := { results := [], args := [] }

/-- 'recyclinglaw22.TourChecks': WHATEVER THE INPUT: true; the input reads as it did. -/
def tourChecksSpec : ChangeSpec := { name := "tourChecks", fn := fun _ => fun
  | [d] => { results := [.lit (.bool true)], args := [d] }
  | _ => none }
def tourChecksRow : OpenClaim := { program := "ytjbminmhndgiaaa", sum := "0c2d5df642adf7f946bc0fdbfdea954a310c0b25c9b537309cab24ca5fdd2e58", func := "recycling/recyclinglaw22.TourChecks", spec := "tourChecks", unfollowed := true, recurses := true, apart := false }
def TourChecksSaid : Prop := tourChecksRow.holds Try.pinned (OpenSpec.ofChange tourChecksSpec)

/-- ITS FALSE NEIGHBOUR: 'it returns false'. Refute it at one input. -/
def tourChecksWrong : ChangeSpec := { name := "tourChecks", fn := fun _ => fun
  | [d] => { results := [.lit (.bool false)], args := [d] }
  | _ => none }
def TourChecksWrongFalsely : Prop := tourChecksRow.holds Try.pinned (OpenSpec.ofChange tourChecksWrong)

/-- 'recyclinglaw22.TourWalks': WHATEVER THE INPUT: true; the input reads as it did. -/
def tourWalksSpec : ChangeSpec := { name := "tourWalks", fn := fun _ => fun
  | [d1, d2] => { results := [.lit (.bool true)], args := [d1, d2] }
  | _ => none }
def tourWalksRow : OpenClaim := { program := "ytjbminmhndgiaaa", sum := "0c2d5df642adf7f946bc0fdbfdea954a310c0b25c9b537309cab24ca5fdd2e58", func := "recycling/recyclinglaw22.TourWalks", spec := "tourWalks", unfollowed := true, recurses := true, apart := false }
def TourWalksSaid : Prop := tourWalksRow.holds Try.pinned (OpenSpec.ofChange tourWalksSpec)

/-- ITS FALSE NEIGHBOUR: 'it returns false'. Refute it at one input. -/
def tourWalksWrong : ChangeSpec := { name := "tourWalks", fn := fun _ => fun
  | [d1, d2] => { results := [.lit (.bool false)], args := [d1, d2] }
  | _ => none }
def TourWalksWrongFalsely : Prop := tourWalksRow.holds Try.pinned (OpenSpec.ofChange tourWalksWrong)

/-- 'recyclinglaw22.TourCosts': WHATEVER THE INPUT: true; the input reads as it did. -/
def tourCostsSpec : ChangeSpec := { name := "tourCosts", fn := fun _ => fun
  | [d1, d2] => { results := [.lit (.bool true)], args := [d1, d2] }
  | _ => none }
def tourCostsRow : OpenClaim := { program := "ytjbminmhndgiaaa", sum := "0c2d5df642adf7f946bc0fdbfdea954a310c0b25c9b537309cab24ca5fdd2e58", func := "recycling/recyclinglaw22.TourCosts", spec := "tourCosts", unfollowed := true, recurses := true, apart := false }
def TourCostsSaid : Prop := tourCostsRow.holds Try.pinned (OpenSpec.ofChange tourCostsSpec)

/-- ITS FALSE NEIGHBOUR: 'it returns false'. Refute it at one input. -/
def tourCostsWrong : ChangeSpec := { name := "tourCosts", fn := fun _ => fun
  | [d1, d2] => { results := [.lit (.bool false)], args := [d1, d2] }
  | _ => none }
def TourCostsWrongFalsely : Prop := tourCostsRow.holds Try.pinned (OpenSpec.ofChange tourCostsWrong)

/-- 'recyclinglaw22.TourWalk': WHATEVER THE INPUT: true; the input reads as it did. -/
def tourWalkSpec : ChangeSpec := { name := "tourWalk", fn := fun _ => fun
  | [d1, d2] => { results := [.lit (.bool true)], args := [d1, d2] }
  | _ => none }
def tourWalkRow : OpenClaim := { program := "ytjbminmhndgiaaa", sum := "0c2d5df642adf7f946bc0fdbfdea954a310c0b25c9b537309cab24ca5fdd2e58", func := "recycling/recyclinglaw22.TourWalk", spec := "tourWalk", unfollowed := true, recurses := true, apart := false }
def TourWalkSaid : Prop := tourWalkRow.holds Try.pinned (OpenSpec.ofChange tourWalkSpec)

/-- ITS FALSE NEIGHBOUR: 'it returns false'. Refute it at one input. -/
def tourWalkWrong : ChangeSpec := { name := "tourWalk", fn := fun _ => fun
  | [d1, d2] => { results := [.lit (.bool false)], args := [d1, d2] }
  | _ => none }
def TourWalkWrongFalsely : Prop := tourWalkRow.holds Try.pinned (OpenSpec.ofChange tourWalkWrong)

/-- 'recyclinglaw22.TourFewer': WHATEVER THE INPUT: true; the input reads as it did. -/
def tourFewerSpec : ChangeSpec := { name := "tourFewer", fn := fun _ => fun
  | [d1, d2, d3] => { results := [.lit (.bool true)], args := [d1, d2, d3] }
  | _ => none }
def tourFewerRow : OpenClaim := { program := "ytjbminmhndgiaaa", sum := "0c2d5df642adf7f946bc0fdbfdea954a310c0b25c9b537309cab24ca5fdd2e58", func := "recycling/recyclinglaw22.TourFewer", spec := "tourFewer", unfollowed := true, recurses := true, apart := false }
def TourFewerSaid : Prop := tourFewerRow.holds Try.pinned (OpenSpec.ofChange tourFewerSpec)

/-- ITS FALSE NEIGHBOUR: 'it returns false'. Refute it at one input. -/
def tourFewerWrong : ChangeSpec := { name := "tourFewer", fn := fun _ => fun
  | [d1, d2, d3] => { results := [.lit (.bool false)], args := [d1, d2, d3] }
  | _ => none }
def TourFewerWrongFalsely : Prop := tourFewerRow.holds Try.pinned (OpenSpec.ofChange tourFewerWrong)

/-- 'recyclinglaw22.TourFirst': WHATEVER THE INPUT: true; the input reads as it did. -/
def tourFirstSpec : ChangeSpec := { name := "tourFirst", fn := fun _ => fun
  | [d1, d2, d3] => { results := [.lit (.bool true)], args := [d1, d2, d3] }
  | _ => none }
def tourFirstRow : OpenClaim := { program := "ytjbminmhndgiaaa", sum := "0c2d5df642adf7f946bc0fdbfdea954a310c0b25c9b537309cab24ca5fdd2e58", func := "recycling/recyclinglaw22.TourFirst", spec := "tourFirst", unfollowed := true, recurses := true, apart := false }
def TourFirstSaid : Prop := tourFirstRow.holds Try.pinned (OpenSpec.ofChange tourFirstSpec)

/-- ITS FALSE NEIGHBOUR: 'it returns false'. Refute it at one input. -/
def tourFirstWrong : ChangeSpec := { name := "tourFirst", fn := fun _ => fun
  | [d1, d2, d3] => { results := [.lit (.bool false)], args := [d1, d2, d3] }
  | _ => none }
def TourFirstWrongFalsely : Prop := tourFirstRow.holds Try.pinned (OpenSpec.ofChange tourFirstWrong)

/-- 'recyclinglaw22.TourPlans': WHATEVER THE INPUT: true; the input reads as it did. -/
def tourPlansSpec : ChangeSpec := { name := "tourPlans", fn := fun _ => fun
  | [d1, d2] => { results := [.lit (.bool true)], args := [d1, d2] }
  | _ => none }
def tourPlansRow : OpenClaim := { program := "ytjbminmhndgiaaa", sum := "0c2d5df642adf7f946bc0fdbfdea954a310c0b25c9b537309cab24ca5fdd2e58", func := "recycling/recyclinglaw22.TourPlans", spec := "tourPlans", unfollowed := true, recurses := true, apart := false }
def TourPlansSaid : Prop := tourPlansRow.holds Try.pinned (OpenSpec.ofChange tourPlansSpec)

/-- ITS FALSE NEIGHBOUR: 'it returns false'. Refute it at one input. -/
def tourPlansWrong : ChangeSpec := { name := "tourPlans", fn := fun _ => fun
  | [d1, d2] => { results := [.lit (.bool false)], args := [d1, d2] }
  | _ => none }
def TourPlansWrongFalsely : Prop := tourPlansRow.holds Try.pinned (OpenSpec.ofChange tourPlansWrong)

/-- 'recyclinglaw22.TourLeft': WHATEVER THE INPUT: true; the input reads as it did. -/
def tourLeftSpec : ChangeSpec := { name := "tourLeft", fn := fun _ => fun
  | [d1, d2] => { results := [.lit (.bool true)], args := [d1, d2] }
  | _ => none }
def tourLeftRow : OpenClaim := { program := "ytjbminmhndgiaaa", sum := "0c2d5df642adf7f946bc0fdbfdea954a310c0b25c9b537309cab24ca5fdd2e58", func := "recycling/recyclinglaw22.TourLeft", spec := "tourLeft", unfollowed := true, recurses := true, apart := false }
def TourLeftSaid : Prop := tourLeftRow.holds Try.pinned (OpenSpec.ofChange tourLeftSpec)

/-- ITS FALSE NEIGHBOUR: 'it returns false'. Refute it at one input. -/
def tourLeftWrong : ChangeSpec := { name := "tourLeft", fn := fun _ => fun
  | [d1, d2] => { results := [.lit (.bool false)], args := [d1, d2] }
  | _ => none }
def TourLeftWrongFalsely : Prop := tourLeftRow.holds Try.pinned (OpenSpec.ofChange tourLeftWrong)

/- THE SECOND FORM. 'bulk': how many values and letters a reading holds, each counted each time it is reached (what is shared counts as often as it is met; a slice's spare places count too). A statement '..UptoSaid' is the law's where the arguments, and the package variables that the reading takes, are together of bulk at most 1048576: NARROWER than '..Said'. Prove '..Said' where nothing that the law and all that it calls make is longer than what came in: it says more and counts as full. Else prove '..UptoSaid'. A law counts once. -/
mutual
def uptoBulk {H : Type} : DataW H → Nat
  | .lit (.string bytes) => bytes.length + 1
  | .lit _ => 1
  | .nil => 1
  | .ptr d => uptoBulk d + 1
  | .slice elems spare => uptoBulkAll elems + uptoBulkAll spare + 1
  | .agg parts => uptoBulkAll parts + 1
  | .iface _ d => uptoBulk d + 1
  | .map entries => uptoBulkEntries entries + 1
  | .held _ => 1
def uptoBulkAll {H : Type} : List (DataW H) → Nat
  | [] => 0
  | d :: r => uptoBulk d + uptoBulkAll r
def uptoBulkEntries {H : Type} : List (Lit × DataW H) → Nat
  | [] => 0
  | x :: r => uptoBulkEntry x + uptoBulkEntries r
def uptoBulkEntry {H : Type} : Lit × DataW H → Nat
  | (.string bytes, d) => bytes.length + uptoBulk d + 1
  | (_, d) => uptoBulk d + 1
 end
def uptoSmall : (H : Type) → List (DataW H) → Bool := fun _ ds => decide (uptoBulkAll ds ≤ 1048576)
def OpenSpec.upto (s : _root_.Go.ChangeSpec) : _root_.Go.OpenSpec := { _root_.Go.OpenSpec.ofChange s with cond := some uptoSmall }

/-- 'recyclinglaw22.TourChecks', WHERE WHAT IT READS IS OF BULK AT MOST 1048576: true; the input reads as it did. -/
def tourChecksUptoRow : OpenClaim := { program := "ytjbminmhndgiaaa", sum := "0c2d5df642adf7f946bc0fdbfdea954a310c0b25c9b537309cab24ca5fdd2e58", func := "recycling/recyclinglaw22.TourChecks", spec := "tourChecks", unfollowed := true, recurses := true, apart := false, narrowed := true }
def TourChecksUptoSaid : Prop := tourChecksUptoRow.holds Try.pinned (OpenSpec.upto tourChecksSpec)

/-- 'recyclinglaw22.TourWalks', WHERE WHAT IT READS IS OF BULK AT MOST 1048576: true; the input reads as it did. -/
def tourWalksUptoRow : OpenClaim := { program := "ytjbminmhndgiaaa", sum := "0c2d5df642adf7f946bc0fdbfdea954a310c0b25c9b537309cab24ca5fdd2e58", func := "recycling/recyclinglaw22.TourWalks", spec := "tourWalks", unfollowed := true, recurses := true, apart := false, narrowed := true }
def TourWalksUptoSaid : Prop := tourWalksUptoRow.holds Try.pinned (OpenSpec.upto tourWalksSpec)

/-- 'recyclinglaw22.TourCosts', WHERE WHAT IT READS IS OF BULK AT MOST 1048576: true; the input reads as it did. -/
def tourCostsUptoRow : OpenClaim := { program := "ytjbminmhndgiaaa", sum := "0c2d5df642adf7f946bc0fdbfdea954a310c0b25c9b537309cab24ca5fdd2e58", func := "recycling/recyclinglaw22.TourCosts", spec := "tourCosts", unfollowed := true, recurses := true, apart := false, narrowed := true }
def TourCostsUptoSaid : Prop := tourCostsUptoRow.holds Try.pinned (OpenSpec.upto tourCostsSpec)

/-- 'recyclinglaw22.TourWalk', WHERE WHAT IT READS IS OF BULK AT MOST 1048576: true; the input reads as it did. -/
def tourWalkUptoRow : OpenClaim := { program := "ytjbminmhndgiaaa", sum := "0c2d5df642adf7f946bc0fdbfdea954a310c0b25c9b537309cab24ca5fdd2e58", func := "recycling/recyclinglaw22.TourWalk", spec := "tourWalk", unfollowed := true, recurses := true, apart := false, narrowed := true }
def TourWalkUptoSaid : Prop := tourWalkUptoRow.holds Try.pinned (OpenSpec.upto tourWalkSpec)

/-- 'recyclinglaw22.TourFewer', WHERE WHAT IT READS IS OF BULK AT MOST 1048576: true; the input reads as it did. -/
def tourFewerUptoRow : OpenClaim := { program := "ytjbminmhndgiaaa", sum := "0c2d5df642adf7f946bc0fdbfdea954a310c0b25c9b537309cab24ca5fdd2e58", func := "recycling/recyclinglaw22.TourFewer", spec := "tourFewer", unfollowed := true, recurses := true, apart := false, narrowed := true }
def TourFewerUptoSaid : Prop := tourFewerUptoRow.holds Try.pinned (OpenSpec.upto tourFewerSpec)

/-- 'recyclinglaw22.TourFirst', WHERE WHAT IT READS IS OF BULK AT MOST 1048576: true; the input reads as it did. -/
def tourFirstUptoRow : OpenClaim := { program := "ytjbminmhndgiaaa", sum := "0c2d5df642adf7f946bc0fdbfdea954a310c0b25c9b537309cab24ca5fdd2e58", func := "recycling/recyclinglaw22.TourFirst", spec := "tourFirst", unfollowed := true, recurses := true, apart := false, narrowed := true }
def TourFirstUptoSaid : Prop := tourFirstUptoRow.holds Try.pinned (OpenSpec.upto tourFirstSpec)

/-- 'recyclinglaw22.TourPlans', WHERE WHAT IT READS IS OF BULK AT MOST 1048576: true; the input reads as it did. -/
def tourPlansUptoRow : OpenClaim := { program := "ytjbminmhndgiaaa", sum := "0c2d5df642adf7f946bc0fdbfdea954a310c0b25c9b537309cab24ca5fdd2e58", func := "recycling/recyclinglaw22.TourPlans", spec := "tourPlans", unfollowed := true, recurses := true, apart := false, narrowed := true }
def TourPlansUptoSaid : Prop := tourPlansUptoRow.holds Try.pinned (OpenSpec.upto tourPlansSpec)

/-- 'recyclinglaw22.TourLeft', WHERE WHAT IT READS IS OF BULK AT MOST 1048576: true; the input reads as it did. -/
def tourLeftUptoRow : OpenClaim := { program := "ytjbminmhndgiaaa", sum := "0c2d5df642adf7f946bc0fdbfdea954a310c0b25c9b537309cab24ca5fdd2e58", func := "recycling/recyclinglaw22.TourLeft", spec := "tourLeft", unfollowed := true, recurses := true, apart := false, narrowed := true }
def TourLeftUptoSaid : Prop := tourLeftUptoRow.holds Try.pinned (OpenSpec.upto tourLeftSpec)

end Rows
end Go.Proofs.Ytjbminmhndgiaaa
