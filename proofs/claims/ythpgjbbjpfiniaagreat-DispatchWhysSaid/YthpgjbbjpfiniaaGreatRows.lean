/-
  No cell of these rows narrows 'for every input' (looked for: loops, veiled, ifaces, maps, wideKeys, modest, calm, conditions, laid).
  DERIVED. THE GIVEN ROWS OF THIS SEAT. 8 by the template 'for every input the law returns true; each argument reads behind the call as it read before'; 0 by the template 'total and deterministic' (their statements: YthpgjbbjpfiniaaGreatTotals.lean).
  GIVEN WITH THE SEED: the statements are not yours to turn. If you find one false, say at which input.
  Laid BY PROGRAM, IN A SANDBOX (cutbox-rows.mjs): the forced cells as the released guide's own fill.sh prints them over the translation 6a4d325a684a740b… (all of the seat's roots in one cut). By AI agents, Wed Nov 11 2026. No macro, syntax, notation, axiom, sorry.
-/
import Derived.Test.YthpgjbbjpfiniaaGreatChecked
import GoSem.Claim
import GoSem.ClaimJoined
import GoSem.ClaimMapViews
import Derived.JoinedTies
import Derived.KernelRfl
namespace Go.Proofs.YthpgjbbjpfiniaaGreat
/- THE CELL 'sum', in the pinned program and in every row, IS THE sha256 OF THE DUMP (.gsa) THAT YthpgjbbjpfiniaaGreatProg.lean LOADS. Nothing in Lean hashes anything: it is a label: what it is worth is what the hold of that sum in a sandbox is worth. -/
noncomputable def Tryz.pinned : Pinned := { name := "ythpgjbbjpfiniaagreat", sum := "6a4d325a684a740bcbfb63f9d6f670260ff440404cd37ca06dc3b59f308803f8", checked := Tryz.checked }
namespace Rows
def none {H : Type} : Left H := { results := [], args := [] }

/-- 'recyclinglaw25.DispatchPlans': WHATEVER THE INPUT: true; the input reads as it did. -/
def dispatchPlansSpec : ChangeSpec := { name := "dispatchPlans", fn := fun _ => fun
  | [d] => { results := [.lit (.bool true)], args := [d] }
  | _ => none }
def dispatchPlansRow : OpenClaim := { program := "ythpgjbbjpfiniaagreat", sum := "6a4d325a684a740bcbfb63f9d6f670260ff440404cd37ca06dc3b59f308803f8", func := "recycling/recyclinglaw25.DispatchPlans", spec := "dispatchPlans", unfollowed := true, recurses := true, apart := false }
def DispatchPlansSaid : Prop := dispatchPlansRow.holds Tryz.pinned (OpenSpec.ofChange dispatchPlansSpec)

/-- ITS FALSE NEIGHBOUR: 'it returns false'. Refute it at one input. -/
def dispatchPlansWrong : ChangeSpec := { name := "dispatchPlans", fn := fun _ => fun
  | [d] => { results := [.lit (.bool false)], args := [d] }
  | _ => none }
def DispatchPlansWrongFalsely : Prop := dispatchPlansRow.holds Tryz.pinned (OpenSpec.ofChange dispatchPlansWrong)

/-- 'recyclinglaw25.DispatchMoves': WHATEVER THE INPUT: true; the input reads as it did. -/
def dispatchMovesSpec : ChangeSpec := { name := "dispatchMoves", fn := fun _ => fun
  | [d1, d2] => { results := [.lit (.bool true)], args := [d1, d2] }
  | _ => none }
def dispatchMovesRow : OpenClaim := { program := "ythpgjbbjpfiniaagreat", sum := "6a4d325a684a740bcbfb63f9d6f670260ff440404cd37ca06dc3b59f308803f8", func := "recycling/recyclinglaw25.DispatchMoves", spec := "dispatchMoves", unfollowed := true, recurses := true, apart := false }
def DispatchMovesSaid : Prop := dispatchMovesRow.holds Tryz.pinned (OpenSpec.ofChange dispatchMovesSpec)

/-- ITS FALSE NEIGHBOUR: 'it returns false'. Refute it at one input. -/
def dispatchMovesWrong : ChangeSpec := { name := "dispatchMoves", fn := fun _ => fun
  | [d1, d2] => { results := [.lit (.bool false)], args := [d1, d2] }
  | _ => none }
def DispatchMovesWrongFalsely : Prop := dispatchMovesRow.holds Tryz.pinned (OpenSpec.ofChange dispatchMovesWrong)

/-- 'recyclinglaw25.DispatchWhys': WHATEVER THE INPUT: true; the input reads as it did. -/
def dispatchWhysSpec : ChangeSpec := { name := "dispatchWhys", fn := fun _ => fun
  | [d1, d2, d3] => { results := [.lit (.bool true)], args := [d1, d2, d3] }
  | _ => none }
def dispatchWhysRow : OpenClaim := { program := "ythpgjbbjpfiniaagreat", sum := "6a4d325a684a740bcbfb63f9d6f670260ff440404cd37ca06dc3b59f308803f8", func := "recycling/recyclinglaw25.DispatchWhys", spec := "dispatchWhys", unfollowed := true, recurses := true, apart := false }
def DispatchWhysSaid : Prop := dispatchWhysRow.holds Tryz.pinned (OpenSpec.ofChange dispatchWhysSpec)

/-- ITS FALSE NEIGHBOUR: 'it returns false'. Refute it at one input. -/
def dispatchWhysWrong : ChangeSpec := { name := "dispatchWhys", fn := fun _ => fun
  | [d1, d2, d3] => { results := [.lit (.bool false)], args := [d1, d2, d3] }
  | _ => none }
def DispatchWhysWrongFalsely : Prop := dispatchWhysRow.holds Tryz.pinned (OpenSpec.ofChange dispatchWhysWrong)

/-- 'recyclinglaw25.DispatchComplete': WHATEVER THE INPUT: true; the input reads as it did. -/
def dispatchCompleteSpec : ChangeSpec := { name := "dispatchComplete", fn := fun _ => fun
  | [d] => { results := [.lit (.bool true)], args := [d] }
  | _ => none }
def dispatchCompleteRow : OpenClaim := { program := "ythpgjbbjpfiniaagreat", sum := "6a4d325a684a740bcbfb63f9d6f670260ff440404cd37ca06dc3b59f308803f8", func := "recycling/recyclinglaw25.DispatchComplete", spec := "dispatchComplete", unfollowed := true, recurses := true, apart := false }
def DispatchCompleteSaid : Prop := dispatchCompleteRow.holds Tryz.pinned (OpenSpec.ofChange dispatchCompleteSpec)

/-- ITS FALSE NEIGHBOUR: 'it returns false'. Refute it at one input. -/
def dispatchCompleteWrong : ChangeSpec := { name := "dispatchComplete", fn := fun _ => fun
  | [d] => { results := [.lit (.bool false)], args := [d] }
  | _ => none }
def DispatchCompleteWrongFalsely : Prop := dispatchCompleteRow.holds Tryz.pinned (OpenSpec.ofChange dispatchCompleteWrong)

/-- 'recyclinglaw25.DispatchReasons': WHATEVER THE INPUT: true; the input reads as it did. -/
def dispatchReasonsSpec : ChangeSpec := { name := "dispatchReasons", fn := fun _ => fun
  | [d1, d2, d3] => { results := [.lit (.bool true)], args := [d1, d2, d3] }
  | _ => none }
def dispatchReasonsRow : OpenClaim := { program := "ythpgjbbjpfiniaagreat", sum := "6a4d325a684a740bcbfb63f9d6f670260ff440404cd37ca06dc3b59f308803f8", func := "recycling/recyclinglaw25.DispatchReasons", spec := "dispatchReasons", unfollowed := true, recurses := true, apart := false }
def DispatchReasonsSaid : Prop := dispatchReasonsRow.holds Tryz.pinned (OpenSpec.ofChange dispatchReasonsSpec)

/-- ITS FALSE NEIGHBOUR: 'it returns false'. Refute it at one input. -/
def dispatchReasonsWrong : ChangeSpec := { name := "dispatchReasons", fn := fun _ => fun
  | [d1, d2, d3] => { results := [.lit (.bool false)], args := [d1, d2, d3] }
  | _ => none }
def DispatchReasonsWrongFalsely : Prop := dispatchReasonsRow.holds Tryz.pinned (OpenSpec.ofChange dispatchReasonsWrong)

/-- 'recyclinglaw25.DispatchBetter': WHATEVER THE INPUT: true; the input reads as it did. -/
def dispatchBetterSpec : ChangeSpec := { name := "dispatchBetter", fn := fun _ => fun
  | [d1, d2] => { results := [.lit (.bool true)], args := [d1, d2] }
  | _ => none }
def dispatchBetterRow : OpenClaim := { program := "ythpgjbbjpfiniaagreat", sum := "6a4d325a684a740bcbfb63f9d6f670260ff440404cd37ca06dc3b59f308803f8", func := "recycling/recyclinglaw25.DispatchBetter", spec := "dispatchBetter", unfollowed := true, recurses := true, apart := false }
def DispatchBetterSaid : Prop := dispatchBetterRow.holds Tryz.pinned (OpenSpec.ofChange dispatchBetterSpec)

/-- ITS FALSE NEIGHBOUR: 'it returns false'. Refute it at one input. -/
def dispatchBetterWrong : ChangeSpec := { name := "dispatchBetter", fn := fun _ => fun
  | [d1, d2] => { results := [.lit (.bool false)], args := [d1, d2] }
  | _ => none }
def DispatchBetterWrongFalsely : Prop := dispatchBetterRow.holds Tryz.pinned (OpenSpec.ofChange dispatchBetterWrong)

/-- 'recyclinglaw25.DispatchBuild': WHATEVER THE INPUT: true; the input reads as it did. -/
def dispatchBuildSpec : ChangeSpec := { name := "dispatchBuild", fn := fun _ => fun
  | [d] => { results := [.lit (.bool true)], args := [d] }
  | _ => none }
def dispatchBuildRow : OpenClaim := { program := "ythpgjbbjpfiniaagreat", sum := "6a4d325a684a740bcbfb63f9d6f670260ff440404cd37ca06dc3b59f308803f8", func := "recycling/recyclinglaw25.DispatchBuild", spec := "dispatchBuild", unfollowed := true, recurses := true, apart := false }
def DispatchBuildSaid : Prop := dispatchBuildRow.holds Tryz.pinned (OpenSpec.ofChange dispatchBuildSpec)

/-- ITS FALSE NEIGHBOUR: 'it returns false'. Refute it at one input. -/
def dispatchBuildWrong : ChangeSpec := { name := "dispatchBuild", fn := fun _ => fun
  | [d] => { results := [.lit (.bool false)], args := [d] }
  | _ => none }
def DispatchBuildWrongFalsely : Prop := dispatchBuildRow.holds Tryz.pinned (OpenSpec.ofChange dispatchBuildWrong)

/-- 'recyclinglaw25.DispatchHolds': WHATEVER THE INPUT: true; the input reads as it did. -/
def dispatchHoldsSpec : ChangeSpec := { name := "dispatchHolds", fn := fun _ => fun
  | [d1, d2, d3, d4] => { results := [.lit (.bool true)], args := [d1, d2, d3, d4] }
  | _ => none }
def dispatchHoldsRow : OpenClaim := { program := "ythpgjbbjpfiniaagreat", sum := "6a4d325a684a740bcbfb63f9d6f670260ff440404cd37ca06dc3b59f308803f8", func := "recycling/recyclinglaw25.DispatchHolds", spec := "dispatchHolds", unfollowed := true, recurses := true, apart := false }
def DispatchHoldsSaid : Prop := dispatchHoldsRow.holds Tryz.pinned (OpenSpec.ofChange dispatchHoldsSpec)

/-- ITS FALSE NEIGHBOUR: 'it returns false'. Refute it at one input. -/
def dispatchHoldsWrong : ChangeSpec := { name := "dispatchHolds", fn := fun _ => fun
  | [d1, d2, d3, d4] => { results := [.lit (.bool false)], args := [d1, d2, d3, d4] }
  | _ => none }
def DispatchHoldsWrongFalsely : Prop := dispatchHoldsRow.holds Tryz.pinned (OpenSpec.ofChange dispatchHoldsWrong)

/- THE SECOND FORM. 'bulk': how many values and letters a reading holds, each counted each time it is reached (what is shared counts as often as it is met; a slice's spare places count too). A statement '..UptoSaid' is the law's where the arguments, and the package variables that the reading takes, are together of bulk at most 1048576: NARROWER than '..Said'. Prove '..Said' where nothing that the law and all that it calls make is longer than what came in: it says more and counts as full. Else prove '..UptoSaid'. A law counts once. -/
mutual
def uptoBulk {H : Type} : DataW H → Nat
  | .lit (.string bytes) => bytes.length + 1
  | .lit _ => 1
  | .nil => 1
  | .ptr d => uptoBulk d + 1
  | .slice elems spare => uptoBulkAll elems + uptoBulkAll spare + 1
  | .agg parts => uptoBulkAll parts + 1
  | .iface _ d => uptoBulk d + 1
  | .map entries => uptoBulkEntries entries + 1
  | .held _ => 1
def uptoBulkAll {H : Type} : List (DataW H) → Nat
  | [] => 0
  | d :: r => uptoBulk d + uptoBulkAll r
def uptoBulkEntries {H : Type} : List (Lit × DataW H) → Nat
  | [] => 0
  | x :: r => uptoBulkEntry x + uptoBulkEntries r
def uptoBulkEntry {H : Type} : Lit × DataW H → Nat
  | (.string bytes, d) => bytes.length + uptoBulk d + 1
  | (_, d) => uptoBulk d + 1
 end
def uptoSmall : (H : Type) → List (DataW H) → Bool := fun _ ds => decide (uptoBulkAll ds ≤ 1048576)
def OpenSpec.upto (s : _root_.Go.ChangeSpec) : _root_.Go.OpenSpec := { _root_.Go.OpenSpec.ofChange s with cond := some uptoSmall }

/-- 'recyclinglaw25.DispatchPlans', WHERE WHAT IT READS IS OF BULK AT MOST 1048576: true; the input reads as it did. -/
def dispatchPlansUptoRow : OpenClaim := { program := "ythpgjbbjpfiniaagreat", sum := "6a4d325a684a740bcbfb63f9d6f670260ff440404cd37ca06dc3b59f308803f8", func := "recycling/recyclinglaw25.DispatchPlans", spec := "dispatchPlans", unfollowed := true, recurses := true, apart := false, narrowed := true }
def DispatchPlansUptoSaid : Prop := dispatchPlansUptoRow.holds Tryz.pinned (OpenSpec.upto dispatchPlansSpec)

/-- 'recyclinglaw25.DispatchMoves', WHERE WHAT IT READS IS OF BULK AT MOST 1048576: true; the input reads as it did. -/
def dispatchMovesUptoRow : OpenClaim := { program := "ythpgjbbjpfiniaagreat", sum := "6a4d325a684a740bcbfb63f9d6f670260ff440404cd37ca06dc3b59f308803f8", func := "recycling/recyclinglaw25.DispatchMoves", spec := "dispatchMoves", unfollowed := true, recurses := true, apart := false, narrowed := true }
def DispatchMovesUptoSaid : Prop := dispatchMovesUptoRow.holds Tryz.pinned (OpenSpec.upto dispatchMovesSpec)

/-- 'recyclinglaw25.DispatchWhys', WHERE WHAT IT READS IS OF BULK AT MOST 1048576: true; the input reads as it did. -/
def dispatchWhysUptoRow : OpenClaim := { program := "ythpgjbbjpfiniaagreat", sum := "6a4d325a684a740bcbfb63f9d6f670260ff440404cd37ca06dc3b59f308803f8", func := "recycling/recyclinglaw25.DispatchWhys", spec := "dispatchWhys", unfollowed := true, recurses := true, apart := false, narrowed := true }
def DispatchWhysUptoSaid : Prop := dispatchWhysUptoRow.holds Tryz.pinned (OpenSpec.upto dispatchWhysSpec)

/-- 'recyclinglaw25.DispatchComplete', WHERE WHAT IT READS IS OF BULK AT MOST 1048576: true; the input reads as it did. -/
def dispatchCompleteUptoRow : OpenClaim := { program := "ythpgjbbjpfiniaagreat", sum := "6a4d325a684a740bcbfb63f9d6f670260ff440404cd37ca06dc3b59f308803f8", func := "recycling/recyclinglaw25.DispatchComplete", spec := "dispatchComplete", unfollowed := true, recurses := true, apart := false, narrowed := true }
def DispatchCompleteUptoSaid : Prop := dispatchCompleteUptoRow.holds Tryz.pinned (OpenSpec.upto dispatchCompleteSpec)

/-- 'recyclinglaw25.DispatchReasons', WHERE WHAT IT READS IS OF BULK AT MOST 1048576: true; the input reads as it did. -/
def dispatchReasonsUptoRow : OpenClaim := { program := "ythpgjbbjpfiniaagreat", sum := "6a4d325a684a740bcbfb63f9d6f670260ff440404cd37ca06dc3b59f308803f8", func := "recycling/recyclinglaw25.DispatchReasons", spec := "dispatchReasons", unfollowed := true, recurses := true, apart := false, narrowed := true }
def DispatchReasonsUptoSaid : Prop := dispatchReasonsUptoRow.holds Tryz.pinned (OpenSpec.upto dispatchReasonsSpec)

/-- 'recyclinglaw25.DispatchBetter', WHERE WHAT IT READS IS OF BULK AT MOST 1048576: true; the input reads as it did. -/
def dispatchBetterUptoRow : OpenClaim := { program := "ythpgjbbjpfiniaagreat", sum := "6a4d325a684a740bcbfb63f9d6f670260ff440404cd37ca06dc3b59f308803f8", func := "recycling/recyclinglaw25.DispatchBetter", spec := "dispatchBetter", unfollowed := true, recurses := true, apart := false, narrowed := true }
def DispatchBetterUptoSaid : Prop := dispatchBetterUptoRow.holds Tryz.pinned (OpenSpec.upto dispatchBetterSpec)

/-- 'recyclinglaw25.DispatchBuild', WHERE WHAT IT READS IS OF BULK AT MOST 1048576: true; the input reads as it did. -/
def dispatchBuildUptoRow : OpenClaim := { program := "ythpgjbbjpfiniaagreat", sum := "6a4d325a684a740bcbfb63f9d6f670260ff440404cd37ca06dc3b59f308803f8", func := "recycling/recyclinglaw25.DispatchBuild", spec := "dispatchBuild", unfollowed := true, recurses := true, apart := false, narrowed := true }
def DispatchBuildUptoSaid : Prop := dispatchBuildUptoRow.holds Tryz.pinned (OpenSpec.upto dispatchBuildSpec)

/-- 'recyclinglaw25.DispatchHolds', WHERE WHAT IT READS IS OF BULK AT MOST 1048576: true; the input reads as it did. -/
def dispatchHoldsUptoRow : OpenClaim := { program := "ythpgjbbjpfiniaagreat", sum := "6a4d325a684a740bcbfb63f9d6f670260ff440404cd37ca06dc3b59f308803f8", func := "recycling/recyclinglaw25.DispatchHolds", spec := "dispatchHolds", unfollowed := true, recurses := true, apart := false, narrowed := true }
def DispatchHoldsUptoSaid : Prop := dispatchHoldsUptoRow.holds Tryz.pinned (OpenSpec.upto dispatchHoldsSpec)

end Rows
end Go.Proofs.YthpgjbbjpfiniaaGreat
