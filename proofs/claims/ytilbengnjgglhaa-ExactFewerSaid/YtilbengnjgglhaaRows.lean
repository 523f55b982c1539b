/-
  No cell of these rows narrows 'for every input' (looked for: loops, veiled, ifaces, maps, wideKeys, modest, calm, conditions, laid).
  DERIVED. THE GIVEN ROWS OF THIS SEAT. 4 by the template 'for every input the law returns true; each argument reads behind the call as it read before'; 0 by the template 'total and deterministic' (their statements: YtilbengnjgglhaaTotals.lean).
  GIVEN WITH THE SEED: the statements are not yours to turn. If you find one false, say at which input.
  Laid BY PROGRAM, IN A SANDBOX (cutbox-rows.mjs): the forced cells as the released guide's own fill.sh prints them over the translation b054cffe41ad994a… (all of the seat's roots in one cut). By AI agents, Wed Nov 11 2026. No macro, syntax, notation, axiom, sorry.
-/
import Derived.Test.YtilbengnjgglhaaChecked
import GoSem.Claim
import GoSem.ClaimJoined
import GoSem.ClaimMapViews
import Derived.JoinedTies
import Derived.KernelRfl
namespace Go.Proofs.Ytilbengnjgglhaa
/- THE CELL 'sum', in the pinned program and in every row, IS THE sha256 OF THE DUMP (.gsa) THAT YtilbengnjgglhaaProg.lean LOADS. Nothing in Lean hashes anything: it is a label: what it is worth is what the hold of that sum in a sandbox is worth. -/
noncomputable def Try.pinned : Pinned := { name := "ytilbengnjgglhaa", sum := "b054cffe41ad994a626bc1d82b590dea51542043d5e513daaceee7225bfd6f65", checked := Try.checked }
namespace Rows
def none {H : Type} : Left H := { results := [], args := [] }

/-- 'recyclinglaw24.ExactOptimal': WHATEVER THE INPUT: true; the input reads as it did. -/
def exactOptimalSpec : ChangeSpec := { name := "exactOptimal", fn := fun _ => fun
  | [d1, d2] => { results := [.lit (.bool true)], args := [d1, d2] }
  | _ => none }
def exactOptimalRow : OpenClaim := { program := "ytilbengnjgglhaa", sum := "b054cffe41ad994a626bc1d82b590dea51542043d5e513daaceee7225bfd6f65", func := "recycling/recyclinglaw24.ExactOptimal", spec := "exactOptimal", unfollowed := true, recurses := true, apart := false }
def ExactOptimalSaid : Prop := exactOptimalRow.holds Try.pinned (OpenSpec.ofChange exactOptimalSpec)

/-- ITS FALSE NEIGHBOUR: 'it returns false'. Refute it at one input. -/
def exactOptimalWrong : ChangeSpec := { name := "exactOptimal", fn := fun _ => fun
  | [d1, d2] => { results := [.lit (.bool false)], args := [d1, d2] }
  | _ => none }
def ExactOptimalWrongFalsely : Prop := exactOptimalRow.holds Try.pinned (OpenSpec.ofChange exactOptimalWrong)

/-- 'recyclinglaw24.ExactFeasible': WHATEVER THE INPUT: true; the input reads as it did. -/
def exactFeasibleSpec : ChangeSpec := { name := "exactFeasible", fn := fun _ => fun
  | [d] => { results := [.lit (.bool true)], args := [d] }
  | _ => none }
def exactFeasibleRow : OpenClaim := { program := "ytilbengnjgglhaa", sum := "b054cffe41ad994a626bc1d82b590dea51542043d5e513daaceee7225bfd6f65", func := "recycling/recyclinglaw24.ExactFeasible", spec := "exactFeasible", unfollowed := true, recurses := true, apart := false }
def ExactFeasibleSaid : Prop := exactFeasibleRow.holds Try.pinned (OpenSpec.ofChange exactFeasibleSpec)

/-- ITS FALSE NEIGHBOUR: 'it returns false'. Refute it at one input. -/
def exactFeasibleWrong : ChangeSpec := { name := "exactFeasible", fn := fun _ => fun
  | [d] => { results := [.lit (.bool false)], args := [d] }
  | _ => none }
def ExactFeasibleWrongFalsely : Prop := exactFeasibleRow.holds Try.pinned (OpenSpec.ofChange exactFeasibleWrong)

/-- 'recyclinglaw24.ExactMost': WHATEVER THE INPUT: true; the input reads as it did. -/
def exactMostSpec : ChangeSpec := { name := "exactMost", fn := fun _ => fun
  | [d] => { results := [.lit (.bool true)], args := [d] }
  | _ => none }
def exactMostRow : OpenClaim := { program := "ytilbengnjgglhaa", sum := "b054cffe41ad994a626bc1d82b590dea51542043d5e513daaceee7225bfd6f65", func := "recycling/recyclinglaw24.ExactMost", spec := "exactMost", unfollowed := true, recurses := true, apart := false }
def ExactMostSaid : Prop := exactMostRow.holds Try.pinned (OpenSpec.ofChange exactMostSpec)

/-- ITS FALSE NEIGHBOUR: 'it returns false'. Refute it at one input. -/
def exactMostWrong : ChangeSpec := { name := "exactMost", fn := fun _ => fun
  | [d] => { results := [.lit (.bool false)], args := [d] }
  | _ => none }
def ExactMostWrongFalsely : Prop := exactMostRow.holds Try.pinned (OpenSpec.ofChange exactMostWrong)

/-- 'recyclinglaw24.ExactFewer': WHATEVER THE INPUT: true; the input reads as it did. -/
def exactFewerSpec : ChangeSpec := { name := "exactFewer", fn := fun _ => fun
  | [d1, d2] => { results := [.lit (.bool true)], args := [d1, d2] }
  | _ => none }
def exactFewerRow : OpenClaim := { program := "ytilbengnjgglhaa", sum := "b054cffe41ad994a626bc1d82b590dea51542043d5e513daaceee7225bfd6f65", func := "recycling/recyclinglaw24.ExactFewer", spec := "exactFewer", unfollowed := true, recurses := true, apart := false }
def ExactFewerSaid : Prop := exactFewerRow.holds Try.pinned (OpenSpec.ofChange exactFewerSpec)

/-- ITS FALSE NEIGHBOUR: 'it returns false'. Refute it at one input. -/
def exactFewerWrong : ChangeSpec := { name := "exactFewer", fn := fun _ => fun
  | [d1, d2] => { results := [.lit (.bool false)], args := [d1, d2] }
  | _ => none }
def ExactFewerWrongFalsely : Prop := exactFewerRow.holds Try.pinned (OpenSpec.ofChange exactFewerWrong)

/- THE SECOND FORM. 'bulk': how many values and letters a reading holds, each counted each time it is reached (what is shared counts as often as it is met; a slice's spare places count too). A statement '..UptoSaid' is the law's where the arguments, and the package variables that the reading takes, are together of bulk at most 1048576: NARROWER than '..Said'. Prove '..Said' where nothing that the law and all that it calls make is longer than what came in: it says more and counts as full. Else prove '..UptoSaid'. A law counts once. -/
mutual
def uptoBulk {H : Type} : DataW H → Nat
  | .lit (.string bytes) => bytes.length + 1
  | .lit _ => 1
  | .nil => 1
  | .ptr d => uptoBulk d + 1
  | .slice elems spare => uptoBulkAll elems + uptoBulkAll spare + 1
  | .agg parts => uptoBulkAll parts + 1
  | .iface _ d => uptoBulk d + 1
  | .map entries => uptoBulkEntries entries + 1
  | .held _ => 1
def uptoBulkAll {H : Type} : List (DataW H) → Nat
  | [] => 0
  | d :: r => uptoBulk d + uptoBulkAll r
def uptoBulkEntries {H : Type} : List (Lit × DataW H) → Nat
  | [] => 0
  | x :: r => uptoBulkEntry x + uptoBulkEntries r
def uptoBulkEntry {H : Type} : Lit × DataW H → Nat
  | (.string bytes, d) => bytes.length + uptoBulk d + 1
  | (_, d) => uptoBulk d + 1
 end
def uptoSmall : (H : Type) → List (DataW H) → Bool := fun _ ds => decide (uptoBulkAll ds ≤ 1048576)
def OpenSpec.upto (s : _root_.Go.ChangeSpec) : _root_.Go.OpenSpec := { _root_.Go.OpenSpec.ofChange s with cond := some uptoSmall }

/-- 'recyclinglaw24.ExactOptimal', WHERE WHAT IT READS IS OF BULK AT MOST 1048576: true; the input reads as it did. -/
def exactOptimalUptoRow : OpenClaim := { program := "ytilbengnjgglhaa", sum := "b054cffe41ad994a626bc1d82b590dea51542043d5e513daaceee7225bfd6f65", func := "recycling/recyclinglaw24.ExactOptimal", spec := "exactOptimal", unfollowed := true, recurses := true, apart := false, narrowed := true }
def ExactOptimalUptoSaid : Prop := exactOptimalUptoRow.holds Try.pinned (OpenSpec.upto exactOptimalSpec)

/-- 'recyclinglaw24.ExactFeasible', WHERE WHAT IT READS IS OF BULK AT MOST 1048576: true; the input reads as it did. -/
def exactFeasibleUptoRow : OpenClaim := { program := "ytilbengnjgglhaa", sum := "b054cffe41ad994a626bc1d82b590dea51542043d5e513daaceee7225bfd6f65", func := "recycling/recyclinglaw24.ExactFeasible", spec := "exactFeasible", unfollowed := true, recurses := true, apart := false, narrowed := true }
def ExactFeasibleUptoSaid : Prop := exactFeasibleUptoRow.holds Try.pinned (OpenSpec.upto exactFeasibleSpec)

/-- 'recyclinglaw24.ExactMost', WHERE WHAT IT READS IS OF BULK AT MOST 1048576: true; the input reads as it did. -/
def exactMostUptoRow : OpenClaim := { program := "ytilbengnjgglhaa", sum := "b054cffe41ad994a626bc1d82b590dea51542043d5e513daaceee7225bfd6f65", func := "recycling/recyclinglaw24.ExactMost", spec := "exactMost", unfollowed := true, recurses := true, apart := false, narrowed := true }
def ExactMostUptoSaid : Prop := exactMostUptoRow.holds Try.pinned (OpenSpec.upto exactMostSpec)

/-- 'recyclinglaw24.ExactFewer', WHERE WHAT IT READS IS OF BULK AT MOST 1048576: true; the input reads as it did. -/
def exactFewerUptoRow : OpenClaim := { program := "ytilbengnjgglhaa", sum := "b054cffe41ad994a626bc1d82b590dea51542043d5e513daaceee7225bfd6f65", func := "recycling/recyclinglaw24.ExactFewer", spec := "exactFewer", unfollowed := true, recurses := true, apart := false, narrowed := true }
def ExactFewerUptoSaid : Prop := exactFewerUptoRow.holds Try.pinned (OpenSpec.upto exactFewerSpec)

end Rows
end Go.Proofs.Ytilbengnjgglhaa
