/-
  No cell of these rows narrows 'for every input' (looked for: loops, veiled, ifaces, maps, wideKeys, modest, calm, conditions, laid).
  DERIVED. THE GIVEN ROWS OF THIS SEAT. 7 by the template 'for every input the law returns true; each argument reads behind the call as it read before'; 0 by the template 'total and deterministic' (their statements: YtfekfbcghnlohaaTotals.lean).
  GIVEN WITH THE SEED: the statements are not yours to turn. If you find one false, say at which input.
  Laid BY PROGRAM, IN A SANDBOX (cutbox-rows.mjs): the forced cells as the released guide's own fill.sh prints them over the translation f457cfc6fc468e4e… (all of the seat's roots in one cut). By AI agents, Wed Nov 11 2026. No macro, syntax, notation, axiom, sorry.
-/
import Derived.Test.YtfekfbcghnlohaaChecked
import GoSem.Claim
import GoSem.ClaimJoined
import GoSem.ClaimMapViews
import Derived.JoinedTies
import Derived.KernelRfl
namespace Go.Proofs.Ytfekfbcghnlohaa
/- THE CELL 'sum', in the pinned program and in every row, IS THE sha256 OF THE DUMP (.gsa) THAT YtfekfbcghnlohaaProg.lean LOADS. Nothing in Lean hashes anything: it is a label: what it is worth is what the hold of that sum in a sandbox is worth. -/
noncomputable def Try.pinned : Pinned := { name := "ytfekfbcghnlohaa", sum := "f457cfc6fc468e4e6f8fa7bf8c6f1e0002e76890db7632358d05287bd02cfc0d", checked := Try.checked }
namespace Rows
def none {H : Type} : Left H := { results := [], args := [] }

/-- 'recyclinglaw23.InsertOptions': WHATEVER THE INPUT: true; the input reads as it did. -/
def insertOptionsSpec : ChangeSpec := { name := "insertOptions", fn := fun _ => fun
  | [d1, d2, d3] => { results := [.lit (.bool true)], args := [d1, d2, d3] }
  | _ => none }
def insertOptionsRow : OpenClaim := { program := "ytfekfbcghnlohaa", sum := "f457cfc6fc468e4e6f8fa7bf8c6f1e0002e76890db7632358d05287bd02cfc0d", func := "recycling/recyclinglaw23.InsertOptions", spec := "insertOptions", unfollowed := true, recurses := true, apart := false }
def InsertOptionsSaid : Prop := insertOptionsRow.holds Try.pinned (OpenSpec.ofChange insertOptionsSpec)

/-- ITS FALSE NEIGHBOUR: 'it returns false'. Refute it at one input. -/
def insertOptionsWrong : ChangeSpec := { name := "insertOptions", fn := fun _ => fun
  | [d1, d2, d3] => { results := [.lit (.bool false)], args := [d1, d2, d3] }
  | _ => none }
def InsertOptionsWrongFalsely : Prop := insertOptionsRow.holds Try.pinned (OpenSpec.ofChange insertOptionsWrong)

/-- 'recyclinglaw23.InsertBuilds': WHATEVER THE INPUT: true; the input reads as it did. -/
def insertBuildsSpec : ChangeSpec := { name := "insertBuilds", fn := fun _ => fun
  | [d] => { results := [.lit (.bool true)], args := [d] }
  | _ => none }
def insertBuildsRow : OpenClaim := { program := "ytfekfbcghnlohaa", sum := "f457cfc6fc468e4e6f8fa7bf8c6f1e0002e76890db7632358d05287bd02cfc0d", func := "recycling/recyclinglaw23.InsertBuilds", spec := "insertBuilds", unfollowed := true, recurses := true, apart := false }
def InsertBuildsSaid : Prop := insertBuildsRow.holds Try.pinned (OpenSpec.ofChange insertBuildsSpec)

/-- ITS FALSE NEIGHBOUR: 'it returns false'. Refute it at one input. -/
def insertBuildsWrong : ChangeSpec := { name := "insertBuilds", fn := fun _ => fun
  | [d] => { results := [.lit (.bool false)], args := [d] }
  | _ => none }
def InsertBuildsWrongFalsely : Prop := insertBuildsRow.holds Try.pinned (OpenSpec.ofChange insertBuildsWrong)

/-- 'recyclinglaw23.InsertKeeps': WHATEVER THE INPUT: true; the input reads as it did. -/
def insertKeepsSpec : ChangeSpec := { name := "insertKeeps", fn := fun _ => fun
  | [d1, d2, d3] => { results := [.lit (.bool true)], args := [d1, d2, d3] }
  | _ => none }
def insertKeepsRow : OpenClaim := { program := "ytfekfbcghnlohaa", sum := "f457cfc6fc468e4e6f8fa7bf8c6f1e0002e76890db7632358d05287bd02cfc0d", func := "recycling/recyclinglaw23.InsertKeeps", spec := "insertKeeps", unfollowed := true, recurses := true, apart := false }
def InsertKeepsSaid : Prop := insertKeepsRow.holds Try.pinned (OpenSpec.ofChange insertKeepsSpec)

/-- ITS FALSE NEIGHBOUR: 'it returns false'. Refute it at one input. -/
def insertKeepsWrong : ChangeSpec := { name := "insertKeeps", fn := fun _ => fun
  | [d1, d2, d3] => { results := [.lit (.bool false)], args := [d1, d2, d3] }
  | _ => none }
def InsertKeepsWrongFalsely : Prop := insertKeepsRow.holds Try.pinned (OpenSpec.ofChange insertKeepsWrong)

/-- 'recyclinglaw23.InsertAll': WHATEVER THE INPUT: true; the input reads as it did. -/
def insertAllSpec : ChangeSpec := { name := "insertAll", fn := fun _ => fun
  | [d1, d2, d3, d4] => { results := [.lit (.bool true)], args := [d1, d2, d3, d4] }
  | _ => none }
def insertAllRow : OpenClaim := { program := "ytfekfbcghnlohaa", sum := "f457cfc6fc468e4e6f8fa7bf8c6f1e0002e76890db7632358d05287bd02cfc0d", func := "recycling/recyclinglaw23.InsertAll", spec := "insertAll", unfollowed := true, recurses := true, apart := false }
def InsertAllSaid : Prop := insertAllRow.holds Try.pinned (OpenSpec.ofChange insertAllSpec)

/-- ITS FALSE NEIGHBOUR: 'it returns false'. Refute it at one input. -/
def insertAllWrong : ChangeSpec := { name := "insertAll", fn := fun _ => fun
  | [d1, d2, d3, d4] => { results := [.lit (.bool false)], args := [d1, d2, d3, d4] }
  | _ => none }
def InsertAllWrongFalsely : Prop := insertAllRow.holds Try.pinned (OpenSpec.ofChange insertAllWrong)

/-- 'recyclinglaw23.InsertLonger': WHATEVER THE INPUT: true; the input reads as it did. -/
def insertLongerSpec : ChangeSpec := { name := "insertLonger", fn := fun _ => fun
  | [d1, d2, d3, d4] => { results := [.lit (.bool true)], args := [d1, d2, d3, d4] }
  | _ => none }
def insertLongerRow : OpenClaim := { program := "ytfekfbcghnlohaa", sum := "f457cfc6fc468e4e6f8fa7bf8c6f1e0002e76890db7632358d05287bd02cfc0d", func := "recycling/recyclinglaw23.InsertLonger", spec := "insertLonger", unfollowed := true, recurses := true, apart := false }
def InsertLongerSaid : Prop := insertLongerRow.holds Try.pinned (OpenSpec.ofChange insertLongerSpec)

/-- ITS FALSE NEIGHBOUR: 'it returns false'. Refute it at one input. -/
def insertLongerWrong : ChangeSpec := { name := "insertLonger", fn := fun _ => fun
  | [d1, d2, d3, d4] => { results := [.lit (.bool false)], args := [d1, d2, d3, d4] }
  | _ => none }
def InsertLongerWrongFalsely : Prop := insertLongerRow.holds Try.pinned (OpenSpec.ofChange insertLongerWrong)

/-- 'recyclinglaw23.InsertEmpty': WHATEVER THE INPUT: true; the input reads as it did. -/
def insertEmptySpec : ChangeSpec := { name := "insertEmpty", fn := fun _ => fun
  | [d1, d2, d3] => { results := [.lit (.bool true)], args := [d1, d2, d3] }
  | _ => none }
def insertEmptyRow : OpenClaim := { program := "ytfekfbcghnlohaa", sum := "f457cfc6fc468e4e6f8fa7bf8c6f1e0002e76890db7632358d05287bd02cfc0d", func := "recycling/recyclinglaw23.InsertEmpty", spec := "insertEmpty", unfollowed := true, recurses := true, apart := false }
def InsertEmptySaid : Prop := insertEmptyRow.holds Try.pinned (OpenSpec.ofChange insertEmptySpec)

/-- ITS FALSE NEIGHBOUR: 'it returns false'. Refute it at one input. -/
def insertEmptyWrong : ChangeSpec := { name := "insertEmpty", fn := fun _ => fun
  | [d1, d2, d3] => { results := [.lit (.bool false)], args := [d1, d2, d3] }
  | _ => none }
def InsertEmptyWrongFalsely : Prop := insertEmptyRow.holds Try.pinned (OpenSpec.ofChange insertEmptyWrong)

/-- 'recyclinglaw23.InsertFeasible': WHATEVER THE INPUT: true; the input reads as it did. -/
def insertFeasibleSpec : ChangeSpec := { name := "insertFeasible", fn := fun _ => fun
  | [d] => { results := [.lit (.bool true)], args := [d] }
  | _ => none }
def insertFeasibleRow : OpenClaim := { program := "ytfekfbcghnlohaa", sum := "f457cfc6fc468e4e6f8fa7bf8c6f1e0002e76890db7632358d05287bd02cfc0d", func := "recycling/recyclinglaw23.InsertFeasible", spec := "insertFeasible", unfollowed := true, recurses := true, apart := false }
def InsertFeasibleSaid : Prop := insertFeasibleRow.holds Try.pinned (OpenSpec.ofChange insertFeasibleSpec)

/-- ITS FALSE NEIGHBOUR: 'it returns false'. Refute it at one input. -/
def insertFeasibleWrong : ChangeSpec := { name := "insertFeasible", fn := fun _ => fun
  | [d] => { results := [.lit (.bool false)], args := [d] }
  | _ => none }
def InsertFeasibleWrongFalsely : Prop := insertFeasibleRow.holds Try.pinned (OpenSpec.ofChange insertFeasibleWrong)

/- THE SECOND FORM. 'bulk': how many values and letters a reading holds, each counted each time it is reached (what is shared counts as often as it is met; a slice's spare places count too). A statement '..UptoSaid' is the law's where the arguments, and the package variables that the reading takes, are together of bulk at most 1048576: NARROWER than '..Said'. Prove '..Said' where nothing that the law and all that it calls make is longer than what came in: it says more and counts as full. Else prove '..UptoSaid'. A law counts once. -/
mutual
def uptoBulk {H : Type} : DataW H → Nat
  | .lit (.string bytes) => bytes.length + 1
  | .lit _ => 1
  | .nil => 1
  | .ptr d => uptoBulk d + 1
  | .slice elems spare => uptoBulkAll elems + uptoBulkAll spare + 1
  | .agg parts => uptoBulkAll parts + 1
  | .iface _ d => uptoBulk d + 1
  | .map entries => uptoBulkEntries entries + 1
  | .held _ => 1
def uptoBulkAll {H : Type} : List (DataW H) → Nat
  | [] => 0
  | d :: r => uptoBulk d + uptoBulkAll r
def uptoBulkEntries {H : Type} : List (Lit × DataW H) → Nat
  | [] => 0
  | x :: r => uptoBulkEntry x + uptoBulkEntries r
def uptoBulkEntry {H : Type} : Lit × DataW H → Nat
  | (.string bytes, d) => bytes.length + uptoBulk d + 1
  | (_, d) => uptoBulk d + 1
 end
def uptoSmall : (H : Type) → List (DataW H) → Bool := fun _ ds => decide (uptoBulkAll ds ≤ 1048576)
def OpenSpec.upto (s : _root_.Go.ChangeSpec) : _root_.Go.OpenSpec := { _root_.Go.OpenSpec.ofChange s with cond := some uptoSmall }

/-- 'recyclinglaw23.InsertOptions', WHERE WHAT IT READS IS OF BULK AT MOST 1048576: true; the input reads as it did. -/
def insertOptionsUptoRow : OpenClaim := { program := "ytfekfbcghnlohaa", sum := "f457cfc6fc468e4e6f8fa7bf8c6f1e0002e76890db7632358d05287bd02cfc0d", func := "recycling/recyclinglaw23.InsertOptions", spec := "insertOptions", unfollowed := true, recurses := true, apart := false, narrowed := true }
def InsertOptionsUptoSaid : Prop := insertOptionsUptoRow.holds Try.pinned (OpenSpec.upto insertOptionsSpec)

/-- 'recyclinglaw23.InsertBuilds', WHERE WHAT IT READS IS OF BULK AT MOST 1048576: true; the input reads as it did. -/
def insertBuildsUptoRow : OpenClaim := { program := "ytfekfbcghnlohaa", sum := "f457cfc6fc468e4e6f8fa7bf8c6f1e0002e76890db7632358d05287bd02cfc0d", func := "recycling/recyclinglaw23.InsertBuilds", spec := "insertBuilds", unfollowed := true, recurses := true, apart := false, narrowed := true }
def InsertBuildsUptoSaid : Prop := insertBuildsUptoRow.holds Try.pinned (OpenSpec.upto insertBuildsSpec)

/-- 'recyclinglaw23.InsertKeeps', WHERE WHAT IT READS IS OF BULK AT MOST 1048576: true; the input reads as it did. -/
def insertKeepsUptoRow : OpenClaim := { program := "ytfekfbcghnlohaa", sum := "f457cfc6fc468e4e6f8fa7bf8c6f1e0002e76890db7632358d05287bd02cfc0d", func := "recycling/recyclinglaw23.InsertKeeps", spec := "insertKeeps", unfollowed := true, recurses := true, apart := false, narrowed := true }
def InsertKeepsUptoSaid : Prop := insertKeepsUptoRow.holds Try.pinned (OpenSpec.upto insertKeepsSpec)

/-- 'recyclinglaw23.InsertAll', WHERE WHAT IT READS IS OF BULK AT MOST 1048576: true; the input reads as it did. -/
def insertAllUptoRow : OpenClaim := { program := "ytfekfbcghnlohaa", sum := "f457cfc6fc468e4e6f8fa7bf8c6f1e0002e76890db7632358d05287bd02cfc0d", func := "recycling/recyclinglaw23.InsertAll", spec := "insertAll", unfollowed := true, recurses := true, apart := false, narrowed := true }
def InsertAllUptoSaid : Prop := insertAllUptoRow.holds Try.pinned (OpenSpec.upto insertAllSpec)

/-- 'recyclinglaw23.InsertLonger', WHERE WHAT IT READS IS OF BULK AT MOST 1048576: true; the input reads as it did. -/
def insertLongerUptoRow : OpenClaim := { program := "ytfekfbcghnlohaa", sum := "f457cfc6fc468e4e6f8fa7bf8c6f1e0002e76890db7632358d05287bd02cfc0d", func := "recycling/recyclinglaw23.InsertLonger", spec := "insertLonger", unfollowed := true, recurses := true, apart := false, narrowed := true }
def InsertLongerUptoSaid : Prop := insertLongerUptoRow.holds Try.pinned (OpenSpec.upto insertLongerSpec)

/-- 'recyclinglaw23.InsertEmpty', WHERE WHAT IT READS IS OF BULK AT MOST 1048576: true; the input reads as it did. -/
def insertEmptyUptoRow : OpenClaim := { program := "ytfekfbcghnlohaa", sum := "f457cfc6fc468e4e6f8fa7bf8c6f1e0002e76890db7632358d05287bd02cfc0d", func := "recycling/recyclinglaw23.InsertEmpty", spec := "insertEmpty", unfollowed := true, recurses := true, apart := false, narrowed := true }
def InsertEmptyUptoSaid : Prop := insertEmptyUptoRow.holds Try.pinned (OpenSpec.upto insertEmptySpec)

/-- 'recyclinglaw23.InsertFeasible', WHERE WHAT IT READS IS OF BULK AT MOST 1048576: true; the input reads as it did. -/
def insertFeasibleUptoRow : OpenClaim := { program := "ytfekfbcghnlohaa", sum := "f457cfc6fc468e4e6f8fa7bf8c6f1e0002e76890db7632358d05287bd02cfc0d", func := "recycling/recyclinglaw23.InsertFeasible", spec := "insertFeasible", unfollowed := true, recurses := true, apart := false, narrowed := true }
def InsertFeasibleUptoSaid : Prop := insertFeasibleUptoRow.holds Try.pinned (OpenSpec.upto insertFeasibleSpec)

end Rows
end Go.Proofs.Ytfekfbcghnlohaa
