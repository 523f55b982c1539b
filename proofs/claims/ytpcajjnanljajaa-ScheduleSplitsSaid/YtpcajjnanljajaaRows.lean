/-
  No cell of these rows narrows 'for every input' (looked for: loops, veiled, ifaces, maps, wideKeys, modest, calm, conditions, laid).
  DERIVED. THE GIVEN ROWS OF THIS SEAT. 7 by the template 'for every input the law returns true; each argument reads behind the call as it read before'; 0 by the template 'total and deterministic' (their statements: YtpcajjnanljajaaTotals.lean).
  GIVEN WITH THE SEED: the statements are not yours to turn. If you find one false, say at which input.
  Laid BY PROGRAM, IN A SANDBOX (cutbox-rows.mjs): the forced cells as the released guide's own fill.sh prints them over the translation 23c1b200ba9277ab… (all of the seat's roots in one cut). By AI agents, Wed Nov 11 2026. No macro, syntax, notation, axiom, sorry.
-/
import Derived.Test.YtpcajjnanljajaaChecked
import GoSem.Claim
import GoSem.ClaimJoined
import GoSem.ClaimMapViews
import Derived.JoinedTies
import Derived.KernelRfl
namespace Go.Proofs.Ytpcajjnanljajaa
/- THE CELL 'sum', in the pinned program and in every row, IS THE sha256 OF THE DUMP (.gsa) THAT YtpcajjnanljajaaProg.lean LOADS. Nothing in Lean hashes anything: it is a label: what it is worth is what the hold of that sum in a sandbox is worth. -/
noncomputable def Try.pinned : Pinned := { name := "ytpcajjnanljajaa", sum := "23c1b200ba9277ab5c13ab4eb79a559104f4f7f40ad628e428033dd5c70aa917", checked := Try.checked }
namespace Rows
def none {H : Type} : Left H := { results := [], args := [] }

/-- 'recyclinglaw17.ScheduleChecks': WHATEVER THE INPUT: true; the input reads as it did. -/
def scheduleChecksSpec : ChangeSpec := { name := "scheduleChecks", fn := fun _ => fun
  | [d] => { results := [.lit (.bool true)], args := [d] }
  | _ => none }
def scheduleChecksRow : OpenClaim := { program := "ytpcajjnanljajaa", sum := "23c1b200ba9277ab5c13ab4eb79a559104f4f7f40ad628e428033dd5c70aa917", func := "recycling/recyclinglaw17.ScheduleChecks", spec := "scheduleChecks", recurses := true, apart := false }
def ScheduleChecksSaid : Prop := scheduleChecksRow.holds Try.pinned (OpenSpec.ofChange scheduleChecksSpec)

/-- ITS FALSE NEIGHBOUR: 'it returns false'. Refute it at one input. -/
def scheduleChecksWrong : ChangeSpec := { name := "scheduleChecks", fn := fun _ => fun
  | [d] => { results := [.lit (.bool false)], args := [d] }
  | _ => none }
def ScheduleChecksWrongFalsely : Prop := scheduleChecksRow.holds Try.pinned (OpenSpec.ofChange scheduleChecksWrong)

/-- 'recyclinglaw17.ScheduleDues': WHATEVER THE INPUT: true; the input reads as it did. -/
def scheduleDuesSpec : ChangeSpec := { name := "scheduleDues", fn := fun _ => fun
  | [d1, d2] => { results := [.lit (.bool true)], args := [d1, d2] }
  | _ => none }
def scheduleDuesRow : OpenClaim := { program := "ytpcajjnanljajaa", sum := "23c1b200ba9277ab5c13ab4eb79a559104f4f7f40ad628e428033dd5c70aa917", func := "recycling/recyclinglaw17.ScheduleDues", spec := "scheduleDues", recurses := true, apart := false }
def ScheduleDuesSaid : Prop := scheduleDuesRow.holds Try.pinned (OpenSpec.ofChange scheduleDuesSpec)

/-- ITS FALSE NEIGHBOUR: 'it returns false'. Refute it at one input. -/
def scheduleDuesWrong : ChangeSpec := { name := "scheduleDues", fn := fun _ => fun
  | [d1, d2] => { results := [.lit (.bool false)], args := [d1, d2] }
  | _ => none }
def ScheduleDuesWrongFalsely : Prop := scheduleDuesRow.holds Try.pinned (OpenSpec.ofChange scheduleDuesWrong)

/-- 'recyclinglaw17.ScheduleDays': WHATEVER THE INPUT: true; the input reads as it did. -/
def scheduleDaysSpec : ChangeSpec := { name := "scheduleDays", fn := fun _ => fun
  | [d1, d2, d3] => { results := [.lit (.bool true)], args := [d1, d2, d3] }
  | _ => none }
def scheduleDaysRow : OpenClaim := { program := "ytpcajjnanljajaa", sum := "23c1b200ba9277ab5c13ab4eb79a559104f4f7f40ad628e428033dd5c70aa917", func := "recycling/recyclinglaw17.ScheduleDays", spec := "scheduleDays", recurses := true, apart := false }
def ScheduleDaysSaid : Prop := scheduleDaysRow.holds Try.pinned (OpenSpec.ofChange scheduleDaysSpec)

/-- ITS FALSE NEIGHBOUR: 'it returns false'. Refute it at one input. -/
def scheduleDaysWrong : ChangeSpec := { name := "scheduleDays", fn := fun _ => fun
  | [d1, d2, d3] => { results := [.lit (.bool false)], args := [d1, d2, d3] }
  | _ => none }
def ScheduleDaysWrongFalsely : Prop := scheduleDaysRow.holds Try.pinned (OpenSpec.ofChange scheduleDaysWrong)

/-- 'recyclinglaw17.ScheduleNexts': WHATEVER THE INPUT: true; the input reads as it did. -/
def scheduleNextsSpec : ChangeSpec := { name := "scheduleNexts", fn := fun _ => fun
  | [d1, d2] => { results := [.lit (.bool true)], args := [d1, d2] }
  | _ => none }
def scheduleNextsRow : OpenClaim := { program := "ytpcajjnanljajaa", sum := "23c1b200ba9277ab5c13ab4eb79a559104f4f7f40ad628e428033dd5c70aa917", func := "recycling/recyclinglaw17.ScheduleNexts", spec := "scheduleNexts", recurses := true, apart := false }
def ScheduleNextsSaid : Prop := scheduleNextsRow.holds Try.pinned (OpenSpec.ofChange scheduleNextsSpec)

/-- ITS FALSE NEIGHBOUR: 'it returns false'. Refute it at one input. -/
def scheduleNextsWrong : ChangeSpec := { name := "scheduleNexts", fn := fun _ => fun
  | [d1, d2] => { results := [.lit (.bool false)], args := [d1, d2] }
  | _ => none }
def ScheduleNextsWrongFalsely : Prop := scheduleNextsRow.holds Try.pinned (OpenSpec.ofChange scheduleNextsWrong)

/-- 'recyclinglaw17.SchedulePattern': WHATEVER THE INPUT: true; the input reads as it did. -/
def schedulePatternSpec : ChangeSpec := { name := "schedulePattern", fn := fun _ => fun
  | [d1, d2, d3] => { results := [.lit (.bool true)], args := [d1, d2, d3] }
  | _ => none }
def schedulePatternRow : OpenClaim := { program := "ytpcajjnanljajaa", sum := "23c1b200ba9277ab5c13ab4eb79a559104f4f7f40ad628e428033dd5c70aa917", func := "recycling/recyclinglaw17.SchedulePattern", spec := "schedulePattern", recurses := true, apart := false }
def SchedulePatternSaid : Prop := schedulePatternRow.holds Try.pinned (OpenSpec.ofChange schedulePatternSpec)

/-- ITS FALSE NEIGHBOUR: 'it returns false'. Refute it at one input. -/
def schedulePatternWrong : ChangeSpec := { name := "schedulePattern", fn := fun _ => fun
  | [d1, d2, d3] => { results := [.lit (.bool false)], args := [d1, d2, d3] }
  | _ => none }
def SchedulePatternWrongFalsely : Prop := schedulePatternRow.holds Try.pinned (OpenSpec.ofChange schedulePatternWrong)

/-- 'recyclinglaw17.ScheduleNumber': WHATEVER THE INPUT: true; the input reads as it did. -/
def scheduleNumberSpec : ChangeSpec := { name := "scheduleNumber", fn := fun _ => fun
  | [d] => { results := [.lit (.bool true)], args := [d] }
  | _ => none }
def scheduleNumberRow : OpenClaim := { program := "ytpcajjnanljajaa", sum := "23c1b200ba9277ab5c13ab4eb79a559104f4f7f40ad628e428033dd5c70aa917", func := "recycling/recyclinglaw17.ScheduleNumber", spec := "scheduleNumber", recurses := true, apart := false }
def ScheduleNumberSaid : Prop := scheduleNumberRow.holds Try.pinned (OpenSpec.ofChange scheduleNumberSpec)

/-- ITS FALSE NEIGHBOUR: 'it returns false'. Refute it at one input. -/
def scheduleNumberWrong : ChangeSpec := { name := "scheduleNumber", fn := fun _ => fun
  | [d] => { results := [.lit (.bool false)], args := [d] }
  | _ => none }
def ScheduleNumberWrongFalsely : Prop := scheduleNumberRow.holds Try.pinned (OpenSpec.ofChange scheduleNumberWrong)

/-- 'recyclinglaw17.ScheduleSplits': WHATEVER THE INPUT: true; the input reads as it did. -/
def scheduleSplitsSpec : ChangeSpec := { name := "scheduleSplits", fn := fun _ => fun
  | [d1, d2, d3] => { results := [.lit (.bool true)], args := [d1, d2, d3] }
  | _ => none }
def scheduleSplitsRow : OpenClaim := { program := "ytpcajjnanljajaa", sum := "23c1b200ba9277ab5c13ab4eb79a559104f4f7f40ad628e428033dd5c70aa917", func := "recycling/recyclinglaw17.ScheduleSplits", spec := "scheduleSplits", recurses := true, apart := false }
def ScheduleSplitsSaid : Prop := scheduleSplitsRow.holds Try.pinned (OpenSpec.ofChange scheduleSplitsSpec)

/-- ITS FALSE NEIGHBOUR: 'it returns false'. Refute it at one input. -/
def scheduleSplitsWrong : ChangeSpec := { name := "scheduleSplits", fn := fun _ => fun
  | [d1, d2, d3] => { results := [.lit (.bool false)], args := [d1, d2, d3] }
  | _ => none }
def ScheduleSplitsWrongFalsely : Prop := scheduleSplitsRow.holds Try.pinned (OpenSpec.ofChange scheduleSplitsWrong)

/- THE SECOND FORM. 'bulk': how many values and letters a reading holds, each counted each time it is reached (what is shared counts as often as it is met; a slice's spare places count too). A statement '..UptoSaid' is the law's where the arguments, and the package variables that the reading takes, are together of bulk at most 1048576: NARROWER than '..Said'. Prove '..Said' where nothing that the law and all that it calls make is longer than what came in: it says more and counts as full. Else prove '..UptoSaid'. A law counts once. -/
mutual
def uptoBulk {H : Type} : DataW H → Nat
  | .lit (.string bytes) => bytes.length + 1
  | .lit _ => 1
  | .nil => 1
  | .ptr d => uptoBulk d + 1
  | .slice elems spare => uptoBulkAll elems + uptoBulkAll spare + 1
  | .agg parts => uptoBulkAll parts + 1
  | .iface _ d => uptoBulk d + 1
  | .map entries => uptoBulkEntries entries + 1
  | .held _ => 1
def uptoBulkAll {H : Type} : List (DataW H) → Nat
  | [] => 0
  | d :: r => uptoBulk d + uptoBulkAll r
def uptoBulkEntries {H : Type} : List (Lit × DataW H) → Nat
  | [] => 0
  | x :: r => uptoBulkEntry x + uptoBulkEntries r
def uptoBulkEntry {H : Type} : Lit × DataW H → Nat
  | (.string bytes, d) => bytes.length + uptoBulk d + 1
  | (_, d) => uptoBulk d + 1
 end
def uptoSmall : (H : Type) → List (DataW H) → Bool := fun _ ds => decide (uptoBulkAll ds ≤ 1048576)
def OpenSpec.upto (s : _root_.Go.ChangeSpec) : _root_.Go.OpenSpec := { _root_.Go.OpenSpec.ofChange s with cond := some uptoSmall }

/-- 'recyclinglaw17.ScheduleChecks', WHERE WHAT IT READS IS OF BULK AT MOST 1048576: true; the input reads as it did. -/
def scheduleChecksUptoRow : OpenClaim := { program := "ytpcajjnanljajaa", sum := "23c1b200ba9277ab5c13ab4eb79a559104f4f7f40ad628e428033dd5c70aa917", func := "recycling/recyclinglaw17.ScheduleChecks", spec := "scheduleChecks", recurses := true, apart := false, narrowed := true }
def ScheduleChecksUptoSaid : Prop := scheduleChecksUptoRow.holds Try.pinned (OpenSpec.upto scheduleChecksSpec)

/-- 'recyclinglaw17.ScheduleDues', WHERE WHAT IT READS IS OF BULK AT MOST 1048576: true; the input reads as it did. -/
def scheduleDuesUptoRow : OpenClaim := { program := "ytpcajjnanljajaa", sum := "23c1b200ba9277ab5c13ab4eb79a559104f4f7f40ad628e428033dd5c70aa917", func := "recycling/recyclinglaw17.ScheduleDues", spec := "scheduleDues", recurses := true, apart := false, narrowed := true }
def ScheduleDuesUptoSaid : Prop := scheduleDuesUptoRow.holds Try.pinned (OpenSpec.upto scheduleDuesSpec)

/-- 'recyclinglaw17.ScheduleDays', WHERE WHAT IT READS IS OF BULK AT MOST 1048576: true; the input reads as it did. -/
def scheduleDaysUptoRow : OpenClaim := { program := "ytpcajjnanljajaa", sum := "23c1b200ba9277ab5c13ab4eb79a559104f4f7f40ad628e428033dd5c70aa917", func := "recycling/recyclinglaw17.ScheduleDays", spec := "scheduleDays", recurses := true, apart := false, narrowed := true }
def ScheduleDaysUptoSaid : Prop := scheduleDaysUptoRow.holds Try.pinned (OpenSpec.upto scheduleDaysSpec)

/-- 'recyclinglaw17.ScheduleNexts', WHERE WHAT IT READS IS OF BULK AT MOST 1048576: true; the input reads as it did. -/
def scheduleNextsUptoRow : OpenClaim := { program := "ytpcajjnanljajaa", sum := "23c1b200ba9277ab5c13ab4eb79a559104f4f7f40ad628e428033dd5c70aa917", func := "recycling/recyclinglaw17.ScheduleNexts", spec := "scheduleNexts", recurses := true, apart := false, narrowed := true }
def ScheduleNextsUptoSaid : Prop := scheduleNextsUptoRow.holds Try.pinned (OpenSpec.upto scheduleNextsSpec)

/-- 'recyclinglaw17.SchedulePattern', WHERE WHAT IT READS IS OF BULK AT MOST 1048576: true; the input reads as it did. -/
def schedulePatternUptoRow : OpenClaim := { program := "ytpcajjnanljajaa", sum := "23c1b200ba9277ab5c13ab4eb79a559104f4f7f40ad628e428033dd5c70aa917", func := "recycling/recyclinglaw17.SchedulePattern", spec := "schedulePattern", recurses := true, apart := false, narrowed := true }
def SchedulePatternUptoSaid : Prop := schedulePatternUptoRow.holds Try.pinned (OpenSpec.upto schedulePatternSpec)

/-- 'recyclinglaw17.ScheduleNumber', WHERE WHAT IT READS IS OF BULK AT MOST 1048576: true; the input reads as it did. -/
def scheduleNumberUptoRow : OpenClaim := { program := "ytpcajjnanljajaa", sum := "23c1b200ba9277ab5c13ab4eb79a559104f4f7f40ad628e428033dd5c70aa917", func := "recycling/recyclinglaw17.ScheduleNumber", spec := "scheduleNumber", recurses := true, apart := false, narrowed := true }
def ScheduleNumberUptoSaid : Prop := scheduleNumberUptoRow.holds Try.pinned (OpenSpec.upto scheduleNumberSpec)

/-- 'recyclinglaw17.ScheduleSplits', WHERE WHAT IT READS IS OF BULK AT MOST 1048576: true; the input reads as it did. -/
def scheduleSplitsUptoRow : OpenClaim := { program := "ytpcajjnanljajaa", sum := "23c1b200ba9277ab5c13ab4eb79a559104f4f7f40ad628e428033dd5c70aa917", func := "recycling/recyclinglaw17.ScheduleSplits", spec := "scheduleSplits", recurses := true, apart := false, narrowed := true }
def ScheduleSplitsUptoSaid : Prop := scheduleSplitsUptoRow.holds Try.pinned (OpenSpec.upto scheduleSplitsSpec)

end Rows
end Go.Proofs.Ytpcajjnanljajaa
