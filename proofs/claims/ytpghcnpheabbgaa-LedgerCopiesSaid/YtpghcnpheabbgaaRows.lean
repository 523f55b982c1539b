/-
  No cell of these rows narrows 'for every input' (looked for: loops, veiled, ifaces, maps, wideKeys, modest, calm, conditions, laid).
  DERIVED. THE GIVEN ROWS OF THIS SEAT. 8 by the template 'for every input the law returns true; each argument reads behind the call as it read before'; 0 by the template 'total and deterministic' (their statements: YtpghcnpheabbgaaTotals.lean).
  GIVEN WITH THE SEED: the statements are not yours to turn. If you find one false, say at which input.
  Laid BY PROGRAM, IN A SANDBOX (cutbox-rows.mjs): the forced cells as the released guide's own fill.sh prints them over the translation d6879ee92ac5e869… (all of the seat's roots in one cut). By AI agents, Wed Nov 11 2026. No macro, syntax, notation, axiom, sorry.
-/
import Derived.Test.YtpghcnpheabbgaaChecked
import GoSem.Claim
import GoSem.ClaimJoined
import GoSem.ClaimMapViews
import Derived.JoinedTies
import Derived.KernelRfl
namespace Go.Proofs.Ytpghcnpheabbgaa
/- THE CELL 'sum', in the pinned program and in every row, IS THE sha256 OF THE DUMP (.gsa) THAT YtpghcnpheabbgaaProg.lean LOADS. Nothing in Lean hashes anything: it is a label: what it is worth is what the hold of that sum in a sandbox is worth. -/
noncomputable def Try.pinned : Pinned := { name := "ytpghcnpheabbgaa", sum := "d6879ee92ac5e8696119d7d3caa7d9daf6d7eb2916c3b6fda9243c07a13925d8", checked := Try.checked }
namespace Rows
def none {H : Type} : Left H := { results := [], args := [] }

/-- 'recyclinglaw48.LedgerChecks': WHATEVER THE INPUT: true; the input reads as it did. -/
def ledgerChecksSpec : ChangeSpec := { name := "ledgerChecks", fn := fun _ => fun
  | [d] => { results := [.lit (.bool true)], args := [d] }
  | _ => none }
def ledgerChecksRow : OpenClaim := { program := "ytpghcnpheabbgaa", sum := "d6879ee92ac5e8696119d7d3caa7d9daf6d7eb2916c3b6fda9243c07a13925d8", func := "recycling/recyclinglaw48.LedgerChecks", spec := "ledgerChecks", inPlace := ["maps.clone"], unfollowed := true, recurses := true, apart := false }
def LedgerChecksSaid : Prop := ledgerChecksRow.holds Try.pinned (OpenSpec.ofChange ledgerChecksSpec)

/-- ITS FALSE NEIGHBOUR: 'it returns false'. Refute it at one input. -/
def ledgerChecksWrong : ChangeSpec := { name := "ledgerChecks", fn := fun _ => fun
  | [d] => { results := [.lit (.bool false)], args := [d] }
  | _ => none }
def LedgerChecksWrongFalsely : Prop := ledgerChecksRow.holds Try.pinned (OpenSpec.ofChange ledgerChecksWrong)

/-- 'recyclinglaw48.LedgerPosts': WHATEVER THE INPUT: true; the input reads as it did. -/
def ledgerPostsSpec : ChangeSpec := { name := "ledgerPosts", fn := fun _ => fun
  | [d] => { results := [.lit (.bool true)], args := [d] }
  | _ => none }
def ledgerPostsRow : OpenClaim := { program := "ytpghcnpheabbgaa", sum := "d6879ee92ac5e8696119d7d3caa7d9daf6d7eb2916c3b6fda9243c07a13925d8", func := "recycling/recyclinglaw48.LedgerPosts", spec := "ledgerPosts", inPlace := ["maps.clone"], unfollowed := true, recurses := true, apart := false }
def LedgerPostsSaid : Prop := ledgerPostsRow.holds Try.pinned (OpenSpec.ofChange ledgerPostsSpec)

/-- ITS FALSE NEIGHBOUR: 'it returns false'. Refute it at one input. -/
def ledgerPostsWrong : ChangeSpec := { name := "ledgerPosts", fn := fun _ => fun
  | [d] => { results := [.lit (.bool false)], args := [d] }
  | _ => none }
def LedgerPostsWrongFalsely : Prop := ledgerPostsRow.holds Try.pinned (OpenSpec.ofChange ledgerPostsWrong)

/-- 'recyclinglaw48.LedgerBalances': WHATEVER THE INPUT: true; the input reads as it did. -/
def ledgerBalancesSpec : ChangeSpec := { name := "ledgerBalances", fn := fun _ => fun
  | [d1, d2, d3] => { results := [.lit (.bool true)], args := [d1, d2, d3] }
  | _ => none }
def ledgerBalancesRow : OpenClaim := { program := "ytpghcnpheabbgaa", sum := "d6879ee92ac5e8696119d7d3caa7d9daf6d7eb2916c3b6fda9243c07a13925d8", func := "recycling/recyclinglaw48.LedgerBalances", spec := "ledgerBalances", inPlace := ["maps.clone"], unfollowed := true, recurses := true, apart := false }
def LedgerBalancesSaid : Prop := ledgerBalancesRow.holds Try.pinned (OpenSpec.ofChange ledgerBalancesSpec)

/-- ITS FALSE NEIGHBOUR: 'it returns false'. Refute it at one input. -/
def ledgerBalancesWrong : ChangeSpec := { name := "ledgerBalances", fn := fun _ => fun
  | [d1, d2, d3] => { results := [.lit (.bool false)], args := [d1, d2, d3] }
  | _ => none }
def LedgerBalancesWrongFalsely : Prop := ledgerBalancesRow.holds Try.pinned (OpenSpec.ofChange ledgerBalancesWrong)

/-- 'recyclinglaw48.LedgerZero': WHATEVER THE INPUT: true; the input reads as it did. -/
def ledgerZeroSpec : ChangeSpec := { name := "ledgerZero", fn := fun _ => fun
  | [d1, d2] => { results := [.lit (.bool true)], args := [d1, d2] }
  | _ => none }
def ledgerZeroRow : OpenClaim := { program := "ytpghcnpheabbgaa", sum := "d6879ee92ac5e8696119d7d3caa7d9daf6d7eb2916c3b6fda9243c07a13925d8", func := "recycling/recyclinglaw48.LedgerZero", spec := "ledgerZero", inPlace := ["maps.clone"], unfollowed := true, recurses := true, apart := false }
def LedgerZeroSaid : Prop := ledgerZeroRow.holds Try.pinned (OpenSpec.ofChange ledgerZeroSpec)

/-- ITS FALSE NEIGHBOUR: 'it returns false'. Refute it at one input. -/
def ledgerZeroWrong : ChangeSpec := { name := "ledgerZero", fn := fun _ => fun
  | [d1, d2] => { results := [.lit (.bool false)], args := [d1, d2] }
  | _ => none }
def LedgerZeroWrongFalsely : Prop := ledgerZeroRow.holds Try.pinned (OpenSpec.ofChange ledgerZeroWrong)

/-- 'recyclinglaw48.LedgerMoments': WHATEVER THE INPUT: true; the input reads as it did. -/
def ledgerMomentsSpec : ChangeSpec := { name := "ledgerMoments", fn := fun _ => fun
  | [d1, d2, d3] => { results := [.lit (.bool true)], args := [d1, d2, d3] }
  | _ => none }
def ledgerMomentsRow : OpenClaim := { program := "ytpghcnpheabbgaa", sum := "d6879ee92ac5e8696119d7d3caa7d9daf6d7eb2916c3b6fda9243c07a13925d8", func := "recycling/recyclinglaw48.LedgerMoments", spec := "ledgerMoments", inPlace := ["maps.clone"], unfollowed := true, recurses := true, apart := false }
def LedgerMomentsSaid : Prop := ledgerMomentsRow.holds Try.pinned (OpenSpec.ofChange ledgerMomentsSpec)

/-- ITS FALSE NEIGHBOUR: 'it returns false'. Refute it at one input. -/
def ledgerMomentsWrong : ChangeSpec := { name := "ledgerMoments", fn := fun _ => fun
  | [d1, d2, d3] => { results := [.lit (.bool false)], args := [d1, d2, d3] }
  | _ => none }
def LedgerMomentsWrongFalsely : Prop := ledgerMomentsRow.holds Try.pinned (OpenSpec.ofChange ledgerMomentsWrong)

/-- 'recyclinglaw48.LedgerFails': WHATEVER THE INPUT: true; the input reads as it did. -/
def ledgerFailsSpec : ChangeSpec := { name := "ledgerFails", fn := fun _ => fun
  | [d1, d2] => { results := [.lit (.bool true)], args := [d1, d2] }
  | _ => none }
def ledgerFailsRow : OpenClaim := { program := "ytpghcnpheabbgaa", sum := "d6879ee92ac5e8696119d7d3caa7d9daf6d7eb2916c3b6fda9243c07a13925d8", func := "recycling/recyclinglaw48.LedgerFails", spec := "ledgerFails", inPlace := ["maps.clone"], unfollowed := true, recurses := true, apart := false }
def LedgerFailsSaid : Prop := ledgerFailsRow.holds Try.pinned (OpenSpec.ofChange ledgerFailsSpec)

/-- ITS FALSE NEIGHBOUR: 'it returns false'. Refute it at one input. -/
def ledgerFailsWrong : ChangeSpec := { name := "ledgerFails", fn := fun _ => fun
  | [d1, d2] => { results := [.lit (.bool false)], args := [d1, d2] }
  | _ => none }
def LedgerFailsWrongFalsely : Prop := ledgerFailsRow.holds Try.pinned (OpenSpec.ofChange ledgerFailsWrong)

/-- 'recyclinglaw48.LedgerCopies': WHATEVER THE INPUT: true; the input reads as it did. -/
def ledgerCopiesSpec : ChangeSpec := { name := "ledgerCopies", fn := fun _ => fun
  | [d] => { results := [.lit (.bool true)], args := [d] }
  | _ => none }
def ledgerCopiesRow : OpenClaim := { program := "ytpghcnpheabbgaa", sum := "d6879ee92ac5e8696119d7d3caa7d9daf6d7eb2916c3b6fda9243c07a13925d8", func := "recycling/recyclinglaw48.LedgerCopies", spec := "ledgerCopies", inPlace := ["maps.clone"], unfollowed := true, recurses := true, apart := false }
def LedgerCopiesSaid : Prop := ledgerCopiesRow.holds Try.pinned (OpenSpec.ofChange ledgerCopiesSpec)

/-- ITS FALSE NEIGHBOUR: 'it returns false'. Refute it at one input. -/
def ledgerCopiesWrong : ChangeSpec := { name := "ledgerCopies", fn := fun _ => fun
  | [d] => { results := [.lit (.bool false)], args := [d] }
  | _ => none }
def LedgerCopiesWrongFalsely : Prop := ledgerCopiesRow.holds Try.pinned (OpenSpec.ofChange ledgerCopiesWrong)

/-- 'recyclinglaw48.LedgerNil': WHATEVER THE INPUT: true; the input reads as it did. -/
def ledgerNilSpec : ChangeSpec := { name := "ledgerNil", fn := fun _ => fun
  | [d1, d2, d3] => { results := [.lit (.bool true)], args := [d1, d2, d3] }
  | _ => none }
def ledgerNilRow : OpenClaim := { program := "ytpghcnpheabbgaa", sum := "d6879ee92ac5e8696119d7d3caa7d9daf6d7eb2916c3b6fda9243c07a13925d8", func := "recycling/recyclinglaw48.LedgerNil", spec := "ledgerNil", inPlace := ["maps.clone"], unfollowed := true, recurses := true, apart := false }
def LedgerNilSaid : Prop := ledgerNilRow.holds Try.pinned (OpenSpec.ofChange ledgerNilSpec)

/-- ITS FALSE NEIGHBOUR: 'it returns false'. Refute it at one input. -/
def ledgerNilWrong : ChangeSpec := { name := "ledgerNil", fn := fun _ => fun
  | [d1, d2, d3] => { results := [.lit (.bool false)], args := [d1, d2, d3] }
  | _ => none }
def LedgerNilWrongFalsely : Prop := ledgerNilRow.holds Try.pinned (OpenSpec.ofChange ledgerNilWrong)

/- THE SECOND FORM. 'bulk': how many values and letters a reading holds, each counted each time it is reached (what is shared counts as often as it is met; a slice's spare places count too). A statement '..UptoSaid' is the law's where the arguments, and the package variables that the reading takes, are together of bulk at most 1048576: NARROWER than '..Said'. Prove '..Said' where nothing that the law and all that it calls make is longer than what came in: it says more and counts as full. Else prove '..UptoSaid'. A law counts once. -/
mutual
def uptoBulk {H : Type} : DataW H → Nat
  | .lit (.string bytes) => bytes.length + 1
  | .lit _ => 1
  | .nil => 1
  | .ptr d => uptoBulk d + 1
  | .slice elems spare => uptoBulkAll elems + uptoBulkAll spare + 1
  | .agg parts => uptoBulkAll parts + 1
  | .iface _ d => uptoBulk d + 1
  | .map entries => uptoBulkEntries entries + 1
  | .held _ => 1
def uptoBulkAll {H : Type} : List (DataW H) → Nat
  | [] => 0
  | d :: r => uptoBulk d + uptoBulkAll r
def uptoBulkEntries {H : Type} : List (Lit × DataW H) → Nat
  | [] => 0
  | x :: r => uptoBulkEntry x + uptoBulkEntries r
def uptoBulkEntry {H : Type} : Lit × DataW H → Nat
  | (.string bytes, d) => bytes.length + uptoBulk d + 1
  | (_, d) => uptoBulk d + 1
 end
def uptoSmall : (H : Type) → List (DataW H) → Bool := fun _ ds => decide (uptoBulkAll ds ≤ 1048576)
def OpenSpec.upto (s : _root_.Go.ChangeSpec) : _root_.Go.OpenSpec := { _root_.Go.OpenSpec.ofChange s with cond := some uptoSmall }

/-- 'recyclinglaw48.LedgerChecks', WHERE WHAT IT READS IS OF BULK AT MOST 1048576: true; the input reads as it did. -/
def ledgerChecksUptoRow : OpenClaim := { program := "ytpghcnpheabbgaa", sum := "d6879ee92ac5e8696119d7d3caa7d9daf6d7eb2916c3b6fda9243c07a13925d8", func := "recycling/recyclinglaw48.LedgerChecks", spec := "ledgerChecks", inPlace := ["maps.clone"], unfollowed := true, recurses := true, apart := false, narrowed := true }
def LedgerChecksUptoSaid : Prop := ledgerChecksUptoRow.holds Try.pinned (OpenSpec.upto ledgerChecksSpec)

/-- 'recyclinglaw48.LedgerPosts', WHERE WHAT IT READS IS OF BULK AT MOST 1048576: true; the input reads as it did. -/
def ledgerPostsUptoRow : OpenClaim := { program := "ytpghcnpheabbgaa", sum := "d6879ee92ac5e8696119d7d3caa7d9daf6d7eb2916c3b6fda9243c07a13925d8", func := "recycling/recyclinglaw48.LedgerPosts", spec := "ledgerPosts", inPlace := ["maps.clone"], unfollowed := true, recurses := true, apart := false, narrowed := true }
def LedgerPostsUptoSaid : Prop := ledgerPostsUptoRow.holds Try.pinned (OpenSpec.upto ledgerPostsSpec)

/-- 'recyclinglaw48.LedgerBalances', WHERE WHAT IT READS IS OF BULK AT MOST 1048576: true; the input reads as it did. -/
def ledgerBalancesUptoRow : OpenClaim := { program := "ytpghcnpheabbgaa", sum := "d6879ee92ac5e8696119d7d3caa7d9daf6d7eb2916c3b6fda9243c07a13925d8", func := "recycling/recyclinglaw48.LedgerBalances", spec := "ledgerBalances", inPlace := ["maps.clone"], unfollowed := true, recurses := true, apart := false, narrowed := true }
def LedgerBalancesUptoSaid : Prop := ledgerBalancesUptoRow.holds Try.pinned (OpenSpec.upto ledgerBalancesSpec)

/-- 'recyclinglaw48.LedgerZero', WHERE WHAT IT READS IS OF BULK AT MOST 1048576: true; the input reads as it did. -/
def ledgerZeroUptoRow : OpenClaim := { program := "ytpghcnpheabbgaa", sum := "d6879ee92ac5e8696119d7d3caa7d9daf6d7eb2916c3b6fda9243c07a13925d8", func := "recycling/recyclinglaw48.LedgerZero", spec := "ledgerZero", inPlace := ["maps.clone"], unfollowed := true, recurses := true, apart := false, narrowed := true }
def LedgerZeroUptoSaid : Prop := ledgerZeroUptoRow.holds Try.pinned (OpenSpec.upto ledgerZeroSpec)

/-- 'recyclinglaw48.LedgerMoments', WHERE WHAT IT READS IS OF BULK AT MOST 1048576: true; the input reads as it did. -/
def ledgerMomentsUptoRow : OpenClaim := { program := "ytpghcnpheabbgaa", sum := "d6879ee92ac5e8696119d7d3caa7d9daf6d7eb2916c3b6fda9243c07a13925d8", func := "recycling/recyclinglaw48.LedgerMoments", spec := "ledgerMoments", inPlace := ["maps.clone"], unfollowed := true, recurses := true, apart := false, narrowed := true }
def LedgerMomentsUptoSaid : Prop := ledgerMomentsUptoRow.holds Try.pinned (OpenSpec.upto ledgerMomentsSpec)

/-- 'recyclinglaw48.LedgerFails', WHERE WHAT IT READS IS OF BULK AT MOST 1048576: true; the input reads as it did. -/
def ledgerFailsUptoRow : OpenClaim := { program := "ytpghcnpheabbgaa", sum := "d6879ee92ac5e8696119d7d3caa7d9daf6d7eb2916c3b6fda9243c07a13925d8", func := "recycling/recyclinglaw48.LedgerFails", spec := "ledgerFails", inPlace := ["maps.clone"], unfollowed := true, recurses := true, apart := false, narrowed := true }
def LedgerFailsUptoSaid : Prop := ledgerFailsUptoRow.holds Try.pinned (OpenSpec.upto ledgerFailsSpec)

/-- 'recyclinglaw48.LedgerCopies', WHERE WHAT IT READS IS OF BULK AT MOST 1048576: true; the input reads as it did. -/
def ledgerCopiesUptoRow : OpenClaim := { program := "ytpghcnpheabbgaa", sum := "d6879ee92ac5e8696119d7d3caa7d9daf6d7eb2916c3b6fda9243c07a13925d8", func := "recycling/recyclinglaw48.LedgerCopies", spec := "ledgerCopies", inPlace := ["maps.clone"], unfollowed := true, recurses := true, apart := false, narrowed := true }
def LedgerCopiesUptoSaid : Prop := ledgerCopiesUptoRow.holds Try.pinned (OpenSpec.upto ledgerCopiesSpec)

/-- 'recyclinglaw48.LedgerNil', WHERE WHAT IT READS IS OF BULK AT MOST 1048576: true; the input reads as it did. -/
def ledgerNilUptoRow : OpenClaim := { program := "ytpghcnpheabbgaa", sum := "d6879ee92ac5e8696119d7d3caa7d9daf6d7eb2916c3b6fda9243c07a13925d8", func := "recycling/recyclinglaw48.LedgerNil", spec := "ledgerNil", inPlace := ["maps.clone"], unfollowed := true, recurses := true, apart := false, narrowed := true }
def LedgerNilUptoSaid : Prop := ledgerNilUptoRow.holds Try.pinned (OpenSpec.upto ledgerNilSpec)

end Rows
end Go.Proofs.Ytpghcnpheabbgaa
