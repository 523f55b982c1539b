/-
  No cell of these rows narrows 'for every input' (looked for: loops, veiled, ifaces, maps, wideKeys, modest, calm, conditions, laid).
  DERIVED. THE GIVEN ROWS OF THIS SEAT. 6 by the template 'for every input the law returns true; each argument reads behind the call as it read before'; 0 by the template 'total and deterministic' (their statements: YticcfpmehjcjcaaTotals.lean).
  GIVEN WITH THE SEED: the statements are not yours to turn. If you find one false, say at which input.
  Laid BY PROGRAM, IN A SANDBOX (cutbox-rows.mjs): the forced cells as the released guide's own fill.sh prints them over the translation 87eb3a942e5c8c3a… (all of the seat's roots in one cut). By AI agents, Wed Nov 11 2026. No macro, syntax, notation, axiom, sorry.
-/
import Derived.Test.YticcfpmehjcjcaaChecked
import GoSem.Claim
import GoSem.ClaimJoined
import GoSem.ClaimMapViews
import Derived.JoinedTies
import Derived.KernelRfl
namespace Go.Proofs.Yticcfpmehjcjcaa
/- THE CELL 'sum', in the pinned program and in every row, IS THE sha256 OF THE DUMP (.gsa) THAT YticcfpmehjcjcaaProg.lean LOADS. Nothing in Lean hashes anything: it is a label: what it is worth is what the hold of that sum in a sandbox is worth. -/
noncomputable def Try.pinned : Pinned := { name := "yticcfpmehjcjcaa", sum := "87eb3a942e5c8c3a01261fffcb1722f806f85a82131a6e5cadcd68a8b512b226", checked := Try.checked }
namespace Rows
def none {H : Type} : Left H := { results := [], args := [] }

/-- 'recyclinglaw56.PaymentRuns': WHATEVER THE INPUT: true; the input reads as it did. -/
def paymentRunsSpec : ChangeSpec := { name := "paymentRuns", fn := fun _ => fun
  | [d] => { results := [.lit (.bool true)], args := [d] }
  | _ => none }
def paymentRunsRow : OpenClaim := { program := "yticcfpmehjcjcaa", sum := "87eb3a942e5c8c3a01261fffcb1722f806f85a82131a6e5cadcd68a8b512b226", func := "recycling/recyclinglaw56.PaymentRuns", spec := "paymentRuns", inPlace := ["slices.overlaps[recycling/api.Open]"], unfollowed := true, recurses := true, apart := false }
def PaymentRunsSaid : Prop := paymentRunsRow.holds Try.pinned (OpenSpec.ofChange paymentRunsSpec)

/-- ITS FALSE NEIGHBOUR: 'it returns false'. Refute it at one input. -/
def paymentRunsWrong : ChangeSpec := { name := "paymentRuns", fn := fun _ => fun
  | [d] => { results := [.lit (.bool false)], args := [d] }
  | _ => none }
def PaymentRunsWrongFalsely : Prop := paymentRunsRow.holds Try.pinned (OpenSpec.ofChange paymentRunsWrong)

/-- 'recyclinglaw56.PaymentBalance': WHATEVER THE INPUT: true; the input reads as it did. -/
def paymentBalanceSpec : ChangeSpec := { name := "paymentBalance", fn := fun _ => fun
  | [d1, d2] => { results := [.lit (.bool true)], args := [d1, d2] }
  | _ => none }
def paymentBalanceRow : OpenClaim := { program := "yticcfpmehjcjcaa", sum := "87eb3a942e5c8c3a01261fffcb1722f806f85a82131a6e5cadcd68a8b512b226", func := "recycling/recyclinglaw56.PaymentBalance", spec := "paymentBalance", inPlace := ["slices.overlaps[recycling/api.Open]"], unfollowed := true, recurses := true, apart := false }
def PaymentBalanceSaid : Prop := paymentBalanceRow.holds Try.pinned (OpenSpec.ofChange paymentBalanceSpec)

/-- ITS FALSE NEIGHBOUR: 'it returns false'. Refute it at one input. -/
def paymentBalanceWrong : ChangeSpec := { name := "paymentBalance", fn := fun _ => fun
  | [d1, d2] => { results := [.lit (.bool false)], args := [d1, d2] }
  | _ => none }
def PaymentBalanceWrongFalsely : Prop := paymentBalanceRow.holds Try.pinned (OpenSpec.ofChange paymentBalanceWrong)

/-- 'recyclinglaw56.PaymentUses': WHATEVER THE INPUT: true; the input reads as it did. -/
def paymentUsesSpec : ChangeSpec := { name := "paymentUses", fn := fun _ => fun
  | [d1, d2, d3] => { results := [.lit (.bool true)], args := [d1, d2, d3] }
  | _ => none }
def paymentUsesRow : OpenClaim := { program := "yticcfpmehjcjcaa", sum := "87eb3a942e5c8c3a01261fffcb1722f806f85a82131a6e5cadcd68a8b512b226", func := "recycling/recyclinglaw56.PaymentUses", spec := "paymentUses", inPlace := ["slices.overlaps[recycling/api.Open]"], unfollowed := true, recurses := true, apart := false }
def PaymentUsesSaid : Prop := paymentUsesRow.holds Try.pinned (OpenSpec.ofChange paymentUsesSpec)

/-- ITS FALSE NEIGHBOUR: 'it returns false'. Refute it at one input. -/
def paymentUsesWrong : ChangeSpec := { name := "paymentUses", fn := fun _ => fun
  | [d1, d2, d3] => { results := [.lit (.bool false)], args := [d1, d2, d3] }
  | _ => none }
def PaymentUsesWrongFalsely : Prop := paymentUsesRow.holds Try.pinned (OpenSpec.ofChange paymentUsesWrong)

/-- 'recyclinglaw56.PaymentTwo': WHATEVER THE INPUT: true; the input reads as it did. -/
def paymentTwoSpec : ChangeSpec := { name := "paymentTwo", fn := fun _ => fun
  | [d1, d2, d3, d4] => { results := [.lit (.bool true)], args := [d1, d2, d3, d4] }
  | _ => none }
def paymentTwoRow : OpenClaim := { program := "yticcfpmehjcjcaa", sum := "87eb3a942e5c8c3a01261fffcb1722f806f85a82131a6e5cadcd68a8b512b226", func := "recycling/recyclinglaw56.PaymentTwo", spec := "paymentTwo", inPlace := ["slices.overlaps[recycling/api.Open]"], unfollowed := true, recurses := true, apart := false }
def PaymentTwoSaid : Prop := paymentTwoRow.holds Try.pinned (OpenSpec.ofChange paymentTwoSpec)

/-- ITS FALSE NEIGHBOUR: 'it returns false'. Refute it at one input. -/
def paymentTwoWrong : ChangeSpec := { name := "paymentTwo", fn := fun _ => fun
  | [d1, d2, d3, d4] => { results := [.lit (.bool false)], args := [d1, d2, d3, d4] }
  | _ => none }
def PaymentTwoWrongFalsely : Prop := paymentTwoRow.holds Try.pinned (OpenSpec.ofChange paymentTwoWrong)

/-- 'recyclinglaw56.PaymentLate': WHATEVER THE INPUT: true; the input reads as it did. -/
def paymentLateSpec : ChangeSpec := { name := "paymentLate", fn := fun _ => fun
  | [d1, d2, d3] => { results := [.lit (.bool true)], args := [d1, d2, d3] }
  | _ => none }
def paymentLateRow : OpenClaim := { program := "yticcfpmehjcjcaa", sum := "87eb3a942e5c8c3a01261fffcb1722f806f85a82131a6e5cadcd68a8b512b226", func := "recycling/recyclinglaw56.PaymentLate", spec := "paymentLate", inPlace := ["slices.overlaps[recycling/api.Open]"], unfollowed := true, recurses := true, apart := false }
def PaymentLateSaid : Prop := paymentLateRow.holds Try.pinned (OpenSpec.ofChange paymentLateSpec)

/-- ITS FALSE NEIGHBOUR: 'it returns false'. Refute it at one input. -/
def paymentLateWrong : ChangeSpec := { name := "paymentLate", fn := fun _ => fun
  | [d1, d2, d3] => { results := [.lit (.bool false)], args := [d1, d2, d3] }
  | _ => none }
def PaymentLateWrongFalsely : Prop := paymentLateRow.holds Try.pinned (OpenSpec.ofChange paymentLateWrong)

/-- 'recyclinglaw56.PaymentNil': WHATEVER THE INPUT: true; the input reads as it did. -/
def paymentNilSpec : ChangeSpec := { name := "paymentNil", fn := fun _ => fun
  | [d] => { results := [.lit (.bool true)], args := [d] }
  | _ => none }
def paymentNilRow : OpenClaim := { program := "yticcfpmehjcjcaa", sum := "87eb3a942e5c8c3a01261fffcb1722f806f85a82131a6e5cadcd68a8b512b226", func := "recycling/recyclinglaw56.PaymentNil", spec := "paymentNil", inPlace := ["slices.overlaps[recycling/api.Open]"], unfollowed := true, recurses := true, apart := false }
def PaymentNilSaid : Prop := paymentNilRow.holds Try.pinned (OpenSpec.ofChange paymentNilSpec)

/-- ITS FALSE NEIGHBOUR: 'it returns false'. Refute it at one input. -/
def paymentNilWrong : ChangeSpec := { name := "paymentNil", fn := fun _ => fun
  | [d] => { results := [.lit (.bool false)], args := [d] }
  | _ => none }
def PaymentNilWrongFalsely : Prop := paymentNilRow.holds Try.pinned (OpenSpec.ofChange paymentNilWrong)

/- THE SECOND FORM. 'bulk': how many values and letters a reading holds, each counted each time it is reached (what is shared counts as often as it is met; a slice's spare places count too). A statement '..UptoSaid' is the law's where the arguments, and the package variables that the reading takes, are together of bulk at most 1048576: NARROWER than '..Said'. Prove '..Said' where nothing that the law and all that it calls make is longer than what came in: it says more and counts as full. Else prove '..UptoSaid'. A law counts once. -/
mutual
def uptoBulk {H : Type} : DataW H → Nat
  | .lit (.string bytes) => bytes.length + 1
  | .lit _ => 1
  | .nil => 1
  | .ptr d => uptoBulk d + 1
  | .slice elems spare => uptoBulkAll elems + uptoBulkAll spare + 1
  | .agg parts => uptoBulkAll parts + 1
  | .iface _ d => uptoBulk d + 1
  | .map entries => uptoBulkEntries entries + 1
  | .held _ => 1
def uptoBulkAll {H : Type} : List (DataW H) → Nat
  | [] => 0
  | d :: r => uptoBulk d + uptoBulkAll r
def uptoBulkEntries {H : Type} : List (Lit × DataW H) → Nat
  | [] => 0
  | x :: r => uptoBulkEntry x + uptoBulkEntries r
def uptoBulkEntry {H : Type} : Lit × DataW H → Nat
  | (.string bytes, d) => bytes.length + uptoBulk d + 1
  | (_, d) => uptoBulk d + 1
 end
def uptoSmall : (H : Type) → List (DataW H) → Bool := fun _ ds => decide (uptoBulkAll ds ≤ 1048576)
def OpenSpec.upto (s : _root_.Go.ChangeSpec) : _root_.Go.OpenSpec := { _root_.Go.OpenSpec.ofChange s with cond := some uptoSmall }

/-- 'recyclinglaw56.PaymentRuns', WHERE WHAT IT READS IS OF BULK AT MOST 1048576: true; the input reads as it did. -/
def paymentRunsUptoRow : OpenClaim := { program := "yticcfpmehjcjcaa", sum := "87eb3a942e5c8c3a01261fffcb1722f806f85a82131a6e5cadcd68a8b512b226", func := "recycling/recyclinglaw56.PaymentRuns", spec := "paymentRuns", inPlace := ["slices.overlaps[recycling/api.Open]"], unfollowed := true, recurses := true, apart := false, narrowed := true }
def PaymentRunsUptoSaid : Prop := paymentRunsUptoRow.holds Try.pinned (OpenSpec.upto paymentRunsSpec)

/-- 'recyclinglaw56.PaymentBalance', WHERE WHAT IT READS IS OF BULK AT MOST 1048576: true; the input reads as it did. -/
def paymentBalanceUptoRow : OpenClaim := { program := "yticcfpmehjcjcaa", sum := "87eb3a942e5c8c3a01261fffcb1722f806f85a82131a6e5cadcd68a8b512b226", func := "recycling/recyclinglaw56.PaymentBalance", spec := "paymentBalance", inPlace := ["slices.overlaps[recycling/api.Open]"], unfollowed := true, recurses := true, apart := false, narrowed := true }
def PaymentBalanceUptoSaid : Prop := paymentBalanceUptoRow.holds Try.pinned (OpenSpec.upto paymentBalanceSpec)

/-- 'recyclinglaw56.PaymentUses', WHERE WHAT IT READS IS OF BULK AT MOST 1048576: true; the input reads as it did. -/
def paymentUsesUptoRow : OpenClaim := { program := "yticcfpmehjcjcaa", sum := "87eb3a942e5c8c3a01261fffcb1722f806f85a82131a6e5cadcd68a8b512b226", func := "recycling/recyclinglaw56.PaymentUses", spec := "paymentUses", inPlace := ["slices.overlaps[recycling/api.Open]"], unfollowed := true, recurses := true, apart := false, narrowed := true }
def PaymentUsesUptoSaid : Prop := paymentUsesUptoRow.holds Try.pinned (OpenSpec.upto paymentUsesSpec)

/-- 'recyclinglaw56.PaymentTwo', WHERE WHAT IT READS IS OF BULK AT MOST 1048576: true; the input reads as it did. -/
def paymentTwoUptoRow : OpenClaim := { program := "yticcfpmehjcjcaa", sum := "87eb3a942e5c8c3a01261fffcb1722f806f85a82131a6e5cadcd68a8b512b226", func := "recycling/recyclinglaw56.PaymentTwo", spec := "paymentTwo", inPlace := ["slices.overlaps[recycling/api.Open]"], unfollowed := true, recurses := true, apart := false, narrowed := true }
def PaymentTwoUptoSaid : Prop := paymentTwoUptoRow.holds Try.pinned (OpenSpec.upto paymentTwoSpec)

/-- 'recyclinglaw56.PaymentLate', WHERE WHAT IT READS IS OF BULK AT MOST 1048576: true; the input reads as it did. -/
def paymentLateUptoRow : OpenClaim := { program := "yticcfpmehjcjcaa", sum := "87eb3a942e5c8c3a01261fffcb1722f806f85a82131a6e5cadcd68a8b512b226", func := "recycling/recyclinglaw56.PaymentLate", spec := "paymentLate", inPlace := ["slices.overlaps[recycling/api.Open]"], unfollowed := true, recurses := true, apart := false, narrowed := true }
def PaymentLateUptoSaid : Prop := paymentLateUptoRow.holds Try.pinned (OpenSpec.upto paymentLateSpec)

/-- 'recyclinglaw56.PaymentNil', WHERE WHAT IT READS IS OF BULK AT MOST 1048576: true; the input reads as it did. -/
def paymentNilUptoRow : OpenClaim := { program := "yticcfpmehjcjcaa", sum := "87eb3a942e5c8c3a01261fffcb1722f806f85a82131a6e5cadcd68a8b512b226", func := "recycling/recyclinglaw56.PaymentNil", spec := "paymentNil", inPlace := ["slices.overlaps[recycling/api.Open]"], unfollowed := true, recurses := true, apart := false, narrowed := true }
def PaymentNilUptoSaid : Prop := paymentNilUptoRow.holds Try.pinned (OpenSpec.upto paymentNilSpec)

end Rows
end Go.Proofs.Yticcfpmehjcjcaa
