/-
  No cell of these rows narrows 'for every input' (looked for: loops, veiled, ifaces, maps, wideKeys, modest, calm, conditions, laid).
  DERIVED. THE GIVEN ROWS OF THIS SEAT. 8 by the template 'for every input the law returns true; each argument reads behind the call as it read before'; 0 by the template 'total and deterministic' (their statements: YtchakbpjokemnaaTotals.lean).
  GIVEN WITH THE SEED: the statements are not yours to turn. If you find one false, say at which input.
  Laid BY PROGRAM, IN A SANDBOX (cutbox-rows.mjs): the forced cells as the released guide's own fill.sh prints them over the translation 8f1ed15844a2aa81… (all of the seat's roots in one cut). By AI agents, Wed Nov 11 2026. No macro, syntax, notation, axiom, sorry.
-/
import Derived.Test.YtchakbpjokemnaaChecked
import GoSem.Claim
import GoSem.ClaimJoined
import GoSem.ClaimMapViews
import Derived.JoinedTies
import Derived.KernelRfl
namespace Go.Proofs.Ytchakbpjokemnaa
/- THE CELL 'sum', in the pinned program and in every row, IS THE sha256 OF THE DUMP (.gsa) THAT YtchakbpjokemnaaProg.lean LOADS. Nothing in Lean hashes anything: it is a label: what it is worth is what the hold of that sum in a sandbox is worth. -/
noncomputable def Try.pinned : Pinned := { name := "ytchakbpjokemnaa", sum := "8f1ed15844a2aa81ec1fa960b25ff2664e91619035647b4b76659507e6e0651e", checked := Try.checked }
namespace Rows
def none {H : Type} : Left H := { results := [], args := [] }

/-- 'recyclinglaw27.TicketChecks': WHATEVER THE INPUT: true; the input reads as it did. -/
def ticketChecksSpec : ChangeSpec := { name := "ticketChecks", fn := fun _ => fun
  | [d1, d2] => { results := [.lit (.bool true)], args := [d1, d2] }
  | _ => none }
def ticketChecksRow : OpenClaim := { program := "ytchakbpjokemnaa", sum := "8f1ed15844a2aa81ec1fa960b25ff2664e91619035647b4b76659507e6e0651e", func := "recycling/recyclinglaw27.TicketChecks", spec := "ticketChecks", unfollowed := true, recurses := true, apart := false }
def TicketChecksSaid : Prop := ticketChecksRow.holds Try.pinned (OpenSpec.ofChange ticketChecksSpec)

/-- ITS FALSE NEIGHBOUR: 'it returns false'. Refute it at one input. -/
def ticketChecksWrong : ChangeSpec := { name := "ticketChecks", fn := fun _ => fun
  | [d1, d2] => { results := [.lit (.bool false)], args := [d1, d2] }
  | _ => none }
def TicketChecksWrongFalsely : Prop := ticketChecksRow.holds Try.pinned (OpenSpec.ofChange ticketChecksWrong)

/-- 'recyclinglaw27.TicketNets': WHATEVER THE INPUT: true; the input reads as it did. -/
def ticketNetsSpec : ChangeSpec := { name := "ticketNets", fn := fun _ => fun
  | [d1, d2] => { results := [.lit (.bool true)], args := [d1, d2] }
  | _ => none }
def ticketNetsRow : OpenClaim := { program := "ytchakbpjokemnaa", sum := "8f1ed15844a2aa81ec1fa960b25ff2664e91619035647b4b76659507e6e0651e", func := "recycling/recyclinglaw27.TicketNets", spec := "ticketNets", unfollowed := true, recurses := true, apart := false }
def TicketNetsSaid : Prop := ticketNetsRow.holds Try.pinned (OpenSpec.ofChange ticketNetsSpec)

/-- ITS FALSE NEIGHBOUR: 'it returns false'. Refute it at one input. -/
def ticketNetsWrong : ChangeSpec := { name := "ticketNets", fn := fun _ => fun
  | [d1, d2] => { results := [.lit (.bool false)], args := [d1, d2] }
  | _ => none }
def TicketNetsWrongFalsely : Prop := ticketNetsRow.holds Try.pinned (OpenSpec.ofChange ticketNetsWrong)

/-- 'recyclinglaw27.TicketActives': WHATEVER THE INPUT: true; the input reads as it did. -/
def ticketActivesSpec : ChangeSpec := { name := "ticketActives", fn := fun _ => fun
  | [d1, d2] => { results := [.lit (.bool true)], args := [d1, d2] }
  | _ => none }
def ticketActivesRow : OpenClaim := { program := "ytchakbpjokemnaa", sum := "8f1ed15844a2aa81ec1fa960b25ff2664e91619035647b4b76659507e6e0651e", func := "recycling/recyclinglaw27.TicketActives", spec := "ticketActives", unfollowed := true, recurses := true, apart := false }
def TicketActivesSaid : Prop := ticketActivesRow.holds Try.pinned (OpenSpec.ofChange ticketActivesSpec)

/-- ITS FALSE NEIGHBOUR: 'it returns false'. Refute it at one input. -/
def ticketActivesWrong : ChangeSpec := { name := "ticketActives", fn := fun _ => fun
  | [d1, d2] => { results := [.lit (.bool false)], args := [d1, d2] }
  | _ => none }
def TicketActivesWrongFalsely : Prop := ticketActivesRow.holds Try.pinned (OpenSpec.ofChange ticketActivesWrong)

/-- 'recyclinglaw27.TicketTotals': WHATEVER THE INPUT: true; the input reads as it did. -/
def ticketTotalsSpec : ChangeSpec := { name := "ticketTotals", fn := fun _ => fun
  | [d1, d2, d3] => { results := [.lit (.bool true)], args := [d1, d2, d3] }
  | _ => none }
def ticketTotalsRow : OpenClaim := { program := "ytchakbpjokemnaa", sum := "8f1ed15844a2aa81ec1fa960b25ff2664e91619035647b4b76659507e6e0651e", func := "recycling/recyclinglaw27.TicketTotals", spec := "ticketTotals", unfollowed := true, recurses := true, apart := false }
def TicketTotalsSaid : Prop := ticketTotalsRow.holds Try.pinned (OpenSpec.ofChange ticketTotalsSpec)

/-- ITS FALSE NEIGHBOUR: 'it returns false'. Refute it at one input. -/
def ticketTotalsWrong : ChangeSpec := { name := "ticketTotals", fn := fun _ => fun
  | [d1, d2, d3] => { results := [.lit (.bool false)], args := [d1, d2, d3] }
  | _ => none }
def TicketTotalsWrongFalsely : Prop := ticketTotalsRow.holds Try.pinned (OpenSpec.ofChange ticketTotalsWrong)

/-- 'recyclinglaw27.TicketChains': WHATEVER THE INPUT: true; the input reads as it did. -/
def ticketChainsSpec : ChangeSpec := { name := "ticketChains", fn := fun _ => fun
  | [d] => { results := [.lit (.bool true)], args := [d] }
  | _ => none }
def ticketChainsRow : OpenClaim := { program := "ytchakbpjokemnaa", sum := "8f1ed15844a2aa81ec1fa960b25ff2664e91619035647b4b76659507e6e0651e", func := "recycling/recyclinglaw27.TicketChains", spec := "ticketChains", unfollowed := true, recurses := true, apart := false }
def TicketChainsSaid : Prop := ticketChainsRow.holds Try.pinned (OpenSpec.ofChange ticketChainsSpec)

/-- ITS FALSE NEIGHBOUR: 'it returns false'. Refute it at one input. -/
def ticketChainsWrong : ChangeSpec := { name := "ticketChains", fn := fun _ => fun
  | [d] => { results := [.lit (.bool false)], args := [d] }
  | _ => none }
def TicketChainsWrongFalsely : Prop := ticketChainsRow.holds Try.pinned (OpenSpec.ofChange ticketChainsWrong)

/-- 'recyclinglaw27.TicketReplaced': WHATEVER THE INPUT: true; the input reads as it did. -/
def ticketReplacedSpec : ChangeSpec := { name := "ticketReplaced", fn := fun _ => fun
  | [d1, d2, d3] => { results := [.lit (.bool true)], args := [d1, d2, d3] }
  | _ => none }
def ticketReplacedRow : OpenClaim := { program := "ytchakbpjokemnaa", sum := "8f1ed15844a2aa81ec1fa960b25ff2664e91619035647b4b76659507e6e0651e", func := "recycling/recyclinglaw27.TicketReplaced", spec := "ticketReplaced", unfollowed := true, recurses := true, apart := false }
def TicketReplacedSaid : Prop := ticketReplacedRow.holds Try.pinned (OpenSpec.ofChange ticketReplacedSpec)

/-- ITS FALSE NEIGHBOUR: 'it returns false'. Refute it at one input. -/
def ticketReplacedWrong : ChangeSpec := { name := "ticketReplaced", fn := fun _ => fun
  | [d1, d2, d3] => { results := [.lit (.bool false)], args := [d1, d2, d3] }
  | _ => none }
def TicketReplacedWrongFalsely : Prop := ticketReplacedRow.holds Try.pinned (OpenSpec.ofChange ticketReplacedWrong)

/-- 'recyclinglaw27.TicketWindows': WHATEVER THE INPUT: true; the input reads as it did. -/
def ticketWindowsSpec : ChangeSpec := { name := "ticketWindows", fn := fun _ => fun
  | [d1, d2, d3] => { results := [.lit (.bool true)], args := [d1, d2, d3] }
  | _ => none }
def ticketWindowsRow : OpenClaim := { program := "ytchakbpjokemnaa", sum := "8f1ed15844a2aa81ec1fa960b25ff2664e91619035647b4b76659507e6e0651e", func := "recycling/recyclinglaw27.TicketWindows", spec := "ticketWindows", unfollowed := true, recurses := true, apart := false }
def TicketWindowsSaid : Prop := ticketWindowsRow.holds Try.pinned (OpenSpec.ofChange ticketWindowsSpec)

/-- ITS FALSE NEIGHBOUR: 'it returns false'. Refute it at one input. -/
def ticketWindowsWrong : ChangeSpec := { name := "ticketWindows", fn := fun _ => fun
  | [d1, d2, d3] => { results := [.lit (.bool false)], args := [d1, d2, d3] }
  | _ => none }
def TicketWindowsWrongFalsely : Prop := ticketWindowsRow.holds Try.pinned (OpenSpec.ofChange ticketWindowsWrong)

/-- 'recyclinglaw27.TicketNet': WHATEVER THE INPUT: true; the input reads as it did. -/
def ticketNetSpec : ChangeSpec := { name := "ticketNet", fn := fun _ => fun
  | [d1, d2, d3] => { results := [.lit (.bool true)], args := [d1, d2, d3] }
  | _ => none }
def ticketNetRow : OpenClaim := { program := "ytchakbpjokemnaa", sum := "8f1ed15844a2aa81ec1fa960b25ff2664e91619035647b4b76659507e6e0651e", func := "recycling/recyclinglaw27.TicketNet", spec := "ticketNet", unfollowed := true, recurses := true, apart := false }
def TicketNetSaid : Prop := ticketNetRow.holds Try.pinned (OpenSpec.ofChange ticketNetSpec)

/-- ITS FALSE NEIGHBOUR: 'it returns false'. Refute it at one input. -/
def ticketNetWrong : ChangeSpec := { name := "ticketNet", fn := fun _ => fun
  | [d1, d2, d3] => { results := [.lit (.bool false)], args := [d1, d2, d3] }
  | _ => none }
def TicketNetWrongFalsely : Prop := ticketNetRow.holds Try.pinned (OpenSpec.ofChange ticketNetWrong)

/- THE SECOND FORM. 'bulk': how many values and letters a reading holds, each counted each time it is reached (what is shared counts as often as it is met; a slice's spare places count too). A statement '..UptoSaid' is the law's where the arguments, and the package variables that the reading takes, are together of bulk at most 1048576: NARROWER than '..Said'. Prove '..Said' where nothing that the law and all that it calls make is longer than what came in: it says more and counts as full. Else prove '..UptoSaid'. A law counts once. -/
mutual
def uptoBulk {H : Type} : DataW H → Nat
  | .lit (.string bytes) => bytes.length + 1
  | .lit _ => 1
  | .nil => 1
  | .ptr d => uptoBulk d + 1
  | .slice elems spare => uptoBulkAll elems + uptoBulkAll spare + 1
  | .agg parts => uptoBulkAll parts + 1
  | .iface _ d => uptoBulk d + 1
  | .map entries => uptoBulkEntries entries + 1
  | .held _ => 1
def uptoBulkAll {H : Type} : List (DataW H) → Nat
  | [] => 0
  | d :: r => uptoBulk d + uptoBulkAll r
def uptoBulkEntries {H : Type} : List (Lit × DataW H) → Nat
  | [] => 0
  | x :: r => uptoBulkEntry x + uptoBulkEntries r
def uptoBulkEntry {H : Type} : Lit × DataW H → Nat
  | (.string bytes, d) => bytes.length + uptoBulk d + 1
  | (_, d) => uptoBulk d + 1
 end
def uptoSmall : (H : Type) → List (DataW H) → Bool := fun _ ds => decide (uptoBulkAll ds ≤ 1048576)
def OpenSpec.upto (s : _root_.Go.ChangeSpec) : _root_.Go.OpenSpec := { _root_.Go.OpenSpec.ofChange s with cond := some uptoSmall }

/-- 'recyclinglaw27.TicketChecks', WHERE WHAT IT READS IS OF BULK AT MOST 1048576: true; the input reads as it did. -/
def ticketChecksUptoRow : OpenClaim := { program := "ytchakbpjokemnaa", sum := "8f1ed15844a2aa81ec1fa960b25ff2664e91619035647b4b76659507e6e0651e", func := "recycling/recyclinglaw27.TicketChecks", spec := "ticketChecks", unfollowed := true, recurses := true, apart := false, narrowed := true }
def TicketChecksUptoSaid : Prop := ticketChecksUptoRow.holds Try.pinned (OpenSpec.upto ticketChecksSpec)

/-- 'recyclinglaw27.TicketNets', WHERE WHAT IT READS IS OF BULK AT MOST 1048576: true; the input reads as it did. -/
def ticketNetsUptoRow : OpenClaim := { program := "ytchakbpjokemnaa", sum := "8f1ed15844a2aa81ec1fa960b25ff2664e91619035647b4b76659507e6e0651e", func := "recycling/recyclinglaw27.TicketNets", spec := "ticketNets", unfollowed := true, recurses := true, apart := false, narrowed := true }
def TicketNetsUptoSaid : Prop := ticketNetsUptoRow.holds Try.pinned (OpenSpec.upto ticketNetsSpec)

/-- 'recyclinglaw27.TicketActives', WHERE WHAT IT READS IS OF BULK AT MOST 1048576: true; the input reads as it did. -/
def ticketActivesUptoRow : OpenClaim := { program := "ytchakbpjokemnaa", sum := "8f1ed15844a2aa81ec1fa960b25ff2664e91619035647b4b76659507e6e0651e", func := "recycling/recyclinglaw27.TicketActives", spec := "ticketActives", unfollowed := true, recurses := true, apart := false, narrowed := true }
def TicketActivesUptoSaid : Prop := ticketActivesUptoRow.holds Try.pinned (OpenSpec.upto ticketActivesSpec)

/-- 'recyclinglaw27.TicketTotals', WHERE WHAT IT READS IS OF BULK AT MOST 1048576: true; the input reads as it did. -/
def ticketTotalsUptoRow : OpenClaim := { program := "ytchakbpjokemnaa", sum := "8f1ed15844a2aa81ec1fa960b25ff2664e91619035647b4b76659507e6e0651e", func := "recycling/recyclinglaw27.TicketTotals", spec := "ticketTotals", unfollowed := true, recurses := true, apart := false, narrowed := true }
def TicketTotalsUptoSaid : Prop := ticketTotalsUptoRow.holds Try.pinned (OpenSpec.upto ticketTotalsSpec)

/-- 'recyclinglaw27.TicketChains', WHERE WHAT IT READS IS OF BULK AT MOST 1048576: true; the input reads as it did. -/
def ticketChainsUptoRow : OpenClaim := { program := "ytchakbpjokemnaa", sum := "8f1ed15844a2aa81ec1fa960b25ff2664e91619035647b4b76659507e6e0651e", func := "recycling/recyclinglaw27.TicketChains", spec := "ticketChains", unfollowed := true, recurses := true, apart := false, narrowed := true }
def TicketChainsUptoSaid : Prop := ticketChainsUptoRow.holds Try.pinned (OpenSpec.upto ticketChainsSpec)

/-- 'recyclinglaw27.TicketReplaced', WHERE WHAT IT READS IS OF BULK AT MOST 1048576: true; the input reads as it did. -/
def ticketReplacedUptoRow : OpenClaim := { program := "ytchakbpjokemnaa", sum := "8f1ed15844a2aa81ec1fa960b25ff2664e91619035647b4b76659507e6e0651e", func := "recycling/recyclinglaw27.TicketReplaced", spec := "ticketReplaced", unfollowed := true, recurses := true, apart := false, narrowed := true }
def TicketReplacedUptoSaid : Prop := ticketReplacedUptoRow.holds Try.pinned (OpenSpec.upto ticketReplacedSpec)

/-- 'recyclinglaw27.TicketWindows', WHERE WHAT IT READS IS OF BULK AT MOST 1048576: true; the input reads as it did. -/
def ticketWindowsUptoRow : OpenClaim := { program := "ytchakbpjokemnaa", sum := "8f1ed15844a2aa81ec1fa960b25ff2664e91619035647b4b76659507e6e0651e", func := "recycling/recyclinglaw27.TicketWindows", spec := "ticketWindows", unfollowed := true, recurses := true, apart := false, narrowed := true }
def TicketWindowsUptoSaid : Prop := ticketWindowsUptoRow.holds Try.pinned (OpenSpec.upto ticketWindowsSpec)

/-- 'recyclinglaw27.TicketNet', WHERE WHAT IT READS IS OF BULK AT MOST 1048576: true; the input reads as it did. -/
def ticketNetUptoRow : OpenClaim := { program := "ytchakbpjokemnaa", sum := "8f1ed15844a2aa81ec1fa960b25ff2664e91619035647b4b76659507e6e0651e", func := "recycling/recyclinglaw27.TicketNet", spec := "ticketNet", unfollowed := true, recurses := true, apart := false, narrowed := true }
def TicketNetUptoSaid : Prop := ticketNetUptoRow.holds Try.pinned (OpenSpec.upto ticketNetSpec)

end Rows
end Go.Proofs.Ytchakbpjokemnaa
