/- maps.Clone at map[int]int: the contract. -/
import Derived.Test.YtpghcnpheabbgaaGx
import Derived.Test.YtpghcnpheabbgaaTt
import Derived.Test.YtpghcnpheabbgaaMc
namespace Go.Proofs.Ytpghcnpheabbgaa
open Go.RowKit Go.Maps Go.Shelf
set_option linter.unusedSimpArgs false
set_option linter.unusedVariables false

theorem mapClone_fn {μ : Gh} {L : List Seg} {R : Value → Gh → List Seg → Prop} {g cn : Nat} {es : Array MapEntry} (i : Nat) (hi : L[i]? = some [(g, .map es cn)])
    (hR : ∀ b, R (.map (some b)) μ ([(b, .map es cn)] :: L)) : Fn Try.prog 32 [.map (some g)] μ L R := by
  refine .inl ⟨⟨Try.f32, Try.func32, by kernel_rfl, rfl⟩, fun w hw => ?_⟩
  have hg : w.heap[g]? = some (.map es cn) := hw.own (g, _) (List.mem_flatten.2 ⟨_, List.mem_of_getElem? hi, by simp⟩)
  have h := AnyW.maps_Clone Try.mclA g es cn w hg
  change Calls Try.prog 32 _ _ _ at h
  refine h.mono ?_
  rintro e w' ⟨rfl, rfl⟩
  exact ⟨_, μ, _, rfl, Gh.le.refl _, hw.alloc _, hR _⟩

end Go.Proofs.Ytpghcnpheabbgaa
