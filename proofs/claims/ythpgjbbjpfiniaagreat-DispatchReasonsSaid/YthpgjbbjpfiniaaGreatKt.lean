/- More of the library: two rows apart, writing into the middle of a row. -/
import Derived.Test.YthpgjbbjpfiniaaGreatKj
import Derived.Test.YthpgjbbjpfiniaaGreatKs
namespace Go.Proofs.YthpgjbbjpfiniaaGreat
open Go.RowKit
set_option linter.unusedSimpArgs false
set_option linter.unusedVariables false
theorem set_nil_get {L : List Seg} {i j : Nat} {t : Seg} (hij : i ≠ j) (hj : L[j]? = some t) : (L.set i [])[j]? = some t := by
  rw [List.getElem?_set_ne hij]; exact hj
theorem Inv.apart {w : World} {μ : Gh} {L : List Seg} (h : Inv w μ L) {i j : Nat} {s t : Seg} (hij : i ≠ j) (hi : L[i]? = some s) (hj : L[j]? = some t) {c d : Chunk} (hc : c ∈ s) (hd : d ∈ t) : c.1 ≠ d.1 := by
  have h1 := (h.perm (set_nil_perm hi)).nd
  simp only [List.flatten_cons, List.map_append, List.nodup_append] at h1
  exact h1.2.2 c.1 (List.mem_map.2 ⟨c, hc, rfl⟩) d.1 (List.mem_map.2 ⟨d, List.mem_flatten.2 ⟨t, List.mem_of_getElem? (set_nil_get hij hj), hd⟩, rfl⟩)
theorem OwnSl.of {e : TypeId} {sz n g cap : Nat} {css : List (List Value)} {l tl : List Value} (h : ∀ cs ∈ css, cs.length = sz) (hl : l = css.flatten ++ tl) (hn : css.length = n) (hc : n ≤ cap) (hm : cap ≤ maxLen) (hlen : css.flatten.length + tl.length = cap * sz) :
    OwnSl e sz (.slice (some ⟨g, 0, none⟩) n cap) css [(g, .cells l.toArray e (0, 0))] := by
  refine ⟨h, .inr ⟨g, cap, l.toArray, by rw [hn], rfl, by omega, hm, by rw [List.size_toArray, hl, List.length_append, hlen], ?_⟩⟩
  have := length_flat h
  simp only [hl, ← this, List.take_left]
theorem seg_set {L : List Seg} {i : Nat} {s : Seg} (s' : Seg) (hi : L[i]? = some s) : (L.set i s')[i]? = some s' := by
  refine List.getElem?_set_self ?_
  rcases Nat.lt_or_ge i L.length with h | h
  · exact h
  · rw [List.getElem?_eq_none h] at hi; cases hi
theorem StAt.at {L : List Seg} {g off : Nat} {l l' vs : List Value} {e : TypeId} (i : Nat) (hi : L[i]? = some [(g, .cells l.toArray e (0, 0))]) (hl : setL l off vs = l') (hlen : off + vs.length ≤ l.length) :
    StAt L ⟨g, off, none⟩ vs (L.set i [(g, .cells l'.toArray e (0, 0))]) := by
  have := StAt.seg (L := L) (off := off) (vs := vs) i 0 hi rfl (by simpa using hlen)
  simpa [hl] using this
section
variable {μ : Gh} {L : List Seg}
theorem Rd.take {A : Option Addr} {sz : Nat} {css : List (List Value)} (h : Rd μ L A sz css) (k : Nat) : Rd μ L A sz (css.take k) := by
  refine ⟨fun cs hc => h.1 cs (List.mem_of_mem_take hc), fun hne => ?_⟩
  obtain ⟨a, ha, hc⟩ := h.2 (fun e => hne (by rw [e]; simp))
  refine ⟨a, ha, fun j v hj => hc j v ?_⟩
  have : css.flatten = (css.take k).flatten ++ (css.drop k).flatten := by rw [← List.flatten_append, List.take_append_drop]
  rw [this, List.getElem?_append_left (by
    rcases Nat.lt_or_ge j (css.take k).flatten.length with h | h
    · exact h
    · rw [List.getElem?_eq_none h] at hj; cases hj)]
  exact hj
theorem Rd.drop {A : Option Addr} {sz : Nat} {css : List (List Value)} (h : Rd μ L A sz css) {k : Nat} (hk : k < css.length) : ∃ a, A = some a ∧ Cells μ L (a.add (k * sz)) (css.drop k).flatten := by
  obtain ⟨a, ha, hc⟩ := h.2 (fun e => by rw [e] at hk; simp at hk)
  refine ⟨a, ha, fun j v hj => ?_⟩
  rw [Addr.add_add']
  refine hc _ v ?_
  have h1 : css.flatten = (css.take k).flatten ++ (css.drop k).flatten := by rw [← List.flatten_append, List.take_append_drop]
  have h2 : (css.take k).flatten.length = k * sz := by
    rw [length_flat fun cs hc => h.1 cs (List.mem_of_mem_take hc), List.length_take, Nat.min_eq_left (by omega)]
  rw [h1, List.getElem?_append_right (by omega), h2, Nat.add_sub_cancel_left]
  exact hj
end
theorem WP.arr {P : Program} {N : NN} {c : Code} {K : Kont} {B : Nat → Kont} {Rk : Kont} {fr : Fr} {μ : Gh} {L : List Seg} {e : TypeId} {sz n cap : Nat} {A : Option Addr} {css : List (List Value)} {ch : Seg} (i : Nat) (hi : L[i]? = some ch) (hown : OwnSl e sz (.slice A n cap) css ch)
    (h : ∀ μ', μ.le μ' → Arr μ' A sz css → WP P N c K B Rk fr μ' (L.set i [])) : WP P N c K B Rk fr μ L := by
  refine WP.upd (Upd.arr i hi hown fun A' cap' μ' hv _ _ hm hA => Upd.done ?_)
  injection hv with hv _ _
  subst hv
  exact h μ' hm hA
end Go.Proofs.YthpgjbbjpfiniaaGreat
