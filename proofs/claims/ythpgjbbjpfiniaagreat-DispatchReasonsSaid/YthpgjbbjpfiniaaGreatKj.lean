/- Rows that can be read, wherever they lie; copy; append of zeros; the entry for slices.overlaps. -/
import Derived.Test.YthpgjbbjpfiniaaGreatKi
import Derived.Lib.Overlaps
namespace Go.Proofs.YthpgjbbjpfiniaaGreat
open Go.RowKit
set_option linter.unusedSimpArgs false
set_option linter.unusedVariables false
def Rd (μ : Gh) (L : List Seg) (A : Option Addr) (sz : Nat) (css : List (List Value)) : Prop :=
  (∀ cs ∈ css, cs.length = sz) ∧ (css ≠ [] → ∃ a, A = some a ∧ Cells μ L a css.flatten)
section
variable {μ : Gh} {L : List Seg}
theorem flat_pos {sz : Nat} : ∀ {css : List (List Value)} {k : Nat} {v : Value}, (∀ cs ∈ css, cs.length = sz) → css.flatten[k]? = some v →
    ∃ i j cs, css[i]? = some cs ∧ cs[j]? = some v ∧ k = i * sz + j
  | [], k, v, _, h => by simp at h
  | c :: r, k, v, hl, h => by
    have hc := hl c (by simp)
    rw [List.flatten_cons] at h
    by_cases hk : k < c.length
    · rw [List.getElem?_append_left hk] at h
      exact ⟨0, k, c, by simp, h, by simp⟩
    · rw [List.getElem?_append_right (by omega)] at h
      obtain ⟨i, j, cs, h1, h2, h3⟩ := flat_pos (fun c hc => hl c (by simp [hc])) h
      exact ⟨i + 1, j, cs, by simpa using h1, h2, by rw [Nat.succ_mul]; omega⟩
theorem Arr.rd {A : Option Addr} {sz : Nat} {css : List (List Value)} (h : Arr μ A sz css) : Rd μ L A sz css := by
  have hl : ∀ cs ∈ css, cs.length = sz := fun cs hcs => by
    obtain ⟨i, hi⟩ := List.getElem?_of_mem hcs
    exact (h i cs hi).1
  refine ⟨hl, fun hne => ?_⟩
  have h0 : 0 < css.length := List.length_pos_iff.2 hne
  obtain ⟨_, a, ha, _⟩ := h 0 css[0] (List.getElem?_eq_getElem h0)
  refine ⟨a, ha, fun k v hk => ?_⟩
  obtain ⟨i, j, cs, h1, h2, rfl⟩ := flat_pos hl hk
  obtain ⟨a', ha', hc⟩ := h.at_ (L := L) h1
  rw [ha] at ha'
  injection ha' with ha'
  subst ha'
  have := hc j v h2
  rwa [Addr.add_add'] at this
theorem Rd.at_ {A : Option Addr} {sz : Nat} {css : List (List Value)} (h : Rd μ L A sz css) {i : Nat} {cs : List Value} (hi : css[i]? = some cs) : ∃ a, A = some a ∧ Cells μ L (a.add (i * sz)) cs := by
  obtain ⟨a, ha, hc⟩ := h.2 (fun e => by rw [e] at hi; cases hi)
  refine ⟨a, ha, fun j v hj => ?_⟩
  rw [Addr.add_add']
  exact hc _ v (flat_get h.1 hi hj)
theorem Rd.mono {A : Option Addr} {sz : Nat} {css : List (List Value)} {μ' : Gh} {L' : List Seg} (h : Rd μ L A sz css) (hm : μ.le μ') (hl : ∀ c ∈ L.flatten, c ∈ L'.flatten) : Rd μ' L' A sz css :=
  ⟨h.1, fun hne => by obtain ⟨a, ha, hc⟩ := h.2 hne; exact ⟨a, ha, hc.mono hm hl⟩⟩
theorem Rd.cons {A : Option Addr} {sz : Nat} {css : List (List Value)} {s : Seg} (h : Rd μ L A sz css) : Rd μ (s :: L) A sz css := h.mono (Gh.le.refl _) (by intro c hc; simp [List.flatten_cons]; exact .inr (by simpa using hc))
theorem Rd.nil {A : Option Addr} {sz : Nat} : Rd μ L A sz [] := ⟨by simp, fun h => absurd rfl h⟩
theorem OwnSl.rd {e : TypeId} {sz : Nat} {A : Option Addr} {n cap : Nat} {css : List (List Value)} {ch : Seg} (h : OwnSl e sz (.slice A n cap) css ch) (i : Nat) (hi : L[i]? = some ch) : Rd μ L A sz css := by
  refine ⟨h.1, fun hne => ?_⟩
  rcases h.2 with ⟨_, rfl, _⟩ | ⟨g, cap', cur, hv, rfl, h1, h2, h3, h4⟩
  · exact absurd rfl hne
  · injection hv with hv _ _
    refine ⟨_, hv, fun k v hk => ?_⟩
    rw [addr_add]
    refine Cell.seg i 0 hi rfl ?_
    rw [← h4] at hk
    rw [List.getElem?_take] at hk
    split at hk
    · simpa using hk
    · cases hk
theorem Rd.chunk (i : Nat) {g : Nat} {cs : List Value} {e : TypeId} {f : Nat × Nat} {sz : Nat} {css : List (List Value)} (hi : L[i]? = some [(g, .cells cs.toArray e f)]) (hl : ∀ c ∈ css, c.length = sz) (hc : cs = css.flatten) :
    Rd μ L (some ⟨g, 0, none⟩) sz css :=
  ⟨hl, fun _ => ⟨_, rfl, fun k v hk => by rw [addr_add]; exact Cell.seg i 0 hi rfl (by simpa [hc] using hk)⟩⟩
end
section
variable {P : Program} {T : TT} {μ : Gh} {L : List Seg} {k : Value → Gh → List Seg → Prop}
theorem sem_app (hT : TOk P T) {t ty e : TypeId} {it ie : TyI} (ht : T t = some it) (hu : it.u = .slice e) (he : T e = some ie) (hz : ie.zero.cells.size = ie.size) (hsz : 0 < ie.size)
    {v : Value} {css : List (List Value)} {ch : Seg} (i : Nat) (hi : L[i]? = some ch) (hown : OwnSl e ie.size v css ch)
    {A : Option Addr} {m c : Nat} {news : List (List Value)} (hm : news.length = m) (hr : Rd μ L A ie.size news) (h1 : ∀ cs ∈ news, ∀ u ∈ cs, u.oneCell' = true)
    (h63 : css.length + m ≤ 140737488355328) (hb : (css.length + m) * ie.bytes ≤ 140737488355328)
    (hk : ∀ v' ch', OwnSl e ie.size v' (css ++ news) ch' → (css ++ news = [] → v' = v ∨ A ≠ none) → k v' μ (L.set i ch')) :
    SemOk P (Builtin.append_ #[t, t] ty #[v, .slice A m c]) μ L k :=
  sem_append hT ht hu he hz hsz i hi hown hm hr.1 h1 (fun h => hr.2 (fun e => by rw [e] at hm; simp at hm; omega)) (by unfold maxLen; omega) hb hk
end
end Go.Proofs.YthpgjbbjpfiniaaGreat
