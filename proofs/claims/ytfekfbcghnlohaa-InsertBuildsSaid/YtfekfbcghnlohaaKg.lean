/- Small words for walks: forgetting slots, loops, cells of chunks, slices that are read. -/
import Derived.Test.YtfekfbcghnlohaaKf
namespace Go.Proofs.Ytfekfbcghnlohaa
open Go.RowKit
set_option linter.unusedSimpArgs false
set_option linter.unusedVariables false

theorem Addr.add_zero' (a : Addr) : a.add 0 = a := by simp [Addr.add]
theorem Addr.add_add' (a : Addr) (i j : Nat) : (a.add i).add j = a.add (i + j) := by
  unfold Addr.add
  by_cases hi : i = 0 <;> by_cases hj : j = 0 <;> simp [hi, hj, Nat.add_assoc]
theorem Addr.block_add (a : Addr) (n : Nat) : (a.add n).block = a.block := by unfold Addr.add; split <;> rfl

/-- The slots that are kept. -/
def keepF (ts : List Nat) (fr : Fr) : Fr := match ts with
  | [] => []
  | t :: r => match look fr t with
    | some v => (t, v) :: keepF r fr
    | none => keepF r fr
theorem look_keepF (fr : Fr) : ∀ (ts : List Nat) (t : Nat) (v : Value), look (keepF ts fr) t = some v → look fr t = some v
  | [], t, v, h => by cases h
  | s :: r, t, v, h => by
    simp only [keepF] at h
    cases hs : look fr s with
    | none => rw [hs] at h; exact look_keepF fr r t v h
    | some u =>
      rw [hs] at h
      simp only [look_cons] at h
      by_cases he : s = t
      · rw [if_pos he] at h; subst he; rw [← h]; exact hs
      · rw [if_neg he] at h; exact look_keepF fr r t v h
def SubF (fr' fr : Fr) : Prop := match fr' with
  | [] => True
  | p :: r => look fr p.1 = some p.2 ∧ SubF r fr
theorem SubF.look {fr : Fr} : ∀ {fr' : Fr}, SubF fr' fr → ∀ t v, Go.Proofs.Ytfekfbcghnlohaa.look fr' t = some v → Go.Proofs.Ytfekfbcghnlohaa.look fr t = some v
  | [], _, t, v, h => by cases h
  | p :: r, hs, t, v, h => by
    simp only [look_cons] at h
    by_cases he : p.1 = t
    · rw [if_pos he] at h; subst he; rw [← h]; exact hs.1
    · rw [if_neg he] at h; exact SubF.look hs.2 t v h

section
variable {P : Program} {T : TT} {N : NN} {K : Kont} {B : Nat → Kont} {R : Kont} {fr : Fr} {μ : Gh} {L : List Seg}

theorem WP.keep {c : Code} (ts : List Nat) (h : WP P N c K B R (keepF ts fr) μ L) : WP P N c K B R fr μ L := h.sub (look_keepF fr ts) (List.Sublist.refl _)
theorem WP.drop {c : Code} {s : Seg} (h : WP P N c K B R fr μ L) : WP P N c K B R fr μ (s :: L) := h.sub (fun _ _ h => h) (by simp [List.flatten_cons])

/-- A loop: its state, the slots that hold it, what else holds, a number that goes down. At a round's end slots and segments may be forgotten. -/
theorem WP.loopS {σ : Type} {c : Code} (F : σ → Fr) (m : σ → Nat) (I : σ → Gh → List Seg → Prop) (s0 : σ) (hF : SubF (F s0) fr) (h0 : I s0 μ L)
    (round : ∀ s μ' L', μ.le μ' → I s μ' L' → ∀ K' : Kont, (∀ fr' μ2 L2 s' L3, m s' < m s → SubF (F s') fr' → L3.flatten.Sublist L2.flatten → I s' μ2 L3 → K' fr' μ2 L2) → WP P N c K' B R (F s) μ' L') :
    WP P N (.loop c) K B R fr μ L := by
  refine WP.loop (fun n fr μ L => ∃ s L2, n = m s ∧ (∀ t v, Go.Proofs.Ytfekfbcghnlohaa.look (F s) t = some v → Go.Proofs.Ytfekfbcghnlohaa.look fr t = some v) ∧ L2.flatten.Sublist L.flatten ∧ I s μ L2) (n := m s0) ⟨s0, L, rfl, hF.look, List.Sublist.refl _, h0⟩ ?_
  rintro n fr1 μ1 L1 hm ⟨s, L2, rfl, h1, h2, h3⟩
  refine WP.sub (fr' := F s) (L' := L2) ?_ h1 h2
  exact round s μ1 L2 hm h3 _ fun fr' μ2 L3 s' L4 k1 k2 k3 k4 => ⟨m s', k1, s', L4, rfl, k2.look, k3, k4⟩
end

abbrev w64 (n : Int) : Int := IntKind.i64.wrap n
theorem w64_of {n : Int} (h1 : -9223372036854775808 ≤ n) (h2 : n ≤ 9223372036854775807) : IntKind.i64.wrap n = n := by
  rw [IntKind.wrap_i64]; omega
theorem w64_succ {k : Nat} (h : (k : Int) + 1 ≤ 9223372036854775807) : IntKind.i64.wrap ((k : Int) + 1) = ((k + 1 : Nat) : Int) := by
  rw [w64_of (by omega) h]; omega

theorem Kept.refl {L : List Seg} : Kept L L := fun _ h => h
theorem Kept.cons {L : List Seg} {s : Seg} : Kept L (s :: L) := fun c hc => by simp only [List.flatten_cons, List.mem_append]; exact .inr hc
theorem Kept.nil {L : List Seg} : Kept [] L := fun c hc => by cases hc

/-! ### Cells -/
section
variable {μ : Gh} {L : List Seg}
theorem ObjAt.seg (i j : Nat) {s : Seg} {g : Nat} {o : Obj} (hi : L[i]? = some s) (hj : s[j]? = some (g, o)) : ObjAt μ L g o :=
  .inr (List.mem_flatten.2 ⟨s, List.mem_of_getElem? hi, List.mem_of_getElem? hj⟩)
theorem Cell.seg (i j : Nat) {s : Seg} {g off : Nat} {cs : Array Value} {e : TypeId} {f : Nat × Nat} {v : Value} (hi : L[i]? = some s) (hj : s[j]? = some (g, .cells cs e f)) (hv : cs.toList[off]? = some v) : Cell μ L ⟨g, off, none⟩ v :=
  ⟨rfl, cs, e, f, ObjAt.seg i j hi hj, by simpa using hv⟩
theorem Cells.seg (i j : Nat) {s : Seg} {g off : Nat} {cs : Array Value} {e : TypeId} {f : Nat × Nat} {vs : List Value} (hi : L[i]? = some s) (hj : s[j]? = some (g, .cells cs e f)) (hv : (cs.toList.drop off).take vs.length = vs) : Cells μ L ⟨g, off, none⟩ vs := by
  intro k v hk
  rw [addr_add]
  refine Cell.seg i j hi hj ?_
  rw [← hv] at hk
  have hlt : k < vs.length := by
    rcases Nat.lt_or_ge k vs.length with h | h
    · exact h
    · rw [List.getElem?_eq_none (by rw [List.length_take]; omega)] at hk; cases hk
  rw [List.getElem?_take_of_lt hlt, List.getElem?_drop] at hk
  simpa using hk
theorem Cells.nil {a : Addr} : Cells μ L a [] := fun _ _ h => by cases h
theorem Cell.of_cells {a : Addr} {vs : List Value} (h : Cells μ L a vs) (j : Nat) {v : Value} (hv : vs[j]? = some v) : Cell μ L (a.add j) v := h j v hv
theorem Cell.of_cells0 {a : Addr} {vs : List Value} (h : Cells μ L a vs) {v : Value} (hv : vs[0]? = some v) : Cell μ L a v := by
  have := h 0 v hv
  rwa [Addr.add_zero'] at this
theorem StAt.seg (i j : Nat) {s : Seg} {g off : Nat} {cs : Array Value} {e : TypeId} {vs : List Value} (hi : L[i]? = some s) (hj : s[j]? = some (g, .cells cs e (0, 0))) (hl : off + vs.length ≤ cs.size) :
    StAt L ⟨g, off, none⟩ vs (L.set i (s.set j (g, .cells (setL cs.toList off vs).toArray e (0, 0)))) :=
  ⟨i, j, s, cs, e, hi, hj, rfl, hl, rfl⟩

/-- Rows of cells that stay: element i lies at 'i * sz'. -/
def Arr (μ : Gh) (A : Option Addr) (sz : Nat) (css : List (List Value)) : Prop :=
  ∀ i cs, css[i]? = some cs → cs.length = sz ∧ ∃ a, A = some a ∧ Cells μ [] (a.add (i * sz)) cs
theorem Arr.mono {μ' : Gh} {A : Option Addr} {sz : Nat} {css : List (List Value)} (h : Arr μ A sz css) (hm : μ.le μ') : Arr μ' A sz css := by
  intro i cs hi
  obtain ⟨h1, a, h2, h3⟩ := h i cs hi
  exact ⟨h1, a, h2, h3.mono hm (by simp)⟩
theorem Arr.nil {sz : Nat} {A : Option Addr} : Arr μ A sz [] := fun _ _ h => by cases h
theorem Arr.at_ {A : Option Addr} {sz : Nat} {css : List (List Value)} (h : Arr μ A sz css) {i : Nat} {cs : List Value} (hi : css[i]? = some cs) :
    ∃ a, A = some a ∧ Cells μ L (a.add (i * sz)) cs := by
  obtain ⟨_, a, h2, h3⟩ := h i cs hi
  exact ⟨a, h2, h3.mono (Gh.le.refl _) (by simp)⟩
end

end Go.Proofs.Ytfekfbcghnlohaa
