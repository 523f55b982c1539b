/- Arguments that came in, of whatever type of data: what represents them. -/
import Derived.Test.YthpgjbbjpfiniaaGreatGa
import Derived.Test.YthpgjbbjpfiniaaGreatKu
import Derived.Deep.Slices
import Derived.Deep.Fields
import Derived.OpenShut
namespace Go.Proofs.YthpgjbbjpfiniaaGreat
open Go.RowKit Go.ChangeShapes Go.WideShapes Go.Deep
set_option linter.unusedSimpArgs false
set_option linter.unusedVariables false
theorem cell_of_world {W : World} {L : List Seg} {a : Addr} {v : Value} (h : W.cell? a = some v) : Cell (ghOf W) L a v := by
  unfold World.cell? at h
  split at h
  · rename_i c e f hb
    split at h
    · cases h
    · rename_i hs
      refine ⟨by simpa using hs, c, e, f, .inl hb, by simpa using h⟩
  · cases h
theorem list_of {α β : Type} (Q : Nat → α → β → Prop) : ∀ n, (∀ i, i < n → ∃ x y, Q i x y) → ∃ (l : List α) (m : List β), l.length = n ∧ m.length = n ∧ ∀ (i : Nat) (x : α) (y : β), l[i]? = some x → m[i]? = some y → Q i x y
  | 0, _ => ⟨[], [], rfl, rfl, by simp⟩
  | n + 1, h => by
    obtain ⟨l, m, hl, hm, hq⟩ := list_of Q n fun i hi => h i (by omega)
    obtain ⟨x, y, hx⟩ := h n (by omega)
    refine ⟨l ++ [x], m ++ [y], by simp [hl], by simp [hm], fun i u v hu hv => ?_⟩
    rcases Nat.lt_or_ge i n with hi | hi
    · rw [List.getElem?_append_left (by omega)] at hu hv
      exact hq i u v hu hv
    · rw [List.getElem?_append_right (by omega)] at hu hv
      have : i - n = 0 := by
        rcases Nat.eq_zero_or_pos (i - n) with h0 | h0
        · exact h0
        · rw [List.getElem?_eq_none (by simp; omega)] at hu; cases hu
      rw [hl, this] at hu
      rw [hm, this] at hv
      simp only [List.getElem?_cons_zero, Option.some.injEq] at hu hv
      have : i = n := by omega
      subst this; subst hu; subst hv; exact hx
def Opn {α : Type} (P : Program) (W : World) (t : TypeId) (r : Rp α) (Q : α → Prop) : Prop :=
  ∀ (H : Type) (enc : TypeId × Value → H) (spare : Nat → Bool) (held : Bool) (fuel : Nat) (cs : List Value) (x : DataW H × List MemPlace), DataW.trod enc P W 0 spare held fuel t cs = some x → ∃ d, r.rep (ghOf W) d cs ∧ Q d
section
variable {P : Program} {W : World} {t : TypeId}
theorem opn_int {k : IntKind} (ht : P.underlying t = some (.int k)) : Opn P W t (rI k) (wfI k) := by
  intro H enc spare held fuel cs x h
  obtain ⟨n, h1, _, h2⟩ := DataW.trod_int ht h
  exact ⟨n, h1, h2⟩
theorem opn_str (ht : P.underlying t = some .string) : Opn P W t rStr fun s => s.size ≤ maxLen := by
  intro H enc spare held fuel cs x h
  obtain ⟨n, h1, _, h2⟩ := DataW.trod_string ht h
  exact ⟨n, h1, h2⟩
theorem opn_slice {α : Type} {e : TypeId} {r : Rp α} {Q : α → Prop} (ht : P.underlying t = some (.slice e)) (hC : P.cellsOf e = r.sz) (he : Opn P W e r Q) : Opn P W t (rList r) fun xs => ∀ x ∈ xs, Q x := by
  intro H enc spare held fuel cs x h
  rcases open_slice ht h with ⟨rfl, _⟩ | ⟨a, n, c, m, nn, D, Pl, rfl, hb, hl, hm, hmm, hx, hi⟩
  · exact ⟨[], ⟨none, 0, rfl, Nat.le_refl _, Nat.zero_le _, ArrR.nil⟩, by simp⟩
  · have hrow : ∀ i, i < n → ∃ (y : α) (cs : List Value), r.rep (ghOf W) y cs ∧ Q y ∧ Cells (ghOf W) [] (a.add (i * r.sz)) cs := fun i hin => by
      obtain ⟨cs', hc, htr⟩ := hi i (by split at hmm <;> omega)
      rw [hC] at hc
      obtain ⟨y, hy, hq⟩ := he H enc spare held nn cs' _ htr
      obtain ⟨_, hcl, hat⟩ := World.cells?_some hc
      refine ⟨y, cs', hy, hq, fun j u hu => ?_⟩
      have hjk : j < r.sz := by
        rcases Nat.lt_or_ge j r.sz with h | h
        · exact h
        · rw [List.getElem?_eq_none (by omega)] at hu; cases hu
      exact cell_of_world (by rw [hat j hjk]; exact hu)
    obtain ⟨xs, css, hxl, hcl, hq⟩ := list_of (fun i y cs => r.rep (ghOf W) y cs ∧ Q y ∧ Cells (ghOf W) [] (a.add (i * r.sz)) cs) n hrow
    refine ⟨xs, ⟨some a, c, by rw [hxl], by omega, hm, css, fun i cs hcs => ?_, by rw [hxl, hcl], fun i y cs hy hcs => (hq i y cs hy hcs).1⟩, fun y hy => ?_⟩
    · have hlt : i < css.length := by
        rcases Nat.lt_or_ge i css.length with h | h
        · exact h
        · rw [List.getElem?_eq_none h] at hcs; cases hcs
      obtain ⟨h1, _, h3⟩ := hq i (xs[i]'(by omega)) cs (by simp) hcs
      exact ⟨r.len h1, a, rfl, h3⟩
    · obtain ⟨i, hi'⟩ := List.getElem?_of_mem hy
      have hlt : i < xs.length := by
        rcases Nat.lt_or_ge i xs.length with h | h
        · exact h
        · rw [List.getElem?_eq_none h] at hi'; cases hi'
      exact (hq i y (css[i]'(by omega)) hi' (by simp)).2.1
end
theorem splitF {cs : List Value} {o a o2 : Nat} (h : o + a = o2) : cs.drop o = (cs.drop o).take a ++ cs.drop o2 := by rw [← h, ← List.drop_drop, List.take_append_drop]
theorem toList_eq {cs : Array Value} {l : List Value} (h : cs.toList = l) : cs = l.toArray := by rw [← h]
end Go.Proofs.YthpgjbbjpfiniaaGreat
