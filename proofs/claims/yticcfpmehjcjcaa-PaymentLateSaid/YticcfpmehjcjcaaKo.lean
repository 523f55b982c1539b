/- Arguments that came in: slices of structs of integers, slices of integers, integers. -/
import Derived.Test.YticcfpmehjcjcaaKu
import Derived.Deep.Slices
import Derived.Deep.Fields
namespace Go.Proofs.Yticcfpmehjcjcaa
open Go.RowKit Go.ChangeShapes Go.WideShapes Go.Deep
set_option linter.unusedSimpArgs false
set_option linter.unusedVariables false

theorem cell_of_world {W : World} {L : List Seg} {a : Addr} {v : Value} (h : W.cell? a = some v) : Cell (ghOf W) L a v := by
  unfold World.cell? at h
  split at h
  · rename_i c e f hb
    split at h
    · cases h
    · rename_i hs
      refine ⟨by simpa using hs, c, e, f, .inl hb, by simpa using h⟩
  · cases h

def isI64 (P : Program) (t : TypeId) : Bool := match P.underlying t with | some (.int .i64) => true | _ => false
theorem isI64_spec {P : Program} {t : TypeId} (h : isI64 P t = true) : P.underlying t = some (.int .i64) := by
  unfold isI64 at h
  split at h
  · assumption
  · cases h

theorem list_of {α : Type} (Q : Nat → α → Prop) : ∀ n, (∀ i, i < n → ∃ x, Q i x) → ∃ l : List α, l.length = n ∧ ∀ i x, l[i]? = some x → Q i x
  | 0, _ => ⟨[], rfl, by simp⟩
  | n + 1, h => by
    obtain ⟨l, hl, hq⟩ := list_of Q n fun i hi => h i (by omega)
    obtain ⟨x, hx⟩ := h n (by omega)
    refine ⟨l ++ [x], by simp [hl], fun i y hy => ?_⟩
    rcases Nat.lt_or_ge i n with hi | hi
    · rw [List.getElem?_append_left (by omega)] at hy
      exact hq i y hy
    · rw [List.getElem?_append_right (by omega), hl] at hy
      have : i - n = 0 := by
        rcases Nat.eq_zero_or_pos (i - n) with h0 | h0
        · exact h0
        · rw [List.getElem?_eq_none (by simp; omega)] at hy; cases hy
      rw [this] at hy
      simp only [List.getElem?_cons_zero, Option.some.injEq] at hy
      have : i = n := by omega
      subst this; subst hy; exact hx

section
variable {H : Type} {enc : TypeId × Value → H} {P : Program} {W : World} {spare : Nat → Bool} {held : Bool}
theorem open_rows {α : Type} (f : α → List Value) (k : Nat) {r : Reach} {b0 : Nat} {t e : TypeId} {fs : Array Field} {v : Value} {d : DataW H} {p : List MemPlace} (ht : P.underlying t = some (.slice e)) (he : P.underlying e = some (.struct fs))
    (hone : oneCellFields P fs = true) (hC : P.cellsOf e = k) (hk : fs.size = k) (hint : fs.all (fun g => isI64 P g.type) = true)
    (hf : ∀ x, (f x).length = k) (hmk : ∀ ns : List Int, ns.length = k → ∃ x, f x = ns.map (Value.int .i64))
    (hok : Value.okWide P W r b0 t v) (h : DataW.Trod enc P W 0 spare held t v d p) :
    ∃ A n c, ∃ l : List α, v = .slice A n c ∧ l.length = n ∧ n ≤ c ∧ c ≤ maxLen ∧ Arr (ghOf W) A k (l.map f) := by
  obtain ⟨A, n, c, rfl⟩ := okWide_slice ht hok
  obtain ⟨fuel, hf1⟩ := h
  rcases open_slice ht hf1 with ⟨hcs, _⟩ | ⟨a, len, cap, m, nn, D, Pl, hcs, hb, hl, hm, hmm, hx, hi⟩
  · have e1 : Value.slice A n c = .slice none 0 0 := by simpa [Value.cells] using hcs
    injection e1 with e1 e2 e3
    subst e1 e2 e3
    exact ⟨none, 0, 0, [], rfl, rfl, Nat.le_refl _, by simp [maxLen], by intro i cs h; cases h⟩
  · have e1 : Value.slice A n c = .slice (some a) len cap := by simpa [Value.cells] using hcs
    injection e1 with e1 e2 e3
    subst e1 e2 e3
    have hrow : ∀ i, i < n → ∃ x : α, Cells (ghOf W) [] (a.add (i * k)) (f x) := fun i hin => by
      obtain ⟨cs', hc, htr⟩ := hi i (by split at hmm <;> omega)
      rw [hC] at hc
      obtain ⟨ys, n', _, hy, hlen, hyl, hfld⟩ := DataW.trod_struct he htr
      obtain ⟨_, hcl, hat⟩ := World.cells?_some hc
      have hcell : ∀ j, j < k → ∃ z : Int, cs'[j]? = some (.int .i64 z) := fun j hj => by
        obtain ⟨g, hg⟩ : ∃ g, fs[j]? = some g := ⟨fs[j]'(by omega), by simp⟩
        obtain ⟨ho, h1⟩ := hone_of hone j g hg
        have h2 := hfld j g hg
        rw [ho, h1] at h2
        have hty : P.underlying g.type = some (.int .i64) := by
          have h3 := Array.all_eq_true'.1 hint g (Array.mem_of_getElem? hg)
          exact isI64_spec h3
        have hys : ys[j]? = some (ys[j]'(by omega)) := List.getElem?_eq_getElem (by omega)
        rw [hys] at h2
        obtain ⟨z, hz, _, _⟩ := DataW.trod_int hty h2
        refine ⟨z, ?_⟩
        rw [List.drop_eq_getElem_cons (by omega)] at hz
        simp only [List.take_succ_cons, List.take_zero, List.cons.injEq, and_true] at hz
        rw [List.getElem?_eq_getElem (by omega), hz]
      obtain ⟨ns, hns, hq⟩ := list_of (fun j (z : Int) => cs'[j]? = some (.int .i64 z)) k hcell
      obtain ⟨x, hx⟩ := hmk ns hns
      refine ⟨x, fun j u hu => ?_⟩
      rw [hx, List.getElem?_map] at hu
      cases hnj : ns[j]? with
      | none => rw [hnj] at hu; cases hu
      | some z =>
        rw [hnj] at hu
        simp only [Option.map_some, Option.some.injEq] at hu
        subst hu
        have hjk : j < k := by
          rcases Nat.lt_or_ge j k with h | h
          · exact h
          · rw [List.getElem?_eq_none (by omega)] at hnj; cases hnj
        refine cell_of_world ?_
        rw [hat j hjk]; exact hq j z hnj
    obtain ⟨l, hll, hq⟩ := list_of (fun i x => Cells (ghOf W) [] (a.add (i * k)) (f x)) n hrow
    refine ⟨some a, n, c, l, rfl, hll, hl, hm, fun i cs hcs => ?_⟩
    rw [List.getElem?_map] at hcs
    cases hli : l[i]? with
    | none => rw [hli] at hcs; cases hcs
    | some x =>
      rw [hli] at hcs
      simp only [Option.map_some, Option.some.injEq] at hcs
      subst hcs
      exact ⟨hf x, a, rfl, hq i x hli⟩
end

end Go.Proofs.Yticcfpmehjcjcaa
