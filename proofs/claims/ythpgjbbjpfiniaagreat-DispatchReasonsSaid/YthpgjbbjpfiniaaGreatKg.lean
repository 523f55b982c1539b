/- Small words for walks: forgetting slots, loops, cells of chunks, slices that are read. -/
import Derived.Test.YthpgjbbjpfiniaaGreatKf
namespace Go.Proofs.YthpgjbbjpfiniaaGreat
open Go.RowKit
set_option linter.unusedSimpArgs false
set_option linter.unusedVariables false
theorem Addr.add_zero' (a : Addr) : a.add 0 = a := by simp [Addr.add]
theorem Addr.add_add' (a : Addr) (i j : Nat) : (a.add i).add j = a.add (i + j) := by
  unfold Addr.add
  by_cases hi : i = 0 <;> by_cases hj : j = 0 <;> simp [hi, hj, Nat.add_assoc]
def keepF (ts : List Nat) (fr : Fr) : Fr := match ts with
  | [] => []
  | t :: r => match look fr t with
    | some v => (t, v) :: keepF r fr
    | none => keepF r fr
theorem look_keepF (fr : Fr) : ∀ (ts : List Nat) (t : Nat) (v : Value), look (keepF ts fr) t = some v → look fr t = some v
  | [], t, v, h => by cases h
  | s :: r, t, v, h => by
    simp only [keepF] at h
    cases hs : look fr s with
    | none => rw [hs] at h; exact look_keepF fr r t v h
    | some u =>
      rw [hs] at h
      simp only [look_cons] at h
      by_cases he : s = t
      · rw [if_pos he] at h; subst he; rw [← h]; exact hs
      · rw [if_neg he] at h; exact look_keepF fr r t v h
def SubF (fr' fr : Fr) : Prop := match fr' with
  | [] => True
  | p :: r => look fr p.1 = some p.2 ∧ SubF r fr
theorem SubF.look {fr : Fr} : ∀ {fr' : Fr}, SubF fr' fr → ∀ t v, Go.Proofs.YthpgjbbjpfiniaaGreat.look fr' t = some v → Go.Proofs.YthpgjbbjpfiniaaGreat.look fr t = some v
  | [], _, t, v, h => by cases h
  | p :: r, hs, t, v, h => by
    simp only [look_cons] at h
    by_cases he : p.1 = t
    · rw [if_pos he] at h; subst he; rw [← h]; exact hs.1
    · rw [if_neg he] at h; exact SubF.look hs.2 t v h
section
variable {P : Program} {T : TT} {N : NN} {K : Kont} {B : Nat → Kont} {R : Kont} {fr : Fr} {μ : Gh} {L : List Seg}
theorem WP.keep {c : Code} (ts : List Nat) (h : WP P N c K B R (keepF ts fr) μ L) : WP P N c K B R fr μ L := h.sub (look_keepF fr ts) (List.Sublist.refl _)
theorem WP.drop {c : Code} {s : Seg} (h : WP P N c K B R fr μ L) : WP P N c K B R fr μ (s :: L) := h.sub (fun _ _ h => h) (by simp [List.flatten_cons])
end
abbrev w64 (n : Int) : Int := IntKind.i64.wrap n
theorem w64_of {n : Int} (h1 : -9223372036854775808 ≤ n) (h2 : n ≤ 9223372036854775807) : IntKind.i64.wrap n = n := by
  rw [IntKind.wrap_i64]; omega
theorem Kept.refl {L : List Seg} : Kept L L := fun _ h => h
theorem Kept.cons {L : List Seg} {s : Seg} : Kept L (s :: L) := fun c hc => by simp only [List.flatten_cons, List.mem_append]; exact .inr hc
theorem Kept.nil {L : List Seg} : Kept [] L := fun c hc => by cases hc
section
variable {μ : Gh} {L : List Seg}
theorem ObjAt.seg (i j : Nat) {s : Seg} {g : Nat} {o : Obj} (hi : L[i]? = some s) (hj : s[j]? = some (g, o)) : ObjAt μ L g o :=
  .inr (List.mem_flatten.2 ⟨s, List.mem_of_getElem? hi, List.mem_of_getElem? hj⟩)
theorem Cell.seg (i j : Nat) {s : Seg} {g off : Nat} {cs : Array Value} {e : TypeId} {f : Nat × Nat} {v : Value} (hi : L[i]? = some s) (hj : s[j]? = some (g, .cells cs e f)) (hv : cs.toList[off]? = some v) : Cell μ L ⟨g, off, none⟩ v :=
  ⟨rfl, cs, e, f, ObjAt.seg i j hi hj, by simpa using hv⟩
theorem Cells.seg (i j : Nat) {s : Seg} {g off : Nat} {cs : Array Value} {e : TypeId} {f : Nat × Nat} {vs : List Value} (hi : L[i]? = some s) (hj : s[j]? = some (g, .cells cs e f)) (hv : (cs.toList.drop off).take vs.length = vs) : Cells μ L ⟨g, off, none⟩ vs := by
  intro k v hk
  rw [addr_add]
  refine Cell.seg i j hi hj ?_
  rw [← hv] at hk
  have hlt : k < vs.length := by
    rcases Nat.lt_or_ge k vs.length with h | h
    · exact h
    · rw [List.getElem?_eq_none (by rw [List.length_take]; omega)] at hk; cases hk
  rw [List.getElem?_take_of_lt hlt, List.getElem?_drop] at hk
  simpa using hk
theorem Cells.nil {a : Addr} : Cells μ L a [] := fun _ _ h => by cases h
theorem StAt.seg (i j : Nat) {s : Seg} {g off : Nat} {cs : Array Value} {e : TypeId} {vs : List Value} (hi : L[i]? = some s) (hj : s[j]? = some (g, .cells cs e (0, 0))) (hl : off + vs.length ≤ cs.size) :
    StAt L ⟨g, off, none⟩ vs (L.set i (s.set j (g, .cells (setL cs.toList off vs).toArray e (0, 0)))) :=
  ⟨i, j, s, cs, e, hi, hj, rfl, hl, rfl⟩
def Arr (μ : Gh) (A : Option Addr) (sz : Nat) (css : List (List Value)) : Prop :=
  ∀ i cs, css[i]? = some cs → cs.length = sz ∧ ∃ a, A = some a ∧ Cells μ [] (a.add (i * sz)) cs
theorem Arr.mono {μ' : Gh} {A : Option Addr} {sz : Nat} {css : List (List Value)} (h : Arr μ A sz css) (hm : μ.le μ') : Arr μ' A sz css := by
  intro i cs hi
  obtain ⟨h1, a, h2, h3⟩ := h i cs hi
  exact ⟨h1, a, h2, h3.mono hm (by simp)⟩
theorem Arr.nil {sz : Nat} {A : Option Addr} : Arr μ A sz [] := fun _ _ h => by cases h
theorem Arr.at_ {A : Option Addr} {sz : Nat} {css : List (List Value)} (h : Arr μ A sz css) {i : Nat} {cs : List Value} (hi : css[i]? = some cs) :
    ∃ a, A = some a ∧ Cells μ L (a.add (i * sz)) cs := by
  obtain ⟨_, a, h2, h3⟩ := h i cs hi
  exact ⟨a, h2, h3.mono (Gh.le.refl _) (by simp)⟩
end
end Go.Proofs.YthpgjbbjpfiniaaGreat
