/- Tickets: the reference's check of a list, in closed form. -/
import Derived.Test.YtchakbpjokemnaaTf
namespace Go.Proofs.Ytchakbpjokemnaa
set_option linter.unusedSimpArgs false
set_option linter.unusedVariables false

def e1 (l : List Tk) : Int := firstI (fun _ (x : Tk) => if x.ID < 1 ∨ 1000000 < x.ID then some 1 else none) 0 0 l
def e2 (l : List Tk) : Int := firstI (fun k (x : Tk) => if 0 ≤ plc l k x.ID then some 6 else none) 0 0 l
def e3 (l : List Tk) : Int := firstI (fun k (x : Tk) => if x.Replaces ≠ 0 ∧ plc l k x.Replaces < 0 then some 7 else none) 0 0 l
/-- The same loop as a sum: what is left of it. -/
theorem firstI_sum {α : Type} (p : Nat → α → Prop) [∀ k x, Decidable (p k x)] (c : Int) (hc : c ≠ 0) : ∀ (l : List α) (k : Nat),
    (firstI (fun k x => if p k x then some (.inr c) else none) (.inl () : Unit ⊕ Int) k l = .inl () ∧ firstI (fun k x => if p k x then some c else none) 0 k l = 0 ∧ ∀ (i : Nat) (x : α), l[i]? = some x → ¬ p (k + i) x) ∨
    (firstI (fun k x => if p k x then some (.inr c) else none) (.inl () : Unit ⊕ Int) k l = .inr c ∧ firstI (fun k x => if p k x then some c else none) 0 k l = c)
  | [], k => .inl ⟨rfl, rfl, fun i x h => by simp at h⟩
  | x :: l, k => by
    by_cases h : p k x
    · exact .inr ⟨by simp [firstI, h], by simp [firstI, h]⟩
    · rcases firstI_sum p c hc l (k + 1) with ⟨h1, h2, h3⟩ | ⟨h1, h2⟩
      · refine .inl ⟨by simpa [firstI, h] using h1, by simpa [firstI, h] using h2, fun i y hy => ?_⟩
        cases i with
        | zero => simp at hy; subst hy; simpa using h
        | succ i => have := h3 i y (by simpa using hy); rwa [show k + 1 + i = k + (i + 1) by omega] at this
      · exact .inr ⟨by simpa [firstI, h] using h1, by simpa [firstI, h] using h2⟩
theorem List_l1 (l : List Tk) (hl : l.length ≤ 1000) : iter (recyclingref27_List_l1 l) (((l.length : Nat) : Int).toNat + 1) 0 = some (firstI (fun _ (x : Tk) => if x.ID < 1 ∨ 1000000 < x.ID then some (.inr 1) else none) (.inl () : Unit ⊕ Int) 0 l) := by
  refine iter_firstI l _ _ (by omega) (fun k x hx => ?_) (by simp [recyclingref27_List_l1]) _ (by simp)
  have hk := lt_of_get hx
  have hk2 : ((k : Int) < (l.length : Nat)) := by omega
  simp only [recyclingref27_List_l1, hk2, decide_true, cond_true, getI_nat, hx, Option.bind_some]
  by_cases h1 : x.ID < 1
  · simp [h1]
  · by_cases h2 : 1000000 < x.ID <;> simp [h1, h2]
theorem List_l2 (l : List Tk) (hl : l.length ≤ 1000) : iter (recyclingref27_List_l2 l) (((l.length : Nat) : Int).toNat + 1) 0 = some (firstI (fun k (x : Tk) => if 0 ≤ plc l k x.ID then some (.inr 6) else none) (.inl () : Unit ⊕ Int) 0 l) := by
  refine iter_firstI l _ _ (by omega) (fun k x hx => ?_) (by simp [recyclingref27_List_l2]) _ (by simp)
  have hk := lt_of_get hx
  have hk2 : ((k : Int) < (l.length : Nat)) := by omega
  simp only [recyclingref27_List_l2, hk2, decide_true, cond_true, getI_nat, hx, Option.bind_some, place_eq l (show k ≤ l.length by omega) hl]
  by_cases h1 : 0 ≤ plc l k x.ID <;> simp [h1]
theorem List_l3 (l : List Tk) (hl : l.length ≤ 1000) : iter (recyclingref27_List_l3 l) (((l.length : Nat) : Int).toNat + 1) 0 = some (firstI (fun k (x : Tk) => if x.Replaces ≠ 0 ∧ plc l k x.Replaces < 0 then some (.inr 7) else none) (.inl () : Unit ⊕ Int) 0 l) := by
  refine iter_firstI l _ _ (by omega) (fun k x hx => ?_) (by simp [recyclingref27_List_l3]) _ (by simp)
  have hk := lt_of_get hx
  have hk2 : ((k : Int) < (l.length : Nat)) := by omega
  simp only [recyclingref27_List_l3, hk2, decide_true, cond_true, getI_nat, hx, Option.bind_some, place_eq l (show k ≤ l.length by omega) hl]
  by_cases h0 : x.Replaces = 0
  · simp [h0]
  · by_cases h1 : plc l k x.Replaces < 0 <;> simp [h0, h1]

def tw (l : List Tk) (k : Nat) (x : Tk) : Prop := x.Replaces ≠ 0 ∧ (l.take k).any (fun y => decide (x.Replaces = y.Replaces)) = true
instance (l : List Tk) (k : Nat) (x : Tk) : Decidable (tw l k x) := by unfold tw; infer_instance
def e4 (l : List Tk) : Int := firstI (fun k (x : Tk) => if tw l k x then some 6 else none) 0 0 l
theorem List_l4 (l : List Tk) (hl : l.length ≤ 1000) {k : Nat} {x : Tk} (hx : l[k]? = some x) : iter (recyclingref27_List_l4 l (k : Int)) ((k : Int).toNat + 1) 0 = some (if tw l k x then .inr 6 else .inl () : Unit ⊕ Int) := by
  have hk := lt_of_get hx
  have hlen : (l.take k).length = k := by simp; omega
  have := iter_firstI (l.take k) (body := recyclingref27_List_l4 l (k : Int)) (fun _ (y : Tk) => if x.Replaces ≠ 0 ∧ x.Replaces = y.Replaces then some (.inr 6) else none) (.inl () : Unit ⊕ Int) (by omega) (fun j y hy => ?_) (by rw [hlen]; simp [recyclingref27_List_l4]) ((k : Int).toNat + 1) (by rw [hlen]; simp)
  · rw [this]
    congr 1
    rcases firstI_sum (fun _ (y : Tk) => x.Replaces ≠ 0 ∧ x.Replaces = y.Replaces) 6 (by omega) (l.take k) 0 with ⟨h1, _, h3⟩ | ⟨h1, h2⟩
    · rw [h1, if_neg]
      rintro ⟨g1, g2⟩
      obtain ⟨y, hy, hey⟩ := List.any_eq_true.1 g2
      obtain ⟨i, hi⟩ := List.getElem?_of_mem hy
      exact h3 i y hi ⟨g1, by simpa using hey⟩
    · rw [h1, if_pos]
      refine Classical.byContradiction fun hn => ?_
      have : firstI (fun _ (y : Tk) => if x.Replaces ≠ 0 ∧ x.Replaces = y.Replaces then some (6 : Int) else none) 0 0 (l.take k) = 0 := firstI_none _ _ fun i y hy => by
        rw [if_neg]
        rintro ⟨g1, g2⟩
        exact hn ⟨g1, List.any_eq_true.2 ⟨y, List.mem_of_getElem? hy, by simpa using g2⟩⟩
      rw [this] at h2
      cases h2
  · have hj := lt_of_get hy
    rw [hlen] at hj
    have hj2 : ((j : Int) < (k : Int)) := by omega
    have hy2 : l[j]? = some y := by rw [List.getElem?_take, if_pos hj] at hy; exact hy
    simp only [recyclingref27_List_l4, hj2, decide_true, cond_true, getI_nat, hx, hy2, Option.bind_some]
    by_cases h0 : x.Replaces = 0
    · simp [h0]
    · by_cases h1 : x.Replaces = y.Replaces
      · have h2 : ¬ y.Replaces = 0 := by rw [← h1]; exact h0
        simp [h1, h2]
      · simp [h0, h1]
theorem List_l5 (l : List Tk) (hl : l.length ≤ 1000) : iter (recyclingref27_List_l5 l) (((l.length : Nat) : Int).toNat + 1) 0 = some (firstI (fun k (x : Tk) => if tw l k x then some (.inr 6) else none) (.inl () : Unit ⊕ Int) 0 l) := by
  refine iter_firstI l _ _ (by omega) (fun k x hx => ?_) (by simp [recyclingref27_List_l5]) _ (by simp)
  have hk := lt_of_get hx
  have hk2 : ((k : Int) < (l.length : Nat)) := by omega
  simp only [recyclingref27_List_l5, hk2, decide_true, cond_true, List_l4 l hl hx, Option.bind_some]
  by_cases h : tw l k x <;> simp [h, osum]

def listR (l : List Tk) : Int := if e1 l ≠ 0 then e1 l else if e2 l ≠ 0 then e2 l else if e3 l ≠ 0 then e3 l else e4 l
theorem List_eq (l : List Tk) (hl : l.length ≤ 512) : recyclingref27_List l = some (listR l) := by
  have h512 : ¬ (512 : Int) < (l.length : Nat) := by omega
  have hl2 : l.length ≤ 1000 := by omega
  unfold recyclingref27_List listR e1 e2 e3 e4
  simp only [h512, decide_false, cond_false, List_l1 l hl2, List_l2 l hl2, List_l3 l hl2, List_l5 l hl2, Option.bind_some]
  rcases firstI_sum (fun _ (x : Tk) => x.ID < 1 ∨ 1000000 < x.ID) 1 (by omega) l 0 with ⟨a1, a2, _⟩ | ⟨a1, a2⟩
  · rw [a1, a2]
    simp only [osum]
    rcases firstI_sum (fun k (x : Tk) => 0 ≤ plc l k x.ID) 6 (by omega) l 0 with ⟨b1, b2, _⟩ | ⟨b1, b2⟩
    · rw [b1, b2]
      simp only [osum]
      rcases firstI_sum (fun k (x : Tk) => x.Replaces ≠ 0 ∧ plc l k x.Replaces < 0) 7 (by omega) l 0 with ⟨c1, c2, _⟩ | ⟨c1, c2⟩
      · rw [c1, c2]
        simp only [osum]
        rcases firstI_sum (fun k (x : Tk) => tw l k x) 6 (by omega) l 0 with ⟨d1, d2, _⟩ | ⟨d1, d2⟩
        · rw [d1, d2]; simp [osum]
        · rw [d1, d2]; simp [osum]
      · rw [c1, c2]; simp [osum]
    · rw [b1, b2]; simp [osum]
  · rw [a1, a2]; simp [osum]

end Go.Proofs.Ytchakbpjokemnaa
