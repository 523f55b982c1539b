/- The plain laws of the tours: the priority queue. -/
import Derived.Test.YthpgjbbjpfiniaaGreatUb
namespace Go.Proofs.YthpgjbbjpfiniaaGreat
open Go.RowKit
set_option linter.unusedSimpArgs false
set_option linter.unusedVariables false
abbrev It := T_pqueue_item_stop
abbrev Qu := T_pqueue_Queue_stop
abbrev Lg := T_api_Leg
def Lg.lt (a b : Lg) : Prop := a.Secs < b.Secs ∨ (a.Secs = b.Secs ∧ a.Meters < b.Meters)
def Lg.le (a b : Lg) : Prop := a.Secs < b.Secs ∨ (a.Secs = b.Secs ∧ a.Meters ≤ b.Meters)
instance (a b : Lg) : Decidable (Lg.lt a b) := by unfold Lg.lt; infer_instance
instance (a b : Lg) : Decidable (Lg.le a b) := by unfold Lg.le; infer_instance
theorem Lg.le_of_not_lt {a b : Lg} (h : ¬ Lg.lt a b) : Lg.le b a := by unfold Lg.lt at h; unfold Lg.le; omega
theorem Lg.le_of_lt {a b : Lg} (h : Lg.lt a b) : Lg.le a b := by unfold Lg.lt at h; unfold Lg.le; omega
theorem Lg.le_refl (a : Lg) : Lg.le a a := by unfold Lg.le; omega
theorem Lg.le_trans {a b c : Lg} (h : Lg.le a b) (h2 : Lg.le b c) : Lg.le a c := by unfold Lg.le at *; omega
abbrev noL : Lg := ⟨-1, 0⟩
theorem better_eq (a b : Lg) : road_better a b = some (decide (b = noL) || decide (Lg.lt a b)) := by
  unfold road_better road_none
  simp only [Option.bind_some]
  by_cases h : b = noL
  · simp [h]
  · by_cases h1 : a.Secs < b.Secs
    · simp [h, h1, Lg.lt]
    · by_cases h2 : a.Secs = b.Secs
      · simp [h, h1, h2, Lg.lt]
      · simp [h, h1, h2, Lg.lt]
def okI (x : It) : Prop := 0 ≤ x.value.leg.Secs
theorem less_eq {a b : T_road_stop} (hb : 0 ≤ b.leg.Secs) : road_spread_1 a b = some (decide (Lg.lt a.leg b.leg)) := by
  unfold road_spread_1
  rw [better_eq]
  have hn : b.leg ≠ noL := by intro e; rw [e] at hb; exact absurd hb (by decide)
  by_cases h : a.leg = b.leg
  · rw [h]
    simp [Lg.lt]
  · simp [h, hn]
def bef (x y : It) : Bool := decide (Lg.lt x.value.leg y.value.leg) || (decide (x.n < y.n) && !decide (Lg.lt y.value.leg x.value.leg))
theorem bef_le {x y : It} (h : bef x y = true) : Lg.le x.value.leg y.value.leg := by
  simp only [bef, Bool.or_eq_true, Bool.and_eq_true, decide_eq_true_eq, Bool.not_eq_true', decide_eq_false_iff_not] at h
  rcases h with h | ⟨_, h⟩
  · exact Lg.le_of_lt h
  · exact Lg.le_of_not_lt h
theorem bef_not {x y : It} (h : bef x y = false) : Lg.le y.value.leg x.value.leg := by
  simp only [bef, Bool.or_eq_false_iff, decide_eq_false_iff_not] at h
  exact Lg.le_of_not_lt h.1
theorem before_eq {q : Qu} {i k : Nat} {x y : It} (hx : q.heap[i]? = some x) (hy : q.heap[k]? = some y) (h1 : okI x) (h2 : okI y) : pqueue_Queue_stop_before q i k = some (bef x y) := by
  unfold pqueue_Queue_stop_before
  simp only [getI_nat, hx, hy, Option.bind_some, oun]
  rw [less_eq (a := ⟨x.value.node, ⟨x.value.leg.Secs, x.value.leg.Meters⟩⟩) (b := ⟨y.value.node, ⟨y.value.leg.Secs, y.value.leg.Meters⟩⟩) h2, less_eq (a := ⟨y.value.node, ⟨y.value.leg.Secs, y.value.leg.Meters⟩⟩) (b := ⟨x.value.node, ⟨x.value.leg.Secs, x.value.leg.Meters⟩⟩) h1]
  simp only [Option.bind_some]
  unfold bef
  cases decide (Lg.lt x.value.leg y.value.leg) <;> cases decide (x.n < y.n) <;> rfl
def swp (h : List It) (i k : Nat) : List It := match h[i]?, h[k]? with
  | some x, some y => (h.set i y).set k x
  | _, _ => h
theorem swap_eq {q : Qu} {i k : Nat} (hi : i < q.heap.length) (hk : k < q.heap.length) : pqueue_Queue_stop_swap q i k = some ⟨swp q.heap i k, q.count⟩ := by
  unfold pqueue_Queue_stop_swap swp
  simp only [getI_nat, List.getElem?_eq_getElem hi, List.getElem?_eq_getElem hk, Option.bind_some, setI, Int.toNat_natCast]
  rw [List.getElem?_eq_getElem (by simpa using hk)]
  rfl
theorem swp_length (h : List It) (i k : Nat) : (swp h i k).length = h.length := by unfold swp; split <;> simp
theorem swp_perm {h : List It} {i k : Nat} (hi : i < h.length) (hk : k < h.length) : (swp h i k).Perm h := by
  unfold swp
  simp only [List.getElem?_eq_getElem hi, List.getElem?_eq_getElem hk]
  exact List.set_set_perm hi hk
theorem swp_get {h : List It} {i k : Nat} (hi : i < h.length) (hk : k < h.length) (j : Nat) : (swp h i k)[j]? = if j = k then h[i]? else if j = i then h[k]? else h[j]? := by
  unfold swp
  simp only [List.getElem?_eq_getElem hi, List.getElem?_eq_getElem hk]
  rw [List.getElem?_set, List.getElem?_set]
  simp only [List.length_set]
  by_cases h1 : k = j
  · subst h1; simp [hk]
  · have h1' : ¬ j = k := fun e => h1 e.symm
    by_cases h2 : i = j
    · subst h2; simp [h1, h1', hi]
    · have h2' : ¬ j = i := fun e => h2 e.symm
      simp [h1, h2, h1', h2']
end Go.Proofs.YthpgjbbjpfiniaaGreat
