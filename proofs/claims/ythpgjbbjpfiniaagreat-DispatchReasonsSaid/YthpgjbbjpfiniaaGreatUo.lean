/- The plain laws of the tours: how often demands occur. -/
import Derived.Test.YthpgjbbjpfiniaaGreatUl
namespace Go.Proofs.YthpgjbbjpfiniaaGreat
open Go.RowKit
set_option linter.unusedSimpArgs false
set_option linter.unusedVariables false
def vec (n : Nat) (f : Nat → Nat) : List Int := (List.range n).map fun d => ((f d : Nat) : Int)
theorem vec_len (n : Nat) (f : Nat → Nat) : (vec n f).length = n := by simp [vec]
theorem vec_get {n i : Nat} (f : Nat → Nat) (h : i < n) : (vec n f)[i]? = some ((f i : Nat) : Int) := by simp [vec, h]
theorem vec_ext {n : Nat} {f g : Nat → Nat} (h : ∀ d, d < n → f d = g d) : vec n f = vec n g := by
  unfold vec
  apply List.map_congr_left
  intro d hd
  rw [h d (List.mem_range.1 hd)]
theorem vec_inc {n i : Nat} (f : Nat → Nat) (h : i < n) (hb : f i < 1000000) : setI (vec n f) (i : Int) (w64 (((f i : Nat) : Int) + 1)) = vec n (fun d => f d + if d = i then 1 else 0) := by
  rw [w64_eq (by omega) (by omega)]
  apply List.ext_getElem?
  intro j
  unfold setI
  rw [Int.toNat_natCast, List.getElem?_set]
  rcases Nat.lt_or_ge j n with hj | hj
  · rw [vec_get _ hj, vec_get _ hj, vec_len]
    by_cases hij : i = j
    · subst hij; simp [h]
    · have : ¬ j = i := fun e => hij e.symm
      simp [hij, this]
  · rw [List.getElem?_eq_none (by rw [vec_len]; exact hj), List.getElem?_eq_none (by rw [vec_len]; exact hj)]
    split
    · omega
    · rfl
theorem make_vec (n : Nat) (h : n ≤ 1000) : makeO (0 : Int) ((n : Nat) : Int) = some (vec n fun _ => 0) := by
  unfold makeO
  rw [if_pos (by omega)]
  congr 1
  apply List.ext_getElem?
  intro j
  rw [Int.toNat_natCast]
  rcases Nat.lt_or_ge j n with hj | hj
  · rw [vec_get _ hj, List.getElem?_replicate, if_pos hj]; rfl
  · rw [List.getElem?_eq_none (by simp; exact hj), List.getElem?_eq_none (by rw [vec_len]; exact hj)]
def cn (L : List Int) (d : Nat) : Nat := L.count (d : Int)
theorem cn_snoc (L : List Int) (s : Int) (d : Nat) : cn (L ++ [s]) d = cn L d + if s = (d : Int) then 1 else 0 := by
  unfold cn
  rw [List.count_append, List.count_singleton]
  simp
theorem cn_le (L : List Int) (d : Nat) : cn L d ≤ L.length := List.count_le_length
def okS (n : Nat) (s : Int) : Prop := s = -1 ∨ (0 ≤ s ∧ s < (n : Int))
theorem vec_step {n : Nat} {L : List Int} {k : Nat} {s : Int} (f : Nat → Nat) (hs : L[k]? = some s) (h0 : 0 ≤ s) (h1 : s < (n : Int)) (hb : f s.toNat + L.length < 1000000) :
    getI (vec n fun d => f d + cn (L.take k) d) s = some ((f s.toNat + cn (L.take k) s.toNat : Nat) : Int) ∧ setI (vec n fun d => f d + cn (L.take k) d) s (w64 (((f s.toNat + cn (L.take k) s.toNat : Nat) : Int) + 1)) = vec n fun d => f d + cn (L.take (k + 1)) d := by
  obtain ⟨i, rfl⟩ : ∃ i : Nat, s = i := ⟨s.toNat, by omega⟩
  have hc := cn_le (L.take k) i
  have hk := lt_of_get hs
  rw [length_take' (Nat.le_of_lt hk)] at hc
  rw [Int.toNat_natCast] at *
  refine ⟨by rw [getI_nat, vec_get _ (by omega)], ?_⟩
  rw [vec_inc (fun d => f d + cn (L.take k) d) (by omega) (by show f i + cn (L.take k) i < 1000000; omega)]
  refine vec_ext fun d _ => ?_
  rw [take_succ' hs, cn_snoc]
  by_cases h : d = i
  · subst h; simp; omega
  · have : ¬ ((i : Int) = (d : Int)) := by omega
    simp [h, this]
theorem cn_skip {L : List Int} {k : Nat} {s : Int} (hs : L[k]? = some s) (h0 : s < 0) (f : Nat → Nat) (n : Nat) : (vec n fun d => f d + cn (L.take (k + 1)) d) = vec n fun d => f d + cn (L.take k) d := by
  refine vec_ext fun d _ => ?_
  rw [take_succ' hs, cn_snoc, if_neg (by omega)]
  rfl
theorem stops_loop {n : Nat} (t : T_api_Tour) (f : Nat → Nat) (hn : t.Stops.length ≤ 1000) (hf : ∀ d, f d ≤ 900000) (ho : ∀ s ∈ t.Stops, okS n s) :
    iter (tour_plan_l3 t) (((t.Stops.length : Nat) : Int).toNat + 1) (vec n f, 0) = some (vec n fun d => f d + cn t.Stops d) ∧
    iter (recyclingref22_counts_l1 t) (((t.Stops.length : Nat) : Int).toNat + 1) (vec n f, 0) = some (vec n fun d => f d + cn t.Stops d) := by
  have hz : (vec n fun d => f d + cn (t.Stops.take 0) d) = vec n f := vec_ext fun d _ => by simp [cn]
  have hx : (vec n fun d => f d + cn (t.Stops.take t.Stops.length) d) = vec n fun d => f d + cn t.Stops d := by rw [List.take_length]
  constructor
  · have := iter_stI (body := tour_plan_l3 t) t.Stops (fun k => vec n fun d => f d + cn (t.Stops.take k) d) (fun m k => (m, k)) (fun _ _ => none) (vec n fun d => f d + cn t.Stops d) (by omega) (fun k s hs _ => ?_) (fun _ => by simp only [tour_plan_l3, oun, hx]; simp) (((t.Stops.length : Nat) : Int).toNat + 1) (by simp)
    · rw [firstI_none _ _ (fun _ _ _ => rfl), hz] at this
      exact this
    · have hk := lt_of_get hs
      have hk2 : ((k : Int) < (t.Stops.length : Nat)) := by omega
      simp only [tour_plan_l3, oun, hk2, decide_true, cond_true, getI_nat, hs, Option.bind_some, pickO]
      rcases ho s (List.mem_of_getElem? hs) with h1 | ⟨h1, h2⟩
      · simp only [h1, decide_true, Bool.not_true, cond_false, Option.bind_some]
        rw [cn_skip hs (by omega)]
      · rw [show decide (s = -1) = false by simp; omega]
        obtain ⟨g1, g2⟩ := vec_step f hs h1 h2 (by have := hf s.toNat; omega)
        simp only [Bool.not_false, cond_true, g1, Option.bind_some, g2]
  · have := iter_stI (body := recyclingref22_counts_l1 t) t.Stops (fun k => vec n fun d => f d + cn (t.Stops.take k) d) (fun m k => (m, k)) (fun _ _ => none) (vec n fun d => f d + cn t.Stops d) (by omega) (fun k s hs _ => ?_) (fun _ => by simp only [recyclingref22_counts_l1, oun, hx]; simp) (((t.Stops.length : Nat) : Int).toNat + 1) (by simp)
    · rw [firstI_none _ _ (fun _ _ _ => rfl), hz] at this
      exact this
    · have hk := lt_of_get hs
      have hk2 : ((k : Int) < (t.Stops.length : Nat)) := by omega
      simp only [recyclingref22_counts_l1, oun, hk2, decide_true, cond_true, getI_nat, hs, Option.bind_some, pickO]
      rcases ho s (List.mem_of_getElem? hs) with h1 | ⟨h1, h2⟩
      · rw [show decide (0 ≤ s) = false by simp; omega]
        simp only [cond_false, Option.bind_some]
        rw [cn_skip hs (by omega)]
      · rw [show decide (0 ≤ s) = true by simpa using h1]
        obtain ⟨g1, g2⟩ := vec_step f hs h1 h2 (by have := hf s.toNat; omega)
        simp only [cond_true, g1, Option.bind_some, g2]
end Go.Proofs.YthpgjbbjpfiniaaGreat
