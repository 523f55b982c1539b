/- The plain laws of the tours: the counts of a plan. -/
import Derived.Test.YthpgjbbjpfiniaaGreatUo
namespace Go.Proofs.YthpgjbbjpfiniaaGreat
open Go.RowKit
set_option linter.unusedSimpArgs false
set_option linter.unusedVariables false
abbrev To := T_api_Tour
def tn (ts : List To) (d : Nat) : Nat := (ts.map fun t => cn t.Stops d).sum
theorem tn_snoc (ts : List To) (t : To) (d : Nat) : tn (ts ++ [t]) d = tn ts d + cn t.Stops d := by simp [tn]
theorem tn_le {ts : List To} (h : ∀ t ∈ ts, t.Stops.length ≤ 1000) (d : Nat) : tn ts d ≤ ts.length * 1000 := by
  induction ts with
  | nil => simp [tn]
  | cons t ts ih =>
    have h1 := ih fun u hu => h u (List.mem_cons_of_mem _ hu)
    have h2 := cn_le t.Stops d
    have h3 := h t List.mem_cons_self
    simp only [tn, List.map_cons, List.sum_cons, List.length_cons] at h1 ⊢
    omega
theorem tours_loop {n : Nat} (x : T_api_Plan) (f : Nat → Nat) (hn : x.Tours.length ≤ 100) (hf : ∀ d, f d ≤ 1000) (hl : ∀ t ∈ x.Tours, t.Stops.length ≤ 1000) (ho : ∀ t ∈ x.Tours, ∀ s ∈ t.Stops, okS n s) :
    iter (tour_plan_l4 x) (((x.Tours.length : Nat) : Int).toNat + 1) (vec n f, 0) = some (vec n fun d => f d + tn x.Tours d) ∧
    iter (recyclingref22_counts_l2 x) (((x.Tours.length : Nat) : Int).toNat + 1) (vec n f, 0) = some (vec n fun d => f d + tn x.Tours d) := by
  have hz : (vec n fun d => f d + tn (x.Tours.take 0) d) = vec n f := vec_ext fun d _ => by simp [tn]
  have hx : (vec n fun d => f d + tn (x.Tours.take x.Tours.length) d) = vec n fun d => f d + tn x.Tours d := by rw [List.take_length]
  have hstep : ∀ (k : Nat) (t : To), x.Tours[k]? = some t → _ := fun k t ht => stops_loop (n := n) t (fun d => f d + tn (x.Tours.take k) d) (hl t (List.mem_of_getElem? ht)) (fun d => by
    have h1 := hf d
    have h2 := tn_le (ts := x.Tours.take k) (fun u hu => hl u (List.mem_of_mem_take hu)) d
    have h3 := length_take' (Nat.le_of_lt (lt_of_get ht))
    have h4 := lt_of_get ht
    omega) (ho t (List.mem_of_getElem? ht))
  have hnext : ∀ (k : Nat) (t : To), x.Tours[k]? = some t → (vec n fun d => f d + tn (x.Tours.take k) d + cn t.Stops d) = vec n fun d => f d + tn (x.Tours.take (k + 1)) d := fun k t ht => vec_ext fun d _ => by
    rw [take_succ' ht, tn_snoc]; omega
  constructor
  · have := iter_stI (body := tour_plan_l4 x) x.Tours (fun k => vec n fun d => f d + tn (x.Tours.take k) d) (fun m k => (m, k)) (fun _ _ => none) (vec n fun d => f d + tn x.Tours d) (by omega) (fun k t ht _ => ?_) (fun _ => by simp only [tour_plan_l4, oun, hx]; simp) (((x.Tours.length : Nat) : Int).toNat + 1) (by simp)
    · rw [firstI_none _ _ (fun _ _ _ => rfl), hz] at this
      exact this
    · have hk := lt_of_get ht
      have hk2 : ((k : Int) < (x.Tours.length : Nat)) := by omega
      simp only [tour_plan_l4, oun, hk2, decide_true, cond_true, getI_nat, ht, Option.bind_some, pickO]
      rw [(hstep k t ht).1]
      simp only [Option.bind_some, hnext k t ht]
  · have := iter_stI (body := recyclingref22_counts_l2 x) x.Tours (fun k => vec n fun d => f d + tn (x.Tours.take k) d) (fun m k => (m, k)) (fun _ _ => none) (vec n fun d => f d + tn x.Tours d) (by omega) (fun k t ht _ => ?_) (fun _ => by simp only [recyclingref22_counts_l2, oun, hx]; simp) (((x.Tours.length : Nat) : Int).toNat + 1) (by simp)
    · rw [firstI_none _ _ (fun _ _ _ => rfl), hz] at this
      exact this
    · have hk := lt_of_get ht
      have hk2 : ((k : Int) < (x.Tours.length : Nat)) := by omega
      simp only [recyclingref22_counts_l2, oun, hk2, decide_true, cond_true, getI_nat, ht, Option.bind_some, pickO]
      rw [(hstep k t ht).2]
      simp only [Option.bind_some, hnext k t ht]
def badL (n : Nat) (L : List Int) : Bool := L.any fun s => decide (s < 0) || decide ((n : Int) ≤ s)
theorem left_loop {n : Nat} (x : T_api_Plan) (f : Nat → Nat) (hn : x.Left.length ≤ 1000) (hf : ∀ d, f d ≤ 500000) :
    iter (tour_plan_l2 x) (((x.Left.length : Nat) : Int).toNat + 1) (vec n f, 0) = some (bif badL n x.Left then .inr (0, 7) else .inl (vec n fun d => f d + cn x.Left d)) ∧
    iter (recyclingref22_counts_l3 x) (((x.Left.length : Nat) : Int).toNat + 1) (vec n f, 0) = some (bif badL n x.Left then .inr ([], 7) else .inl (vec n fun d => f d + cn x.Left d)) := by
  have hz : (vec n fun d => f d + cn (x.Left.take 0) d) = vec n f := vec_ext fun d _ => by simp [cn]
  have hx : (vec n fun d => f d + cn (x.Left.take x.Left.length) d) = vec n fun d => f d + cn x.Left d := by rw [List.take_length]
  constructor
  · have := iter_stI (body := tour_plan_l2 x) x.Left (fun k => vec n fun d => f d + cn (x.Left.take k) d) (fun m k => (m, k)) (fun _ s => bif decide (s < 0) || decide ((n : Int) ≤ s) then some (.inr (0, 7)) else none) (.inl (vec n fun d => f d + cn x.Left d)) (by omega) (fun k s hs _ => ?_) (fun _ => by simp only [tour_plan_l2, oun, hx]; simp) (((x.Left.length : Nat) : Int).toNat + 1) (by simp)
    · rw [anyF, hz] at this
      exact this
    · have hk := lt_of_get hs
      have hk2 : ((k : Int) < (x.Left.length : Nat)) := by omega
      simp only [tour_plan_l2, oun, hk2, decide_true, cond_true, getI_nat, hs, Option.bind_some, or_some, vec_len]
      cases hb : (decide (s < 0) || decide ((n : Int) ≤ s)) with
      | true => rfl
      | false =>
        simp only [Bool.or_eq_false_iff, decide_eq_false_iff_not] at hb
        obtain ⟨g1, g2⟩ := vec_step (n := n) f hs (by omega) (by omega) (by have := hf s.toNat; omega)
        simp only [cond_false, g1, Option.bind_some, g2, pickO]
  · have := iter_stI (body := recyclingref22_counts_l3 x) x.Left (fun k => vec n fun d => f d + cn (x.Left.take k) d) (fun m k => (m, k)) (fun _ s => bif decide (s < 0) || decide ((n : Int) ≤ s) then some (.inr ([], 7)) else none) (.inl (vec n fun d => f d + cn x.Left d)) (by omega) (fun k s hs _ => ?_) (fun _ => by simp only [recyclingref22_counts_l3, oun, hx]; simp) (((x.Left.length : Nat) : Int).toNat + 1) (by simp)
    · rw [anyF, hz] at this
      exact this
    · have hk := lt_of_get hs
      have hk2 : ((k : Int) < (x.Left.length : Nat)) := by omega
      simp only [recyclingref22_counts_l3, oun, hk2, decide_true, cond_true, getI_nat, hs, Option.bind_some, or_some, vec_len]
      cases hb : (decide (s < 0) || decide ((n : Int) ≤ s)) with
      | true => rfl
      | false =>
        simp only [Bool.or_eq_false_iff, decide_eq_false_iff_not] at hb
        obtain ⟨g1, g2⟩ := vec_step (n := n) f hs (by omega) (by omega) (by have := hf s.toNat; omega)
        simp only [cond_false, g1, Option.bind_some, g2, pickO]
def ansC (L : List Int) : Int := bif L.any (fun c => decide (1 < c)) then 6 else bif L.any (fun c => decide (c = 0)) then 38 else 0
theorem more_eq (L : List Int) (hn : L.length ≤ 1000) : slices_ContainsFunc_int_c81 L = some (L.any fun c => decide (1 < c)) := by
  unfold slices_ContainsFunc_int_c81 slices_IndexFunc_int_c81
  have := iter_firstI (body := slices_IndexFunc_int_c81_l1 L) L (fun k y => bif decide (1 < y) then some (.inr (k : Int)) else none) (.inl () : Unit ⊕ Int) (by omega) (fun k y hy => ?_) (by simp [slices_IndexFunc_int_c81_l1]) (((L.length : Nat) : Int).toNat + 1) (by simp)
  · rw [this]
    rcases anyIx (fun y : Int => decide (1 < y)) L 0 with ⟨h1, h2⟩ | ⟨j, h1, h2⟩
    · rw [h1, h2]; rfl
    · rw [h1, h2]
      simp only [Option.bind_some, osum]
      simp
  · have hk := lt_of_get hy
    have hk2 : ((k : Int) < (L.length : Nat)) := by omega
    simp only [slices_IndexFunc_int_c81_l1, hk2, decide_true, cond_true, getI_nat, hy, Option.bind_some, tour_plan_2]
    cases decide (1 < y) <;> rfl
theorem zero_eq (L : List Int) (hn : L.length ≤ 1000) : slices_Contains_int L 0 = some (L.any fun c => decide (c = 0)) := by
  rw [contains_eq L hn]
  congr 1
  rw [Bool.eq_iff_iff]
  simp only [List.any_eq_true, decide_eq_true_eq]
  exact ⟨fun h => ⟨0, h, rfl⟩, fun ⟨y, h1, h2⟩ => h2 ▸ h1⟩
theorem miss_loop (L : List Int) (hn : L.length ≤ 1000) : iter (recyclingref22_Feasible_l3 L) (((L.length : Nat) : Int).toNat + 1) (false, 0) = some (bif L.any (fun c => decide (1 < c)) then .inr 6 else .inl (L.any fun c => decide (c = 0))) := by
  have := iter_stI (body := recyclingref22_Feasible_l3 L) L (fun k => (L.take k).any fun c => decide (c = 0)) (fun m k => (m, k)) (fun _ c => bif decide (1 < c) then some (.inr 6) else none) (.inl (L.any fun c => decide (c = 0))) (by omega) (fun k c hc _ => ?_) (fun _ => by simp only [recyclingref22_Feasible_l3, oun, List.take_length]; simp) (((L.length : Nat) : Int).toNat + 1) (by simp)
  · rw [anyF] at this
    simpa using this
  · have hk := lt_of_get hc
    have hk2 : ((k : Int) < (L.length : Nat)) := by omega
    simp only [recyclingref22_Feasible_l3, oun, hk2, decide_true, cond_true, getI_nat, hc, Option.bind_some]
    rw [take_succ' hc, List.any_append]
    cases h1 : decide (1 < c) with
    | true => rfl
    | false =>
      simp only [cond_false]
      cases (L.take k).any fun c => decide (c = 0)
      · simp [osum, pickO]
      · simp [osum, pickO]
end Go.Proofs.YthpgjbbjpfiniaaGreat
