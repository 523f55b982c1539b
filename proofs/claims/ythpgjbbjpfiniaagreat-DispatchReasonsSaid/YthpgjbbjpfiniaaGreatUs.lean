/- The plain laws of the tours: plans, joined (TourPlans). -/
import Derived.Test.YthpgjbbjpfiniaaGreatUr
namespace Go.Proofs.YthpgjbbjpfiniaaGreat
open Go.RowKit
set_option linter.unusedSimpArgs false
set_option linter.unusedVariables false
theorem firstI_map {α γ : Type} (g : Nat → α → Option γ) : ∀ (l : List α) (k : Nat), (∀ (i : Nat) (x : α), l[i]? = some x → g (k + i) x = none) ∨
    ∃ (c : γ) (i : Nat) (x : α), g i x = some c ∧ ∀ {ρ : Type} (h : γ → ρ) (fin : ρ), firstI (fun k t => (g k t).map h) fin k l = h c
  | [], k => .inl fun i x h => by simp at h
  | y :: l, k => by
    cases hg : g k y with
    | some c => exact .inr ⟨c, k, y, hg, fun h fin => by simp only [firstI, hg, Option.map_some]⟩
    | none =>
      rcases firstI_map g l (k + 1) with h1 | ⟨c, i, x, h1, h2⟩
      · refine .inl fun i x hx => ?_
        cases i with
        | zero => simp at hx; subst hx; exact hg
        | succ i => have := h1 i x (by simpa using hx); rwa [show k + (i + 1) = k + 1 + i by omega]
      · exact .inr ⟨c, i, x, h1, fun h fin => by simp only [firstI, hg, Option.map_none]; exact h2 h fin⟩
theorem badT_err {p : Pr} {ts : List To} {k : Nat} {t : To} {c : Int} (h : badT p ts k t = some c) : c ≠ 0 := by
  unfold badT at h
  cases hb : (ts.take k).any (fun u => decide (u.Vehicle = t.Vehicle)) with
  | true => rw [hb] at h; injection h with h; subst h; decide
  | false =>
    rw [hb] at h
    simp only [cond_false] at h
    cases hr : tourR p t with
    | inl u => rw [hr] at h; cases h
    | inr q => rw [hr] at h; injection h with h; subst h; exact tourR_err hr
theorem LargePlan_some (x : T_api_Plan) : (∃ b, recyclingref22_LargePlan x = some b) ∧ (recyclingref22_LargePlan x = some false → x.Tours.length ≤ 30 ∧ x.Left.length ≤ 100) := by
  unfold recyclingref22_LargePlan
  simp only [or_some, Option.bind_some]
  by_cases h : (decide ((30 : Int) < ((x.Tours.length : Nat) : Int)) || decide ((100 : Int) < ((x.Left.length : Nat) : Int))) = true
  · rw [h]
    exact ⟨⟨true, rfl⟩, fun e => by cases e⟩
  · rw [Bool.not_eq_true] at h
    rw [h]
    simp only [Bool.or_eq_false_iff, decide_eq_false_iff_not] at h
    obtain ⟨o, ho⟩ := iter_total (body := recyclingref22_LargePlan_l1 x) (N := x.Tours.length) (by omega) (fun k hk => by
      obtain ⟨t, ht⟩ : ∃ t, x.Tours[k]? = some t := ⟨_, List.getElem?_eq_getElem hk⟩
      have hk2 : ((k : Int) < ((x.Tours.length : Nat) : Int)) := by omega
      simp only [recyclingref22_LargePlan_l1, hk2, decide_true, cond_true, getI_nat, ht, Option.bind_some, w64_nat (show k < 9223372036854775807 by omega)]
      cases decide ((100 : Int) < ((t.Stops.length : Nat) : Int)) with
      | true => exact .inl ⟨_, rfl⟩
      | false => exact .inr rfl) ⟨_, by simp [recyclingref22_LargePlan_l1]; rfl⟩ x.Tours.length 0 (by omega)
    refine ⟨?_, fun _ => by omega⟩
    simp only [cond_false]
    rw [show (((x.Tours.length : Nat) : Int).toNat + 1) = x.Tours.length + 1 by simp, show (0 : Int) = ((0 : Nat) : Int) from rfl, ho]
    cases o with
    | inl u => exact ⟨false, rfl⟩
    | inr b => exact ⟨b, rfl⟩
theorem plan_both {F : Nat} (hF : 40000 ≤ F) {p : Pr} (hn : p.Road.Edges.length ≤ 600) (x : T_api_Plan) (hx : x.Tours.length ≤ 30) (hl : x.Left.length ≤ 100) :
    ∃ s e, tour_plan F p x = some (s, e) ∧ recyclingref22_Feasible p x = some e ∧ recyclingref22_Total p x = some (s, e) := by
  rcases Check_cases p hn with ⟨g1, g2⟩ | ⟨e, g1, g2⟩
  · have hdl := g2.dl
    have ht : ∀ e, recyclingref22_Feasible p x = some e → e ≠ 0 → recyclingref22_Total p x = some (0, e) := fun e he h0 => by
      unfold recyclingref22_Total
      rw [he]
      simp only [Option.bind_some]
      rw [show decide (e = 0) = false by simpa using h0]
      rfl
    rcases firstI_map (badT p x.Tours) x.Tours 0 with h1 | ⟨c, i, t, h1, h2⟩
    · simp only [Nat.zero_add] at h1
      have hall : ∀ t ∈ x.Tours, (∀ s ∈ t.Stops, okS p.Demands.length s) ∧ t.Stops.length ≤ 40 := fun t htm => by
        obtain ⟨i, hi⟩ := List.getElem?_of_mem htm
        obtain ⟨u, hu⟩ := badT_none (h1 i t hi)
        exact (cost_bound g2 hu).2.2
      have q1 := plan_l1 hF g2 x hx
      rw [firstI_none _ _ (fun i t hi => by rw [Nat.zero_add, h1 i t hi]; rfl)] at q1
      have q2 := feas_l2 g2 g1 x hx
      rw [firstI_none _ _ (fun i t hi => by rw [Nat.zero_add, h1 i t hi]; rfl)] at q2
      have q3 := (left_loop (n := p.Demands.length) x (fun _ => 0) (by omega) (fun _ => Nat.zero_le _)).1
      have q4 := (tours_loop (n := p.Demands.length) x (fun d => 0 + cn x.Left d) (by omega) (fun d => by have := cn_le x.Left d; omega) (fun t htm => by have := (hall t htm).2; omega) (fun t htm => (hall t htm).1)).1
      have q5 := (tours_loop (n := p.Demands.length) x (fun _ => 0) (by omega) (fun d => by omega) (fun t htm => by have := (hall t htm).2; omega) (fun t htm => (hall t htm).1)).2
      have q6 := (left_loop (n := p.Demands.length) x (fun d => 0 + tn x.Tours d) (by omega) (fun d => by have := tn_le (ts := x.Tours) (fun t htm => by have := (hall t htm).2; omega) d; omega)).2
      have q7 : (vec p.Demands.length fun d => 0 + tn x.Tours d + cn x.Left d) = vec p.Demands.length fun d => 0 + cn x.Left d + tn x.Tours d := vec_ext fun d _ => by omega
      rw [q7] at q6
      have hfe : recyclingref22_Feasible p x = some (bif badL p.Demands.length x.Left then 7 else ansC (vec p.Demands.length fun d => 0 + cn x.Left d + tn x.Tours d)) := by
        unfold recyclingref22_Feasible recyclingref22_counts
        rw [g1]
        simp only [Option.bind_some, decide_true, Bool.not_true, cond_false]
        rw [q2]
        simp only [Option.bind_some, osum]
        rw [make_vec _ (by omega)]
        simp only [Option.bind_some]
        rw [q5]
        simp only [Option.bind_some]
        rw [q6]
        cases badL p.Demands.length x.Left with
        | true => rfl
        | false =>
          simp only [cond_false, Option.bind_some, osum, oun, decide_true, Bool.not_true]
          rw [miss_loop _ (by rw [vec_len]; omega)]
          unfold ansC
          generalize (vec p.Demands.length fun d => 0 + cn x.Left d + tn x.Tours d).any (fun c => decide (1 < c)) = a
          generalize (vec p.Demands.length fun d => 0 + cn x.Left d + tn x.Tours d).any (fun c => decide (c = 0)) = b
          cases a <;> cases b <;> rfl
      have hpl : tour_plan F p x = some (bif badL p.Demands.length x.Left then (0, 7) else (bif decide (ansC (vec p.Demands.length fun d => 0 + cn x.Left d + tn x.Tours d) = 0) then costs p x.Tours else 0, ansC (vec p.Demands.length fun d => 0 + cn x.Left d + tn x.Tours d))) := by
        unfold tour_plan
        rw [tour_Check_eq (by omega) _ hn, g1]
        simp only [Option.bind_some, decide_true, Bool.not_true, cond_false]
        rw [q1]
        simp only [Option.bind_some, osum]
        rw [make_vec _ (by omega)]
        simp only [Option.bind_some]
        rw [q3]
        cases badL p.Demands.length x.Left with
        | true => rfl
        | false =>
          simp only [cond_false, Option.bind_some, osum]
          rw [q4]
          simp only [Option.bind_some]
          rw [more_eq _ (by rw [vec_len]; omega), zero_eq _ (by rw [vec_len]; omega)]
          unfold ansC
          simp only [Option.bind_some]
          generalize (vec p.Demands.length fun d => 0 + cn x.Left d + tn x.Tours d).any (fun c => decide (1 < c)) = a
          generalize (vec p.Demands.length fun d => 0 + cn x.Left d + tn x.Tours d).any (fun c => decide (c = 0)) = b
          cases a <;> cases b <;> rfl
      cases hbl : badL p.Demands.length x.Left with
      | true =>
        rw [hbl] at hfe hpl
        exact ⟨0, 7, hpl, hfe, ht 7 hfe (by decide)⟩
      | false =>
        rw [hbl] at hfe hpl
        simp only [cond_false] at hfe hpl
        by_cases h0 : ansC (vec p.Demands.length fun d => 0 + cn x.Left d + tn x.Tours d) = 0
        · rw [h0] at hfe hpl
          refine ⟨costs p x.Tours, 0, by simpa using hpl, hfe, ?_⟩
          unfold recyclingref22_Total
          rw [hfe]
          simp only [Option.bind_some, decide_true, Bool.not_true, cond_false]
          have := iter_stI (body := recyclingref22_Total_l1 p x) x.Tours (fun k => costs p (x.Tours.take k)) (fun m k => (m, k)) (fun _ _ => none) (costs p x.Tours) (by omega) (fun k t htk _ => ?_) (fun _ => by simp [recyclingref22_Total_l1, oun]) (((x.Tours.length : Nat) : Int).toNat + 1) (by simp)
          · rw [firstI_none _ _ (fun _ _ _ => rfl)] at this
            have e0 : costs p (x.Tours.take 0) = 0 := by simp [costs, sumBy]
            rw [e0] at this
            rw [this]
            rfl
          · have hk := lt_of_get htk
            have hk2 : ((k : Int) < (x.Tours.length : Nat)) := by omega
            have hb := costs_take g2 k (Nat.le_of_lt hk) (fun j y _ hy => h1 j y hy)
            obtain ⟨u, hu⟩ := badT_none (h1 k t htk)
            have h3 := cost_bound g2 hu
            have h4 : (costR p t).1 = metR p u.2.2.Depot u.2.1 := by unfold costR; rw [hu]
            simp only [recyclingref22_Total_l1, oun, hk2, decide_true, cond_true, getI_nat, htk, Option.bind_some, ref_Cost g2 g1, pickO]
            rw [w64_eq (n := costs p (x.Tours.take k) + (costR p t).1) (by omega) (by omega), take_succ' htk]
            unfold costs
            rw [sumBy_append]
            have h5 : sumBy (fun t => (costR p t).1) [t] = (costR p t).1 := by simp [sumBy]
            rw [h5]
        · rw [show decide (ansC (vec p.Demands.length fun d => 0 + cn x.Left d + tn x.Tours d) = 0) = false by simpa using h0] at hpl
          exact ⟨0, _, hpl, hfe, ht _ hfe h0⟩
    · have hc0 := badT_err h1
      have q1 := plan_l1 hF g2 x hx
      rw [h2] at q1
      have q2 := feas_l2 g2 g1 x hx
      rw [h2] at q2
      have hfe : recyclingref22_Feasible p x = some c := by
        unfold recyclingref22_Feasible
        rw [g1]
        simp only [Option.bind_some, decide_true, Bool.not_true, cond_false]
        rw [q2]
        rfl
      refine ⟨0, c, ?_, hfe, ht c hfe hc0⟩
      unfold tour_plan
      rw [tour_Check_eq (by omega) _ hn, g1]
      simp only [Option.bind_some, decide_true, Bool.not_true, cond_false]
      rw [q1]
      rfl
  · refine ⟨0, e, ?_, ?_, ?_⟩
    · unfold tour_plan
      rw [tour_Check_eq (by omega) _ hn, g2]
      simp only [Option.bind_some]
      rw [show decide (e = 0) = false by simpa using g1]
      rfl
    · unfold recyclingref22_Feasible
      rw [g2]
      simp only [Option.bind_some]
      rw [show decide (e = 0) = false by simpa using g1]
      rfl
    · unfold recyclingref22_Total recyclingref22_Feasible
      rw [g2]
      simp only [Option.bind_some]
      rw [show decide (e = 0) = false by simpa using g1]
      simp only [Bool.not_false, cond_true, Option.bind_some]
      rw [show decide (e = 0) = false by simpa using g1]
      rfl
end Go.Proofs.YthpgjbbjpfiniaaGreat
