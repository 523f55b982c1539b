/- The plain laws of the tours: a tour that is cut (TourFirst). -/
import Derived.Test.YtjbminmhndgiaaaUl
namespace Go.Proofs.Ytjbminmhndgiaaa
open Go.RowKit
set_option linter.unusedSimpArgs false
set_option linter.unusedVariables false

theorem folR_append {p : Pr} {v : Ve} (b : List Int) : ∀ (a pre : List Int) (x : Vi), folR p v pre (a ++ b) x = match folR p v pre a x with
    | .inr q => .inr q
    | .inl z => match folR p v (pre ++ a) b z.1 with
      | .inr q => .inr q
      | .inl z2 => .inl (z2.1, z.2 ++ z2.2)
  | [], pre, x => by
    simp only [List.nil_append, folR, List.append_nil]
    cases folR p v pre b x <;> rfl
  | s :: a, pre, x => by
    simp only [List.cons_append, folR]
    cases stepR p v pre x s with
    | inr e => rfl
    | inl y =>
      simp only []
      rw [folR_append b a (pre ++ [s]) y]
      cases folR p v (pre ++ [s]) a y with
      | inr q => rfl
      | inl z =>
        simp only [List.append_assoc, List.singleton_append]
        cases folR p v (pre ++ s :: a) b z.1 <;> rfl
theorem tourR_eq {p : Pr} {t : T_api_Tour} {v : Ve} (h0 : 0 ≤ t.Vehicle) (h1 : t.Vehicle < ((p.Vehicles.length : Nat) : Int)) (hv : getI p.Vehicles t.Vehicle = some v) (hs : t.Stops.length ≤ 40) :
    tourR p t = match folR p v [] t.Stops (x0 v) with
      | .inr q => .inr (q.1, ((q.2 : Nat) : Int))
      | .inl z => match homeR p v z.1 with
        | .inr e => .inr (e, ((t.Stops.length : Nat) : Int))
        | .inl y => .inl (z.1, z.2 ++ [y], v) := by
  unfold tourR
  rw [if_neg (by omega), if_neg (by omega)]
  unfold getI at hv
  rw [if_pos h0] at hv
  rw [hv]
  rfl
theorem homeR_codes {p : Pr} {v : Ve} {x : Vi} {e : Int} (h : homeR p v x = .inr e) : e = 22 ∨ e = 20 ∨ e = 19 := by
  unfold homeR at h
  repeat' split at h
  all_goals first | (cases h; done) | (injection h with h; subst h; decide)
/-- A walk of valid things: the error and its place. -/
theorem first_core {p : Pr} {t : T_api_Tour} {v : Ve} (h0 : 0 ≤ t.Vehicle) (h1 : t.Vehicle < ((p.Vehicles.length : Nat) : Int)) (hv : getI p.Vehicles t.Vehicle = some v) (hs : t.Stops.length ≤ 40) {n : Nat} (hn : n ≤ t.Stops.length) :
    ((walkR p t).2.1 ≠ 0 ∧ (walkR p t).2.2 < (n : Int) → (walkR p ⟨t.Vehicle, t.Stops.take n⟩).2 = (walkR p t).2) ∧
    (¬ ((walkR p t).2.1 ≠ 0 ∧ (walkR p t).2.2 < (n : Int)) → (walkR p ⟨t.Vehicle, t.Stops.take n⟩).2 = (0, 0) ∨ ((walkR p ⟨t.Vehicle, t.Stops.take n⟩).2.2 = (n : Int) ∧ ((walkR p ⟨t.Vehicle, t.Stops.take n⟩).2.1 = 22 ∨ (walkR p ⟨t.Vehicle, t.Stops.take n⟩).2.1 = 20 ∨ (walkR p ⟨t.Vehicle, t.Stops.take n⟩).2.1 = 19))) := by
  have hlt : (t.Stops.take n).length = n := length_take' hn
  have e1 := tourR_eq h0 h1 hv hs
  have e2 := tourR_eq (t := ⟨t.Vehicle, t.Stops.take n⟩) h0 h1 hv (by simp only [hlt]; omega)
  have e3 := folR_append (p := p) (v := v) (t.Stops.drop n) (t.Stops.take n) [] (x0 v)
  rw [List.take_append_drop, List.nil_append] at e3
  simp only [] at e2
  unfold walkR
  cases hf : folR p v [] (t.Stops.take n) (x0 v) with
  | inr q =>
    rw [hf] at e2 e3
    simp only [] at e2 e3
    rw [e3] at e1
    simp only [] at e1
    have hq := folR_ix _ _ _ _ hf
    have hqe := folR_err _ _ _ _ hf
    simp only [List.length_nil, hlt, Nat.zero_add] at hq
    rw [e1, e2]
    refine ⟨fun _ => rfl, fun h => absurd ⟨hqe, ?_⟩ h⟩
    simp only []
    omega
  | inl z =>
    rw [hf] at e2 e3
    simp only [] at e2 e3
    refine ⟨fun ⟨a1, a2⟩ => ?_, fun _ => ?_⟩
    · -- the error lies behind
      exfalso
      cases hg : folR p v (t.Stops.take n) (t.Stops.drop n) z.1 with
      | inr q =>
        rw [hg] at e3
        simp only [] at e3
        rw [e3] at e1
        simp only [] at e1
        rw [e1] at a2
        simp only [] at a2
        have := folR_ix _ _ _ _ hg
        omega
      | inl z2 =>
        rw [hg] at e3
        simp only [] at e3
        rw [e3] at e1
        simp only [] at e1
        cases hm : homeR p v z2.1 with
        | inr e =>
          rw [hm] at e1
          rw [e1] at a2
          simp only [] at a2
          omega
        | inl y =>
          rw [hm] at e1
          rw [e1] at a1
          exact a1 rfl
    · cases hm : homeR p v z.1 with
      | inr e =>
        rw [hm] at e2
        rw [e2]
        simp only [hlt]
        exact .inr ⟨trivial, homeR_codes hm⟩
      | inl y =>
        rw [hm] at e2
        rw [e2]
        exact .inl rfl
theorem recyclinglaw22_TourFirst_true (p : T_api_Problem) (t : T_api_Tour) (k : Int) (hp : wf_api_Problem p) (ht : wf_api_Tour t) (hk : wfI .u8 k) : ∃ F, recyclinglaw22_TourFirst F p t k = some true := by
  refine ⟨40000, ?_⟩
  have hk0 : 0 ≤ k ∧ k < 256 := by
    simp only [wfI, Lit.wf, Bool.and_eq_true, decide_eq_true_eq] at hk
    have h1 : IntKind.u8.min = 0 := by decide
    have h2 : IntKind.u8.max = 255 := by decide
    omega
  unfold recyclinglaw22_TourFirst
  obtain ⟨⟨b, hb⟩, hl⟩ := Large_some p
  rw [hb]
  have haw := awake_all (Nat.le_refl 40000)
  cases b with
  | true => simp only [Option.bind_some, cond_true, haw]
  | false =>
    obtain ⟨h1, _, _⟩ := hl hb
    simp only [Option.bind_some, cond_false, tour_Check_eq (show 33 ≤ 40000 by decide) p h1]
    by_cases h40 : (40 : Int) < ((t.Stops.length : Nat) : Int)
    · simp only [h40, decide_true, cond_true, Option.bind_some, haw]
    · simp only [h40, decide_false, cond_false]
      rcases Check_cases p h1 with ⟨g1, g2⟩ | ⟨e, g1, g2⟩
      · simp only [g1, Option.bind_some, decide_true, Bool.not_true, cond_false, or_some]
        by_cases h2 : t.Vehicle < 0 ∨ ((p.Vehicles.length : Nat) : Int) ≤ t.Vehicle
        · rw [show (decide (t.Vehicle < 0) || decide (((p.Vehicles.length : Nat) : Int) ≤ t.Vehicle)) = true by simpa using h2]
          simp only [Bool.false_or, cond_true, haw, Option.bind_some]
        · rw [show (decide (t.Vehicle < 0) || decide (((p.Vehicles.length : Nat) : Int) ≤ t.Vehicle)) = false by simpa using h2]
          simp only [Bool.false_or, cond_false]
          obtain ⟨v, hv⟩ := getI_in (l := p.Vehicles) (i := t.Vehicle) (by omega) (by omega)
          rw [w64_nat (show t.Stops.length < 9223372036854775807 by omega), w64_eq (n := k) (by omega) (by omega)]
          obtain ⟨n, hn⟩ : ∃ n : Nat, Int.tmod k ((t.Stops.length + 1 : Nat) : Int) = n := by
            rw [Int.tmod_eq_emod_of_nonneg hk0.1]
            exact ⟨(k % ((t.Stops.length + 1 : Nat) : Int)).toNat, by have := Int.emod_nonneg k (show ((t.Stops.length + 1 : Nat) : Int) ≠ 0 by omega); omega⟩
          have hnl : n ≤ t.Stops.length := by
            rw [Int.tmod_eq_emod_of_nonneg hk0.1] at hn
            have := Int.emod_lt_of_pos k (show (0 : Int) < ((t.Stops.length + 1 : Nat) : Int) by omega)
            omega
          rw [hn, guardO_eq (show ((t.Stops.length + 1 : Nat) : Int) ≠ 0 by omega), subO_take hnl]
          simp only [Option.bind_some]
          rw [Walk_eq (Nat.le_refl _) g2 g1 h1, Walk_eq (Nat.le_refl _) g2 g1 h1]
          have hc := first_core (p := p) (t := t) (v := v) (by omega) (by omega) hv (by omega) hnl
          generalize walkR p t = A at *
          generalize walkR p ⟨t.Vehicle, t.Stops.take n⟩ = B at *
          obtain ⟨a, e, i⟩ := A
          obtain ⟨b', f, j⟩ := B
          simp only [Option.bind_some, oun] at hc ⊢
          by_cases he : e = 0
          · have h5 := hc.2 (fun h => h.1 he)
            simp only [he, decide_true, Bool.not_true, cond_false, Option.bind_some, oun]
            rcases h5 with h5 | ⟨h5, h6⟩
            · injection h5 with h5 h6
              subst h5 h6
              simp only [decide_true, cond_true, haw, Option.bind_some]
            · subst h5
              rcases h6 with h6 | h6 | h6 <;> subst h6 <;> simp only [decide_true, cond_true, haw, Option.bind_some, show decide ((22 : Int) = 0) = false by decide, show decide ((20 : Int) = 0) = false by decide, show decide ((19 : Int) = 0) = false by decide, show decide ((20 : Int) = 22) = false by decide, show decide ((19 : Int) = 22) = false by decide, show decide ((19 : Int) = 20) = false by decide, cond_false]
          · rw [show decide (e = 0) = false by simpa using he]
            simp only [Bool.not_false, cond_true, Option.bind_some, oun]
            by_cases hi : i < (n : Int)
            · have h5 := hc.1 ⟨he, hi⟩
              injection h5 with h5 h6
              subst h5 h6
              simp only [hi, decide_true, cond_true, haw, Option.bind_some]
            · have h5 := hc.2 (fun h => hi h.2)
              simp only [hi, decide_false, cond_false]
              rcases h5 with h5 | ⟨h5, h6⟩
              · injection h5 with h5 h6
                subst h5 h6
                simp only [decide_true, cond_true, haw, Option.bind_some]
              · subst h5
                rcases h6 with h6 | h6 | h6 <;> subst h6 <;> simp only [decide_true, cond_true, haw, Option.bind_some, show decide ((22 : Int) = 0) = false by decide, show decide ((20 : Int) = 0) = false by decide, show decide ((19 : Int) = 0) = false by decide, show decide ((20 : Int) = 22) = false by decide, show decide ((19 : Int) = 22) = false by decide, show decide ((19 : Int) = 20) = false by decide, cond_false]
      · simp only [g2, Option.bind_some]
        rw [show decide (e = 0) = false by simpa using g1]
        simp only [Bool.not_false, cond_true, Option.bind_some, haw]

end Go.Proofs.Ytjbminmhndgiaaa
