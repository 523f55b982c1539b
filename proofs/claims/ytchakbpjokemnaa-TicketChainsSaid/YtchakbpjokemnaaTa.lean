/- Tickets: the plain law of scales. -/
import Derived.Test.YtchakbpjokemnaaTas
import Derived.Test.YtchakbpjokemnaaGp
namespace Go.Proofs.Ytchakbpjokemnaa
set_option linter.unusedSimpArgs false
set_option linter.unusedVariables false

abbrev Sc := T_api_Scale
structure Ok (s : Sc) : Prop where
  a1 : 1 ≤ s.Step
  a2 : s.Step ≤ 10000
  b1 : s.Step ≤ s.Max
  b2 : s.Max ≤ 1073741824
  c1 : 0 ≤ s.Base
  c2 : s.Base ≤ 100000
  d1 : 0 ≤ s.Slope
  d2 : s.Slope ≤ 100
  e1 : 0 ≤ s.Drift
  e2 : s.Drift ≤ 100000
  f1 : 0 ≤ s.Checked
  f2 : s.Checked ≤ 3155759999
def okS (s : Sc) : Bool := decide (1 ≤ s.Step ∧ s.Step ≤ 10000 ∧ s.Step ≤ s.Max ∧ s.Max ≤ 1073741824 ∧ 0 ≤ s.Base ∧ s.Base ≤ 100000 ∧ 0 ≤ s.Slope ∧ s.Slope ≤ 100 ∧ 0 ≤ s.Drift ∧ s.Drift ≤ 100000 ∧ 0 ≤ s.Checked ∧ s.Checked ≤ 3155759999)
theorem Ok.of {s : Sc} (h : okS s = true) : Ok s := by
  unfold okS at h
  rw [decide_eq_true_iff] at h
  obtain ⟨h1, h2, h3, h4, h5, h6, h7, h8, h9, h10, h11, h12⟩ := h
  exact ⟨h1, h2, h3, h4, h5, h6, h7, h8, h9, h10, h11, h12⟩
theorem between_eq (a n b : Int) : scale_between a n b = some (decide (a ≤ n ∧ n ≤ b)) := by
  unfold scale_between
  by_cases h : a ≤ n <;> simp [h]
def chkS (s : Sc) : Int := if okS s = true then 0 else 1
theorem Check_eq (s : Sc) : scale_Check s = some (chkS s) := by
  unfold scale_Check chkS okS
  simp only [between_eq, Option.bind_some]
  by_cases h1 : 1 ≤ s.Step ∧ s.Step ≤ 10000
  · by_cases h2 : s.Step ≤ s.Max ∧ s.Max ≤ 1073741824
    · by_cases h3 : 0 ≤ s.Base ∧ s.Base ≤ 100000
      · by_cases h4 : 0 ≤ s.Slope ∧ s.Slope ≤ 100
        · by_cases h5 : 0 ≤ s.Drift ∧ s.Drift ≤ 100000
          · by_cases h6 : 0 ≤ s.Checked ∧ s.Checked ≤ 3155759999
            · simp [h1, h2, h3, h4, h5, h6]
            · simp [h1, h2, h3, h4, h5, h6]
          · simp only [h1, h2, h3, h4, h5, decide_true, decide_false, Bool.not_true, Bool.not_false, cond_true, cond_false, Option.bind_some]
            rw [if_neg (by rw [decide_eq_true_iff]; omega)]
            simp
        · simp only [h1, h2, h3, h4, decide_true, decide_false, Bool.not_true, Bool.not_false, cond_true, cond_false, Option.bind_some]
          rw [if_neg (by rw [decide_eq_true_iff]; omega)]
          simp
      · simp only [h1, h2, h3, decide_true, decide_false, Bool.not_true, Bool.not_false, cond_true, cond_false, Option.bind_some]
        rw [if_neg (by rw [decide_eq_true_iff]; omega)]
        simp
    · simp only [h1, h2, decide_true, decide_false, Bool.not_true, Bool.not_false, cond_true, cond_false, Option.bind_some]
      rw [if_neg (by rw [decide_eq_true_iff]; omega)]
      simp
  · simp only [h1, decide_true, decide_false, Bool.not_true, Bool.not_false, cond_true, cond_false, Option.bind_some]
    rw [if_neg (by rw [decide_eq_true_iff]; omega)]
theorem RCheck_eq (s : Sc) : recyclingref26_Check s = some (chkS s) := by
  unfold recyclingref26_Check chkS
  have e : (bif (decide (s.Step < 1)) then some true else bif (decide (10000 < s.Step)) then some true else bif (decide (s.Max < s.Step)) then some true else bif (decide (1073741824 < s.Max)) then some true else bif (decide (s.Base < 0)) then some true else
      bif (decide (100000 < s.Base)) then some true else bif (decide (s.Slope < 0)) then some true else bif (decide (100 < s.Slope)) then some true else bif (decide (s.Drift < 0)) then some true else bif (decide (100000 < s.Drift)) then some true else
      bif (decide (s.Checked < 0)) then some true else some (decide (3155759999 < s.Checked))) = some (!okS s) := by
    have key : ∀ (p : Prop) [Decidable p] (x : Option Bool) (b : Bool), (p → b = true) → (¬ p → x = some b) → (bif decide p then some true else x) = some b := by
      intro p _ x b h1 h2
      by_cases h : p
      · simp [h, h1 h]
      · simp [h, h2 h]
    have no : ∀ {q : Prop}, q → (q → okS s = true → False) → (!okS s) = true := by
      intro q hq h
      cases ho : okS s with
      | false => rfl
      | true => exact (h hq ho).elim
    refine key _ _ _ (fun h => no h fun h ho => by have := (Ok.of ho).a1; omega) fun g1 => ?_
    refine key _ _ _ (fun h => no h fun h ho => by have := (Ok.of ho).a2; omega) fun g2 => ?_
    refine key _ _ _ (fun h => no h fun h ho => by have := (Ok.of ho).b1; omega) fun g3 => ?_
    refine key _ _ _ (fun h => no h fun h ho => by have := (Ok.of ho).b2; omega) fun g4 => ?_
    refine key _ _ _ (fun h => no h fun h ho => by have := (Ok.of ho).c1; omega) fun g5 => ?_
    refine key _ _ _ (fun h => no h fun h ho => by have := (Ok.of ho).c2; omega) fun g6 => ?_
    refine key _ _ _ (fun h => no h fun h ho => by have := (Ok.of ho).d1; omega) fun g7 => ?_
    refine key _ _ _ (fun h => no h fun h ho => by have := (Ok.of ho).d2; omega) fun g8 => ?_
    refine key _ _ _ (fun h => no h fun h ho => by have := (Ok.of ho).e1; omega) fun g9 => ?_
    refine key _ _ _ (fun h => no h fun h ho => by have := (Ok.of ho).e2; omega) fun g10 => ?_
    refine key _ _ _ (fun h => no h fun h ho => by have := (Ok.of ho).f1; omega) fun g11 => ?_
    by_cases h : 3155759999 < s.Checked
    · rw [no h fun h ho => by have := (Ok.of ho).f2; omega]; simp [h]
    · have : okS s = true := by unfold okS; rw [decide_eq_true_iff]; omega
      rw [this]; simp [h]
  rw [e, Option.bind_some]
  cases okS s <;> simp

/-- Halving: the least number from lo to hi for which what holds of all greater ones holds, or hi + 1. -/
theorem halving {P : Int → Bool} {body : Int × Int → Option ((Int × Int) ⊕ Int)} {A B : Int} (hA : 0 ≤ A) (hB : B ≤ 4611686018427387904) (hAB : A ≤ B + 1)
    (hup : ∀ m, A ≤ m → m < B → P m = true → P (m + 1) = true)
    (hb : ∀ lo hi, A ≤ lo → hi ≤ B → body (lo, hi) = if lo ≤ hi then some (.inl (if P (lo + (hi - lo) / 2) = true then (lo, lo + (hi - lo) / 2 - 1) else (lo + (hi - lo) / 2 + 1, hi))) else some (.inr lo)) :
    ∀ (n F : Nat), n < F → ∀ (lo hi : Int), A ≤ lo → hi ≤ B → lo ≤ hi + 1 → hi - lo + 1 < (2 : Int) ^ n → (∀ m, A ≤ m → m < lo → P m = false) → (hi < B → P (hi + 1) = true) →
      ∃ r, iter body F (lo, hi) = some r ∧ A ≤ r ∧ r ≤ B + 1 ∧ (∀ m, A ≤ m → m < r → P m = false) ∧ (r ≤ B → P r = true)
  | n, 0, hF, _, _, _, _, _, _, _, _ => by omega
  | n, F + 1, hF, lo, hi, h1, h2, h3, h4, h5, h6 => by
    have hbody := hb lo hi h1 h2
    by_cases hle : lo ≤ hi
    · rw [if_pos hle] at hbody
      obtain ⟨n, rfl⟩ : ∃ k, n = k + 1 := by
        cases n with
        | zero => simp at h4; omega
        | succ k => exact ⟨k, rfl⟩
      have hp : (2 : Int) ^ (n + 1) = 2 * 2 ^ n := by rw [Int.pow_succ]; omega
      rw [hp] at h4
      have hm1 : lo ≤ lo + (hi - lo) / 2 := by omega
      have hm2 : lo + (hi - lo) / 2 ≤ hi := by omega
      cases hP : P (lo + (hi - lo) / 2) with
      | true =>
        rw [hP] at hbody
        obtain ⟨r, hr, rest⟩ := halving hA hB hAB hup hb n F (by omega) lo (lo + (hi - lo) / 2 - 1) h1 (by omega) (by omega) (by omega) h5 (fun _ => by rw [show lo + (hi - lo) / 2 - 1 + 1 = lo + (hi - lo) / 2 by omega]; exact hP)
        refine ⟨r, ?_, rest⟩
        simp only [iter, hbody, if_true, Option.bind_some, osum]
        exact hr
      | false =>
        rw [hP] at hbody
        have hlow : ∀ m, A ≤ m → m < lo + (hi - lo) / 2 + 1 → P m = false := by
          intro m hm hlt
          cases hPm : P m with
          | false => rfl
          | true =>
            have up : ∀ (k : Nat), m + k ≤ B → P (m + k) = true := by
              intro k
              induction k with
              | zero => intro _; simpa using hPm
              | succ k ih =>
                intro hk
                have := hup (m + k) (by omega) (by omega) (ih (by omega))
                rw [show m + ((k + 1 : Nat) : Int) = m + k + 1 by omega]; exact this
            have := up (lo + (hi - lo) / 2 - m).toNat (by omega)
            rw [show m + (((lo + (hi - lo) / 2 - m).toNat : Nat) : Int) = lo + (hi - lo) / 2 by omega, hP] at this
            cases this
        obtain ⟨r, hr, rest⟩ := halving hA hB hAB hup hb n F (by omega) (lo + (hi - lo) / 2 + 1) hi (by omega) h2 (by omega) (by omega) hlow h6
        refine ⟨r, ?_, rest⟩
        simp only [iter, hbody, if_false, Bool.false_eq_true, Option.bind_some, osum]
        exact hr
    · rw [if_neg hle] at hbody
      refine ⟨lo, by simp only [iter, hbody, Option.bind_some, osum], h1, by omega, h5, fun hr => ?_⟩
      rw [show lo = hi + 1 by omega]
      exact h6 (by omega)

end Go.Proofs.Ytchakbpjokemnaa
