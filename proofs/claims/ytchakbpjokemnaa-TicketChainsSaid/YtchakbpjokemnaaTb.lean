/- Tickets: what a scale can show. -/
import Derived.Test.YtchakbpjokemnaaTa
namespace Go.Proofs.Ytchakbpjokemnaa
set_option linter.unusedSimpArgs false
set_option linter.unusedVariables false

def bnd (s : Sc) (m t : Int) : Int := s.Base + (m * s.Slope + 999) / 1000 + s.Drift * ((t - s.Checked + 86399) / 86400)
def nearZ (s : Sc) (n t m : Int) : Bool := decide (2 * max (m - n) (n - m) ≤ 2 * bnd s m t + s.Step)
theorem prod_bounds {s : Sc} (h : Ok s) {m t : Int} (hm : 0 ≤ m) (hm2 : m ≤ 1073741824) (ht : s.Checked ≤ t) (ht2 : t ≤ 3155759999) :
    0 ≤ m * s.Slope ∧ m * s.Slope ≤ 107374182400 ∧ 0 ≤ (t - s.Checked + 86399) / 86400 ∧ (t - s.Checked + 86399) / 86400 ≤ 36525 ∧ 0 ≤ s.Drift * ((t - s.Checked + 86399) / 86400) ∧ s.Drift * ((t - s.Checked + 86399) / 86400) ≤ 3652500000 := by
  have h1 := h.d1; have h2 := h.d2; have h3 := h.e1; have h4 := h.e2; have h5 := h.f1
  have d1 : 0 ≤ (t - s.Checked + 86399) / 86400 := by omega
  have d2 : (t - s.Checked + 86399) / 86400 ≤ 36525 := by omega
  refine ⟨Int.mul_nonneg hm h1, ?_, d1, d2, Int.mul_nonneg h3 d1, ?_⟩
  · have := Int.mul_le_mul hm2 h2 h1 (by omega)
    omega
  · have := Int.mul_le_mul h4 d2 d1 (by omega)
    omega
theorem bnd_bounds {s : Sc} (h : Ok s) {m t : Int} (hm : 0 ≤ m) (hm2 : m ≤ 1073741824) (ht : s.Checked ≤ t) (ht2 : t ≤ 3155759999) : 0 ≤ bnd s m t ∧ bnd s m t ≤ 10000000000 := by
  obtain ⟨p1, p2, p3, p4, p5, p6⟩ := prod_bounds h hm hm2 ht ht2
  have := h.c1; have := h.c2
  unfold bnd
  omega
theorem bound_raw {s : Sc} (h : Ok s) {m t : Int} (hm : 0 ≤ m) (hm2 : m ≤ 1073741824) (ht : s.Checked ≤ t) (ht2 : t ≤ 3155759999) :
    w64 ((w64 (s.Base + (w64 (Int.tdiv (w64 ((w64 (m * s.Slope)) + 999)) 1000)))) + (w64 (s.Drift * (w64 (Int.tdiv (w64 ((w64 ((w64 (t - s.Checked)) + 86400)) - 1)) 86400))))) = bnd s m t := by
  obtain ⟨p1, p2, p3, p4, p5, p6⟩ := prod_bounds h hm hm2 ht ht2
  have h5 := h.f1; have h6 := h.c1; have h7 := h.c2
  rw [w64_eq (n := m * s.Slope) (by omega) (by omega), w64_eq (n := m * s.Slope + 999) (by omega) (by omega), Int.tdiv_eq_ediv_of_nonneg (by omega), w64_eq (n := (m * s.Slope + 999) / 1000) (by omega) (by omega),
    w64_eq (n := s.Base + (m * s.Slope + 999) / 1000) (by omega) (by omega), w64_eq (n := t - s.Checked) (by omega) (by omega), w64_eq (n := t - s.Checked + 86400) (by omega) (by omega), w64_eq (n := t - s.Checked + 86400 - 1) (by omega) (by omega),
    Int.tdiv_eq_ediv_of_nonneg (by omega), show t - s.Checked + 86400 - 1 = t - s.Checked + 86399 by omega, w64_eq (n := (t - s.Checked + 86399) / 86400) (by omega) (by omega), w64_eq (n := s.Drift * ((t - s.Checked + 86399) / 86400)) (by omega) (by omega),
    w64_eq (by omega) (by omega)]
  rfl
theorem near_eq {s : Sc} (h : Ok s) {m n t : Int} (hm : 0 ≤ m) (hm2 : m ≤ 1073741824) (hn : 0 ≤ n) (hn2 : n ≤ 1073741824) (ht : s.Checked ≤ t) (ht2 : t ≤ 3155759999) : scale_near s m n t = some (nearZ s n t m) := by
  obtain ⟨b1, b2⟩ := bnd_bounds h hm hm2 ht ht2
  have h6 := h.a1; have h7 := h.a2
  unfold scale_near scale_bound nearZ
  rw [bound_raw h hm hm2 ht ht2, Option.bind_some, w64_eq (n := m - n) (by omega) (by omega), w64_eq (n := n - m) (by omega) (by omega), w64_eq (n := 2 * max (m - n) (n - m)) (by omega) (by omega), w64_eq (n := 2 * bnd s m t) (by omega) (by omega), w64_eq (n := 2 * bnd s m t + s.Step) (by omega) (by omega)]
def showB (s : Sc) (n : Int) : Bool := decide (0 ≤ n ∧ n ≤ s.Max) && decide (Int.tmod n s.Step = 0)
theorem shows_eq {s : Sc} (h : Ok s) (n : Int) : scale_shows s n = some (showB s n) := by
  have := h.a1
  unfold scale_shows showB
  rw [between_eq, Option.bind_some]
  by_cases hn : 0 ≤ n ∧ n ≤ s.Max
  · simp [hn, guardO_eq (show s.Step ≠ 0 by omega)]
  · simp only [hn, decide_false, cond_false, Option.bind_some, Bool.false_and]
theorem Showable_eq {s : Sc} (h : Ok s) (n : Int) : recyclingref26_Showable s n = some (showB s n) := by
  have := h.a1
  unfold recyclingref26_Showable showB
  by_cases h1 : 0 ≤ n <;> by_cases h2 : n ≤ s.Max <;> simp [h1, h2, guardO_eq (show s.Step ≠ 0 by omega)]
theorem okS_of {s : Sc} (h : Ok s) : okS s = true := by
  unfold okS
  rw [decide_eq_true_iff]
  exact ⟨h.a1, h.a2, h.b1, h.b2, h.c1, h.c2, h.d1, h.d2, h.e1, h.e2, h.f1, h.f2⟩
theorem Could_eq {s : Sc} (h : Ok s) {m n t : Int} (hm : 0 ≤ m) (hm2 : m ≤ 1073741824) (hs : showB s n = true) (ht : s.Checked ≤ t) (ht2 : t ≤ 3155759999) : recyclingref26_Could s m n t = some (nearZ s n t m) := by
  obtain ⟨b1, b2⟩ := bnd_bounds h hm hm2 ht ht2
  have h6 := h.a1; have h7 := h.a2; have h8 := h.f1; have h9 := h.b2
  have hc : chkS s = 0 := by simp [chkS, okS_of h]
  have hs' : 0 ≤ n ∧ n ≤ s.Max := by
    unfold showB at hs
    rw [Bool.and_eq_true, decide_eq_true_iff] at hs
    exact hs.1
  unfold recyclingref26_Could recyclingref26_Error recyclingref26_moment recyclingref26_Begun
  simp only [RCheck_eq, hc, Option.bind_some, decide_true, Bool.not_true, cond_false, show ¬ m < 0 by omega, show ¬ 1073741824 < m by omega, decide_false, show ¬ t < 0 by omega, show ¬ 3155759999 < t by omega, show ¬ t < s.Checked by omega, oun, Showable_eq h, hs, bound_raw h hm hm2 ht ht2]
  rw [w64_eq (n := m - n) (by omega) (by omega), w64_eq (n := 2 * bnd s m t) (by omega) (by omega), w64_eq (n := 2 * bnd s m t + s.Step) (by omega) (by omega)]
  unfold nearZ
  by_cases hmn : m - n < 0
  · simp only [hmn, decide_true, cond_true, Option.bind_some]
    rw [w64_eq (n := 0 - (m - n)) (by omega) (by omega), w64_eq (n := 2 * (0 - (m - n))) (by omega) (by omega), show 2 * (0 - (m - n)) = 2 * max (m - n) (n - m) by omega]
  · simp only [hmn, decide_false, cond_false, Option.bind_some]
    rw [w64_eq (n := 2 * (m - n)) (by omega) (by omega), show 2 * (m - n) = 2 * max (m - n) (n - m) by omega]

/-! on both sides of the number that is shown -/
theorem bnd_step {s : Sc} (h : Ok s) {m t : Int} : bnd s m t ≤ bnd s (m + 1) t ∧ bnd s (m + 1) t ≤ bnd s m t + 1 := by
  have h1 := h.d1; have h2 := h.d2
  unfold bnd
  have e : (m + 1) * s.Slope = m * s.Slope + s.Slope := by rw [Int.add_mul, Int.one_mul]
  rw [e]
  omega
theorem near_up {s : Sc} (h : Ok s) {n t m : Int} (hm : m < n) (hP : nearZ s n t m = true) : nearZ s n t (m + 1) = true := by
  have := (bnd_step h (m := m) (t := t)).1
  unfold nearZ at *
  rw [decide_eq_true_iff] at *
  omega
theorem far_up {s : Sc} (h : Ok s) {n t m : Int} (hm : n ≤ m) (hP : nearZ s n t m = false) : nearZ s n t (m + 1) = false := by
  have := (bnd_step h (m := m) (t := t)).2
  unfold nearZ at *
  rw [decide_eq_false_iff_not] at *
  omega
theorem near_self {s : Sc} (h : Ok s) {n t : Int} (hn : 0 ≤ n) (hn2 : n ≤ 1073741824) (ht : s.Checked ≤ t) (ht2 : t ≤ 3155759999) : nearZ s n t n = true := by
  obtain ⟨b1, b2⟩ := bnd_bounds h hn hn2 ht ht2
  have := h.a1
  unfold nearZ
  rw [decide_eq_true_iff]
  omega
theorem mid_eq {lo hi : Int} (h0 : 0 ≤ lo) (h1 : lo ≤ hi) (h2 : hi ≤ 4611686018427387903) : w64 (lo + (w64 (Int.tdiv (w64 (hi - lo)) 2))) = lo + (hi - lo) / 2 := by
  rw [w64_eq (n := hi - lo) (by omega) (by omega), Int.tdiv_eq_ediv_of_nonneg (by omega), w64_eq (n := (hi - lo) / 2) (by omega) (by omega), w64_eq (by omega) (by omega)]
theorem first58 {s : Sc} (h : Ok s) {n t : Int} (hn : 0 ≤ n) (hn2 : n ≤ 1073741824) (ht : s.Checked ≤ t) (ht2 : t ≤ 3155759999) {F : Nat} (hF : 31 < F) :
    ∃ r, scale_first_c58 F 0 n s n t = some r ∧ 0 ≤ r ∧ r ≤ n ∧ (∀ m, 0 ≤ m → m < r → nearZ s n t m = false) ∧ nearZ s n t r = true := by
  have hb : ∀ lo hi : Int, 0 ≤ lo → hi ≤ n → scale_first_c58_l1 s n t (lo, hi) = if lo ≤ hi then some (.inl (if nearZ s n t (lo + (hi - lo) / 2) = true then (lo, lo + (hi - lo) / 2 - 1) else (lo + (hi - lo) / 2 + 1, hi))) else some (.inr lo) := by
    intro lo hi h1 h2
    simp only [scale_first_c58_l1, oun, scale_True_1]
    by_cases hle : lo ≤ hi
    · rw [mid_eq h1 hle (by omega)]
      simp only [hle, decide_true, cond_true, if_true, near_eq h (show 0 ≤ lo + (hi - lo) / 2 by omega) (show lo + (hi - lo) / 2 ≤ 1073741824 by omega) hn hn2 ht ht2, Option.bind_some]
      rw [w64_eq (n := lo + (hi - lo) / 2 - 1) (by omega) (by omega), w64_eq (n := lo + (hi - lo) / 2 + 1) (by omega) (by omega)]
      by_cases hq : nearZ s n t (lo + (hi - lo) / 2) = true <;> simp [hq]
    · simp only [hle, decide_false, cond_false, if_false]
  obtain ⟨r, h1, h2, h3, h4, h5⟩ := halving (P := nearZ s n t) (body := scale_first_c58_l1 s n t) (A := 0) (B := n) (by omega) (by omega) (by omega) (fun m _ hm hP => near_up h hm hP) hb 31 F hF 0 n (by omega) (by omega) (by omega) (by
      have : (2 : Int) ^ 31 = 2147483648 := by decide
      omega) (fun m h1 h2 => by omega) (fun hlt => by omega)
  have hrn : r ≤ n := by
    rcases Int.lt_or_le n r with hlt | hle
    · have := h4 n hn hlt
      rw [near_self h hn hn2 ht ht2] at this
      cases this
    · exact hle
  refine ⟨r, ?_, h2, hrn, h4, h5 hrn⟩
  unfold scale_first_c58
  rw [h1]; rfl
theorem first59 {s : Sc} (h : Ok s) {n t : Int} (hn : 0 ≤ n) (hn2 : n ≤ 1073741824) (ht : s.Checked ≤ t) (ht2 : t ≤ 3155759999) {F : Nat} (hF : 31 < F) :
    ∃ r, scale_first_c59 F n 1073741824 s n t = some r ∧ n < r ∧ r ≤ 1073741825 ∧ (∀ m, n ≤ m → m < r → nearZ s n t m = true) ∧ (r ≤ 1073741824 → nearZ s n t r = false) := by
  have hb : ∀ lo hi : Int, n ≤ lo → hi ≤ 1073741824 → scale_first_c59_l1 s n t (lo, hi) = if lo ≤ hi then some (.inl (if (fun m => !nearZ s n t m) (lo + (hi - lo) / 2) = true then (lo, lo + (hi - lo) / 2 - 1) else (lo + (hi - lo) / 2 + 1, hi))) else some (.inr lo) := by
    intro lo hi h1 h2
    simp only [scale_first_c59_l1, oun, scale_True_2]
    by_cases hle : lo ≤ hi
    · rw [mid_eq (by omega) hle (by omega)]
      simp only [hle, decide_true, cond_true, if_true, near_eq h (show 0 ≤ lo + (hi - lo) / 2 by omega) (show lo + (hi - lo) / 2 ≤ 1073741824 by omega) hn hn2 ht ht2, Option.bind_some]
      rw [w64_eq (n := lo + (hi - lo) / 2 - 1) (by omega) (by omega), w64_eq (n := lo + (hi - lo) / 2 + 1) (by omega) (by omega)]
      by_cases hq : nearZ s n t (lo + (hi - lo) / 2) = true <;> simp [hq]
    · simp only [hle, decide_false, cond_false, if_false]
  obtain ⟨r, h1, h2, h3, h4, h5⟩ := halving (P := fun m => !nearZ s n t m) (body := scale_first_c59_l1 s n t) (A := n) (B := 1073741824) (by omega) (by omega) (by omega) (fun m hm _ hP => by simp at hP ⊢; exact far_up h hm hP) hb 31 F hF n 1073741824 (by omega) (by omega) (by omega) (by
      have : (2 : Int) ^ 31 = 2147483648 := by decide
      omega) (fun m h1 h2 => by omega) (fun hlt => by omega)
  have hrn : n < r := by
    rcases Int.lt_or_le n r with hlt | hle
    · exact hlt
    · have := h5 (by omega)
      rw [show r = n by omega, near_self h hn hn2 ht ht2] at this
      cases this
  refine ⟨r, ?_, hrn, h3, fun m g1 g2 => by simpa using h4 m g1 g2, fun g => by simpa using h5 g⟩
  unfold scale_first_c59
  rw [h1]; rfl

end Go.Proofs.Ytchakbpjokemnaa
