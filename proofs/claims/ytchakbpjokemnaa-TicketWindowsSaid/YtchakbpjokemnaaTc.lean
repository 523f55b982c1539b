/- Tickets: the reference finds the same intervals. -/
import Derived.Test.YtchakbpjokemnaaTb
namespace Go.Proofs.Ytchakbpjokemnaa
set_option linter.unusedSimpArgs false
set_option linter.unusedVariables false

theorem down {Q : Int → Bool} {most : Int} (hdown : ∀ d, 0 ≤ d → d < most → Q (d + 1) = true → Q d = true) : ∀ (k : Nat) {d : Int}, 0 ≤ d → d + k ≤ most → Q (d + k) = true → Q d = true
  | 0, d, _, _, h => by simpa using h
  | k + 1, d, h0, h1, h => by
    have h2 : Q (d + 1) = true := down hdown k (d := d + 1) (by omega) (by omega) (by rw [show d + 1 + (k : Int) = d + ((k + 1 : Nat) : Int) by omega]; exact h)
    exact hdown d h0 (by omega) h2
theorem bits {Q : Int → Bool} {body : Int × Int → Option ((Int × Int) ⊕ Int)} {most : Int} (hm : 0 ≤ most) (hdown : ∀ d, 0 ≤ d → d < most → Q (d + 1) = true → Q d = true)
    (hb : ∀ (lo : Int) (b : Nat), 0 ≤ lo → lo ≤ most → b ≤ 31 → body (lo, (b : Int)) = some (.inl ((if lo + 2 ^ b ≤ most ∧ Q (lo + 2 ^ b) = true then lo + 2 ^ b else lo), (b : Int) - 1)))
    (hend : ∀ lo, body (lo, -1) = some (.inr lo)) : ∀ (n F : Nat), n < F → n ≤ 32 → ∀ lo : Int, 0 ≤ lo → lo ≤ most → Q lo = true → (∀ d, lo + (2 : Int) ^ n ≤ d → d ≤ most → Q d = false) →
      ∃ r, iter body F (lo, (n : Int) - 1) = some r ∧ 0 ≤ r ∧ r ≤ most ∧ Q r = true ∧ ∀ d, r < d → d ≤ most → Q d = false
  | n, 0, h, _, _, _, _, _, _ => by omega
  | 0, F + 1, _, _, lo, h0, h1, h2, h3 => by
    refine ⟨lo, ?_, h0, h1, h2, fun d g1 g2 => h3 d (by simp; omega) g2⟩
    have : ((0 : Nat) : Int) - 1 = -1 := by omega
    rw [this]
    simp only [iter, hend, Option.bind_some, osum]
  | n + 1, F + 1, hF, hn, lo, h0, h1, h2, h3 => by
    have hbody := hb lo n h0 h1 (by omega)
    have hp : (2 : Int) ^ (n + 1) = 2 * 2 ^ n := by rw [Int.pow_succ]; omega
    have hpos : (0 : Int) < 2 ^ n := Int.pow_pos (by omega)
    rw [hp] at h3
    have hi : ((n + 1 : Nat) : Int) - 1 = (n : Int) := by omega
    rw [hi]
    by_cases hc : lo + 2 ^ n ≤ most ∧ Q (lo + 2 ^ n) = true
    · rw [if_pos hc] at hbody
      obtain ⟨r, hr, rest⟩ := bits hm hdown hb hend n F (by omega) (by omega) (lo + 2 ^ n) (by omega) hc.1 hc.2 (fun d g1 g2 => h3 d (by omega) g2)
      refine ⟨r, ?_, rest⟩
      simp only [iter, hbody, Option.bind_some, osum]
      exact hr
    · rw [if_neg hc] at hbody
      obtain ⟨r, hr, rest⟩ := bits hm hdown hb hend n F (by omega) (by omega) lo h0 h1 h2 (fun d g1 g2 => by
        cases hd : Q d with
        | false => rfl
        | true =>
          exact absurd ⟨by omega, down hdown (d - (lo + 2 ^ n)).toNat (by omega) (by omega) (by rw [show lo + 2 ^ n + (((d - (lo + 2 ^ n)).toNat : Nat) : Int) = d by omega]; exact hd)⟩ hc)
      refine ⟨r, ?_, rest⟩
      simp only [iter, hbody, Option.bind_some, osum]
      exact hr
theorem pow_le {b : Nat} (h : b ≤ 31) : 0 < (2 : Int) ^ b ∧ (2 : Int) ^ b ≤ 2147483648 := by
  have : ∀ b : Nat, b ≤ 31 → (2 : Int) ^ b ≤ 2147483648 := by
    intro b hb
    have h1 : (2 : Nat) ^ b ≤ 2 ^ 31 := Nat.pow_le_pow_right (by omega) hb
    have h2 : ((2 ^ b : Nat) : Int) = (2 : Int) ^ b := by simp
    rw [← h2]
    have : (2 : Nat) ^ 31 = 2147483648 := by decide
    omega
  exact ⟨Int.pow_pos (by omega), this b h⟩
/-- One direction of the reference: way is 1 or -1. -/
theorem reach_eq {s : Sc} (h : Ok s) {n t way most : Int} (hway : way = 1 ∨ way = -1) (hs : showB s n = true) (hn : 0 ≤ n) (hn2 : n ≤ 1073741824) (ht : s.Checked ≤ t) (ht2 : t ≤ 3155759999) (hm : 0 ≤ most) (hr : ∀ d, 0 ≤ d → d ≤ most → 0 ≤ n + way * d ∧ n + way * d ≤ 1073741824)
    (hmm : most ≤ 1073741824) (hdown : ∀ d, 0 ≤ d → d < most → nearZ s n t (n + way * (d + 1)) = true → nearZ s n t (n + way * d) = true) {F : Nat} (hF : 32 < F) :
    ∃ r, recyclingref26_reach F s n t way most = some r ∧ 0 ≤ r ∧ r ≤ most ∧ nearZ s n t (n + way * r) = true ∧ ∀ d, r < d → d ≤ most → nearZ s n t (n + way * d) = false := by
  have hb : ∀ (lo : Int) (b : Nat), 0 ≤ lo → lo ≤ most → b ≤ 31 → recyclingref26_reach_l1 s n t way most (lo, (b : Int)) = some (.inl ((if lo + 2 ^ b ≤ most ∧ nearZ s n t (n + way * (lo + 2 ^ b)) = true then lo + 2 ^ b else lo), (b : Int) - 1)) := by
    intro lo b h0 h1 hb
    obtain ⟨p1, p2⟩ := pow_le hb
    have hbn : ((b : Int)).toNat = b := by omega
    have hg : guardO ((0 : Int) ≤ b ∧ (b : Int) ≤ 64) = some () := guardO_eq (by omega)
    simp only [recyclingref26_reach_l1, oun, hg]
    simp only [show (0 : Int) ≤ b by omega, decide_true, cond_true, Option.bind_some, hbn, Int.one_mul]
    rw [w64_eq (n := 2 ^ b) (by omega) (by omega), w64_eq (n := lo + 2 ^ b) (by omega) (by omega), w64_eq (n := (b : Int) - 1) (by omega) (by omega)]
    by_cases hd : lo + 2 ^ b ≤ most
    · obtain ⟨r1, r2⟩ := hr (lo + 2 ^ b) (by omega) hd
      have hw : w64 (way * (lo + 2 ^ b)) = way * (lo + 2 ^ b) := by rcases hway with rfl | rfl <;> exact w64_eq (by omega) (by omega)
      simp only [hd, decide_true, cond_true, true_and, hw]
      rw [w64_eq (n := n + way * (lo + 2 ^ b)) (by omega) (by omega), Could_eq h r1 r2 hs ht ht2]
      by_cases hq : nearZ s n t (n + way * (lo + 2 ^ b)) = true <;> simp [hq]
    · simp [hd]
  obtain ⟨r, h1, rest⟩ := bits (Q := fun d => nearZ s n t (n + way * d)) (body := recyclingref26_reach_l1 s n t way most) hm hdown hb (fun lo => by simp [recyclingref26_reach_l1, oun]) 32 F hF (Nat.le_refl _) 0 (Int.le_refl _) hm (by simp; exact near_self h hn hn2 ht ht2) (fun d g1 g2 => by
    have : (2 : Int) ^ 32 = 4294967296 := by decide
    omega)
  refine ⟨r, ?_, rest⟩
  unfold recyclingref26_reach
  have e : ((32 : Nat) : Int) - 1 = 31 := by omega
  rw [e] at h1
  rw [h1]; rfl

/-- The interval, when there is one. -/
theorem true_both {s : Sc} (h : Ok s) {n t : Int} (hs : showB s n = true) (ht : s.Checked ≤ t) (ht2 : t ≤ 3155759999) {F : Nat} (hF : 32 < F) :
    ∃ lo hi, scale_first_c58 F 0 n s n t = some lo ∧ scale_first_c59 F n 1073741824 s n t = some (hi + 1) ∧ recyclingref26_reach F s n t (-1) n = some (n - lo) ∧ recyclingref26_reach F s n t 1 (1073741824 - n) = some (hi - n) ∧ 0 ≤ lo ∧ lo ≤ n ∧ n ≤ hi ∧ hi ≤ 1073741824 ∧
      (∀ m, 0 ≤ m → m ≤ 1073741824 → (nearZ s n t m = true ↔ lo ≤ m ∧ m ≤ hi)) := by
  have hs' : 0 ≤ n ∧ n ≤ s.Max := by
    have := hs
    unfold showB at this
    rw [Bool.and_eq_true, decide_eq_true_iff] at this
    exact this.1
  have h9 := h.b2
  have hn : 0 ≤ n := hs'.1
  have hn2 : n ≤ 1073741824 := by omega
  obtain ⟨lo, a1, a2, a3, a4, a5⟩ := first58 h hn hn2 ht ht2 (F := F) (by omega)
  obtain ⟨hj, b1, b2, b3, b4, b5⟩ := first59 h hn hn2 ht ht2 (F := F) (by omega)
  have d1 : ∀ d, 0 ≤ d → d < n → nearZ s n t (n + -1 * (d + 1)) = true → nearZ s n t (n + -1 * d) = true := by
    intro d g1 g2 g
    have := near_up h (n := n) (t := t) (m := n + -1 * (d + 1)) (by omega) g
    rwa [show n + -1 * (d + 1) + 1 = n + -1 * d by omega] at this
  have d2 : ∀ d, 0 ≤ d → d < 1073741824 - n → nearZ s n t (n + 1 * (d + 1)) = true → nearZ s n t (n + 1 * d) = true := by
    intro d g1 g2 g
    cases hq : nearZ s n t (n + 1 * d) with
    | true => rfl
    | false =>
      have := far_up h (n := n) (t := t) (m := n + 1 * d) (by omega) hq
      rw [show n + 1 * d + 1 = n + 1 * (d + 1) by omega, g] at this
      cases this
  obtain ⟨r1, c1, c2, c3, c4, c5⟩ := reach_eq h (.inr rfl) hs hn hn2 ht ht2 hn (fun d g1 g2 => by omega) hn2 d1 hF
  obtain ⟨r2, e1, e2, e3, e4, e5⟩ := reach_eq h (.inl rfl) hs hn hn2 ht ht2 (show 0 ≤ 1073741824 - n by omega) (fun d g1 g2 => by omega) (by omega) d2 hF
  have hlo : r1 = n - lo := by
    rcases Int.lt_trichotomy r1 (n - lo) with hlt | heq | hgt
    · have := c5 (n - lo) hlt (by omega)
      rw [show n + -1 * (n - lo) = lo by omega, a5] at this
      cases this
    · exact heq
    · have := a4 (n + -1 * r1) (by omega) (by omega)
      rw [c4] at this
      cases this
  have hhi : r2 = hj - 1 - n := by
    rcases Int.lt_trichotomy r2 (hj - 1 - n) with hlt | heq | hgt
    · have := e5 (hj - 1 - n) hlt (by omega)
      rw [show n + 1 * (hj - 1 - n) = hj - 1 by omega, b4 (hj - 1) (by omega) (by omega)] at this
      cases this
    · exact heq
    · have g := down (Q := fun d => nearZ s n t (n + 1 * d)) (most := 1073741824 - n) d2 (r2 - (hj - n)).toNat (d := hj - n) (by omega) (by omega) (by rw [show hj - n + (((r2 - (hj - n)).toNat : Nat) : Int) = r2 by omega]; exact e4)
      rw [show n + 1 * (hj - n) = hj by omega, b5 (by omega)] at g
      cases g
  refine ⟨lo, hj - 1, a1, by rw [b1, show hj - 1 + 1 = hj by omega], by rw [c1, hlo], by rw [e1, hhi], a2, a3, by omega, by omega, fun m g1 g2 => ?_⟩
  constructor
  · intro hq
    refine ⟨?_, ?_⟩
    · rcases Int.lt_or_le m lo with hlt | hle
      · rw [a4 m g1 hlt] at hq; cases hq
      · exact hle
    · rcases Int.lt_or_le (hj - 1) m with hlt | hle
      · have g := down (Q := fun d => nearZ s n t (n + 1 * d)) (most := 1073741824 - n) d2 (m - hj).toNat (d := hj - n) (by omega) (by omega) (by rw [show n + 1 * (hj - n + (((m - hj).toNat : Nat) : Int)) = m by omega]; exact hq)
        rw [show n + 1 * (hj - n) = hj by omega, b5 (by omega)] at g
        cases g
      · exact hle
  · rintro ⟨g3, g4⟩
    rcases Int.lt_or_le m n with hlt | hle
    · have g := down (Q := fun d => nearZ s n t (n + -1 * d)) (most := n) d1 (m - lo).toNat (d := n - m) (by omega) (by omega) (by rw [show n + -1 * (n - m + (((m - lo).toNat : Nat) : Int)) = lo by omega]; exact a5)
      rwa [show n + -1 * (n - m) = m by omega] at g
    · exact b4 m hle (by omega)

end Go.Proofs.Ytchakbpjokemnaa
