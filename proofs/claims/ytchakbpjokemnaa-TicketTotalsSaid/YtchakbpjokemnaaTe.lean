/- Tickets: lists. -/
import Derived.Test.YtchakbpjokemnaaTd
namespace Go.Proofs.Ytchakbpjokemnaa
set_option linter.unusedSimpArgs false
set_option linter.unusedVariables false

/-! the net interval holds every net mass -/
theorem Net_spec (s : List Sc) (hl : s.length ≤ 20) (x : T_api_Ticket) {F : Nat} (hF : 32 < F) {p : T_api_Span} {e : Int} (h : ticket_Net F s x = some (p, e)) :
    (e ≠ 0 → p = ⟨0, 0⟩) ∧ (e = 0 → ∃ (sc : Sc) (a b : T_api_Span), getI s x.Scale = some sc ∧ 0 ≤ x.Scale ∧ x.Scale < (s.length : Nat) ∧ Ok sc ∧ p = ⟨max 0 (a.Lo - b.Hi), max 0 (a.Hi - b.Lo)⟩ ∧ 0 ≤ a.Lo ∧ a.Lo ≤ a.Hi ∧ a.Hi ≤ 1073741824 ∧ 0 ≤ b.Lo ∧ b.Lo ≤ b.Hi ∧ b.Hi ≤ 1073741824 ∧
      showB sc x.Gross = true ∧ showB sc x.Tare = true ∧ sc.Checked ≤ x.At ∧ x.At ≤ 3155759999 ∧ (∀ m, 0 ≤ m → m ≤ 1073741824 → (nearZ sc x.Gross x.At m = true ↔ a.Lo ≤ m ∧ m ≤ a.Hi)) ∧ (∀ m, 0 ≤ m → m ≤ 1073741824 → (nearZ sc x.Tare x.At m = true ↔ b.Lo ≤ m ∧ m ≤ b.Hi))) := by
  obtain ⟨h1, _⟩ := scales_eq s hl
  obtain ⟨a, b, e', w1, _, w3⟩ := weigh_eq s x hF
  unfold ticket_Net at h
  rw [h1] at h
  by_cases hc : scR s = 0
  · simp only [hc, Option.bind_some, decide_true, Bool.not_true, cond_false, w1, oun] at h
    by_cases he : e' = 0
    · obtain ⟨sc, g1, g2, g3, g4, g5, g6⟩ := w3 he
      obtain ⟨a', e1, t1, t2, t3⟩ := True_eq sc x.Gross x.At hF
      obtain ⟨b', e2, u1, u2, u3⟩ := True_eq sc x.Tare x.At hF
      rw [g2] at t2; rw [g3] at u2
      injection t2 with t2; injection t2 with t2a t2b
      injection u2 with u2; injection u2 with u2a u2b
      subst t2a t2b u2a u2b
      obtain ⟨k0, k1, k2, k3, k4, k5, k6, k7, k8⟩ := t3 rfl
      obtain ⟨_, l1, l2, l3, l4, l5, _, _, l8⟩ := u3 rfl
      simp only [he, decide_true, Bool.not_true, cond_false] at h
      rw [w64_eq (n := a.Lo - b.Hi) (by omega) (by omega), w64_eq (n := a.Hi - b.Lo) (by omega) (by omega)] at h
      injection h with h; injection h with hp he2
      subst hp he2
      exact ⟨fun h => absurd rfl h, fun _ => ⟨sc, a, b, g1, g5, g6, k0, rfl, k1, by omega, k4, l1, by omega, l4, k5, l5, k6, k7, k8, l8⟩⟩
    · simp only [he, decide_false, Bool.not_false, cond_true] at h
      injection h with h; injection h with hp he2
      subst hp he2
      exact ⟨fun _ => rfl, fun h => absurd h he⟩
  · simp only [hc, Option.bind_some, decide_false, Bool.not_false, cond_true] at h
    injection h with h; injection h with hp he2
    subst hp he2
    exact ⟨fun _ => rfl, fun h => absurd h hc⟩

theorem SCould_eq {s : Sc} (h : Ok s) {m n t : Int} (hs : showB s n = true) (ht : s.Checked ≤ t) (ht2 : t ≤ 3155759999) : scale_Could s m n t = some (decide (0 ≤ m ∧ m ≤ 1073741824) && nearZ s n t m) := by
  have hc : chkS s = 0 := chk_zero.2 (okS_of h)
  have hf := h.f1; have hb := h.b2
  have hs' : 0 ≤ n ∧ n ≤ s.Max := by
    have := hs
    unfold showB at this
    rw [Bool.and_eq_true, decide_eq_true_iff] at this
    exact this.1
  have ht3 : decide (0 ≤ t ∧ t ≤ 3155759999) = true := by rw [decide_eq_true_iff]; omega
  unfold scale_Could scale_Error
  simp only [Check_eq, hc, Option.bind_some, between_eq, decide_true, Bool.not_true, cond_false, ht3, shows_eq h, hs]
  by_cases hm : 0 ≤ m ∧ m ≤ 1073741824
  · have hm3 : decide (0 ≤ m ∧ m ≤ 1073741824) = true := by rw [decide_eq_true_iff]; exact hm
    simp only [hm3, Bool.not_true, cond_false, Option.bind_some, show ¬ t < s.Checked by omega, decide_false, scale_bound, oun, decide_true, cond_true, near_eq h hm.1 hm.2 (show 0 ≤ n by omega) (show n ≤ 1073741824 by omega) ht ht2, Bool.true_and]
  · have hm3 : decide (0 ≤ m ∧ m ≤ 1073741824) = false := by rw [decide_eq_false_iff_not]; exact hm
    simp [hm3, oun]
theorem recyclinglaw27_TicketNet_true (s : List Sc) (x : T_api_Ticket) (m : T_arr2_3) (_ : ∀ y ∈ s, wf_api_Scale y) (_ : wf_api_Ticket x) (_ : wf_arr2_3 m) : ∃ F, recyclinglaw27_TicketNet F s x m = some true := by
  refine ⟨64, ?_⟩
  unfold recyclinglaw27_TicketNet
  by_cases hl : (20 : Int) < (s.length : Nat)
  · simp [hl, awake_true]
  · obtain ⟨⟨p, e⟩, h1, _⟩ := Net_eq s (by omega) x (F := 64) (by omega)
    obtain ⟨n1, n2⟩ := Net_spec s (by omega) x (F := 64) (by omega) h1
    simp only [hl, decide_false, cond_false, h1, Option.bind_some, oun]
    by_cases he : e = 0
    · obtain ⟨sc, a, b, g1, g2, g3, ok, hp, a1, a2, a3, b1, b2, b3, s1, s2, c1, c2, na, nb⟩ := n2 he
      have p1 : ¬ p.Lo < 0 := by rw [hp]; simp only; omega
      have p2 : ¬ p.Hi < p.Lo := by rw [hp]; simp only; omega
      have p3 : ¬ 1073741824 < p.Hi := by rw [hp]; simp only; omega
      simp only [he, decide_true, Bool.not_true, cond_false, show ¬ x.Scale < 0 by omega, show ¬ ((s.length : Nat) : Int) ≤ x.Scale by omega, p1, p2, p3, decide_false, Option.bind_some, g1, SCould_eq ok s1 c1 c2, SCould_eq ok s2 c1 c2]
      cases q1 : (decide (0 ≤ m.e0 ∧ m.e0 ≤ 1073741824) && nearZ sc x.Gross x.At m.e0) with
      | false => simp [awake_true]
      | true =>
        cases q2 : (decide (0 ≤ m.e1 ∧ m.e1 ≤ 1073741824) && nearZ sc x.Tare x.At m.e1) with
        | false => simp [awake_true]
        | true =>
          rw [Bool.and_eq_true, decide_eq_true_iff] at q1 q2
          have i1 := (na m.e0 q1.1.1 q1.1.2).1 q1.2
          have i2 := (nb m.e1 q2.1.1 q2.1.2).1 q2.2
          by_cases hlt : m.e0 < m.e1
          · simp [hlt, awake_true]
          · rw [w64_eq (n := m.e0 - m.e1) (by omega) (by omega)]
            have r1 : p.Lo ≤ m.e0 - m.e1 := by rw [hp]; simp only; omega
            have r2 : m.e0 - m.e1 ≤ p.Hi := by rw [hp]; simp only; omega
            simp [hlt, r1, r2, awake_true]
    · rw [n1 he]
      simp [he, awake_true]

end Go.Proofs.Ytchakbpjokemnaa
