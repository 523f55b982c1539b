/- Tickets: net masses. -/
import Derived.Test.YtchakbpjokemnaaTc
namespace Go.Proofs.Ytchakbpjokemnaa
set_option linter.unusedSimpArgs false
set_option linter.unusedVariables false

theorem lt_of_get {α : Type} {l : List α} {k : Nat} {x : α} (h : l[k]? = some x) : k < l.length := by
  rcases Nat.lt_or_ge k l.length with h2 | h2
  · exact h2
  · rw [List.getElem?_eq_none h2] at h; cases h
def goodT (s : Sc) (n t : Int) : Bool := okS s && showB s n && decide (0 ≤ t ∧ t ≤ 3155759999)
theorem chk_zero {s : Sc} : chkS s = 0 ↔ okS s = true := by unfold chkS; cases okS s <;> simp
/-- Both ways to the interval: the same result. -/
theorem True_eq (s : Sc) (n t : Int) {F : Nat} (hF : 32 < F) : ∃ sp e, scale_True F s n t = some (sp, e) ∧ recyclingref26_True F s n t = some (sp, e) ∧ (e = 0 → Ok s ∧ 0 ≤ sp.Lo ∧ sp.Lo ≤ n ∧ n ≤ sp.Hi ∧ sp.Hi ≤ 1073741824 ∧ showB s n = true ∧ s.Checked ≤ t ∧ t ≤ 3155759999 ∧ ∀ m, 0 ≤ m → m ≤ 1073741824 → (nearZ s n t m = true ↔ sp.Lo ≤ m ∧ m ≤ sp.Hi)) := by
  unfold scale_True recyclingref26_True recyclingref26_moment
  simp only [Check_eq, RCheck_eq, Option.bind_some, between_eq]
  cases ho : okS s with
  | false =>
    have hc : chkS s = 1 := by simp [chkS, ho]
    exact ⟨⟨0, 0⟩, 1, by simp [hc], by simp [hc], by simp⟩
  | true =>
    have h := Ok.of ho
    have hc : chkS s = 0 := chk_zero.2 ho
    have hf := h.f1; have hb2 := h.b2
    simp only [hc, decide_true, Bool.not_true, cond_false, shows_eq h, Showable_eq h, Option.bind_some]
    cases hs : showB s n with
    | false => exact ⟨⟨0, 0⟩, 1, by simp, by simp, by simp⟩
    | true =>
      have hs' : 0 ≤ n ∧ n ≤ s.Max := by
        have := hs
        unfold showB at this
        rw [Bool.and_eq_true, decide_eq_true_iff] at this
        exact this.1
      simp only [Bool.not_true, cond_false, Option.bind_some]
      by_cases ht : 0 ≤ t ∧ t ≤ 3155759999
      · by_cases hck : t < s.Checked
        · refine ⟨⟨0, 0⟩, 9, ?_, ?_, by simp⟩
          · simp [ht, hck]
          · simp [hck, show ¬ t < 0 by omega, show ¬ 3155759999 < t by omega]
        · obtain ⟨lo, hi, a1, a2, a3, a4, a5, a6, a7, a8, a9⟩ := true_both h hs (show s.Checked ≤ t by omega) ht.2 hF
          refine ⟨⟨lo, hi⟩, 0, ?_, ?_, fun _ => ⟨h, a5, a6, a7, a8, trivial, by omega, ht.2, a9⟩⟩
          · simp only [ht, and_self, decide_true, Bool.not_true, cond_false, hck, decide_false, a1, a2, Option.bind_some]
            rw [w64_eq (n := hi + 1 - 1) (by omega) (by omega), show hi + 1 - 1 = hi by omega]
          · rw [w64_eq (n := 1073741824 - n) (by omega) (by omega)]
            simp only [show ¬ t < 0 by omega, show ¬ 3155759999 < t by omega, hck, decide_false, cond_false, Option.bind_some, decide_true, Bool.not_true, a3, a4]
            rw [w64_eq (n := n - (n - lo)) (by omega) (by omega), w64_eq (n := n + (hi - n)) (by omega) (by omega), show n - (n - lo) = lo by omega, show n + (hi - n) = hi by omega]
      · refine ⟨⟨0, 0⟩, 1, ?_, ?_, by simp⟩
        · have : decide (0 ≤ t ∧ t ≤ 3155759999) = false := by rw [decide_eq_false_iff_not]; exact ht
          simp only [this, Bool.not_false, cond_true]
        · by_cases h0 : t < 0
          · simp [h0]
          · simp [h0, show 3155759999 < t by omega]

/-! scales -/
def scR (s : List Sc) : Int := if 16 < s.length then 8 else first (fun x => if chkS x = 0 then none else some (chkS x)) 0 s
theorem scales_eq (s : List Sc) (hl : s.length ≤ 20) : ticket_scales s = some (scR s) ∧ recyclingref27_scales s = some (scR s) := by
  have fin : ∀ (l : List Sc), (first (fun x => if chkS x = 0 then none else some (.inr (chkS x))) (.inl () : Unit ⊕ Int) l) = .inl () ∧ first (fun x => if chkS x = 0 then none else some (chkS x)) 0 l = 0 ∨ ∃ c, (first (fun x => if chkS x = 0 then none else some (.inr (chkS x))) (.inl () : Unit ⊕ Int) l) = .inr c ∧ first (fun x => if chkS x = 0 then none else some (chkS x)) 0 l = c := by
    intro l
    induction l with
    | nil => exact .inl ⟨rfl, rfl⟩
    | cons x l ih =>
      by_cases h : chkS x = 0
      · simpa only [first, h, if_true] using ih
      · exact .inr ⟨chkS x, by simp [first, h], by simp [first, h]⟩
  unfold ticket_scales recyclingref27_scales scR
  by_cases h16 : 16 < s.length
  · have : (16 : Int) < (s.length : Nat) := by omega
    simp [h16, this]
  · have : ¬ (16 : Int) < (s.length : Nat) := by omega
    have l1 := iter_first s (body := ticket_scales_l1 s) (fun x => if chkS x = 0 then none else some (.inr (chkS x))) (.inl () : Unit ⊕ Int) (by omega) (fun k x hx => by
      have hk := lt_of_get hx
      have hk2 : ((k : Int) < (s.length : Nat)) := by omega
      simp only [ticket_scales_l1, hk2, decide_true, cond_true, getI_nat, hx, Option.bind_some, Check_eq]
      by_cases h : chkS x = 0 <;> simp [h]) (by simp [ticket_scales_l1]) (((s.length : Nat) : Int).toNat + 1) (by simp)
    have l2 := iter_first s (body := recyclingref27_scales_l1 s) (fun x => if chkS x = 0 then none else some (.inr (chkS x))) (.inl () : Unit ⊕ Int) (by omega) (fun k x hx => by
      have hk := lt_of_get hx
      have hk2 : ((k : Int) < (s.length : Nat)) := by omega
      simp only [recyclingref27_scales_l1, hk2, decide_true, cond_true, getI_nat, hx, Option.bind_some, RCheck_eq]
      by_cases h : chkS x = 0 <;> simp [h]) (by simp [recyclingref27_scales_l1]) (((s.length : Nat) : Int).toNat + 1) (by simp)
    simp only [this, decide_false, cond_false, h16, if_false, l1, l2, Option.bind_some]
    rcases fin s with ⟨e1, e2⟩ | ⟨c, e1, e2⟩ <;> rw [e1, e2] <;> simp [osum]

theorem awake_true : recyclinglaw27_awake 64 = some true := by decide +kernel
theorem getI_in {α : Type} {l : List α} {i : Int} (h0 : 0 ≤ i) (h1 : i < (l.length : Nat)) : ∃ x, getI l i = some x := by
  obtain ⟨k, rfl⟩ : ∃ k : Nat, i = k := ⟨i.toNat, by omega⟩
  exact ⟨_, getI_some (by omega)⟩
/-- What a ticket's weighings give: the two intervals and the error. -/
theorem weigh_eq (s : List Sc) (x : T_api_Ticket) {F : Nat} (hF : 32 < F) : ∃ a b e, ticket_weighed F s x = some (a, b, e) ∧ recyclingref27_fault F s x = some e ∧
    (e = 0 → ∃ sc, getI s x.Scale = some sc ∧ recyclingref26_True F sc x.Gross x.At = some (a, 0) ∧ recyclingref26_True F sc x.Tare x.At = some (b, 0) ∧ ¬ x.Gross < x.Tare ∧ 0 ≤ x.Scale ∧ x.Scale < (s.length : Nat)) := by
  unfold ticket_weighed recyclingref27_fault
  by_cases h1 : x.ID < 1 ∨ 1000000 < x.ID
  · refine ⟨⟨0, 0⟩, ⟨0, 0⟩, 1, ?_, ?_, by simp⟩
    · by_cases g : x.ID < 1
      · simp [g]
      · simp [g, show 1000000 < x.ID by omega]
    · by_cases g : x.ID < 1
      · simp [g]
      · simp [g, show 1000000 < x.ID by omega]
  · simp only [show ¬ x.ID < 1 by omega, show ¬ 1000000 < x.ID by omega, decide_false, cond_false, Option.bind_some]
    by_cases h2 : x.Scale < 0 ∨ ((s.length : Nat) : Int) ≤ x.Scale
    · refine ⟨⟨0, 0⟩, ⟨0, 0⟩, 7, ?_, ?_, by simp⟩
      · by_cases g : x.Scale < 0
        · simp [g]
        · simp [g, show ((s.length : Nat) : Int) ≤ x.Scale by omega]
      · by_cases g : x.Scale < 0
        · simp [g]
        · simp [g, show ((s.length : Nat) : Int) ≤ x.Scale by omega]
    · simp only [show ¬ x.Scale < 0 by omega, show ¬ ((s.length : Nat) : Int) ≤ x.Scale by omega, decide_false, cond_false, Option.bind_some]
      by_cases h3 : x.At < 0 ∨ 3155759999 < x.At
      · refine ⟨⟨0, 0⟩, ⟨0, 0⟩, 1, ?_, ?_, by simp⟩
        · by_cases g : x.At < 0
          · simp [g]
          · simp [g, show 3155759999 < x.At by omega]
        · by_cases g : x.At < 0
          · simp [g]
          · simp [g, show 3155759999 < x.At by omega]
      · simp only [show ¬ x.At < 0 by omega, show ¬ 3155759999 < x.At by omega, decide_false, cond_false, Option.bind_some]
        obtain ⟨sc, hsc⟩ := getI_in (l := s) (i := x.Scale) (by omega) (by omega)
        obtain ⟨a, e1, t1, t2, _⟩ := True_eq sc x.Gross x.At hF
        obtain ⟨b, e2, t3, t4, _⟩ := True_eq sc x.Tare x.At hF
        simp only [hsc, Option.bind_some, t1, t2, t3, t4, oun]
        by_cases g1 : e1 = 0
        · by_cases g2 : e2 = 0
          · subst g1 g2
            by_cases g3 : x.Gross < x.Tare
            · exact ⟨a, ⟨b.Lo, b.Hi⟩, 9, by simp [g3], by simp [g3], by simp⟩
            · exact ⟨a, ⟨b.Lo, b.Hi⟩, 0, by simp [g3], by simp [g3], fun _ => ⟨sc, rfl, t2, t4, g3, by omega, by omega⟩⟩
          · subst g1
            exact ⟨a, ⟨b.Lo, b.Hi⟩, e2, by simp [g2], by simp [g2], fun h => absurd h g2⟩
        · exact ⟨a, ⟨0, 0⟩, e1, by simp [g1], by simp [g1], fun h => absurd h g1⟩
theorem Net_eq (s : List Sc) (hl : s.length ≤ 20) (x : T_api_Ticket) {F : Nat} (hF : 32 < F) : ∃ p, ticket_Net F s x = some p ∧ recyclingref27_Net F s x = some p := by
  obtain ⟨h1, h2⟩ := scales_eq s hl
  obtain ⟨a, b, e, w1, w2, w3⟩ := weigh_eq s x hF
  unfold ticket_Net recyclingref27_Net
  rw [h1, h2]
  by_cases hc : scR s = 0
  · simp only [hc, Option.bind_some, decide_true, Bool.not_true, cond_false, w1, w2, oun]
    by_cases he : e = 0
    · obtain ⟨sc, g1, g2, g3, _⟩ := w3 he
      simp [he, g1, g2, g3]
    · simp [he]
  · simp [hc]
theorem recyclinglaw27_TicketNets_true (s : List Sc) (x : T_api_Ticket) (_ : ∀ y ∈ s, wf_api_Scale y) (_ : wf_api_Ticket x) : ∃ F, recyclinglaw27_TicketNets F s x = some true := by
  refine ⟨64, ?_⟩
  unfold recyclinglaw27_TicketNets
  by_cases hl : (20 : Int) < (s.length : Nat)
  · simp [hl, awake_true]
  · obtain ⟨p, h1, h2⟩ := Net_eq s (by omega) x (F := 64) (by omega)
    simp [hl, h1, h2, awake_true, oun]

end Go.Proofs.Ytchakbpjokemnaa
