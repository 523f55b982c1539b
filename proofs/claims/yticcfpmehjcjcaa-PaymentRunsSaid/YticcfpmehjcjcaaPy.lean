/- payment: the laws, over the printed specifications. -/
import Derived.Test.YticcfpmehjcjcaaPx
namespace Go.Proofs.Yticcfpmehjcjcaa
set_option linter.unusedSimpArgs false
set_option linter.unusedVariables false

def new0 : R := ⟨[], [], 0, 0⟩
theorem new_eq : payment_New = some new0 := rfl
theorem new_ok : OkR new0 := ⟨⟨by simp [new0], by simp [new0], by simp [new0]⟩, by simp [new0], by simp [new0], by simp [new0], by simp [new0, mget], by simp [new0], by simp [new0]⟩
theorem awake_true : recyclinglaw56_awake = some true := by decide +kernel
def bal (r : R) : Int := r.credit - sumO r.f_open
theorem charge_bal (r : R) (b a d : Int) : bal (chargeR r b a d).2 = (if (chargeR r b a d).1 = 0 then bal r - a else bal r) ∧ ((chargeR r b a d).1 = 0 → 0 ≤ a ∧ a ≤ 1000000000000) := by
  unfold chargeR
  split
  · simp
  · split
    · simp
    · split
      · simp
      · rename_i hb _ _
        have hb' : 1 ≤ b ∧ b ≤ 1000000 ∧ 1 ≤ a ∧ a ≤ 1000000000000 ∧ 0 ≤ d ∧ d ≤ 3155759999 := by simp [badC] at hb; omega
        simp [bal, sum_insL]
        omega
theorem pay_bal {r : R} (h : OkR r) (a t : Int) : bal (payR r a t).2.2 = (if (payR r a t).2.1 = 0 then bal r + a else bal r) ∧ ((payR r a t).2.1 = 0 → 0 ≤ a ∧ a ≤ 1000000000000) := by
  have c0 := h.c0
  unfold payR
  split
  · simp
  · split
    · simp
    · split
      · simp
      · rename_i hb _ _
        have hb' : 0 ≤ a ∧ a ≤ 1000000000000 ∧ 0 ≤ t ∧ t ≤ 3155759999 := by simp [badP] at hb; omega
        obtain ⟨_, h2, h3⟩ := pay_sums r.f_open (r.credit + a) h.list.ok (by omega)
        simp only [bal, h2, h3, if_true]
        omega
abbrev Ac := T_recyclinglaw56_Act
def stepR (s : R × Int × Int) (x : Ac) : R × Int × Int :=
  if x.Kind = 0 then ((chargeR s.1 x.Bill x.Amount x.At).2, (if (chargeR s.1 x.Bill x.Amount x.At).1 = 0 then s.2.1 + x.Amount else s.2.1), s.2.2)
  else ((payR s.1 x.Amount x.At).2.2, s.2.1, (if (payR s.1 x.Amount x.At).2.1 = 0 then s.2.2 + x.Amount else s.2.2))
structure InvR (b0 : Int) (s : R × Int × Int) (k : Nat) : Prop where
  ok : OkR s.1
  b : bal s.1 = b0 + s.2.2 - s.2.1
  c0 : 0 ≤ s.2.1
  c1 : s.2.1 ≤ 1000000000000 * k
  p0 : 0 ≤ s.2.2
  p1 : s.2.2 ≤ 1000000000000 * k
theorem InvR.step {b0 : Int} {s : R × Int × Int} {k : Nat} (h : InvR b0 s k) (x : Ac) : InvR b0 (stepR s x) (k + 1) := by
  have hb := h.b; have := h.c0; have := h.c1; have := h.p0; have := h.p1
  unfold stepR
  split
  · obtain ⟨h1, h2⟩ := charge_bal s.1 x.Bill x.Amount x.At
    by_cases hc : (chargeR s.1 x.Bill x.Amount x.At).1 = 0
    · have := h2 hc
      simp only [hc, if_true] at h1 ⊢
      exact ⟨charge_ok h.ok _ _ _, by simp only; omega, by simp only; omega, by simp only; omega, by simp only; omega, by simp only; omega⟩
    · simp only [hc, if_false] at h1 ⊢
      exact ⟨charge_ok h.ok _ _ _, by simp only; omega, by simp only; omega, by simp only; omega, by simp only; omega, by simp only; omega⟩
  · obtain ⟨h1, h2⟩ := pay_bal h.ok x.Amount x.At
    by_cases hc : (payR s.1 x.Amount x.At).2.1 = 0
    · have := h2 hc
      simp only [hc, if_true] at h1 ⊢
      exact ⟨pay_ok h.ok _ _, by simp only; omega, by simp only; omega, by simp only; omega, by simp only; omega, by simp only; omega⟩
    · simp only [hc, if_false] at h1 ⊢
      exact ⟨pay_ok h.ok _ _, by simp only; omega, by simp only; omega, by simp only; omega, by simp only; omega, by simp only; omega⟩
theorem InvR.fold {b0 : Int} : ∀ (l : List Ac) {s : R × Int × Int} {k : Nat}, InvR b0 s k → InvR b0 (l.foldl stepR s) (k + l.length)
  | [], s, k, h => h
  | x :: l, s, k, h => by
    have := InvR.fold l (h.step x)
    rw [List.length_cons, show k + (l.length + 1) = k + 1 + l.length by omega]
    exact this
theorem each_inl {α σ : Type} (st : σ → α → σ) : ∀ (l : List α) (s : σ), each (fun s x => (.inl (st s x) : σ ⊕ σ)) id l s = l.foldl st s
  | [], s => rfl
  | x :: l, s => by simp only [each, List.foldl_cons]; exact each_inl st l _
theorem run_eq (l : List Ac) (hl : l.length ≤ 100) : ∃ c p q, recyclinglaw56_run new0 l = some (c, p, q) ∧ OkR q ∧ bal q = p - c ∧ 0 ≤ c ∧ c ≤ 100000000000000 ∧ 0 ≤ p ∧ p ≤ 100000000000000 := by
  have h0 : InvR 0 (new0, 0, 0) 0 := ⟨new_ok, by simp [new0, bal], by simp, by simp, by simp, by simp⟩
  have hf := h0.fold l
  obtain ⟨s, hs⟩ : ∃ s, l.foldl stepR (new0, 0, 0) = s := ⟨_, rfl⟩
  rw [hs] at hf
  have := hf.b; have := hf.c1; have := hf.p1
  refine ⟨s.2.1, s.2.2, s.1, ?_, hf.ok, by omega, hf.c0, by omega, hf.p0, by omega⟩
  unfold recyclinglaw56_run
  have := iter_each l (fun (s : R × Int × Int) k => (s.1, s.2.1, s.2.2, k)) (body := recyclinglaw56_run_l1 l) (ρ := Int × Int × R) (fun s x => .inl (stepR s x)) (fun s => (s.2.1, s.2.2, s.1)) (InvR 0) (by omega) (fun k x s hx hI => ?_) (fun s hI => by simp [recyclinglaw56_run_l1, oun]) (((l.length : Nat) : Int).toNat + 1) (new0, 0, 0) h0 (by simp)
  · have he : ∀ (l : List Ac) (s : R × Int × Int), each (fun s x => (.inl (stepR s x) : (R × Int × Int) ⊕ (Int × Int × R))) (fun s => (s.2.1, s.2.2, s.1)) l s = ((l.foldl stepR s).2.1, (l.foldl stepR s).2.2, (l.foldl stepR s).1) := by
      intro l
      induction l with
      | nil => intro s; rfl
      | cons x l ih => intro s; simp only [each, List.foldl_cons, ih]
    rw [this, he, hs, Option.bind_some]
    rfl
  · have hk := lt_of_get hx
    have hk2 : ((k : Int) < (l.length : Nat)) := by omega
    refine ⟨?_, fun s' hs => by injection hs with hs; subst hs; exact hI.step x⟩
    have i0 := hI.c0; have i1 := hI.c1; have i2 := hI.p0; have i3 := hI.p1
    simp only [recyclinglaw56_run_l1, oun, hk2, decide_true, cond_true, getI_nat, hx, Option.bind_some, mapL_inl, stepR]
    by_cases hz : x.Kind = 0
    · obtain ⟨_, h2⟩ := charge_bal s.1 x.Bill x.Amount x.At
      simp only [hz, decide_true, cond_true, if_true, charge_eq hI.ok, Option.bind_some]
      by_cases hc : (chargeR s.1 x.Bill x.Amount x.At).1 = 0
      · have := h2 hc
        simp only [hc, decide_true, cond_true, if_true, Option.bind_some]
        rw [w64_eq (n := s.2.1 + x.Amount) (by omega) (by omega)]
      · simp only [hc, decide_false, cond_false, if_false, Option.bind_some]
    · obtain ⟨_, h2⟩ := pay_bal hI.ok x.Amount x.At
      simp only [hz, decide_false, cond_false, if_false, pay_eq hI.ok, Option.bind_some]
      by_cases hc : (payR s.1 x.Amount x.At).2.1 = 0
      · have := h2 hc
        simp only [hc, decide_true, cond_true, if_true, Option.bind_some]
        rw [w64_eq (n := s.2.2 + x.Amount) (by omega) (by omega)]
      · simp only [hc, decide_false, cond_false, if_false, Option.bind_some]
/-- What a payment did, when it was taken. -/
theorem pay_taken {r : R} {a t : Int} (h : (payR r a t).2.1 = 0) : 0 ≤ a ∧ a ≤ 1000000000000 ∧ payR r a t = (usedL r.f_open (r.credit + a), 0, ⟨restL r.f_open (r.credit + a), r.known, leftL r.f_open (r.credit + a), t⟩) := by
  unfold payR at h ⊢
  split at h
  · simp at h
  · split at h
    · simp at h
    · split at h
      · simp at h
      · rename_i hb h1 h2
        have hb' : 0 ≤ a ∧ a ≤ 1000000000000 ∧ 0 ≤ t ∧ t ≤ 3155759999 := by simp [badP] at hb; omega
        rw [if_neg hb, if_neg h1, if_neg h2]
        exact ⟨hb'.1, hb'.2.1, rfl⟩
theorem pay_not {r : R} {a t : Int} (h : (payR r a t).2.1 ≠ 0) : ∃ e, payR r a t = ([], e, r) := by
  unfold payR at h ⊢
  split at h
  · rw [if_pos (by assumption)]; exact ⟨_, rfl⟩
  · rw [if_neg (by assumption)]
    split at h
    · rw [if_pos (by assumption)]; exact ⟨_, rfl⟩
    · rw [if_neg (by assumption)]
      split at h
      · rw [if_pos (by assumption)]; exact ⟨_, rfl⟩
      · simp at h

theorem recyclinglaw56_PaymentBalance_true (l : List Ac) (t : Int) (_ : ∀ x ∈ l, wf_recyclinglaw56_Act x) (_ : wfI .i64 t) : recyclinglaw56_PaymentBalance l t = some true := by
  unfold recyclinglaw56_PaymentBalance
  rw [new_eq, Option.bind_some]
  by_cases hl : (100 : Int) < (l.length : Nat)
  · simp [hl, awake_true]
  · obtain ⟨c, p, q, hr, ok, hb, k1, k2, k3, k4⟩ := run_eq l (by omega)
    have hS := ok.list.sum; have c0 := ok.c0; have c1 := ok.c1
    simp only [hl, decide_false, cond_false, Option.bind_some, hr, oun, open_eq ok, sum_open ok.list, balance_eq ok, Bool.not_true]
    rw [w64_eq (n := p - c) (by omega) (by omega), w64_eq (n := 0 - sumO q.f_open) (by omega) (by omega)]
    unfold bal at hb
    simp only [hb, decide_true, Bool.not_true, cond_false, show ¬ p - c < 0 - sumO q.f_open by omega, decide_false, Option.bind_some, pay_eq ok]
    have ok2 := pay_ok ok 0 t
    by_cases hc : (payR q 0 t).2.1 = 0
    · obtain ⟨_, _, e⟩ := pay_taken hc
      rw [e] at ok2 ⊢
      simp only [Int.add_zero] at ok2 ⊢
      obtain ⟨_, s2, s3⟩ := pay_sums q.f_open q.credit ok.list.ok ok.c0
      simp only [decide_true, Bool.not_true, cond_false, open_eq ok2, Option.bind_some, sum_open ok2.list, balance_eq ok2, cond_true]
      simp only [s2, s3]
      rw [w64_eq (n := 0 - (p - c)) (by omega) (by omega)]
      rw [show q.credit - min (sumO q.f_open) q.credit - (sumO q.f_open - min (sumO q.f_open) q.credit) = p - c by omega, show sumO q.f_open - min (sumO q.f_open) q.credit = max (0 - (p - c)) 0 by omega]
      simp only [decide_true, cond_true, awake_true, Option.bind_some]
    · simp [hc, awake_true]

theorem used_get : ∀ (l : List O) (f : Int) (k : Nat) (x : O), (usedL l f)[k]? = some x → ∃ y, l[k]? = some y ∧ x.Bill = y.Bill ∧ x.Due = y.Due ∧ x.Rest ≤ y.Rest ∧ (k + 1 < (usedL l f).length → x.Rest = y.Rest)
  | [], f, k, x, h => by simp [usedL] at h
  | z :: l, f, k, x, h => by
    rw [usedL] at h ⊢
    split at h
    · rename_i hz
      cases k with
      | zero => simp at h; subst h; exact ⟨z, by simp, rfl, rfl, Int.le_refl _, fun _ => rfl⟩
      | succ k =>
        obtain ⟨y, h1, h2, h3, h4, h5⟩ := used_get l _ k x (by simpa using h)
        refine ⟨y, by simpa using h1, h2, h3, h4, fun h => h5 ?_⟩
        simp only [hz, if_true, List.length_cons] at h
        omega
    · rename_i hz
      split at h
      · cases k with
        | zero => simp at h; subst h; exact ⟨z, by simp, rfl, rfl, by simp only; omega, fun h => by simp [hz] at h; split at h <;> simp at h⟩
        | succ k => simp at h
      · simp at h
theorem recyclinglaw56_PaymentUses_true (l : List Ac) (a t : Int) (_ : ∀ x ∈ l, wf_recyclinglaw56_Act x) (_ : wfI .i64 a) (_ : wfI .i64 t) : recyclinglaw56_PaymentUses l a t = some true := by
  unfold recyclinglaw56_PaymentUses
  rw [new_eq, Option.bind_some]
  by_cases hl : (100 : Int) < (l.length : Nat)
  · simp [hl, awake_true]
  · obtain ⟨c, p, q, hr, ok, hb, k1, k2, k3, k4⟩ := run_eq l (by omega)
    have hS := ok.list.sum; have c0 := ok.c0; have c1 := ok.c1; have hlen := ok.list.len
    have ok2 := pay_ok ok a t
    simp only [hl, decide_false, cond_false, Option.bind_some, hr, oun, open_eq ok, sum_open ok.list, balance_eq ok, Bool.not_true, pay_eq ok, open_eq ok2]
    by_cases hc : (payR q a t).2.1 = 0
    · obtain ⟨ha, ha2, e⟩ := pay_taken hc
      rw [e] at ok2 ⊢
      have hu := used_ok ok.list (q.credit + a)
      have hul := used_len q.f_open (q.credit + a)
      obtain ⟨s1, s2, s3⟩ := pay_sums q.f_open (q.credit + a) ok.list.ok (by omega)
      rw [w64_eq (n := q.credit - sumO q.f_open + sumO q.f_open) (by omega) (by omega), w64_eq (n := q.credit - sumO q.f_open + sumO q.f_open + a) (by omega) (by omega)]
      simp only [decide_true, Bool.not_true, cond_false, sum_open hu, Option.bind_some, show ¬ a < 0 by omega, decide_false, show ¬ ((q.f_open.length : Nat) : Int) < ((usedL q.f_open (q.credit + a)).length : Nat) by omega, s1, show q.credit - sumO q.f_open + sumO q.f_open + a = q.credit + a by omega]
      have := iter_first (usedL q.f_open (q.credit + a)) (body := recyclinglaw56_PaymentUses_l1 q.f_open (usedL q.f_open (q.credit + a))) (fun _ => none) (.inl () : Unit ⊕ Bool) (by omega) (fun k x hx => ?_) (by simp [recyclinglaw56_PaymentUses_l1]) ((((usedL q.f_open (q.credit + a)).length : Nat) : Int).toNat + 1) (by simp)
      · rw [this]
        have hn : ∀ (l : List O), first (fun _ => none) (.inl () : Unit ⊕ Bool) l = .inl () := by
          intro l; induction l with
          | nil => rfl
          | cons x l ih => simp only [first, ih]
        simp [hn, osum, awake_true]
      · have hk := lt_of_get hx
        obtain ⟨y, h1, h2, h3, h4, h5⟩ := used_get _ _ k x hx
        have hk2 : ((k : Int) < ((usedL q.f_open (q.credit + a)).length : Nat)) := by omega
        simp only [recyclinglaw56_PaymentUses_l1, hk2, decide_true, cond_true, getI_nat, hx, h1, Option.bind_some, h2, h3, Bool.not_true, cond_false, show ¬ y.Rest < x.Rest by omega, decide_false, pickO_none]
        rw [w64_eq (n := (((usedL q.f_open (q.credit + a)).length : Nat) : Int) - 1) (by omega) (by omega)]
        by_cases hlast : (k : Int) < (((usedL q.f_open (q.credit + a)).length : Nat) : Int) - 1
        · simp [hlast, h5 (by omega)]
        · simp [hlast]
    · obtain ⟨e, he⟩ := pay_not hc
      rw [he] at hc ⊢
      simp only at hc
      simp [hc, Same_eq q.f_open q.f_open (by omega), balance_eq ok, awake_true]

theorem pay_two : ∀ (l : List O) (f b : Int), (∀ x ∈ l, OkO x) → 0 ≤ f → 0 ≤ b → restL (restL l f) (leftL l f + b) = restL l (f + b) ∧ leftL (restL l f) (leftL l f + b) = leftL l (f + b)
  | [], f, b, _, hf, hb => by simp [restL, leftL]
  | x :: l, f, b, h, hf, hb => by
    have hl : ∀ y ∈ l, OkO y := fun y hy => h y (by simp [hy])
    have hx := (h x (by simp)).r0
    by_cases hr : x.Rest ≤ f
    · have := pay_two l (f - x.Rest) b hl (by omega) hb
      rw [show f - x.Rest + b = f + b - x.Rest by omega] at this
      simp only [restL, leftL, hr, if_true, show x.Rest ≤ f + b by omega, this, and_self]
    · simp only [restL, leftL, hr, if_false, Int.zero_add]
      by_cases h2 : x.Rest ≤ f + b
      · simp only [h2, if_true, show x.Rest - f ≤ b by omega, show b - (x.Rest - f) = f + b - x.Rest by omega, and_self]
      · simp only [h2, if_false, show ¬ x.Rest - f ≤ b by omega, and_true]
        rw [show x.Rest - f - b = x.Rest - (f + b) by omega]
theorem recyclinglaw56_PaymentTwo_true (l : List Ac) (a b t : Int) (_ : ∀ x ∈ l, wf_recyclinglaw56_Act x) (ha : wfI .u32 a) (hb : wfI .u32 b) (_ : wfI .i64 t) : recyclinglaw56_PaymentTwo l a b t = some true := by
  have ha' : 0 ≤ a ∧ a ≤ 4294967295 := by simpa [wfI, Lit.wf, IntKind.min, IntKind.max, IntKind.bits, IntKind.signed] using ha
  have hb' : 0 ≤ b ∧ b ≤ 4294967295 := by simpa [wfI, Lit.wf, IntKind.min, IntKind.max, IntKind.bits, IntKind.signed] using hb
  unfold recyclinglaw56_PaymentTwo
  rw [new_eq, Option.bind_some, Option.bind_some]
  by_cases hl : (100 : Int) < (l.length : Nat)
  · simp [hl, awake_true]
  · obtain ⟨c, p, q, hr, ok, hb, k1, k2, k3, k4⟩ := run_eq l (by omega)
    have hS := ok.list.sum; have c0 := ok.c0; have c1 := ok.c1; have hlen := ok.list.len
    have ok2 := pay_ok ok a t
    have ok3 := pay_ok ok2 b t
    have ok4 := pay_ok ok (a + b) t
    simp only [hl, decide_false, cond_false, Option.bind_some, hr, oun, w64_eq (n := a) (by omega) (by omega), w64_eq (n := b) (by omega) (by omega), w64_eq (n := a + b) (by omega) (by omega), pay_eq ok, pay_eq ok2]
    by_cases h1 : (payR q a t).2.1 = 0
    · by_cases h2 : (payR (payR q a t).2.2 b t).2.1 = 0
      · by_cases h3 : (payR q (a + b) t).2.1 = 0
        · obtain ⟨_, _, e1⟩ := pay_taken h1
          obtain ⟨_, _, e2⟩ := pay_taken h2
          obtain ⟨_, _, e3⟩ := pay_taken h3
          obtain ⟨w1, w2⟩ := pay_two q.f_open (q.credit + a) b ok.list.ok (by omega) (by omega)
          have e : (payR (payR q a t).2.2 b t).2.2 = (payR q (a + b) t).2.2 := by
            rw [e2, e3, e1]
            simp only [w1, w2, Int.add_assoc]
          simp only [h1, h2, h3, decide_true, Bool.not_true, cond_false, Option.bind_some, e, open_eq ok4, Same_eq _ _ (show (payR q (a + b) t).2.2.f_open.length ≤ 1000000 by have := ok4.list.len; omega), cond_true, balance_eq ok4, awake_true]
        · simp [h1, h2, h3, awake_true]
      · simp [h1, h2, awake_true]
    · simp [h1, awake_true]

end Go.Proofs.Yticcfpmehjcjcaa
