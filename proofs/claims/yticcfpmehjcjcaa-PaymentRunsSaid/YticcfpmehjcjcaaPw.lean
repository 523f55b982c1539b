/- payment: what any calls return: payments, late bills, and the law. -/
import Derived.Test.YticcfpmehjcjcaaPz
namespace Go.Proofs.Yticcfpmehjcjcaa
set_option linter.unusedSimpArgs false
set_option linter.unusedVariables false

theorem len_app1 {α : Type} (p : Prop) [Decidable p] (s : List α) (y : α) : (if p then s ++ [y] else s).length ≤ s.length + 1 := by split <;> simp
/-! a payment of the reference -/
def payW : List O → Int → List O
  | [], _ => []
  | x :: l, c => (if 0 < min x.Rest c then ⟨x.Bill, x.Due, x.Rest - min x.Rest c⟩ else x) :: payW l (if 0 < min x.Rest c then c - min x.Rest c else c)
def usedW : List O → Int → List O
  | [], _ => []
  | x :: l, c => if 0 < min x.Rest c then ⟨x.Bill, x.Due, min x.Rest c⟩ :: usedW l (c - min x.Rest c) else usedW l c
def leftW : List O → Int → Int
  | [], c => c
  | x :: l, c => leftW l (if 0 < min x.Rest c then c - min x.Rest c else c)
theorem pos_iff {x : O} : pos x = true ↔ 0 < x.Rest := by simp [pos]
theorem payW_spec : ∀ (l : List O) (c : Int), (∀ x ∈ l, OkB x) → 0 ≤ c →
    usedW l c = usedL (l.filter pos) c ∧ leftW l c = leftL (l.filter pos) c ∧ (payW l c).filter pos = restL (l.filter pos) c
  | [], c, _, _ => by simp [usedW, leftW, payW, usedL, leftL, restL]
  | x :: l, c, h, hc => by
    have hl : ∀ y ∈ l, OkB y := fun y hy => h y (by simp [hy])
    have hr0 := (h x (by simp)).r0
    by_cases hp : 0 < x.Rest
    · rw [List.filter_cons_of_pos (pos_iff.2 hp)]
      by_cases hle : x.Rest ≤ c
      · obtain ⟨h1, h2, h3⟩ := payW_spec l (c - x.Rest) hl (by omega)
        have hm : min x.Rest c = x.Rest := by omega
        simp only [usedW, leftW, payW, usedL, leftL, restL, hm, hp, hle, if_true, h1, h2, true_and]
        rw [List.filter_cons_of_neg (by simp [pos]), h3]
      · have hm : min x.Rest c = c := by omega
        have hf : ∀ y ∈ l.filter pos, 1 ≤ y.Rest := fun y hy => by have := pos_iff.1 (List.mem_filter.1 hy).2; omega
        have hz : ∀ (l : List O), (∀ x ∈ l, OkB x) → usedW l 0 = [] ∧ leftW l 0 = 0 ∧ payW l 0 = l := by
          intro l
          induction l with
          | nil => intro _; exact ⟨rfl, rfl, rfl⟩
          | cons y l ih =>
            intro hy
            obtain ⟨i1, i2, i3⟩ := ih fun z hz => hy z (by simp [hz])
            have hy0 := (hy y (by simp)).r0
            have : ¬ 0 < min y.Rest 0 := by omega
            simp only [usedW, leftW, payW, this, if_false, i1, i2, i3, and_self]
        obtain ⟨z1, z2, z3⟩ := hz l hl
        by_cases h0 : 0 < c
        · simp only [usedW, leftW, payW, usedL, leftL, restL, hm, h0, hle, if_true, if_false, Int.sub_self, z1, z2, z3, true_and]
          rw [List.filter_cons_of_pos (pos_iff.2 (by simp only; omega))]
        · obtain rfl : c = 0 := by omega
          simp only [usedW, leftW, payW, usedL, leftL, restL, hm, h0, hle, if_true, if_false, z1, z2, z3, true_and]
          rw [List.filter_cons_of_pos (pos_iff.2 hp)]
          simp
    · obtain ⟨h1, h2, h3⟩ := payW_spec l c hl hc
      have hm : ¬ 0 < min x.Rest c := by omega
      have hn : ¬ pos x = true := fun e => hp (pos_iff.1 e)
      rw [List.filter_cons_of_neg hn]
      simp only [usedW, leftW, payW, hm, if_false, h1, h2, true_and]
      rw [List.filter_cons_of_neg hn, h3]
theorem length_payW : ∀ (l : List O) (c : Int), (payW l c).length = l.length
  | [], _ => rfl
  | x :: l, c => by simp only [payW, List.length_cons, length_payW l]
theorem payW_same : ∀ (l : List O) (c : Int), (payW l c).map (fun x => (x.Bill, x.Due)) = l.map (fun x => (x.Bill, x.Due))
  | [], _ => rfl
  | x :: l, c => by
    simp only [payW, List.map_cons, payW_same l]
    congr 1
    split <;> rfl
theorem payW_ok : ∀ (l : List O) (c : Int), 0 ≤ c → (∀ x ∈ l, OkB x) → ∀ y ∈ payW l c, OkB y
  | [], _, _, _ => by simp [payW]
  | x :: l, c, hc, h => by
    intro y hy
    rw [payW] at hy
    have hx := h x (by simp)
    rcases List.mem_cons.1 hy with rfl | hy
    · split
      · have := hx.r0; have := hx.r1
        exact ⟨hx.b0, hx.b1, hx.d0, hx.d1, by simp only; omega, by simp only; omega⟩
      · exact hx
    · refine payW_ok l _ ?_ (fun z hz => h z (by simp [hz])) y hy
      split <;> omega
theorem pairwise_map_iff {l : List O} : l.Pairwise ltO ↔ (l.map (fun x => (x.Bill, x.Due))).Pairwise (fun a b => a.2 < b.2 ∨ a.2 = b.2 ∧ a.1 < b.1) := by
  rw [List.pairwise_map]
  exact Iff.rfl
theorem payW_sorted {l : List O} (c : Int) (h : l.Pairwise ltO) : (payW l c).Pairwise ltO := by
  rw [pairwise_map_iff, payW_same]
  exact pairwise_map_iff.1 h
def stepW (s : List O × Int × List O) (x : O) : List O × Int × List O :=
  if 0 < min x.Rest s.2.1 then (s.1 ++ [⟨x.Bill, x.Due, x.Rest - min x.Rest s.2.1⟩], s.2.1 - min x.Rest s.2.1, s.2.2 ++ [⟨x.Bill, x.Due, min x.Rest s.2.1⟩]) else (s.1 ++ [x], s.2.1, s.2.2)
theorem fold_payW : ∀ (l : List O) (a : List O) (c : Int) (u : List O), l.foldl stepW (a, c, u) = (a ++ payW l c, leftW l c, u ++ usedW l c)
  | [], a, c, u => by simp [payW, leftW, usedW]
  | x :: l, a, c, u => by
    rw [List.foldl_cons]
    by_cases h : 0 < min x.Rest c
    · simp only [stepW, h, if_true, fold_payW l, payW, leftW, usedW, List.append_assoc, List.singleton_append]
    · simp only [stepW, h, if_false, fold_payW l, payW, leftW, usedW, List.append_assoc, List.singleton_append]
theorem getI_mid {α : Type} (a : List α) (x : α) (b : List α) {k : Nat} (hk : a.length = k) : getI (a ++ x :: b) (k : Int) = some x := by rw [getI_nat, ← hk]; simp
theorem setI_mid {α : Type} (a : List α) (x y : α) (b : List α) {k : Nat} (hk : a.length = k) : setI (a ++ x :: b) (k : Int) y = a ++ y :: b := by
  unfold setI
  rw [show ((k : Int)).toNat = k by omega, ← hk]
  simp
theorem payW_loop {w : RW} (hb : ∀ x ∈ w.Bills, OkB x) (hl : w.Bills.length ≤ 1000) {c : Int} (hc : 0 ≤ c) (hc2 : c ≤ 1000000000000) :
    iter (recyclingref56_Register_Pay_l1 w) (((w.Bills.length : Nat) : Int).toNat + 1) (w.Bills, c, [], 0) = some (payW w.Bills c, leftW w.Bills c, usedW w.Bills c) := by
  have := iter_each w.Bills (fun (s : List O × Int × List O) k => (s.1 ++ w.Bills.drop k.toNat, s.2.1, s.2.2, k)) (body := recyclingref56_Register_Pay_l1 w) (fun s x => (.inl (stepW s x) : (List O × Int × List O) ⊕ (List O × Int × List O))) id (fun s k => s.1.length = k ∧ 0 ≤ s.2.1 ∧ s.2.1 ≤ 1000000000000 ∧ s.2.2.length ≤ k) (by omega) (fun k x s hx hI => ?_) (fun s hI => ?_) (((w.Bills.length : Nat) : Int).toNat + 1) ([], c, []) ⟨rfl, hc, hc2, Nat.le_refl _⟩ (by simp)
  · have e := fold_payW w.Bills [] c []
    rw [each_inl, e] at this
    simpa using this
  · obtain ⟨a, c, u⟩ := s
    obtain ⟨h1, h2, h3, h4⟩ := hI
    simp only at h1 h2 h3 h4
    have hk := lt_of_get hx
    have hx1 := hb x (List.mem_of_getElem? hx)
    have hr0 := hx1.r0; have hr1 := hx1.r1
    have hk2 : ((k : Int) < (w.Bills.length : Nat)) := by omega
    have hd : w.Bills.drop k = x :: w.Bills.drop (k + 1) := by
      rw [List.drop_eq_getElem_cons hk]
      congr 1
      rw [List.getElem?_eq_getElem hk] at hx
      injection hx
    refine ⟨?_, ?_⟩
    · simp only [recyclingref56_Register_Pay_l1, oun, hk2, decide_true, cond_true, mapL_inl, stepW, show ((k : Int)).toNat = k by omega, hd, getI_mid a x _ h1, Option.bind_some, w64_nat (show k < 9223372036854775807 by omega)]
      rw [show (((k + 1 : Nat) : Int)).toNat = k + 1 by omega]
      by_cases g : 0 < min x.Rest c
      · simp only [g, decide_true, cond_true, if_true]
        rw [appO_eq (by simp; omega), w64_eq (n := x.Rest - min x.Rest c) (by omega) (by omega), w64_eq (n := c - min x.Rest c) (by omega) (by omega)]
        simp only [Option.bind_some, setI_mid a x _ _ h1, List.append_assoc, List.singleton_append]
      · simp only [g, decide_false, cond_false, if_false, Option.bind_some, List.append_assoc, List.singleton_append]
    · intro s' hs
      injection hs with hs
      subst hs
      unfold stepW
      split
      · exact ⟨by simp [h1], by simp only; omega, by simp only; omega, by simp; omega⟩
      · exact ⟨by simp [h1], by simp only; omega, by simp only; omega, by simp only; omega⟩
  · obtain ⟨a, c, u⟩ := s
    simp [recyclingref56_Register_Pay_l1, oun]
theorem pay_rel {r : R} {w : RW} (h : Rel r w) (a t : Int) : ∃ w', recyclingref56_Register_Pay w a t = some ((payR r a t).1, (payR r a t).2.1, w') ∧ Rel (payR r a t).2.2 w' := by
  have hlen := h.lenW
  have e : (bif (decide (a < 0)) then some true else bif (decide (1000000000000 < a)) then some true else Option.bind (recyclingref56_moment t) fun r2 => some (!r2)) = some (badP a t) := by
    unfold badP
    rw [moment_eq]
    by_cases h1 : a < 0 <;> by_cases h2 : 1000000000000 < a <;> simp [h1, h2]
    by_cases h3 : t < 0 <;> by_cases h4 : 3155759999 < t <;> simp [h3, h4] <;> omega
  have hok := pay_ok h.ok a t
  have c0 := h.ok.c0; have c1 := h.ok.c1
  unfold recyclingref56_Register_Pay
  rw [e, Option.bind_some]
  unfold payR at hok ⊢
  cases hb : badP a t with
  | true => simp only [if_true, cond_true]; exact ⟨w, rfl, h⟩
  | false =>
    rw [hb] at hok
    have hb' : 0 ≤ a ∧ a ≤ 1000000000000 ∧ 0 ≤ t ∧ t ≤ 3155759999 := by simp [badP] at hb; omega
    simp only [Bool.false_eq_true, if_false, cond_false] at hok ⊢
    rw [← h.last]
    by_cases h1 : t < r.last
    · simp only [h1, decide_true, cond_true, if_true]; exact ⟨w, rfl, h⟩
    · rw [if_neg h1] at hok ⊢
      simp only [h1, decide_false, cond_false]
      rw [← h.credit, w64_eq (n := a + r.credit) (by omega) (by omega)]
      by_cases h2 : 1000000000000 < a + r.credit
      · simp only [h2, decide_true, cond_true, if_true]; exact ⟨w, rfl, h⟩
      · rw [if_neg h2] at hok ⊢
        have hc : a + r.credit = r.credit + a := by omega
        obtain ⟨p1, p2, p3⟩ := payW_spec w.Bills (r.credit + a) h.okb (by omega)
        simp only [h2, decide_false, cond_false, payW_loop h.okb (show w.Bills.length ≤ 1000 by omega) (show 0 ≤ a + r.credit by omega) (by omega), Option.bind_some, oun]
        rw [hc, p1, p2, ← h.op]
        refine ⟨_, rfl, hok, payW_sorted _ h.sorted, payW_ok _ _ (by omega) h.okb, ?_, rfl, rfl, ?_, fun b => ?_⟩
        · simp only; rw [p3, ← h.op]
        · simp only; rw [length_payW]; exact h.len
        · simp only
          rw [h.kn b]
          have hm : (payW w.Bills (r.credit + a)).map T_api_Open.Bill = w.Bills.map T_api_Open.Bill := by
            have := congrArg (List.map Prod.fst) (payW_same w.Bills (r.credit + a))
            simpa [List.map_map, Function.comp_def] using this
          constructor
          · rintro ⟨x, hx, e⟩
            have : b ∈ w.Bills.map T_api_Open.Bill := List.mem_map.2 ⟨x, hx, e⟩
            rw [← hm] at this
            exact List.mem_map.1 this
          · rintro ⟨x, hx, e⟩
            have : b ∈ (payW w.Bills (r.credit + a)).map T_api_Open.Bill := List.mem_map.2 ⟨x, hx, e⟩
            rw [hm] at this
            exact List.mem_map.1 this

/-! what is open, and the balance -/
theorem openW {r : R} {w : RW} (h : Rel r w) : recyclingref56_Register_Open w = some (r.f_open, w) := by
  have hlen := h.lenW
  unfold recyclingref56_Register_Open
  have := iter_each w.Bills (fun (s : List O) k => (s, k)) (body := recyclingref56_Register_Open_l1 w) (fun s x => (.inl (if pos x = true then s ++ [x] else s) : List O ⊕ List O)) id (fun s k => s.length ≤ k) (by omega) (fun k x s hx hI => ?_) (fun s hI => by simp [recyclingref56_Register_Open_l1, oun]) (((w.Bills.length : Nat) : Int).toNat + 1) [] (by simp) (by simp)
  · rw [this, each_inl, Option.bind_some]
    have hf : ∀ (l : List O) (s : List O), l.foldl (fun s x => if pos x = true then s ++ [x] else s) s = s ++ l.filter pos := by
      intro l
      induction l with
      | nil => intro s; simp
      | cons x l ih => intro s; rw [List.foldl_cons, ih]; by_cases hp : pos x = true <;> simp [hp]
    rw [hf, h.op]
    rfl
  · have hk := lt_of_get hx
    have hk2 : ((k : Int) < (w.Bills.length : Nat)) := by omega
    refine ⟨?_, fun s' hs => by injection hs with hs; subst hs; exact Nat.le_trans (len_app1 _ _ _) (by omega)⟩
    simp only [recyclingref56_Register_Open_l1, oun, hk2, decide_true, cond_true, getI_nat, hx, Option.bind_some, mapL_inl]
    rw [appO_eq (by simp; omega)]
    by_cases hp : 0 < x.Rest
    · have hp' : pos x = true := pos_iff.2 hp
      simp only [hp, hp', decide_true, cond_true, Option.bind_some, if_true]
    · have hp' : ¬ pos x = true := fun e => hp (pos_iff.1 e)
      simp only [hp, hp', decide_false, cond_false, Option.bind_some, if_false, Bool.false_eq_true]
theorem sum_pos : ∀ (l : List O), (∀ x ∈ l, OkB x) → sumO (l.filter pos) = sumO l
  | [], _ => rfl
  | x :: l, h => by
    have ih := sum_pos l fun y hy => h y (by simp [hy])
    have := (h x (by simp)).r0
    by_cases hp : pos x = true
    · rw [List.filter_cons_of_pos hp]; simp only [sumO_cons, ih]
    · have : ¬ 0 < x.Rest := fun e => hp (pos_iff.2 e)
      rw [List.filter_cons_of_neg hp]; simp only [sumO_cons, ih]; omega
theorem balanceW {r : R} {w : RW} (h : Rel r w) : recyclingref56_Register_Balance w = some (r.credit - sumO r.f_open, w) := by
  have hlen := h.lenW; have c0 := h.ok.c0; have c1 := h.ok.c1
  unfold recyclingref56_Register_Balance
  rw [← h.credit]
  have := iter_each w.Bills (fun (s : Int) k => (s, k)) (body := recyclingref56_Register_Balance_l1 w) (fun s x => (.inl (s - x.Rest) : Int ⊕ Int)) id (fun s k => -1000000000000 * k ≤ s ∧ s ≤ 1000000000000) (by omega) (fun k x s hx hI => ?_) (fun s hI => by simp [recyclingref56_Register_Balance_l1, oun]) (((w.Bills.length : Nat) : Int).toNat + 1) r.credit ⟨by omega, by omega⟩ (by simp)
  · rw [this, Option.bind_some]
    have hs : ∀ (l : List O) (s : Int), each (fun s x => (.inl (s - x.Rest) : Int ⊕ Int)) id l s = s - sumO l := by
      intro l
      induction l with
      | nil => intro s; simp [each]
      | cons x l ih => intro s; simp only [each, ih, sumO_cons]; omega
    rw [hs, h.op, sum_pos _ h.okb]
  · have hk := lt_of_get hx
    have hx1 := h.okb x (List.mem_of_getElem? hx)
    have hr0 := hx1.r0; have hr1 := hx1.r1
    have hk2 : ((k : Int) < (w.Bills.length : Nat)) := by omega
    refine ⟨?_, ?_⟩
    · simp only [recyclingref56_Register_Balance_l1, oun, hk2, decide_true, cond_true, getI_nat, hx, Option.bind_some, mapL_inl]
      rw [w64_eq (n := s - x.Rest) (by omega) (by omega)]
    · rintro s' hs
      injection hs with hs
      subst hs
      constructor <;> omega

/-! late bills -/
def badL (t d : Int) : Bool := decide (t < 0 ∨ 3155759999 < t ∨ d < 0 ∨ 36524 < d)
def lateB (t d : Int) (x : O) : Bool := decide (d * 86400 ≤ t - x.Due)
def lateL (l : List O) (t d : Int) : List Int := (l.filter (lateB t d)).map T_api_Open.Bill
def lateR (l : List O) (t d : Int) : List Int × Int := if badL t d = true then ([], 1) else (lateL l t d, 0)
theorem fold_late (p : O → Bool) (l : List O) (s : List Int) : l.foldl (fun s x => if p x = true then s ++ [x.Bill] else s) s = s ++ (l.filter p).map T_api_Open.Bill := by
  induction l generalizing s with
  | nil => simp
  | cons x l ih => rw [List.foldl_cons, ih]; by_cases hp : p x = true <;> simp [hp]
theorem late_eq {r : R} (h : OkR r) (t d : Int) : payment_Register_Late r t d = some ((lateR r.f_open t d).1, (lateR r.f_open t d).2, r) := by
  have hlen := h.list.len
  have e : (bif (decide (t < 0)) then some true else bif (decide (3155759999 < t)) then some true else bif (decide (d < 0)) then some true else some (decide (36524 < d))) = some (badL t d) := by
    unfold badL
    by_cases h1 : t < 0 <;> by_cases h2 : 3155759999 < t <;> by_cases h3 : d < 0 <;> simp [h1, h2, h3]
  unfold payment_Register_Late lateR
  rw [e, Option.bind_some]
  cases hb : badL t d with
  | true => simp
  | false =>
    have hb' : 0 ≤ t ∧ t ≤ 3155759999 ∧ 0 ≤ d ∧ d ≤ 36524 := by simp [badL] at hb; omega
    simp only [Bool.false_eq_true, if_false, cond_false]
    have := iter_each r.f_open (fun (s : List Int) k => (s, k)) (body := payment_Register_Late_l1 r t d) (fun s x => (.inl (if lateB t d x = true then s ++ [x.Bill] else s) : List Int ⊕ List Int)) id (fun s k => s.length ≤ k) (by omega) (fun k x s hx hI => ?_) (fun s hI => by simp [payment_Register_Late_l1, oun]) (((r.f_open.length : Nat) : Int).toNat + 1) [] (by simp) (by simp)
    · rw [this, each_inl, Option.bind_some, fold_late]
      rfl
    · have hk := lt_of_get hx
      have hx1 := h.list.ok x (List.mem_of_getElem? hx)
      have hd0 := hx1.d0; have hd1 := hx1.d1
      have hk2 : ((k : Int) < (r.f_open.length : Nat)) := by omega
      refine ⟨?_, fun s' hs => by injection hs with hs; subst hs; exact Nat.le_trans (len_app1 _ _ _) (by omega)⟩
      simp only [payment_Register_Late_l1, oun, hk2, decide_true, cond_true, getI_nat, hx, Option.bind_some, mapL_inl]
      rw [w64_eq (n := d * 86400) (by omega) (by omega), w64_eq (n := t - x.Due) (by omega) (by omega), appO_eq (by simp; omega)]
      by_cases hp : d * 86400 ≤ t - x.Due
      · have hp' : lateB t d x = true := by simp [lateB, hp]
        simp only [hp, hp', decide_true, cond_true, Option.bind_some, if_true]
      · have hp' : lateB t d x = false := by simp only [lateB, hp, decide_false]
        simp only [hp, hp', decide_false, cond_false, Option.bind_some, if_false, Bool.false_eq_true]
theorem lateW {r : R} {w : RW} (h : Rel r w) (t d : Int) : recyclingref56_Register_Late w t d = some ((lateR r.f_open t d).1, (lateR r.f_open t d).2, w) := by
  have hlen := h.lenW
  have e : (Option.bind (recyclingref56_moment t) fun r2 => bif (!r2) then some true else bif (decide (d < 0)) then some true else some (decide (36524 < d))) = some (badL t d) := by
    unfold badL
    rw [moment_eq, Option.bind_some]
    by_cases ht : 0 ≤ t ∧ t ≤ 3155759999
    · have h1 : ¬ t < 0 := by omega
      have h2 : ¬ 3155759999 < t := by omega
      by_cases h3 : d < 0 <;> simp [ht, h1, h2, h3]
    · simp only [ht, decide_false, Bool.not_false, cond_true]
      congr 1
      symm
      rw [decide_eq_true_iff]
      omega
  unfold recyclingref56_Register_Late lateR
  rw [e, Option.bind_some]
  cases hb : badL t d with
  | true => simp
  | false =>
    have hb' : 0 ≤ t ∧ t ≤ 3155759999 ∧ 0 ≤ d ∧ d ≤ 36524 := by simp [badL] at hb; omega
    simp only [Bool.false_eq_true, if_false, cond_false]
    have := iter_each w.Bills (fun (s : List Int) k => (s, k)) (body := recyclingref56_Register_Late_l1 w t d) (fun s x => (.inl (if (pos x && lateB t d x) = true then s ++ [x.Bill] else s) : List Int ⊕ List Int)) id (fun s k => s.length ≤ k) (by omega) (fun k x s hx hI => ?_) (fun s hI => by simp [recyclingref56_Register_Late_l1, oun]) (((w.Bills.length : Nat) : Int).toNat + 1) [] (by simp) (by simp)
    · rw [this, each_inl, Option.bind_some, fold_late (fun x => pos x && lateB t d x)]
      unfold lateL
      rw [h.op, List.filter_filter, List.nil_append]
      have : (fun a => lateB t d a && pos a) = (fun x => pos x && lateB t d x) := by funext y; exact Bool.and_comm _ _
      rw [this]
    · have hk := lt_of_get hx
      have hx1 := h.okb x (List.mem_of_getElem? hx)
      have hd0 := hx1.d0; have hd1 := hx1.d1
      have hk2 : ((k : Int) < (w.Bills.length : Nat)) := by omega
      refine ⟨?_, fun s' hs => by injection hs with hs; subst hs; exact Nat.le_trans (len_app1 _ _ _) (by omega)⟩
      simp only [recyclingref56_Register_Late_l1, oun, hk2, decide_true, cond_true, getI_nat, hx, Option.bind_some, mapL_inl]
      rw [w64_eq (n := d * 86400) (by omega) (by omega), w64_eq (n := t - x.Due) (by omega) (by omega), appO_eq (by simp; omega)]
      have hpo : (decide (0 < x.Rest)) = pos x := rfl
      have hla : (decide (d * 86400 ≤ t - x.Due)) = lateB t d x := rfl
      rw [hpo, hla]
      cases pos x <;> cases lateB t d x <;> simp
theorem Ints_eq (a b : List Int) (ha : a.length ≤ 1000000) : recyclingref56_Ints a b = some (decide (a = b)) := by
  unfold recyclingref56_Ints
  by_cases hl : a.length = b.length
  · have hl' : ((a.length : Nat) : Int) = (b.length : Nat) := by omega
    have hz : (a.zip b).length = a.length := by rw [List.length_zip]; omega
    have := iter_first (a.zip b) (body := recyclingref56_Ints_l1 a b) (fun p : Int × Int => if p.1 = p.2 then none else some (.inr false : Unit ⊕ Bool)) (.inl ()) (by omega) (fun k p hp => ?_) (by rw [hz]; simp [recyclingref56_Ints_l1]) (((a.length : Nat) : Int).toNat + 1) (by rw [hz]; simp)
    · simp only [hl', decide_true, Bool.not_true, cond_false]
      rw [← hl', this, same_first a b hl, Option.bind_some]
      by_cases h : a = b <;> simp [h, osum]
    · obtain ⟨h1, h2⟩ := get_zip hp
      have hk : ((k : Int) < (a.length : Nat)) := by have := lt_of_get h1; omega
      simp only [recyclingref56_Ints_l1, hk, decide_true, cond_true, getI_nat, h1, h2, Option.bind_some]
      by_cases h : p.1 = p.2 <;> simp [h]
  · have hl' : ¬ ((a.length : Nat) : Int) = (b.length : Nat) := by omega
    have : a ≠ b := fun e => hl (by rw [e])
    simp [hl', this]
theorem length_lateR (l : List O) (t d : Int) : (lateR l t d).1.length ≤ l.length := by
  unfold lateR lateL
  split
  · simp
  · simp only [List.length_map]; exact List.length_filter_le _ _
theorem length_payR {r : R} (a t : Int) : (payR r a t).1.length ≤ r.f_open.length := by
  unfold payR
  split
  · simp
  · split
    · simp
    · split
      · simp
      · exact used_len _ _

/-! the law -/
def new0W : RW := ⟨[], 0, 0⟩
theorem rel0 : Rel new0 new0W := ⟨new_ok, by simp [new0W], by simp [new0W], by simp [new0, new0W], rfl, rfl, rfl, by simp [new0, new0W, mget]⟩
theorem runs_round (l : List Ac) {r : R} {w : RW} (h : Rel r w) {k : Nat} {x : Ac} (hx : l[k]? = some x) (hl : l.length ≤ 100) :
    ∃ r' w', recyclinglaw56_PaymentRuns_l1 l (r, w, (k : Int)) = some (.inl (r', w', w64 ((k : Int) + 1))) ∧ Rel r' w' := by
  have hk := lt_of_get hx
  have hk2 : ((k : Int) < (l.length : Nat)) := by omega
  have tail : ∀ (r' : R) (w' : RW), Rel r' w' → (Option.bind (payment_Register_Open r') fun j_ => oun j_ fun r22 r23 =>
        Option.bind (recyclingref56_Register_Open w') fun j_ => oun j_ fun r24 r25 =>
        Option.bind (recyclingref56_Same r22 r24) fun r26 =>
        bif (!r26) then
          some (r23, r25, true)
        else
          Option.bind (payment_Register_Balance r23) fun j_ => oun j_ fun r27 r28 =>
          Option.bind (recyclingref56_Register_Balance r25) fun j_ => oun j_ fun r29 r30 =>
          some (r28, r30, !(decide (r27 = r29)))) = some (r', w', false) := by
    intro r' w' h'
    have hlen := h'.ok.list.len
    simp only [open_eq h'.ok, openW h', Option.bind_some, oun, Same_eq _ _ (show r'.f_open.length ≤ 1000000 by omega), decide_true, Bool.not_true, cond_false, balance_eq h'.ok, balanceW h']
  have hlen := h.ok.list.len
  by_cases h0 : x.Kind = 0
  · obtain ⟨w', hw, h'⟩ := charge_rel h x.Bill x.Amount x.At
    refine ⟨_, w', ?_, h'⟩
    simp only [recyclinglaw56_PaymentRuns_l1, oun, hk2, decide_true, cond_true, getI_nat, hx, Option.bind_some, h0, charge_eq h.ok, hw, Bool.not_true, cond_false, osum]
    have := tail _ _ h'
    simp only [oun] at this
    rw [this]
    rfl
  · by_cases h1 : x.Kind = 1
    · obtain ⟨w', hw, h'⟩ := pay_rel h x.Amount x.At
      refine ⟨_, w', ?_, h'⟩
      have hle := length_payR (r := r) x.Amount x.At
      simp only [recyclinglaw56_PaymentRuns_l1, oun, hk2, decide_true, cond_true, getI_nat, hx, Option.bind_some, h0, decide_false, cond_false, h1, pay_eq h.ok, hw, Bool.not_true, osum, Same_eq _ _ (show (payR r x.Amount x.At).1.length ≤ 1000000 by omega), show ¬ (1 : Int) = 0 by omega]
      have := tail _ _ h'
      simp only [oun] at this
      rw [this]
      rfl
    · refine ⟨r, w, ?_, h⟩
      have hle := length_lateR r.f_open x.At x.Bill
      simp only [recyclinglaw56_PaymentRuns_l1, oun, hk2, decide_true, cond_true, getI_nat, hx, Option.bind_some, h0, decide_false, cond_false, h1, late_eq h.ok, lateW h, Bool.not_true, osum, Ints_eq _ _ (show (lateR r.f_open x.At x.Bill).1.length ≤ 1000000 by omega)]
      have := tail _ _ h
      simp only [oun] at this
      rw [this]
      rfl
theorem recyclinglaw56_PaymentRuns_true (l : List Ac) (_ : ∀ x ∈ l, wf_recyclinglaw56_Act x) : recyclinglaw56_PaymentRuns l = some true := by
  unfold recyclinglaw56_PaymentRuns
  rw [new_eq, Option.bind_some]
  have e0 : recyclingref56_New = some new0W := rfl
  rw [e0, Option.bind_some]
  by_cases hl : (100 : Int) < (l.length : Nat)
  · simp [hl, awake_true]
  · have := iter_rel (body := recyclinglaw56_PaymentRuns_l1 l) (fun n t o => ∃ (r : R) (w : RW) (k : Nat), t = (r, w, (k : Int)) ∧ n = l.length - k ∧ k ≤ l.length ∧ Rel r w ∧ o = (.inl () : Unit ⊕ Bool)) (fun n t o => ?_) (((l.length : Nat) : Int).toNat + 1) l.length (new0, new0W, 0) (.inl ()) ⟨new0, new0W, 0, rfl, by simp, Nat.zero_le _, rel0, rfl⟩ (by simp)
    · simp only [hl, decide_false, cond_false, Option.bind_some, this, osum, awake_true]
    · rintro ⟨r, w, k, rfl, rfl, hk, hR, rfl⟩
      rcases Nat.lt_or_ge k l.length with hlt | hge
      · obtain ⟨r', w', h1, h2⟩ := runs_round l hR (List.getElem?_eq_getElem hlt) (by omega)
        refine .inl ⟨_, l.length - (k + 1), h1, by omega, r', w', k + 1, by rw [w64_nat (by omega)], rfl, hlt, h2, rfl⟩
      · obtain rfl : k = l.length := by omega
        exact .inr (by simp [recyclinglaw56_PaymentRuns_l1, oun])

end Go.Proofs.Yticcfpmehjcjcaa
