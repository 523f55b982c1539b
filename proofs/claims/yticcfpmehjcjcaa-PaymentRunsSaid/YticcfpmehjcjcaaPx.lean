/- payment: the plain laws over the printed specifications. -/
import Derived.Test.YticcfpmehjcjcaaTas
import Derived.Test.YticcfpmehjcjcaaGp
namespace Go.Proofs.Yticcfpmehjcjcaa
set_option linter.unusedSimpArgs false
set_option linter.unusedVariables false

theorem lt_of_get {α : Type} {l : List α} {k : Nat} {x : α} (h : l[k]? = some x) : k < l.length := by
  rcases Nat.lt_or_ge k l.length with h2 | h2
  · exact h2
  · rw [List.getElem?_eq_none h2] at h; cases h
abbrev O := T_api_Open
abbrev R := T_payment_Register
def ltO (a b : O) : Prop := a.Due < b.Due ∨ a.Due = b.Due ∧ a.Bill < b.Bill
theorem befO_iff {a b : O} : befO a b = true ↔ ltO a b := by simp [befO, ltO]
theorem ltO_trans {a b c : O} (h : ltO a b) (k : ltO b c) : ltO a c := by unfold ltO at *; omega
theorem ltO_total {a b : O} (h : ¬ ltO a b) (hne : a.Bill ≠ b.Bill) : ltO b a := by unfold ltO at *; omega

theorem placeO_spec {x : O} {l : List O} (hs : l.Pairwise ltO) (hne : ∀ y ∈ l, y.Bill ≠ x.Bill) : ∀ k, k ≤ l.length →
    (∀ y ∈ l.take (placeO x l k), ltO y x) ∧ (∀ i y, placeO x l k ≤ i → i < k → l[i]? = some y → ltO x y)
  | 0, _ => ⟨by simp [placeO], by intro i y _ h; omega⟩
  | k + 1, hk => by
    have hlt : k < l.length := hk
    obtain ⟨h1, h2⟩ := placeO_spec hs hne k (by omega)
    simp only [placeO, List.getElem?_eq_getElem hlt]
    split
    · rename_i hb
      refine ⟨h1, fun i y hi hik hy => ?_⟩
      rcases Nat.lt_or_ge i k with hik2 | hik2
      · exact h2 i y hi hik2 hy
      · obtain rfl : i = k := by omega
        rw [List.getElem?_eq_getElem hlt] at hy
        injection hy with hy
        rw [← hy]; exact befO_iff.1 hb
    · rename_i hb
      have hx : ltO l[k] x := ltO_total (fun h => hb (befO_iff.2 h)) (fun e => hne l[k] (List.getElem_mem _) e.symm)
      refine ⟨fun y hy => ?_, fun i y hi hik => by omega⟩
      obtain ⟨i, hi, rfl⟩ := List.getElem_of_mem hy
      simp only [List.length_take] at hi
      rw [List.getElem_take]
      rcases Nat.lt_or_ge i k with hik | hik
      · exact ltO_trans (List.pairwise_iff_getElem.1 hs i k (by omega) hlt hik) hx
      · obtain rfl : i = k := by omega
        exact hx
def insL (l : List O) (x : O) : List O := l.take (placeO x l l.length) ++ x :: l.drop (placeO x l l.length)
theorem insL_sorted {l : List O} {x : O} (hs : l.Pairwise ltO) (hne : ∀ y ∈ l, y.Bill ≠ x.Bill) : (insL l x).Pairwise ltO := by
  obtain ⟨h1, h2⟩ := placeO_spec hs hne l.length (Nat.le_refl _)
  have hd : ∀ y ∈ l.drop (placeO x l l.length), ltO x y := fun y hy => by
    obtain ⟨i, hi, rfl⟩ := List.getElem_of_mem hy
    simp only [List.length_drop] at hi
    rw [List.getElem_drop]
    exact h2 (placeO x l l.length + i) _ (by omega) (by omega) (List.getElem?_eq_getElem (by omega))
  unfold insL
  rw [List.pairwise_append]
  refine ⟨hs.take, List.pairwise_cons.2 ⟨hd, hs.drop⟩, fun a ha b hb => ?_⟩
  rcases List.mem_cons.1 hb with rfl | hb
  · exact h1 a ha
  · exact ltO_trans (h1 a ha) (hd b hb)
def sumO (l : List O) : Int := (l.map T_api_Open.Rest).sum
@[simp] theorem sumO_nil : sumO [] = 0 := rfl
@[simp] theorem sumO_cons (x : O) (l : List O) : sumO (x :: l) = x.Rest + sumO l := by simp [sumO]
theorem sumO_append (a b : List O) : sumO (a ++ b) = sumO a + sumO b := by simp [sumO]
theorem sum_insL (l : List O) (x : O) : sumO (insL l x) = sumO l + x.Rest := by
  have h : sumO l = sumO (l.take (placeO x l l.length)) + sumO (l.drop (placeO x l l.length)) := by
    rw [← sumO_append, List.take_append_drop]
  simp only [insL, sumO_append, sumO_cons]
  omega
theorem mem_insL {l : List O} {x y : O} (h : y ∈ insL l x) : y = x ∨ y ∈ l := by
  unfold insL at h
  rcases List.mem_append.1 h with h | h
  · exact .inr (List.mem_of_mem_take h)
  · rcases List.mem_cons.1 h with h | h
    · exact .inl h
    · exact .inr (List.mem_of_mem_drop h)
theorem length_insL (l : List O) (x : O) : (insL l x).length = l.length + 1 := by
  simp only [insL, List.length_append, List.length_cons, List.length_take, List.length_drop]
  omega

/-- One bill's numbers. -/
structure OkO (x : O) : Prop where
  b0 : 1 ≤ x.Bill
  b1 : x.Bill ≤ 1000000
  d0 : 0 ≤ x.Due
  d1 : x.Due ≤ 3155759999
  r0 : 1 ≤ x.Rest
  r1 : x.Rest ≤ 1000000000000
/-- A list of open bills. -/
structure OkL (l : List O) : Prop where
  sorted : l.Pairwise ltO
  ok : ∀ x ∈ l, OkO x
  len : l.length ≤ 512
/-- What a register keeps. -/
structure OkR (r : R) : Prop where
  list : OkL r.f_open
  few : r.f_open.length ≤ r.known.length
  many : r.known.length ≤ 512
  inn : ∀ x ∈ r.f_open, mget x.Bill r.known = some true
  tru : ∀ (k : Int) (v : Bool), mget k r.known = some v → v = true
  c0 : 0 ≤ r.credit
  c1 : r.credit ≤ 1000000000000
theorem sum_bound : ∀ (l : List O), (∀ x ∈ l, OkO x) → 0 ≤ sumO l ∧ sumO l ≤ 1000000000000 * l.length
  | [], _ => by simp
  | x :: l, h => by
    have := sum_bound l (fun y hy => h y (by simp [hy]))
    have hx := h x (by simp)
    have := hx.r0; have := hx.r1
    simp only [sumO_cons, List.length_cons]
    omega
theorem OkL.sum {l : List O} (h : OkL l) : 0 ≤ sumO l ∧ sumO l ≤ 512000000000000 := by
  have := sum_bound l h.ok; have := h.len; omega

/-! a payment -/
def usedL : List O → Int → List O
  | [], _ => []
  | x :: r, f => if x.Rest ≤ f then x :: usedL r (f - x.Rest) else if 0 < f then [⟨x.Bill, x.Due, f⟩] else []
def restL : List O → Int → List O
  | [], _ => []
  | x :: r, f => if x.Rest ≤ f then restL r (f - x.Rest) else ⟨x.Bill, x.Due, x.Rest - f⟩ :: r
def leftL : List O → Int → Int
  | [], f => f
  | x :: r, f => if x.Rest ≤ f then leftL r (f - x.Rest) else 0
def stepP (s : Int × List O × List O) (x : O) : (Int × List O × List O) ⊕ (Int × List O × List O) :=
  .inl (s.1 - min x.Rest s.1, (if 0 < min x.Rest s.1 then s.2.1 ++ [⟨x.Bill, x.Due, min x.Rest s.1⟩] else s.2.1), (if 0 < x.Rest - min x.Rest s.1 then s.2.2 ++ [⟨x.Bill, x.Due, x.Rest - min x.Rest s.1⟩] else s.2.2))
theorem usedL_zero : ∀ (l : List O), (∀ x ∈ l, OkO x) → usedL l 0 = []
  | [], _ => rfl
  | x :: r, h => by have := (h x (by simp)).r0; rw [usedL, if_neg (by omega), if_neg (by omega)]
theorem restL_zero : ∀ (l : List O), (∀ x ∈ l, OkO x) → restL l 0 = l
  | [], _ => rfl
  | x :: r, h => by have := (h x (by simp)).r0; rw [restL, if_neg (by omega)]; simp
theorem leftL_zero : ∀ (l : List O), (∀ x ∈ l, OkO x) → leftL l 0 = 0
  | [], _ => rfl
  | x :: r, h => by have := (h x (by simp)).r0; rw [leftL, if_neg (by omega)]
theorem each_pay : ∀ (l : List O) (f : Int) (u q : List O), (∀ x ∈ l, OkO x) → 0 ≤ f → each stepP id l (f, u, q) = (leftL l f, u ++ usedL l f, q ++ restL l f)
  | [], f, u, q, _, _ => by simp [each, leftL, usedL, restL]
  | x :: l, f, u, q, h, hf => by
    have hx := (h x (by simp)).r0
    have hl : ∀ y ∈ l, OkO y := fun y hy => h y (by simp [hy])
    simp only [each, stepP]
    by_cases hr : x.Rest ≤ f
    · rw [show min x.Rest f = x.Rest by omega, if_pos (show 0 < x.Rest by omega), if_neg (show ¬ 0 < x.Rest - x.Rest by omega), each_pay l _ _ _ hl (by omega)]
      simp [usedL, restL, leftL, hr]
    · rw [show min x.Rest f = f by omega, show f - f = 0 by omega, if_pos (show 0 < x.Rest - f by omega), each_pay l _ _ _ hl (by omega), usedL_zero l hl, restL_zero l hl, leftL_zero l hl]
      by_cases h0 : 0 < f
      · simp [usedL, restL, leftL, hr, h0]
      · simp [usedL, restL, leftL, hr, h0]
theorem pay_loop {r : R} (h : OkL r.f_open) {f : Int} (hf : 0 ≤ f) (hf2 : f ≤ 2000000000000) :
    iter (payment_Register_Pay_l1 r) (((r.f_open.length : Nat) : Int).toNat + 1) (f, [], [], 0) = some (leftL r.f_open f, usedL r.f_open f, restL r.f_open f) := by
  have hlen := h.len
  rw [iter_each r.f_open (fun (s : Int × List O × List O) k => (s.1, s.2.1, s.2.2, k)) stepP id (fun s k => 0 ≤ s.1 ∧ s.1 ≤ 2000000000000 ∧ s.2.1.length ≤ k ∧ s.2.2.length ≤ k) (by omega) (fun k x s hx hI => ?_) (fun s hI => ?_) _ (f, [], []) ⟨hf, hf2, by simp, by simp⟩ (by simp)]
  · rw [each_pay _ _ _ _ h.ok hf]
    simp
  · obtain ⟨f, u, q⟩ := s
    obtain ⟨h1, h2, h3, h4⟩ := hI
    simp only at h1 h2 h3 h4
    have hk := lt_of_get hx
    have hx1 := h.ok x (List.mem_of_getElem? hx)
    have hr0 := hx1.r0; have hr1 := hx1.r1
    have hk2 : ((k : Int) < (r.f_open.length : Nat)) := by omega
    refine ⟨?_, ?_⟩
    · simp only [payment_Register_Pay_l1, oun, hk2, decide_true, cond_true, getI_nat, hx, Option.bind_some, stepP]
      rw [w64_eq (n := f - min x.Rest f) (by omega) (by omega), w64_eq (n := x.Rest - min x.Rest f) (by omega) (by omega), appO_eq (by simp; omega), appO_eq (by simp; omega)]
      by_cases g1 : 0 < min x.Rest f <;> by_cases g2 : 0 < x.Rest - min x.Rest f <;> simp only [g1, g2, decide_true, decide_false, cond_true, cond_false, Option.bind_some, if_true, if_false, mapL_inl, w64_nat (show k < 9223372036854775807 by omega)]
    · rintro s' hs
      simp only [stepP] at hs
      injection hs with hs
      subst hs
      refine ⟨by simp only; omega, by simp only; omega, ?_, ?_⟩
      · by_cases g : 0 < min x.Rest f <;> simp only [g, if_true, if_false, List.length_append, List.length_cons, List.length_nil] <;> omega
      · by_cases g : 0 < x.Rest - min x.Rest f <;> simp only [g, if_true, if_false, List.length_append, List.length_cons, List.length_nil] <;> omega
  · obtain ⟨f, u, q⟩ := s
    simp [payment_Register_Pay_l1, oun]
def badP (a t : Int) : Bool := decide (a < 0 ∨ 1000000000000 < a ∨ t < 0 ∨ 3155759999 < t)
def payR (r : R) (a t : Int) : List O × Int × R := if badP a t = true then ([], 1, r) else if t < r.last then ([], 9, r) else if 1000000000000 < a + r.credit then ([], 2, r) else (usedL r.f_open (r.credit + a), 0, ⟨restL r.f_open (r.credit + a), r.known, leftL r.f_open (r.credit + a), t⟩)
theorem pay_eq {r : R} (h : OkR r) (a t : Int) : payment_Register_Pay r a t = some (payR r a t) := by
  have e : (bif (decide (a < 0)) then some true else bif (decide (1000000000000 < a)) then some true else bif (decide (t < 0)) then some true else some (decide (3155759999 < t))) = some (badP a t) := by
    unfold badP
    by_cases h1 : a < 0 <;> by_cases h2 : 1000000000000 < a <;> by_cases h3 : t < 0 <;> simp [h1, h2, h3]
  unfold payment_Register_Pay payR
  rw [e, Option.bind_some]
  cases hb : badP a t with
  | true => simp
  | false =>
    have hb' : 0 ≤ a ∧ a ≤ 1000000000000 ∧ 0 ≤ t ∧ t ≤ 3155759999 := by simp [badP] at hb; omega
    have c0 := h.c0; have c1 := h.c1
    simp only [cond_false, Bool.false_eq_true, if_false]
    by_cases h1 : t < r.last
    · simp [h1]
    · simp only [h1, decide_false, cond_false, if_false]
      rw [w64_eq (n := a + r.credit) (by omega) (by omega), w64_eq (n := r.credit + a) (by omega) (by omega)]
      by_cases h2 : 1000000000000 < a + r.credit
      · simp [h2]
      · simp only [h2, decide_false, cond_false, if_false, pay_loop h.list (show 0 ≤ r.credit + a by omega) (by omega), Option.bind_some, oun]

/-! a charge -/
def badC (b a d : Int) : Bool := decide (b < 1 ∨ 1000000 < b ∨ a < 1 ∨ 1000000000000 < a ∨ d < 0 ∨ 3155759999 < d)
def chargeR (r : R) (b a d : Int) : Int × R := if badC b a d = true then (1, r) else if (mget b r.known).getD false = true then (6, r) else if 512 ≤ r.known.length then (8, r) else (0, ⟨insL r.f_open ⟨b, d, a⟩, mput b true r.known, r.credit, r.last⟩)
theorem charge_eq {r : R} (h : OkR r) (b a d : Int) : payment_Register_Charge r b a d = some (chargeR r b a d) := by
  have e : (bif (decide (b < 1)) then some true else bif (decide (1000000 < b)) then some true else bif (decide (a < 1)) then some true else bif (decide (1000000000000 < a)) then some true else bif (decide (d < 0)) then some true else some (decide (3155759999 < d))) = some (badC b a d) := by
    unfold badC
    by_cases h1 : b < 1 <;> by_cases h2 : 1000000 < b <;> by_cases h3 : a < 1 <;> by_cases h4 : 1000000000000 < a <;> by_cases h5 : d < 0 <;> simp [h1, h2, h3, h4, h5]
  have hl := h.list.len
  unfold payment_Register_Charge chargeR
  rw [e, Option.bind_some]
  cases hb : badC b a d with
  | true => simp
  | false =>
    simp only [cond_false, Bool.false_eq_true, if_false]
    cases hm : (mget b r.known).getD false with
    | true => simp
    | false =>
      simp only [cond_false, Bool.false_eq_true, if_false]
      by_cases hk : 512 ≤ r.known.length
      · have : (512 : Int) ≤ (r.known.length : Nat) := by omega
        simp [this, hk]
      · have : ¬ (512 : Int) ≤ (r.known.length : Nat) := by omega
        simp only [this, hk, decide_false, cond_false, if_false]
        unfold insO insL
        rw [if_pos (by omega), Option.bind_some]

/-! the other functions -/
theorem balance_eq {r : R} (h : OkR r) : payment_Register_Balance r = some (r.credit - sumO r.f_open, r) := by
  have hlen := h.list.len; have c0 := h.c0; have c1 := h.c1
  unfold payment_Register_Balance
  have := iter_each r.f_open (fun (s : Int) k => (s, k)) (body := payment_Register_Balance_l1 r) (fun s x => (.inl (s - x.Rest) : Int ⊕ Int)) id (fun s k => -1000000000000 * k ≤ s ∧ s ≤ 1000000000000) (by omega) (fun k x s hx hI => ?_) (fun s hI => by simp [payment_Register_Balance_l1, oun]) (((r.f_open.length : Nat) : Int).toNat + 1) r.credit ⟨by omega, by omega⟩ (by simp)
  · rw [this, Option.bind_some]
    have hs : ∀ (l : List O) (s : Int), each (fun s x => (.inl (s - x.Rest) : Int ⊕ Int)) id l s = s - sumO l := by
      intro l
      induction l with
      | nil => intro s; simp [each]
      | cons x l ih => intro s; simp only [each, ih, sumO_cons]; omega
    rw [hs]
  · have hk := lt_of_get hx
    have hx1 := h.list.ok x (List.mem_of_getElem? hx)
    have hr0 := hx1.r0; have hr1 := hx1.r1
    have hk2 : ((k : Int) < (r.f_open.length : Nat)) := by omega
    refine ⟨?_, ?_⟩
    · simp only [payment_Register_Balance_l1, oun, hk2, decide_true, cond_true, getI_nat, hx, Option.bind_some, mapL_inl]
      rw [w64_eq (n := s - x.Rest) (by omega) (by omega)]
    · rintro s' hs
      injection hs with hs
      subst hs
      constructor <;> omega
theorem open_eq {r : R} (h : OkR r) : payment_Register_Open r = some (r.f_open, r) := by
  have hlen := h.list.len
  unfold payment_Register_Open cloneO
  rw [if_pos (by omega)]
  rfl
theorem sum_open {l : List O} (h : OkL l) : recyclinglaw56_open l = some (sumO l, true) := by
  have hlen := h.len
  unfold recyclinglaw56_open
  have := iter_each l (fun (s : Int) k => (s, k)) (body := recyclinglaw56_open_l1 l) (fun s x => (.inl (s + x.Rest) : Int ⊕ (Int ⊕ (Int × Bool)))) (fun s => .inl s) (fun s k => 0 ≤ s ∧ s ≤ 1000000000000 * k) (by omega) (fun k x s hx hI => ?_) (fun s hI => by simp [recyclinglaw56_open_l1, oun]) (((l.length : Nat) : Int).toNat + 1) 0 ⟨by omega, by omega⟩ (by simp)
  · rw [this, Option.bind_some]
    have hs : ∀ (l : List O) (s : Int), each (fun s x => (.inl (s + x.Rest) : Int ⊕ (Int ⊕ (Int × Bool)))) (fun s => .inl s) l s = .inl (s + sumO l) := by
      intro l
      induction l with
      | nil => intro s; simp [each]
      | cons x l ih => intro s; simp only [each, ih, sumO_cons]; congr 1; omega
    have hl : ((l.length : Nat) : Int) ≤ 512 := by omega
    rw [hs]
    simp [osum, hl]
  · have hk := lt_of_get hx
    have hx1 := h.ok x (List.mem_of_getElem? hx)
    have hr0 := hx1.r0; have hr1 := hx1.r1
    have hk2 : ((k : Int) < (l.length : Nat)) := by omega
    refine ⟨?_, ?_⟩
    · simp only [recyclinglaw56_open_l1, oun, hk2, decide_true, cond_true, getI_nat, hx, Option.bind_some, mapL_inl, show ¬ x.Rest < 1 by omega, show ¬ 1000000000000 < x.Rest by omega, decide_false, cond_false]
      by_cases h0 : (0 : Int) < k
      · have hkl : k - 1 < l.length := by omega
        have hlt : ltO l[k - 1] x := by
          have := List.pairwise_iff_getElem.1 h.sorted (k - 1) k hkl hk (by omega)
          rwa [show l[k] = x by rw [List.getElem?_eq_getElem hk] at hx; injection hx] at this
        have hg : getI l (w64 ((k : Int) - 1)) = some l[k - 1] := by
          rw [w64_eq (by omega) (by omega), show ((k : Int) - 1) = ((k - 1 : Nat) : Int) by omega, getI_some hkl]
        unfold ltO at hlt
        simp only [h0, decide_true, cond_true, hg, Option.bind_some, show ¬ x.Due < l[k - 1].Due by omega, decide_false, cond_false]
        by_cases hd : l[k - 1].Due = x.Due
        · simp only [hd, decide_true, cond_true, show ¬ x.Bill ≤ l[k - 1].Bill by omega, decide_false, Option.bind_some, cond_false]
          rw [w64_eq (n := s + x.Rest) (by omega) (by omega)]
        · simp only [hd, decide_false, cond_false, Option.bind_some]
          rw [w64_eq (n := s + x.Rest) (by omega) (by omega)]
      · simp only [h0, decide_false, cond_false, Option.bind_some]
        rw [w64_eq (n := s + x.Rest) (by omega) (by omega)]
    · rintro s' hs
      injection hs with hs
      subst hs
      constructor <;> omega
theorem same_first {α : Type} [DecidableEq α] : ∀ (a b : List α), a.length = b.length → first (fun p : α × α => if p.1 = p.2 then none else some (.inr false : Unit ⊕ Bool)) (.inl ()) (a.zip b) = if a = b then .inl () else .inr false
  | [], [], _ => by simp [first]
  | [], y :: b, h => by simp at h
  | x :: a, [], h => by simp at h
  | x :: a, y :: b, h => by
    have ih := same_first a b (by simpa using h)
    by_cases hxy : x = y <;> simp [first, hxy, ih]
theorem get_zip {α β : Type} {a : List α} {b : List β} {k : Nat} {p : α × β} (h : (a.zip b)[k]? = some p) : a[k]? = some p.1 ∧ b[k]? = some p.2 := by
  rw [List.getElem?_zip_eq_some] at h
  exact h
theorem Same_eq (a b : List O) (ha : a.length ≤ 1000000) : recyclingref56_Same a b = some (decide (a = b)) := by
  unfold recyclingref56_Same
  by_cases hl : a.length = b.length
  · have hl' : ((a.length : Nat) : Int) = (b.length : Nat) := by omega
    have hz : (a.zip b).length = a.length := by rw [List.length_zip]; omega
    have := iter_first (a.zip b) (body := recyclingref56_Same_l1 a b) (fun p : O × O => if p.1 = p.2 then none else some (.inr false : Unit ⊕ Bool)) (.inl ()) (by omega) (fun k p hp => ?_) (by rw [hz]; simp [recyclingref56_Same_l1]) (((a.length : Nat) : Int).toNat + 1) (by rw [hz]; simp)
    · simp only [hl', decide_true, Bool.not_true, cond_false]
      rw [← hl', this, same_first a b hl, Option.bind_some]
      by_cases h : a = b <;> simp [h, osum]
    · obtain ⟨h1, h2⟩ := get_zip hp
      have hk : ((k : Int) < (a.length : Nat)) := by have := lt_of_get h1; omega
      simp only [recyclingref56_Same_l1, hk, decide_true, cond_true, getI_nat, h1, h2, Option.bind_some]
      by_cases h : p.1 = p.2 <;> simp [h]
  · have hl' : ¬ ((a.length : Nat) : Int) = (b.length : Nat) := by omega
    have : a ≠ b := fun e => hl (by rw [e])
    simp [hl', this]

/-! what is used and what is left -/
theorem used_mem : ∀ (l : List O) (f : Int) (y : O), y ∈ usedL l f → ∃ x ∈ l, y.Bill = x.Bill ∧ y.Due = x.Due ∧ y.Rest ≤ x.Rest ∧ (1 ≤ y.Rest ∨ y = x)
  | [], f, y, h => by cases h
  | x :: l, f, y, h => by
    rw [usedL] at h
    split at h
    · rcases List.mem_cons.1 h with h | h
      · exact ⟨x, by simp, by rw [h], by rw [h], by rw [h]; omega, .inr h⟩
      · obtain ⟨z, hz, h⟩ := used_mem l _ y h
        exact ⟨z, by simp [hz], h⟩
    · split at h
      · simp only [List.mem_singleton] at h
        subst h
        exact ⟨x, by simp, rfl, rfl, by simp only; omega, .inl (by simp only; omega)⟩
      · cases h
theorem rest_mem : ∀ (l : List O) (f : Int) (y : O), 0 ≤ f → y ∈ restL l f → ∃ x ∈ l, y.Bill = x.Bill ∧ y.Due = x.Due ∧ y.Rest ≤ x.Rest ∧ (1 ≤ y.Rest ∨ y = x)
  | [], f, y, hf, h => by cases h
  | x :: l, f, y, hf, h => by
    rw [restL] at h
    split at h
    · obtain ⟨z, hz, h⟩ := rest_mem l _ y (by omega) h
      exact ⟨z, by simp [hz], h⟩
    · rcases List.mem_cons.1 h with h | h
      · subst h
        exact ⟨x, by simp, rfl, rfl, by simp only; omega, .inl (by simp only; omega)⟩
      · exact ⟨y, by simp [h], rfl, rfl, Int.le_refl _, .inr rfl⟩
theorem ok_of {x y : O} (h : OkO x) (k : y.Bill = x.Bill ∧ y.Due = x.Due ∧ y.Rest ≤ x.Rest ∧ (1 ≤ y.Rest ∨ y = x)) : OkO y := by
  obtain ⟨k1, k2, k3, k4⟩ := k
  have := h.b0; have := h.b1; have := h.d0; have := h.d1; have := h.r0; have := h.r1
  rcases k4 with k4 | rfl
  · exact ⟨by omega, by omega, by omega, by omega, by omega, by omega⟩
  · exact h
theorem used_len : ∀ (l : List O) (f : Int), (usedL l f).length ≤ l.length
  | [], f => by simp [usedL]
  | x :: l, f => by
    have := used_len l (f - x.Rest)
    rw [usedL]; split
    · simp; omega
    · split <;> simp
theorem rest_len : ∀ (l : List O) (f : Int), (restL l f).length ≤ l.length
  | [], f => by simp [restL]
  | x :: l, f => by
    have := rest_len l (f - x.Rest)
    rw [restL]; split
    · simp; omega
    · simp
theorem used_sorted : ∀ (l : List O) (f : Int), l.Pairwise ltO → (usedL l f).Pairwise ltO
  | [], f, _ => by simp [usedL]
  | x :: l, f, h => by
    obtain ⟨h1, h2⟩ := List.pairwise_cons.1 h
    rw [usedL]; split
    · refine List.pairwise_cons.2 ⟨fun y hy => ?_, used_sorted l _ h2⟩
      obtain ⟨z, hz, e1, e2, _⟩ := used_mem l _ y hy
      have := h1 z hz
      unfold ltO at *; omega
    · split <;> simp
theorem rest_sorted : ∀ (l : List O) (f : Int), l.Pairwise ltO → (restL l f).Pairwise ltO
  | [], f, _ => by simp [restL]
  | x :: l, f, h => by
    obtain ⟨h1, h2⟩ := List.pairwise_cons.1 h
    rw [restL]; split
    · exact rest_sorted l _ h2
    · refine List.pairwise_cons.2 ⟨fun y hy => ?_, h2⟩
      have := h1 y hy
      unfold ltO at *; exact this
theorem used_ok {l : List O} (h : OkL l) (f : Int) : OkL (usedL l f) :=
  ⟨used_sorted l f h.sorted, fun y hy => by obtain ⟨x, hx, k⟩ := used_mem l f y hy; exact ok_of (h.ok x hx) k, Nat.le_trans (used_len l f) h.len⟩
theorem rest_ok {l : List O} (h : OkL l) {f : Int} (hf : 0 ≤ f) : OkL (restL l f) :=
  ⟨rest_sorted l f h.sorted, fun y hy => by obtain ⟨x, hx, k⟩ := rest_mem l f y hf hy; exact ok_of (h.ok x hx) k, Nat.le_trans (rest_len l f) h.len⟩
theorem pay_sums : ∀ (l : List O) (f : Int), (∀ x ∈ l, OkO x) → 0 ≤ f → sumO (usedL l f) = min (sumO l) f ∧ sumO (restL l f) = sumO l - min (sumO l) f ∧ leftL l f = f - min (sumO l) f
  | [], f, _, hf => by simp [usedL, restL, leftL]; omega
  | x :: l, f, h, hf => by
    have hl : ∀ y ∈ l, OkO y := fun y hy => h y (by simp [hy])
    have h0 := (sum_bound l hl).1
    have hx := (h x (by simp)).r0
    rw [usedL, restL, leftL]
    by_cases hr : x.Rest ≤ f
    · obtain ⟨h1, h2, h3⟩ := pay_sums l (f - x.Rest) hl (by omega)
      simp only [hr, if_true, sumO_cons, h1, h2, h3]
      omega
    · simp only [hr, if_false, sumO_cons]
      by_cases h4 : 0 < f
      · simp only [h4, if_true, sumO_cons, sumO_nil]; omega
      · simp only [h4, if_false, sumO_cons, sumO_nil]; omega
theorem pay_ok {r : R} (h : OkR r) (a t : Int) : OkR (payR r a t).2.2 := by
  unfold payR
  split
  · exact h
  · split
    · exact h
    · split
      · exact h
      · rename_i hb _ hc
        have hb' : 0 ≤ a ∧ a ≤ 1000000000000 ∧ 0 ≤ t ∧ t ≤ 3155759999 := by simp [badP] at hb; omega
        have c0 := h.c0; have c1 := h.c1
        obtain ⟨_, _, h3⟩ := pay_sums r.f_open (r.credit + a) h.list.ok (by omega)
        have h0 := h.list.sum
        refine ⟨rest_ok h.list (by omega), Nat.le_trans (rest_len _ _) h.few, h.many, fun y hy => ?_, h.tru, by simp only; omega, by simp only; omega⟩
        obtain ⟨x, hx, e, _⟩ := rest_mem _ _ y (show 0 ≤ r.credit + a by omega) hy
        rw [e]; exact h.inn x hx
theorem mget_mput_same {k : Int} {v : Bool} (m : List (Int × Bool)) : mget k (mput k v m) = some v := by
  induction m with
  | nil => simp [mput, mget]
  | cons p m ih =>
    obtain ⟨a, b⟩ := p
    by_cases h : a = k
    · simp [mput, mget, h]
    · simp [mput, mget, h, ih]
theorem mget_mput_ne {k j : Int} {v : Bool} (h : j ≠ k) (m : List (Int × Bool)) : mget j (mput k v m) = mget j m := by
  induction m with
  | nil => simp [mput, mget]; omega
  | cons p m ih =>
    obtain ⟨a, b⟩ := p
    by_cases h2 : a = k
    · subst h2; simp [mput, mget, Ne.symm h]
    · by_cases h3 : a = j
      · subst h3; simp [mput, mget, h]
      · simp [mput, mget, h2, h3, ih]
theorem length_mput_none {k : Int} {v : Bool} : ∀ (m : List (Int × Bool)), mget k m = none → (mput k v m).length = m.length + 1
  | [], _ => by simp [mput]
  | (a, b) :: m, h => by
    by_cases h2 : a = k
    · simp [mget, h2] at h
    · have := length_mput_none (v := v) m (by simpa [mget, h2] using h)
      simp [mput, h2, this]
theorem charge_ok {r : R} (h : OkR r) (b a d : Int) : OkR (chargeR r b a d).2 := by
  unfold chargeR
  split
  · exact h
  · split
    · exact h
    · split
      · exact h
      · rename_i hb hm hk
        have hb' : 1 ≤ b ∧ b ≤ 1000000 ∧ 1 ≤ a ∧ a ≤ 1000000000000 ∧ 0 ≤ d ∧ d ≤ 3155759999 := by simp [badC] at hb; omega
        have hn : mget b r.known = none := by
          cases hg : mget b r.known with
          | none => rfl
          | some v => rw [hg, h.tru _ _ hg] at hm; simp at hm
        have hne : ∀ y ∈ r.f_open, y.Bill ≠ b := fun y hy e => by have := h.inn y hy; rw [e, hn] at this; cases this
        have hlen := h.few; have hl := length_mput_none (v := true) r.known hn
        refine ⟨⟨insL_sorted h.list.sorted hne, fun y hy => ?_, by rw [length_insL]; omega⟩, by simp only; rw [length_insL]; omega, by simp only; omega, fun y hy => ?_, fun k v hk => ?_, h.c0, h.c1⟩
        · rcases mem_insL hy with rfl | hy
          · exact ⟨by simp only; omega, by simp only; omega, by simp only; omega, by simp only; omega, by simp only; omega, by simp only; omega⟩
          · exact h.list.ok y hy
        · rcases mem_insL hy with rfl | hy
          · exact mget_mput_same _
          · simp only; rw [mget_mput_ne (hne y hy)]; exact h.inn y hy
        · simp only at hk
          by_cases e : k = b
          · rw [e, mget_mput_same] at hk; injection hk with hk; exact hk.symm
          · rw [mget_mput_ne e] at hk; exact h.tru k v hk

end Go.Proofs.Yticcfpmehjcjcaa
