/- The ledger: checks and balances. -/
import Derived.Test.YtpghcnpheabbgaaTas
import Derived.Test.YtpghcnpheabbgaaGq
namespace Go.Proofs.Ytpghcnpheabbgaa
set_option linter.unusedSimpArgs false
set_option linter.unusedVariables false

abbrev Po := T_api_Posting
abbrev Ln := T_api_Line
abbrev Le := T_ledger_Ledger
def okL (x : Ln) : Bool := decide (0 ≤ x.Account ∧ x.Account ≤ 1000000 ∧ x.Amount ≠ 0 ∧ -1000000000000 ≤ x.Amount ∧ x.Amount ≤ 1000000000000)
theorem okL_h {x : Ln} (h : okL x = true) : 0 ≤ x.Account ∧ x.Account ≤ 1000000 ∧ x.Amount ≠ 0 ∧ -1000000000000 ≤ x.Amount ∧ x.Amount ≤ 1000000000000 := of_decide_eq_true h
theorem line_eq (x : Ln) : ledger_line x = some (okL x) := by
  unfold ledger_line okL
  by_cases h1 : 0 ≤ x.Account <;> by_cases h2 : x.Account ≤ 1000000 <;> by_cases h3 : x.Amount = 0 <;> by_cases h4 : -1000000000000 ≤ x.Amount <;> simp [h1, h2, h3, h4]
def amt (l : List Ln) : Int := sumBy (·.Amount) l
theorem amt_bound {l : List Ln} (h : ∀ x ∈ l, okL x = true) : -(l.length * 1000000000000) ≤ amt l ∧ amt l ≤ l.length * 1000000000000 :=
  sumBy_abs fun x hx => by have := okL_h (h x hx); omega
def chkP (p : Po) : Int := if p.ID < 1 ∨ 1000000 < p.ID ∨ p.At < 0 ∨ 3155759999 < p.At then 1 else if 16 < p.Lines.length then 8 else if p.Lines.length < 2 then 10 else
  if p.Lines.all okL = true then (if amt p.Lines = 0 then 0 else 16) else 1
theorem head_eq (p : Po) : (bif (decide (p.ID < 1)) then some true else bif (decide (1000000 < p.ID)) then some true else bif (decide (p.At < 0)) then some true else some (decide (3155759999 < p.At))) =
    some (decide (p.ID < 1 ∨ 1000000 < p.ID ∨ p.At < 0 ∨ 3155759999 < p.At)) := by
  by_cases h1 : p.ID < 1 <;> by_cases h2 : 1000000 < p.ID <;> by_cases h3 : p.At < 0 <;> simp [h1, h2, h3]
theorem all_of_none {l : List Ln} {ρ : Type} {o : ρ} (h : ∀ (i : Nat) (x : Ln), l[i]? = some x → (if okL x = true then none else some o) = none) : ∀ x ∈ l, okL x = true := by
  intro x hx
  obtain ⟨i, hi⟩ := List.getElem?_of_mem hx
  have := h i x hi
  by_cases hk : okL x = true
  · exact hk
  · simp [hk] at this
theorem loop_lines {ρ : Type} {o fin : ρ} (l : List Ln) (k : Nat) : firstI (fun _ (x : Ln) => if okL x = true then none else some o) fin k l = if l.all okL = true then fin else o := by
  induction l generalizing k with
  | nil => simp [firstI]
  | cons x l ih =>
    by_cases h : okL x = true
    · simp [firstI, h, ih]
    · simp [firstI, h]
theorem Check_l1 (p : Po) (hl : p.Lines.length ≤ 16) : iter (ledger_Check_l1 p) (((p.Lines.length : Nat) : Int).toNat + 1) (0, 0) = some (if p.Lines.all okL = true then .inl (amt p.Lines) else .inr 1 : Int ⊕ Int) := by
  have := iter_stI (body := ledger_Check_l1 p) p.Lines (fun k => amt (p.Lines.take k)) (fun m k => (m, k)) (fun _ x => if okL x = true then none else some (.inr 1)) (.inl (amt p.Lines)) (by omega) (fun k x hx hno => ?_) (fun _ => by simp [ledger_Check_l1, oun]) (((p.Lines.length : Nat) : Int).toNat + 1) (by simp)
  · rw [loop_lines] at this
    exact this
  · have hk := lt_of_get hx
    have hk2 : ((k : Int) < (p.Lines.length : Nat)) := by omega
    simp only [ledger_Check_l1, oun, hk2, decide_true, cond_true, getI_nat, hx, Option.bind_some, line_eq]
    by_cases h : okL x = true
    · have hb := amt_bound (l := p.Lines.take k) (all_of_none (o := (.inr 1 : Int ⊕ Int)) fun i y hy => by
        rw [List.getElem?_take] at hy
        split at hy
        · exact hno i y (by assumption) hy
        · cases hy)
      have hx2 := okL_h h
      rw [length_take' (Nat.le_of_lt hk)] at hb
      rw [w64_eq (n := amt (p.Lines.take k) + x.Amount) (by omega) (by omega)]
      simp only [h, Bool.not_true, cond_false, if_true, pickO_none, take_succ' hx]
      simp [amt, sumBy_append]
    · simp [h]
theorem Check_eq (p : Po) (hl : p.Lines.length ≤ 1000) : ledger_Check p = some (chkP p) := by
  unfold ledger_Check chkP
  rw [head_eq]
  by_cases h0 : p.ID < 1 ∨ 1000000 < p.ID ∨ p.At < 0 ∨ 3155759999 < p.At
  · simp [h0]
  · by_cases h1 : 16 < p.Lines.length
    · simp [h0, h1, show (16 : Int) < (p.Lines.length : Nat) by omega]
    · by_cases h2 : p.Lines.length < 2
      · simp [h0, h1, h2, show ¬ (16 : Int) < (p.Lines.length : Nat) by omega, show ((p.Lines.length : Nat) : Int) < 2 by omega]
      · simp only [h0, h1, h2, decide_false, if_false, Option.bind_some, cond_false, show ¬ (16 : Int) < (p.Lines.length : Nat) by omega, show ¬ ((p.Lines.length : Nat) : Int) < 2 by omega, Check_l1 p (by omega)]
        by_cases h3 : p.Lines.all okL = true
        · by_cases h4 : amt p.Lines = 0 <;> simp [h3, h4, osum]
        · rw [Bool.not_eq_true] at h3
          simp [h3, osum]
theorem RCheck_l1 (p : Po) (hl : p.Lines.length ≤ 16) : iter (recyclingref48_Check_l1 p) (((p.Lines.length : Nat) : Int).toNat + 1) 0 = some (if p.Lines.all okL = true then .inl () else .inr 1 : Unit ⊕ Int) := by
  have := iter_firstI (body := recyclingref48_Check_l1 p) p.Lines (fun _ x => if okL x = true then none else some (.inr 1)) (.inl ()) (by omega) (fun k x hx => ?_) (by simp [recyclingref48_Check_l1]) (((p.Lines.length : Nat) : Int).toNat + 1) (by simp)
  · rw [loop_lines] at this
    exact this
  · have hk := lt_of_get hx
    have hk2 : ((k : Int) < (p.Lines.length : Nat)) := by omega
    simp only [recyclingref48_Check_l1, hk2, decide_true, cond_true, getI_nat, hx, Option.bind_some]
    unfold okL
    by_cases h1 : x.Account < 0
    · simp [h1, show ¬ 0 ≤ x.Account by omega]
    · by_cases h2 : 1000000 < x.Account
      · simp [h1, h2, show ¬ x.Account ≤ 1000000 by omega]
      · by_cases h3 : x.Amount = 0
        · simp [h1, h2, h3]
        · by_cases h4 : x.Amount < -1000000000000
          · simp [h1, h2, h3, h4, show ¬ -1000000000000 ≤ x.Amount by omega]
          · by_cases h5 : 1000000000000 < x.Amount
            · simp [h1, h2, h3, h4, h5, show ¬ x.Amount ≤ 1000000000000 by omega]
            · have : 0 ≤ x.Account ∧ x.Account ≤ 1000000 ∧ x.Amount ≠ 0 ∧ -1000000000000 ≤ x.Amount ∧ x.Amount ≤ 1000000000000 := ⟨by omega, by omega, h3, by omega, by omega⟩
              simp only [h1, h2, h3, h4, h5, decide_false, cond_false, Option.bind_some, decide_eq_true this, if_true, pickO_none]
theorem RCheck_l2 (p : Po) (hl : p.Lines.length ≤ 16) (ha : ∀ x ∈ p.Lines, okL x = true) : iter (recyclingref48_Check_l2 p) (((p.Lines.length : Nat) : Int).toNat + 1) (0, 0) = some (amt p.Lines) := by
  have := iter_stI (body := recyclingref48_Check_l2 p) p.Lines (fun k => amt (p.Lines.take k)) (fun m k => (m, k)) (fun _ _ => none) (amt p.Lines) (by omega) (fun k x hx hno => ?_) (fun _ => by simp [recyclingref48_Check_l2, oun]) (((p.Lines.length : Nat) : Int).toNat + 1) (by simp)
  · rw [firstI_none _ 0 fun _ _ _ => rfl] at this
    exact this
  · have hk := lt_of_get hx
    have hk2 : ((k : Int) < (p.Lines.length : Nat)) := by omega
    have hb := amt_bound (l := p.Lines.take k) fun y hy => ha y (List.mem_of_mem_take hy)
    have hx2 := okL_h (ha x (List.mem_of_getElem? hx))
    rw [length_take' (Nat.le_of_lt hk)] at hb
    simp only [recyclingref48_Check_l2, oun, hk2, decide_true, cond_true, getI_nat, hx, Option.bind_some, pickO_none, take_succ' hx]
    rw [w64_eq (n := amt (p.Lines.take k) + x.Amount) (by omega) (by omega)]
    simp [amt, sumBy_append]
theorem RCheck_eq (p : Po) (hl : p.Lines.length ≤ 1000) : recyclingref48_Check p = some (chkP p) := by
  unfold recyclingref48_Check chkP
  rw [head_eq]
  by_cases h0 : p.ID < 1 ∨ 1000000 < p.ID ∨ p.At < 0 ∨ 3155759999 < p.At
  · simp [h0]
  · by_cases h1 : 16 < p.Lines.length
    · simp [h0, h1, show (16 : Int) < (p.Lines.length : Nat) by omega]
    · by_cases h2 : p.Lines.length < 2
      · simp [h0, h1, h2, show ¬ (16 : Int) < (p.Lines.length : Nat) by omega, show ((p.Lines.length : Nat) : Int) < 2 by omega]
      · simp only [h0, h1, h2, decide_false, if_false, Option.bind_some, cond_false, show ¬ (16 : Int) < (p.Lines.length : Nat) by omega, show ¬ ((p.Lines.length : Nat) : Int) < 2 by omega, RCheck_l1 p (by omega)]
        by_cases h3 : p.Lines.all okL = true
        · rw [RCheck_l2 p (by omega) (List.all_eq_true.1 h3)]
          by_cases h4 : amt p.Lines = 0 <;> simp [h3, h4, osum]
        · rw [Bool.not_eq_true] at h3
          simp [h3, osum]
structure Vp (p : Po) : Prop where
  id1 : 1 ≤ p.ID
  id2 : p.ID ≤ 1000000
  at1 : 0 ≤ p.At
  at2 : p.At ≤ 3155759999
  len : p.Lines.length ≤ 16
  ok : ∀ x ∈ p.Lines, okL x = true
  sum : amt p.Lines = 0
theorem Vp.of {p : Po} (h : chkP p = 0) : Vp p := by
  unfold chkP at h
  by_cases h0 : p.ID < 1 ∨ 1000000 < p.ID ∨ p.At < 0 ∨ 3155759999 < p.At
  · simp [h0] at h
  · by_cases h1 : 16 < p.Lines.length
    · simp [h0, h1] at h
    · by_cases h2 : p.Lines.length < 2
      · simp [h0, h1, h2] at h
      · simp only [h0, h1, h2, if_false] at h
        by_cases h3 : p.Lines.all okL = true
        · by_cases h4 : amt p.Lines = 0
          · exact ⟨by omega, by omega, by omega, by omega, by omega, List.all_eq_true.1 h3, h4⟩
          · simp only [h3, h4, if_true, if_false] at h; omega
        · simp only [h3] at h; simp at h
theorem awake_true : recyclinglaw48_awake = some true := by decide +kernel
theorem recyclinglaw48_LedgerChecks_true (p : Po) (_ : wf_api_Posting p) : recyclinglaw48_LedgerChecks p = some true := by
  unfold recyclinglaw48_LedgerChecks
  by_cases h : 40 < p.Lines.length
  · simp [show (40 : Int) < (p.Lines.length : Nat) by omega, awake_true]
  · simp [show ¬ (40 : Int) < (p.Lines.length : Nat) by omega, Check_eq p (by omega), RCheck_eq p (by omega), awake_true]
theorem recyclinglaw48_LedgerNil_true (p : Po) (a t : Int) (_ : wf_api_Posting p) (_ : wfI .i64 a) (_ : wfI .i64 t) : recyclinglaw48_LedgerNil p a t = some true := by
  unfold recyclinglaw48_LedgerNil
  by_cases h : 40 < p.Lines.length
  · simp [show (40 : Int) < (p.Lines.length : Nat) by omega, awake_true]
  · simp [show ¬ (40 : Int) < (p.Lines.length : Nat) by omega, awake_true, ledger_Ledger_Post_nil, ledger_Ledger_Balance_nil, ledger_Ledger_At_nil, ledger_Ledger_Postings_nil, ledger_Ledger_Accounts_nil]

/-! balances -/
def lnA (a : Int) (l : List Ln) : Int := sumBy (fun x => if x.Account = a then x.Amount else 0) l
def bal (h : List Po) (a t : Int) : Int := sumBy (fun p => if p.At ≤ t then lnA a p.Lines else 0) h
theorem lnA_bound {l : List Ln} (a : Int) (h : ∀ x ∈ l, okL x = true) : -(l.length * 1000000000000) ≤ lnA a l ∧ lnA a l ≤ l.length * 1000000000000 :=
  sumBy_abs fun x hx => by have := okL_h (h x hx); by_cases he : x.Account = a <;> simp [he] <;> omega
theorem vp_bound {p : Po} (v : Vp p) (a : Int) : -16000000000000 ≤ lnA a p.Lines ∧ lnA a p.Lines ≤ 16000000000000 := by
  have := lnA_bound a v.ok
  have := v.len
  omega
theorem bal_bound {h : List Po} (v : ∀ p ∈ h, Vp p) (a t : Int) : -(h.length * 16000000000000) ≤ bal h a t ∧ bal h a t ≤ h.length * 16000000000000 :=
  sumBy_abs fun p hp => by have := vp_bound (v p hp) a; by_cases he : p.At ≤ t <;> simp [he] <;> omega
theorem RBalance_l1 {h : List Po} (hl : h.length ≤ 600) (v : ∀ p ∈ h, Vp p) (a t : Int) {i : Nat} {p : Po} (hp : h[i]? = some p) {s : Int} (hs : -10000000000000000 ≤ s ∧ s ≤ 10000000000000000) {F : Nat} (hF : 16 < F) :
    iter (recyclingref48_Balance_l1 h a t (i : Int)) F (s, 0) = some (s + if p.At ≤ t then lnA a p.Lines else 0) := by
  have vp := v p (List.mem_of_getElem? hp)
  have vl := vp.len
  have := iter_stI (body := recyclingref48_Balance_l1 h a t (i : Int)) p.Lines (fun k => s + if p.At ≤ t then lnA a (p.Lines.take k) else 0) (fun m k => (m, k)) (fun _ _ => none) (s + if p.At ≤ t then lnA a p.Lines else 0) (by omega) (fun k x hx _ => ?_) (fun _ => by simp [recyclingref48_Balance_l1, oun, getI_nat, hp]) F (by omega)
  · rw [firstI_none _ 0 fun _ _ _ => rfl] at this
    have e : (s + if p.At ≤ t then lnA a (p.Lines.take 0) else 0) = s := by simp [lnA]
    rw [e] at this
    exact this
  · have hk := lt_of_get hx
    have hk2 : ((k : Int) < (p.Lines.length : Nat)) := by omega
    have hb := lnA_bound (l := p.Lines.take k) a fun y hy => vp.ok y (List.mem_of_mem_take hy)
    have hx2 := okL_h (vp.ok x (List.mem_of_getElem? hx))
    rw [length_take' (Nat.le_of_lt hk)] at hb
    simp only [recyclingref48_Balance_l1, oun, getI_nat, hp, hk2, decide_true, cond_true, hx, Option.bind_some, pickO_none, take_succ' hx]
    by_cases ht : p.At ≤ t
    · by_cases he : x.Account = a
      · simp only [ht, he, decide_true, cond_true, if_true, Option.bind_some]
        rw [w64_eq (n := s + lnA a (p.Lines.take k) + x.Amount) (by omega) (by omega)]
        simp [lnA, sumBy_append, he, Int.add_assoc]
      · simp [ht, he, lnA, sumBy_append]
    · simp [ht]
theorem RBalance_eq {h : List Po} (hl : h.length ≤ 600) (v : ∀ p ∈ h, Vp p) (a t : Int) {F : Nat} (hF : 16 < F) : recyclingref48_Balance F h a t = some (bal h a t) := by
  have := iter_stI (body := recyclingref48_Balance_l2 F h a t) h (fun k => bal (h.take k) a t) (fun m k => (m, k)) (fun _ _ => none) (bal h a t) (by omega) (fun k p hp _ => ?_) (fun _ => by simp [recyclingref48_Balance_l2, oun]) (((h.length : Nat) : Int).toNat + 1) (by simp)
  · rw [firstI_none _ 0 fun _ _ _ => rfl] at this
    unfold recyclingref48_Balance
    rw [show iter (recyclingref48_Balance_l2 F h a t) (((h.length : Nat) : Int).toNat + 1) (0, 0) = some (bal h a t) from this]
    rfl
  · have hk := lt_of_get hp
    have hk2 : ((k : Int) < (h.length : Nat)) := by omega
    have hb := bal_bound (h := h.take k) (fun q hq => v q (List.mem_of_mem_take hq)) a t
    rw [length_take' (Nat.le_of_lt hk)] at hb
    simp only [recyclingref48_Balance_l2, oun, hk2, decide_true, cond_true, Option.bind_some, pickO_none, take_succ' hp, RBalance_l1 hl v a t hp (s := bal (h.take k) a t) (by omega) hF]
    simp [bal, sumBy_append]
def Srt (h : List Po) : Prop := h.Pairwise fun p q => p.At ≤ q.At
theorem At_l1 (a : Int) {p : Po} (vp : Vp p) {s : Int} (hs : -10000000000000000 ≤ s ∧ s ≤ 10000000000000000) : iter (ledger_Ledger_At_l1 a p) (((p.Lines.length : Nat) : Int).toNat + 1) (s, 0) = some (s + lnA a p.Lines) := by
  have vl := vp.len
  have := iter_stI (body := ledger_Ledger_At_l1 a p) p.Lines (fun k => s + lnA a (p.Lines.take k)) (fun m k => (m, k)) (fun _ _ => none) (s + lnA a p.Lines) (by omega) (fun k x hx _ => ?_) (fun _ => by simp [ledger_Ledger_At_l1, oun]) (((p.Lines.length : Nat) : Int).toNat + 1) (by simp)
  · rw [firstI_none _ 0 fun _ _ _ => rfl] at this
    have e : s + lnA a (p.Lines.take 0) = s := by simp [lnA]
    rw [e] at this
    exact this
  · have hk := lt_of_get hx
    have hk2 : ((k : Int) < (p.Lines.length : Nat)) := by omega
    have hb := lnA_bound (l := p.Lines.take k) a fun y hy => vp.ok y (List.mem_of_mem_take hy)
    have hx2 := okL_h (vp.ok x (List.mem_of_getElem? hx))
    rw [length_take' (Nat.le_of_lt hk)] at hb
    simp only [ledger_Ledger_At_l1, oun, getI_nat, hk2, decide_true, cond_true, hx, Option.bind_some, pickO_none, take_succ' hx]
    by_cases he : x.Account = a
    · simp only [he, decide_true, cond_true, Option.bind_some]
      rw [w64_eq (n := s + lnA a (p.Lines.take k) + x.Amount) (by omega) (by omega)]
      simp [lnA, sumBy_append, he, Int.add_assoc]
    · simp [he, lnA, sumBy_append]
theorem bal_late {h : List Po} {a t : Int} (hl : ∀ p ∈ h, t < p.At) : bal h a t = 0 := by
  unfold bal
  rw [sumBy_congr (g := fun _ => 0) fun p hp => by have := hl p hp; rw [if_neg (by omega)], sumBy_zero]
theorem bal_append (h k : List Po) (a t : Int) : bal (h ++ k) a t = bal h a t + bal k a t := sumBy_append _ _ _
theorem At_eq {q : Le} (hl : q.postings.length ≤ 600) (v : ∀ p ∈ q.postings, Vp p) (hs : Srt q.postings) (a t : Int) : ledger_Ledger_At q a t = some (bal q.postings a t, q) := by
  have := iter_stI (body := ledger_Ledger_At_l2 q a t) q.postings (fun k => bal (q.postings.take k) a t) (fun m k => (m, k)) (fun k p => if t < p.At then some (bal (q.postings.take k) a t) else none) (bal q.postings a t) (by omega) (fun k p hp _ => ?_) (fun _ => by simp [ledger_Ledger_At_l2, oun]) (((q.postings.length : Nat) : Int).toNat + 1) (by simp)
  · have hf : firstI (fun k (p : Po) => if t < p.At then some (bal (q.postings.take k) a t) else none) (bal q.postings a t) 0 q.postings = bal q.postings a t := by
      rcases firstI_cases (step := fun k (p : Po) => if t < p.At then some (bal (q.postings.take k) a t) else none) (fin := bal q.postings a t) q.postings 0 with ⟨_, h2⟩ | ⟨i, p, o, h1, h2, h3, _⟩
      · exact h2
      · rw [h3]
        simp only [Nat.zero_add] at h2
        by_cases ht : t < p.At
        · simp only [ht, if_true, Option.some.injEq] at h2
          rw [← h2]
          have e : q.postings = q.postings.take i ++ q.postings.drop i := (List.take_append_drop i _).symm
          conv => rhs; rw [e]
          rw [bal_append, bal_late (h := q.postings.drop i), Int.add_zero]
          intro r hr
          have hi := lt_of_get h1
          rw [List.drop_eq_getElem_cons hi] at hr
          have hpi : q.postings[i] = p := by rw [List.getElem?_eq_getElem hi] at h1; injection h1
          rcases List.mem_cons.1 hr with e2 | e2
          · rw [e2, hpi]; exact ht
          · have hs2 : (q.postings.drop i).Pairwise fun p q => p.At ≤ q.At := hs.sublist (List.drop_sublist _ _)
            rw [List.drop_eq_getElem_cons hi, List.pairwise_cons] at hs2
            have := hs2.1 r e2
            rw [hpi] at this
            omega
        · simp [ht] at h2
    rw [hf] at this
    unfold ledger_Ledger_At
    rw [show iter (ledger_Ledger_At_l2 q a t) (((q.postings.length : Nat) : Int).toNat + 1) (0, 0) = some (bal q.postings a t) from this]
    rfl
  · have hk := lt_of_get hp
    have hk2 : ((k : Int) < (q.postings.length : Nat)) := by omega
    have hb := bal_bound (h := q.postings.take k) (fun r hr => v r (List.mem_of_mem_take hr)) a t
    rw [length_take' (Nat.le_of_lt hk)] at hb
    simp only [ledger_Ledger_At_l2, oun, getI_nat, hk2, decide_true, cond_true, hp, Option.bind_some, take_succ' hp]
    by_cases ht : t < p.At
    · simp [ht, osum]
    · simp only [ht, decide_false, cond_false, Option.bind_some, if_false, pickO_none, At_l1 a (v p (List.mem_of_getElem? hp)) (s := bal (q.postings.take k) a t) (by omega), osum]
      rw [bal_append]
      simp [bal, show p.At ≤ t by omega]

end Go.Proofs.Ytpghcnpheabbgaa
