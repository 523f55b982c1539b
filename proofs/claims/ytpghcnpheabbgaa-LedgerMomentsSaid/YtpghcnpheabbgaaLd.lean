/- The ledger: the laws. -/
import Derived.Test.YtpghcnpheabbgaaLc
namespace Go.Proofs.Ytpghcnpheabbgaa
set_option linter.unusedSimpArgs false
set_option linter.unusedVariables false

def grt (l : List Po) : Bool := decide (60 < l.length) || l.any fun p => decide (40 < p.Lines.length)
theorem great_eq (l : List Po) : recyclinglaw48_great l = some (grt l) := by
  unfold recyclinglaw48_great grt
  by_cases h : 60 < l.length
  · simp [h, show (60 : Int) < (l.length : Nat) by omega]
  · have := iter_firstI (body := recyclinglaw48_great_l1 l) l (fun _ p => if (fun p : Po => decide (40 < p.Lines.length)) p = true then some (.inr true) else none) (.inl () : Unit ⊕ Bool) (by omega) (fun k p hp => by
      have hk := lt_of_get hp
      have hk2 : ((k : Int) < (l.length : Nat)) := by omega
      simp only [recyclinglaw48_great_l1, hk2, decide_true, cond_true, getI_nat, hp, Option.bind_some]
      by_cases h : 40 < p.Lines.length
      · simp [h, show (40 : Int) < (p.Lines.length : Nat) by omega]
      · simp [h, show ¬ (40 : Int) < (p.Lines.length : Nat) by omega]) (by simp [recyclinglaw48_great_l1]) (((l.length : Nat) : Int).toNat + 1) (by simp)
    rw [loop_id] at this
    rw [this]
    cases (l.any fun p => decide (40 < p.Lines.length)) <;> simp [h, show ¬ (60 : Int) < (l.length : Nat) by omega, osum]
theorem grt_h {l : List Po} (h : grt l = false) : l.length ≤ 60 ∧ ∀ p ∈ l, p.Lines.length ≤ 40 := by
  unfold grt at h
  rw [Bool.or_eq_false_iff] at h
  refine ⟨by have := h.1; simp at this; omega, fun p hp => ?_⟩
  have := (List.any_eq_false.1 h.2) p hp
  simp at this
  omega
abbrev Sp := Le × List Po
def nx (s : Sp) (p : Po) : Sp := if postR s.2 p = 0 then (((ledger_Ledger_Post s.1 p).getD (0, s.1)).2, s.2 ++ [p]) else s
theorem nx_zero {s : Sp} {p : Po} (h : postR s.2 p = 0) : (nx s p).2 = s.2 ++ [p] := by unfold nx; rw [if_pos h]
theorem nx_ne {s : Sp} {p : Po} (h : ¬ postR s.2 p = 0) : nx s p = s := by unfold nx; rw [if_neg h]
structure Ls (s : Sp) (n : Nat) : Prop where
  v : Lv s.1 s.2
  len : s.2.length ≤ n
theorem nx_spec {s : Sp} {n : Nat} (v : Ls s n) (hn : n ≤ 100) (p : Po) (hp : p.Lines.length ≤ 40) :
    ledger_Ledger_Post s.1 p = some (postR s.2 p, (nx s p).1) ∧ (∀ F, 16 < F → recyclingref48_Post F s.2 p = some ((nx s p).2, postR s.2 p)) ∧ Ls (nx s p) (n + 1) := by
  have hl := v.len
  obtain ⟨q', h1, h2, h3⟩ := Post_eq v.v (by omega) p (by omega)
  unfold nx
  by_cases h : postR s.2 p = 0
  · rw [if_pos h, h1]
    refine ⟨rfl, fun F hF => ?_, ⟨h2 h, by simp; omega⟩⟩
    rw [RPost_eq (by omega) v.v.vp p (by omega) hF, if_pos h]
  · rw [if_neg h, h1, h3 h]
    refine ⟨rfl, fun F hF => ?_, ⟨v.v, by omega⟩⟩
    rw [RPost_eq (by omega) v.v.vp p (by omega) hF, if_neg h]
theorem nx_fold : ∀ (l : List Po) (s : Sp) (n : Nat), Ls s n → n + l.length ≤ 100 → (∀ p ∈ l, p.Lines.length ≤ 40) → Ls (l.foldl nx s) (n + l.length)
  | [], s, n, v, _, _ => v
  | p :: l, s, n, v, hn, hp => by
    simp only [List.length_cons] at hn
    have h1 := (nx_spec v (by omega) p (hp p (by simp))).2.2
    have := nx_fold l (nx s p) (n + 1) h1 (by omega) fun q hq => hp q (by simp [hq])
    rw [List.length_cons, show n + (l.length + 1) = n + 1 + l.length by omega]
    exact this
abbrev s0 : Sp := (⟨[], []⟩, [])
theorem ls0 : Ls s0 0 := ⟨Lv.new, by simp⟩
theorem ls_take {l : List Po} (hl : l.length ≤ 60) (hp : ∀ p ∈ l, p.Lines.length ≤ 40) {k : Nat} (hk : k ≤ l.length) : Ls ((l.take k).foldl nx s0) k := by
  have := nx_fold (l.take k) s0 0 ls0 (by rw [length_take' hk]; omega) fun p h => hp p (List.mem_of_mem_take h)
  rwa [length_take' hk, Nat.zero_add] at this
theorem ls_all {l : List Po} (hl : l.length ≤ 60) (hp : ∀ p ∈ l, p.Lines.length ≤ 40) : Ls (l.foldl nx s0) 60 := by
  have := ls_take hl hp (Nat.le_refl l.length)
  rw [List.take_length] at this
  exact ⟨this.v, by have := this.len; omega⟩
theorem new_eq : ledger_New = some ⟨[], []⟩ := rfl
theorem vp_lines {h : List Po} (v : ∀ p ∈ h, Vp p) : ∀ p ∈ h, p.Lines.length ≤ 1000 := fun p hp => by have := (v p hp).len; omega
theorem recyclinglaw48_LedgerPosts_true (l : List Po) (_ : ∀ p ∈ l, wf_api_Posting p) : ∃ F, recyclinglaw48_LedgerPosts F l = some true := by
  refine ⟨1000, ?_⟩
  unfold recyclinglaw48_LedgerPosts
  rw [great_eq]
  cases hg : grt l with
  | true => simp [awake_true]
  | false =>
    obtain ⟨hl, hp⟩ := grt_h hg
    have := iter_stI (body := recyclinglaw48_LedgerPosts_l1 1000 l) l (fun k => (l.take k).foldl nx s0) (fun m k => (m.1, m.2, k)) (fun _ _ => none) (.inl (l.foldl nx s0) : Sp ⊕ Bool) (by omega) (fun k p hx _ => ?_) (fun _ => by simp [recyclinglaw48_LedgerPosts_l1, oun]) (((l.length : Nat) : Int).toNat + 1) (by simp)
    · rw [firstI_none _ 0 fun _ _ _ => rfl] at this
      have this : iter (recyclinglaw48_LedgerPosts_l1 1000 l) (((l.length : Nat) : Int).toNat + 1) (⟨[], []⟩, [], 0) = some (.inl (l.foldl nx s0)) := this
      have v := ls_all hl hp
      have hlen := v.len
      have hac := Accounts_eq v.v hlen
      have hra := RAccounts_eq hlen v.v.vp (F := 1000) (by omega)
      have hb := accs_len v.v.vp
      have hbl := (insR_fold (accs (l.foldl nx s0).2) [] List.Pairwise.nil).2.2
      have hpo := Postings_eq (l.foldl nx s0).1 (by rw [v.v.eq]; omega) (by rw [v.v.eq]; exact vp_lines v.v.vp)
      rw [v.v.eq] at hpo
      simp only [Option.bind_some, cond_false, new_eq, this, osum, oun, hpo, Same_self _ (show (l.foldl nx s0).2.length ≤ 1000 by omega) (vp_lines v.v.vp), cond_true, hac, hra, SameInts_self _ (show ((accs (l.foldl nx s0).2).foldl insR []).length ≤ 1000000 by simp at hbl; omega), awake_true]
    · have hk := lt_of_get hx
      have hk2 : ((k : Int) < (l.length : Nat)) := by omega
      obtain ⟨h1, h2, _⟩ := nx_spec (ls_take hl hp (Nat.le_of_lt hk)) (by omega) p (hp p (List.mem_of_getElem? hx))
      simp only [recyclinglaw48_LedgerPosts_l1, oun, hk2, decide_true, cond_true, getI_nat, hx, Option.bind_some, h1, h2 1000 (by omega), Bool.not_true, cond_false, pickO_none, take_succ' hx, List.foldl_append, List.foldl_cons, List.foldl_nil]
theorem filled_eq {l : List Po} (hl : l.length ≤ 60) (hp : ∀ p ∈ l, p.Lines.length ≤ 40) {F : Nat} (hF : 16 < F) : recyclinglaw48_filled F l = some (l.foldl nx s0) := by
  have := iter_stI (body := recyclinglaw48_filled_l1 F l) l (fun k => (l.take k).foldl nx s0) (fun m k => (m.1, m.2, k)) (fun _ _ => none) (l.foldl nx s0) (by omega) (fun k p hx _ => ?_) (fun _ => by simp [recyclinglaw48_filled_l1, oun]) (((l.length : Nat) : Int).toNat + 1) (by simp)
  · rw [firstI_none _ 0 fun _ _ _ => rfl] at this
    have this : iter (recyclinglaw48_filled_l1 F l) (((l.length : Nat) : Int).toNat + 1) (⟨[], []⟩, [], 0) = some (l.foldl nx s0) := this
    unfold recyclinglaw48_filled
    simp only [new_eq, Option.bind_some, this, oun]
  · have hk := lt_of_get hx
    have hk2 : ((k : Int) < (l.length : Nat)) := by omega
    obtain ⟨h1, h2, _⟩ := nx_spec (ls_take hl hp (Nat.le_of_lt hk)) (by omega) p (hp p (List.mem_of_getElem? hx))
    simp only [recyclinglaw48_filled_l1, oun, hk2, decide_true, cond_true, getI_nat, hx, Option.bind_some, h1, h2 F hF, pickO_none, take_succ' hx, List.foldl_append, List.foldl_cons, List.foldl_nil]
theorem Balance_eq {q : Le} {h : List Po} (v : Lv q h) (a : Int) : ledger_Ledger_Balance q a = some (bal h a 3155759999, q) := by
  unfold ledger_Ledger_Balance
  rw [v.get a]
theorem recyclinglaw48_LedgerBalances_true (l : List Po) (a t : Int) (_ : ∀ p ∈ l, wf_api_Posting p) (_ : wfI .i64 a) (_ : wfI .i64 t) : ∃ F, recyclinglaw48_LedgerBalances F l a t = some true := by
  refine ⟨1000, ?_⟩
  unfold recyclinglaw48_LedgerBalances
  rw [great_eq]
  cases hg : grt l with
  | true => simp [awake_true]
  | false =>
    obtain ⟨hl, hp⟩ := grt_h hg
    have v := ls_all hl hp
    have hlen := v.len
    have hat := At_eq (q := (l.foldl nx s0).1) (by rw [v.v.eq]; omega) (by rw [v.v.eq]; exact v.v.vp) (by rw [v.v.eq]; exact v.v.srt) a t
    rw [v.v.eq] at hat
    simp only [Option.bind_some, cond_false, filled_eq hl hp (F := 1000) (by omega), oun, Balance_eq v.v, RBalance_eq (h := (l.foldl nx s0).2) (by omega) v.v.vp a 3155759999 (F := 1000) (by omega), decide_true, cond_true, hat, RBalance_eq (h := (l.foldl nx s0).2) (by omega) v.v.vp a t (F := 1000) (by omega), awake_true]

/-! all balances together -/
theorem sum_accs {A : List Int} (hn : A.Nodup) : ∀ (ls : List Ln), (∀ x ∈ ls, x.Account ∈ A) → sumBy (fun a => lnA a ls) A = amt ls
  | [], _ => by
    have : sumBy (fun a => lnA a ([] : List Ln)) A = sumBy (fun _ => 0) A := sumBy_congr fun a _ => rfl
    rw [this, sumBy_zero]; rfl
  | x :: ls, h => by
    have e : sumBy (fun a => lnA a (x :: ls)) A = sumBy (fun a => (if x.Account = a then x.Amount else 0) + lnA a ls) A := sumBy_congr fun a _ => by unfold lnA; rw [sumBy_cons]
    rw [e, sumBy_add, sum_accs hn ls fun y hy => h y (by simp [hy])]
    have one : ∀ (A : List Int), A.Nodup → x.Account ∈ A → sumBy (fun a => if x.Account = a then x.Amount else 0) A = x.Amount := by
      intro A
      induction A with
      | nil => intro _ h; cases h
      | cons b A ih =>
        intro hn hm
        rw [List.nodup_cons] at hn
        rw [sumBy_cons]
        by_cases hb : x.Account = b
        · rw [if_pos hb, sumBy_congr (g := fun _ => 0) fun a ha => by rw [if_neg]; intro e; exact hn.1 (by rw [← hb, e]; exact ha), sumBy_zero]
          omega
        · rw [if_neg hb, ih hn.2 (by rcases List.mem_cons.1 hm with e | e; exact absurd e hb; exact e)]
          omega
    rw [one A hn (h x (by simp))]
    unfold amt
    rw [sumBy_cons]
theorem sum_zero {A : List Int} (hn : A.Nodup) (t : Int) : ∀ (h : List Po), (∀ p ∈ h, Vp p) → (∀ a ∈ accs h, a ∈ A) → sumBy (fun a => bal h a t) A = 0
  | [], _, _ => by
    have : sumBy (fun a => bal [] a t) A = sumBy (fun _ => 0) A := sumBy_congr fun a _ => rfl
    rw [this, sumBy_zero]
  | p :: h, v, hm => by
    have e : sumBy (fun a => bal (p :: h) a t) A = sumBy (fun a => (if p.At ≤ t then lnA a p.Lines else 0) + bal h a t) A := sumBy_congr fun a _ => by unfold bal; rw [sumBy_cons]
    have hs : accs (p :: h) = p.Lines.map (·.Account) ++ accs h := by simp [accs]
    rw [e, sumBy_add, sum_zero hn t h (fun q hq => v q (by simp [hq])) fun a ha => hm a (by rw [hs]; exact List.mem_append_right _ ha)]
    by_cases ht : p.At ≤ t
    · rw [sumBy_congr (g := fun a => lnA a p.Lines) fun a _ => by rw [if_pos ht], sum_accs hn p.Lines fun x hx => hm _ (by rw [hs]; exact List.mem_append_left _ (List.mem_map.2 ⟨x, hx, rfl⟩)), (v p (by simp)).sum]
      omega
    · rw [sumBy_congr (g := fun _ => 0) fun a _ => by rw [if_neg ht], sumBy_zero]
      omega
theorem recyclinglaw48_LedgerZero_true (l : List Po) (t : Int) (_ : ∀ p ∈ l, wf_api_Posting p) (_ : wfI .i64 t) : recyclinglaw48_LedgerZero l t = some true := by
  unfold recyclinglaw48_LedgerZero
  rw [great_eq]
  cases hg : grt l with
  | true => simp [awake_true]
  | false =>
    obtain ⟨hl, hp⟩ := grt_h hg
    have v := ls_all hl hp
    have hlen := v.len
    have l1 := iter_stI (body := recyclinglaw48_LedgerZero_l1 l) l (fun k => ((l.take k).foldl nx s0).1) (fun m k => (m, k)) (fun _ _ => none) (l.foldl nx s0).1 (by omega) (fun k p hx _ => by
      have hk := lt_of_get hx
      have hk2 : ((k : Int) < (l.length : Nat)) := by omega
      obtain ⟨h1, _, _⟩ := nx_spec (ls_take hl hp (Nat.le_of_lt hk)) (by omega) p (hp p (List.mem_of_getElem? hx))
      simp only [recyclinglaw48_LedgerZero_l1, oun, hk2, decide_true, cond_true, getI_nat, hx, Option.bind_some, h1, pickO_none, take_succ' hx, List.foldl_append, List.foldl_cons, List.foldl_nil]) (fun _ => by simp [recyclinglaw48_LedgerZero_l1, oun]) (((l.length : Nat) : Int).toNat + 1) (by simp)
    rw [firstI_none _ 0 fun _ _ _ => rfl] at l1
    have l1 : iter (recyclinglaw48_LedgerZero_l1 l) (((l.length : Nat) : Int).toNat + 1) (⟨[], []⟩, 0) = some (l.foldl nx s0).1 := l1
    have hac := Accounts_eq v.v hlen
    have hb := accs_len v.v.vp
    obtain ⟨b1, b2, b3⟩ := insR_fold (accs (l.foldl nx s0).2) [] List.Pairwise.nil
    simp only [List.length_nil, Nat.zero_add] at b3
    generalize hA : (accs (l.foldl nx s0).2).foldl insR [] = A at *
    generalize hh : (l.foldl nx s0).2 = h at *
    generalize hq : (l.foldl nx s0).1 = q at *
    have lv : Lv q h := by rw [← hq, ← hh]; exact v.v
    have bb : ∀ (t : Int) (k : Nat), k ≤ A.length → -960000000000000000 ≤ sumBy (fun a => bal h a t) (A.take k) ∧ sumBy (fun a => bal h a t) (A.take k) ≤ 960000000000000000 := by
      intro t k hk
      have := sumBy_abs (f := fun a => bal h a t) (B := 1000000000000000) (l := A.take k) fun a _ => by have := bal_bound lv.vp a t; omega
      rw [length_take' hk] at this
      omega
    have hat : ∀ a, ledger_Ledger_At q a t = some (bal h a t, q) := fun a => by
      have := At_eq (q := q) (by rw [lv.eq]; omega) (by rw [lv.eq]; exact lv.vp) (by rw [lv.eq]; exact lv.srt) a t
      rwa [lv.eq] at this
    have l2 := iter_stI (body := recyclinglaw48_LedgerZero_l2 t A) A (fun k => (q, sumBy (fun a => bal h a 3155759999) (A.take k), sumBy (fun a => bal h a t) (A.take k))) (fun m k => (m.1, m.2.1, m.2.2, k)) (fun _ _ => none)
      (.inl (sumBy (fun a => bal h a 3155759999) A, sumBy (fun a => bal h a t) A) : (Int × Int) ⊕ Bool) (by omega) (fun k a hx _ => by
      have hk := lt_of_get hx
      have hk2 : ((k : Int) < (A.length : Nat)) := by omega
      have c1 := bb 3155759999 k (Nat.le_of_lt hk)
      have c2 := bb t k (Nat.le_of_lt hk)
      have c3 := bal_bound lv.vp a t
      have c4 := lv.bnd a
      simp only [recyclinglaw48_LedgerZero_l2, oun, hk2, decide_true, cond_true, getI_nat, hx, Option.bind_some, Balance_eq lv, inM_eq, show inM (bal h a 3155759999) = true from decide_eq_true c4, Bool.not_true, cond_false, hat, pickO_none, take_succ' hx, sumBy_append, sumBy_cons, sumBy_nil, Int.add_zero]
      rw [w64_eq (n := _ + bal h a 3155759999) (by omega) (by omega), w64_eq (n := _ + bal h a t) (by omega) (by omega)]) (fun _ => by simp [recyclinglaw48_LedgerZero_l2, oun]) (((A.length : Nat) : Int).toNat + 1) (by simp)
    rw [firstI_none _ 0 fun _ _ _ => rfl] at l2
    have l2 : iter (recyclinglaw48_LedgerZero_l2 t A) (((A.length : Nat) : Int).toNat + 1) (q, 0, 0, 0) = some (.inl (sumBy (fun a => bal h a 3155759999) A, sumBy (fun a => bal h a t) A)) := l2
    have hnd : A.Nodup := List.nodup_iff_pairwise_ne.2 (b1.imp fun h => by omega)
    have hm : ∀ a ∈ accs h, a ∈ A := fun a ha => (b2 a).2 (.inr ha)
    rw [sum_zero hnd 3155759999 h lv.vp hm, sum_zero hnd t h lv.vp hm] at l2
    simp only [Option.bind_some, cond_false, new_eq, l1, hac, oun, l2, osum, decide_true, cond_true, awake_true]

/-! moments -/
def ms (t : Int) (s : Sp × Sp) (p : Po) : Sp × Sp := (nx s.1 p, if postR s.1.2 p = 0 ∧ p.At ≤ t then nx s.2 p else s.2)
structure Mo (t : Int) (s : Sp × Sp) (n : Nat) : Prop where
  a : Ls s.1 n
  b : Ls s.2 n
  eq : s.2.2 = s.1.2.filter fun p => decide (p.At ≤ t)
theorem late_h {h : List Po} {p : Po} (hs : Srt h) (hl : late h p = false) : ∀ r ∈ h, r.At ≤ p.At := by
  intro r hr
  obtain ⟨i, hi⟩ := List.getElem?_of_mem hr
  have hil := lt_of_get hi
  have hlast : h[h.length - 1]? = some h[h.length - 1] := List.getElem?_eq_getElem (by omega)
  unfold late at hl
  rw [hlast] at hl
  simp only [decide_eq_false_iff_not] at hl
  rw [List.getElem?_eq_getElem hil] at hi; injection hi with hi
  rcases Nat.lt_or_ge i (h.length - 1) with hlt | hge
  · have := List.pairwise_iff_getElem.1 hs i (h.length - 1) hil (by omega) hlt
    rw [hi] at this
    omega
  · have : i = h.length - 1 := by omega
    subst this
    rw [hi] at hl
    omega
theorem post_late {h : List Po} {p : Po} (h0 : postR h p = 0) : late h p = false := by
  cases hx : late h p with
  | false => rfl
  | true =>
    unfold postR accR at h0
    by_cases hc : chkP p = 0
    · cases hi : idIn h p <;> simp [hc, hx, hi] at h0
    · simp [hc] at h0
theorem Mo.step {t : Int} {s : Sp × Sp} {n : Nat} (m : Mo t s n) (hn : n ≤ 99) (p : Po) (hp : p.Lines.length ≤ 40) : Mo t (ms t s p) (n + 1) ∧ (postR s.1.2 p = 0 → p.At ≤ t → postR s.2.2 p = 0) := by
  obtain ⟨_, _, g1⟩ := nx_spec m.a (by omega) p hp
  obtain ⟨_, _, g2⟩ := nx_spec m.b (by omega) p hp
  have key : postR s.1.2 p = 0 → p.At ≤ t → s.2.2 = s.1.2 := by
    intro h0 ht
    rw [m.eq, List.filter_eq_self]
    intro r hr
    have := late_h m.a.v.srt (post_late h0) r hr
    simp; omega
  refine ⟨⟨g1, ?_, ?_⟩, fun h0 ht => by rw [key h0 ht]; exact h0⟩
  · unfold ms
    by_cases hc : postR s.1.2 p = 0 ∧ p.At ≤ t
    · rw [if_pos hc]; exact g2
    · rw [if_neg hc]; exact ⟨m.b.v, Nat.le_succ_of_le m.b.len⟩
  · unfold ms nx
    by_cases h0 : postR s.1.2 p = 0
    · by_cases ht : p.At ≤ t
      · have h2 : postR s.2.2 p = 0 := by rw [key h0 ht]; exact h0
        simp only [h0, ht, and_self, if_true, h2, List.filter_append, ← m.eq]
        simp [ht]
      · simp only [h0, ht, and_false, if_true, if_false, List.filter_append, ← m.eq]
        simp [ht]
    · simp [h0, m.eq]
theorem mo_take {t : Int} {l : List Po} (hl : l.length ≤ 60) (hp : ∀ p ∈ l, p.Lines.length ≤ 40) : ∀ (k : Nat), k ≤ l.length → Mo t ((l.take k).foldl (ms t) (s0, s0)) k
  | 0, _ => ⟨ls0, ls0, rfl⟩
  | k + 1, hk => by
    have hx : l[k]? = some l[k] := List.getElem?_eq_getElem (by omega)
    have := (mo_take (t := t) hl hp k (by omega)).step (by omega) l[k] (hp _ (List.getElem_mem _))
    rw [take_succ' hx, List.foldl_append]
    exact this.1
theorem recyclinglaw48_LedgerMoments_true (l : List Po) (a t : Int) (_ : ∀ p ∈ l, wf_api_Posting p) (_ : wfI .i64 a) (_ : wfI .i64 t) : recyclinglaw48_LedgerMoments l a t = some true := by
  unfold recyclinglaw48_LedgerMoments
  rw [great_eq]
  cases hg : grt l with
  | true => simp [awake_true]
  | false =>
    obtain ⟨hl, hp⟩ := grt_h hg
    have l1 := iter_stI (body := recyclinglaw48_LedgerMoments_l1 l t) l (fun k => (l.take k).foldl (ms t) (s0, s0)) (fun m k => (m.1.1, m.2.1, k)) (fun _ _ => none) (.inl ((l.foldl (ms t) (s0, s0)).1.1, (l.foldl (ms t) (s0, s0)).2.1) : (Le × Le) ⊕ Bool) (by omega) (fun k p hx _ => by
      have hk := lt_of_get hx
      have hk2 : ((k : Int) < (l.length : Nat)) := by omega
      have m := mo_take (t := t) hl hp k (Nat.le_of_lt hk)
      have hpl := hp p (List.mem_of_getElem? hx)
      obtain ⟨h1, _, _⟩ := nx_spec m.a (by omega) p hpl
      obtain ⟨h2, _, _⟩ := nx_spec m.b (by omega) p hpl
      have h3 := (m.step (by omega) p hpl).2
      simp only [recyclinglaw48_LedgerMoments_l1, oun, hk2, decide_true, cond_true, getI_nat, hx, Option.bind_some, h1, take_succ' hx, List.foldl_append, List.foldl_cons, List.foldl_nil, pickO_none]
      by_cases h0 : postR ((l.take k).foldl (ms t) (s0, s0)).1.2 p = 0
      · by_cases ht : p.At ≤ t
        · simp [h0, ht, h2, h3 h0 ht, ms]
        · simp [h0, ht, ms]
      · simp [h0, ms]) (fun _ => by simp [recyclinglaw48_LedgerMoments_l1, oun]) (((l.length : Nat) : Int).toNat + 1) (by simp)
    rw [firstI_none _ 0 fun _ _ _ => rfl] at l1
    have l1 : iter (recyclinglaw48_LedgerMoments_l1 l t) (((l.length : Nat) : Int).toNat + 1) (⟨[], []⟩, ⟨[], []⟩, 0) = some (.inl ((l.foldl (ms t) (s0, s0)).1.1, (l.foldl (ms t) (s0, s0)).2.1)) := l1
    have m := mo_take (t := t) hl hp l.length (Nat.le_refl _)
    rw [List.take_length] at m
    have hlen := m.a.len
    have hat : ∀ t', ledger_Ledger_At (l.foldl (ms t) (s0, s0)).1.1 a t' = some (bal (l.foldl (ms t) (s0, s0)).1.2 a t', (l.foldl (ms t) (s0, s0)).1.1) := fun t' => by
      have := At_eq (q := (l.foldl (ms t) (s0, s0)).1.1) (by rw [m.a.v.eq]; omega) (by rw [m.a.v.eq]; exact m.a.v.vp) (by rw [m.a.v.eq]; exact m.a.v.srt) a t'
      rwa [m.a.v.eq] at this
    have hfin : bal (l.foldl (ms t) (s0, s0)).1.2 a t = bal (l.foldl (ms t) (s0, s0)).2.2 a 3155759999 := by
      rw [m.eq]
      unfold bal
      rw [sumBy_filter]
      refine sumBy_congr fun p hpm => ?_
      have := (m.a.v.vp p hpm).at2
      by_cases ht : p.At ≤ t <;> simp [ht, this]
    simp only [Option.bind_some, cond_false, new_eq, l1, osum, oun, Balance_eq m.a.v, hat, decide_true, cond_true, Balance_eq m.b.v, hfin, awake_true]

/-! failures -/
theorem recyclinglaw48_LedgerFails_true (l : List Po) (p : Po) (_ : ∀ p ∈ l, wf_api_Posting p) (_ : wf_api_Posting p) : ∃ F, recyclinglaw48_LedgerFails F l p = some true := by
  refine ⟨1000, ?_⟩
  unfold recyclinglaw48_LedgerFails
  rw [great_eq]
  cases hg : grt l with
  | true => simp [awake_true]
  | false =>
    by_cases hpl : 40 < p.Lines.length
    · simp [show (40 : Int) < (p.Lines.length : Nat) by omega, awake_true]
    · obtain ⟨hl, hp⟩ := grt_h hg
      have v := ls_all hl hp
      have hlen := v.len
      obtain ⟨h1, _, v2⟩ := nx_spec v (by omega) p (by omega)
      have hac := Accounts_eq v.v hlen
      have hb := accs_len v.v.vp
      have b3 := (insR_fold (accs (l.foldl nx s0).2) [] List.Pairwise.nil).2.2
      simp only [List.length_nil, Nat.zero_add] at b3
      have hpo := Postings_eq (l.foldl nx s0).1 (by rw [v.v.eq]; omega) (by rw [v.v.eq]; exact vp_lines v.v.vp)
      rw [v.v.eq] at hpo
      have l1 := iter_stI (body := recyclinglaw48_LedgerFails_l1 p) p.Lines (fun k => (p.Lines.take k).map fun x => bal (l.foldl nx s0).2 x.Account 3155759999) (fun m k => ((l.foldl nx s0).1, m, k)) (fun _ _ => none)
        ((l.foldl nx s0).1, p.Lines.map fun x => bal (l.foldl nx s0).2 x.Account 3155759999) (by omega) (fun k x hx _ => by
        have hk := lt_of_get hx
        have hk2 : ((k : Int) < (p.Lines.length : Nat)) := by omega
        simp only [recyclinglaw48_LedgerFails_l1, oun, hk2, decide_true, cond_true, getI_nat, hx, Option.bind_some, Balance_eq v.v, pickO_none, take_succ' hx, List.map_append]
        rw [appO_eq (by simp; omega)]
        simp) (fun _ => by simp [recyclinglaw48_LedgerFails_l1, oun]) (((p.Lines.length : Nat) : Int).toNat + 1) (by simp)
      rw [firstI_none _ 0 fun _ _ _ => rfl] at l1
      have l1 : iter (recyclinglaw48_LedgerFails_l1 p) (((p.Lines.length : Nat) : Int).toNat + 1) ((l.foldl nx s0).1, [], 0) = some ((l.foldl nx s0).1, p.Lines.map fun x => bal (l.foldl nx s0).2 x.Account 3155759999) := l1
      simp only [Option.bind_some, cond_false, show ¬ (40 : Int) < (p.Lines.length : Nat) by omega, decide_false, filled_eq hl hp (F := 1000) (by omega), oun, hpo, hac, l1, h1]
      by_cases h0 : postR (l.foldl nx s0).2 p = 0
      · have hnx : (nx (l.foldl nx s0) p).2 = (l.foldl nx s0).2 ++ [p] := nx_zero h0
        have hpo2 := Postings_eq (nx (l.foldl nx s0) p).1 (by rw [v2.v.eq]; have := v2.len; omega) (by rw [v2.v.eq]; exact vp_lines v2.v.vp)
        rw [v2.v.eq, hnx] at hpo2
        have hsub : subO ((l.foldl nx s0).2 ++ [p]) 0 (((l.foldl nx s0).2.length : Nat) : Int) = some (l.foldl nx s0).2 := by
          unfold subO
          rw [if_pos (by simp; omega)]
          simp
        have hw : w64 ((((l.foldl nx s0).2.length : Nat) : Int) + 1) = ((((l.foldl nx s0).2 ++ [p]).length : Nat) : Int) := by rw [w64_eq (by omega) (by omega)]; simp
        have hget : getI ((l.foldl nx s0).2 ++ [p]) (((l.foldl nx s0).2.length : Nat) : Int) = some p := by rw [getI_nat]; simp
        simp only [h0, decide_true, cond_true, hpo2, Option.bind_some, hw, hsub, Same_self _ (show (l.foldl nx s0).2.length ≤ 1000 by omega) (vp_lines v.v.vp), hget, SameOne_self p (by omega), awake_true]
      · have hnx : nx (l.foldl nx s0) p = l.foldl nx s0 := nx_ne h0
        have l2 := iter_stI (body := recyclinglaw48_LedgerFails_l2 p (p.Lines.map fun x => bal (l.foldl nx s0).2 x.Account 3155759999)) p.Lines (fun k => (l.foldl nx s0).1) (fun m k => (m, k)) (fun _ _ => none) (.inl (l.foldl nx s0).1 : Le ⊕ Bool) (by omega) (fun k x hx _ => by
          have hk := lt_of_get hx
          have hk2 : ((k : Int) < (p.Lines.length : Nat)) := by omega
          have hm : (p.Lines.map fun x => bal (l.foldl nx s0).2 x.Account 3155759999)[k]? = some (bal (l.foldl nx s0).2 x.Account 3155759999) := by rw [List.getElem?_map, hx]; rfl
          simp only [recyclinglaw48_LedgerFails_l2, oun, hk2, decide_true, cond_true, getI_nat, hx, hm, Option.bind_some, Balance_eq v.v, pickO_none, Bool.not_true, cond_false]) (fun _ => by simp [recyclinglaw48_LedgerFails_l2, oun]) (((p.Lines.length : Nat) : Int).toNat + 1) (by simp)
        rw [firstI_none _ 0 fun _ _ _ => rfl] at l2
        simp only [h0, decide_false, cond_false, hnx, l2, Option.bind_some, osum, hpo, hac, Same_self _ (show (l.foldl nx s0).2.length ≤ 1000 by omega) (vp_lines v.v.vp), cond_true, SameInts_self _ (show ((accs (l.foldl nx s0).2).foldl insR []).length ≤ 1000000 by omega), awake_true]

end Go.Proofs.Ytpghcnpheabbgaa
