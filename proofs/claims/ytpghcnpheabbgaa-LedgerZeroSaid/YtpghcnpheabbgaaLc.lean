/- The ledger: lists. -/
import Derived.Test.YtpghcnpheabbgaaLb
namespace Go.Proofs.Ytpghcnpheabbgaa
set_option linter.unusedSimpArgs false
set_option linter.unusedVariables false

/-! copies -/
theorem Postings_eq (q : Le) (hl : q.postings.length ≤ 1000) (hp : ∀ p ∈ q.postings, p.Lines.length ≤ 1000) : ledger_Ledger_Postings q = some (q.postings, q) := by
  have hmk : makeO (T_api_Posting.mk 0 0 []) ((q.postings.length : Nat) : Int) = some (List.replicate q.postings.length (T_api_Posting.mk 0 0 [])) := by
    unfold makeO
    rw [if_pos (by omega)]
    simp
  have := iter_stI (body := ledger_Ledger_Postings_l1 q) q.postings (fun k => q.postings.take k ++ List.replicate (q.postings.length - k) (T_api_Posting.mk 0 0 [])) (fun m k => (m, k)) (fun _ _ => none) q.postings (by omega) (fun k p hx _ => ?_) (fun _ => by simp [ledger_Ledger_Postings_l1, oun]) (((q.postings.length : Nat) : Int).toNat + 1) (by simp)
  · rw [firstI_none _ 0 fun _ _ _ => rfl] at this
    simp only [List.take_zero, List.nil_append, Nat.sub_zero] at this
    unfold ledger_Ledger_Postings
    rw [hmk, Option.bind_some, this]
    rfl
  · have hk := lt_of_get hx
    have hk2 : ((k : Int) < (q.postings.length : Nat)) := by omega
    have hpl := hp p (List.mem_of_getElem? hx)
    have hcl : cloneO p.Lines = some p.Lines := by unfold cloneO; simp; omega
    have hrep : List.replicate (q.postings.length - k) (T_api_Posting.mk 0 0 []) = (T_api_Posting.mk 0 0 []) :: List.replicate (q.postings.length - (k + 1)) (T_api_Posting.mk 0 0 []) := by
      rw [show q.postings.length - k = (q.postings.length - (k + 1)) + 1 by omega, List.replicate_succ]
    have hlen := length_take' (l := q.postings) (Nat.le_of_lt hk)
    have hg : (q.postings.take k ++ List.replicate (q.postings.length - k) (T_api_Posting.mk 0 0 []))[k]? = some (T_api_Posting.mk 0 0 []) := by
      rw [List.getElem?_append_right (by omega), hlen, Nat.sub_self, hrep]
      rfl
    have hset : setI (q.postings.take k ++ List.replicate (q.postings.length - k) (T_api_Posting.mk 0 0 [])) (k : Int) p = q.postings.take (k + 1) ++ List.replicate (q.postings.length - (k + 1)) (T_api_Posting.mk 0 0 []) := by
      unfold setI
      rw [Int.toNat_natCast, List.set_append_right _ _ (by omega), hlen, Nat.sub_self, hrep, List.set_cons_zero, take_succ' hx, List.append_assoc]
      rfl
    have hp2 : (T_api_Posting.mk p.ID p.At p.Lines) = p := rfl
    simp only [ledger_Ledger_Postings_l1, oun, hk2, decide_true, cond_true, getI_nat, hx, Option.bind_some, ledger_copied, hcl, hp2, hg, hset, pickO_none]
theorem SameOne_self (p : Po) (hp : p.Lines.length ≤ 1000) : recyclingref48_SameOne p p = some true := by
  have := iter_firstI p.Lines (body := recyclingref48_SameOne_l1 p p) (fun _ _ => none) (.inl () : Unit ⊕ Bool) (by omega) (fun k x hx => by
    have hk := lt_of_get hx
    have hk2 : ((k : Int) < (p.Lines.length : Nat)) := by omega
    simp [recyclingref48_SameOne_l1, hk2, getI_nat, hx]) (by simp [recyclingref48_SameOne_l1]) (((p.Lines.length : Nat) : Int).toNat + 1) (by simp)
  rw [firstI_none _ 0 fun _ _ _ => rfl] at this
  unfold recyclingref48_SameOne
  rw [this]
  simp [osum]
theorem Same_self (a : List Po) (ha : a.length ≤ 1000) (hp : ∀ p ∈ a, p.Lines.length ≤ 1000) : recyclingref48_Same a a = some true := by
  have := iter_firstI a (body := recyclingref48_Same_l1 a a) (fun _ _ => none) (.inl () : Unit ⊕ Bool) (by omega) (fun k x hx => by
    have hk := lt_of_get hx
    have hk2 : ((k : Int) < (a.length : Nat)) := by omega
    simp [recyclingref48_Same_l1, hk2, getI_nat, hx, SameOne_self x (hp x (List.mem_of_getElem? hx))]) (by simp [recyclingref48_Same_l1]) (((a.length : Nat) : Int).toNat + 1) (by simp)
  rw [firstI_none _ 0 fun _ _ _ => rfl] at this
  unfold recyclingref48_Same
  rw [this]
  simp [osum]
theorem SameInts_self (a : List Int) (ha : a.length ≤ 1000000) : recyclingref48_SameInts a a = some true := by
  have := iter_firstI a (body := recyclingref48_SameInts_l1 a a) (fun _ _ => none) (.inl () : Unit ⊕ Bool) (by omega) (fun k x hx => by
    have hk := lt_of_get hx
    have hk2 : ((k : Int) < (a.length : Nat)) := by omega
    simp [recyclingref48_SameInts_l1, hk2, getI_nat, hx]) (by simp [recyclingref48_SameInts_l1]) (((a.length : Nat) : Int).toNat + 1) (by simp)
  rw [firstI_none _ 0 fun _ _ _ => rfl] at this
  unfold recyclingref48_SameInts
  rw [this]
  simp [osum]

/-! accounts -/
def accs (h : List Po) : List Int := h.flatMap fun p => p.Lines.map (·.Account)
theorem occ_accs {h : List Po} {a : Int} : occ h a = true ↔ a ∈ accs h := by
  unfold occ accs
  simp only [List.any_eq_true, decide_eq_true_eq, List.mem_flatMap, List.mem_map]
theorem accs_len {h : List Po} (v : ∀ p ∈ h, Vp p) : (accs h).length ≤ h.length * 16 := by
  induction h with
  | nil => simp [accs]
  | cons p h ih =>
    have := ih fun q hq => v q (by simp [hq])
    have := (v p (by simp)).len
    simp only [accs, List.flatMap_cons, List.length_append, List.length_map, List.length_cons] at *
    omega
/-- Where a number belongs. -/
def posI (n : Int) (out : List Int) : Int := firstI (fun k (y : Int) => if y < n then none else some (k : Int)) (out.length : Int) 0 out
theorem posI_spec (n : Int) (out : List Int) : ∃ i : Nat, posI n out = (i : Int) ∧ i ≤ out.length ∧ (∀ (j : Nat) (y : Int), j < i → out[j]? = some y → y < n) ∧ ∀ y, out[i]? = some y → ¬ y < n := by
  unfold posI
  rcases firstI_cases (step := fun k (y : Int) => if y < n then none else some (k : Int)) (fin := (out.length : Int)) out 0 with ⟨h1, h2⟩ | ⟨i, y, o, h1, h2, h3, h4⟩
  · refine ⟨out.length, h2, Nat.le_refl _, fun j y hj hy => ?_, fun y hy => by simp at hy⟩
    have := h1 j y hy
    by_cases h : y < n
    · exact h
    · simp [h] at this
  · by_cases h : y < n
    · simp [h] at h2
    · simp only [Nat.zero_add, h, if_false, Option.some.injEq] at h2
      refine ⟨i, by rw [h3, ← h2], Nat.le_of_lt (lt_of_get h1), fun j z hj hz => ?_, fun z hz => by rw [h1] at hz; injection hz with hz; rw [← hz]; exact h⟩
      have := h4 j z hj hz
      by_cases hz2 : z < n
      · exact hz2
      · simp [hz2] at this
def insR (out : List Int) (n : Int) : List Int := if out[(posI n out).toNat]? = some n then out else out.take (posI n out).toNat ++ [n] ++ out.drop (posI n out).toNat
theorem insR_spec {out : List Int} (h : out.Pairwise (· < ·)) (n : Int) : (insR out n).Pairwise (· < ·) ∧ (∀ y, y ∈ insR out n ↔ y ∈ out ∨ y = n) ∧ (insR out n).length ≤ out.length + 1 := by
  obtain ⟨i, h1, h2, h3, h4⟩ := posI_spec n out
  unfold insR
  rw [h1, Int.toNat_natCast]
  by_cases he : out[i]? = some n
  · rw [if_pos he]
    refine ⟨h, fun y => ⟨.inl, ?_⟩, by omega⟩
    rintro (h | rfl)
    · exact h
    · exact List.mem_of_getElem? he
  · rw [if_neg he]
    have hdrop : ∀ z ∈ out.drop i, n < z := by
      intro z hz
      obtain ⟨j, hj⟩ := List.getElem?_of_mem hz
      rw [List.getElem?_drop] at hj
      have hi : i < out.length := by have := lt_of_get hj; omega
      have hg := List.getElem?_eq_getElem hi
      have h5 := h4 _ hg
      have h6 : out[i] ≠ n := fun e => he (by rw [hg, e])
      rcases Nat.eq_zero_or_pos j with h0 | h0
      · subst h0
        rw [Nat.add_zero, hg] at hj; injection hj with hj
        omega
      · have := List.pairwise_iff_getElem.1 h i (i + j) hi (lt_of_get hj) (by omega)
        rw [List.getElem?_eq_getElem (lt_of_get hj)] at hj; injection hj with hj
        omega
    have htake : ∀ z ∈ out.take i, z < n := by
      intro z hz
      obtain ⟨j, hj⟩ := List.getElem?_of_mem hz
      rw [List.getElem?_take] at hj
      split at hj
      · exact h3 j z (by assumption) hj
      · cases hj
    refine ⟨?_, fun y => ?_, by simp; omega⟩
    · rw [List.append_assoc, List.pairwise_append]
      refine ⟨h.sublist (List.take_sublist _ _), ?_, fun a ha b hb => ?_⟩
      · rw [List.singleton_append, List.pairwise_cons]
        exact ⟨hdrop, h.sublist (List.drop_sublist _ _)⟩
      · have := htake a ha
        rcases List.mem_cons.1 (by simpa using hb : b ∈ n :: out.drop i) with e | e
        · omega
        · have := hdrop b e; omega
    · rw [List.mem_append, List.mem_append, List.mem_singleton]
      have : y ∈ out ↔ y ∈ out.take i ∨ y ∈ out.drop i := by rw [← List.mem_append, List.take_append_drop]
      rw [this]
      constructor
      · rintro ((h | h) | h)
        · exact .inl (.inl h)
        · exact .inr h
        · exact .inl (.inr h)
      · rintro ((h | h) | h)
        · exact .inl (.inl h)
        · exact .inr h
        · exact .inl (.inr h)
theorem insR_fold : ∀ (l : List Int) (out : List Int), out.Pairwise (· < ·) → (l.foldl insR out).Pairwise (· < ·) ∧ (∀ y, y ∈ l.foldl insR out ↔ y ∈ out ∨ y ∈ l) ∧ (l.foldl insR out).length ≤ out.length + l.length
  | [], out, h => ⟨h, fun y => by simp, by simp⟩
  | n :: l, out, h => by
    obtain ⟨a1, a2, a3⟩ := insR_spec h n
    obtain ⟨b1, b2, b3⟩ := insR_fold l (insR out n) a1
    refine ⟨b1, fun y => ?_, by simp only [List.foldl_cons, List.length_cons]; omega⟩
    rw [List.foldl_cons, b2, a2, List.mem_cons, or_assoc]
theorem Accounts_step {out : List Int} (hl : out.length ≤ 990) (x : Ln) {F : Nat} (hF : 991 < F) :
    (Option.bind (iter (recyclingref48_Accounts_l1 out x) F 0) (fun k2 => Option.bind (bif (decide (k2 < ((out.length : Nat) : Int))) then Option.bind (getI out k2) fun x5 => some (decide (x5 = x.Account)) else some false) (fun v2 =>
      bif v2 then some out else Option.bind (subO out k2 ((out.length : Nat) : Int)) fun l2 => Option.bind (appO [] l2) fun l3 => Option.bind (subO out 0 k2) fun l4 => Option.bind (appO l4 [x.Account]) fun l5 => Option.bind (appO l5 l3) fun l6 => some l6))) = some (insR out x.Account) := by
  have := iter_firstI out (body := recyclingref48_Accounts_l1 out x) (fun k y => if y < x.Account then none else some (k : Int)) (out.length : Int) (by omega) (fun k y hy => by
    have hk := lt_of_get hy
    have hk2 : ((k : Int) < (out.length : Nat)) := by omega
    simp only [recyclingref48_Accounts_l1, hk2, decide_true, cond_true, getI_nat, hy, Option.bind_some]
    by_cases h : y < x.Account <;> simp [h]) (by simp [recyclingref48_Accounts_l1]) F (by omega)
  rw [this, Option.bind_some]
  obtain ⟨i, h1, h2, h3, h4⟩ := posI_spec x.Account out
  have h1' : firstI (fun k (y : Int) => if y < x.Account then none else some (k : Int)) (out.length : Int) 0 out = (i : Int) := h1
  rw [h1']
  unfold insR
  rw [h1, Int.toNat_natCast]
  have s1 : subO out (i : Int) ((out.length : Nat) : Int) = some (out.drop i) := by
    unfold subO
    rw [if_pos (by omega)]
    simp
  have s2 : subO out 0 (i : Int) = some (out.take i) := by
    unfold subO
    rw [if_pos (by omega)]
    simp
  have hlt : (out.take i).length ≤ 990 := by simp; omega
  have hld : (out.drop i).length ≤ 990 := by simp; omega
  have ins : (Option.bind (subO out (i : Int) ((out.length : Nat) : Int)) fun l2 => Option.bind (appO [] l2) fun l3 => Option.bind (subO out 0 (i : Int)) fun l4 => Option.bind (appO l4 [x.Account]) fun l5 => Option.bind (appO l5 l3) fun l6 => some l6) = some (out.take i ++ [x.Account] ++ out.drop i) := by
    rw [s1, Option.bind_some, appO_eq (by simp; omega), Option.bind_some, s2, Option.bind_some, appO_eq (by simp; omega), Option.bind_some, appO_eq (by simp; omega), Option.bind_some]
    simp
  by_cases hi : i < out.length
  · have hg := List.getElem?_eq_getElem hi
    rw [getI_nat, hg]
    by_cases he : out[i] = x.Account
    · simp [hi, he]
    · simp only [show ((i : Int) < (out.length : Nat)) by omega, decide_true, cond_true, Option.bind_some, he, decide_false, cond_false, ins, Option.some.injEq, if_false]
  · have hn : out[i]? = none := List.getElem?_eq_none (by omega)
    simp only [show ¬ ((i : Int) < (out.length : Nat)) by omega, decide_false, cond_false, Option.bind_some, ins, hn]
    simp
theorem Accounts_l2 {h : List Po} (hl : h.length ≤ 60) (v : ∀ p ∈ h, Vp p) {i : Nat} {p : Po} (hp : h[i]? = some p) {out : List Int} (hs : out.Pairwise (· < ·)) (ho : out.length ≤ 960) {F : Nat} (hF : 991 < F) :
    iter (recyclingref48_Accounts_l2 F h (i : Int)) F (out, 0) = some ((p.Lines.map (·.Account)).foldl insR out) := by
  have vl := (v p (List.mem_of_getElem? hp)).len
  have := iter_stI (body := recyclingref48_Accounts_l2 F h (i : Int)) p.Lines (fun k => ((p.Lines.take k).map (·.Account)).foldl insR out) (fun m k => (m, k)) (fun _ _ => none) ((p.Lines.map (·.Account)).foldl insR out) (by omega) (fun k x hx _ => ?_) (fun _ => by simp [recyclingref48_Accounts_l2, oun, getI_nat, hp]) F (by omega)
  · rw [firstI_none _ 0 fun _ _ _ => rfl] at this
    exact this
  · have hk := lt_of_get hx
    have hk2 : ((k : Int) < (p.Lines.length : Nat)) := by omega
    have hb := (insR_fold ((p.Lines.take k).map (·.Account)) out hs).2.2
    rw [List.length_map, length_take' (Nat.le_of_lt hk)] at hb
    have hst := Accounts_step (out := ((p.Lines.take k).map (·.Account)).foldl insR out) (by omega) x hF
    simp only [recyclingref48_Accounts_l2, oun, getI_nat, hp, hk2, decide_true, cond_true, hx, Option.bind_some, pickO_none, take_succ' hx, List.map_append, List.foldl_append, List.map_cons, List.map_nil, List.foldl_cons, List.foldl_nil]
    rw [hst]
    rfl
theorem RAccounts_eq {h : List Po} (hl : h.length ≤ 60) (v : ∀ p ∈ h, Vp p) {F : Nat} (hF : 991 < F) : recyclingref48_Accounts F h = some ((accs h).foldl insR []) := by
  have := iter_stI (body := recyclingref48_Accounts_l3 F h) h (fun k => (accs (h.take k)).foldl insR []) (fun m k => (m, k)) (fun _ _ => none) ((accs h).foldl insR []) (by omega) (fun k p hp _ => ?_) (fun _ => by simp [recyclingref48_Accounts_l3, oun]) (((h.length : Nat) : Int).toNat + 1) (by simp)
  · rw [firstI_none _ 0 fun _ _ _ => rfl] at this
    unfold recyclingref48_Accounts
    rw [show iter (recyclingref48_Accounts_l3 F h) (((h.length : Nat) : Int).toNat + 1) ([], 0) = some ((accs h).foldl insR []) from this]
    rfl
  · have hk := lt_of_get hp
    have hk2 : ((k : Int) < (h.length : Nat)) := by omega
    obtain ⟨b1, _, b3⟩ := insR_fold (accs (h.take k)) [] List.Pairwise.nil
    have hb := accs_len (h := h.take k) fun q hq => v q (List.mem_of_mem_take hq)
    rw [length_take' (Nat.le_of_lt hk)] at hb
    simp only [List.length_nil, Nat.zero_add] at b3
    have ha : accs (h.take k ++ [p]) = accs (h.take k) ++ p.Lines.map (·.Account) := by simp [accs]
    simp only [recyclingref48_Accounts_l3, oun, hk2, decide_true, cond_true, Option.bind_some, pickO_none, take_succ' hp, ha, List.foldl_append, Accounts_l2 hl v hp b1 (by omega) hF]
theorem Accounts_eq {q : Le} {h : List Po} (lv : Lv q h) (hl : h.length ≤ 60) : ledger_Ledger_Accounts q = some ((accs h).foldl insR [], q) := by
  have hk : ∀ a, a ∈ q.balances.map Prod.fst ↔ a ∈ accs h := by
    intro a
    rw [← mget_isSome, lv.bals a, ← occ_accs]
    cases occ h a <;> simp
  have hb := accs_len lv.vp
  have hlen : q.balances.length ≤ (accs h).length := by
    have := nodup_sub_len lv.nd fun a ha => (hk a).1 ha
    rwa [List.length_map] at this
  have hwf : wfM q.balances := by
    refine ⟨by omega, fun p hp => ?_⟩
    have h1 := mem_mget lv.nd hp
    rw [lv.bals p.1] at h1
    have h2 := lv.bnd p.1
    cases ho : occ h p.1 with
    | true =>
      rw [ho] at h1
      simp only [if_true, Option.some.injEq] at h1
      have h3 := occ_accs.1 ho
      unfold accs at h3
      obtain ⟨r, hr, hx⟩ := List.mem_flatMap.1 h3
      obtain ⟨x, hx, he⟩ := List.mem_map.1 hx
      have := okL_h ((lv.vp r hr).ok x hx)
      exact ⟨wf_of (by omega) (by omega), wf_of (by omega) (by omega)⟩
    | false => rw [ho] at h1; simp at h1
  obtain ⟨b1, b2, _⟩ := insR_fold (accs h) [] List.Pairwise.nil
  have hsort : isort (q.balances.map Prod.fst) = (accs h).foldl insR [] := by
    refine sorted_unique ((isort_perm _).trans ((List.perm_ext_iff_of_nodup lv.nd (b1.imp fun h => by omega)).2 fun a => ?_)) (isort_sorted _) (b1.imp fun h => by omega)
    rw [hk a, b2 a]
    simp
  unfold ledger_Ledger_Accounts keysO
  rw [if_pos hwf, hsort]
  rfl

end Go.Proofs.Ytpghcnpheabbgaa
