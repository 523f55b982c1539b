/- The ledger: postings. -/
import Derived.Test.YtpghcnpheabbgaaLa
namespace Go.Proofs.Ytpghcnpheabbgaa
set_option linter.unusedSimpArgs false
set_option linter.unusedVariables false

def idIn (h : List Po) (p : Po) : Bool := h.any fun q => decide (q.ID = p.ID)
def late (h : List Po) (p : Po) : Bool := match h[h.length - 1]? with
  | some q => decide (p.At < q.At)
  | none => false
def inM (n : Int) : Bool := decide (-1000000000000 ≤ n ∧ n ≤ 1000000000000)
def over (h : List Po) (p : Po) : Bool := p.Lines.any fun x => !inM (bal (h ++ [p]) x.Account 3155759999)
def accR (h : List Po) (p : Po) : Int := if chkP p ≠ 0 then chkP p else if idIn h p = true then 6 else if late h p = true then 9 else if 512 ≤ h.length then 8 else 0
def postR (h : List Po) (p : Po) : Int := if accR h p ≠ 0 then accR h p else if over h p = true then 2 else 0
def occ (h : List Po) (a : Int) : Bool := h.any fun p => p.Lines.any fun x => decide (x.Account = a)
structure Lv (q : Le) (h : List Po) : Prop where
  eq : q.postings = h
  vp : ∀ p ∈ h, Vp p
  srt : Srt h
  bals : ∀ a, mget a q.balances = if occ h a = true then some (bal h a 3155759999) else none
  bnd : ∀ a, -1000000000000 ≤ bal h a 3155759999 ∧ bal h a 3155759999 ≤ 1000000000000
  nd : (q.balances.map Prod.fst).Nodup
theorem late_eq (h : List Po) (hl : h.length ≤ 1000) (p : Po) : (bif (decide (0 < ((h.length : Nat) : Int))) then Option.bind (getI h (w64 (((h.length : Nat) : Int) - 1))) fun x => some (decide (p.At < x.At)) else some false) = some (late h p) := by
  unfold late
  by_cases h0 : h.length = 0
  · have : h = [] := List.eq_nil_of_length_eq_zero h0
    subst this
    simp
  · have e : w64 (((h.length : Nat) : Int) - 1) = ((h.length - 1 : Nat) : Int) := by rw [w64_eq (by omega) (by omega)]; omega
    have hg : h[h.length - 1]? = some h[h.length - 1] := List.getElem?_eq_getElem (by omega)
    rw [e, getI_nat, hg]
    simp [show (0 : Int) < (h.length : Nat) by omega, show 0 < h.length by omega]
theorem index_eq (h : List Po) (hl : h.length ≤ 1000) (p : Po) : slices_ContainsFunc_Posting_c38 h p = some (idIn h p) := by
  unfold slices_ContainsFunc_Posting_c38 slices_IndexFunc_Posting_c38
  have := iter_firstI (body := slices_IndexFunc_Posting_c38_l1 h p) h (fun k q => if q.ID = p.ID then some (.inr (k : Int)) else none) (.inl () : Unit ⊕ Int) (by omega) (fun k q hq => ?_) (by simp [slices_IndexFunc_Posting_c38_l1]) (((h.length : Nat) : Int).toNat + 1) (by simp)
  · rw [this]
    unfold idIn
    rcases firstI_cases (step := fun k (q : Po) => if q.ID = p.ID then some (.inr (k : Int)) else none) (fin := (.inl () : Unit ⊕ Int)) h 0 with ⟨h1, h2⟩ | ⟨i, q, o, h1, h2, h3, _⟩
    · rw [h2]
      have : (h.any fun q => decide (q.ID = p.ID)) = false := by
        rw [List.any_eq_false]
        intro q hq
        obtain ⟨i, hi⟩ := List.getElem?_of_mem hq
        have := h1 i q hi
        by_cases he : q.ID = p.ID
        · simp [he] at this
        · simpa using he
      rw [this]
      simp [osum]
    · rw [h3]
      by_cases he : q.ID = p.ID
      · simp only [he, if_true, Option.some.injEq] at h2
        have : (h.any fun q => decide (q.ID = p.ID)) = true := List.any_eq_true.2 ⟨q, List.mem_of_getElem? h1, by simpa using he⟩
        rw [this, ← h2]
        simp [osum]
      · simp [he] at h2
  · have hk := lt_of_get hq
    have hk2 : ((k : Int) < (h.length : Nat)) := by omega
    simp only [slices_IndexFunc_Posting_c38_l1, hk2, decide_true, cond_true, getI_nat, hq, Option.bind_some, ledger_Ledger_accept_1]
    by_cases he : q.ID = p.ID <;> simp [he]
theorem accept_eq (q : Le) (hl : q.postings.length ≤ 1000) (p : Po) (hp : p.Lines.length ≤ 1000) : ledger_Ledger_accept q p = some (accR q.postings p, q) := by
  unfold ledger_Ledger_accept accR
  rw [Check_eq p hp, index_eq _ hl]
  simp only [Option.bind_some, late_eq _ hl]
  by_cases h1 : chkP p = 0
  · cases h2 : idIn q.postings p with
    | true => simp [h1, h2]
    | false =>
      cases h3 : late q.postings p with
      | true => simp [h1, h2, h3]
      | false =>
        by_cases h4 : 512 ≤ q.postings.length
        · simp [h1, h2, h3, h4, show (512 : Int) ≤ (q.postings.length : Nat) by omega]
        · simp [h1, h2, h3, h4, show ¬ (512 : Int) ≤ (q.postings.length : Nat) by omega]
  · simp [h1]

/-! the reference -/
theorem loop_over {ρ : Type} {o fin : ρ} (f : Ln → Bool) (l : List Ln) (k : Nat) : firstI (fun _ (x : Ln) => if f x = true then some o else none) fin k l = if l.any f = true then o else fin := by
  induction l generalizing k with
  | nil => simp [firstI]
  | cons x l ih =>
    by_cases h : f x = true
    · simp [firstI, h]
    · simp [firstI, h, ih]
theorem loop_id {ρ : Type} {o fin : ρ} (f : Po → Bool) (l : List Po) (k : Nat) : firstI (fun _ (x : Po) => if f x = true then some o else none) fin k l = if l.any f = true then o else fin := by
  induction l generalizing k with
  | nil => simp [firstI]
  | cons x l ih =>
    by_cases h : f x = true
    · simp [firstI, h]
    · simp [firstI, h, ih]
theorem inM_eq (n : Int) : (bif (decide (n < (-1000000000000))) then some true else some (decide (1000000000000 < n))) = some (!inM n) := by
  unfold inM
  by_cases h1 : n < -1000000000000
  · simp [h1, show ¬ -1000000000000 ≤ n by omega]
  · by_cases h2 : 1000000000000 < n
    · simp [h1, h2, show ¬ n ≤ 1000000000000 by omega]
    · simp [h1, h2, show -1000000000000 ≤ n by omega, show n ≤ 1000000000000 by omega]
theorem RPost_eq {h : List Po} (hl : h.length ≤ 500) (v : ∀ p ∈ h, Vp p) (p : Po) (hp : p.Lines.length ≤ 1000) {F : Nat} (hF : 16 < F) : recyclingref48_Post F h p = some (if postR h p = 0 then h ++ [p] else h, postR h p) := by
  unfold recyclingref48_Post postR accR
  have l1 := iter_firstI (body := recyclingref48_Post_l1 h p) h (fun _ q => if (fun q : Po => decide (q.ID = p.ID)) q = true then some (.inr (h, 6)) else none) (.inl () : Unit ⊕ (List Po × Int)) (by omega) (fun k q hq => by
    have hk := lt_of_get hq
    have hk2 : ((k : Int) < (h.length : Nat)) := by omega
    simp only [recyclingref48_Post_l1, hk2, decide_true, cond_true, getI_nat, hq, Option.bind_some]
    by_cases he : q.ID = p.ID <;> simp [he]) (by simp [recyclingref48_Post_l1]) (((h.length : Nat) : Int).toNat + 1) (by simp)
  rw [loop_id] at l1
  rw [RCheck_eq p hp]
  simp only [Option.bind_some, late_eq _ (show h.length ≤ 1000 by omega), l1, show ¬ (512 : Int) ≤ (h.length : Nat) by omega, decide_false, cond_false, show ¬ 512 ≤ h.length by omega, if_false]
  by_cases h1 : chkP p = 0
  · have vp := Vp.of h1
    cases h2 : (h.any fun q => decide (q.ID = p.ID)) with
    | true => simp [h1, h2, idIn, osum]
    | false =>
      cases h3 : late h p with
      | true => simp [h1, h2, h3, idIn, osum]
      | false =>
        have vn : ∀ r ∈ h ++ [p], Vp r := fun r hr => by
          rcases List.mem_append.1 hr with e | e
          · exact v r e
          · rw [List.mem_singleton.1 e]; exact vp
        have l2 := iter_firstI (body := recyclingref48_Post_l2 F h p (h ++ [p])) p.Lines (fun _ x => if (fun x : Ln => !inM (bal (h ++ [p]) x.Account 3155759999)) x = true then some (.inr (h, 2)) else none) (.inl () : Unit ⊕ (List Po × Int)) (by omega) (fun k x hx => by
          have hk := lt_of_get hx
          have hk2 : ((k : Int) < (p.Lines.length : Nat)) := by omega
          simp only [recyclingref48_Post_l2, hk2, decide_true, cond_true, getI_nat, hx, Option.bind_some, RBalance_eq (h := h ++ [p]) (by simp; omega) vn x.Account 3155759999 hF, inM_eq]
          by_cases hb : inM (bal (h ++ [p]) x.Account 3155759999) = true
          · simp [hb]
          · rw [Bool.not_eq_true] at hb
            simp [hb]) (by simp [recyclingref48_Post_l2]) (((p.Lines.length : Nat) : Int).toNat + 1) (by simp)
        rw [loop_over] at l2
        have a1 : appO ([] : List Po) h = some h := by rw [appO_eq (by simp; omega)]; simp
        have a2 : appO h [p] = some (h ++ [p]) := appO_eq (by simp; omega)
        simp only [h1, h2, h3, idIn, osum, decide_true, Bool.not_true, cond_false, Bool.false_eq_true, if_false, a1, a2, Option.bind_some, l2, ne_eq, not_true_eq_false]
        unfold over
        cases (p.Lines.any fun x => !inM (bal (h ++ [p]) x.Account 3155759999)) <;> simp
  · simp [h1]

/-! the program -/
def putL (m : List (Int × Int)) (x : Ln) : List (Int × Int) := mput x.Account (w64 ((mget x.Account m).getD 0 + x.Amount)) m
theorem putL_fold : ∀ (ls : List Ln) (m : List (Int × Int)) (B : Int), (∀ x ∈ ls, okL x = true) → (∀ a, -B ≤ (mget a m).getD 0 ∧ (mget a m).getD 0 ≤ B) → B + ls.length * 1000000000000 ≤ 9000000000000000000 →
    ∀ a, mget a (ls.foldl putL m) = if ls.any (fun x => decide (x.Account = a)) = true then some ((mget a m).getD 0 + lnA a ls) else mget a m
  | [], m, B, _, _, _, a => by simp
  | x :: ls, m, B, hok, hB, hb, a => by
    have hx := okL_h (hok x (by simp))
    have hlen : ((x :: ls).length : Int) = ls.length + 1 := by simp
    have hb2 : B + 1000000000000 + ls.length * 1000000000000 ≤ 9000000000000000000 := by omega
    have hw : w64 ((mget x.Account m).getD 0 + x.Amount) = (mget x.Account m).getD 0 + x.Amount := w64_eq (by have := hB x.Account; omega) (by have := hB x.Account; omega)
    have hm : ∀ a, mget a (putL m x) = if x.Account = a then some ((mget a m).getD 0 + x.Amount) else mget a m := by
      intro a
      unfold putL
      rw [hw]
      by_cases h : x.Account = a
      · subst h; rw [mget_mput_same]; simp
      · rw [mget_mput_ne (fun e => h e.symm)]; simp [h]
    rw [List.foldl_cons, putL_fold ls (putL m x) (B + 1000000000000) (fun y hy => hok y (by simp [hy])) (fun a => by
      rw [hm a]
      have := hB a
      by_cases h : x.Account = a <;> simp [h] <;> omega) hb2 a, hm a]
    have hl : lnA a (x :: ls) = (if x.Account = a then x.Amount else 0) + lnA a ls := by unfold lnA; rw [sumBy_cons]
    rw [hl, List.any_cons]
    by_cases h : x.Account = a
    · simp only [h, if_true, Option.getD_some, decide_true, Bool.true_or]
      cases h2 : (ls.any fun x => decide (x.Account = a)) with
      | true => simp only [if_true, Option.some.injEq]; omega
      | false =>
        have : lnA a ls = 0 := by
          unfold lnA
          rw [sumBy_congr (g := fun _ => 0) fun y hy => by
            have := (List.any_eq_false.1 h2) y hy
            rw [if_neg (by simpa using this)], sumBy_zero]
        simp [this]
    · simp [h]
theorem putL_nodup : ∀ (ls : List Ln) (m : List (Int × Int)), (m.map Prod.fst).Nodup → ((ls.foldl putL m).map Prod.fst).Nodup
  | [], _, h => h
  | x :: ls, m, h => putL_nodup ls _ (mput_nodup h)
theorem occ_append (h : List Po) (p : Po) (a : Int) : occ (h ++ [p]) a = (occ h a || p.Lines.any fun x => decide (x.Account = a)) := by simp [occ]
theorem bal_snoc (h : List Po) {p : Po} (vp : Vp p) (a : Int) : bal (h ++ [p]) a 3155759999 = bal h a 3155759999 + lnA a p.Lines := by
  have := vp.at2
  rw [bal_append]
  simp [bal, this]
theorem bal_none {h : List Po} {a t : Int} (ho : occ h a = false) : bal h a t = 0 := by
  unfold bal occ at *
  rw [sumBy_congr (g := fun _ => 0) fun p hp => by
    have h1 := (List.any_eq_false.1 ho) p hp
    have h2 : (p.Lines.any fun x => decide (x.Account = a)) = false := by simpa using h1
    have : lnA a p.Lines = 0 := by
      unfold lnA
      rw [sumBy_congr (g := fun _ => 0) fun y hy => by
        have := (List.any_eq_false.1 h2) y hy
        rw [if_neg (by simpa using this)], sumBy_zero]
    rw [this]; split <;> rfl, sumBy_zero]
theorem Lv.get {q : Le} {h : List Po} (v : Lv q h) (a : Int) : (mget a q.balances).getD 0 = bal h a 3155759999 := by
  rw [v.bals a]
  cases ho : occ h a with
  | true => simp
  | false => simp [bal_none ho]
theorem Post_l1 {q : Le} {h : List Po} (v : Lv q h) {p : Po} (vp : Vp p) : iter (ledger_Ledger_Post_l1 p) (((p.Lines.length : Nat) : Int).toNat + 1) (q.balances, 0) = some (p.Lines.foldl putL q.balances) := by
  have vl := vp.len
  have := iter_stI (body := ledger_Ledger_Post_l1 p) p.Lines (fun k => (p.Lines.take k).foldl putL q.balances) (fun m k => (m, k)) (fun _ _ => none) (p.Lines.foldl putL q.balances) (by omega) (fun k x hx _ => ?_) (fun _ => by simp [ledger_Ledger_Post_l1, oun]) (((p.Lines.length : Nat) : Int).toNat + 1) (by simp)
  · rw [firstI_none _ 0 fun _ _ _ => rfl] at this
    exact this
  · have hk := lt_of_get hx
    have hk2 : ((k : Int) < (p.Lines.length : Nat)) := by omega
    simp only [ledger_Ledger_Post_l1, oun, getI_nat, hk2, decide_true, cond_true, hx, Option.bind_some, pickO_none, take_succ' hx, List.foldl_append]
    rfl
theorem get_after {q : Le} {h : List Po} (v : Lv q h) {p : Po} (vp : Vp p) (a : Int) : mget a (p.Lines.foldl putL q.balances) = if occ (h ++ [p]) a = true then some (bal (h ++ [p]) a 3155759999) else none := by
  have vl := vp.len
  rw [putL_fold p.Lines q.balances 1000000000000 vp.ok (fun a => by rw [v.get a]; exact v.bnd a) (by omega) a, v.get a, occ_append, bal_snoc h vp, v.bals a]
  cases h1 : occ h a <;> cases h2 : (p.Lines.any fun x => decide (x.Account = a)) <;> simp
  · have : lnA a p.Lines = 0 := by
      unfold lnA
      rw [sumBy_congr (g := fun _ => 0) fun y hy => by
        have := (List.any_eq_false.1 h2) y hy
        rw [if_neg (by simpa using this)], sumBy_zero]
    omega
theorem Post_eq {q : Le} {h : List Po} (v : Lv q h) (hl : h.length ≤ 500) (p : Po) (hp : p.Lines.length ≤ 1000) :
    ∃ q', ledger_Ledger_Post q p = some (postR h p, q') ∧ (postR h p = 0 → Lv q' (h ++ [p])) ∧ (postR h p ≠ 0 → q' = q) := by
  unfold ledger_Ledger_Post
  rw [accept_eq q (by rw [v.eq]; omega) p hp, v.eq]
  by_cases h0 : accR h p = 0
  · have hchk : chkP p = 0 := by
      refine Classical.byContradiction fun hn => ?_
      unfold accR at h0
      simp [hn] at h0
    have vp := Vp.of hchk
    have hpost : postR h p = if over h p = true then 2 else 0 := by unfold postR; simp [h0]
    have l2 := iter_firstI (body := ledger_Ledger_Post_l2 p q (p.Lines.foldl putL q.balances)) p.Lines (fun _ x => if (fun x : Ln => !inM (bal (h ++ [p]) x.Account 3155759999)) x = true then some (.inr (2, q)) else none) (.inl () : Unit ⊕ (Int × Le)) (by have := vp.len; omega) (fun k x hx => by
      have hk := lt_of_get hx
      have hk2 : ((k : Int) < (p.Lines.length : Nat)) := by omega
      have hg : (mget x.Account (p.Lines.foldl putL q.balances)).getD 0 = bal (h ++ [p]) x.Account 3155759999 := by
        rw [get_after v vp]
        cases ho : occ (h ++ [p]) x.Account with
        | true => simp
        | false => simp [bal_none ho]
      simp only [ledger_Ledger_Post_l2, hk2, decide_true, cond_true, getI_nat, hx, Option.bind_some, hg, inM_eq]
      by_cases hb : inM (bal (h ++ [p]) x.Account 3155759999) = true
      · simp [hb]
      · rw [Bool.not_eq_true] at hb
        simp [hb]) (by simp [ledger_Ledger_Post_l2]) (((p.Lines.length : Nat) : Int).toNat + 1) (by simp)
    rw [loop_over] at l2
    have hov : over h p = p.Lines.any fun x => !inM (bal (h ++ [p]) x.Account 3155759999) := rfl
    rw [← hov] at l2
    have hcl : cloneO p.Lines = some p.Lines := by
      unfold cloneO
      have := vp.len
      simp; omega
    have happ : appO q.postings [p] = some (h ++ [p]) := by rw [v.eq]; exact appO_eq (by simp; omega)
    have hp2 : (T_api_Posting.mk p.ID p.At p.Lines) = p := rfl
    simp only [oun, h0, decide_true, Bool.not_true, cond_false, Option.bind_some, Post_l1 v vp, l2]
    cases ho : over h p with
    | true =>
      rw [ho] at hpost
      refine ⟨q, by simp [osum, hpost], fun h2 => by rw [hpost] at h2; simp at h2, fun _ => rfl⟩
    | false =>
      rw [ho] at hpost
      refine ⟨⟨h ++ [p], p.Lines.foldl putL q.balances⟩, ?_, fun _ => ?_, fun h2 => absurd (by rw [hpost]; simp) h2⟩
      · simp [osum, hpost, ledger_copied, hcl, hp2, happ]
      · refine ⟨rfl, fun r hr => ?_, ?_, fun a => get_after v vp a, fun a => ?_, putL_nodup _ _ v.nd⟩
        · rcases List.mem_append.1 hr with e | e
          · exact v.vp r e
          · rw [List.mem_singleton.1 e]; exact vp
        · unfold Srt
          rw [List.pairwise_append]
          refine ⟨v.srt, by simp, fun r hr s hs => ?_⟩
          rw [List.mem_singleton.1 hs]
          have hlate : late h p = false := by
            cases hx : late h p with
            | false => rfl
            | true =>
              unfold accR at h0
              cases hi : idIn h p <;> simp [hchk, hx, hi] at h0
          obtain ⟨i, hi⟩ := List.getElem?_of_mem hr
          have hil := lt_of_get hi
          have hlast : h[h.length - 1]? = some h[h.length - 1] := List.getElem?_eq_getElem (by omega)
          unfold late at hlate
          rw [hlast] at hlate
          simp only [decide_eq_false_iff_not] at hlate
          have hle : r.At ≤ (h[h.length - 1]'(by omega)).At := by
            rcases Nat.lt_or_ge i (h.length - 1) with hlt | hge
            · have := List.pairwise_iff_getElem.1 v.srt i (h.length - 1) hil (by omega) hlt
              rw [List.getElem?_eq_getElem hil] at hi; injection hi with hi
              rw [hi] at this
              exact this
            · have : i = h.length - 1 := by omega
              subst this
              rw [List.getElem?_eq_getElem hil] at hi; injection hi with hi
              rw [hi]; exact Int.le_refl _
          omega
        · rw [bal_snoc h vp]
          cases hx : (p.Lines.any fun x => decide (x.Account = a)) with
          | true =>
            obtain ⟨x, hxm, hxe⟩ := List.any_eq_true.1 hx
            have hxe : x.Account = a := by simpa using hxe
            have h3 := (List.any_eq_false.1 (hov.symm.trans ho)) x hxm
            rw [hxe, bal_snoc h vp] at h3
            have h4 : inM (bal h a 3155759999 + lnA a p.Lines) = true := by simpa using h3
            exact of_decide_eq_true h4
          | false =>
            have : lnA a p.Lines = 0 := by
              unfold lnA
              rw [sumBy_congr (g := fun _ => 0) fun y hy => by
                have := (List.any_eq_false.1 hx) y hy
                rw [if_neg (by simpa using this)], sumBy_zero]
            have := v.bnd a
            omega
  · have hpost : postR h p = accR h p := by unfold postR; simp [h0]
    refine ⟨q, by simp [oun, h0, hpost], fun h2 => absurd (hpost ▸ h2) h0, fun _ => rfl⟩
theorem Lv.new : Lv ⟨[], []⟩ [] := ⟨rfl, by simp, List.Pairwise.nil, by simp [occ, mget], by simp [bal], by simp⟩

end Go.Proofs.Ytpghcnpheabbgaa
