/- payment: what any calls return: the register and the reference side by side. -/
import Derived.Test.YticcfpmehjcjcaaPy
namespace Go.Proofs.Yticcfpmehjcjcaa
set_option linter.unusedSimpArgs false
set_option linter.unusedVariables false

abbrev RW := T_recyclingref56_Register
def pos (x : O) : Bool := decide (0 < x.Rest)
/-- A place in a sorted list. -/
def insF (l : List O) (x : O) : List O := l.filter (befO · x) ++ x :: l.filter (befO x ·)
theorem befO_not {a b : O} (h : ltO a b) : befO b a = false := by
  cases hb : befO b a with
  | false => rfl
  | true => have := befO_iff.1 hb; unfold ltO at *; omega
theorem insF_of {a b : List O} {x : O} (ha : ∀ y ∈ a, ltO y x) (hb : ∀ y ∈ b, ltO x y) : insF (a ++ b) x = a ++ x :: b := by
  unfold insF
  have e1 : a.filter (befO · x) = a := List.filter_eq_self.2 fun y hy => befO_iff.2 (ha y hy)
  have e2 : b.filter (befO · x) = [] := List.filter_eq_nil_iff.2 fun y hy => by simp [befO_not (hb y hy)]
  have e3 : a.filter (befO x ·) = [] := List.filter_eq_nil_iff.2 fun y hy => by simp [befO_not (ha y hy)]
  have e4 : b.filter (befO x ·) = b := List.filter_eq_self.2 fun y hy => befO_iff.2 (hb y hy)
  rw [List.filter_append, List.filter_append, e1, e2, e3, e4]
  simp
theorem insL_insF {l : List O} {x : O} (hs : l.Pairwise ltO) (hne : ∀ y ∈ l, y.Bill ≠ x.Bill) : insL l x = insF l x := by
  obtain ⟨h1, h2⟩ := placeO_spec hs hne l.length (Nat.le_refl _)
  have hd : ∀ y ∈ l.drop (placeO x l l.length), ltO x y := fun y hy => by
    obtain ⟨i, hi, rfl⟩ := List.getElem_of_mem hy
    simp only [List.length_drop] at hi
    rw [List.getElem_drop]
    exact h2 (placeO x l l.length + i) _ (by omega) (by omega) (List.getElem?_eq_getElem (by omega))
  have := insF_of h1 hd
  rw [List.take_append_drop] at this
  rw [this]; rfl
theorem filter_insF (p : O → Bool) (l : List O) {x : O} (hp : p x = true) : (insF l x).filter p = insF (l.filter p) x := by
  unfold insF
  rw [List.filter_append, List.filter_cons_of_pos hp, List.filter_filter, List.filter_filter, List.filter_filter, List.filter_filter]
  congr 1
  · congr 1; funext y; exact Bool.and_comm _ _
  · congr 2; funext y; exact Bool.and_comm _ _
theorem mem_insF {l : List O} {x y : O} (h : y ∈ insF l x) : y = x ∨ y ∈ l := by
  unfold insF at h
  rcases List.mem_append.1 h with h | h
  · exact .inr (List.mem_filter.1 h).1
  · rcases List.mem_cons.1 h with h | h
    · exact .inl h
    · exact .inr (List.mem_filter.1 h).1

/-- A bill of the reference. -/
structure OkB (x : O) : Prop where
  b0 : 1 ≤ x.Bill
  b1 : x.Bill ≤ 1000000
  d0 : 0 ≤ x.Due
  d1 : x.Due ≤ 3155759999
  r0 : 0 ≤ x.Rest
  r1 : x.Rest ≤ 1000000000000
structure Rel (r : R) (w : RW) : Prop where
  ok : OkR r
  sorted : w.Bills.Pairwise ltO
  okb : ∀ x ∈ w.Bills, OkB x
  op : r.f_open = w.Bills.filter pos
  credit : r.credit = w.Credit
  last : r.last = w.Last
  len : r.known.length = w.Bills.length
  kn : ∀ b : Int, mget b r.known = some true ↔ ∃ x ∈ w.Bills, x.Bill = b
theorem moment_eq (t : Int) : recyclingref56_moment t = some (decide (0 ≤ t ∧ t ≤ 3155759999)) := by
  unfold recyclingref56_moment
  by_cases h : 0 ≤ t <;> simp [h]
theorem before_eq (a b : O) : recyclingref56_before a b = some (befO a b) := by
  unfold recyclingref56_before befO
  by_cases h1 : a.Due < b.Due <;> by_cases h2 : a.Due = b.Due <;> simp [h1, h2]

/-! a charge of the reference -/
def stepC (x : O) (s : List O × Bool) (y : O) : List O × Bool := if s.2 = false ∧ befO x y = true then (s.1 ++ [x] ++ [y], true) else (s.1 ++ [y], s.2)
def finC (x : O) (s : List O × Bool) : List O := if s.2 = false then s.1 ++ [x] else s.1
theorem fold_done (x : O) : ∀ (l : List O) (out : List O), l.foldl (stepC x) (out, true) = (out ++ l, true)
  | [], out => by simp
  | y :: l, out => by simp only [List.foldl_cons, stepC, Bool.true_eq_false, false_and, if_false]; rw [fold_done x l]; simp
theorem fold_insF {x : O} : ∀ (l : List O) (out : List O), l.Pairwise ltO → (∀ y ∈ l, y.Bill ≠ x.Bill) → finC x (l.foldl (stepC x) (out, false)) = out ++ insF l x
  | [], out, _, _ => by simp [finC, insF]
  | y :: l, out, hs, hne => by
    obtain ⟨h1, h2⟩ := List.pairwise_cons.1 hs
    rw [List.foldl_cons]
    by_cases hb : befO x y = true
    · have hxy := befO_iff.1 hb
      rw [stepC, if_pos ⟨rfl, hb⟩, fold_done]
      have := insF_of (a := []) (b := y :: l) (x := x) (by simp) (fun z hz => by
        rcases List.mem_cons.1 hz with rfl | hz
        · exact hxy
        · exact ltO_trans hxy (h1 z hz))
      rw [List.nil_append, List.nil_append] at this
      rw [this]
      simp [finC]
    · have hyx : ltO y x := ltO_total (fun h => hb (befO_iff.2 h)) (fun e => hne y (by simp) e.symm)
      rw [stepC, if_neg (fun h => hb h.2)]
      rw [fold_insF l _ h2 fun z hz => hne z (by simp [hz])]
      have e1 : (y :: l).filter (befO · x) = y :: l.filter (befO · x) := List.filter_cons_of_pos (p := fun z => befO z x) (befO_iff.2 hyx)
      have e2 : (y :: l).filter (befO x ·) = l.filter (befO x ·) := List.filter_cons_of_neg (p := fun z => befO x z) hb
      unfold insF
      rw [e1, e2]
      simp
theorem length_stepC (x : O) (s : List O × Bool) (y : O) : (stepC x s y).1.length ≤ s.1.length + 2 := by unfold stepC; split <;> simp
theorem chargeW_l2 {w : RW} (hl : w.Bills.length ≤ 1000) (x : O) : iter (recyclingref56_Register_Charge_l2 w x.Bill x.Rest x.Due) (((w.Bills.length : Nat) : Int).toNat + 1) ([], false, 0) = some (w.Bills.foldl (stepC x) ([], false)) := by
  rw [iter_each w.Bills (fun (s : List O × Bool) k => (s.1, s.2, k)) (fun s y => (.inl (stepC x s y) : (List O × Bool) ⊕ (List O × Bool))) id (fun s k => s.1.length ≤ 2 * k) (by omega) (fun k y s hy hI => ?_) (fun s hI => by simp [recyclingref56_Register_Charge_l2, oun]) _ ([], false) (by simp) (by simp), each_inl]
  have hk := lt_of_get hy
  have hk2 : ((k : Int) < (w.Bills.length : Nat)) := by omega
  refine ⟨?_, fun s' hs => by injection hs with hs; subst hs; have := length_stepC x s y; omega⟩
  obtain ⟨out, d⟩ := s
  simp only at hI
  simp only [recyclingref56_Register_Charge_l2, oun, hk2, decide_true, cond_true, getI_nat, hy, Option.bind_some, mapL_inl, before_eq, stepC]
  cases d with
  | true =>
    simp only [Bool.not_true, cond_false, Option.bind_some, Bool.true_eq_false, false_and, if_false]
    rw [show appO out [y] = some (out ++ [y]) from appO_eq (by simp; omega)]
    rfl
  | false =>
    cases hb : befO x y with
    | true =>
      rw [show appO out [x] = some (out ++ [x]) from appO_eq (by simp; omega)]
      have : befO (T_api_Open.mk x.Bill x.Due x.Rest) y = true := hb
      simp only [this, Bool.not_false, cond_true, Option.bind_some, and_self, if_true]
      rw [show appO (out ++ [x]) [y] = some (out ++ [x] ++ [y]) from appO_eq (by simp; omega)]
      rfl
    | false =>
      have : befO (T_api_Open.mk x.Bill x.Due x.Rest) y = false := hb
      simp only [this, Bool.not_false, cond_true, cond_false, Option.bind_some, Bool.false_eq_true, and_false, if_false]
      rw [show appO out [y] = some (out ++ [y]) from appO_eq (by simp; omega)]
      rfl
theorem chargeW_l1 {w : RW} (hl : w.Bills.length ≤ 1000) (b : Int) : iter (recyclingref56_Register_Charge_l1 w b) (((w.Bills.length : Nat) : Int).toNat + 1) 0 = some (if (w.Bills.any fun y => decide (y.Bill = b)) = true then .inr (6, w) else .inl ()) := by
  rw [iter_first w.Bills (fun y => if y.Bill = b then some (.inr (6, w) : Unit ⊕ (Int × RW)) else none) (.inl ()) (by omega) (fun k y hy => ?_) (by simp [recyclingref56_Register_Charge_l1]) _ (by simp)]
  · congr 1
    clear hl
    induction w.Bills with
    | nil => rfl
    | cons y l ih => by_cases h : y.Bill = b <;> simp [first, h, ih]
  · have hk := lt_of_get hy
    have hk2 : ((k : Int) < (w.Bills.length : Nat)) := by omega
    simp only [recyclingref56_Register_Charge_l1, hk2, decide_true, cond_true, getI_nat, hy, Option.bind_some]
    by_cases h : y.Bill = b <;> simp [h]
theorem Rel.lenW {r : R} {w : RW} (h : Rel r w) : w.Bills.length ≤ 512 := by have := h.len; have := h.ok.many; omega
theorem charge_rel {r : R} {w : RW} (h : Rel r w) (b a d : Int) : ∃ w', recyclingref56_Register_Charge w b a d = some ((chargeR r b a d).1, w') ∧ Rel (chargeR r b a d).2 w' := by
  have hlen := h.lenW
  have e : (bif (decide (b < 1)) then some true else bif (decide (1000000 < b)) then some true else bif (decide (a < 1)) then some true else bif (decide (1000000000000 < a)) then some true else Option.bind (recyclingref56_moment d) fun r2 => some (!r2)) = some (badC b a d) := by
    unfold badC
    rw [moment_eq]
    by_cases h1 : b < 1 <;> by_cases h2 : 1000000 < b <;> by_cases h3 : a < 1 <;> by_cases h4 : 1000000000000 < a <;> simp [h1, h2, h3, h4]
    by_cases h5 : d < 0 <;> by_cases h6 : 3155759999 < d <;> simp [h5, h6] <;> omega
  have hok := charge_ok h.ok b a d
  unfold recyclingref56_Register_Charge
  rw [e, Option.bind_some]
  unfold chargeR at hok ⊢
  cases hb : badC b a d with
  | true => rw [hb] at hok; simp only [if_true, cond_true]; exact ⟨w, rfl, h⟩
  | false =>
    rw [hb] at hok
    simp only [Bool.false_eq_true, if_false, cond_false, chargeW_l1 (show w.Bills.length ≤ 1000 by omega) b, Option.bind_some] at hok ⊢
    have hkn : (mget b r.known).getD false = (w.Bills.any fun y => decide (y.Bill = b)) := by
      cases hg : mget b r.known with
      | none =>
        rw [Option.getD_none]
        symm
        rw [List.any_eq_false]
        intro y hy hyb
        have := (h.kn b).2 ⟨y, hy, by simpa using hyb⟩
        rw [hg] at this; cases this
      | some v =>
        have hv := h.ok.tru _ _ hg
        subst hv
        obtain ⟨y, hy, hyb⟩ := (h.kn b).1 hg
        rw [Option.getD_some]
        symm
        rw [List.any_eq_true]
        exact ⟨y, hy, by simpa using hyb⟩
    rw [hkn] at hok ⊢
    cases hany : (w.Bills.any fun y => decide (y.Bill = b)) with
    | true => simp only [if_true, osum]; exact ⟨w, rfl, h⟩
    | false =>
      rw [hany] at hok
      simp only [Bool.false_eq_true, if_false, osum] at hok ⊢
      by_cases hk : 512 ≤ r.known.length
      · have h5 : (512 : Int) ≤ (w.Bills.length : Nat) := by have := h.len; omega
        simp only [hk, if_true, h5, decide_true, cond_true]
        exact ⟨w, rfl, h⟩
      · have h5 : ¬ (512 : Int) ≤ (w.Bills.length : Nat) := by have := h.len; omega
        rw [if_neg hk] at hok ⊢
        have hne : ∀ y ∈ w.Bills, y.Bill ≠ b := fun y hy e => by
          rw [List.any_eq_false] at hany
          exact hany y hy (by simpa using e)
        have hb' : 1 ≤ b ∧ b ≤ 1000000 ∧ 1 ≤ a ∧ a ≤ 1000000000000 ∧ 0 ≤ d ∧ d ≤ 3155759999 := by simp [badC] at hb; omega
        have hnone : mget b r.known = none := by
          cases hg : mget b r.known with
          | none => rfl
          | some v =>
            have hv := h.ok.tru _ _ hg
            subst hv
            obtain ⟨y, hy, hyb⟩ := (h.kn b).1 hg
            exact absurd hyb (hne y hy)
        obtain ⟨x, hx⟩ : ∃ x, T_api_Open.mk b d a = x := ⟨_, rfl⟩
        have hf := fold_insF (x := x) w.Bills [] h.sorted (by rw [← hx]; exact hne)
        have hloop := chargeW_l2 (w := w) (by omega) x
        have hxe : x.Bill = b ∧ x.Rest = a ∧ x.Due = d := by rw [← hx]; exact ⟨rfl, rfl, rfl⟩
        rw [hxe.1, hxe.2.1, hxe.2.2] at hloop
        have hfl : (w.Bills.foldl (stepC x) ([], false)).1.length ≤ 2 * w.Bills.length := by
          have : ∀ (l : List O) (s : List O × Bool), (l.foldl (stepC x) s).1.length ≤ s.1.length + 2 * l.length := by
            intro l
            induction l with
            | nil => intro s; simp
            | cons y l ih => intro s; have := ih (stepC x s y); have := length_stepC x s y; simp only [List.foldl_cons, List.length_cons]; omega
          simpa using this w.Bills ([], false)
        refine ⟨⟨insF w.Bills x, w.Credit, w.Last⟩, ?_, ?_⟩
        · simp only [h5, decide_false, cond_false, hloop, Option.bind_some, oun, hx]
          obtain ⟨s, hs⟩ : ∃ s, w.Bills.foldl (stepC x) ([], false) = s := ⟨_, rfl⟩
          rw [hs] at hf hfl ⊢
          rw [List.nil_append] at hf
          rw [← hf]
          unfold finC
          cases hs2 : s.2 with
          | true => simp
          | false =>
            rw [appO_eq (by simp; omega)]
            simp
        · rw [hx] at hok ⊢
          have hins : insL r.f_open x = (insF w.Bills x).filter pos := by
            rw [insL_insF h.ok.list.sorted, h.op, filter_insF _ _ (show pos x = true by rw [← hx]; simp [pos]; omega)]
            intro y hy
            rw [h.op] at hy
            rw [hxe.1]
            exact hne y (List.mem_filter.1 hy).1
          have hsorted : (insF w.Bills x).Pairwise ltO := by
            rw [← insL_insF h.sorted (by rw [hxe.1]; exact hne)]
            exact insL_sorted h.sorted (by rw [hxe.1]; exact hne)
          have hleni : (insF w.Bills x).length = w.Bills.length + 1 := by
            rw [← insL_insF h.sorted (by rw [hxe.1]; exact hne), length_insL]
          refine ⟨hok, hsorted, fun y hy => ?_, hins, h.credit, h.last, ?_, fun c => ?_⟩
          · rcases mem_insF hy with rfl | hy
            · rw [← hx]; exact ⟨by simp only; omega, by simp only; omega, by simp only; omega, by simp only; omega, by simp only; omega, by simp only; omega⟩
            · exact h.okb y hy
          · have := length_mput_none (v := true) r.known hnone
            have := h.len
            simp only; omega
          · simp only
            by_cases hc : c = b
            · subst hc
              rw [mget_mput_same]
              refine ⟨fun _ => ⟨x, ?_, hxe.1⟩, fun _ => rfl⟩
              unfold insF; simp
            · rw [mget_mput_ne hc, h.kn c]
              constructor
              · rintro ⟨y, hy, e⟩
                refine ⟨y, ?_, e⟩
                rw [← insL_insF h.sorted (by rw [hxe.1]; exact hne)]
                unfold insL
                rw [← List.take_append_drop (placeO x w.Bills w.Bills.length) w.Bills] at hy
                rcases List.mem_append.1 hy with hy | hy
                · exact List.mem_append.2 (.inl hy)
                · exact List.mem_append.2 (.inr (List.mem_cons.2 (.inr hy)))
              · rintro ⟨y, hy, e⟩
                rcases mem_insF hy with rfl | hy
                · exact absurd (e ▸ hxe.1) hc
                · exact ⟨y, hy, e⟩

end Go.Proofs.Yticcfpmehjcjcaa
