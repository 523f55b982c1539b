/- The plain laws of schedules: the laws themselves. -/
import Derived.Test.YtpcajjnanljajaaSb
namespace Go.Proofs.Ytpcajjnanljajaa
set_option linter.unusedSimpArgs false
set_option linter.unusedVariables false

def dueR (s : Sch) (d : Int) : Bool := decide (chk s = 0) && dayB s d
theorem Due_eq (s : Sch) (hl : s.Moves.length ≤ 200) (d : Int) : schedule_Due s d = some (dueR s d) := by
  unfold schedule_Due dueR
  rw [Check_eq s hl, Option.bind_some]
  by_cases hc : chk s = 0
  · simp [hc, held_eq (V.of hc), due_eq (V.of hc)]
  · simp [hc]
theorem RDue_eq (s : Sch) (hl : s.Moves.length ≤ 200) (d : Int) : recyclingref17_Due s d = some (dueR s d) := by
  unfold recyclingref17_Due dueR
  rw [RCheck_eq s hl, Option.bind_some]
  by_cases hc : chk s = 0
  · simp [hc, rday_eq (V.of hc)]
  · simp [hc]

def nextR (s : Sch) (d : Int) : Int × Int := if chk s ≠ 0 then (0, chk s) else if val d = false then (0, 1) else match (days s d 36525).head? with
  | none => (0, 7)
  | some x => (x, 0)
theorem val_iff (d : Int) : val d = true ↔ 0 ≤ d ∧ d ≤ 36524 := by simp [val]
theorem Next_eq (s : Sch) (hl : s.Moves.length ≤ 200) {F : Nat} (hF : 36526 ≤ F) (d : Int) : schedule_Next F s d = some (nextR s d) := by
  unfold schedule_Next nextR
  rw [Check_eq s hl, Option.bind_some]
  by_cases hc : chk s = 0
  · simp only [hc, decide_true, Bool.not_true, cond_false, ne_eq, not_true_eq_false, if_false, day_eq, Option.bind_some]
    cases hv : val d with
    | false => simp
    | true =>
      have hv' := (val_iff d).1 hv
      have hw : winBad d 36525 = false := by unfold winBad; simp; omega
      simp only [Bool.not_true, cond_false, Days_eq s hl hF, daysR, hc, ne_eq, not_true_eq_false, if_false, hw, Bool.false_eq_true, Option.bind_some, oun, Bool.true_eq_false]
      cases days s d 36525 with
      | nil => simp
      | cons x r =>
        have h0 : ¬ ((((x :: r).length : Nat) : Int) = 0) := by simp; omega
        simp only [h0, decide_false, cond_false, List.head?_cons]
        rfl
  · simp [hc]
theorem rnext_loop {s : Sch} (h : V s) {a : Int} (ha : 0 ≤ a) {F : Nat} (hF : 36526 ≤ F) : iter (recyclingref17_Next_l1 s) F a = some (match (days s a 36525).head? with | none => .inl () | some x => .inr (x, 0)) := by
  refine iter_rel (fun n d o => 0 ≤ d ∧ (36525 - d).toNat ≤ n ∧ n ≤ 36525 ∧ (match ((pl 1 36525 n d).filter (dayB s)).head? with | none => .inl () | some x => .inr (x, 0)) = o) ?_ F 36525 _ _ ⟨ha, by omega, by omega, rfl⟩ (by omega)
  rintro n d o ⟨hd, hn, hn2, ho⟩
  by_cases hdb : d ≤ 36524
  · obtain ⟨n, rfl⟩ : ∃ k, n = k + 1 := ⟨n - 1, by omega⟩
    rw [pl, if_pos (by omega)] at ho
    have hw : w64 (d + 1) = d + 1 := w64_eq (by omega) (by omega)
    cases hday : dayB s d with
    | true =>
      rw [List.filter_cons_of_pos hday] at ho
      right
      simp only [List.head?_cons] at ho
      simp only [recyclingref17_Next_l1, hdb, decide_true, cond_true, rday_eq h, hday, Option.bind_some, ← ho]
    | false =>
      rw [List.filter_cons_of_neg (by rw [hday]; simp)] at ho
      left
      refine ⟨d + 1, n, ?_, by omega, by omega, by omega, by omega, ho⟩
      simp only [recyclingref17_Next_l1, hdb, decide_true, cond_true, rday_eq h, hday, Option.bind_some, cond_false, hw]
  · right
    have e : (pl 1 36525 n d).filter (dayB s) = [] := by
      cases n with
      | zero => rfl
      | succ n => rw [pl, if_neg (by omega)]; rfl
    rw [e] at ho
    simp only [List.head?_nil] at ho
    simp only [recyclingref17_Next_l1, hdb, decide_false, cond_false, ← ho]
theorem RNext_eq (s : Sch) (hl : s.Moves.length ≤ 200) {F : Nat} (hF : 36526 ≤ F) (d : Int) : recyclingref17_Next F s d = some (nextR s d) := by
  unfold recyclingref17_Next nextR
  rw [RCheck_eq s hl, Option.bind_some]
  by_cases hc : chk s = 0
  · simp only [hc, decide_true, Bool.not_true, cond_false, ne_eq, not_true_eq_false, if_false, valid_eq, Option.bind_some]
    cases hv : val d with
    | false => simp
    | true =>
      have hv' := (val_iff d).1 hv
      simp only [Bool.not_true, cond_false, rnext_loop (V.of hc) hv'.1 hF, Option.bind_some, Bool.true_eq_false, if_false]
      cases (days s d 36525).head? <;> rfl
  · simp [hc]

/-! two lists of numbers -/
theorem same_first {α : Type} [DecidableEq α] : ∀ (a b : List α), a.length = b.length → first (fun p : α × α => if p.1 = p.2 then none else some (.inr false : Unit ⊕ Bool)) (.inl ()) (a.zip b) = if a = b then .inl () else .inr false
  | [], [], _ => by simp [first]
  | [], y :: b, h => by simp at h
  | x :: a, [], h => by simp at h
  | x :: a, y :: b, h => by
    have ih := same_first a b (by simpa using h)
    by_cases hxy : x = y <;> simp [first, hxy, ih]
theorem get_zip {α β : Type} {a : List α} {b : List β} {k : Nat} {p : α × β} (h : (a.zip b)[k]? = some p) : a[k]? = some p.1 ∧ b[k]? = some p.2 := by
  rw [List.getElem?_zip_eq_some] at h
  exact h
theorem Same_eq (a b : List Int) (ha : a.length ≤ 1000000) : recyclingref17_Same a b = some (decide (a = b)) := by
  unfold recyclingref17_Same
  by_cases hl : a.length = b.length
  · have hl' : ((a.length : Nat) : Int) = (b.length : Nat) := by omega
    have hz : (a.zip b).length = a.length := by rw [List.length_zip]; omega
    have := iter_first (a.zip b) (body := recyclingref17_Same_l1 a b) (fun p : Int × Int => if p.1 = p.2 then none else some (.inr false : Unit ⊕ Bool)) (.inl ()) (by omega) (fun k p hp => ?_) (by rw [hz]; simp [recyclingref17_Same_l1]) (((a.length : Nat) : Int).toNat + 1) (by rw [hz]; simp)
    · simp only [hl', decide_true, Bool.not_true, cond_false]
      rw [← hl', this, same_first a b hl, Option.bind_some]
      by_cases h : a = b <;> simp [h, osum]
    · obtain ⟨h1, h2⟩ := get_zip hp
      have hk : ((k : Int) < (a.length : Nat)) := by have := lt_of_get h1; omega
      simp only [recyclingref17_Same_l1, hk, decide_true, cond_true, getI_nat, h1, h2, Option.bind_some]
      by_cases h : p.1 = p.2 <;> simp [h]
  · have hl' : ¬ ((a.length : Nat) : Int) = (b.length : Nat) := by omega
    have : a ≠ b := fun e => hl (by rw [e])
    simp [hl', this]
theorem length_daysR (s : Sch) (a b : Int) : (daysR s a b).1.length ≤ 36525 := by
  unfold daysR
  split
  · simp
  · split
    · simp
    · exact length_days _ _ _
theorem Count_eq (s : Sch) (hl : s.Moves.length ≤ 200) {F : Nat} (hF : 36526 ≤ F) (a b : Int) : schedule_Count F s a b = some ((((daysR s a b).1.length : Nat) : Int), (daysR s a b).2) := by
  unfold schedule_Count
  rw [Days_eq s hl hF]
  rfl

theorem awake_true {F : Nat} (hF : 36526 ≤ F) : recyclinglaw17_awake F = some true := by
  unfold recyclinglaw17_awake recyclinglaw17_sample
  have hl : (T_api_Schedule.mk 0 2 7 [(T_api_Move.mk 9 10)]).Moves.length ≤ 200 := by decide
  have hl2 : (T_api_Schedule.mk 0 2 7 [(T_api_Move.mk 8 10)]).Moves.length ≤ 200 := by decide
  have hl3 : (T_api_Schedule.mk 0 36520 7 []).Moves.length ≤ 200 := by decide
  simp only [Option.bind_some, Days_eq _ hl hF, Count_eq _ hl hF, Next_eq _ hl hF, Next_eq _ hl3 hF, Check_eq _ hl, Check_eq _ hl2, Due_eq _ hl, oun]
  have e1 : daysR (T_api_Schedule.mk 0 2 7 [(T_api_Move.mk 9 10)]) 3 24 = ([10, 16, 23], 0) := by decide +kernel
  have e2 : nextR (T_api_Schedule.mk 0 2 7 [(T_api_Move.mk 9 10)]) 11 = (16, 0) := by decide +kernel
  have e3 : nextR (T_api_Schedule.mk 0 36520 7 []) 36521 = (0, 7) := by decide +kernel
  have e4 : chk (T_api_Schedule.mk 0 2 7 [(T_api_Move.mk 9 10)]) = 0 := by decide +kernel
  have e5 : chk (T_api_Schedule.mk 0 2 7 [(T_api_Move.mk 8 10)]) = 7 := by decide +kernel
  have e6 : dueR (T_api_Schedule.mk 0 2 7 [(T_api_Move.mk 9 10)]) 2 = true := by decide +kernel
  have e7 : dueR (T_api_Schedule.mk 0 2 7 [(T_api_Move.mk 9 10)]) 9 = false := by decide +kernel
  have e8 : dueR (T_api_Schedule.mk 0 2 7 [(T_api_Move.mk 9 10)]) 10 = true := by decide +kernel
  rw [e1, e2, e3, e4, e5, e6, e7, e8, Same_eq _ _ (by decide)]
  decide

def FF : Nat := 40000
theorem hFF : 36526 ≤ FF := by unfold FF; omega

theorem recyclinglaw17_ScheduleChecks_true (s : Sch) (_ : wf_api_Schedule s) : ∃ F, recyclinglaw17_ScheduleChecks F s = some true := by
  refine ⟨FF, ?_⟩
  unfold recyclinglaw17_ScheduleChecks
  by_cases hl : (200 : Int) < (s.Moves.length : Nat)
  · simp [hl, awake_true hFF]
  · have hl' : s.Moves.length ≤ 200 := by omega
    simp [hl, Check_eq s hl', RCheck_eq s hl', awake_true hFF]
theorem recyclinglaw17_ScheduleDues_true (s : Sch) (d : Int) (_ : wf_api_Schedule s) (_ : wfI .i64 d) : ∃ F, recyclinglaw17_ScheduleDues F s d = some true := by
  refine ⟨FF, ?_⟩
  unfold recyclinglaw17_ScheduleDues
  by_cases hl : (200 : Int) < (s.Moves.length : Nat)
  · simp [hl, awake_true hFF]
  · have hl' : s.Moves.length ≤ 200 := by omega
    simp [hl, Due_eq s hl', RDue_eq s hl', awake_true hFF]
theorem recyclinglaw17_ScheduleDays_true (s : Sch) (a b : Int) (_ : wf_api_Schedule s) (_ : wfI .i64 a) (_ : wfI .i64 b) : ∃ F, recyclinglaw17_ScheduleDays F s a b = some true := by
  refine ⟨FF, ?_⟩
  unfold recyclinglaw17_ScheduleDays
  by_cases hl : (200 : Int) < (s.Moves.length : Nat)
  · simp [hl, awake_true hFF]
  · have hl' : s.Moves.length ≤ 200 := by omega
    have hd := length_daysR s a b
    simp [hl, Days_eq s hl' hFF, RDays_eq s hl' hFF, Count_eq s hl' hFF, awake_true hFF, oun, Same_eq _ _ (show (daysR s a b).1.length ≤ 1000000 by omega)]
theorem recyclinglaw17_ScheduleNexts_true (s : Sch) (d : Int) (_ : wf_api_Schedule s) (_ : wfI .i64 d) : ∃ F, recyclinglaw17_ScheduleNexts F s d = some true := by
  refine ⟨FF, ?_⟩
  unfold recyclinglaw17_ScheduleNexts
  by_cases hl : (200 : Int) < (s.Moves.length : Nat)
  · simp [hl, awake_true hFF]
  · have hl' : s.Moves.length ≤ 200 := by omega
    simp [hl, Next_eq s hl' hFF, RNext_eq s hl' hFF, awake_true hFF, oun]

/-! the pattern -/
theorem fold_from (d : Int) : ∀ (l : List Mv) (w : Bool), each (fun (w : Bool) (x : Mv) => (.inl (if x.From = d then false else w) : Bool ⊕ Bool)) (fun w => w) l w = if (l.any fun m => decide (m.From = d)) = true then false else w
  | [], w => rfl
  | x :: r, w => by
    simp only [each, fold_from d r, List.any_cons]
    by_cases h : x.From = d
    · simp [h]
    · simp [h]
theorem fold_to (d : Int) : ∀ (l : List Mv) (w : Bool), each (fun (w : Bool) (x : Mv) => (.inl (if x.To = d then true else w) : Bool ⊕ Bool)) (fun w => w) l w = if (l.any fun m => decide (m.To = d)) = true then true else w
  | [], w => rfl
  | x :: r, w => by
    simp only [each, fold_to d r, List.any_cons]
    by_cases h : x.To = d
    · simp [h]
    · simp [h]
theorem pat_l1 {s : Sch} (hl : s.Moves.length ≤ 200) (d : Int) (w : Bool) : iter (recyclinglaw17_SchedulePattern_l1 s d) (((s.Moves.length : Nat) : Int).toNat + 1) (w, 0) = some (if fromB s d = true then false else w) := by
  have hb : ∀ (k : Nat) (x : Mv) (w : Bool), s.Moves[k]? = some x → recyclinglaw17_SchedulePattern_l1 s d (w, (k : Int)) = some (mapL (fun w => (w, w64 ((k : Int) + 1))) (.inl (if x.From = d then false else w) : Bool ⊕ Bool)) := by
    intro k x w hx
    have hk : ((k : Int) < (s.Moves.length : Nat)) := by have := lt_of_get hx; omega
    simp only [recyclinglaw17_SchedulePattern_l1, oun, hk, decide_true, cond_true, getI_nat, hx, Option.bind_some]
    by_cases h1 : x.From = d <;> simp [h1]
  rw [iter_each s.Moves (fun (w : Bool) k => (w, k)) _ (fun w => w) (fun _ _ => True) (by omega) (fun k x w hx _ => ⟨hb k x w hx, fun _ _ => trivial⟩) (fun w _ => by simp [recyclinglaw17_SchedulePattern_l1, oun]) _ _ trivial (by simp), fold_from]
  rfl
theorem pat_l2 {s : Sch} (hl : s.Moves.length ≤ 200) (d : Int) (w : Bool) : iter (recyclinglaw17_SchedulePattern_l2 s d) (((s.Moves.length : Nat) : Int).toNat + 1) (w, 0) = some (if toB s d = true then true else w) := by
  have hb : ∀ (k : Nat) (x : Mv) (w : Bool), s.Moves[k]? = some x → recyclinglaw17_SchedulePattern_l2 s d (w, (k : Int)) = some (mapL (fun w => (w, w64 ((k : Int) + 1))) (.inl (if x.To = d then true else w) : Bool ⊕ Bool)) := by
    intro k x w hx
    have hk : ((k : Int) < (s.Moves.length : Nat)) := by have := lt_of_get hx; omega
    simp only [recyclinglaw17_SchedulePattern_l2, oun, hk, decide_true, cond_true, getI_nat, hx, Option.bind_some]
    by_cases h1 : x.To = d <;> simp [h1]
  rw [iter_each s.Moves (fun (w : Bool) k => (w, k)) _ (fun w => w) (fun _ _ => True) (by omega) (fun k x w hx _ => ⟨hb k x w hx, fun _ _ => trivial⟩) (fun w _ => by simp [recyclinglaw17_SchedulePattern_l2, oun]) _ _ trivial (by simp), fold_to]
  rfl
theorem pat_want {s : Sch} (hv : V s) {d : Int} (h0 : 0 ≤ d) (h1 : d ≤ 36524) : (bif (decide (s.Start ≤ d)) then Option.bind (guardO (s.Every ≠ 0)) fun _ => some (decide ((Int.tmod (w64 (d - s.Start)) s.Every) = 0)) else some false) = some (patB s d) := by
  have he := hv.head.he; have hs := hv.head.hs
  unfold patB
  by_cases h : s.Start ≤ d
  · simp only [h, decide_true, cond_true, guardO_eq (show s.Every ≠ 0 by omega), Option.bind_some, h0, h1, and_self, true_and]
    rw [w64_eq (by omega) (by omega)]
  · simp [h]
/-- The law's walk through the window: how many of the list have come. -/
theorem pat_l3 {s : Sch} (hv : V s) (hl : s.Moves.length ≤ 200) (hc : chk s = 0) {a n : Int} (ha : 0 ≤ a) (hn : 0 ≤ n) (hb : a + n ≤ 36525) {F : Nat} (hF : 36526 ≤ F) :
    iter (recyclinglaw17_SchedulePattern_l3 s a n (days s a (a + n))) F (0, a) = some (.inl (((days s a (a + n)).length : Nat) : Int)) := by
  have hlen := length_days s a (a + n)
  refine iter_rel (fun m t o => ∃ (k : Nat) (d : Int), t = ((k : Int), d) ∧ 0 ≤ d ∧ (a + n - d).toNat ≤ m ∧ m ≤ 36525 ∧ (pl 1 (a + n) m d).filter (dayB s) = (days s a (a + n)).drop k ∧ k ≤ (days s a (a + n)).length ∧ o = .inl (((days s a (a + n)).length : Nat) : Int)) ?_ F 36525 _ _ ⟨0, a, rfl, ha, by omega, by omega, rfl, Nat.zero_le _, rfl⟩ (by omega)
  rintro m _ o ⟨k, d, rfl, hd, hm, hm2, hp, hk, rfl⟩
  have hw0 : w64 (a + n) = a + n := w64_eq (by omega) (by omega)
  by_cases hdb : d < a + n
  · obtain ⟨m, rfl⟩ : ∃ k, m = k + 1 := ⟨m - 1, by omega⟩
    rw [pl, if_pos hdb] at hp
    have hw : w64 (d + 1) = d + 1 := w64_eq (by omega) (by omega)
    have hday : (if toB s d = true then true else if fromB s d = true then false else patB s d) = dayB s d := by
      unfold dayB
      cases ht : toB s d <;> cases hf : fromB s d <;> simp
    have hdue : schedule_Due s d = some (dayB s d) := by rw [Due_eq s hl, dueR, hc]; simp
    left
    cases hD : dayB s d with
    | true =>
      rw [List.filter_cons_of_pos hD] at hp
      have hk2 : k < (days s a (a + n)).length := by
        rcases Nat.lt_or_ge k (days s a (a + n)).length with h | h
        · exact h
        · rw [List.drop_of_length_le h] at hp; cases hp
      rw [List.drop_eq_getElem_cons hk2] at hp
      injection hp with hp1 hp2
      refine ⟨(((k + 1 : Nat) : Int), d + 1), m, ?_, by omega, k + 1, d + 1, rfl, by omega, by omega, by omega, hp2, hk2, rfl⟩
      have hle : ¬ ((((days s a (a + n)).length : Nat) : Int) ≤ (k : Int)) := by omega
      simp only [recyclinglaw17_SchedulePattern_l3, oun, hw0, hdb, decide_true, cond_true, pat_want hv hd (by omega : d ≤ 36524), Option.bind_some, pat_l1 hl, pat_l2 hl, hday, hdue, hD, beq_self_eq_true, Bool.not_true, cond_false, hle, decide_false, getI_some hk2, ← hp1, osum, hw, w64_nat (show k < 9223372036854775807 by omega)]
    | false =>
      rw [List.filter_cons_of_neg (by rw [hD]; simp)] at hp
      refine ⟨((k : Int), d + 1), m, ?_, by omega, k, d + 1, rfl, by omega, by omega, by omega, hp, hk, rfl⟩
      simp only [recyclinglaw17_SchedulePattern_l3, oun, hw0, hdb, decide_true, cond_true, pat_want hv hd (by omega : d ≤ 36524), Option.bind_some, pat_l1 hl, pat_l2 hl, hday, hdue, hD, beq_self_eq_true, Bool.not_true, cond_false, osum, hw]
  · right
    have e : (pl 1 (a + n) m d).filter (dayB s) = [] := by
      cases m with
      | zero => rfl
      | succ n => rw [pl, if_neg hdb]; rfl
    rw [e] at hp
    have : k = (days s a (a + n)).length := by
      have := congrArg List.length hp
      simp at this; omega
    subst this
    simp only [recyclinglaw17_SchedulePattern_l3, oun, hw0, hdb, decide_false, cond_false]
theorem recyclinglaw17_SchedulePattern_true (s : Sch) (a n : Int) (_ : wf_api_Schedule s) (ha : wfI .i64 a) (hn : wfI .i64 n) : ∃ F, recyclinglaw17_SchedulePattern F s a n = some true := by
  refine ⟨FF, ?_⟩
  unfold recyclinglaw17_SchedulePattern
  by_cases hl : (200 : Int) < (s.Moves.length : Nat)
  · simp [hl, awake_true hFF]
  · have hl' : s.Moves.length ≤ 200 := by omega
    simp only [hl, decide_false, cond_false, Check_eq s hl', Option.bind_some]
    by_cases hc : chk s = 0
    · have hv := V.of hc
      have he := hv.head.he; have h32 := hv.len
      simp only [hc, decide_true, Bool.not_true, cond_false]
      by_cases h1 : a < 0
      · simp [h1, awake_true hFF]
      · by_cases h2 : 36524 < a
        · simp [h1, h2, awake_true hFF]
        · by_cases h3 : n < 0
          · simp [h1, h2, h3, awake_true hFF]
          · by_cases h4 : 400 < n
            · simp [h1, h2, h3, h4, awake_true hFF]
            · by_cases h5 : w64 (36525 - a) < n
              · simp [h1, h2, h3, h4, h5, awake_true hFF]
              · have h6 : a + n ≤ 36525 := by rw [w64_eq (by omega) (by omega)] at h5; omega
                have hw : w64 (a + n) = a + n := w64_eq (by omega) (by omega)
                have hE : ¬ s.Every < 1 := by omega
                have hL : ¬ (32 : Int) < (s.Moves.length : Nat) := by omega
                have hwin : winBad a (a + n) = false := by unfold winBad; simp; omega
                have hD : daysR s a (a + n) = (days s a (a + n), 0) := by simp [daysR, hc, hwin]
                simp only [h1, h2, h3, h4, h5, hE, hL, decide_false, cond_false, Option.bind_some, hw, Days_eq s hl' hFF, hD, oun, decide_true, Bool.not_true, pat_l3 hv hl' hc (by omega : 0 ≤ a) (by omega : 0 ≤ n) h6 hFF, osum, cond_true, awake_true hFF]
    · simp [hc, awake_true hFF]

/-! the number -/
theorem length_pl_pat {E b : Int} (hE : 1 ≤ E) : ∀ {n : Nat} {d : Int}, (b - d).toNat ≤ n → d ≤ b - 1 → (((pl E b n d).length : Nat) : Int) = (b - 1 - d) / E + 1
  | 0, d, h, h2 => by omega
  | n + 1, d, h, h2 => by
    rw [pl, if_pos (by omega), List.length_cons]
    by_cases h3 : d + E ≤ b - 1
    · have ih := length_pl_pat hE (n := n) (d := d + E) (by omega) h3
      rw [Int.natCast_add, ih]
      have : b - 1 - d = (b - 1 - (d + E)) + E * 1 := by omega
      rw [this, Int.add_mul_ediv_left _ _ (by omega)]
      simp
    · have e : pl E b n (d + E) = [] := by
        cases n with
        | zero => rfl
        | succ n => rw [pl, if_neg (by omega)]
      rw [e, Int.ediv_eq_zero_of_lt (by omega) (by omega)]
      rfl
theorem nodup_from {l : List Mv} {seen : List Mv} (h : dupB seen l = false) : (l.map (·.From)).Nodup := by
  have key : ∀ {l seen : List Mv}, dupB seen l = false → (∀ y ∈ l, ∀ z ∈ seen, z.From ≠ y.From) ∧ l.Pairwise fun a b => a.From ≠ b.From := by
    intro l
    induction l with
    | nil => intro _ _; exact ⟨by simp, List.Pairwise.nil⟩
    | cons a q ih =>
      intro seen h
      rw [dupB, Bool.or_eq_false_iff] at h
      obtain ⟨h1, h2⟩ := ih h.2
      refine ⟨fun y hy z hz => ?_, List.Pairwise.cons (fun y hy => h1 y hy a (by simp)) h2⟩
      rcases List.mem_cons.1 hy with rfl | hy
      · have := List.any_eq_false.1 h.1 z hz
        simp only [clash, decide_eq_true_eq, not_or] at this
        exact fun e => this.1 e.symm
      · exact h1 y hy z (by simp [hz])
  rw [List.Nodup, List.pairwise_map]
  exact (key h).2
theorem dup_of {s : Sch} (h : chk s = 0) : dupB [] s.Moves = false := by
  unfold chk at h
  split at h
  · cases h
  · split at h
    · cases h
    · split at h
      · rename_i e he
        obtain ⟨m, _, hm⟩ := List.exists_of_findSome?_eq_some he
        unfold mvErr at hm
        split at hm
        · injection hm with hm; omega
        · split at hm
          · injection hm with hm; omega
          · split at hm
            · injection hm with hm; omega
            · cases hm
      · cases hd : dupB [] s.Moves with
        | false => rfl
        | true => rw [hd] at h; simp at h
theorem length_filter_not {l : List Int} {p : Int → Bool} {f : List Int} (hl : l.Nodup) (hf : f.Nodup) (hsub : ∀ x ∈ f, x ∈ l) (hp : ∀ x, p x = !decide (x ∈ f)) : (l.filter p).length + f.length = l.length := by
  have h1 : (l.filter fun x => decide (x ∈ f)).Perm f := perm_of_mem (hl.filter _) hf fun x => by simp [List.mem_filter]; exact hsub x
  have h2 : (l.filter p).length + (l.filter fun x => decide (x ∈ f)).length = l.length := by
    clear h1 hsub hl hf
    induction l with
    | nil => rfl
    | cons a r ih =>
      by_cases h : a ∈ f
      · rw [List.filter_cons_of_neg (by simp [hp, h]), List.filter_cons_of_pos (by simp [h])]; simp; omega
      · rw [List.filter_cons_of_pos (by simp [hp, h]), List.filter_cons_of_neg (by simp [h])]; simp; omega
  rw [h1.length_eq] at h2
  exact h2
theorem number {s : Sch} (hc : chk s = 0) : (((days s 0 36525).length : Nat) : Int) = (36524 - s.Start) / s.Every + 1 := by
  have hv := V.of hc
  have he := hv.head.he; have hs := hv.head.hs
  have hp := days_perm hv (a := 0) (b := 36525) (f := s.Start) (by omega) (by omega) (by omega) ⟨0, by simp, by omega, .inl rfl⟩
  rw [← hp.length_eq, List.length_append]
  have ht : (s.Moves.map (·.To)).filter (fun t => decide (0 ≤ t ∧ t < 36525)) = s.Moves.map (·.To) := by
    rw [List.filter_eq_self]
    intro t ht
    obtain ⟨m, hm, rfl⟩ := List.mem_map.1 ht
    have := (val_iff m.To).1 (hv.mv m hm).2.1
    simp; omega
  rw [ht, List.length_map]
  have hpat : ∀ x, x ∈ pl s.Every 36525 36525 s.Start ↔ patB s x = true := by
    intro x
    rw [mem_pl (by omega) (by omega), pat_iff hv.head]
    constructor
    · rintro ⟨j, rfl, h1⟩
      have : 0 ≤ (j : Int) * s.Every := Int.mul_nonneg (by omega) (by omega)
      exact ⟨⟨by omega, by omega⟩, j, rfl⟩
    · rintro ⟨h1, j, rfl⟩
      exact ⟨j, rfl, by omega⟩
  have hfl : (pl s.Every 36525 36525 s.Start).filter (dayB s) = (pl s.Every 36525 36525 s.Start).filter fun x => !decide (x ∈ s.Moves.map (·.From)) := by
    refine List.filter_congr fun x hx => ?_
    have hx' := (hpat x).1 hx
    unfold dayB
    have hto : toB s x = false := by
      unfold toB
      rw [List.any_eq_false]
      intro m hm
      simp only [decide_eq_true_eq]
      intro e
      have := (hv.mv m hm).2.2
      rw [e, hx'] at this
      cases this
    have hfr : fromB s x = decide (x ∈ s.Moves.map (·.From)) := by
      unfold fromB
      by_cases h : x ∈ s.Moves.map (·.From)
      · obtain ⟨m, hm, h2⟩ := List.mem_map.1 h
        rw [decide_eq_true h, List.any_eq_true]
        exact ⟨m, hm, by simpa using h2⟩
      · rw [decide_eq_false h, List.any_eq_false]
        intro m hm
        simp only [decide_eq_true_eq]
        exact fun e => h (List.mem_map.2 ⟨m, hm, e⟩)
    rw [hto, hx', hfr]; simp
  have hcount := length_filter_not (l := pl s.Every 36525 36525 s.Start) (p := fun x => !decide (x ∈ s.Moves.map (·.From))) (f := s.Moves.map (·.From)) (nodup_lt (pl_sorted (by omega) _ _).1) (nodup_from (dup_of hc))
    (fun x hx => by
      obtain ⟨m, hm, rfl⟩ := List.mem_map.1 hx
      exact (hpat _).2 (hv.mv m hm).1) (fun x => rfl)
  rw [List.length_map] at hcount
  rw [hfl, hcount]
  exact length_pl_pat (by omega) (by omega) (by omega)
theorem recyclinglaw17_ScheduleNumber_true (s : Sch) (_ : wf_api_Schedule s) : ∃ F, recyclinglaw17_ScheduleNumber F s = some true := by
  refine ⟨FF, ?_⟩
  unfold recyclinglaw17_ScheduleNumber
  by_cases hl : (200 : Int) < (s.Moves.length : Nat)
  · simp [hl, awake_true hFF]
  · have hl' : s.Moves.length ≤ 200 := by omega
    simp only [hl, decide_false, cond_false, Check_eq s hl', Option.bind_some]
    by_cases hc : chk s = 0
    · have hv := V.of hc
      have he := hv.head.he; have hs := hv.head.hs
      have h1 : ¬ s.Every < 1 := by omega
      have h2 : ¬ s.Start < 0 := by omega
      have h3 : ¬ 36524 < s.Start := by omega
      have hwin : winBad 0 36525 = false := by decide
      have hD : daysR s 0 36525 = (days s 0 36525, 0) := by simp [daysR, hc, hwin]
      have hq : 0 ≤ (36524 - s.Start) / s.Every := Int.ediv_nonneg (by omega) (by omega)
      have hq2 : (36524 - s.Start) / s.Every ≤ 36524 - s.Start := Int.ediv_le_self _ (by omega)
      have hN : (((days s 0 36525).length : Nat) : Int) = w64 (w64 (Int.tdiv (w64 (36524 - s.Start)) s.Every) + 1) := by
        rw [number hc, w64_eq (n := 36524 - s.Start) (by omega) (by omega), Int.tdiv_eq_ediv_of_nonneg (by omega), w64_eq (n := (36524 - s.Start) / s.Every) (by omega) (by omega), w64_eq (by omega) (by omega)]
      simp only [hc, decide_true, Bool.not_true, cond_false, h1, h2, h3, decide_false, Option.bind_some, Count_eq s hl' hFF, hD, oun, guardO_eq (show s.Every ≠ 0 by omega), hN, cond_true, awake_true hFF]
    · simp [hc, awake_true hFF]

/-! adjacent windows -/
theorem days_split {s : Sch} {a m b : Int} (ha : 0 ≤ a) (ham : a ≤ m) (hmb : m ≤ b) (hb : b ≤ 36525) : days s a m ++ days s m b = days s a b := by
  refine sorted_unique ?_ ?_ ((days_lt s a b).imp fun h => by omega)
  · refine perm_of_mem ?_ (nodup_lt (days_lt s a b)) fun x => ?_
    · rw [List.nodup_append]
      refine ⟨nodup_lt (days_lt _ _ _), nodup_lt (days_lt _ _ _), fun x hx y hy e => ?_⟩
      rw [mem_days ha (by omega)] at hx
      rw [mem_days (by omega) hb] at hy
      omega
    · rw [List.mem_append, mem_days ha (by omega), mem_days (by omega) hb, mem_days ha hb]
      constructor
      · rintro (⟨h1, h2⟩ | ⟨h1, h2⟩)
        · exact ⟨by omega, h2⟩
        · exact ⟨by omega, h2⟩
      · rintro ⟨h1, h2⟩
        by_cases hx : x < m
        · exact .inl ⟨by omega, h2⟩
        · exact .inr ⟨by omega, h2⟩
  · rw [List.pairwise_append]
    refine ⟨(days_lt _ _ _).imp fun h => by omega, (days_lt _ _ _).imp fun h => by omega, fun x hx y hy => ?_⟩
    rw [mem_days ha (by omega)] at hx
    rw [mem_days (by omega) hb] at hy
    omega
theorem recyclinglaw17_ScheduleSplits_true (s : Sch) (a m : Int) (_ : wf_api_Schedule s) (_ : wfI .i64 a) (_ : wfI .i64 m) : ∃ F, recyclinglaw17_ScheduleSplits F s a m = some true := by
  refine ⟨FF, ?_⟩
  unfold recyclinglaw17_ScheduleSplits
  by_cases hl : (200 : Int) < (s.Moves.length : Nat)
  · simp [hl, awake_true hFF]
  · have hl' : s.Moves.length ≤ 200 := by omega
    simp only [hl, decide_false, cond_false, Check_eq s hl', Option.bind_some]
    by_cases hc : chk s = 0
    · simp only [hc, decide_true, Bool.not_true, cond_false]
      by_cases h1 : a < 0
      · simp [h1, awake_true hFF]
      · by_cases h2 : m < a
        · simp [h1, h2, awake_true hFF]
        · by_cases h3 : 36524 < m
          · simp [h1, h2, h3, awake_true hFF]
          · have w1 : winBad a m = false := by unfold winBad; simp; omega
            have w2 : winBad m 36525 = false := by unfold winBad; simp; omega
            have w3 : winBad a 36525 = false := by unfold winBad; simp; omega
            have D1 : daysR s a m = (days s a m, 0) := by simp [daysR, hc, w1]
            have D2 : daysR s m 36525 = (days s m 36525, 0) := by simp [daysR, hc, w2]
            have D3 : daysR s a 36525 = (days s a 36525, 0) := by simp [daysR, hc, w3]
            have hs := congrArg List.length (days_split (s := s) (a := a) (m := m) (b := 36525) (by omega) (by omega) (by omega) (by omega))
            rw [List.length_append] at hs
            have hlen := length_days s a 36525
            have hw : w64 ((((days s a m).length : Nat) : Int) + ((days s m 36525).length : Nat)) = ((days s a 36525).length : Nat) := by rw [w64_eq (by omega) (by omega)]; omega
            have hva : val a = true := (val_iff a).2 (by omega)
            simp only [h1, h2, h3, decide_false, cond_false, Option.bind_some, Count_eq s hl' hFF, Days_eq s hl' hFF, Next_eq s hl' hFF, D1, D2, D3, oun, decide_true, Bool.not_true, hw, nextR, hc, hva, ne_eq, not_true_eq_false, if_false, Bool.true_eq_false]
            cases hd : days s a 36525 with
            | nil => simp [awake_true hFF]
            | cons x r =>
              have h0 : ¬ ((((x :: r).length : Nat) : Int) = 0) := by simp; omega
              have hg : getI (x :: r) 0 = some x := rfl
              simp only [List.head?_cons, h0, decide_false, cond_false, hg, Option.bind_some, decide_true, cond_true, awake_true hFF]
    · simp [hc, awake_true hFF]

end Go.Proofs.Ytpcajjnanljajaa
