/- The plain laws of schedules: which schedules are valid. -/
import Derived.Test.YtpcajjnanljajaaTas
import Derived.Test.YtpcajjnanljajaaGp
import Derived.Test.YtpcajjnanljajaaGs
namespace Go.Proofs.Ytpcajjnanljajaa
set_option linter.unusedSimpArgs false
set_option linter.unusedVariables false

abbrev Sch := T_api_Schedule
abbrev Mv := T_api_Move

def val (d : Int) : Bool := decide (0 ≤ d ∧ d ≤ 36524)
def patB (s : Sch) (d : Int) : Bool := decide ((0 ≤ d ∧ d ≤ 36524) ∧ s.Start ≤ d ∧ Int.tmod (d - s.Start) s.Every = 0)
structure Head (s : Sch) : Prop where
  hc : 0 ≤ s.Container ∧ s.Container < 256
  hs : 0 ≤ s.Start ∧ s.Start ≤ 36524
  he : 1 ≤ s.Every ∧ s.Every ≤ 365
instance (s : Sch) : Decidable (Head s) :=
  if h : (0 ≤ s.Container ∧ s.Container < 256) ∧ (0 ≤ s.Start ∧ s.Start ≤ 36524) ∧ (1 ≤ s.Every ∧ s.Every ≤ 365) then .isTrue ⟨h.1, h.2.1, h.2.2⟩ else .isFalse fun k => h ⟨k.1, k.2, k.3⟩

theorem day_eq (d : Int) : schedule_day d = some (val d) := by
  unfold schedule_day val
  by_cases h : 0 ≤ d <;> simp [h]
theorem valid_eq (d : Int) : recyclingref17_valid d = some (val d) := by
  unfold recyclingref17_valid val
  by_cases h : 0 ≤ d <;> simp [h]
section
variable {s : Sch} (h : Head s)
include h
theorem pattern_eq (d : Int) : schedule_pattern s d = some (patB s d) := by
  have h1 := h.hs; have h2 := h.he
  unfold schedule_pattern patB
  simp only [day_eq, Option.bind_some, val]
  by_cases h3 : 0 ≤ d ∧ d ≤ 36524
  · by_cases h4 : s.Start ≤ d
    · simp only [h3, h4, decide_true, and_self, cond_true, true_and, guardO_eq (show s.Every ≠ 0 by omega), Option.bind_some]
      rw [w64_eq (by omega) (by omega)]
    · simp [h3, h4]
  · simp [h3]
theorem Pattern_eq (d : Int) : recyclingref17_Pattern s d = some (patB s d) := by
  have h1 := h.hs; have h2 := h.he
  unfold recyclingref17_Pattern patB
  simp only [valid_eq, Option.bind_some, val]
  by_cases h3 : 0 ≤ d ∧ d ≤ 36524
  · by_cases h4 : s.Start ≤ d
    · simp only [h3, h4, decide_true, and_self, cond_true, true_and, guardO_eq (show s.Every ≠ 0 by omega), Option.bind_some]
      rw [w64_eq (by omega) (by omega)]
    · simp [h3, h4]
  · simp [h3]
end

/-- The error of a move by itself. -/
def mvErr (s : Sch) (m : Mv) : Option Int := if patB s m.From = false then some 7 else if val m.To = false then some 1 else if patB s m.To = true then some 12 else none
def clash (a b : Mv) : Bool := decide (a.From = b.From ∨ a.To = b.To)
/-- Two moves have the same day: x clashes with one before it. -/
def dupB : List Mv → List Mv → Bool
  | _, [] => false
  | seen, x :: r => seen.any (clash x) || dupB (seen ++ [x]) r
def chk (s : Sch) : Int :=
  if ¬ Head s then 1 else if 32 < s.Moves.length then 8 else match s.Moves.findSome? (mvErr s) with
    | some e => e
    | none => if dupB [] s.Moves then 6 else 0

theorem first_find {α ρ : Type} (f : α → Option ρ) (fin : ρ) : ∀ l, first f fin l = (l.findSome? f).getD fin
  | [] => rfl
  | x :: r => by
    simp only [first, List.findSome?_cons]
    cases f x with
    | none => exact first_find f fin r
    | some o => rfl

def seenOk (m1 m2 : List (Int × Bool)) (seen : List Mv) : Prop := (∀ k, (mget k m1).getD false = seen.any fun m => decide (m.From = k)) ∧ ∀ k, (mget k m2).getD false = seen.any fun m => decide (m.To = k)
theorem mget_mput {β : Type} (k n : Int) (v : β) : ∀ m : List (Int × β), mget n (mput k v m) = if k = n then some v else mget n m
  | [] => by simp [mput, mget]
  | p :: r => by
    simp only [mput]
    by_cases h : p.1 = k
    · simp only [h, if_true, mget]
      by_cases h2 : k = n <;> simp [h2]
    · simp only [h, if_false, mget, mget_mput k n v r]
      by_cases h2 : p.1 = n
      · have : ¬ k = n := fun e => h (by rw [h2, e])
        simp [h2, this]
      · simp [h2]
theorem seen_step {m1 m2 : List (Int × Bool)} {seen : List Mv} (h : seenOk m1 m2 seen) (x : Mv) : seenOk (mput x.From true m1) (mput x.To true m2) (seen ++ [x]) := by
  refine ⟨fun k => ?_, fun k => ?_⟩
  · rw [mget_mput, List.any_append]
    by_cases hk : x.From = k
    · simp [hk]
    · simp [hk, h.1 k]
  · rw [mget_mput, List.any_append]
    by_cases hk : x.To = k
    · simp [hk]
    · simp [hk, h.2 k]
theorem clash_any (seen : List Mv) (x : Mv) : seen.any (clash x) = ((seen.any fun m => decide (m.From = x.From)) || seen.any fun m => decide (m.To = x.To)) := by
  induction seen with
  | nil => rfl
  | cons a r ih =>
    simp only [List.any_cons, ih, clash]
    by_cases h1 : x.From = a.From <;> by_cases h2 : x.To = a.To <;> simp [h1, h2, eq_comm]

theorem check_head (s : Sch) : (bif (decide (s.Container < 0)) then some true else bif (decide (256 ≤ s.Container)) then some true else Option.bind (schedule_day s.Start) fun r1 => bif (!r1) then some true else bif (decide (s.Every < 1)) then some true else some (decide (365 < s.Every)))
    = some (decide (¬ Head s)) := by
  simp only [day_eq, Option.bind_some, val]
  have key : Head s ↔ (0 ≤ s.Container ∧ s.Container < 256) ∧ (0 ≤ s.Start ∧ s.Start ≤ 36524) ∧ (1 ≤ s.Every ∧ s.Every ≤ 365) := ⟨fun h => ⟨h.1, h.2, h.3⟩, fun h => ⟨h.1, h.2.1, h.2.2⟩⟩
  by_cases h1 : s.Container < 0
  · have : ¬ Head s := fun h => by have := h.hc; omega
    simp [h1, this]
  · by_cases h2 : 256 ≤ s.Container
    · have : ¬ Head s := fun h => by have := h.hc; omega
      simp [h1, h2, this]
    · by_cases h3 : 0 ≤ s.Start ∧ s.Start ≤ 36524
      · by_cases h4 : s.Every < 1
        · have : ¬ Head s := fun h => by have := h.he; omega
          simp [h1, h2, h3, h4, this]
        · have h5 : (365 < s.Every) ↔ ¬ Head s := by rw [key]; omega
          simp only [h1, h2, h3, h4, decide_false, decide_true, cond_false, Bool.not_true, and_self, Option.some.injEq, decide_eq_decide, h5]
      · have : ¬ Head s := fun h => h3 h.hs
        simp only [h1, h2, h3, this, decide_false, decide_true, cond_false, cond_true, Bool.not_false, not_false_eq_true]
theorem lt_of_get {α : Type} {l : List α} {k : Nat} {x : α} (h : l[k]? = some x) : k < l.length := by
  rcases Nat.lt_or_ge k l.length with h1 | h1
  · exact h1
  · rw [List.getElem?_eq_none h1] at h; cases h
theorem find_inr (s : Sch) (l : List Mv) : first (fun m => (mvErr s m).map (Sum.inr (α := Unit))) (.inl ()) l = match l.findSome? (mvErr s) with | some e => .inr e | none => .inl () := by
  induction l with
  | nil => rfl
  | cons a r ih =>
    simp only [first, List.findSome?_cons]
    cases mvErr s a with
    | none => simpa using ih
    | some _ => rfl
theorem check_l1 {s : Sch} (hh : Head s) (hl : s.Moves.length ≤ 200) : iter (schedule_Check_l1 s) (((s.Moves.length : Nat) : Int).toNat + 1) 0 = some (match s.Moves.findSome? (mvErr s) with | some e => .inr e | none => .inl ()) := by
  have hb : ∀ (k : Nat) (x : Mv), s.Moves[k]? = some x → schedule_Check_l1 s (k : Int) = some (pickO ((mvErr s x).map (Sum.inr (α := Unit))) (w64 ((k : Int) + 1))) := by
    intro k x hx
    have hk : ((k : Int) < (s.Moves.length : Nat)) := by have := lt_of_get hx; omega
    simp only [schedule_Check_l1, hk, decide_true, cond_true, getI_nat, hx, Option.bind_some, pattern_eq hh, day_eq, mvErr]
    cases patB s x.From <;> cases val x.To <;> cases patB s x.To <;> simp
  rw [iter_first s.Moves (fun x => (mvErr s x).map (Sum.inr (α := Unit))) (.inl ()) (by omega) hb (by simp [schedule_Check_l1]) _ (by simp), find_inr]
theorem dup_each : ∀ (l : List Mv) (p : List (Int × Bool) × List (Int × Bool)) (seen : List Mv), seenOk p.1 p.2 seen →
    each (fun (p : List (Int × Bool) × List (Int × Bool)) (x : Mv) => if ((mget x.From p.1).getD false || (mget x.To p.2).getD false) = true then (.inr (.inr 6) : _ ⊕ (Unit ⊕ Int)) else .inl (mput x.From true p.1, mput x.To true p.2)) (fun _ => .inl ()) l p = if dupB seen l = true then .inr 6 else .inl () := by
  intro l
  induction l with
  | nil => intro p seen _; rfl
  | cons x r ih =>
    intro p seen hs
    simp only [each, dupB, clash_any, hs.1 x.From, hs.2 x.To]
    by_cases hc : ((seen.any fun m => decide (m.From = x.From)) || seen.any fun m => decide (m.To = x.To)) = true
    · simp only [hc, if_true, Bool.true_or]
    · simp only [hc, if_false, Bool.false_or, Bool.false_eq_true]
      exact ih (_, _) _ (seen_step hs x)
theorem check_l2 {s : Sch} (hl : s.Moves.length ≤ 200) : iter (schedule_Check_l2 s) (((s.Moves.length : Nat) : Int).toNat + 1) ([], [], 0) = some (if dupB [] s.Moves = true then .inr 6 else .inl ()) := by
  have := iter_each s.Moves (fun (p : List (Int × Bool) × List (Int × Bool)) k => (p.1, p.2, k)) (body := schedule_Check_l2 s) (fun p x => if ((mget x.From p.1).getD false || (mget x.To p.2).getD false) = true then .inr (.inr 6) else .inl (mput x.From true p.1, mput x.To true p.2)) (fun _ => .inl ())
    (fun _ _ => True) (by omega) (fun k x p hx _ => ⟨?_, fun _ _ => trivial⟩) (fun p _ => by simp [schedule_Check_l2, oun]) (((s.Moves.length : Nat) : Int).toNat + 1) ([], []) trivial (by simp)
  · rw [this, dup_each _ _ [] ⟨fun k => rfl, fun k => rfl⟩]
  · have hk : ((k : Int) < (s.Moves.length : Nat)) := by have := lt_of_get hx; omega
    simp only [schedule_Check_l2, oun, hk, decide_true, cond_true, getI_nat, hx, Option.bind_some]
    cases h1 : (mget x.From p.1).getD false <;> cases h2 : (mget x.To p.2).getD false <;> simp
theorem Check_eq (s : Sch) (hl : s.Moves.length ≤ 200) : schedule_Check s = some (chk s) := by
  unfold schedule_Check chk
  rw [check_head]
  simp only [Option.bind_some]
  by_cases hh : Head s
  · simp only [hh, not_true_eq_false, decide_false, cond_false, if_false]
    by_cases h32 : 32 < s.Moves.length
    · have : (32 : Int) < (s.Moves.length : Nat) := by omega
      simp [h32, this]
    · have : ¬ (32 : Int) < (s.Moves.length : Nat) := by omega
      simp only [h32, this, decide_false, cond_false, if_false, check_l1 hh hl, check_l2 hl, Option.bind_some]
      cases s.Moves.findSome? (mvErr s) with
      | some e => rfl
      | none => cases dupB [] s.Moves <;> rfl
  · simp [hh]

/-! the reference -/
theorem rcheck_l1 {s : Sch} (hh : Head s) (hl : s.Moves.length ≤ 200) : iter (recyclingref17_Check_l1 s) (((s.Moves.length : Nat) : Int).toNat + 1) 0 = some (match s.Moves.findSome? (mvErr s) with | some e => .inr e | none => .inl ()) := by
  have hb : ∀ (k : Nat) (x : Mv), s.Moves[k]? = some x → recyclingref17_Check_l1 s (k : Int) = some (pickO ((mvErr s x).map (Sum.inr (α := Unit))) (w64 ((k : Int) + 1))) := by
    intro k x hx
    have hk : ((k : Int) < (s.Moves.length : Nat)) := by have := lt_of_get hx; omega
    simp only [recyclingref17_Check_l1, hk, decide_true, cond_true, getI_nat, hx, Option.bind_some, Pattern_eq hh, valid_eq, mvErr]
    cases patB s x.From <;> cases val x.To <;> cases patB s x.To <;> simp
  rw [iter_first s.Moves (fun x => (mvErr s x).map (Sum.inr (α := Unit))) (.inl ()) (by omega) hb (by simp [recyclingref17_Check_l1]) _ (by simp), find_inr]
theorem first_any {α : Type} (p : α → Bool) : ∀ l : List α, first (fun y => if p y = true then some (.inr 6 : Unit ⊕ Int) else none) (.inl ()) l = if l.any p = true then .inr 6 else .inl ()
  | [] => rfl
  | a :: r => by
    simp only [first, List.any_cons, first_any p r]
    by_cases h : p a = true <;> simp [h]
theorem rcheck_l2 {s : Sch} (hl : s.Moves.length ≤ 200) {i : Nat} {x : Mv} (hx : s.Moves[i]? = some x) : iter (recyclingref17_Check_l2 s (i : Int)) ((i : Int).toNat + 1) 0 = some (if (s.Moves.take i).any (clash x) = true then .inr 6 else .inl ()) := by
  have hi := lt_of_get hx
  have ht : (s.Moves.take i).length = i := by rw [List.length_take]; omega
  have hb : ∀ (k : Nat) (y : Mv), (s.Moves.take i)[k]? = some y → recyclingref17_Check_l2 s (i : Int) (k : Int) = some (pickO (if clash x y = true then some (.inr 6 : Unit ⊕ Int) else none) (w64 ((k : Int) + 1))) := by
    intro k y hy
    have hk := lt_of_get hy
    rw [ht] at hk
    rw [List.getElem?_take_of_lt hk] at hy
    have hk' : ((k : Int) < (i : Nat)) := by omega
    simp only [recyclingref17_Check_l2, hk', decide_true, cond_true, getI_nat, hx, hy, Option.bind_some, clash]
    by_cases h1 : x.From = y.From <;> by_cases h2 : x.To = y.To <;> simp [h1, h2]
  have := iter_first (s.Moves.take i) (body := recyclingref17_Check_l2 s (i : Int)) (fun y => if clash x y = true then some (.inr 6 : Unit ⊕ Int) else none) (.inl ()) (by omega) hb (by rw [ht]; simp [recyclingref17_Check_l2]) ((i : Int).toNat + 1) (by rw [ht]; simp)
  rw [this, first_any]
theorem dup_any : ∀ (l seen : List Mv), dupB seen l = (List.range l.length).any fun i => match l[i]? with | some x => (seen ++ l.take i).any (clash x) | none => false
  | [], seen => rfl
  | x :: r, seen => by
    rw [dupB, dup_any r (seen ++ [x]), List.length_cons, List.range_succ_eq_map, List.any_cons, List.any_map]
    congr 1
    · simp
    · congr 1
      funext i
      simp only [Function.comp, List.getElem?_cons_succ, List.take_succ_cons, List.append_assoc, List.singleton_append]
theorem rcheck_l3 {s : Sch} (hl : s.Moves.length ≤ 200) : iter (recyclingref17_Check_l3 s) (((s.Moves.length : Nat) : Int).toNat + 1) 0 = some (if dupB [] s.Moves = true then .inr 6 else .inl ()) := by
  have hb : ∀ (k : Nat) (y : Nat), (List.range s.Moves.length)[k]? = some y → recyclingref17_Check_l3 s (k : Int) = some (pickO (if (match s.Moves[y]? with | some x => (s.Moves.take y).any (clash x) | none => false) = true then some (.inr 6 : Unit ⊕ Int) else none) (w64 ((k : Int) + 1))) := by
    intro k y hy
    have hk := lt_of_get hy
    rw [List.length_range] at hk
    rw [List.getElem?_range hk] at hy
    injection hy with hy
    subst hy
    have hk' : ((k : Int) < (s.Moves.length : Nat)) := by omega
    have hx : s.Moves[k]? = some s.Moves[k] := by simp [hk]
    simp only [recyclingref17_Check_l3, hk', decide_true, cond_true, rcheck_l2 hl hx, hx, Option.bind_some]
    cases (s.Moves.take k).any (clash s.Moves[k]) <;> simp [osum]
  have := iter_first (List.range s.Moves.length) (body := recyclingref17_Check_l3 s) (fun y => if (match s.Moves[y]? with | some x => (s.Moves.take y).any (clash x) | none => false) = true then some (.inr 6 : Unit ⊕ Int) else none) (.inl ()) (by rw [List.length_range]; omega) hb (by rw [List.length_range]; simp [recyclingref17_Check_l3]) (((s.Moves.length : Nat) : Int).toNat + 1) (by rw [List.length_range]; simp)
  rw [this, first_any, dup_any]
  rfl
theorem rcheck_head (s : Sch) : (bif (decide (s.Container < 0)) then some true else bif (decide (256 ≤ s.Container)) then some true else Option.bind (recyclingref17_valid s.Start) fun r1 => bif (!r1) then some true else bif (decide (s.Every < 1)) then some true else some (decide (365 < s.Every)))
    = some (decide (¬ Head s)) := by
  rw [← check_head, valid_eq, day_eq]
theorem RCheck_eq (s : Sch) (hl : s.Moves.length ≤ 200) : recyclingref17_Check s = some (chk s) := by
  unfold recyclingref17_Check chk
  rw [rcheck_head]
  simp only [Option.bind_some]
  by_cases hh : Head s
  · simp only [hh, not_true_eq_false, decide_false, cond_false, if_false]
    by_cases h32 : 32 < s.Moves.length
    · have : (32 : Int) < (s.Moves.length : Nat) := by omega
      simp [h32, this]
    · have : ¬ (32 : Int) < (s.Moves.length : Nat) := by omega
      simp only [h32, this, decide_false, cond_false, if_false, rcheck_l1 hh hl, rcheck_l3 hl, Option.bind_some]
      cases s.Moves.findSome? (mvErr s) with
      | some e => rfl
      | none => cases dupB [] s.Moves <;> rfl
  · simp [hh]

end Go.Proofs.Ytpcajjnanljajaa
