/- The plain laws of the tours: vehicles, demands, problems. -/
import Derived.Test.YthpgjbbjpfiniaaGreatUa
namespace Go.Proofs.YthpgjbbjpfiniaaGreat
open Go.RowKit
set_option linter.unusedSimpArgs false
set_option linter.unusedVariables false
theorem letter_eq (c : Int) : ident_letter c = recyclingref04_letter c := by
  unfold ident_letter recyclingref04_letter
  generalize decide (97 ≤ c) = a
  generalize decide (c ≤ 122) = b
  generalize decide (65 ≤ c) = d
  generalize decide (c ≤ 90) = e
  cases a <;> cases b <;> cases d <;> cases e <;> rfl
theorem letter_some (c : Int) : ∃ b, recyclingref04_letter c = some b := by
  unfold recyclingref04_letter
  generalize decide (97 ≤ c) = a
  generalize decide (c ≤ 122) = b
  generalize decide (65 ≤ c) = d
  generalize decide (c ≤ 90) = e
  cases a <;> cases b <;> cases d <;> cases e <;> exact ⟨_, rfl⟩
theorem Valid_l1_eq (s : ByteArray) : ident_Valid_l1 s = recyclingref04_Valid_l1 s := by
  funext i
  simp only [ident_Valid_l1, recyclingref04_Valid_l1, letter_eq]
theorem getB_in {s : ByteArray} {k : Nat} (h : k < s.size) : ∃ b, getB s (k : Int) = some b := by
  unfold getB
  rw [if_pos (by omega)]
  simp [h]
theorem V_some (s : ByteArray) (hs : s.size ≤ 32) : ∀ (m k : Nat), k + m = s.size → ∃ o, iter (recyclingref04_Valid_l1 s) (m + 1) (k : Int) = some o
  | 0, k, h => by
    refine ⟨.inl (), ?_⟩
    simp only [iter, recyclingref04_Valid_l1]
    rw [show decide ((k : Int) < ((s.size : Nat) : Int)) = false by simp; omega]
    rfl
  | m + 1, k, h => by
    obtain ⟨b, hb⟩ := getB_in (s := s) (k := k) (by omega)
    obtain ⟨q, hq⟩ := letter_some b
    obtain ⟨o, ho⟩ := V_some s hs m (k + 1) (by omega)
    have hbody : (∃ z, recyclingref04_Valid_l1 s (k : Int) = some (.inr z)) ∨ recyclingref04_Valid_l1 s (k : Int) = some (.inl ((k + 1 : Nat) : Int)) := by
      simp only [recyclingref04_Valid_l1]
      rw [show decide ((k : Int) < ((s.size : Nat) : Int)) = true by simp; omega]
      simp only [cond_true, hb, Option.bind_some, hq, w64_nat (show k < 9223372036854775807 by omega)]
      generalize decide (b < 48) = c1
      generalize decide (b = 45) = c2
      generalize decide (b = 95) = c3
      generalize decide (b = 46) = c4
      generalize decide (57 < b) = c5
      cases q <;> cases c1 <;> cases c2 <;> cases c3 <;> cases c4 <;> cases c5 <;> first | exact .inr rfl | exact .inl ⟨_, rfl⟩
    rcases hbody with ⟨z, hz⟩ | hz
    · exact ⟨z, by rw [iter, hz]; rfl⟩
    · exact ⟨o, by rw [iter, hz]; exact ho⟩
theorem Valid_eq {F : Nat} (hF : 33 ≤ F) (s : ByteArray) : ident_Valid F s = recyclingref04_Valid s := by
  unfold ident_Valid recyclingref04_Valid
  simp only [letter_eq, Valid_l1_eq]
  by_cases h1 : ((s.size : Nat) : Int) < 1
  · simp only [h1, decide_true, cond_true, Option.bind_some]
  · by_cases h2 : (32 : Int) < ((s.size : Nat) : Int)
    · simp only [h1, h2, decide_true, decide_false, cond_true, cond_false, Option.bind_some]
    · obtain ⟨b, hb⟩ := getB_in (s := s) (k := 0) (by omega)
      obtain ⟨q, hq⟩ := letter_some b
      have hb' : getB s 0 = some b := hb
      simp only [h1, h2, decide_false, cond_false, hb', Option.bind_some, hq]
      cases q with
      | false => rfl
      | true =>
        simp only [Bool.not_true, cond_false]
        obtain ⟨o, ho⟩ := V_some s (by omega) (s.size - 1) 1 (by omega)
        rw [show ((1 : Nat) : Int) = 1 from rfl] at ho
        rw [iter_more ho (by omega)]
        have e2 : iter (recyclingref04_Valid_l1 s) (((s.size : Nat) : Int).toNat + 1) 0 = some o := by
          rw [iter]
          have : recyclingref04_Valid_l1 s 0 = some (.inl 1) := by
            simp only [recyclingref04_Valid_l1]
            rw [show decide ((0 : Int) < ((s.size : Nat) : Int)) = true by simp; omega]
            simp only [cond_true, hb', Option.bind_some, hq, Bool.not_true, cond_false]
            rfl
          rw [this]
          exact iter_more ho (by simp; omega)
        rw [e2]
theorem fault_eq {F : Nat} (hF : 33 ≤ F) (v : T_api_Vehicle) (n m : Int) : vehicle_fault F v n m = recyclingref20_one v n m := by
  unfold vehicle_fault recyclingref20_one
  rw [Valid_eq hF]
theorem anyF {α ρ : Type} (p : α → Bool) (o fin : ρ) : ∀ (l : List α) (k : Nat), firstI (fun _ y => bif p y then some o else none) fin k l = bif l.any p then o else fin
  | [], _ => rfl
  | x :: l, k => by
    simp only [firstI, List.any_cons]
    cases p x
    · simpa using anyF p o fin l (k + 1)
    · rfl
theorem anyIx {α : Type} (p : α → Bool) : ∀ (l : List α) (k : Nat), (firstI (fun (k : Nat) y => bif p y then some (.inr (k : Int)) else none) (.inl () : Unit ⊕ Int) k l = .inl () ∧ l.any p = false) ∨
    ∃ j : Nat, firstI (fun (k : Nat) y => bif p y then some (.inr (k : Int)) else none) (.inl () : Unit ⊕ Int) k l = .inr (j : Int) ∧ l.any p = true
  | [], _ => .inl ⟨rfl, rfl⟩
  | x :: l, k => by
    simp only [firstI, List.any_cons]
    cases p x
    · simpa using anyIx p l (k + 1)
    · exact .inr ⟨k, rfl, rfl⟩
def stepD {α β : Type} [DecidableEq β] (f : α → β) (l : List α) (k : Nat) (x : α) : Option (Unit ⊕ Int) := bif (l.take k).any (fun y => decide (f x = f y)) then some (.inr 6) else none
theorem nest {α β : Type} [DecidableEq β] (f : α → β) (l : List α) (hn : l.length < 1000000) {b2 : Int → Int → Option (Int ⊕ (Unit ⊕ Int))} {b3 : Int → Option (Int ⊕ (Unit ⊕ Int))}
    (h2 : ∀ (i k : Nat) (x y : α), l[i]? = some x → l[k]? = some y → k < i → b2 i k = some (bif decide (f x = f y) then .inr (.inr 6) else .inl (w64 ((k : Int) + 1))))
    (h2f : ∀ i : Nat, b2 i i = some (.inr (.inl ())))
    (h3 : ∀ i : Nat, i < l.length → b3 i = Option.bind (Option.bind (iter (b2 i) ((i : Int).toNat + 1) 0) (fun o_ => osum o_ (fun _ => some (.inl ())) (fun rv => some (.inr rv)))) (fun o_ => osum o_ (fun _ : Unit => some (.inl (w64 ((i : Int) + 1)))) (fun rv => some (.inr (.inr rv)))))
    (h3f : b3 (l.length : Nat) = some (.inr (.inl ()))) : iter b3 (((l.length : Nat) : Int).toNat + 1) 0 = some (firstI (stepD f l) (.inl ()) 0 l) := by
  refine iter_firstI l (stepD f l) (.inl ()) (by omega) (fun i x hx => ?_) h3f _ (by simp)
  have hi := lt_of_get hx
  rw [h3 i hi]
  have := iter_firstI (body := b2 i) (l.take i) (fun _ y => bif decide (f x = f y) then some (.inr 6) else none) (.inl () : Unit ⊕ Int) (by simp; omega) (fun k y hy => ?_) (by rw [length_take' (Nat.le_of_lt hi)]; exact h2f i) ((i : Int).toNat + 1) (by rw [length_take' (Nat.le_of_lt hi)]; omega)
  · rw [this, anyF]
    unfold stepD
    generalize (l.take i).any _ = b
    cases b <;> rfl
  · have hk := lt_of_get hy
    rw [length_take' (Nat.le_of_lt hi)] at hk
    rw [List.getElem?_take, if_pos hk] at hy
    rw [h2 i k x y hx hy hk]
    cases decide (f x = f y) <;> rfl
def seenV (l : List T_api_Vehicle) : List (ByteArray × Bool) := l.foldl (fun m x => sput x.ID true m) []
theorem sget_sput {β : Type} (k j : ByteArray) (v : β) : ∀ (m : List (ByteArray × β)), sget j (sput k v m) = if k = j then some v else sget j m
  | [] => by simp [sput, sget]
  | p :: m => by
    simp only [sput]
    by_cases h : p.1 = k
    · subst h
      by_cases h2 : p.1 = j <;> simp [sget, h2]
    · by_cases h2 : p.1 = j
      · have : ¬ k = j := fun e => h (by rw [h2, e])
        rw [if_neg h, if_neg this]
        simp [sget, h2]
      · simp [sget, h, h2, sget_sput k j v m]
theorem seenV_get (l : List T_api_Vehicle) (id : ByteArray) : ∀ (m : List (ByteArray × Bool)), (sget id (l.foldl (fun m x => sput x.ID true m) m)).getD false = (l.any (fun y => decide (id = y.ID)) || (sget id m).getD false) := by
  induction l with
  | nil => intro m; simp
  | cons x l ih =>
    intro m
    rw [List.foldl_cons, ih, List.any_cons, sget_sput]
    by_cases h : x.ID = id
    · simp [h]
    · have : ¬ id = x.ID := fun e => h e.symm
      simp [h, this]
theorem vehicle_l2 (l : List T_api_Vehicle) (hn : l.length ≤ 16) : iter (vehicle_Check_l2 l) (((l.length : Nat) : Int).toNat + 1) ([], 0) = some (firstI (stepD (·.ID) l) (.inl ()) 0 l) := by
  refine iter_stI (body := vehicle_Check_l2 l) l (fun k => seenV (l.take k)) (fun m k => (m, k)) (stepD (·.ID) l) (.inl ()) (by omega) (fun k x hx _ => ?_) (fun _ => by simp [vehicle_Check_l2, oun]) _ (by simp)
  have hk := lt_of_get hx
  have hk2 : ((k : Int) < (l.length : Nat)) := by omega
  simp only [vehicle_Check_l2, oun, hk2, decide_true, cond_true, getI_nat, hx, Option.bind_some]
  rw [seenV, seenV_get, take_succ' hx]
  simp only [sget, Option.getD_none, Bool.or_false, stepD, seenV, List.foldl_append, List.foldl_cons, List.foldl_nil]
  generalize (l.take k).any _ = b
  cases b <;> rfl
theorem vehicle_Check_eq {F : Nat} (hF : 33 ≤ F) (l : List T_api_Vehicle) (n m : Int) : vehicle_Check F l n m = recyclingref20_Check l n m := by
  unfold vehicle_Check recyclingref20_Check
  have e1 : vehicle_Check_l1 F l n m = recyclingref20_Check_l1 l n m := by
    funext i
    simp only [vehicle_Check_l1, recyclingref20_Check_l1, fault_eq hF]
  rw [e1]
  by_cases h : (16 : Int) < ((l.length : Nat) : Int)
  · simp only [h, decide_true, cond_true]
  · have e3 := nest (·.ID) l (by omega) (b2 := recyclingref20_Check_l2 l) (b3 := recyclingref20_Check_l3 l) (fun i k x y hx hy hk => by
        have : ((k : Int) < (i : Int)) := by omega
        simp only [recyclingref20_Check_l2, this, decide_true, cond_true, getI_nat, hx, hy, Option.bind_some]
        cases decide (x.ID = y.ID) <;> rfl) (fun i => by simp [recyclingref20_Check_l2]) (fun i hi => by
        have : ((i : Int) < ((l.length : Nat) : Int)) := by omega
        simp only [recyclingref20_Check_l3, this, decide_true, cond_true]) (by simp [recyclingref20_Check_l3])
    rw [e3, vehicle_l2 l (by omega)]
theorem within_eq (n a b : Int) : demand_within n a b = some (decide (a ≤ n) && decide (n ≤ b)) := by
  unfold demand_within
  rw [and_some]
  rfl
theorem demand_l1_eq (l : List T_api_Demand) (n m : Int) : demand_Check_l1 l n m = recyclingref21_Check_l1 l n m := by
  funext i
  simp only [demand_Check_l1, recyclingref21_Check_l1]
  cases decide (i < ((l.length : Nat) : Int)) with
  | false => rfl
  | true =>
    simp only [cond_true]
    cases getI l i with
    | none => rfl
    | some x =>
      simp only [Option.bind_some, demand_one, within_eq, or_some, Bool.not_and]
      have e1 : (!decide (0 ≤ x.Container) || !decide (x.Container ≤ 255)) = (decide (x.Container < 0) || decide (256 ≤ x.Container)) := by
        rw [Bool.eq_iff_iff]; simp; omega
      have e2 : (!decide (0 ≤ x.Grams) || !decide (x.Grams ≤ 1073741824)) = (decide (x.Grams < 0) || decide (1073741824 < x.Grams)) := by
        rw [Bool.eq_iff_iff]; simp
      have e3 : (!decide (0 ≤ x.Service) || !decide (x.Service ≤ 3600)) = (decide (x.Service < 0) || decide (3600 < x.Service)) := by
        rw [Bool.eq_iff_iff]; simp
      rw [e1, e2, e3]
      have key : ∀ (a b c d : Bool), (bif a || b then some true else some (c || d)) = some (a || (b || (c || d))) := by intro a b c d; cases a <;> cases b <;> rfl
      simp only [or_some, Bool.or_assoc]
      generalize (decide (x.Container < 0) || _) = a
      generalize (decide (x.Grams < 0) || _) = b
      cases a <;> cases b <;> rfl
theorem demand_contains (L : List T_api_Demand) (hn : L.length ≤ 32) (x : T_api_Demand) : slices_ContainsFunc_Demand_c77 L x = some (L.any fun y => decide (x.Container = y.Container)) := by
  unfold slices_ContainsFunc_Demand_c77 slices_IndexFunc_Demand_c77
  have := iter_firstI (body := slices_IndexFunc_Demand_c77_l1 L x) L (fun k y => bif decide (x.Container = y.Container) then some (.inr (k : Int)) else none) (.inl () : Unit ⊕ Int) (by omega) (fun k y hy => ?_) (by simp [slices_IndexFunc_Demand_c77_l1]) (((L.length : Nat) : Int).toNat + 1) (by simp)
  · rw [this]
    rcases anyIx (fun y : T_api_Demand => decide (x.Container = y.Container)) L 0 with ⟨h1, h2⟩ | ⟨j, h1, h2⟩
    · rw [h1, h2]; rfl
    · rw [h1, h2]
      simp only [Option.bind_some, osum]
      simp
  · have hk := lt_of_get hy
    have hk2 : ((k : Int) < (L.length : Nat)) := by omega
    simp only [slices_IndexFunc_Demand_c77_l1, hk2, decide_true, cond_true, getI_nat, hy, Option.bind_some, demand_Check_1]
    rw [show decide (y.Container = x.Container) = decide (x.Container = y.Container) by rw [Bool.eq_iff_iff]; simp [eq_comm]]
    cases decide (x.Container = y.Container) <;> rfl
theorem subO_take {α : Type} {l : List α} {k : Nat} (h : k ≤ l.length) : subO l 0 (k : Int) = some (l.take k) := by
  unfold subO
  rw [if_pos ⟨by omega, by omega, by omega⟩]
  simp
theorem demand_Check_eq (l : List T_api_Demand) (n m : Int) : demand_Check l n m = recyclingref21_Check l n m := by
  unfold demand_Check recyclingref21_Check
  rw [demand_l1_eq]
  by_cases h : (32 : Int) < ((l.length : Nat) : Int)
  · simp only [h, decide_true, cond_true]
  · have e3 := nest (·.Container) l (by omega) (b2 := recyclingref21_Check_l2 l) (b3 := recyclingref21_Check_l3 l) (fun i k x y hx hy hk => by
        have : ((k : Int) < (i : Int)) := by omega
        simp only [recyclingref21_Check_l2, this, decide_true, cond_true, getI_nat, hx, hy, Option.bind_some]
        cases decide (x.Container = y.Container) <;> rfl) (fun i => by simp [recyclingref21_Check_l2]) (fun i hi => by
        have : ((i : Int) < ((l.length : Nat) : Int)) := by omega
        simp only [recyclingref21_Check_l3, this, decide_true, cond_true]) (by simp [recyclingref21_Check_l3])
    have e4 : iter (demand_Check_l2 l) (((l.length : Nat) : Int).toNat + 1) 0 = some (firstI (stepD (·.Container) l) (.inl ()) 0 l) := by
      refine iter_firstI l (stepD (·.Container) l) (.inl ()) (by omega) (fun k x hx => ?_) (by simp [demand_Check_l2]) _ (by simp)
      have hk := lt_of_get hx
      have hk2 : ((k : Int) < (l.length : Nat)) := by omega
      simp only [demand_Check_l2, hk2, decide_true, cond_true, getI_nat, hx, Option.bind_some, subO_take (Nat.le_of_lt hk), stepD]
      rw [demand_contains _ (by simp; omega)]
      simp only [Option.bind_some]
      generalize (l.take k).any _ = b
      cases b <;> rfl
    rw [e3, e4]
theorem tour_Check_eq {F : Nat} (hF : 33 ≤ F) (p : T_api_Problem) (hn : p.Road.Edges.length ≤ 600) : tour_Check F p = recyclingref22_Check p := by
  unfold tour_Check recyclingref22_Check
  rw [road_Check_eq _ hn, ref19_Check_eq _ hn]
  simp only [vehicle_Check_eq hF, demand_Check_eq]
theorem iter_total {ρ : Type} {body : Int → Option (Int ⊕ ρ)} {N : Nat} (hN : N < 1000000) (hb : ∀ k : Nat, k < N → (∃ r, body k = some (.inr r)) ∨ body k = some (.inl ((k + 1 : Nat) : Int))) (hf : ∃ r, body (N : Nat) = some (.inr r)) :
    ∀ (m k : Nat), k + m = N → ∃ o, iter body (m + 1) (k : Int) = some o
  | 0, k, h => by
    obtain ⟨r, hr⟩ := hf
    obtain rfl : k = N := by omega
    exact ⟨r, by rw [iter, hr]; rfl⟩
  | m + 1, k, h => by
    rcases hb k (by omega) with ⟨r, hr⟩ | hr
    · exact ⟨r, by rw [iter, hr]; rfl⟩
    · obtain ⟨o, ho⟩ := iter_total hN hb hf m (k + 1) (by omega)
      exact ⟨o, by rw [iter, hr]; exact ho⟩
theorem Large_some (p : T_api_Problem) : (∃ b, recyclingref22_Large p = some b) ∧ (recyclingref22_Large p = some false → p.Road.Edges.length ≤ 600 ∧ p.Vehicles.length ≤ 30 ∧ p.Demands.length ≤ 60) := by
  unfold recyclingref22_Large
  simp only [or_some, Option.bind_some]
  by_cases h : (decide ((600 : Int) < ((p.Road.Edges.length : Nat) : Int)) || (decide ((30 : Int) < ((p.Vehicles.length : Nat) : Int)) || decide ((60 : Int) < ((p.Demands.length : Nat) : Int)))) = true
  · rw [h]
    exact ⟨⟨true, rfl⟩, fun e => by cases e⟩
  · rw [Bool.not_eq_true] at h
    rw [h]
    simp only [Bool.or_eq_false_iff, decide_eq_false_iff_not] at h
    obtain ⟨o, ho⟩ := iter_total (body := recyclingref22_Large_l1 p) (N := p.Vehicles.length) (by omega) (fun k hk => by
      obtain ⟨x, hx⟩ : ∃ x, p.Vehicles[k]? = some x := ⟨_, List.getElem?_eq_getElem hk⟩
      have hk2 : ((k : Int) < ((p.Vehicles.length : Nat) : Int)) := by omega
      simp only [recyclingref22_Large_l1, hk2, decide_true, cond_true, getI_nat, hx, Option.bind_some, w64_nat (show k < 9223372036854775807 by omega)]
      cases decide ((200 : Int) < ((x.ID.size : Nat) : Int)) with
      | true => exact .inl ⟨_, rfl⟩
      | false => exact .inr rfl) ⟨_, by simp [recyclingref22_Large_l1]; rfl⟩ p.Vehicles.length 0 (by omega)
    refine ⟨?_, fun _ => by omega⟩
    simp only [cond_false]
    rw [show (((p.Vehicles.length : Nat) : Int).toNat + 1) = p.Vehicles.length + 1 by simp, show (0 : Int) = ((0 : Nat) : Int) from rfl, ho]
    cases o with
    | inl u => exact ⟨false, rfl⟩
    | inr b => exact ⟨b, rfl⟩
theorem demand_l1_some (l : List T_api_Demand) (n m : Int) (hn : l.length ≤ 32) : ∃ o, iter (recyclingref21_Check_l1 l n m) (((l.length : Nat) : Int).toNat + 1) 0 = some o := by
  obtain ⟨o, ho⟩ := iter_total (body := recyclingref21_Check_l1 l n m) (N := l.length) (by omega) (fun k hk => by
      obtain ⟨x, hx⟩ : ∃ x, l[k]? = some x := ⟨_, List.getElem?_eq_getElem hk⟩
      have hk2 : ((k : Int) < ((l.length : Nat) : Int)) := by omega
      simp only [recyclingref21_Check_l1, hk2, decide_true, cond_true, getI_nat, hx, Option.bind_some, or_some, w64_nat (show k < 9223372036854775807 by omega)]
      generalize (decide (x.Container < 0) || _) = a
      generalize (decide (x.Grams < 0) || _) = b
      cases a <;> cases b <;> first | exact .inr rfl | exact .inl ⟨_, rfl⟩) ⟨_, by simp [recyclingref21_Check_l1]; rfl⟩ l.length 0 (by omega)
  exact ⟨o, by simpa using ho⟩
theorem one_some (v : T_api_Vehicle) (n : Int) : ∃ e, recyclingref20_one v n 16 = some e := by
  unfold recyclingref20_one
  have hv : ∃ b, recyclingref04_Valid v.ID = some b := by
    unfold recyclingref04_Valid
    by_cases h1 : ((v.ID.size : Nat) : Int) < 1
    · exact ⟨false, by simp only [h1, decide_true, cond_true, Option.bind_some]⟩
    · by_cases h2 : (32 : Int) < ((v.ID.size : Nat) : Int)
      · exact ⟨false, by simp only [h1, h2, decide_true, decide_false, cond_true, cond_false, Option.bind_some]⟩
      · obtain ⟨b, hb⟩ := getB_in (s := v.ID) (k := 0) (by omega)
        obtain ⟨q, hq⟩ := letter_some b
        have hb' : getB v.ID 0 = some b := hb
        obtain ⟨o, ho⟩ := V_some v.ID (by omega) v.ID.size 0 (by omega)
        simp only [h1, h2, decide_false, cond_false, hb', Option.bind_some, hq]
        rw [show (((v.ID.size : Nat) : Int).toNat + 1) = v.ID.size + 1 by simp, show (0 : Int) = ((0 : Nat) : Int) from rfl, ho]
        cases q <;> cases o <;> exact ⟨_, rfl⟩
  obtain ⟨b, hb⟩ := hv
  rw [hb]
  simp only [Option.bind_some, or_some, guardO_eq (show (0 : Int) ≤ 16 ∧ (16 : Int) ≤ 64 by decide)]
  generalize (decide (v.Depot < 0) || _) = c1
  generalize (decide (v.Shift.From < 0) || _) = c2
  generalize (decide (v.Grams < 1) || _) = c3
  generalize (decide (v.Kinds < 1) || _) = c4
  cases b <;> cases c1 <;> cases c2 <;> cases c3 <;> cases c4 <;> exact ⟨_, rfl⟩
theorem ref20_some (l : List T_api_Vehicle) (n : Int) : ∃ e, recyclingref20_Check l n 16 = some e := by
  by_cases h : (16 : Int) < ((l.length : Nat) : Int)
  · unfold recyclingref20_Check
    simp only [or_some, Option.bind_some, h, decide_true, cond_true]
    generalize (decide (n < 1) || _) = a
    generalize decide (((l.length : Nat) : Int) = 0) = b
    cases a <;> cases b <;> exact ⟨_, rfl⟩
  · obtain ⟨o, ho⟩ := iter_total (body := recyclingref20_Check_l1 l n 16) (N := l.length) (by omega) (fun k hk => by
      obtain ⟨x, hx⟩ : ∃ x, l[k]? = some x := ⟨_, List.getElem?_eq_getElem hk⟩
      obtain ⟨e, he⟩ := one_some x n
      have hk2 : ((k : Int) < ((l.length : Nat) : Int)) := by omega
      simp only [recyclingref20_Check_l1, hk2, decide_true, cond_true, getI_nat, hx, Option.bind_some, he, w64_nat (show k < 9223372036854775807 by omega)]
      cases decide (e = 0) <;> first | exact .inr rfl | exact .inl ⟨_, rfl⟩) ⟨_, by simp [recyclingref20_Check_l1]; rfl⟩ l.length 0 (by omega)
    have h2 := vehicle_Check_eq (F := 33) (Nat.le_refl _) l n 16
    rw [← h2]
    unfold vehicle_Check
    have e1 : vehicle_Check_l1 33 l n 16 = recyclingref20_Check_l1 l n 16 := by
      funext i
      simp only [vehicle_Check_l1, recyclingref20_Check_l1, fault_eq (F := 33) (Nat.le_refl _)]
    rw [e1, vehicle_l2 l (by omega), show (((l.length : Nat) : Int).toNat + 1) = l.length + 1 by simp, show (0 : Int) = ((0 : Nat) : Int) from rfl, ho]
    simp only [or_some, Option.bind_some, h, decide_false, cond_false]
    generalize (decide (n < 1) || _) = a
    generalize decide (((l.length : Nat) : Int) = ((0 : Nat) : Int)) = b
    generalize firstI (stepD (·.ID) l) (.inl ()) 0 l = q
    cases a <;> cases b <;> cases o <;> cases q <;> exact ⟨_, rfl⟩
theorem ref22_some (p : T_api_Problem) (hn : p.Road.Edges.length ≤ 600) : ∃ e, recyclingref22_Check p = some e := by
  unfold recyclingref22_Check
  rw [ref19_Check_eq _ hn]
  obtain ⟨e2, he2⟩ := ref20_some p.Vehicles p.Road.Nodes
  have he3 : ∃ e, recyclingref21_Check p.Demands p.Road.Nodes 16 = some e := by
    by_cases h : (32 : Int) < ((p.Demands.length : Nat) : Int)
    · exact ⟨8, by unfold recyclingref21_Check; simp only [h, decide_true, cond_true]⟩
    · obtain ⟨o, ho⟩ := demand_l1_some p.Demands p.Road.Nodes 16 (by omega)
      unfold recyclingref21_Check
      have e3 := nest (·.Container) p.Demands (by omega) (b2 := recyclingref21_Check_l2 p.Demands) (b3 := recyclingref21_Check_l3 p.Demands) (fun i k x y hx hy hk => by
        have : ((k : Int) < (i : Int)) := by omega
        simp only [recyclingref21_Check_l2, this, decide_true, cond_true, getI_nat, hx, hy, Option.bind_some]
        cases decide (x.Container = y.Container) <;> rfl) (fun i => by simp [recyclingref21_Check_l2]) (fun i hi => by
        have : ((i : Int) < ((p.Demands.length : Nat) : Int)) := by omega
        simp only [recyclingref21_Check_l3, this, decide_true, cond_true]) (by simp [recyclingref21_Check_l3])
      rw [ho, e3]
      simp only [h, decide_false, cond_false, Option.bind_some]
      generalize firstI (stepD (·.Container) p.Demands) (.inl ()) 0 p.Demands = q
      cases o <;> cases q <;> exact ⟨_, rfl⟩
  obtain ⟨e3, he3⟩ := he3
  simp only [he2, he3, Option.bind_some, or_some]
  generalize decide (roadE p.Road = 0) = a
  generalize decide (e2 = 0) = b
  generalize decide (e3 = 0) = c
  generalize (decide (p.Unload < 0) || _) = d
  generalize (decide (p.UnloadSecs < 0) || _) = f
  cases a <;> cases b <;> cases c <;> cases d <;> cases f <;> exact ⟨_, rfl⟩
end Go.Proofs.YthpgjbbjpfiniaaGreat
