/- Tickets: valid lists, active tickets, the check. -/
import Derived.Test.YtchakbpjokemnaaTh
namespace Go.Proofs.Ytchakbpjokemnaa
set_option linter.unusedSimpArgs false
set_option linter.unusedVariables false

structure Vl (l : List Tk) : Prop where
  ids : ∀ (i : Nat) (x : Tk), l[i]? = some x → 1 ≤ x.ID ∧ x.ID ≤ 1000000
  uniq : ∀ (i j : Nat) (x y : Tk), l[i]? = some x → l[j]? = some y → x.ID = y.ID → i = j
  par : ∀ (i : Nat) (x : Tk), l[i]? = some x → x.Replaces ≠ 0 → ∃ (j : Nat) (y : Tk), j < i ∧ l[j]? = some y ∧ y.ID = x.Replaces
  once : ∀ (i j : Nat) (x y : Tk), l[i]? = some x → l[j]? = some y → x.Replaces ≠ 0 → x.Replaces = y.Replaces → i = j
theorem plc_neg {l : List Tk} {k : Nat} {id : Int} : plc l k id < 0 ↔ ∀ (j : Nat) (y : Tk), j < k → l[j]? = some y → y.ID ≠ id := by
  unfold plc
  cases hf : (l.take k).findIdx? (fun x => decide (x.ID = id)) with
  | none =>
    rw [List.findIdx?_eq_none_iff] at hf
    refine ⟨fun _ j y hj hy he => ?_, fun _ => by simp⟩
    have := hf y (List.mem_of_getElem? (i := j) (by rw [List.getElem?_take, if_pos hj]; exact hy))
    simp [he] at this
  | some j =>
    obtain ⟨h1, h2, h3⟩ := List.findIdx?_eq_some_iff_getElem.1 hf
    refine ⟨fun h => by simp only at h; omega, fun h => ?_⟩
    simp only [List.length_take] at h1
    simp only [List.getElem_take, decide_eq_true_eq] at h2
    exact absurd h2 (h j _ (by omega) (List.getElem?_eq_getElem (by omega)))
theorem plc_some {l : List Tk} {k : Nat} {id : Int} (h : ¬ plc l k id < 0) : ∃ (j : Nat) (y : Tk), plc l k id = (j : Int) ∧ j < k ∧ l[j]? = some y ∧ y.ID = id := by
  unfold plc at h ⊢
  cases hf : (l.take k).findIdx? (fun x => decide (x.ID = id)) with
  | none => rw [hf] at h; simp at h
  | some j =>
    obtain ⟨h1, h2, h3⟩ := List.findIdx?_eq_some_iff_getElem.1 hf
    simp only [List.length_take] at h1
    simp only [List.getElem_take, decide_eq_true_eq] at h2
    exact ⟨j, _, rfl, by omega, List.getElem?_eq_getElem (by omega), h2⟩
theorem firstI_zero {α : Type} {p : Nat → α → Prop} [∀ k x, Decidable (p k x)] {c : Int} (hc : c ≠ 0) {l : List α} : firstI (fun k x => if p k x then some c else none) 0 0 l = 0 ↔ ∀ (i : Nat) (x : α), l[i]? = some x → ¬ p i x := by
  rcases firstI_sum p c hc l 0 with ⟨_, d2, d3⟩ | ⟨_, d2⟩
  · exact ⟨fun _ i x hx => by simpa using d3 i x hx, fun _ => d2⟩
  · refine ⟨fun h => absurd (d2.symm.trans h) hc, fun h => ?_⟩
    exact firstI_none l 0 fun i x hx => by rw [if_neg]; simpa using h i x hx
theorem listR_zero (l : List Tk) : listR l = 0 ↔ Vl l := by
  have key : listR l = 0 ↔ e1 l = 0 ∧ e2 l = 0 ∧ e3 l = 0 ∧ e4 l = 0 := by
    unfold listR
    by_cases h1 : e1 l = 0 <;> by_cases h2 : e2 l = 0 <;> by_cases h3 : e3 l = 0 <;> simp [h1, h2, h3]
  have h1 : e1 l = 0 ↔ _ := firstI_zero (by omega)
  have h2 : e2 l = 0 ↔ _ := firstI_zero (by omega)
  have h3 : e3 l = 0 ↔ _ := firstI_zero (by omega)
  have h4 : e4 l = 0 ↔ _ := firstI_zero (by omega)
  rw [key, h1, h2, h3, h4]
  have utw : ∀ {i : Nat} {x : Tk}, tw l i x ↔ x.Replaces ≠ 0 ∧ ∃ (j : Nat) (y : Tk), j < i ∧ l[j]? = some y ∧ x.Replaces = y.Replaces := by
    intro i x
    unfold tw
    refine and_congr_right fun _ => ?_
    rw [List.any_eq_true]
    constructor
    · rintro ⟨y, hy, he⟩
      obtain ⟨j, hj⟩ := List.getElem?_of_mem hy
      rw [List.getElem?_take] at hj
      split at hj
      · exact ⟨j, y, by assumption, hj, by simpa using he⟩
      · cases hj
    · rintro ⟨j, y, hj, hy, he⟩
      exact ⟨y, List.mem_of_getElem? (i := j) (by rw [List.getElem?_take, if_pos hj]; exact hy), by simpa using he⟩
  constructor
  · rintro ⟨g1, g2, g3, g4⟩
    refine ⟨fun i x hx => by have := g1 i x hx; omega, ?_, fun i x hx hr => ?_, ?_⟩
    · have lt : ∀ (i j : Nat) (x y : Tk), i < j → l[i]? = some x → l[j]? = some y → x.ID ≠ y.ID := fun i j x y hij hx hy => plc_neg.1 (by have := g2 j y hy; omega) i x hij hx
      intro i j x y hx hy he
      rcases Nat.lt_trichotomy i j with h | h | h
      · exact absurd he (lt i j x y h hx hy)
      · exact h
      · exact absurd he.symm (lt j i y x h hy hx)
    · have := g3 i x hx
      obtain ⟨j, y, _, k1, k2, k3⟩ := plc_some (fun h => this ⟨hr, h⟩)
      exact ⟨j, y, k1, k2, k3⟩
    · have lt : ∀ (i j : Nat) (x y : Tk), i < j → l[i]? = some x → l[j]? = some y → y.Replaces ≠ 0 → x.Replaces ≠ y.Replaces := fun i j x y hij hx hy hr he => g4 j y hy (utw.2 ⟨hr, i, x, hij, hx, he.symm⟩)
      intro i j x y hx hy hr he
      rcases Nat.lt_trichotomy i j with h | h | h
      · exact absurd he (lt i j x y h hx hy (by rw [← he]; exact hr))
      · exact h
      · exact absurd he.symm (lt j i y x h hy hx hr)
  · intro v
    refine ⟨fun i x hx => by have := v.ids i x hx; omega, fun i x hx h => ?_, fun i x hx h => ?_, fun i x hx h => ?_⟩
    · obtain ⟨j, y, _, k1, k2, k3⟩ := plc_some (by omega : ¬ plc l i x.ID < 0)
      have := v.uniq j i y x k2 hx k3
      omega
    · obtain ⟨j, y, k1, k2, k3⟩ := v.par i x hx h.1
      exact plc_neg.1 h.2 j y k1 k2 k3
    · obtain ⟨hr, j, y, k1, k2, k3⟩ := utw.1 h
      have := v.once i j x y hx k2 hr k3
      omega

/-! active tickets -/
def rpl (l : List Tk) (id : Int) : Bool := l.any fun y => decide (y.Replaces = id)
def act (l : List Tk) : List Int := ((mp 0 l).filter fun p => !rpl l p.1).map Prod.snd
theorem mdel_filter {β : Type} (n : Int) : ∀ (m : List (Int × β)), (m.map Prod.fst).Nodup → mdel n m = m.filter fun p => !decide (p.1 = n)
  | [], _ => rfl
  | p :: m, h => by
    rw [List.map_cons, List.nodup_cons] at h
    by_cases hp : p.1 = n
    · simp only [mdel, hp, if_true, List.filter_cons, decide_true, Bool.not_true, Bool.false_eq_true, if_false]
      symm
      rw [List.filter_eq_self]
      intro q hq
      have : q.1 ≠ n := fun he => h.1 (by rw [hp, ← he]; exact List.mem_map_of_mem hq)
      simp [this]
    · simp [mdel, hp, mdel_filter n m h.2]
theorem nodup_filter {β : Type} {m : List (Int × β)} (f : Int × β → Bool) (h : (m.map Prod.fst).Nodup) : ((m.filter f).map Prod.fst).Nodup := h.sublist (List.filter_sublist.map _)
theorem dels_filter {β : Type} : ∀ (l : List Tk) (m : List (Int × β)), (m.map Prod.fst).Nodup → l.foldl (fun m (x : Tk) => mdel x.Replaces m) m = m.filter fun p => !rpl l p.1
  | [], m, _ => (List.filter_eq_self.2 (by simp [rpl])).symm
  | x :: l, m, h => by
    rw [List.foldl_cons, mdel_filter _ _ h, dels_filter l _ (nodup_filter _ h), List.filter_filter]
    congr 1
    funext p
    have : decide (p.1 = x.Replaces) = decide (x.Replaces = p.1) := by rw [Bool.eq_iff_iff]; simp [eq_comm]
    simp [rpl, this, Bool.and_comm]
theorem mem_mp {l : List Tk} {p : Int × Int} : ∀ {k : Nat}, p ∈ mp k l → ∃ (i : Nat) (x : Tk), l[i]? = some x ∧ p = (x.ID, ((k + i : Nat) : Int)) := by
  induction l with
  | nil => intro k h; cases h
  | cons x l ih =>
    intro k h
    rcases List.mem_cons.1 h with h | h
    · exact ⟨0, x, rfl, h⟩
    · obtain ⟨i, y, h1, h2⟩ := ih h
      exact ⟨i + 1, y, by simpa using h1, by rw [h2]; congr 2; omega⟩
theorem mp_fst : ∀ (l : List Tk) (k : Nat), (mp k l).map Prod.fst = l.map (·.ID)
  | [], _ => rfl
  | x :: l, k => by simp [mp, mp_fst l (k + 1)]
theorem length_mp : ∀ (l : List Tk) (k : Nat), (mp k l).length = l.length
  | [], _ => rfl
  | x :: l, k => by simp [mp, length_mp l (k + 1)]
theorem mp_sorted : ∀ (l : List Tk) (k : Nat), (mp k l).Pairwise (fun p q => p.2 < q.2)
  | [], _ => .nil
  | x :: l, k => by
    refine .cons (fun q hq => ?_) (mp_sorted l (k + 1))
    obtain ⟨i, y, _, rfl⟩ := mem_mp hq
    simp only
    omega
theorem ids_nodup {l : List Tk} (v : Vl l) : (l.map (·.ID)).Nodup := by
  rw [List.nodup_iff_pairwise_ne, List.pairwise_iff_getElem]
  intro i j hi hj hij he
  simp only [List.length_map] at hi hj
  simp only [List.getElem_map] at he
  have := v.uniq i j _ _ (List.getElem?_eq_getElem hi) (List.getElem?_eq_getElem hj) he
  omega
theorem wf_of {n : Int} (h1 : -9223372036854775808 ≤ n) (h2 : n ≤ 9223372036854775807) : wfI .i64 n := by
  simp only [wfI, Lit.wf, Bool.and_eq_true, decide_eq_true_eq]
  exact ⟨Int.le_trans (by decide) h1, Int.le_trans h2 (by decide)⟩
theorem Active_eq (l : List Tk) (hl : l.length ≤ 512) : ticket_Active l = some (if listR l = 0 then act l else [], listR l) := by
  unfold ticket_Active
  rw [places_eq l hl]
  by_cases h : listR l = 0
  · have v := (listR_zero l).1 h
    have nd : ((mp 0 l).map Prod.fst).Nodup := by rw [mp_fst]; exact ids_nodup v
    have hloop : iter (ticket_Active_l1 l) (((l.length : Nat) : Int).toNat + 1) (mp 0 l, 0) = some ((mp 0 l).filter fun p => !rpl l p.1) := by
      have := iter_stI (body := ticket_Active_l1 l) l (fun k => (l.take k).foldl (fun m (x : Tk) => mdel x.Replaces m) (mp 0 l)) (fun m k => (m, k)) (fun _ _ => none) (l.foldl (fun m (x : Tk) => mdel x.Replaces m) (mp 0 l)) (by omega) (fun k x hx _ => ?_) (fun _ => by simp [ticket_Active_l1, oun]) (((l.length : Nat) : Int).toNat + 1) (by simp)
      · rw [firstI_none l 0 fun _ _ _ => rfl, dels_filter l _ nd] at this
        simpa using this
      · have hk := lt_of_get hx
        have hk2 : ((k : Int) < (l.length : Nat)) := by omega
        simp only [ticket_Active_l1, oun, hk2, decide_true, cond_true, getI_nat, hx, Option.bind_some, pickO_none]
        rw [take_succ' hx, List.foldl_append]
        rfl
    have hwf : wfM ((mp 0 l).filter fun p => !rpl l p.1) := by
      refine ⟨?_, fun p hp => ?_⟩
      · have := List.length_filter_le (fun p => !rpl l p.1) (mp 0 l)
        rw [length_mp] at this
        omega
      · obtain ⟨i, x, hx, rfl⟩ := mem_mp (List.mem_filter.1 hp).1
        have := v.ids i x hx
        have hi := lt_of_get hx
        exact ⟨wf_of (by simp only; omega) (by simp only; omega), wf_of (by simp only; omega) (by simp only; omega)⟩
    have hsort : isort (((mp 0 l).filter fun p => !rpl l p.1).map Prod.snd) = act l := by
      refine sorted_unique (isort_perm _) (isort_sorted _) ?_
      unfold act
      rw [List.pairwise_map]
      exact ((mp_sorted l 0).sublist List.filter_sublist).imp fun h => by omega
    simp only [h, if_true, Option.bind_some, oun, decide_true, Bool.not_true, cond_false, hloop, valsO, if_pos hwf, hsort]
  · simp [h, oun]
theorem replaced_eq {l : List Tk} (hl : l.length ≤ 1000) {i : Nat} {x : Tk} (hx : l[i]? = some x) : recyclingref27_replaced l (i : Int) = some (rpl l x.ID) := by
  unfold recyclingref27_replaced
  have := iter_firstI l (body := recyclingref27_replaced_l1 l (i : Int)) (fun _ (y : Tk) => if y.Replaces = x.ID then some (.inr true) else none) (.inl () : Unit ⊕ Bool) (by omega) (fun k y hy => ?_) (by simp [recyclingref27_replaced_l1]) (((l.length : Nat) : Int).toNat + 1) (by simp)
  · rw [this]
    rcases firstI_sum (fun _ (y : Tk) => y.Replaces = x.ID) 1 (by omega) l 0 with ⟨_, d2, d3⟩ | ⟨_, d2⟩
    · have : rpl l x.ID = false := by
        unfold rpl
        rw [List.any_eq_false]
        intro y hy
        obtain ⟨j, hj⟩ := List.getElem?_of_mem hy
        simpa using d3 j y hj
      rw [firstI_none l 0 fun j y hy => by rw [if_neg]; exact d3 j y hy, this]
      rfl
    · have : rpl l x.ID = true := by
        unfold rpl
        refine Classical.byContradiction fun hn => ?_
        rw [Bool.not_eq_true, List.any_eq_false] at hn
        have : firstI (fun _ (y : Tk) => if y.Replaces = x.ID then some (1 : Int) else none) 0 0 l = 0 := firstI_none l 0 fun j y hy => by
          rw [if_neg]
          simpa using hn y (List.mem_of_getElem? hy)
        rw [this] at d2
        cases d2
      have h2 : firstI (fun _ (y : Tk) => if y.Replaces = x.ID then some (Sum.inr true) else none) (.inl () : Unit ⊕ Bool) 0 l = .inr true := by
        rw [firstI_two (fun _ (y : Tk) => y.Replaces = x.ID) 1 (by omega), d2]
        rfl
      rw [h2, this]
      rfl
  · have hk := lt_of_get hy
    have hk2 : ((k : Int) < (l.length : Nat)) := by omega
    simp only [recyclingref27_replaced_l1, hk2, decide_true, cond_true, getI_nat, hx, hy, Option.bind_some]
    by_cases h : y.Replaces = x.ID <;> simp [h]
theorem RActive_eq (l : List Tk) (hl : l.length ≤ 512) : recyclingref27_Active l = some (if listR l = 0 then act l else [], listR l) := by
  unfold recyclingref27_Active
  rw [List_eq l hl]
  by_cases h : listR l = 0
  · have := iter_stI (body := recyclingref27_Active_l1 l) l (fun k => ((mp 0 (l.take k)).filter fun p => !rpl l p.1).map Prod.snd) (fun m k => (m, k)) (fun _ _ => none) (act l) (by omega) (fun k x hx _ => ?_) (fun _ => by simp [recyclingref27_Active_l1, oun, act]) (((l.length : Nat) : Int).toNat + 1) (by simp)
    · rw [firstI_none l 0 fun _ _ _ => rfl] at this
      have h0 : (((mp 0 (l.take 0)).filter fun p => !rpl l p.1).map Prod.snd) = [] := by simp [mp]
      rw [h0] at this
      simp only [h, Option.bind_some, decide_true, Bool.not_true, cond_false, if_true]
      rw [this]
      rfl
    · have hk := lt_of_get hx
      have hk2 : ((k : Int) < (l.length : Nat)) := by omega
      simp only [recyclingref27_Active_l1, oun, hk2, decide_true, cond_true, replaced_eq (show l.length ≤ 1000 by omega) hx, Option.bind_some, pickO_none, take_succ' hx, mp_append, mp, length_take' (Nat.le_of_lt hk), List.filter_append, List.map_append, Nat.zero_add]
      have hlen := List.length_filter_le (fun p => !rpl l p.1) (mp 0 (l.take k))
      rw [length_mp, length_take' (Nat.le_of_lt hk)] at hlen
      cases hr : rpl l x.ID with
      | true => simp [hr]
      | false =>
        rw [appO_eq (by simp only [List.length_map, List.length_singleton]; omega)]
        simp [hr]
  · simp [h]

/-! the check -/
def ferr (F : Nat) (s : List Sc) (l : List Tk) : Int := first (fun x => (recyclingref27_fault F s x).bind fun e => if e = 0 then none else some e) 0 l
def chkR (F : Nat) (s : List Sc) (l : List Tk) : Int := if scR s ≠ 0 then scR s else
  if ferr F s l ≠ 0 then ferr F s l else listR l
theorem TCheck_eq (s : List Sc) (hs : s.length ≤ 20) (l : List Tk) (hl : l.length ≤ 512) {F : Nat} (hF : 32 < F) : ticket_Check F s l = some (chkR F s l) ∧ recyclingref27_Check F s l = some (chkR F s l) := by
  obtain ⟨h1, h2⟩ := scales_eq s hs
  have h512 : ¬ (512 : Int) < (l.length : Nat) := by omega
  have l1 := iter_first l (body := ticket_Check_l1 F s l) (fun x => (recyclingref27_fault F s x).bind fun e => if e = 0 then none else some (.inr e)) (.inl () : Unit ⊕ Int) (by omega) (fun k x hx => by
    have hk := lt_of_get hx
    have hk2 : ((k : Int) < (l.length : Nat)) := by omega
    obtain ⟨a, b, e, w1, w2, _⟩ := weigh_eq s x hF
    simp only [ticket_Check_l1, hk2, decide_true, cond_true, getI_nat, hx, Option.bind_some, w1, w2, oun]
    by_cases h : e = 0 <;> simp [h]) (by simp [ticket_Check_l1]) (((l.length : Nat) : Int).toNat + 1) (by simp)
  have l2 := iter_first l (body := recyclingref27_Check_l1 F s l) (fun x => (recyclingref27_fault F s x).bind fun e => if e = 0 then none else some (.inr e)) (.inl () : Unit ⊕ Int) (by omega) (fun k x hx => by
    have hk := lt_of_get hx
    have hk2 : ((k : Int) < (l.length : Nat)) := by omega
    obtain ⟨a, b, e, w1, w2, _⟩ := weigh_eq s x hF
    simp only [recyclingref27_Check_l1, hk2, decide_true, cond_true, getI_nat, hx, Option.bind_some, w2, oun]
    by_cases h : e = 0 <;> simp [h]) (by simp [recyclingref27_Check_l1]) (((l.length : Nat) : Int).toNat + 1) (by simp)
  have fin : ∀ (l : List Tk), (first (fun x => (recyclingref27_fault F s x).bind fun e => if e = 0 then none else some (.inr e)) (.inl () : Unit ⊕ Int) l) =
      if ferr F s l = 0 then .inl () else .inr (ferr F s l) := by
    intro l
    induction l with
    | nil => simp [first, ferr]
    | cons x l ih =>
      obtain ⟨_, _, e, _, w2, _⟩ := weigh_eq s x hF
      unfold ferr at ih ⊢
      by_cases h : e = 0
      · simpa only [first, w2, h, if_true, Option.bind_some] using ih
      · simp [first, w2, h]
  unfold ticket_Check recyclingref27_Check chkR
  rw [h1, h2]
  by_cases hc : scR s = 0
  · simp only [hc, Option.bind_some, decide_true, Bool.not_true, cond_false, h512, decide_false, l1, l2, fin, places_eq l hl, List_eq l hl]
    by_cases hz : ferr F s l = 0
    · simp [hz, osum, oun]
    · simp [hz, osum, oun]
  · simp [hc]
theorem great_eq (s : List Sc) (l : List Tk) : recyclinglaw27_great s l = some (decide (20 < s.length ∨ 60 < l.length)) := by
  unfold recyclinglaw27_great
  by_cases h1 : 20 < s.length
  · simp [h1, show (20 : Int) < (s.length : Nat) by omega]
  · by_cases h2 : 60 < l.length
    · simp [h1, h2, show ¬ (20 : Int) < (s.length : Nat) by omega, show (60 : Int) < (l.length : Nat) by omega]
    · simp [h1, h2, show ¬ (20 : Int) < (s.length : Nat) by omega, show ¬ (60 : Int) < (l.length : Nat) by omega]
theorem recyclinglaw27_TicketChecks_true (s : List Sc) (l : List Tk) (_ : ∀ y ∈ s, wf_api_Scale y) (_ : ∀ y ∈ l, wf_api_Ticket y) : ∃ F, recyclinglaw27_TicketChecks F s l = some true := by
  refine ⟨64, ?_⟩
  unfold recyclinglaw27_TicketChecks
  rw [great_eq]
  by_cases h : 20 < s.length ∨ 60 < l.length
  · simp [h, awake_true]
  · obtain ⟨h1, h2⟩ := TCheck_eq s (by omega) l (by omega) (F := 64) (by omega)
    simp [h, h1, h2, awake_true]

end Go.Proofs.Ytchakbpjokemnaa
