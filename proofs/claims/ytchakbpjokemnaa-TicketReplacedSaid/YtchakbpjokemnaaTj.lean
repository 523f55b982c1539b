/- Tickets: chains of corrections. -/
import Derived.Test.YtchakbpjokemnaaTi
namespace Go.Proofs.Ytchakbpjokemnaa
set_option linter.unusedSimpArgs false
set_option linter.unusedVariables false

/-- The indices from a ticket back to the first one. -/
inductive Path (l : List Tk) : Nat → List Int → Prop
  | stop {i : Nat} {x : Tk} : l[i]? = some x → x.Replaces = 0 → Path l i [(i : Int)]
  | more {i j : Nat} {x y : Tk} {p : List Int} : l[i]? = some x → x.Replaces ≠ 0 → j < i → l[j]? = some y → y.ID = x.Replaces → plc l i x.Replaces = (j : Int) → plc l l.length x.Replaces = (j : Int) → Path l j p → Path l i ((i : Int) :: p)
def pf (l : List Tk) : Nat → Nat → List Int
  | 0, i => [(i : Int)]
  | n + 1, i => (i : Int) :: match l[i]? with
    | none => []
    | some x => if x.Replaces = 0 then [] else pf l n (plc l i x.Replaces).toNat
theorem plc_of {l : List Tk} (v : Vl l) {j k : Nat} {y : Tk} (hj : l[j]? = some y) (hk : j < k) : plc l k y.ID = (j : Int) := by
  have h : ¬ plc l k y.ID < 0 := fun h => plc_neg.1 h j y hk hj rfl
  obtain ⟨j', y', h1, _, h3, h4⟩ := plc_some h
  rw [h1, v.uniq j' j y' y h3 hj h4]
theorem path_pf {l : List Tk} (v : Vl l) : ∀ (n i : Nat) (x : Tk), l[i]? = some x → i ≤ n → Path l i (pf l n i)
  | 0, i, x, hx, hi => by
    refine .stop hx (Classical.byContradiction fun hr => ?_)
    obtain ⟨j, _, h, _⟩ := v.par i x hx hr
    omega
  | n + 1, i, x, hx, hi => by
    unfold pf
    rw [hx]
    by_cases hr : x.Replaces = 0
    · simp only [hr, if_true]
      exact .stop hx hr
    · simp only [hr, if_false]
      obtain ⟨j, y, h1, h2, h3⟩ := v.par i x hx hr
      have e1 : plc l i x.Replaces = (j : Int) := by rw [← h3]; exact plc_of v h2 h1
      have e2 : plc l l.length x.Replaces = (j : Int) := by rw [← h3]; exact plc_of v h2 (lt_of_get h2)
      rw [e1]
      exact .more hx hr h1 h2 h3 e1 e2 (path_pf v n j y h2 (by omega))
theorem Path.len {l : List Tk} {i : Nat} {p : List Int} (h : Path l i p) : p.length ≤ i + 1 := by
  induction h with
  | stop _ _ => simp
  | more _ _ h1 _ _ _ _ _ ih => simp only [List.length_cons]; omega
theorem Path.head {l : List Tk} {i : Nat} {p : List Int} (h : Path l i p) : ∃ q, p = (i : Int) :: q := by cases h <;> exact ⟨_, rfl⟩
theorem Path.at_ {l : List Tk} {i : Nat} {p : List Int} (h : Path l i p) : ∃ x, l[i]? = some x := by cases h <;> exact ⟨_, by assumption⟩
theorem mget_whole (l : List Tk) (id : Int) : mget id (mp 0 l) = if plc l l.length id < 0 then none else some (plc l l.length id) := by
  have := mget_plc l l.length id
  rwa [List.take_length] at this
theorem plc_zero {l : List Tk} (v : Vl l) (k : Nat) : plc l k 0 < 0 := plc_neg.2 fun j y _ hy he => by have := v.ids j y hy; omega
theorem chain_loop {l : List Tk} (v : Vl l) {i : Nat} {p : List Int} (h : Path l i p) : ∀ (F : Nat) (out : List Int), p.length < F → out.length + p.length ≤ 1000000 → iter (ticket_Chain_l1 l (mp 0 l)) F ((i : Int), true, out) = some (out ++ p) := by
  induction h with
  | @stop i x hx hr =>
    intro F out hF hb
    simp only [List.length_singleton] at hF hb
    obtain ⟨F, rfl⟩ : ∃ k, F = k + 2 := ⟨F - 2, by omega⟩
    have : mget x.Replaces (mp 0 l) = none := by rw [hr, mget_whole, if_pos (plc_zero v _)]
    simp only [iter, ticket_Chain_l1, oun, cond_true, appO_eq (show out.length + [(i : Int)].length ≤ 1000000 by simp; omega), getI_nat, hx, Option.bind_some, this, Option.isSome_none, cond_false, osum]
  | @more i j x y p hx hr hji hy he e1 e2 hp ih =>
    intro F out hF hb
    simp only [List.length_cons] at hF hb
    obtain ⟨F, rfl⟩ : ∃ k, F = k + 1 := ⟨F - 1, by omega⟩
    have : mget x.Replaces (mp 0 l) = some (j : Int) := by rw [mget_whole, e2, if_neg (by omega)]
    have hs := ih F (out ++ [(i : Int)]) (by omega) (by simp; omega)
    rw [List.append_assoc] at hs
    simp only [iter, ticket_Chain_l1, oun, cond_true, appO_eq (show out.length + [(i : Int)].length ≤ 1000000 by simp; omega), getI_nat, hx, Option.bind_some, this, Option.isSome_some, Option.getD_some, osum]
    exact hs
theorem rchain_loop {l : List Tk} (hl : l.length ≤ 1000) {i : Nat} {p : List Int} (h : Path l i p) : ∀ (F : Nat) (out : List Int), p.length < F + 1 → out.length + p.length ≤ 1000000 → iter (recyclingref27_Chain_l1 l) F ((i : Int) :: out) = some (p.reverse ++ out) := by
  induction h with
  | @stop i x hx hr =>
    intro F out hF hb
    simp only [List.length_singleton] at hF hb
    obtain ⟨F, rfl⟩ : ∃ k, F = k + 1 := ⟨F - 1, by omega⟩
    have h0 : getI ((i : Int) :: out) 0 = some (i : Int) := rfl
    simp [iter, recyclingref27_Chain_l1, h0, getI_nat, hx, hr, osum]
  | @more i j x y p hx hr hji hy he e1 e2 hp ih =>
    intro F out hF hb
    simp only [List.length_cons] at hF hb
    obtain ⟨F, rfl⟩ : ∃ k, F = k + 1 := ⟨F - 1, by omega⟩
    have h0 : getI ((i : Int) :: out) 0 = some (i : Int) := rfl
    have hpl := place_eq l (Nat.le_of_lt (lt_of_get hx)) hl x.Replaces
    rw [e1] at hpl
    have hs := ih F ((i : Int) :: out) (by omega) (by simp only [List.length_cons]; omega)
    have hp1 : 1 ≤ p.length := by obtain ⟨q, hq⟩ := hp.head; rw [hq]; simp
    simp only [iter, recyclingref27_Chain_l1, h0, getI_nat, hx, hr, Option.bind_some, decide_false, Bool.not_false, cond_true, hpl, appO_eq (show [(j : Int)].length + ((i : Int) :: out).length ≤ 1000000 by simp; omega), osum, List.singleton_append, hs, List.reverse_cons, List.append_assoc]
/-- The chain of a ticket, by both ways. -/
theorem Chain_both (l : List Tk) (hl : l.length ≤ 62) (id : Int) {F : Nat} (hF : 63 < F) : ∃ c e, ticket_Chain F l id = some (c, e) ∧ recyclingref27_Chain F l id = some (c, e) ∧
    (Vl l → ∀ (i : Nat) (x : Tk), l[i]? = some x → x.ID = id → e = 0 ∧ c = (pf l l.length i).reverse) := by
  unfold ticket_Chain recyclingref27_Chain
  rw [places_eq l (by omega), List_eq l (by omega)]
  by_cases h : listR l = 0
  · have v := (listR_zero l).1 h
    simp only [h, if_true, Option.bind_some, oun, decide_true, Bool.not_true, cond_false, mget_whole, place_eq l (Nat.le_refl _) (show l.length ≤ 1000 by omega)]
    by_cases hp : plc l l.length id < 0
    · refine ⟨[], 7, by simp [hp], by simp [hp], fun _ i x hx he => ?_⟩
      exact absurd he (plc_neg.1 hp i x (lt_of_get hx) hx)
    · obtain ⟨i, x, e1, _, hx, he⟩ := plc_some hp
      have hpath := path_pf v l.length i x hx (Nat.le_of_lt (lt_of_get hx))
      have hi := lt_of_get hx
      have hlen := hpath.len
      have l1 := chain_loop v hpath F [] (by omega) (by simp; omega)
      have l2 := rchain_loop (by omega) hpath F [] (by omega) (by simp; omega)
      refine ⟨(pf l l.length i).reverse, 0, ?_, ?_, fun _ i' x' hx' he' => ⟨rfl, ?_⟩⟩
      · simp only [show ¬ ((i : Int) < 0) by omega, if_false, Option.isSome_some, Bool.not_true, cond_false, Option.getD_some, e1, l1, Option.bind_some, List.nil_append]
        rw [mapO, if_pos (by omega)]
        rfl
      · simp only [show ¬ ((i : Int) < 0) by omega, decide_false, cond_false, e1, l2, Option.bind_some, List.append_nil]
      · rw [v.uniq i i' x x' hx hx' (by rw [he, he'])]
  · refine ⟨[], listR l, by simp [h, oun], by simp [h], fun v => absurd ((listR_zero l).2 v) h⟩
theorem Same_self (a : List Int) (ha : a.length ≤ 1000000) : recyclingref27_Same a a = some true := by
  have := iter_first a (body := recyclingref27_Same_l1 a a) (fun _ => none) (.inl () : Unit ⊕ Bool) (by omega) (fun k x hx => by
    have hk := lt_of_get hx
    have hk2 : ((k : Int) < (a.length : Nat)) := by omega
    simp [recyclingref27_Same_l1, hk2, getI_nat, hx]) (by simp [recyclingref27_Same_l1]) (((a.length : Nat) : Int).toNat + 1) (by simp)
  have hf : first (fun (_ : Int) => (none : Option (Unit ⊕ Bool))) (.inl ()) a = .inl () := by
    clear this ha
    induction a with
    | nil => rfl
    | cons x a ih => simpa [first] using ih
  unfold recyclingref27_Same
  rw [this, hf]
  simp [osum]
theorem length_act (l : List Tk) : (act l).length ≤ l.length := by
  unfold act
  rw [List.length_map, ← length_mp l 0]
  exact List.length_filter_le _ _
theorem recyclinglaw27_TicketActives_true (l : List Tk) (id : Int) (_ : ∀ y ∈ l, wf_api_Ticket y) (_ : wfI .i64 id) : ∃ F, recyclinglaw27_TicketActives F l id = some true := by
  refine ⟨64, ?_⟩
  unfold recyclinglaw27_TicketActives
  by_cases hl : 60 < l.length
  · simp [show (60 : Int) < (l.length : Nat) by omega, awake_true]
  · obtain ⟨c, e, h1, h2, h3⟩ := Chain_both l (by omega) id (F := 64) (by omega)
    have ha := length_act l
    have hq : (if listR l = 0 then act l else []).length ≤ 1000000 := by
      by_cases h : listR l = 0
      · rw [if_pos h]; omega
      · rw [if_neg h]; simp
    have hs1 : recyclingref27_Same (if listR l = 0 then act l else []) (if listR l = 0 then act l else []) = some true := Same_self _ hq
    have hc : c.length ≤ 1000000 := by
      refine Classical.byContradiction fun hn => ?_
      unfold ticket_Chain at h1
      rw [places_eq l (by omega)] at h1
      by_cases h : listR l = 0
      · have v := (listR_zero l).1 h
        simp only [h, if_true, Option.bind_some, oun, decide_true, Bool.not_true, cond_false, mget_whole] at h1
        by_cases hp : plc l l.length id < 0
        · simp only [hp, if_true, Option.isSome_none, Bool.not_false, cond_true, Option.some.injEq, Prod.mk.injEq] at h1
          rw [← h1.1] at hn; simp at hn
        · obtain ⟨i, x, _, _, hx, he⟩ := plc_some hp
          obtain ⟨_, hc⟩ := h3 v i x hx he
          have := (path_pf v l.length i x hx (Nat.le_of_lt (lt_of_get hx))).len
          have := lt_of_get hx
          rw [hc, List.length_reverse] at hn
          omega
      · simp only [h, if_false, Option.bind_some, oun, decide_false, Bool.not_false, cond_true, Option.some.injEq, Prod.mk.injEq] at h1
        rw [← h1.1] at hn; simp at hn
    simp [show ¬ (60 : Int) < (l.length : Nat) by omega, Active_eq l (by omega), RActive_eq l (by omega), h1, h2, oun, hs1, Same_self c hc, awake_true]

end Go.Proofs.Ytchakbpjokemnaa
