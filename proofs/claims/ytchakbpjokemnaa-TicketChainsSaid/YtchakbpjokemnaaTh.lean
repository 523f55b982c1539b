/- Tickets: the places of a list. -/
import Derived.Test.YtchakbpjokemnaaTg
namespace Go.Proofs.Ytchakbpjokemnaa
set_option linter.unusedSimpArgs false
set_option linter.unusedVariables false

theorem mget_mput_same {β : Type} {k : Int} {v : β} (m : List (Int × β)) : mget k (mput k v m) = some v := by
  induction m with
  | nil => simp [mput, mget]
  | cons p m ih =>
    obtain ⟨a, b⟩ := p
    by_cases h : a = k
    · simp [mput, mget, h]
    · simp [mput, mget, h, ih]
theorem mget_mput_ne {β : Type} {k j : Int} {v : β} (h : j ≠ k) (m : List (Int × β)) : mget j (mput k v m) = mget j m := by
  induction m with
  | nil => simp [mput, mget]; omega
  | cons p m ih =>
    obtain ⟨a, b⟩ := p
    by_cases h2 : a = k
    · subst h2; simp [mput, mget, Ne.symm h]
    · by_cases h3 : a = j
      · subst h3; simp [mput, mget, h]
      · simp [mput, mget, h2, h3, ih]
theorem places_l1 (l : List Tk) (hl : l.length ≤ 1000) : iter (ticket_places_l1 l) (((l.length : Nat) : Int).toNat + 1) 0 = some (firstI (fun _ (x : Tk) => if x.ID < 1 ∨ 1000000 < x.ID then some (.inr (none, 1)) else none) (.inl () : Unit ⊕ (Option (List (Int × Int)) × Int)) 0 l) := by
  refine iter_firstI l _ _ (by omega) (fun k x hx => ?_) (by simp [ticket_places_l1]) _ (by simp)
  have hk := lt_of_get hx
  have hk2 : ((k : Int) < (l.length : Nat)) := by omega
  simp only [ticket_places_l1, hk2, decide_true, cond_true, getI_nat, hx, Option.bind_some]
  by_cases h1 : x.ID < 1
  · simp [h1]
  · by_cases h2 : 1000000 < x.ID <;> simp [h1, h2]
/-- Where an ID is among one ticket more. -/
theorem plc_succ {l : List Tk} {k : Nat} {x : Tk} (hx : l[k]? = some x) (id : Int) : plc l (k + 1) id = if 0 ≤ plc l k id then plc l k id else if x.ID = id then (k : Int) else -1 := by
  have hk := lt_of_get hx
  have ht : l.take (k + 1) = l.take k ++ [x] := by rw [List.take_add_one, hx]; rfl
  unfold plc
  rw [ht, List.findIdx?_append]
  cases hf : (l.take k).findIdx? (fun x => decide (x.ID = id)) with
  | some j => simp
  | none =>
    have hlen : (l.take k).length = k := by simp; omega
    by_cases h : x.ID = id <;> simp [h, List.findIdx?_cons, hlen]

/-! ranges whose state is told by the index -/
theorem iter_stI {α σ τ ρ : Type} (xs : List α) (st : Nat → σ) (mk : σ → Int → τ) {body : τ → Option (τ ⊕ ρ)} (step : Nat → α → Option ρ) (fin : ρ) (hn : xs.length < 9223372036854775807)
    (hb : ∀ (k : Nat) (x : α), xs[k]? = some x → (∀ (j : Nat) (y : α), j < k → xs[j]? = some y → step j y = none) → body (mk (st k) (k : Int)) = some (pickO (step k x) (mk (st (k + 1)) (w64 ((k : Int) + 1)))))
    (hf : (∀ (j : Nat) (y : α), xs[j]? = some y → step j y = none) → body (mk (st xs.length) (xs.length : Int)) = some (.inr fin)) : ∀ (n : Nat), xs.length < n → iter body n (mk (st 0) 0) = some (firstI step fin 0 xs) := by
  intro n hlt
  refine iter_rel (fun m t o => ∃ k : Nat, t = mk (st k) (k : Int) ∧ m = xs.length - k ∧ k ≤ xs.length ∧ (∀ (j : Nat) (y : α), j < k → xs[j]? = some y → step j y = none) ∧ firstI step fin k (xs.drop k) = o) ?_ n xs.length _ _ ⟨0, rfl, by simp, Nat.zero_le _, fun j y hj => absurd hj (Nat.not_lt_zero _), by simp⟩ hlt
  rintro m _ o ⟨k, rfl, rfl, hk, hno, ho⟩
  rcases Nat.lt_or_ge k xs.length with hlt | hge
  · have h1 := hb k xs[k] (by simp [hlt]) hno
    rw [List.drop_eq_getElem_cons hlt, firstI] at ho
    cases hs : step k xs[k] with
    | none =>
      rw [hs] at h1 ho
      refine .inl ⟨_, xs.length - (k + 1), h1, by omega, k + 1, by rw [w64_nat (by omega)], rfl, hlt, fun j y hj hy => ?_, ho⟩
      rcases Nat.lt_or_ge j k with h | h
      · exact hno j y h hy
      · obtain rfl : j = k := by omega
        rw [List.getElem?_eq_getElem hlt] at hy
        injection hy with hy; rw [← hy]; exact hs
    | some r =>
      rw [hs] at h1 ho
      exact .inr (by rw [h1]; exact congrArg (fun z => some (Sum.inr z)) ho)
  · obtain rfl : k = xs.length := by omega
    rw [List.drop_length] at ho
    exact .inr (by rw [hf fun j y hy => hno j y (lt_of_get hy) hy]; exact congrArg (fun z => some (Sum.inr z)) ho)

/-! the map of places -/
def mp : Nat → List Tk → List (Int × Int)
  | _, [] => []
  | k, x :: r => (x.ID, (k : Int)) :: mp (k + 1) r
theorem mp_append : ∀ (a b : List Tk) (k : Nat), mp k (a ++ b) = mp k a ++ mp (k + a.length) b
  | [], b, k => by simp [mp]
  | x :: a, b, k => by simp only [List.cons_append, mp, mp_append a b (k + 1), List.length_cons]; rw [show k + 1 + a.length = k + (a.length + 1) by omega]
theorem mget_mp (id : Int) : ∀ (l : List Tk) (k : Nat), mget id (mp k l) = (l.findIdx? (fun x => decide (x.ID = id))).map fun j => ((k + j : Nat) : Int)
  | [], k => rfl
  | x :: l, k => by
    by_cases h : x.ID = id
    · simp [mp, mget, h, List.findIdx?_cons]
    · simp only [mp, mget, h, if_false, mget_mp id l (k + 1), List.findIdx?_cons, decide_false, Bool.false_eq_true, Option.map_map]
      congr 1
      funext j
      show ((k + 1 + j : Nat) : Int) = ((k + (j + 1) : Nat) : Int)
      omega
theorem mget_plc (l : List Tk) (k : Nat) (id : Int) : mget id (mp 0 (l.take k)) = if plc l k id < 0 then none else some (plc l k id) := by
  rw [mget_mp]
  unfold plc
  cases (l.take k).findIdx? (fun x => decide (x.ID = id)) with
  | none => simp
  | some j => simp
theorem mput_new {β : Type} {k : Int} {v : β} : ∀ {m : List (Int × β)}, mget k m = none → mput k v m = m ++ [(k, v)]
  | [], _ => rfl
  | p :: m, h => by
    unfold mget at h
    split at h
    · cases h
    · rename_i hp
      simp only [mput, hp, if_false, List.cons_append, mput_new h]
theorem take_succ' {α : Type} {l : List α} {k : Nat} {x : α} (hx : l[k]? = some x) : l.take (k + 1) = l.take k ++ [x] := by rw [List.take_add_one, hx]; rfl
theorem length_take' {α : Type} {l : List α} {k : Nat} (h : k ≤ l.length) : (l.take k).length = k := by simp; omega
theorem places_l2 (l : List Tk) (hl : l.length ≤ 1000) : iter (ticket_places_l2 l) (((l.length : Nat) : Int).toNat + 1) ([], 0) = some (firstI (fun k (x : Tk) => if 0 ≤ plc l k x.ID then some (.inr (none, 6)) else none) (.inl (mp 0 l) : List (Int × Int) ⊕ (Option (List (Int × Int)) × Int)) 0 l) := by
  refine iter_stI l (fun k => mp 0 (l.take k)) (fun m k => (m, k)) _ _ (by omega) (fun k x hx _ => ?_) (fun _ => by simp [ticket_places_l2, oun]) _ (by simp)
  have hk := lt_of_get hx
  have hk2 : ((k : Int) < (l.length : Nat)) := by omega
  simp only [ticket_places_l2, oun, hk2, decide_true, cond_true, getI_nat, hx, Option.bind_some, mget_plc]
  by_cases h1 : 0 ≤ plc l k x.ID
  · simp [h1, show ¬ plc l k x.ID < 0 by omega]
  · have h2 : mget x.ID (mp 0 (l.take k)) = none := by rw [mget_plc, if_pos (by omega)]
    simp [h1, show plc l k x.ID < 0 by omega, mput_new h2, take_succ' hx, mp_append, mp, length_take' (Nat.le_of_lt hk)]

/-- Whose place is that of the whole list. -/
theorem plc_whole (l : List Tk) {k : Nat} (hk : k ≤ l.length) (id : Int) : plc l k id < 0 ↔ (plc l l.length id < 0 ∨ (k : Int) ≤ plc l l.length id) := by
  have h1 : l.take l.length = l.take k ++ l.drop k := by rw [List.take_length, List.take_append_drop]
  unfold plc
  rw [h1, List.findIdx?_append]
  have hlen : (l.take k).length = k := length_take' hk
  cases hf : (l.take k).findIdx? (fun x => decide (x.ID = id)) with
  | some j =>
    have := (List.findIdx?_eq_some_iff_getElem.1 hf).1
    simp only [Option.some_or]
    omega
  | none =>
    simp only [Option.none_or, hlen]
    cases (l.drop k).findIdx? (fun x => decide (x.ID = id)) with
    | none => simp
    | some j => simp only [Option.map_some]; omega
def rset (m : List (Int × Bool)) (x : Tk) : List (Int × Bool) := if x.Replaces = 0 then m else mput x.Replaces true m
theorem mget_rset (r : Int) (hr : r ≠ 0) : ∀ (l : List Tk) (m : List (Int × Bool)), mget r (l.foldl rset m) = if l.any (fun y => decide (r = y.Replaces)) = true then some true else mget r m
  | [], m => by simp
  | x :: l, m => by
    rw [List.foldl_cons, mget_rset r hr l, List.any_cons]
    by_cases h1 : l.any (fun y => decide (r = y.Replaces)) = true
    · simp [h1]
    · by_cases h2 : r = x.Replaces
      · subst h2
        simp [h1, rset, hr, mget_mput_same]
      · by_cases h3 : x.Replaces = 0
        · have h4 : r ≠ 0 := hr
          simp [h1, h2, rset, h3]
          intro h; exact absurd h hr
        · simp [h1, h2, rset, h3, mget_mput_ne h2]
def twk (l : List Tk) (k : Nat) : Bool := (l.take k).zipIdx.any fun p => decide (tw l p.2 p.1)
theorem twk_succ {l : List Tk} {k : Nat} {x : Tk} (hx : l[k]? = some x) : twk l (k + 1) = (twk l k || decide (tw l k x)) := by
  unfold twk
  rw [take_succ' hx, List.zipIdx_append, List.any_append, length_take' (Nat.le_of_lt (lt_of_get hx))]
  simp
theorem places_l3 (l : List Tk) (hl : l.length ≤ 1000) : iter (ticket_places_l3 l (mp 0 l)) (((l.length : Nat) : Int).toNat + 1) ([], false, 0) =
    some (firstI (fun k (x : Tk) => if x.Replaces ≠ 0 ∧ plc l k x.Replaces < 0 then some (.inr (none, 7)) else none) (.inl (twk l l.length) : Bool ⊕ (Option (List (Int × Int)) × Int)) 0 l) := by
  have hw := mget_plc l l.length
  rw [List.take_length] at hw
  refine iter_stI l (fun k => ((l.take k).foldl rset [], twk l k)) (fun m k => (m.1, m.2, k)) _ _ (by omega) (fun k x hx _ => ?_) (fun _ => by simp [ticket_places_l3, oun]) _ (by simp)
  have hk := lt_of_get hx
  have hk2 : ((k : Int) < (l.length : Nat)) := by omega
  have hs : (l.take (k + 1)).foldl rset [] = rset ((l.take k).foldl rset []) x := by rw [take_succ' hx, List.foldl_append]; rfl
  simp only [ticket_places_l3, oun, hk2, decide_true, cond_true, getI_nat, hx, Option.bind_some, hs, twk_succ hx]
  by_cases h0 : x.Replaces = 0
  · simp [h0, osum, rset, tw]
  · have hp := plc_whole l (Nat.le_of_lt hk) x.Replaces
    simp only [h0, decide_false, cond_false, hw]
    by_cases h1 : plc l l.length x.Replaces < 0
    · simp [h1, hp.2 (.inl h1), h0, osum]
    · by_cases h2 : (k : Int) ≤ plc l l.length x.Replaces
      · simp [h1, h2, hp.2 (.inr h2), h0, osum]
      · have h3 : ¬ plc l k x.Replaces < 0 := fun h => by rcases hp.1 h with h | h <;> omega
        simp only [h1, h2, h3, if_false, Option.isSome_some, Bool.not_true, cond_false, Option.getD_some, decide_false, Option.bind_some, mget_rset x.Replaces h0, and_false, pickO_none]
        have ht : decide (tw l k x) = (l.take k).any (fun y => decide (x.Replaces = y.Replaces)) := by
          rw [Bool.eq_iff_iff]
          exact ⟨fun h => (of_decide_eq_true h).2, fun h => decide_eq_true ⟨h0, h⟩⟩
        rw [ht]
        cases twk l k <;> cases (l.take k).any (fun y => decide (x.Replaces = y.Replaces)) <;> simp [osum, rset, h0, mget]
theorem twk_e4 (l : List Tk) : e4 l = if twk l l.length = true then 6 else 0 := by
  unfold e4
  rcases firstI_sum (fun k (x : Tk) => tw l k x) 6 (by omega) l 0 with ⟨_, d2, d3⟩ | ⟨_, d2⟩
  · rw [d2, if_neg]
    unfold twk
    rw [List.take_length, List.any_eq_true]
    rintro ⟨⟨x, i⟩, hm, ht⟩
    have := List.mk_mem_zipIdx_iff_getElem?.1 hm
    exact d3 i x this (by simpa using ht)
  · rw [d2, if_pos]
    refine Classical.byContradiction fun hn => ?_
    have : firstI (fun k (x : Tk) => if tw l k x then some (6 : Int) else none) 0 0 l = 0 := firstI_none l 0 fun i x hx => by
      rw [if_neg]
      intro ht
      refine hn ?_
      unfold twk
      rw [List.take_length, List.any_eq_true]
      exact ⟨(x, i), List.mk_mem_zipIdx_iff_getElem?.2 hx, by simpa using ht⟩
    rw [this] at d2
    cases d2
/-- One loop, two outcomes: none of the tickets fails, or the code. -/
theorem firstI_two {α ρ : Type} (p : Nat → α → Prop) [∀ k x, Decidable (p k x)] (c : Int) (hc : c ≠ 0) (o fin : ρ) : ∀ (l : List α) (k : Nat),
    firstI (fun k x => if p k x then some o else none) fin k l = if firstI (fun k x => if p k x then some c else none) 0 k l = 0 then fin else o
  | [], k => by simp [firstI]
  | x :: l, k => by
    by_cases h : p k x
    · simp [firstI, h, hc]
    · simpa [firstI, h] using firstI_two p c hc o fin l (k + 1)
theorem places_eq (l : List Tk) (hl : l.length ≤ 512) : ticket_places l = some (if listR l = 0 then some (mp 0 l) else none, listR l) := by
  have h512 : ¬ (512 : Int) < (l.length : Nat) := by omega
  have hl2 : l.length ≤ 1000 := by omega
  unfold ticket_places listR
  simp only [h512, decide_false, cond_false, places_l1 l hl2, places_l2 l hl2, Option.bind_some]
  rw [firstI_two (fun _ (x : Tk) => x.ID < 1 ∨ 1000000 < x.ID) 1 (by omega)]
  by_cases g1 : e1 l = 0
  · have g1' := g1
    unfold e1 at g1'
    simp only [g1', g1, if_true, osum, ne_eq, not_true_eq_false, if_false]
    rw [firstI_two (fun k (x : Tk) => 0 ≤ plc l k x.ID) 6 (by omega)]
    by_cases g2 : e2 l = 0
    · have g2' := g2
      unfold e2 at g2'
      simp only [g2', g2, if_true, ne_eq, not_true_eq_false, if_false, places_l3 l hl2, Option.bind_some]
      rw [firstI_two (fun k (x : Tk) => x.Replaces ≠ 0 ∧ plc l k x.Replaces < 0) 7 (by omega)]
      by_cases g3 : e3 l = 0
      · have g3' := g3
        unfold e3 at g3'
        simp only [ne_eq] at g3'
        simp only [ne_eq, g3', g3, if_true, not_true_eq_false, if_false, twk_e4]
        cases twk l l.length <;> simp
      · have g3' := g3
        unfold e3 at g3'
        simp only [ne_eq] at g3'
        have e37 : e3 l = 7 := by
          rcases firstI_sum (fun k (x : Tk) => x.Replaces ≠ 0 ∧ plc l k x.Replaces < 0) 7 (by omega) l 0 with ⟨_, d2, _⟩ | ⟨_, d2⟩
          · exact absurd d2 g3
          · exact d2
        simp only [ne_eq, g3', g3, if_false, e37, if_true, not_false_eq_true]
        simp
    · have g2' := g2
      unfold e2 at g2'
      have e26 : e2 l = 6 := by
        rcases firstI_sum (fun k (x : Tk) => 0 ≤ plc l k x.ID) 6 (by omega) l 0 with ⟨_, d2, _⟩ | ⟨_, d2⟩
        · exact absurd d2 g2
        · exact d2
      simp only [g2', g2, if_false, e26, if_true, ne_eq, not_false_eq_true]
      simp
  · have g1' := g1
    unfold e1 at g1'
    have e11 : e1 l = 1 := by
      rcases firstI_sum (fun _ (x : Tk) => x.ID < 1 ∨ 1000000 < x.ID) 1 (by omega) l 0 with ⟨_, d2, _⟩ | ⟨_, d2⟩
      · exact absurd d2 g1
      · exact d2
    simp only [g1', g1, if_false, osum, e11, if_true, ne_eq, not_false_eq_true]
    simp

end Go.Proofs.Ytchakbpjokemnaa
