/- Tickets: places in lists. -/
import Derived.Test.YtchakbpjokemnaaTe
namespace Go.Proofs.Ytchakbpjokemnaa
set_option linter.unusedSimpArgs false
set_option linter.unusedVariables false

abbrev Tk := T_api_Ticket
/-- The index of the first of the first k tickets with an ID, or -1. -/
def plc (l : List Tk) (k : Nat) (id : Int) : Int := match (l.take k).findIdx? (fun x => decide (x.ID = id)) with
  | some j => (j : Int)
  | none => -1
theorem place_eq (l : List Tk) {k : Nat} (hk : k ≤ l.length) (hl : l.length ≤ 1000) (id : Int) : recyclingref27_place l (k : Int) id = some (plc l k id) := by
  unfold recyclingref27_place
  have key := iter_rel (body := recyclingref27_place_l1 l (k : Int) id) (fun n t o => ∃ j : Nat, t = (j : Int) ∧ n = k - j ∧ j ≤ k ∧ (∀ (i : Nat) (x : Tk), i < j → l[i]? = some x → x.ID ≠ id) ∧ o = (if plc l k id < 0 then .inl () else .inr (plc l k id) : Unit ⊕ Int)) (fun n t o => ?_) ((k : Int).toNat + 1) k 0 _ ⟨0, rfl, by simp, Nat.zero_le _, fun i x hi => by omega, rfl⟩ (by simp)
  · rw [key]
    by_cases h : plc l k id < 0
    · have : plc l k id = -1 := by
        unfold plc at h ⊢
        cases hf : (l.take k).findIdx? (fun x => decide (x.ID = id)) with
        | none => rfl
        | some j => rw [hf] at h; simp only at h; omega
      simp [h, this, osum]
    · simp [h, osum]
  · rintro ⟨j, rfl, rfl, hj, hno, rfl⟩
    rcases Nat.lt_or_ge j k with hlt | hge
    · have hjl : j < l.length := by omega
      have hx : l[j]? = some l[j] := List.getElem?_eq_getElem hjl
      have hlt' : ((j : Int) < (k : Int)) := by omega
      simp only [recyclingref27_place_l1, hlt', decide_true, cond_true, getI_nat, hx, Option.bind_some]
      by_cases hid : l[j].ID = id
      · have hp : plc l k id = (j : Int) := by
          unfold plc
          have : (l.take k).findIdx? (fun x => decide (x.ID = id)) = some j := by
            rw [List.findIdx?_eq_some_iff_getElem]
            refine ⟨by simp; omega, by simp [hid], fun i hi => ?_⟩
            have := hno i l[i] hi (List.getElem?_eq_getElem (by omega))
            simpa using this
          rw [this]
        right
        rw [hp]
        simp [hid, show ¬ ((j : Int) < 0) by omega]
      · left
        refine ⟨(j + 1 : Nat), k - (j + 1), by simp [hid]; rw [w64_nat (by omega)]; omega, by omega, j + 1, rfl, rfl, hlt, fun i x hi hx2 => ?_, by trivial⟩
        rcases Nat.lt_or_ge i j with h1 | h1
        · exact hno i x h1 hx2
        · obtain rfl : i = j := by omega
          rw [hx] at hx2; injection hx2 with hx2; rw [← hx2]; exact hid
    · obtain rfl : j = k := by omega
      right
      have hp : plc l j id = -1 := by
        unfold plc
        have : (l.take j).findIdx? (fun x => decide (x.ID = id)) = none := by
          rw [List.findIdx?_eq_none_iff]
          intro x hx
          obtain ⟨i, hi, rfl⟩ := List.getElem_of_mem hx
          simp only [List.length_take] at hi
          have := hno i l[i] (by omega) (List.getElem?_eq_getElem (by omega))
          simpa using this
        rw [this]
      simp [recyclingref27_place_l1, hp]

/-- A range over a list whose step sees the index. -/
def firstI {α ρ : Type} (step : Nat → α → Option ρ) (fin : ρ) : Nat → List α → ρ
  | _, [] => fin
  | k, x :: r => match step k x with
    | none => firstI step fin (k + 1) r
    | some o => o
theorem iter_firstI {α ρ : Type} (xs : List α) {body : Int → Option (Int ⊕ ρ)} (step : Nat → α → Option ρ) (fin : ρ) (hn : xs.length < 9223372036854775807)
    (hb : ∀ (k : Nat) (x : α), xs[k]? = some x → body (k : Int) = some (pickO (step k x) (w64 ((k : Int) + 1))))
    (hf : body (xs.length : Int) = some (.inr fin)) : ∀ (n : Nat), xs.length < n → iter body n 0 = some (firstI step fin 0 xs) := by
  intro n hlt
  refine iter_rel (fun m t o => ∃ k : Nat, t = (k : Int) ∧ m = xs.length - k ∧ k ≤ xs.length ∧ firstI step fin k (xs.drop k) = o) ?_ n xs.length 0 _ ⟨0, rfl, by simp, Nat.zero_le _, by simp⟩ hlt
  rintro m _ o ⟨k, rfl, rfl, hk, ho⟩
  rcases Nat.lt_or_ge k xs.length with hlt | hge
  · have h1 := hb k xs[k] (by simp [hlt])
    rw [List.drop_eq_getElem_cons hlt, firstI] at ho
    cases hs : step k xs[k] with
    | none =>
      rw [hs] at h1 ho
      exact .inl ⟨_, xs.length - (k + 1), h1, by omega, k + 1, by rw [w64_nat (by omega)], rfl, hlt, ho⟩
    | some r =>
      rw [hs] at h1 ho
      exact .inr (by rw [h1]; exact congrArg (fun z => some (Sum.inr z)) ho)
  · obtain rfl : k = xs.length := by omega
    rw [List.drop_length] at ho
    exact .inr (by rw [hf]; exact congrArg (fun z => some (Sum.inr z)) ho)
theorem firstI_none {α ρ : Type} {step : Nat → α → Option ρ} {fin : ρ} : ∀ (l : List α) (k : Nat), (∀ (i : Nat) (x : α), l[i]? = some x → step (k + i) x = none) → firstI step fin k l = fin
  | [], _, _ => rfl
  | x :: l, k, h => by
    have h0 := h 0 x rfl
    rw [Nat.add_zero] at h0
    simp only [firstI, h0]
    exact firstI_none l (k + 1) fun i y hy => by
      have := h (i + 1) y (by simpa using hy)
      rwa [show k + (i + 1) = k + 1 + i by omega] at this

end Go.Proofs.Ytchakbpjokemnaa
