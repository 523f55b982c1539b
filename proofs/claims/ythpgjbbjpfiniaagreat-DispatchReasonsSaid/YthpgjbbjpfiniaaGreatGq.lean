/- More plain laws of the words of specifications: ranges, sums, maps. Nothing of the program is named here. -/
import Derived.Test.YthpgjbbjpfiniaaGreatGp
import Derived.Test.YthpgjbbjpfiniaaGreatGx
namespace Go.Proofs.YthpgjbbjpfiniaaGreat
set_option linter.unusedSimpArgs false
set_option linter.unusedVariables false
theorem lt_of_get {α : Type} {l : List α} {k : Nat} {x : α} (h : l[k]? = some x) : k < l.length := by
  rcases Nat.lt_or_ge k l.length with h2 | h2
  · exact h2
  · rw [List.getElem?_eq_none h2] at h; cases h
theorem getI_in {α : Type} {l : List α} {i : Int} (h0 : 0 ≤ i) (h1 : i < (l.length : Nat)) : ∃ x, getI l i = some x := by
  obtain ⟨k, rfl⟩ : ∃ k : Nat, i = k := ⟨i.toNat, by omega⟩
  exact ⟨_, getI_some (by omega)⟩
def firstI {α ρ : Type} (step : Nat → α → Option ρ) (fin : ρ) : Nat → List α → ρ
  | _, [] => fin
  | k, x :: r => match step k x with
    | none => firstI step fin (k + 1) r
    | some o => o
theorem iter_firstI {α ρ : Type} (xs : List α) {body : Int → Option (Int ⊕ ρ)} (step : Nat → α → Option ρ) (fin : ρ) (hn : xs.length < 9223372036854775807)
    (hb : ∀ (k : Nat) (x : α), xs[k]? = some x → body (k : Int) = some (pickO (step k x) (w64 ((k : Int) + 1))))
    (hf : body (xs.length : Int) = some (.inr fin)) : ∀ (n : Nat), xs.length < n → iter body n 0 = some (firstI step fin 0 xs) := by
  intro n hlt
  refine iter_rel (fun m t o => ∃ k : Nat, t = (k : Int) ∧ m = xs.length - k ∧ k ≤ xs.length ∧ firstI step fin k (xs.drop k) = o) ?_ n xs.length 0 _ ⟨0, rfl, by simp, Nat.zero_le _, by simp⟩ hlt
  rintro m _ o ⟨k, rfl, rfl, hk, ho⟩
  rcases Nat.lt_or_ge k xs.length with hlt | hge
  · have h1 := hb k xs[k] (by simp [hlt])
    rw [List.drop_eq_getElem_cons hlt, firstI] at ho
    cases hs : step k xs[k] with
    | none =>
      rw [hs] at h1 ho
      exact .inl ⟨_, xs.length - (k + 1), h1, by omega, k + 1, by rw [w64_nat (by omega)], rfl, hlt, ho⟩
    | some r =>
      rw [hs] at h1 ho
      exact .inr (by rw [h1]; exact congrArg (fun z => some (Sum.inr z)) ho)
  · obtain rfl : k = xs.length := by omega
    rw [List.drop_length] at ho
    exact .inr (by rw [hf]; exact congrArg (fun z => some (Sum.inr z)) ho)
theorem firstI_none {α ρ : Type} {step : Nat → α → Option ρ} {fin : ρ} : ∀ (l : List α) (k : Nat), (∀ (i : Nat) (x : α), l[i]? = some x → step (k + i) x = none) → firstI step fin k l = fin
  | [], _, _ => rfl
  | x :: l, k, h => by
    have h0 := h 0 x rfl
    rw [Nat.add_zero] at h0
    simp only [firstI, h0]
    exact firstI_none l (k + 1) fun i y hy => by
      have := h (i + 1) y (by simpa using hy)
      rwa [show k + (i + 1) = k + 1 + i by omega] at this
theorem iter_stI {α σ τ ρ : Type} (xs : List α) (st : Nat → σ) (mk : σ → Int → τ) {body : τ → Option (τ ⊕ ρ)} (step : Nat → α → Option ρ) (fin : ρ) (hn : xs.length < 9223372036854775807)
    (hb : ∀ (k : Nat) (x : α), xs[k]? = some x → (∀ (j : Nat) (y : α), j < k → xs[j]? = some y → step j y = none) → body (mk (st k) (k : Int)) = some (pickO (step k x) (mk (st (k + 1)) (w64 ((k : Int) + 1)))))
    (hf : (∀ (j : Nat) (y : α), xs[j]? = some y → step j y = none) → body (mk (st xs.length) (xs.length : Int)) = some (.inr fin)) : ∀ (n : Nat), xs.length < n → iter body n (mk (st 0) 0) = some (firstI step fin 0 xs) := by
  intro n hlt
  refine iter_rel (fun m t o => ∃ k : Nat, t = mk (st k) (k : Int) ∧ m = xs.length - k ∧ k ≤ xs.length ∧ (∀ (j : Nat) (y : α), j < k → xs[j]? = some y → step j y = none) ∧ firstI step fin k (xs.drop k) = o) ?_ n xs.length _ _ ⟨0, rfl, by simp, Nat.zero_le _, fun j y hj => absurd hj (Nat.not_lt_zero _), by simp⟩ hlt
  rintro m _ o ⟨k, rfl, rfl, hk, hno, ho⟩
  rcases Nat.lt_or_ge k xs.length with hlt | hge
  · have h1 := hb k xs[k] (by simp [hlt]) hno
    rw [List.drop_eq_getElem_cons hlt, firstI] at ho
    cases hs : step k xs[k] with
    | none =>
      rw [hs] at h1 ho
      refine .inl ⟨_, xs.length - (k + 1), h1, by omega, k + 1, by rw [w64_nat (by omega)], rfl, hlt, fun j y hj hy => ?_, ho⟩
      rcases Nat.lt_or_ge j k with h | h
      · exact hno j y h hy
      · obtain rfl : j = k := by omega
        rw [List.getElem?_eq_getElem hlt] at hy
        injection hy with hy; rw [← hy]; exact hs
    | some r =>
      rw [hs] at h1 ho
      exact .inr (by rw [h1]; exact congrArg (fun z => some (Sum.inr z)) ho)
  · obtain rfl : k = xs.length := by omega
    rw [List.drop_length] at ho
    exact .inr (by rw [hf fun j y hy => hno j y (lt_of_get hy) hy]; exact congrArg (fun z => some (Sum.inr z)) ho)
theorem take_succ' {α : Type} {l : List α} {k : Nat} {x : α} (hx : l[k]? = some x) : l.take (k + 1) = l.take k ++ [x] := by rw [List.take_add_one, hx]; rfl
theorem length_take' {α : Type} {l : List α} {k : Nat} (h : k ≤ l.length) : (l.take k).length = k := by simp; omega
def sumBy {α : Type} (f : α → Int) (l : List α) : Int := (l.map f).sum
@[simp] theorem sumBy_nil {α : Type} (f : α → Int) : sumBy f [] = 0 := rfl
@[simp] theorem sumBy_cons {α : Type} (f : α → Int) (x : α) (l : List α) : sumBy f (x :: l) = f x + sumBy f l := by simp [sumBy]
theorem sumBy_append {α : Type} (f : α → Int) : ∀ (a b : List α), sumBy f (a ++ b) = sumBy f a + sumBy f b
  | [], b => by simp
  | x :: a, b => by simp only [List.cons_append, sumBy_cons, sumBy_append f a b]; omega
theorem sumBy_bound {α : Type} {f : α → Int} {B : Int} : ∀ {l : List α}, (∀ x ∈ l, 0 ≤ f x ∧ f x ≤ B) → 0 ≤ sumBy f l ∧ sumBy f l ≤ l.length * B
  | [], _ => by simp
  | x :: l, h => by
    have h1 := h x (by simp)
    have h2 := sumBy_bound (l := l) fun y hy => h y (by simp [hy])
    rw [sumBy_cons, List.length_cons]
    have : ((l.length + 1 : Nat) : Int) * B = l.length * B + B := by rw [Int.natCast_add, Int.add_mul]; simp
    rw [this]
    omega
theorem mget_mput_same {β : Type} {k : Int} {v : β} (m : List (Int × β)) : mget k (mput k v m) = some v := by
  induction m with
  | nil => simp [mput, mget]
  | cons p m ih =>
    obtain ⟨a, b⟩ := p
    by_cases h : a = k
    · simp [mput, mget, h]
    · simp [mput, mget, h, ih]
theorem mget_mput_ne {β : Type} {k j : Int} {v : β} (h : j ≠ k) (m : List (Int × β)) : mget j (mput k v m) = mget j m := by
  induction m with
  | nil => simp [mput, mget]; omega
  | cons p m ih =>
    obtain ⟨a, b⟩ := p
    by_cases h2 : a = k
    · subst h2; simp [mput, mget, Ne.symm h]
    · by_cases h3 : a = j
      · subst h3; simp [mput, mget, h]
      · simp [mput, mget, h2, h3, ih]
theorem firstI_cases {α ρ : Type} {step : Nat → α → Option ρ} {fin : ρ} : ∀ (l : List α) (k : Nat),
    ((∀ (i : Nat) (x : α), l[i]? = some x → step (k + i) x = none) ∧ firstI step fin k l = fin) ∨
    (∃ (i : Nat) (x : α) (o : ρ), l[i]? = some x ∧ step (k + i) x = some o ∧ firstI step fin k l = o ∧ ∀ (j : Nat) (y : α), j < i → l[j]? = some y → step (k + j) y = none)
  | [], k => .inl ⟨fun i x h => by simp at h, rfl⟩
  | x :: l, k => by
    cases hs : step k x with
    | some o => exact .inr ⟨0, x, o, rfl, hs, by simp [firstI, hs], fun j y hj => absurd hj (Nat.not_lt_zero _)⟩
    | none =>
      have hf : firstI step fin k (x :: l) = firstI step fin (k + 1) l := by simp [firstI, hs]
      rw [hf]
      rcases firstI_cases (step := step) (fin := fin) l (k + 1) with ⟨h1, h2⟩ | ⟨i, y, o, h1, h2, h3, h4⟩
      · refine .inl ⟨fun i y hy => ?_, h2⟩
        cases i with
        | zero => simp at hy; subst hy; simpa using hs
        | succ i => have := h1 i y (by simpa using hy); rwa [show k + 1 + i = k + (i + 1) by omega] at this
      · refine .inr ⟨i + 1, y, o, by simpa using h1, by rwa [show k + 1 + i = k + (i + 1) by omega] at h2, h3, fun j z hj hz => ?_⟩
        cases j with
        | zero => simp at hz; subst hz; simpa using hs
        | succ j => have := h4 j z (by omega) (by simpa using hz); rwa [show k + 1 + j = k + (j + 1) by omega] at this
theorem nodup_sub_len {α : Type} [DecidableEq α] : ∀ {l m : List α}, l.Nodup → (∀ x ∈ l, x ∈ m) → l.length ≤ m.length
  | [], _, _, _ => Nat.zero_le _
  | x :: l, m, hn, h => by
    rw [List.nodup_cons] at hn
    have hx := h x (by simp)
    have := nodup_sub_len (l := l) (m := m.erase x) hn.2 fun y hy => (List.mem_erase_of_ne (fun e => hn.1 (by rw [← e]; exact hy))).2 (h y (by simp [hy]))
    rw [List.length_erase_of_mem hx] at this
    have : 0 < m.length := List.length_pos_of_mem hx
    simp only [List.length_cons]
    omega
end Go.Proofs.YthpgjbbjpfiniaaGreat
