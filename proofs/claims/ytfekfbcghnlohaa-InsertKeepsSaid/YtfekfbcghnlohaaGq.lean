/- More plain laws of the words of specifications: ranges, sums, maps. Nothing of the program is named here. -/
import Derived.Test.YtfekfbcghnlohaaGp
import Derived.Test.YtfekfbcghnlohaaGx
namespace Go.Proofs.Ytfekfbcghnlohaa
set_option linter.unusedSimpArgs false
set_option linter.unusedVariables false

theorem lt_of_get {α : Type} {l : List α} {k : Nat} {x : α} (h : l[k]? = some x) : k < l.length := by
  rcases Nat.lt_or_ge k l.length with h2 | h2
  · exact h2
  · rw [List.getElem?_eq_none h2] at h; cases h
theorem getI_in {α : Type} {l : List α} {i : Int} (h0 : 0 ≤ i) (h1 : i < (l.length : Nat)) : ∃ x, getI l i = some x := by
  obtain ⟨k, rfl⟩ : ∃ k : Nat, i = k := ⟨i.toNat, by omega⟩
  exact ⟨_, getI_some (by omega)⟩
/-- A range over a list whose step sees the index. -/
def firstI {α ρ : Type} (step : Nat → α → Option ρ) (fin : ρ) : Nat → List α → ρ
  | _, [] => fin
  | k, x :: r => match step k x with
    | none => firstI step fin (k + 1) r
    | some o => o
theorem iter_firstI {α ρ : Type} (xs : List α) {body : Int → Option (Int ⊕ ρ)} (step : Nat → α → Option ρ) (fin : ρ) (hn : xs.length < 9223372036854775807)
    (hb : ∀ (k : Nat) (x : α), xs[k]? = some x → body (k : Int) = some (pickO (step k x) (w64 ((k : Int) + 1))))
    (hf : body (xs.length : Int) = some (.inr fin)) : ∀ (n : Nat), xs.length < n → iter body n 0 = some (firstI step fin 0 xs) := by
  intro n hlt
  refine iter_rel (fun m t o => ∃ k : Nat, t = (k : Int) ∧ m = xs.length - k ∧ k ≤ xs.length ∧ firstI step fin k (xs.drop k) = o) ?_ n xs.length 0 _ ⟨0, rfl, by simp, Nat.zero_le _, by simp⟩ hlt
  rintro m _ o ⟨k, rfl, rfl, hk, ho⟩
  rcases Nat.lt_or_ge k xs.length with hlt | hge
  · have h1 := hb k xs[k] (by simp [hlt])
    rw [List.drop_eq_getElem_cons hlt, firstI] at ho
    cases hs : step k xs[k] with
    | none =>
      rw [hs] at h1 ho
      exact .inl ⟨_, xs.length - (k + 1), h1, by omega, k + 1, by rw [w64_nat (by omega)], rfl, hlt, ho⟩
    | some r =>
      rw [hs] at h1 ho
      exact .inr (by rw [h1]; exact congrArg (fun z => some (Sum.inr z)) ho)
  · obtain rfl : k = xs.length := by omega
    rw [List.drop_length] at ho
    exact .inr (by rw [hf]; exact congrArg (fun z => some (Sum.inr z)) ho)
theorem firstI_none {α ρ : Type} {step : Nat → α → Option ρ} {fin : ρ} : ∀ (l : List α) (k : Nat), (∀ (i : Nat) (x : α), l[i]? = some x → step (k + i) x = none) → firstI step fin k l = fin
  | [], _, _ => rfl
  | x :: l, k, h => by
    have h0 := h 0 x rfl
    rw [Nat.add_zero] at h0
    simp only [firstI, h0]
    exact firstI_none l (k + 1) fun i y hy => by
      have := h (i + 1) y (by simpa using hy)
      rwa [show k + (i + 1) = k + 1 + i by omega] at this

/-- The same loop as a sum: what is left of it. -/
theorem firstI_sum {α : Type} (p : Nat → α → Prop) [∀ k x, Decidable (p k x)] (c : Int) (hc : c ≠ 0) : ∀ (l : List α) (k : Nat),
    (firstI (fun k x => if p k x then some (.inr c) else none) (.inl () : Unit ⊕ Int) k l = .inl () ∧ firstI (fun k x => if p k x then some c else none) 0 k l = 0 ∧ ∀ (i : Nat) (x : α), l[i]? = some x → ¬ p (k + i) x) ∨
    (firstI (fun k x => if p k x then some (.inr c) else none) (.inl () : Unit ⊕ Int) k l = .inr c ∧ firstI (fun k x => if p k x then some c else none) 0 k l = c)
  | [], k => .inl ⟨rfl, rfl, fun i x h => by simp at h⟩
  | x :: l, k => by
    by_cases h : p k x
    · exact .inr ⟨by simp [firstI, h], by simp [firstI, h]⟩
    · rcases firstI_sum p c hc l (k + 1) with ⟨h1, h2, h3⟩ | ⟨h1, h2⟩
      · refine .inl ⟨by simpa [firstI, h] using h1, by simpa [firstI, h] using h2, fun i y hy => ?_⟩
        cases i with
        | zero => simp at hy; subst hy; simpa using h
        | succ i => have := h3 i y (by simpa using hy); rwa [show k + 1 + i = k + (i + 1) by omega] at this
      · exact .inr ⟨by simpa [firstI, h] using h1, by simpa [firstI, h] using h2⟩
theorem firstI_zero {α : Type} {p : Nat → α → Prop} [∀ k x, Decidable (p k x)] {c : Int} (hc : c ≠ 0) {l : List α} : firstI (fun k x => if p k x then some c else none) 0 0 l = 0 ↔ ∀ (i : Nat) (x : α), l[i]? = some x → ¬ p i x := by
  rcases firstI_sum p c hc l 0 with ⟨_, d2, d3⟩ | ⟨_, d2⟩
  · exact ⟨fun _ i x hx => by simpa using d3 i x hx, fun _ => d2⟩
  · refine ⟨fun h => absurd (d2.symm.trans h) hc, fun h => ?_⟩
    exact firstI_none l 0 fun i x hx => by rw [if_neg]; simpa using h i x hx
/-- One loop, two outcomes: none of the tickets fails, or the code. -/
theorem firstI_two {α ρ : Type} (p : Nat → α → Prop) [∀ k x, Decidable (p k x)] (c : Int) (hc : c ≠ 0) (o fin : ρ) : ∀ (l : List α) (k : Nat),
    firstI (fun k x => if p k x then some o else none) fin k l = if firstI (fun k x => if p k x then some c else none) 0 k l = 0 then fin else o
  | [], k => by simp [firstI]
  | x :: l, k => by
    by_cases h : p k x
    · simp [firstI, h, hc]
    · simpa [firstI, h] using firstI_two p c hc o fin l (k + 1)
theorem iter_stI {α σ τ ρ : Type} (xs : List α) (st : Nat → σ) (mk : σ → Int → τ) {body : τ → Option (τ ⊕ ρ)} (step : Nat → α → Option ρ) (fin : ρ) (hn : xs.length < 9223372036854775807)
    (hb : ∀ (k : Nat) (x : α), xs[k]? = some x → (∀ (j : Nat) (y : α), j < k → xs[j]? = some y → step j y = none) → body (mk (st k) (k : Int)) = some (pickO (step k x) (mk (st (k + 1)) (w64 ((k : Int) + 1)))))
    (hf : (∀ (j : Nat) (y : α), xs[j]? = some y → step j y = none) → body (mk (st xs.length) (xs.length : Int)) = some (.inr fin)) : ∀ (n : Nat), xs.length < n → iter body n (mk (st 0) 0) = some (firstI step fin 0 xs) := by
  intro n hlt
  refine iter_rel (fun m t o => ∃ k : Nat, t = mk (st k) (k : Int) ∧ m = xs.length - k ∧ k ≤ xs.length ∧ (∀ (j : Nat) (y : α), j < k → xs[j]? = some y → step j y = none) ∧ firstI step fin k (xs.drop k) = o) ?_ n xs.length _ _ ⟨0, rfl, by simp, Nat.zero_le _, fun j y hj => absurd hj (Nat.not_lt_zero _), by simp⟩ hlt
  rintro m _ o ⟨k, rfl, rfl, hk, hno, ho⟩
  rcases Nat.lt_or_ge k xs.length with hlt | hge
  · have h1 := hb k xs[k] (by simp [hlt]) hno
    rw [List.drop_eq_getElem_cons hlt, firstI] at ho
    cases hs : step k xs[k] with
    | none =>
      rw [hs] at h1 ho
      refine .inl ⟨_, xs.length - (k + 1), h1, by omega, k + 1, by rw [w64_nat (by omega)], rfl, hlt, fun j y hj hy => ?_, ho⟩
      rcases Nat.lt_or_ge j k with h | h
      · exact hno j y h hy
      · obtain rfl : j = k := by omega
        rw [List.getElem?_eq_getElem hlt] at hy
        injection hy with hy; rw [← hy]; exact hs
    | some r =>
      rw [hs] at h1 ho
      exact .inr (by rw [h1]; exact congrArg (fun z => some (Sum.inr z)) ho)
  · obtain rfl : k = xs.length := by omega
    rw [List.drop_length] at ho
    exact .inr (by rw [hf fun j y hy => hno j y (lt_of_get hy) hy]; exact congrArg (fun z => some (Sum.inr z)) ho)

/-! the map of places -/
theorem take_succ' {α : Type} {l : List α} {k : Nat} {x : α} (hx : l[k]? = some x) : l.take (k + 1) = l.take k ++ [x] := by rw [List.take_add_one, hx]; rfl
theorem length_take' {α : Type} {l : List α} {k : Nat} (h : k ≤ l.length) : (l.take k).length = k := by simp; omega
def sumBy {α : Type} (f : α → Int) (l : List α) : Int := (l.map f).sum
@[simp] theorem sumBy_nil {α : Type} (f : α → Int) : sumBy f [] = 0 := rfl
@[simp] theorem sumBy_cons {α : Type} (f : α → Int) (x : α) (l : List α) : sumBy f (x :: l) = f x + sumBy f l := by simp [sumBy]
theorem sumBy_append {α : Type} (f : α → Int) : ∀ (a b : List α), sumBy f (a ++ b) = sumBy f a + sumBy f b
  | [], b => by simp
  | x :: a, b => by simp only [List.cons_append, sumBy_cons, sumBy_append f a b]; omega
theorem sumBy_bound {α : Type} {f : α → Int} {B : Int} : ∀ {l : List α}, (∀ x ∈ l, 0 ≤ f x ∧ f x ≤ B) → 0 ≤ sumBy f l ∧ sumBy f l ≤ l.length * B
  | [], _ => by simp
  | x :: l, h => by
    have h1 := h x (by simp)
    have h2 := sumBy_bound (l := l) fun y hy => h y (by simp [hy])
    rw [sumBy_cons, List.length_cons]
    have : ((l.length + 1 : Nat) : Int) * B = l.length * B + B := by rw [Int.natCast_add, Int.add_mul]; simp
    rw [this]
    omega
theorem sumBy_le {α : Type} {f g : α → Int} : ∀ {l : List α}, (∀ x ∈ l, f x ≤ g x) → sumBy f l ≤ sumBy g l
  | [], _ => by simp
  | x :: l, h => by
    have h1 := h x (by simp)
    have h2 := sumBy_le (l := l) fun y hy => h y (by simp [hy])
    rw [sumBy_cons, sumBy_cons]
    omega
theorem mget_mput_same {β : Type} {k : Int} {v : β} (m : List (Int × β)) : mget k (mput k v m) = some v := by
  induction m with
  | nil => simp [mput, mget]
  | cons p m ih =>
    obtain ⟨a, b⟩ := p
    by_cases h : a = k
    · simp [mput, mget, h]
    · simp [mput, mget, h, ih]
theorem mget_mput_ne {β : Type} {k j : Int} {v : β} (h : j ≠ k) (m : List (Int × β)) : mget j (mput k v m) = mget j m := by
  induction m with
  | nil => simp [mput, mget]; omega
  | cons p m ih =>
    obtain ⟨a, b⟩ := p
    by_cases h2 : a = k
    · subst h2; simp [mput, mget, Ne.symm h]
    · by_cases h3 : a = j
      · subst h3; simp [mput, mget, h]
      · simp [mput, mget, h2, h3, ih]
theorem mput_new {β : Type} {k : Int} {v : β} : ∀ {m : List (Int × β)}, mget k m = none → mput k v m = m ++ [(k, v)]
  | [], _ => rfl
  | p :: m, h => by
    unfold mget at h
    split at h
    · cases h
    · rename_i hp
      simp only [mput, hp, if_false, List.cons_append, mput_new h]
theorem mdel_filter {β : Type} (n : Int) : ∀ (m : List (Int × β)), (m.map Prod.fst).Nodup → mdel n m = m.filter fun p => !decide (p.1 = n)
  | [], _ => rfl
  | p :: m, h => by
    rw [List.map_cons, List.nodup_cons] at h
    by_cases hp : p.1 = n
    · simp only [mdel, hp, if_true, List.filter_cons, decide_true, Bool.not_true, Bool.false_eq_true, if_false]
      symm
      rw [List.filter_eq_self]
      intro q hq
      have : q.1 ≠ n := fun he => h.1 (by rw [hp, ← he]; exact List.mem_map_of_mem hq)
      simp [this]
    · simp [mdel, hp, mdel_filter n m h.2]
theorem nodup_filter {β : Type} {m : List (Int × β)} (f : Int × β → Bool) (h : (m.map Prod.fst).Nodup) : ((m.filter f).map Prod.fst).Nodup := h.sublist (List.filter_sublist.map _)
theorem wf_of {n : Int} (h1 : -9223372036854775808 ≤ n) (h2 : n ≤ 9223372036854775807) : wfI .i64 n := by
  simp only [wfI, Lit.wf, Bool.and_eq_true, decide_eq_true_eq]
  exact ⟨Int.le_trans (by decide) h1, Int.le_trans h2 (by decide)⟩
theorem pigeon : ∀ (n : Nat) (a : Int) (L : List Int), (∀ v, a ≤ v → v < a + n → v ∈ L) → n ≤ L.length
  | 0, _, _, _ => Nat.zero_le _
  | n + 1, a, L, h => by
    have hm := h (a + n) (by omega) (by omega)
    have ih := pigeon n a (L.erase (a + n)) fun v h1 h2 => (List.mem_erase_of_ne (by omega)).2 (h v h1 (by omega))
    rw [List.length_erase_of_mem hm] at ih
    have : 0 < L.length := List.length_pos_of_mem hm
    omega
theorem get_snoc {α : Type} {l : List α} {y : α} {i : Nat} {x : α} (h : (l ++ [y])[i]? = some x) : l[i]? = some x ∨ (i = l.length ∧ x = y) := by
  rcases Nat.lt_or_ge i l.length with hi | hi
  · rw [List.getElem?_append_left hi] at h; exact .inl h
  · rw [List.getElem?_append_right hi] at h
    cases hk : i - l.length with
    | zero => rw [hk] at h; simp at h; exact .inr ⟨by omega, h.symm⟩
    | succ k => rw [hk] at h; simp at h
theorem sumBy_congr {α : Type} {f g : α → Int} : ∀ {l : List α}, (∀ x ∈ l, f x = g x) → sumBy f l = sumBy g l
  | [], _ => rfl
  | x :: l, h => by rw [sumBy_cons, sumBy_cons, h x (by simp), sumBy_congr fun y hy => h y (by simp [hy])]
theorem sumBy_zero {α : Type} : ∀ (l : List α), sumBy (fun _ => 0) l = 0
  | [] => rfl
  | x :: l => by rw [sumBy_cons, sumBy_zero l]; rfl
theorem sumBy_add {α : Type} (f g : α → Int) : ∀ (l : List α), sumBy (fun x => f x + g x) l = sumBy f l + sumBy g l
  | [] => rfl
  | x :: l => by simp only [sumBy_cons, sumBy_add f g l]; omega
theorem sumBy_abs {α : Type} {f : α → Int} {B : Int} : ∀ {l : List α}, (∀ x ∈ l, -B ≤ f x ∧ f x ≤ B) → -(l.length * B) ≤ sumBy f l ∧ sumBy f l ≤ l.length * B
  | [], _ => by simp
  | x :: l, h => by
    have h1 := h x (by simp)
    have h2 := sumBy_abs (l := l) fun y hy => h y (by simp [hy])
    rw [sumBy_cons, List.length_cons]
    have : ((l.length + 1 : Nat) : Int) * B = l.length * B + B := by rw [Int.natCast_add, Int.add_mul]; simp
    rw [this]
    omega
theorem sumBy_filter {α : Type} (f : α → Int) (q : α → Bool) : ∀ (l : List α), sumBy f (l.filter q) = sumBy (fun x => if q x = true then f x else 0) l
  | [] => rfl
  | x :: l => by
    rw [List.filter_cons, sumBy_cons]
    cases h : q x <;> simp [sumBy_filter f q l]

theorem firstI_cases {α ρ : Type} {step : Nat → α → Option ρ} {fin : ρ} : ∀ (l : List α) (k : Nat),
    ((∀ (i : Nat) (x : α), l[i]? = some x → step (k + i) x = none) ∧ firstI step fin k l = fin) ∨
    (∃ (i : Nat) (x : α) (o : ρ), l[i]? = some x ∧ step (k + i) x = some o ∧ firstI step fin k l = o ∧ ∀ (j : Nat) (y : α), j < i → l[j]? = some y → step (k + j) y = none)
  | [], k => .inl ⟨fun i x h => by simp at h, rfl⟩
  | x :: l, k => by
    cases hs : step k x with
    | some o => exact .inr ⟨0, x, o, rfl, hs, by simp [firstI, hs], fun j y hj => absurd hj (Nat.not_lt_zero _)⟩
    | none =>
      have hf : firstI step fin k (x :: l) = firstI step fin (k + 1) l := by simp [firstI, hs]
      rw [hf]
      rcases firstI_cases (step := step) (fin := fin) l (k + 1) with ⟨h1, h2⟩ | ⟨i, y, o, h1, h2, h3, h4⟩
      · refine .inl ⟨fun i y hy => ?_, h2⟩
        cases i with
        | zero => simp at hy; subst hy; simpa using hs
        | succ i => have := h1 i y (by simpa using hy); rwa [show k + 1 + i = k + (i + 1) by omega] at this
      · refine .inr ⟨i + 1, y, o, by simpa using h1, by rwa [show k + 1 + i = k + (i + 1) by omega] at h2, h3, fun j z hj hz => ?_⟩
        cases j with
        | zero => simp at hz; subst hz; simpa using hs
        | succ j => have := h4 j z (by omega) (by simpa using hz); rwa [show k + 1 + j = k + (j + 1) by omega] at this
theorem nodup_sub_len {α : Type} [DecidableEq α] : ∀ {l m : List α}, l.Nodup → (∀ x ∈ l, x ∈ m) → l.length ≤ m.length
  | [], _, _, _ => Nat.zero_le _
  | x :: l, m, hn, h => by
    rw [List.nodup_cons] at hn
    have hx := h x (by simp)
    have := nodup_sub_len (l := l) (m := m.erase x) hn.2 fun y hy => (List.mem_erase_of_ne (fun e => hn.1 (by rw [← e]; exact hy))).2 (h y (by simp [hy]))
    rw [List.length_erase_of_mem hx] at this
    have : 0 < m.length := List.length_pos_of_mem hx
    simp only [List.length_cons]
    omega
theorem mput_keys {β : Type} {k : Int} {v : β} : ∀ (m : List (Int × β)), (mput k v m).map Prod.fst = if (mget k m).isSome = true then m.map Prod.fst else m.map Prod.fst ++ [k]
  | [] => rfl
  | p :: m => by
    by_cases h : p.1 = k
    · simp [mput, mget, h]
    · simp only [mput, mget, h, if_false, List.map_cons, mput_keys m]
      split <;> simp
theorem mget_isSome {β : Type} {k : Int} : ∀ {m : List (Int × β)}, (mget k m).isSome = true ↔ k ∈ m.map Prod.fst
  | [] => by simp [mget]
  | p :: m => by
    by_cases h : p.1 = k
    · simp [mget, h]
    · have := mget_isSome (k := k) (m := m)
      simp only [mget, h, if_false, this, List.map_cons, List.mem_cons]
      constructor
      · exact .inr
      · rintro (e | e)
        · exact absurd e.symm h
        · exact e
theorem mput_nodup {β : Type} {k : Int} {v : β} {m : List (Int × β)} (h : (m.map Prod.fst).Nodup) : ((mput k v m).map Prod.fst).Nodup := by
  rw [mput_keys]
  split
  · exact h
  · rename_i hn
    rw [mget_isSome] at hn
    exact List.nodup_append.2 ⟨h, by simp, fun a ha b hb => by simp at hb; subst hb; exact fun e => hn (by rw [← e]; exact ha)⟩
theorem mem_mget {β : Type} {p : Int × β} : ∀ {m : List (Int × β)}, (m.map Prod.fst).Nodup → p ∈ m → mget p.1 m = some p.2
  | [], _, h => by cases h
  | q :: m, hn, h => by
    rw [List.map_cons, List.nodup_cons] at hn
    rcases List.mem_cons.1 h with e | e
    · subst e; simp [mget]
    · have : q.1 ≠ p.1 := fun he => hn.1 (by rw [he]; exact List.mem_map_of_mem e)
      simp only [mget, this, if_false]
      exact mem_mget hn.2 e

end Go.Proofs.Ytfekfbcghnlohaa
