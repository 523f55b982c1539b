/- Plain laws of the words of specifications. -/
import Derived.Test.YthpgjbbjpfiniaaGreatGa
namespace Go.Proofs.YthpgjbbjpfiniaaGreat
set_option linter.unusedSimpArgs false
set_option linter.unusedVariables false
theorem iter_rel {τ ρ : Type} {body : τ → Option (τ ⊕ ρ)} (I : Nat → τ → ρ → Prop)
    (h : ∀ n t o, I n t o → (∃ t' n', body t = some (.inl t') ∧ n' < n ∧ I n' t' o) ∨ body t = some (.inr o)) : ∀ (fuel n : Nat) (t : τ) (o : ρ), I n t o → n < fuel → iter body fuel t = some o
  | 0, _, _, _, _, hm => by omega
  | f + 1, n, t, o, hI, hm => by
    rcases h n t o hI with ⟨t', n', h1, h2, h3⟩ | h1
    · simp only [iter, h1, Option.bind_some, osum]
      exact iter_rel I h f n' t' o h3 (by omega)
    · simp only [iter, h1, Option.bind_some, osum]
theorem iter_more {σ ρ : Type} {body : σ → Option (σ ⊕ ρ)} : ∀ {n m : Nat} {s : σ} {r : ρ}, iter body n s = some r → n ≤ m → iter body m s = some r
  | 0, _, _, _, h, _ => by cases h
  | n + 1, 0, _, _, _, hm => by omega
  | n + 1, m + 1, s, r, h, hm => by
    simp only [iter] at h ⊢
    cases hb : body s with
    | none => rw [hb] at h; cases h
    | some q =>
      rw [hb] at h
      cases q with
      | inl s' => exact iter_more (n := n) (m := m) h (by omega)
      | inr r' => exact h
theorem getI_nat {α : Type} (xs : List α) (k : Nat) : getI xs (k : Int) = xs[k]? := by simp [getI]
theorem getI_some {α : Type} {xs : List α} {k : Nat} (h : k < xs.length) : getI xs (k : Int) = some xs[k] := by rw [getI_nat]; simp [h]
theorem w64_eq {n : Int} (h1 : -9223372036854775808 ≤ n) (h2 : n ≤ 9223372036854775807) : w64 n = n := w64_of h1 h2
theorem w64_nat {k : Nat} (h : k < 9223372036854775807) : w64 ((k : Int) + 1) = ((k + 1 : Nat) : Int) := by rw [w64_eq (by omega) (by omega)]; omega
theorem appO_eq {α : Type} {xs ys : List α} (h : xs.length + ys.length ≤ 1000000) : appO xs ys = some (xs ++ ys) := by simp [appO, h]
theorem guardO_eq {p : Prop} [Decidable p] (h : p) : guardO p = some () := by simp [guardO, h]
def each {α σ ρ : Type} (step : σ → α → σ ⊕ ρ) (fin : σ → ρ) : List α → σ → ρ
  | [], s => fin s
  | x :: r, s => match step s x with
    | .inl s' => each step fin r s'
    | .inr o => o
def pickO {τ ρ : Type} (o : Option ρ) (t : τ) : τ ⊕ ρ := match o with
  | none => .inl t
  | some r => .inr r
@[simp] theorem pickO_none {τ ρ : Type} (t : τ) : pickO (none : Option ρ) t = .inl t := rfl
@[simp] theorem pickO_some {τ ρ : Type} (r : ρ) (t : τ) : pickO (some r) t = .inr r := rfl
def mapL {σ τ ρ : Type} (f : σ → τ) (q : σ ⊕ ρ) : τ ⊕ ρ := match q with
  | .inl s => .inl (f s)
  | .inr r => .inr r
@[simp] theorem mapL_inl {σ τ ρ : Type} (f : σ → τ) (s : σ) : mapL f (.inl s : σ ⊕ ρ) = .inl (f s) := rfl
@[simp] theorem mapL_inr {σ τ ρ : Type} (f : σ → τ) (r : ρ) : mapL f (.inr r : σ ⊕ ρ) = .inr r := rfl
theorem iter_each {α σ τ ρ : Type} (xs : List α) (mk : σ → Int → τ) {body : τ → Option (τ ⊕ ρ)} (step : σ → α → σ ⊕ ρ) (fin : σ → ρ) (I : σ → Nat → Prop) (hn : xs.length < 9223372036854775807)
    (hb : ∀ (k : Nat) (x : α) (s : σ), xs[k]? = some x → I s k → body (mk s (k : Int)) = some (mapL (fun s' => mk s' (w64 ((k : Int) + 1))) (step s x)) ∧ ∀ s', step s x = .inl s' → I s' (k + 1))
    (hf : ∀ s, I s xs.length → body (mk s (xs.length : Int)) = some (.inr (fin s))) : ∀ (n : Nat) (s : σ), I s 0 → xs.length < n → iter body n (mk s 0) = some (each step fin xs s) := by
  intro n s hs hlt
  refine iter_rel (fun m t o => ∃ (s : σ) (k : Nat), t = mk s k ∧ m = xs.length - k ∧ k ≤ xs.length ∧ I s k ∧ each step fin (xs.drop k) s = o) ?_ n xs.length (mk s 0) _ ⟨s, 0, rfl, by simp, Nat.zero_le _, hs, by simp⟩ hlt
  rintro m _ o ⟨s, k, rfl, rfl, hk, hI, ho⟩
  rcases Nat.lt_or_ge k xs.length with hlt | hge
  · obtain ⟨h1, h2⟩ := hb k xs[k] s (by simp [hlt]) hI
    rw [List.drop_eq_getElem_cons hlt, each] at ho
    cases hs : step s xs[k] with
    | inl s' =>
      rw [hs] at h1 ho
      exact .inl ⟨_, xs.length - (k + 1), h1, by omega, s', k + 1, by rw [w64_nat (by omega)], rfl, hlt, h2 s' hs, ho⟩
    | inr o' =>
      rw [hs] at h1 ho
      exact .inr (by rw [h1]; exact congrArg (fun z => some (Sum.inr z)) ho)
  · obtain rfl : k = xs.length := by omega
    rw [List.drop_length] at ho
    exact .inr (by rw [hf s hI]; exact congrArg (fun z => some (Sum.inr z)) ho)
def first {α ρ : Type} (step : α → Option ρ) (fin : ρ) : List α → ρ
  | [] => fin
  | x :: r => match step x with
    | none => first step fin r
    | some o => o
theorem iter_first {α ρ : Type} (xs : List α) {body : Int → Option (Int ⊕ ρ)} (step : α → Option ρ) (fin : ρ) (hn : xs.length < 9223372036854775807)
    (hb : ∀ (k : Nat) (x : α), xs[k]? = some x → body (k : Int) = some (pickO (step x) (w64 ((k : Int) + 1))))
    (hf : body (xs.length : Int) = some (.inr fin)) : ∀ (n : Nat), xs.length < n → iter body n 0 = some (first step fin xs) := by
  intro n hlt
  have := iter_each xs (fun (_ : Unit) k => k) (body := body) (fun _ x => pickO (step x) ()) (fun _ => fin) (fun _ _ => True) hn
    (fun k x s hx _ => ⟨by rw [hb k x hx]; cases step x <;> rfl, fun _ _ => trivial⟩) (fun _ _ => hf) n () trivial hlt
  rw [this]
  congr 1
  clear this hb hf hlt hn
  induction xs with
  | nil => rfl
  | cons x r ih =>
    simp only [each, first]
    cases step x <;> simp [ih]
end Go.Proofs.YthpgjbbjpfiniaaGreat
