/- The words of specifications, and what the printed walks lean on. Nothing of the program is named here. -/
import Derived.Test.YthpgjbbjpfiniaaGreatKt
namespace Go.Proofs.YthpgjbbjpfiniaaGreat
open Go.RowKit
set_option linter.unusedSimpArgs false
set_option linter.unusedVariables false
theorem obind {α β : Type} {m : Option α} {f : α → Option β} {r : β} (h : m.bind f = some r) : ∃ x, m = some x ∧ f x = some r := by
  cases m with
  | none => cases h
  | some x => exact ⟨x, rfl, h⟩
def osum {α β γ : Type} (o : α ⊕ β) (f : α → γ) (g : β → γ) : γ := match o with
  | .inl a => f a
  | .inr b => g b
theorem osum_l {α β γ : Type} {a : α} {f : α → γ} {g : β → γ} {r : γ} (h : osum (.inl a) f g = r) : f a = r := h
theorem osum_r {α β γ : Type} {b : β} {f : α → γ} {g : β → γ} {r : γ} (h : osum (.inr b) f g = r) : g b = r := h
def oun {α β γ : Type} (j : α × β) (f : α → β → γ) : γ := f j.1 j.2
abbrev ounP {α β : Type} (j : α × β) (f : α → β → Prop) : Prop := f j.1 j.2
theorem oun_mk {α β γ : Type} {a : α} {b : β} {f : α → β → γ} {r : γ} (h : oun (a, b) f = r) : f a b = r := h
def iter {σ ρ : Type} (body : σ → Option (σ ⊕ ρ)) : Nat → σ → Option ρ
  | 0, _ => none
  | n + 1, s => (body s).bind fun q => osum q (fun s' => iter body n s') fun r => some r
def getI {α : Type} (xs : List α) (k : Int) : Option α := if 0 ≤ k then xs[k.toNat]? else none
def setI {α : Type} (xs : List α) (k : Int) (x : α) : List α := xs.set k.toNat x
theorem length_setI {α : Type} (xs : List α) (k : Int) (x : α) : (setI xs k x).length = xs.length := by simp [setI]
def appO {α : Type} (xs ys : List α) : Option (List α) := if xs.length + ys.length ≤ 1000000 then some (xs ++ ys) else none
def guardO (p : Prop) [Decidable p] : Option Unit := if p then some () else none
theorem guardO_some {p : Prop} [Decidable p] {u : Unit} (h : guardO p = some u) : p := by
  unfold guardO at h; split at h
  · assumption
  · cases h
theorem getI_lt {α : Type} {xs : List α} {k : Int} {x : α} (h : getI xs k = some x) : 0 ≤ k ∧ k < (xs.length : Nat) ∧ xs[k.toNat]? = some x := by
  unfold getI at h
  split at h
  · refine ⟨by omega, ?_, h⟩
    rcases Nat.lt_or_ge k.toNat xs.length with h1 | h1
    · omega
    · rw [List.getElem?_eq_none h1] at h; cases h
  · cases h
theorem appO_some {α : Type} {xs ys zs : List α} (h : appO xs ys = some zs) : xs.length + ys.length ≤ 1000000 ∧ zs = xs ++ ys := by
  unfold appO at h
  split at h
  · injection h with h; exact ⟨by assumption, h.symm⟩
  · cases h
def mget {β : Type} (k : Int) : List (Int × β) → Option β
  | [] => none
  | p :: r => if p.1 = k then some p.2 else mget k r
def mput {β : Type} (k : Int) (v : β) : List (Int × β) → List (Int × β)
  | [] => [(k, v)]
  | p :: r => if p.1 = k then (k, v) :: r else p :: mput k v r
structure Rp (α : Type) where
  sz : Nat
  rep : Gh → α → List Value → Prop
  len : ∀ {μ x cs}, rep μ x cs → cs.length = sz
  mono : ∀ {μ μ' : Gh} {x cs}, μ.le μ' → rep μ x cs → rep μ' x cs
  one : ∀ {μ x cs}, rep μ x cs → ∀ u ∈ cs, u.oneCell' = true
def rI (k : IntKind) : Rp Int := ⟨1, fun _ n cs => cs = [.int k n], fun h => by rw [h]; rfl, fun _ h => h, fun h u hu => by subst h; simp only [List.mem_singleton] at hu; subst hu; rfl⟩
def rInt : Rp Int := rI .i64
def rStr : Rp ByteArray := ⟨1, fun _ n cs => cs = [.string n], fun h => by rw [h]; rfl, fun _ h => h, fun h u hu => by subst h; simp only [List.mem_singleton] at hu; subst hu; rfl⟩
def rFlat {α : Type} (sz : Nat) (enc : α → List Value) (hl : ∀ x, (enc x).length = sz) (h1 : ∀ x, ∀ u ∈ enc x, u.oneCell' = true) : Rp α :=
  ⟨sz, fun _ x cs => cs = enc x, fun h => by rw [h]; exact hl _, fun _ h => h, fun h u hu => by subst h; exact h1 _ u hu⟩
def wfI (k : IntKind) (n : Int) : Prop := (Lit.int k n).wf = true
def All2 {α β : Type} (R : α → β → Prop) (xs : List α) (ys : List β) : Prop := xs.length = ys.length ∧ ∀ (i : Nat) (x : α) (y : β), xs[i]? = some x → ys[i]? = some y → R x y
section
variable {α β : Type} {R : α → β → Prop} {xs : List α} {ys : List β}
theorem All2.nil : All2 R [] [] := ⟨rfl, fun i x y h => by simp at h⟩
theorem All2.mono {R' : α → β → Prop} (h : All2 R xs ys) (hr : ∀ x y, R x y → R' x y) : All2 R' xs ys := ⟨h.1, fun i x y h1 h2 => hr _ _ (h.2 i x y h1 h2)⟩
theorem All2.get (h : All2 R xs ys) {i : Nat} {x : α} (hi : xs[i]? = some x) : ∃ y, ys[i]? = some y ∧ R x y := by
  have hlt : i < xs.length := by
    rcases Nat.lt_or_ge i xs.length with h | h
    · exact h
    · rw [List.getElem?_eq_none h] at hi; cases hi
  have hy : ys[i]? = some (ys[i]'(by rw [← h.1]; exact hlt)) := by simp
  exact ⟨_, hy, h.2 i x _ hi hy⟩
theorem All2.get' (h : All2 R xs ys) {y : β} (hy : y ∈ ys) : ∃ x, R x y := by
  obtain ⟨i, hi⟩ := List.getElem?_of_mem hy
  have hlt : i < ys.length := by
    rcases Nat.lt_or_ge i ys.length with h | h
    · exact h
    · rw [List.getElem?_eq_none h] at hi; cases hi
  exact ⟨_, h.2 i (xs[i]'(by rw [h.1]; exact hlt)) y (by simp) hi⟩
theorem All2.append {us : List α} {vs : List β} (h : All2 R xs ys) (k : All2 R us vs) : All2 R (xs ++ us) (ys ++ vs) := by
  refine ⟨by simp [h.1, k.1], fun i x y h1 h2 => ?_⟩
  rcases Nat.lt_or_ge i xs.length with hi | hi
  · rw [List.getElem?_append_left hi] at h1
    rw [List.getElem?_append_left (by rw [← h.1]; exact hi)] at h2
    exact h.2 i x y h1 h2
  · rw [List.getElem?_append_right hi] at h1
    rw [List.getElem?_append_right (by rw [← h.1]; exact hi), ← h.1] at h2
    exact k.2 _ x y h1 h2
theorem All2.cons {x : α} {y : β} (h : R x y) (k : All2 R xs ys) : All2 R (x :: xs) (y :: ys) := by
  refine ⟨by simp [k.1], fun i a b h1 h2 => ?_⟩
  cases i with
  | zero => simp at h1 h2; subst h1 h2; exact h
  | succ i => exact k.2 i a b (by simpa using h1) (by simpa using h2)
theorem All2.set (h : All2 R xs ys) (i : Nat) {x : α} {y : β} (hr : R x y) : All2 R (xs.set i x) (ys.set i y) := by
  refine ⟨by simp [h.1], fun j a b h1 h2 => ?_⟩
  rw [List.getElem?_set] at h1 h2
  by_cases hij : i = j
  · subst hij
    by_cases hl : i < xs.length
    · have hl2 : i < ys.length := by rw [← h.1]; exact hl
      simp [hl] at h1
      simp [hl2] at h2
      subst h1 h2; exact hr
    · simp [hl] at h1
  · rw [if_neg hij] at h1 h2
    exact h.2 j a b h1 h2
theorem All2.take (h : All2 R xs ys) (n : Nat) : All2 R (xs.take n) (ys.take n) := by
  refine ⟨by simp [h.1], fun i x y h1 h2 => ?_⟩
  rw [List.getElem?_take] at h1 h2
  split at h1
  · rename_i hlt; rw [if_pos hlt] at h2; exact h.2 i x y h1 h2
  · cases h1
theorem All2.drop (h : All2 R xs ys) (n : Nat) : All2 R (xs.drop n) (ys.drop n) := by
  refine ⟨by simp [h.1], fun i x y h1 h2 => ?_⟩
  rw [List.getElem?_drop] at h1 h2
  exact h.2 _ x y h1 h2
end
section
variable {α : Type} {r : Rp α} {e : TypeId} {μ μ' : Gh} {L : List Seg} {A : Option Addr} {n c : Nat} {v : Value} {xs : List α} {ch : Seg} {k : Int} {x : α}
def ArrR (r : Rp α) (μ : Gh) (A : Option Addr) (xs : List α) : Prop := ∃ css, Arr μ A r.sz css ∧ All2 (r.rep μ) xs css
def Rds (r : Rp α) (μ : Gh) (L : List Seg) (A : Option Addr) (xs : List α) : Prop := ∃ css, Rd μ L A r.sz css ∧ All2 (r.rep μ) xs css
def Own (r : Rp α) (e : TypeId) (μ : Gh) (v : Value) (xs : List α) (ch : Seg) : Prop := ∃ css, OwnSl e r.sz v css ch ∧ All2 (r.rep μ) xs css
theorem ArrR.mono (h : ArrR r μ A xs) (hm : μ.le μ') : ArrR r μ' A xs := by
  obtain ⟨css, h1, h2⟩ := h; exact ⟨css, h1.mono hm, h2.mono fun _ _ => r.mono hm⟩
theorem ArrR.nil : ArrR r μ A [] := ⟨[], Arr.nil, All2.nil⟩
theorem ArrR.rds (h : ArrR r μ A xs) (L : List Seg) : Rds r μ L A xs := by
  obtain ⟨css, h1, h2⟩ := h; exact ⟨css, h1.rd, h2⟩
theorem Rds.mono (h : Rds r μ L A xs) (hm : μ.le μ') : Rds r μ' L A xs := by
  obtain ⟨css, h1, h2⟩ := h; exact ⟨css, h1.mono hm fun _ h => h, h2.mono fun _ _ => r.mono hm⟩
theorem Rds.push {s : Seg} (h : Rds r μ L A xs) : Rds r μ (s :: L) A xs := by
  obtain ⟨css, h1, h2⟩ := h; exact ⟨css, h1.cons, h2⟩
theorem Rds.nil : Rds r μ L A [] := ⟨[], Rd.nil, All2.nil⟩
theorem Own.mono (h : Own r e μ v xs ch) (hm : μ.le μ') : Own r e μ' v xs ch := by
  obtain ⟨css, h1, h2⟩ := h; exact ⟨css, h1, h2.mono fun _ _ => r.mono hm⟩
theorem Own.nil : Own r e μ (.slice none 0 0) [] [] := ⟨[], OwnSl.nil, All2.nil⟩
theorem Own.form (h : Own r e μ v xs ch) : ∃ A c, v = .slice A xs.length c ∧ xs.length ≤ c ∧ c ≤ maxLen := by
  obtain ⟨css, h1, h2⟩ := h
  obtain ⟨A, c, h3, h4, h5⟩ := h1.form
  rw [← h2.1] at h3 h4
  exact ⟨A, c, h3, h4, h5⟩
theorem Own.rds (h : Own r e μ (.slice A n c) xs ch) (i : Nat) (hi : L[i]? = some ch) : Rds r μ L A xs := by
  obtain ⟨css, h1, h2⟩ := h
  exact ⟨css, h1.rd i hi, h2⟩
theorem Own.le (h : Own r e μ v xs ch) : xs.length ≤ 9223372036854775807 := by
  obtain ⟨A, c, _, h1, h2⟩ := h.form
  exact Nat.le_trans h1 h2
theorem lenLit {α : Type} {xs : List α} {c : Nat} (h : xs.length = c) (hb : Nat.ble c 1000000 = true) : xs.length ≤ c ∧ c ≤ maxLen := by
  have := Nat.le_of_ble_eq_true hb
  exact ⟨by omega, by unfold maxLen; omega⟩
theorem Own.lenOk (h : Own r e μ (.slice A n c) xs ch) : xs.length ≤ c ∧ c ≤ maxLen := by
  obtain ⟨A', c', h1, h2, h3⟩ := h.form
  injection h1 with _ _ h1
  subst h1
  exact ⟨h2, h3⟩
theorem Cells.sub {a : Addr} {vs us : List Value} (h : Cells μ L a vs) (o : Nat) (hu : (vs.drop o).take us.length = us) : Cells μ L (a.add o) us := by
  intro j v hj
  rw [Addr.add_add']
  refine h _ _ ?_
  rw [← hu, List.getElem?_take] at hj
  split at hj
  · rwa [List.getElem?_drop] at hj
  · cases hj
theorem ObjAt.push {s : Seg} {b : Nat} {o : Obj} (h : ObjAt μ L b o) : ObjAt μ (s :: L) b o := ObjAt.mono h (Gh.le.refl _) (by intro c hc; simp only [List.flatten_cons, List.mem_append]; exact .inr hc)
theorem Rds.getI (h : Rds r μ L A xs) (hx : Go.Proofs.YthpgjbbjpfiniaaGreat.getI xs k = some x) : ∃ a cs, A = some a ∧ r.rep μ x cs ∧ cs.length = r.sz ∧ Cells μ L (a.add (k.toNat * r.sz)) cs := by
  obtain ⟨css, h1, h2⟩ := h
  obtain ⟨_, _, h3⟩ := getI_lt hx
  obtain ⟨cs, h4, h5⟩ := h2.get h3
  obtain ⟨a, h6, h7⟩ := h1.at_ h4
  exact ⟨a, cs, h6, h5, r.len h5, h7⟩
theorem Cells.push {a : Addr} {vs : List Value} {s : Seg} (h : Cells μ L a vs) : Cells μ (s :: L) a vs := h.mono (Gh.le.refl _) (by intro c hc; simp only [List.flatten_cons, List.mem_append]; exact .inr hc)
theorem Cells.any {a : Addr} {vs : List Value} (h : Cells μ [] a vs) (L : List Seg) : Cells μ L a vs := h.mono (Gh.le.refl _) (by simp)
theorem Cells.lift {a : Addr} {vs : List Value} (h : Cells μ L a vs) (hm : μ.le μ') : Cells μ' L a vs := h.mono hm fun _ h => h
def rList (r : Rp α) : Rp (List α) where
  sz := 1
  rep μ xs cs := ∃ A c, cs = [.slice A xs.length c] ∧ xs.length ≤ c ∧ c ≤ maxLen ∧ ArrR r μ A xs
  len := by rintro μ x cs ⟨A, c, rfl, _⟩; rfl
  mono := by rintro μ μ' x cs hm ⟨A, c, h1, h2, h3, h4⟩; exact ⟨A, c, h1, h2, h3, h4.mono hm⟩
  one := by rintro μ x cs ⟨A, c, rfl, _⟩ u hu; simp only [List.mem_singleton] at hu; subst hu; rfl
theorem Rds.lit (i : Nat) {g : Nat} {cs : List Value} {f : Nat × Nat} {css : List (List Value)} (hi : L[i]? = some [(g, .cells cs.toArray e f)]) (hc : cs = css.flatten) (ha : All2 (r.rep μ) xs css) : Rds r μ L (some ⟨g, 0, none⟩) xs :=
  ⟨css, Rd.chunk i hi (fun c hc => by obtain ⟨x, hx⟩ := ha.get' hc; exact r.len hx) hc, ha⟩
theorem Own.lit {g : Nat} {cs : List Value} {css : List (List Value)} (hc : cs = css.flatten) (ha : All2 (r.rep μ) xs css) (hn : Nat.ble xs.length 1000 = true) (hl : xs.length = n) : Own r e μ (.slice (some ⟨g, 0, none⟩) n n) xs [(g, .cells cs.toArray e (0, 0))] := by
  have h1 : ∀ c ∈ css, c.length = r.sz := fun c hc => by obtain ⟨x, hx⟩ := ha.get' hc; exact r.len hx
  have h2 := Nat.le_of_ble_eq_true hn
  refine ⟨css, ⟨h1, .inr ⟨g, n, cs.toArray, by rw [← ha.1, hl], rfl, by rw [← ha.1, hl]; exact Nat.le_refl _, by unfold maxLen; omega, ?_, ?_⟩⟩, ha⟩
  · rw [List.size_toArray, hc, length_flat h1, ← ha.1, hl]
  · rw [List.toList_toArray, hc, ← length_flat h1, List.take_length]
theorem Own.empty {g : Nat} : Own r e μ (.slice (some ⟨g, 0, none⟩) 0 0) ([] : List α) [(g, .cells #[] e (0, 0))] := Own.lit (css := []) rfl All2.nil rfl rfl
theorem Upd.frzOwn {K : Gh → List Seg → Prop} (i : Nat) (hi : L[i]? = some ch) (h : Own r e μ (.slice A n c) xs ch) (hk : ∀ μ', μ.le μ' → ArrR r μ' A xs → Upd μ' (L.set i []) K) : Upd μ L K := by
  obtain ⟨css, h1, h2⟩ := h
  refine Upd.arr i hi h1 fun A' c' μ' hv _ _ hm ha => ?_
  injection hv with hv _ _
  subst hv
  exact hk μ' hm ⟨css, ha, h2.mono fun _ _ => r.mono hm⟩
theorem WP.frzOwn {P : Program} {N : NN} {cd : Code} {K : Kont} {B : Nat → Kont} {Rk : Kont} {fr : Fr} (i : Nat) (hi : L[i]? = some ch) (h : Own r e μ (.slice A n c) xs ch)
    (hk : ∀ μ', μ.le μ' → ArrR r μ' A xs → WP P N cd K B Rk fr μ' (L.set i [])) : WP P N cd K B Rk fr μ L :=
  WP.upd (Upd.frzOwn i hi h fun μ' hm ha => Upd.done (hk μ' hm ha))
theorem Fn.pre {P : Program} {f : FuncId} {args : List Value} {R : Value → Gh → List Seg → Prop} {fn : Func} (hf : P.funcs[f]? = some fn) (hnm : (fn.name == "runtime.NumGoroutine") = false) (hb : fn.body.isNone = false)
    (h : Upd μ L fun μ' L' => Fn P f args μ' L' R) : Fn P f args μ L R := by
  refine .inl ⟨⟨fn, hf, hnm, hb⟩, fun w hw => ?_⟩
  obtain ⟨μ1, L1, h1, h2, h3⟩ := h w hw
  rcases h3 with ⟨_, h3⟩ | ⟨fn', _, hf', _, hb', _⟩
  · exact (h3 w h2).mono fun _ w' ⟨v, μ', L', he, hm, hi, hR⟩ => ⟨v, μ', L', he, h1.trans hm, hi, hR⟩
  · rw [hf] at hf'
    injection hf' with hf'
    subst hf'
    rw [hb] at hb'; cases hb'
end
def selS : List (Option Nat) → Nat → List Seg → List Seg
  | [], k, L => L.drop k
  | none :: r, k, L => [] :: selS r k L
  | some i :: r, k, L => (L[i]?.getD []) :: selS r k (L.set i [])
def SegSub (L2 L : List Seg) : Prop := ∀ w μ, Inv w μ L → Inv w μ L2
theorem SegSub.sel (L : List Seg) : ∀ (idx : List (Option Nat)) (k : Nat), SegSub (selS idx k L) L := by
  intro idx
  induction idx generalizing L with
  | nil => exact fun k w μ h => h.sub (by
      simp only [selS]
      conv => rhs; rw [← List.take_append_drop k L, List.flatten_append]
      exact List.sublist_append_right _ _)
  | cons o r ih =>
    intro k w μ h
    cases o with
    | none =>
      have := ih L k w μ h
      exact this.perm (by simp [selS])
    | some i =>
      simp only [selS]
      cases hi : L[i]? with
      | none =>
        have hs : L.set i [] = L := by
          rw [List.set_eq_of_length_le]
          rcases Nat.lt_or_ge i L.length with h | h
          · rw [List.getElem?_eq_getElem h] at hi; cases hi
          · exact h
        rw [hs]
        have := ih L k w μ h
        exact this.perm (by simp)
      | some s =>
        have hp := h.perm (set_nil_perm hi)
        have key : ∀ (idx : List (Option Nat)) (L : List Seg), ∃ M, L.flatten.Perm ((selS idx k L).flatten ++ M) := by
          intro idx
          induction idx with
          | nil =>
            intro L
            refine ⟨(L.take k).flatten, ?_⟩
            simp only [selS]
            conv => lhs; rw [← List.take_append_drop k L, List.flatten_append]
            exact List.perm_append_comm
          | cons o r ih2 =>
            intro L
            cases o with
            | none =>
              obtain ⟨M, hM⟩ := ih2 L
              exact ⟨M, by simpa [selS] using hM⟩
            | some j =>
              simp only [selS]
              cases hj : L[j]? with
              | none =>
                have hs : L.set j [] = L := by
                  rw [List.set_eq_of_length_le]
                  rcases Nat.lt_or_ge j L.length with h | h
                  · rw [List.getElem?_eq_getElem h] at hj; cases hj
                  · exact h
                obtain ⟨M, hM⟩ := ih2 L
                exact ⟨M, by rw [hs]; simpa using hM⟩
              | some t =>
                obtain ⟨M, hM⟩ := ih2 (L.set j [])
                refine ⟨M, (set_nil_perm hj).trans ?_⟩
                simp only [List.flatten_cons, Option.getD_some, List.append_assoc]
                exact hM.append_left t
        obtain ⟨M, hM⟩ := key r (L.set i [])
        have h2 : (s :: L.set i []).flatten.Perm ((s :: selS r k (L.set i [])).flatten ++ M) := by
          simp only [List.flatten_cons, List.append_assoc]
          exact hM.append_left s
        refine (hp.perm (L' := [(s :: selS r k (L.set i [])).flatten, M]) (by simpa using h2)).sub ?_
        simp only [Option.getD_some, List.flatten_cons, List.flatten_nil, List.append_nil, List.append_assoc]
        rw [← List.append_assoc]
        exact List.sublist_append_left _ _
def SubFr (F fr : Fr) : Prop := ∀ t v, look F t = some v → look fr t = some v
theorem SubFr.trans {F fr fr2 : Fr} (h : SubFr F fr) (h2 : SubFr fr fr2) : SubFr F fr2 := fun t v hv => h2 t v (h t v hv)
theorem SegSub.trans {A M B : List Seg} (h : SegSub A M) (h2 : SegSub M B) : SegSub A B := fun w μ hw => h w μ (h2 w μ hw)
theorem SubFr.of {F fr : Fr} (h : SubF F fr) : SubFr F fr := h.look
section
variable {P : Program} {T : TT} {N : NN} {K : Kont} {B : Nat → Kont} {R : Kont} {fr : Fr} {μ : Gh} {L : List Seg}
theorem WP.at {c : Code} {F : Fr} {L2 : List Seg} (hF : SubFr F fr) (hL : SegSub L2 L) (h : WP P N c K B R F μ L2) : WP P N c K B R fr μ L := fun a w ha hw => h a w (ha.sub hF) (hL w μ hw)
theorem WP.cut {x y : Code} (M : Kont) (h1 : WP P N x M B R fr μ L) (h2 : ∀ fr' μ' L', μ.le μ' → M fr' μ' L' → WP P N y K B R fr' μ' L') : WP P N (.seq x y) K B R fr μ L :=
  WP.seq (h1.mono (fun fr' μ' L' hm h => h2 fr' μ' L' hm h) (fun _ _ _ _ _ h => h) fun _ _ _ _ h => h)
theorem WP.cutK {x : Code} (M : Kont) (h1 : WP P N x M B R fr μ L) (h2 : ∀ fr' μ' L', μ.le μ' → M fr' μ' L' → K fr' μ' L') : WP P N x K B R fr μ L :=
  h1.mono (fun fr' μ' L' hm h => h2 fr' μ' L' hm h) (fun _ _ _ _ _ h => h) fun _ _ _ _ h => h
theorem WP.iter {σ ρ : Type} {body : σ → Option (σ ⊕ ρ)} {n : Nat} {s0 : σ} {o : ρ} {c : Code} (h : Go.Proofs.YthpgjbbjpfiniaaGreat.iter body n s0 = some o) (I : σ → Fr → Gh → List Seg → Prop) (h0 : I s0 fr μ L)
    (round : ∀ s q fr' μ' L', μ.le μ' → I s fr' μ' L' → body s = some q → (∀ r, q = .inr r → r = o) → WP P N c (fun fr2 μ2 L2 => ∃ s', q = .inl s' ∧ I s' fr2 μ2 L2) B R fr' μ' L') : WP P N (.loop c) K B R fr μ L := by
  refine WP.loop (fun n fr μ L => ∃ s, Go.Proofs.YthpgjbbjpfiniaaGreat.iter body n s = some o ∧ I s fr μ L) (n := n) ⟨s0, h, h0⟩ ?_
  rintro n fr1 μ1 L1 hm ⟨s, h1, h2⟩
  cases n with
  | zero => cases h1
  | succ n =>
    obtain ⟨q, hq, h3⟩ := obind h1
    refine (round s q fr1 μ1 L1 hm h2 hq (fun r e => by subst e; exact Option.some.inj h3)).mono (fun fr2 μ2 L2 _ ⟨s', e, h4⟩ => ⟨n, Nat.lt_succ_self n, s', by subst e; exact h3, h4⟩) (fun _ _ _ _ _ h => h) (fun _ _ _ _ h => h)
theorem ptr_inj {g g' : Nat} (h : Value.pointer (some ⟨g, 0, none⟩) = .pointer (some ⟨g', 0, none⟩)) : g = g' := by
  injection h with h; injection h with h; injection h with h
theorem WP.seg {c : Code} {L2 : List Seg} (hL : SegSub L2 L) (h : WP P N c K B R fr μ L2) : WP P N c K B R fr μ L := fun a w ha hw => h a w ha (hL w μ hw)
theorem Upd.seg {L2 : List Seg} {k : Gh → List Seg → Prop} (hL : SegSub L2 L) (h : Upd μ L2 k) : Upd μ L k := fun w hw => h w (hL w μ hw)
theorem Fn.seg {f : FuncId} {args : List Value} {L2 : List Seg} {R : Value → Gh → List Seg → Prop} (hL : SegSub L2 L) (h : Fn P f args μ L2 R) : Fn P f args μ L R := by
  rcases h with ⟨h1, h2⟩ | ⟨fn, e, h1, h2, h3, h4, h5, h6⟩
  · exact .inl ⟨h1, fun w hw => h2 w (hL w μ hw)⟩
  · exact .inr ⟨fn, e, h1, h2, h3, h4, h5, fun w hw => h6 w (hL w μ hw)⟩
theorem Upd.selS {k : Gh → List Seg → Prop} (idx : List (Option Nat)) (n : Nat) (h : Upd μ (Go.Proofs.YthpgjbbjpfiniaaGreat.selS idx n L) k) : Upd μ L k := fun w hw => h w (SegSub.sel L idx n w μ hw)
theorem Kept.of {keep L : List Seg} (h : ∀ s ∈ keep, s ∈ L) : Kept keep L := fun c hc => by
  obtain ⟨s, h1, h2⟩ := List.mem_flatten.1 hc
  exact List.mem_flatten.2 ⟨s, h s h1, h2⟩
variable {k : Value → Prop}
section
variable {t yt : TypeId} {x y : Operand} {kd : IntKind} {a b : Int}
theorem R_eqlD (h : evV fr x = some (.int kd a)) (h2 : evV fr y = some (.int kd b)) (hk : k (.bool (decide (a = b)))) : vcR P T (.binOp .eql t x y yt) fr μ L k := R_eql h h2 (fun e => by rw [decide_eq_true e] at hk; exact hk) (fun e => by rw [decide_eq_false e] at hk; exact hk)
theorem R_neqD (h : evV fr x = some (.int kd a)) (h2 : evV fr y = some (.int kd b)) (hk : k (.bool (!decide (a = b)))) : vcR P T (.binOp .neq t x y yt) fr μ L k := R_neq h h2 (fun e => by rw [decide_eq_false e] at hk; exact hk) (fun e => by rw [decide_eq_true e] at hk; exact hk)
theorem R_lssD (h : evV fr x = some (.int kd a)) (h2 : evV fr y = some (.int kd b)) (hk : k (.bool (decide (a < b)))) : vcR P T (.binOp .lss t x y yt) fr μ L k := R_lss h h2 (fun e => by rw [decide_eq_true e] at hk; exact hk) (fun e => by rw [decide_eq_false e] at hk; exact hk)
theorem R_leqD (h : evV fr x = some (.int kd a)) (h2 : evV fr y = some (.int kd b)) (hk : k (.bool (decide (a ≤ b)))) : vcR P T (.binOp .leq t x y yt) fr μ L k := R_leq h h2 (fun e => by rw [decide_eq_true e] at hk; exact hk) (fun e => by rw [decide_eq_false e] at hk; exact hk)
theorem R_gtrD (h : evV fr x = some (.int kd a)) (h2 : evV fr y = some (.int kd b)) (hk : k (.bool (decide (b < a)))) : vcR P T (.binOp .gtr t x y yt) fr μ L k := R_gtr h h2 (fun e => by rw [decide_eq_true e] at hk; exact hk) (fun e => by rw [decide_eq_false e] at hk; exact hk)
theorem R_geqD (h : evV fr x = some (.int kd a)) (h2 : evV fr y = some (.int kd b)) (hk : k (.bool (decide (b ≤ a)))) : vcR P T (.binOp .geq t x y yt) fr μ L k := R_geq h h2 (fun e => by rw [decide_eq_true e] at hk; exact hk) (fun e => by rw [decide_eq_false e] at hk; exact hk)
theorem R_eqBD {i : TyI} {a b : Bool} (h : evV fr x = some (.bool a)) (h2 : evV fr y = some (.bool b)) (hT : T t = some i) (hf : isBl i.u = true) (hk : k (.bool (a == b))) : vcR P T (.binOp .eql t x y yt) fr μ L k :=
  R_eqB h h2 hT hf (fun e => by subst e; simpa using hk) (fun e => by have : (a == b) = false := by simpa using e
                                                                      rw [this] at hk; exact hk)
theorem R_neBD {i : TyI} {a b : Bool} (h : evV fr x = some (.bool a)) (h2 : evV fr y = some (.bool b)) (hT : T t = some i) (hf : isBl i.u = true) (hk : k (.bool (!(a == b)))) : vcR P T (.binOp .neq t x y yt) fr μ L k :=
  R_neB h h2 hT hf (fun e => by have : (a == b) = false := by simpa using e
                                rw [this] at hk; exact hk) (fun e => by subst e; simpa using hk)
theorem R_minI {args : Array Operand} {tys : Array TypeId} {kd kd' : IntKind} {x y : Int} (h : evVs fr args.toList = some [.int kd x, .int kd' y]) (hk : k (.int kd (min x y))) : vcR P T (.call ⟨.builtin .min, args, tys⟩) fr μ L k :=
  R_minE h (n := min x y) (by rw [Int.min_def]; split <;> split <;> omega) hk
theorem R_maxI {args : Array Operand} {tys : Array TypeId} {kd kd' : IntKind} {x y : Int} (h : evVs fr args.toList = some [.int kd x, .int kd' y]) (hk : k (.int kd (max x y))) : vcR P T (.call ⟨.builtin .max, args, tys⟩) fr μ L k :=
  R_maxE h (n := max x y) (by rw [Int.max_def]; split <;> split <;> omega) hk
end
theorem R_iaG {t e : TypeId} {x n : Operand} {A : Option Addr} {len c : Nat} {kd : IntKind} {ix : Int} {i j : TyI} {sz : Nat} {a : Addr} (h : evV fr x = some (.slice A len c)) (h2 : evV fr n = some (.int kd ix)) (hT : T t = some i) (hu : i.u = .slice e) (he : T e = some j) (hs : j.size = sz)
    (hb : 0 ≤ ix ∧ ix < (len : Nat)) (hA : A = some a) (hk : k (.pointer (some (a.add (ix.toNat * sz))))) : vcR P T (.indexAddr t x n) fr μ L k := R_ia h h2 hT hu he hs ⟨hb.1, hb.2, a, hA, hk⟩
end
section
variable {P : Program} {T : TT} {μ : Gh} {L : List Seg} {α : Type} {r : Rp α}
theorem sem_appR (hT : TOk P T) {t ty e : TypeId} {it ie : TyI} {k : Value → Gh → List Seg → Prop} (ht : T t = some it) (hu : it.u = .slice e) (he : T e = some ie) (hz : ie.zero.cells.size = ie.size) (hsz : 0 < ie.size) (hsr : ie.size = r.sz) (hby : Nat.ble ie.bytes 10000 = true)
    {v : Value} {xs ys zs : List α} {ch : Seg} (i : Nat) (hi : L[i]? = some ch) (hown : Own r e μ v xs ch) {A : Option Addr} {m c : Nat} (hm : ys.length = m) (hr : Rds r μ L A ys) (hz2 : appO xs ys = some zs)
    (hk : ∀ A' c' ch', Own r e μ (.slice A' zs.length c') zs ch' → k (.slice A' zs.length c') μ (L.set i ch')) : SemOk P (Builtin.append_ #[t, t] ty #[v, .slice A m c]) μ L k := by
  obtain ⟨css, h1, h2⟩ := hown
  obtain ⟨nss, h3, h4⟩ := hr
  obtain ⟨hb, rfl⟩ := appO_some hz2
  have hby := Nat.le_of_ble_eq_true hby
  rw [← hsr] at h1 h3
  have hlen : css.length + m ≤ 1000000 := by rw [← h2.1, ← hm]; exact hb
  refine sem_app hT ht hu he hz hsz i hi h1 (news := nss) (by rw [← h4.1, hm]) h3 (fun cs hc u hu => ?_) (by omega) ?_ fun v' ch' hv _ => ?_
  · obtain ⟨x, hx⟩ := h4.get' hc
    exact r.one hx u hu
  · exact Nat.le_trans (Nat.mul_le_mul hlen hby) (by decide)
  · rw [hsr] at hv
    have ho : Own r e μ v' (xs ++ ys) ch' := ⟨_, hv, h2.append h4⟩
    obtain ⟨A', c', rfl, _, _⟩ := ho.form
    exact hk A' c' ch' ho
theorem flat_set {sz : Nat} : ∀ {css : List (List Value)} {i o : Nat} {cs vs : List Value}, (∀ c ∈ css, c.length = sz) → css[i]? = some cs → o + vs.length ≤ sz → ∀ tl, setL (css.flatten ++ tl) (i * sz + o) vs = (css.set i (setL cs o vs)).flatten ++ tl
  | [], i, o, cs, vs, _, hi, _, tl => by simp at hi
  | c :: rs, 0, o, cs, vs, h, hi, hl, tl => by
    simp only [List.getElem?_cons_zero, Option.some.injEq] at hi
    subst hi
    have hc := h c (by simp)
    simp only [List.set_cons_zero, List.flatten_cons, Nat.zero_mul, Nat.zero_add, List.append_assoc]
    rw [setL_eq vs o (c ++ (rs.flatten ++ tl)) (by simp; omega), setL_eq vs o c (by omega)]
    rw [List.take_append_of_le_length (by omega), List.drop_append_of_le_length (by omega)]
    simp
  | c :: rs, i + 1, o, cs, vs, h, hi, hl, tl => by
    have hc := h c (by simp)
    have hi' : rs[i]? = some cs := by simpa using hi
    have hlt : i < rs.length := by
      rcases Nat.lt_or_ge i rs.length with h | h
      · exact h
      · rw [List.getElem?_eq_none h] at hi'; cases hi'
    have ih := flat_set (o := o) (vs := vs) (fun c hc => h c (by simp [hc])) hi' hl tl
    have hfl : rs.flatten.length = rs.length * sz := length_flat fun c hc => h c (by simp [hc])
    have hb : i * sz + sz ≤ rs.length * sz := by rw [← Nat.succ_mul]; exact Nat.mul_le_mul_right _ hlt
    have e : (i + 1) * sz + o = c.length + (i * sz + o) := by rw [hc, Nat.succ_mul]; omega
    simp only [List.set_cons_succ, List.flatten_cons, List.append_assoc]
    rw [← ih, e, setL_eq vs _ _ (by simp only [List.length_append]; omega), setL_eq vs (i * sz + o) _ (by simp only [List.length_append]; omega)]
    rw [List.take_append, List.drop_append]
    have e1 : c.length + (i * sz + o) - c.length = i * sz + o := by omega
    have e2 : c.length + (i * sz + o) + vs.length - c.length = i * sz + o + vs.length := by omega
    rw [e1, e2, List.take_of_length_le (by omega), List.drop_of_length_le (by omega)]
    simp
theorem Own.store {e : TypeId} {A : Option Addr} {n c : Nat} {xs : List α} {ch : Seg} {a : Addr} {kx : Int} {x x' : α} {vs : List Value} {o sz : Nat} {k : List Seg → Prop} (i : Nat) (hi : L[i]? = some ch) (h : Own r e μ (.slice A n c) xs ch) (hA : A = some a) (hx : getI xs kx = some x) (hsz : r.sz = sz) (hl : Nat.ble (o + vs.length) sz = true)
    (hc : ∀ y, r.rep μ x y → r.rep μ x' (setL y o vs)) (hk : ∀ ch', Own r e μ (.slice A n c) (setI xs kx x') ch' → k (L.set i ch')) : Ex (StAt L ((a.add (kx.toNat * sz)).add o) vs) k := by
  obtain ⟨css, h1, h2⟩ := h
  subst hsz
  obtain ⟨_, _, hxn⟩ := getI_lt hx
  obtain ⟨y, hy1, hy2⟩ := h2.get hxn
  have hr := hc y hy2
  obtain ⟨cs', hcs'⟩ : ∃ z, setL y o vs = z := ⟨_, rfl⟩
  rw [hcs'] at hr
  have hl := Nat.le_of_ble_eq_true hl
  rcases h1.2 with ⟨_, rfl, _⟩ | ⟨g, cap, cur, hv, rfl, q1, q2, q3, q4⟩
  · simp at hy1
  · injection hv with hv1 hv2 hv3
    subst hA
    injection hv1 with hv1
    subst hv1 hv2 hv3
    have hlt : kx.toNat < css.length := by
      rcases Nat.lt_or_ge kx.toNat css.length with h | h
      · exact h
      · rw [List.getElem?_eq_none h] at hy1; cases hy1
    have hcur : cur.toList = css.flatten ++ cur.toList.drop (css.length * r.sz) := by
      conv => lhs; rw [← List.take_append_drop (css.length * r.sz) cur.toList, q4]
    have hfl := length_flat h1.1
    have hb : kx.toNat * r.sz + r.sz ≤ css.length * r.sz := by rw [← Nat.succ_mul]; exact Nat.mul_le_mul_right _ hlt
    have hcl : css.length * r.sz ≤ cur.size := by rw [q3]; exact Nat.mul_le_mul_right _ q1
    have hst := flat_set (o := o) (vs := vs) h1.1 hy1 hl (cur.toList.drop (css.length * r.sz))
    rw [← hcur, hcs'] at hst
    rw [addr_add, addr_add, Nat.zero_add]
    have hsa := StAt.at (L := L) (g := g) (off := kx.toNat * r.sz + o) (l := cur.toList) (vs := vs) (e := e) i (by simpa using hi) hst (by simp only [Array.length_toList]; omega)
    refine Ex.mk _ hsa (hk _ ⟨css.set kx.toNat cs', ⟨?_, .inr ⟨g, c, _, by simp, rfl, by simpa using q1, q2, ?_, ?_⟩⟩, h2.set kx.toNat hr⟩)
    · intro d hd
      rcases List.mem_or_eq_of_mem_set hd with hd | rfl
      · exact h1.1 d hd
      · exact r.len hr
    · have : ∀ d ∈ css.set kx.toNat cs', d.length = r.sz := by
        intro d hd
        rcases List.mem_or_eq_of_mem_set hd with hd | rfl
        · exact h1.1 d hd
        · exact r.len hr
      simp only [List.size_toArray, List.length_append, length_flat this, List.length_set, List.length_drop, Array.length_toList]
      omega
    · have : ∀ d ∈ css.set kx.toNat cs', d.length = r.sz := by
        intro d hd
        rcases List.mem_or_eq_of_mem_set hd with hd | rfl
        · exact h1.1 d hd
        · exact r.len hr
      have hle := length_flat this
      simp only [List.length_set] at hle
      simp only [List.toList_toArray, List.length_set, ← hle, List.take_left]
def cloneO (xs : List α) : Option (List α) := if xs.length ≤ 1000000 then some xs else none
theorem cloneR {P : Program} {f : FuncId} {e : TypeId} {sz : Nat}
    (hC : ∀ {μ : Gh} {L : List Seg} {A : Option Addr} {n c : Nat} {css : List (List Value)} (_ : Rd μ L A sz css) (_ : css.length = n) (_ : ∀ cs ∈ css, ∀ u ∈ cs, u.oneCell' = true) (_ : n ≤ 1000000)
      {R : Value → Gh → List Seg → Prop} (_ : ∀ v ch, OwnSl e sz v css ch → R v μ (ch :: L)), Fn P f [.slice A n c] μ L R)
    (hsz : r.sz = sz) {A : Option Addr} {c n : Nat} {xs ys : List α} (hn : xs.length = n) (hr : Rds r μ L A xs) (hz : cloneO xs = some ys) {R : Value → Gh → List Seg → Prop}
    (hR : ∀ A' c' ch', Own r e μ (.slice A' ys.length c') ys ch' → R (.slice A' ys.length c') μ (ch' :: L)) : Fn P f [.slice A n c] μ L R := by
  subst hsz hn
  unfold cloneO at hz
  split at hz
  case isFalse => cases hz
  rename_i hb
  injection hz with hz
  subst hz
  obtain ⟨css, h1, h2⟩ := hr
  rw [h2.1] at hb ⊢
  refine hC h1 rfl (fun cs hc u hu => ?_) hb fun v ch hv => ?_
  · obtain ⟨x, hx⟩ := h2.get' hc
    exact r.one hx u hu
  · have ho : Own r e μ v xs ch := ⟨css, hv, h2⟩
    obtain ⟨A', c', rfl, _, _⟩ := ho.form
    exact hR A' c' ch ho
def MapB {β : Type} (enc : β → Value) (es : Array MapEntry) (c : Nat) (m : List (Int × β)) : Prop := MapR .i64 es c (m.map fun p => (p.1, enc p.2))
theorem mfind_map {β : Type} (enc : β → Value) (n : Int) : ∀ (m : List (Int × β)), mfind n (m.map fun p => (p.1, enc p.2)) = (mget n m).map enc
  | [] => rfl
  | p :: m => by
    simp only [List.map_cons, mfind, mget, mfind_map enc n m]
    split <;> rfl
theorem mset_map {β : Type} (enc : β → Value) (n : Int) (v : β) : ∀ (m : List (Int × β)), mset n (enc v) (m.map fun p => (p.1, enc p.2)) = (mput n v m).map fun p => (p.1, enc p.2)
  | [] => rfl
  | p :: m => by
    simp only [List.map_cons, mset, mput, mset_map enc n v m]
    split <;> rfl
section
variable {β : Type} {enc : β → Value} {es : Array MapEntry} {c : Nat} {m : List (Int × β)}
theorem MapB.nil : MapB enc #[] 0 [] := MapR.nil
theorem MapB.look (h : MapB enc es c m) {g : Nat} (ho : ObjAt μ L g (.map es c)) {z : Value} {zb : β} (hz : z = enc zb) (n : Int) :
    ∃ es c, ObjAt μ L g (.map es c) ∧ intKeys .i64 es.toList ∧ (enc ((mget n m).getD zb), (mget n m).isSome) = (match findI n es.toList with | some v => (v, true) | none => (z, false)) := by
  refine ⟨es, c, ho, h.keys, ?_⟩
  rw [h.find, mfind_map]
  cases mget n m <;> simp [hz]
theorem MapB.size (h : MapB enc es c m) : es.size = m.length := by rw [MapR.size h, List.length_map]
theorem semu_mapB (hT : TOk P T) {t kt et : TypeId} {it ik : TyI} (ht : T t = some it) (hu : it.u = .map kt et) (hkt : T kt = some ik) (hku : ik.u = .int .i64)
    (i : Nat) {g : Nat} {n : Int} {b : β} {v : Value} {k : Gh → List Seg → Prop} (hi : L[i]? = some [(g, .map es c)]) (hm : MapB enc es c m) (hv : v = enc b)
    (hk : ∀ es' c', MapB enc es' c' (mput n b m) → k μ (L.set i [(g, .map es' c')])) : SemU P (Instr.mapUpdate t (.map (some g)) (.int .i64 n) v) μ L k := by
  subst hv
  refine semu_mapSet hT ht hu hkt hku i 0 hi rfl hm fun es' c' hm' => ?_
  rw [mset_map] at hm'
  exact hk es' c' hm'
end
end
end Go.Proofs.YthpgjbbjpfiniaaGreat
