/- More words and rules: shifts, make. -/
import Derived.Test.YthpgjbbjpfiniaaGreatGa
import Derived.Laws.MakeOwn
import Derived.Laws.Entries
namespace Go.Proofs.YthpgjbbjpfiniaaGreat
open Go.RowKit
set_option linter.unusedSimpArgs false
set_option linter.unusedVariables false
section
variable {P : Program} {T : TT} {fr : Fr} {μ : Gh} {L : List Seg} {t yt : TypeId} {x y : Operand} {kd kd' : IntKind} {a b : Int} {k : Value → Prop}
theorem R_shlD (h : evV fr x = some (.int kd a)) (h2 : evV fr y = some (.int kd' b)) (hw : kd.bits = 64) (hg : 0 ≤ b ∧ b ≤ 64) (hk : k (.int kd (kd.wrap (a * 2 ^ b.toNat)))) : vcR P T (.binOp .shl t x y yt) fr μ L k :=
  R_shl h h2 (Ex.mk _ (fun w => by rw [shift_shl kd kd' a b hg.1 (by rw [hw]; exact hg.2)]; rfl) hk)
theorem R_shrD (h : evV fr x = some (.int kd a)) (h2 : evV fr y = some (.int kd' b)) (hw : kd.bits = 64) (hg : 0 ≤ b ∧ b ≤ 64) (hk : k (.int kd (a / 2 ^ b.toNat))) : vcR P T (.binOp .shr t x y yt) fr μ L k :=
  R_shr h h2 (Ex.mk _ (fun w => by rw [shift_shr kd kd' a b hg.1 (by rw [hw]; exact hg.2)]; rfl) hk)
end
section
variable {P : Program} {T : TT} {μ : Gh} {L : List Seg} {α : Type} {r : Rp α}
theorem made_zero (z : Array Value) (n : Nat) : madeCells z (n * z.size) = Builtin.zeroCells z n := rfl
theorem toList_zero (z : Array Value) (m : Nat) : (Builtin.zeroCells z m).toList = (List.replicate m z.toList).flatten := by
  have h1 := cyc_eq z m
  have h2 : ∀ (z : List Value) m, cyc z m = (List.replicate m z).flatten := by
    intro z m
    induction m with
    | zero => simp [cyc]
    | succ m ih => rw [cyc, ih, List.replicate_succ, List.flatten_cons]
  rw [show Builtin.zeroCells z m = (cyc z.toList m).toArray from h1, List.toList_toArray, h2]
def makeO {α : Type} (z : α) (n : Int) : Option (List α) := if 0 ≤ n ∧ n ≤ 1000000 then some (List.replicate n.toNat z) else none
theorem sem_mkO (hT : TOk P T) {t e : TypeId} {it ie : TyI} (ht : T t = some it) (hu : it.u = .slice e) (he : T e = some ie) {z : α} {zc : List Value} (hz : ie.zero.cells.toList = zc) (hs : ie.size = r.sz) (hrep : r.rep μ z zc) (hb : Nat.ble ie.bytes 100000 = true)
    {kl kc : IntKind} {n : Int} {xs : List α} (hn : makeO z n = some xs) {k : Value → Gh → List Seg → Prop}
    (hk : ∀ (A : Option Addr) (c : Nat) (ch : Seg), Own r e μ (.slice A xs.length c) xs ch → k (.slice A xs.length c) μ (ch :: L)) : SemOk P (Instr.makeSlice t (.int kl n) (.int kc n)) μ L k := by
  intro w hw
  unfold makeO at hn
  split at hn
  · rename_i hn2
    injection hn with hn
    subst hn
    obtain ⟨j, hj1, hj2, hj3, hj4⟩ := run_bytes hT he
    have hut := und_of hT ht hu (by simp)
    have hb := Nat.le_of_ble_eq_true hb
    have hsz : ie.zero.cells.size = ie.size := by
      have h1 := r.len hrep
      rw [← hz] at h1
      rw [hs, ← h1]; simp
    have hbm : (j.bytes : Int) * n ≤ 281474976710656 := by
      have : (j.bytes : Int) * n ≤ 100000 * 1000000 := by
        rw [hj2]
        exact Int.mul_le_mul (by omega) hn2.2 hn2.1 (by omega)
      omega
    have hrun := run_make (P := P) w t e j ie.zero hut hj1 hj4 kl kc n n hn2.1 (Int.le_refl _) hbm (by omega)
    have hlen : (List.replicate n.toNat z).length = n.toNat := List.length_replicate
    refine ⟨_, _, μ, _, hrun, Gh.le.refl _, hw.alloc _, ?_⟩
    have hO : Own r e μ (.slice (some ⟨w.heap.size, 0, none⟩) (List.replicate n.toNat z).length n.toNat) (List.replicate n.toNat z) [(w.heap.size, .cells (madeCells ie.zero.cells (n.toNat * j.size)) e)] := by
      refine ⟨List.replicate n.toNat zc, ⟨fun cs hcs => ?_, .inr ⟨w.heap.size, n.toNat, _, ?_, rfl, ?_, ?_, ?_, ?_⟩⟩, ?_⟩
      · rw [List.eq_of_mem_replicate hcs]; exact r.len hrep
      · simp
      · simp
      · unfold maxLen; omega
      · rw [size_madeCells, hj3, hs]
      · rw [hj3, ← hsz, made_zero, toList_zero, hz, List.length_replicate]
        have hl : ((List.replicate n.toNat zc).flatten).length = n.toNat * r.sz := by
          have h1 := r.len hrep
          simp [h1]
        rw [← hl, List.take_length]
      · refine ⟨by simp, fun i a b ha hb => ?_⟩
        rw [List.getElem?_replicate] at ha hb
        split at ha
        · rename_i hi
          rw [if_pos hi] at hb
          injection ha with ha; injection hb with hb
          rw [← ha, ← hb]; exact hrep
        · cases ha
    have := hk _ _ _ hO
    rw [hlen] at this
    exact this
  · cases hn
end
def subO {α : Type} (xs : List α) (lo hi : Int) : Option (List α) := if 0 ≤ lo ∧ lo ≤ hi ∧ hi ≤ xs.length then some ((xs.take hi.toNat).drop lo.toNat) else none
theorem subO_h {α : Type} {xs ys : List α} {lo hi : Int} (h : subO xs lo hi = some ys) : 0 ≤ lo ∧ lo ≤ hi ∧ hi ≤ xs.length ∧ ys = (xs.take hi.toNat).drop lo.toNat ∧ ys.length = hi.toNat - lo.toNat := by
  unfold subO at h
  split at h
  · rename_i hc
    injection h with h
    refine ⟨hc.1, hc.2.1, hc.2.2, h.symm, ?_⟩
    rw [← h, List.length_drop, List.length_take]
    omega
  · cases h
section
variable {α : Type} {r : Rp α} {μ : Gh} {L : List Seg} {A : Option Addr} {xs ys : List α} {lo hi : Int}
theorem ArrR.pre (h : ArrR r μ A xs) (hs : subO xs 0 hi = some ys) : ArrR r μ A ys := by
  obtain ⟨css, h1, h2⟩ := h
  obtain ⟨_, _, _, e, _⟩ := subO_h hs
  subst e
  refine ⟨css.take hi.toNat, fun i cs hi' => ?_, by simpa using h2.take hi.toNat⟩
  rw [List.getElem?_take] at hi'
  split at hi'
  · exact h1 i cs hi'
  · cases hi'
theorem Rds.pre (h : Rds r μ L A xs) (hs : subO xs 0 hi = some ys) : Rds r μ L A ys := by
  obtain ⟨css, h1, h2⟩ := h
  obtain ⟨_, _, _, e, _⟩ := subO_h hs
  subst e
  exact ⟨css.take hi.toNat, h1.take _, by simpa using h2.take hi.toNat⟩
theorem Rds.sub {A' : Option Addr} {cap : Nat} (h : Rds r μ L A xs) (hc : xs.length ≤ cap) (hs : subO xs lo hi = some ys) (hA : A' = (if cap = lo.toNat then A else A.map (·.add (lo.toNat * r.sz)))) : Rds r μ L A' ys := by
  obtain ⟨css, h1, h2⟩ := h
  obtain ⟨k1, k2, k3, e, k4⟩ := subO_h hs
  subst e
  have h1 := h1.take hi.toNat
  have h2 := h2.take hi.toNat
  refine ⟨(css.take hi.toNat).drop lo.toNat, ⟨fun cs hcs => h1.1 cs (List.mem_of_mem_drop hcs), fun hne => ?_⟩, h2.drop _⟩
  have hlt : lo.toNat < (css.take hi.toNat).length := by
    rcases Nat.lt_or_ge lo.toNat (css.take hi.toNat).length with h | h
    · exact h
    · exact absurd (List.drop_of_length_le h) hne
  have hl := h2.1
  rw [List.length_take] at hl
  obtain ⟨a, ha, hcell⟩ := h1.drop hlt
  refine ⟨a.add (lo.toNat * r.sz), ?_, hcell⟩
  rw [hA, if_neg (by omega), ha]
  rfl
theorem ArrR.sub {A' : Option Addr} {cap : Nat} (h : ArrR r μ A xs) (hc : xs.length ≤ cap) (hs : subO xs lo hi = some ys) (hA : A' = (if cap = lo.toNat then A else A.map (·.add (lo.toNat * r.sz)))) : ArrR r μ A' ys := by
  obtain ⟨css, h1, h2⟩ := h
  obtain ⟨k1, k2, k3, e, k4⟩ := subO_h hs
  subst e
  refine ⟨(css.take hi.toNat).drop lo.toNat, fun i cs hi' => ?_, (h2.take hi.toNat).drop _⟩
  rw [List.getElem?_drop, List.getElem?_take] at hi'
  split at hi'
  · rename_i hlt
    obtain ⟨g1, a, g2, g3⟩ := h1 _ cs hi'
    have hl : lo.toNat + i < css.length := by
      rcases Nat.lt_or_ge (lo.toNat + i) css.length with h | h
      · exact h
      · rw [List.getElem?_eq_none h] at hi'; cases hi'
    have hx := h2.1
    refine ⟨g1, a.add (lo.toNat * r.sz), ?_, ?_⟩
    · rw [hA, if_neg (by omega), g2]; rfl
    · rw [Addr.add_add', ← Nat.add_mul]; exact g3
  · cases hi'
variable {P : Program} {T : TT} {fr : Fr} {t e : TypeId} {x : Operand} {n cap : Nat} {i j : TyI} {sz : Nat} {k : Value → Prop}
theorem R_slHiS {hi_ : Operand} {kd : IntKind} (h1 : evV fr x = some (.slice A n cap)) (h2 : evV fr hi_ = some (.int kd hi)) (hT : T t = some i) (hu : i.u = .slice e) (he : T e = some j) (hn : xs.length = n) (hc : xs.length ≤ cap) (hs : subO xs 0 hi = some ys)
    (hk : k (.slice A ys.length cap)) : vcR P T (.slice t x none (some hi_) none) fr μ L k := by
  obtain ⟨k1, k2, k3, _, k4⟩ := subO_h hs
  refine R_slHi h1 h2 hT hu he ⟨k2, by omega, ?_⟩
  rw [show hi.toNat = ys.length by rw [k4]; simp]; exact hk
theorem R_slLoS {lo_ : Operand} {kd : IntKind} (h1 : evV fr x = some (.slice A n cap)) (h2 : evV fr lo_ = some (.int kd lo)) (hT : T t = some i) (hu : i.u = .slice e) (he : T e = some j) (hz : j.size = r.sz) (hn : xs.length = n) (hc : xs.length ≤ cap) (hs : subO xs lo (xs.length : Nat) = some ys)
    (hk : ∀ A', A' = (if cap = lo.toNat then A else A.map (·.add (lo.toNat * r.sz))) → k (.slice A' ys.length (cap - lo.toNat))) : vcR P T (.slice t x (some lo_) none none) fr μ L k := by
  obtain ⟨k1, k2, k3, _, k4⟩ := subO_h hs
  refine R_slLo h1 h2 hT hu he hz ⟨k1, by omega, ?_⟩
  rw [show n - lo.toNat = ys.length by rw [k4]; omega]; exact hk _ rfl
theorem subLen {c : Nat} (h : xs.length ≤ c ∧ c ≤ maxLen) (hs : subO xs lo hi = some ys) : ys.length ≤ c - lo.toNat ∧ c - lo.toNat ≤ maxLen := by
  obtain ⟨k1, k2, k3, _, k4⟩ := subO_h hs
  omega
theorem preLen {c : Nat} (h : xs.length ≤ c ∧ c ≤ maxLen) (hs : subO xs 0 hi = some ys) : ys.length ≤ c ∧ c ≤ maxLen := by
  obtain ⟨k1, k2, k3, _, k4⟩ := subO_h hs
  omega
end
theorem mapErase {α β : Type} (f : α → β) : ∀ (l : List α) (j : Nat), (l.eraseIdx j).map f = (l.map f).eraseIdx j
  | [], _ => rfl
  | x :: l, 0 => rfl
  | x :: l, j + 1 => by simp [mapErase f l j]
theorem MapR.erase {kd : IntKind} {es : Array MapEntry} {c : Nat} {m : List (Int × Value)} (h : MapR kd es c m) {j : Nat} (hj : j < es.size) : MapR kd (es.eraseIdxIfInBounds j) c (m.eraseIdx j) := by
  have hsub : (es.eraseIdxIfInBounds j).toList = es.toList.eraseIdx j := by
    unfold Array.eraseIdxIfInBounds
    rw [dif_pos hj]
    simp
  have hs : (es.toList.eraseIdx j).Sublist es.toList := List.eraseIdx_sublist _ _
  refine ⟨?_, ?_, ?_, ?_⟩
  · rw [hsub, mapErase, mapErase, h.ps]
  · exact h.nd.sublist ((List.eraseIdx_sublist _ _).map _)
  · rw [hsub]; exact h.born.sublist (hs.map _)
  · intro e he
    rw [hsub] at he
    exact h.lt e (hs.subset he)
def MapO {β : Type} (enc : β → Value) (v : Value) (so : Seg) : Option (List (Int × β)) → Prop
  | none => v = .map none ∧ so = []
  | some m => ∃ (g : Nat) (es : Array MapEntry) (cn : Nat), v = .map (some g) ∧ so = [(g, .map es cn)] ∧ MapB enc es cn m
theorem MapO.nil {β : Type} {enc : β → Value} : MapO enc (.map none) [] none := ⟨rfl, rfl⟩
theorem MapO.some {β : Type} {enc : β → Value} {g : Nat} {es : Array MapEntry} {cn : Nat} {m : List (Int × β)} (h : MapB enc es cn m) : MapO enc (.map (some g)) [(g, .map es cn)] (some m) := ⟨g, es, cn, rfl, rfl, h⟩
theorem MapO.get {β : Type} {enc : β → Value} {v : Value} {so : Seg} {o : Option (List (Int × β))} {m : List (Int × β)} (h : MapO enc v so o) (ho : o = Option.some m) : ∃ (g : Nat) (es : Array MapEntry) (cn : Nat), v = .map (Option.some g) ∧ so = [(g, .map es cn)] ∧ MapB enc es cn m := by
  subst ho; exact h
end Go.Proofs.YthpgjbbjpfiniaaGreat
