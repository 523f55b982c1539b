/- More words and rules: shifts, make. -/
import Derived.Test.YtfekfbcghnlohaaGa
import Derived.Laws.MakeOwn
import Derived.Laws.Entries
namespace Go.Proofs.Ytfekfbcghnlohaa
open Go.RowKit
set_option linter.unusedSimpArgs false
set_option linter.unusedVariables false

theorem Kept.ofT {keep A L : List Seg} (h : ∀ s ∈ keep, s ∈ A) : Kept (keep ++ L) (A ++ L) := fun c hc => by
  rw [List.flatten_append, List.mem_append] at hc ⊢
  rcases hc with hc | hc
  · obtain ⟨s, h1, h2⟩ := List.mem_flatten.1 hc
    exact .inl (List.mem_flatten.2 ⟨s, h s h1, h2⟩)
  · exact .inr hc
section
variable {P : Program} {T : TT} {fr : Fr} {μ : Gh} {L : List Seg} {t yt : TypeId} {x y : Operand} {kd kd' : IntKind} {a b : Int} {k : Value → Prop}
theorem R_shlD (h : evV fr x = some (.int kd a)) (h2 : evV fr y = some (.int kd' b)) (hw : kd.bits = 64) (hg : 0 ≤ b ∧ b ≤ 64) (hk : k (.int kd (kd.wrap (a * 2 ^ b.toNat)))) : vcR P T (.binOp .shl t x y yt) fr μ L k :=
  R_shl h h2 (Ex.mk _ (fun w => by rw [shift_shl kd kd' a b hg.1 (by rw [hw]; exact hg.2)]; rfl) hk)
theorem R_iaA0 {s e : TypeId} {g o o' len sz : Nat} {kd : IntKind} {ix : Int} {i j : TyI} (h : evV fr x = some (.pointer (some ⟨g, o, none⟩))) (h2 : evV fr y = some (.int kd ix)) (hT : T s = some i) (hu : i.u = .array len e) (he : T e = some j) (hs : j.size = sz)
    (hg : 0 ≤ ix ∧ ix < len) (ho : o + ix.toNat * sz = o') (hk : k (.pointer (some ⟨g, o', none⟩))) : vcR P T (.indexAddr s x y) fr μ L k :=
  R_iaA h h2 hT hu he hs hg (by rw [addr_add, ho]; exact hk)
theorem R_shrD (h : evV fr x = some (.int kd a)) (h2 : evV fr y = some (.int kd' b)) (hw : kd.bits = 64) (hg : 0 ≤ b ∧ b ≤ 64) (hk : k (.int kd (a / 2 ^ b.toNat))) : vcR P T (.binOp .shr t x y yt) fr μ L k :=
  R_shr h h2 (Ex.mk _ (fun w => by rw [shift_shr kd kd' a b hg.1 (by rw [hw]; exact hg.2)]; rfl) hk)
end

section
variable {P : Program} {T : TT} {μ : Gh} {L : List Seg} {α : Type} {r : Rp α}
theorem made_zero (z : Array Value) (n : Nat) : madeCells z (n * z.size) = Builtin.zeroCells z n := rfl
theorem toList_zero (z : Array Value) (m : Nat) : (Builtin.zeroCells z m).toList = (List.replicate m z.toList).flatten := by
  have h1 := cyc_eq z m
  have h2 : ∀ (z : List Value) m, cyc z m = (List.replicate m z).flatten := by
    intro z m
    induction m with
    | zero => simp [cyc]
    | succ m ih => rw [cyc, ih, List.replicate_succ, List.flatten_cons]
  rw [show Builtin.zeroCells z m = (cyc z.toList m).toArray from h1, List.toList_toArray, h2]
/-- n times the zero. -/
def makeO {α : Type} (z : α) (n : Int) : Option (List α) := if 0 ≤ n ∧ n ≤ 1000000 then some (List.replicate n.toNat z) else none
theorem sem_mkO (hT : TOk P T) {t e : TypeId} {it ie : TyI} (ht : T t = some it) (hu : it.u = .slice e) (he : T e = some ie) {z : α} {zc : List Value} (hz : ie.zero.cells.toList = zc) (hs : ie.size = r.sz) (hrep : r.rep μ z zc) (hb : Nat.ble ie.bytes 100000 = true)
    {kl kc : IntKind} {n : Int} {xs : List α} (hn : makeO z n = some xs) {k : Value → Gh → List Seg → Prop}
    (hk : ∀ (A : Option Addr) (c : Nat) (ch : Seg), Own r e μ (.slice A xs.length c) xs ch → k (.slice A xs.length c) μ (ch :: L)) : SemOk P (Instr.makeSlice t (.int kl n) (.int kc n)) μ L k := by
  intro w hw
  unfold makeO at hn
  split at hn
  · rename_i hn2
    injection hn with hn
    subst hn
    obtain ⟨j, hj1, hj2, hj3, hj4⟩ := run_bytes hT he
    have hut := und_of hT ht hu (by simp)
    have hb := Nat.le_of_ble_eq_true hb
    have hsz : ie.zero.cells.size = ie.size := by
      have h1 := r.len hrep
      rw [← hz] at h1
      rw [hs, ← h1]; simp
    have hbm : (j.bytes : Int) * n ≤ 281474976710656 := by
      have : (j.bytes : Int) * n ≤ 100000 * 1000000 := by
        rw [hj2]
        exact Int.mul_le_mul (by omega) hn2.2 hn2.1 (by omega)
      omega
    have hrun := run_make (P := P) w t e j ie.zero hut hj1 hj4 kl kc n n hn2.1 (Int.le_refl _) hbm (by omega)
    have hlen : (List.replicate n.toNat z).length = n.toNat := List.length_replicate
    refine ⟨_, _, μ, _, hrun, Gh.le.refl _, hw.alloc _, ?_⟩
    have hO : Own r e μ (.slice (some ⟨w.heap.size, 0, none⟩) (List.replicate n.toNat z).length n.toNat) (List.replicate n.toNat z) [(w.heap.size, .cells (madeCells ie.zero.cells (n.toNat * j.size)) e)] := by
      refine ⟨List.replicate n.toNat zc, ⟨fun cs hcs => ?_, .inr ⟨w.heap.size, n.toNat, _, ?_, rfl, ?_, ?_, ?_, ?_⟩⟩, ?_⟩
      · rw [List.eq_of_mem_replicate hcs]; exact r.len hrep
      · simp
      · simp
      · unfold maxLen; omega
      · rw [size_madeCells, hj3, hs]
      · rw [hj3, ← hsz, made_zero, toList_zero, hz, List.length_replicate]
        have hl : ((List.replicate n.toNat zc).flatten).length = n.toNat * r.sz := by
          have h1 := r.len hrep
          simp [h1]
        rw [← hl, List.take_length]
      · refine ⟨by simp, fun i a b ha hb => ?_⟩
        rw [List.getElem?_replicate] at ha hb
        split at ha
        · rename_i hi
          rw [if_pos hi] at hb
          injection ha with ha; injection hb with hb
          rw [← ha, ← hb]; exact hrep
        · cases ha
    have := hk _ _ _ hO
    rw [hlen] at this
    exact this
  · cases hn
end

/-! ### parts of slices -/
def subO {α : Type} (xs : List α) (lo hi : Int) : Option (List α) := if 0 ≤ lo ∧ lo ≤ hi ∧ hi ≤ xs.length then some ((xs.take hi.toNat).drop lo.toNat) else none
theorem subO_h {α : Type} {xs ys : List α} {lo hi : Int} (h : subO xs lo hi = some ys) : 0 ≤ lo ∧ lo ≤ hi ∧ hi ≤ xs.length ∧ ys = (xs.take hi.toNat).drop lo.toNat ∧ ys.length = hi.toNat - lo.toNat := by
  unfold subO at h
  split at h
  · rename_i hc
    injection h with h
    refine ⟨hc.1, hc.2.1, hc.2.2, h.symm, ?_⟩
    rw [← h, List.length_drop, List.length_take]
    omega
  · cases h
theorem subO_get {α : Type} {xs ys : List α} {lo hi : Int} (h : subO xs lo hi = some ys) {i : Nat} {y : α} (hi' : ys[i]? = some y) : xs[lo.toNat + i]? = some y := by
  obtain ⟨h1, h2, h3, h4, h5⟩ := subO_h h
  rw [h4, List.getElem?_drop, List.getElem?_take] at hi'
  split at hi'
  · exact hi'
  · cases hi'
section
variable {α : Type} {r : Rp α} {μ : Gh} {L : List Seg} {A : Option Addr} {xs ys : List α} {lo hi : Int}
theorem ArrR.pre (h : ArrR r μ A xs) (hs : subO xs 0 hi = some ys) : ArrR r μ A ys := by
  obtain ⟨css, h1, h2⟩ := h
  obtain ⟨_, _, _, e, _⟩ := subO_h hs
  subst e
  refine ⟨css.take hi.toNat, fun i cs hi' => ?_, by simpa using h2.take hi.toNat⟩
  rw [List.getElem?_take] at hi'
  split at hi'
  · exact h1 i cs hi'
  · cases hi'
theorem Rds.pre (h : Rds r μ L A xs) (hs : subO xs 0 hi = some ys) : Rds r μ L A ys := by
  obtain ⟨css, h1, h2⟩ := h
  obtain ⟨_, _, _, e, _⟩ := subO_h hs
  subst e
  exact ⟨css.take hi.toNat, h1.take _, by simpa using h2.take hi.toNat⟩
theorem Rds.sub {A' : Option Addr} {cap : Nat} (h : Rds r μ L A xs) (hc : xs.length ≤ cap) (hs : subO xs lo hi = some ys) (hA : A' = (if cap = lo.toNat then A else A.map (·.add (lo.toNat * r.sz)))) : Rds r μ L A' ys := by
  obtain ⟨css, h1, h2⟩ := h
  obtain ⟨k1, k2, k3, e, k4⟩ := subO_h hs
  subst e
  have h1 := h1.take hi.toNat
  have h2 := h2.take hi.toNat
  refine ⟨(css.take hi.toNat).drop lo.toNat, ⟨fun cs hcs => h1.1 cs (List.mem_of_mem_drop hcs), fun hne => ?_⟩, h2.drop _⟩
  have hlt : lo.toNat < (css.take hi.toNat).length := by
    rcases Nat.lt_or_ge lo.toNat (css.take hi.toNat).length with h | h
    · exact h
    · exact absurd (List.drop_of_length_le h) hne
  have hl := h2.1
  rw [List.length_take] at hl
  obtain ⟨a, ha, hcell⟩ := h1.drop hlt
  refine ⟨a.add (lo.toNat * r.sz), ?_, hcell⟩
  rw [hA, if_neg (by omega), ha]
  rfl
theorem ArrR.sub {A' : Option Addr} {cap : Nat} (h : ArrR r μ A xs) (hc : xs.length ≤ cap) (hs : subO xs lo hi = some ys) (hA : A' = (if cap = lo.toNat then A else A.map (·.add (lo.toNat * r.sz)))) : ArrR r μ A' ys := by
  obtain ⟨css, h1, h2⟩ := h
  obtain ⟨k1, k2, k3, e, k4⟩ := subO_h hs
  subst e
  refine ⟨(css.take hi.toNat).drop lo.toNat, fun i cs hi' => ?_, (h2.take hi.toNat).drop _⟩
  rw [List.getElem?_drop, List.getElem?_take] at hi'
  split at hi'
  · rename_i hlt
    obtain ⟨g1, a, g2, g3⟩ := h1 _ cs hi'
    have hl : lo.toNat + i < css.length := by
      rcases Nat.lt_or_ge (lo.toNat + i) css.length with h | h
      · exact h
      · rw [List.getElem?_eq_none h] at hi'; cases hi'
    have hx := h2.1
    refine ⟨g1, a.add (lo.toNat * r.sz), ?_, ?_⟩
    · rw [hA, if_neg (by omega), g2]; rfl
    · rw [Addr.add_add', ← Nat.add_mul]; exact g3
  · cases hi'
variable {P : Program} {T : TT} {fr : Fr} {t e : TypeId} {x : Operand} {n cap : Nat} {i j : TyI} {sz : Nat} {k : Value → Prop}
theorem R_slHiS {hi_ : Operand} {kd : IntKind} (h1 : evV fr x = some (.slice A n cap)) (h2 : evV fr hi_ = some (.int kd hi)) (hT : T t = some i) (hu : i.u = .slice e) (he : T e = some j) (hn : xs.length = n) (hc : xs.length ≤ cap) (hs : subO xs 0 hi = some ys)
    (hk : k (.slice A ys.length cap)) : vcR P T (.slice t x none (some hi_) none) fr μ L k := by
  obtain ⟨k1, k2, k3, _, k4⟩ := subO_h hs
  refine R_slHi h1 h2 hT hu he ⟨k2, by omega, ?_⟩
  rw [show hi.toNat = ys.length by rw [k4]; simp]; exact hk
theorem R_slLoS {lo_ : Operand} {kd : IntKind} (h1 : evV fr x = some (.slice A n cap)) (h2 : evV fr lo_ = some (.int kd lo)) (hT : T t = some i) (hu : i.u = .slice e) (he : T e = some j) (hz : j.size = r.sz) (hn : xs.length = n) (hc : xs.length ≤ cap) (hs : subO xs lo (xs.length : Nat) = some ys)
    (hk : ∀ A', A' = (if cap = lo.toNat then A else A.map (·.add (lo.toNat * r.sz))) → k (.slice A' ys.length (cap - lo.toNat))) : vcR P T (.slice t x (some lo_) none none) fr μ L k := by
  obtain ⟨k1, k2, k3, _, k4⟩ := subO_h hs
  refine R_slLo h1 h2 hT hu he hz ⟨k1, by omega, ?_⟩
  rw [show n - lo.toNat = ys.length by rw [k4]; omega]; exact hk _ rfl
theorem R_slBothS {lo_ hi_ : Operand} {kd kd' : IntKind} (h1 : evV fr x = some (.slice A n cap)) (h2 : evV fr lo_ = some (.int kd lo)) (h3 : evV fr hi_ = some (.int kd' hi)) (hT : T t = some i) (hu : i.u = .slice e) (he : T e = some j) (hz : j.size = r.sz) (hn : xs.length = n) (hc : xs.length ≤ cap)
    (hs : subO xs lo hi = some ys) (hk : ∀ A', A' = (if cap = lo.toNat then A else A.map (·.add (lo.toNat * r.sz))) → k (.slice A' ys.length (cap - lo.toNat))) : vcR P T (.slice t x (some lo_) (some hi_) none) fr μ L k := by
  obtain ⟨k1, k2, k3, _, k4⟩ := subO_h hs
  refine R_slBoth h1 h2 h3 hT hu he hz ⟨by omega, by omega, k1, by omega, ?_⟩
  rw [show hi.toNat - lo.toNat = ys.length by rw [k4]]; exact hk _ rfl
theorem R_slHi3S {hi_ mx_ : Operand} {kd kd' : IntKind} (h1 : evV fr x = some (.slice A n cap)) (h2 : evV fr hi_ = some (.int kd hi)) (h3 : evV fr mx_ = some (.int kd' hi)) (hT : T t = some i) (hu : i.u = .slice e) (he : T e = some j) (hn : xs.length = n) (hc : xs.length ≤ cap) (hs : subO xs 0 hi = some ys)
    (hk : k (.slice A ys.length ys.length)) : vcR P T (.slice t x none (some hi_) (some mx_)) fr μ L k := by
  obtain ⟨k1, k2, k3, _, k4⟩ := subO_h hs
  refine R_slHi3 h1 h2 h3 hT hu he ⟨k2, by omega, ?_⟩
  rw [show hi.toNat = ys.length by rw [k4]; simp]; exact hk
theorem subLen {c : Nat} (h : xs.length ≤ c ∧ c ≤ maxLen) (hs : subO xs lo hi = some ys) : ys.length ≤ c - lo.toNat ∧ c - lo.toNat ≤ maxLen := by
  obtain ⟨k1, k2, k3, _, k4⟩ := subO_h hs
  omega
theorem preLen {c : Nat} (h : xs.length ≤ c ∧ c ≤ maxLen) (hs : subO xs 0 hi = some ys) : ys.length ≤ c ∧ c ≤ maxLen := by
  obtain ⟨k1, k2, k3, _, k4⟩ := subO_h hs
  omega
theorem fullLen {c : Nat} (h : xs.length ≤ c ∧ c ≤ maxLen) (hs : subO xs 0 hi = some ys) : ys.length ≤ ys.length ∧ ys.length ≤ maxLen := ⟨Nat.le_refl _, Nat.le_trans (preLen h hs).1 h.2⟩
end

section
variable {P : Program} {T : TT} {α : Type} {r : Rp α} {μ : Gh} {L : List Seg} {k : Value → Gh → List Seg → Prop}
/-- append onto a part whose room ends with it. -/
theorem sem_appF (hT : TOk P T) {t ty e : TypeId} {it ie : TyI} (ht : T t = some it) (hu : it.u = .slice e) (he : T e = some ie) (hz : ie.zero.cells.size = ie.size) (hsz : 0 < ie.size) (hsr : ie.size = r.sz) (hby : Nat.ble ie.bytes 10000 = true)
    {xs ys zs : List α} {A B : Option Addr} {m d : Nat} (hx : Rds r μ L B xs) (hm : ys.length = m) (hr : Rds r μ L A ys) (hm0 : 0 < m) (hz2 : appO xs ys = some zs)
    (hk : ∀ A' c' ch', Own r e μ (.slice A' zs.length c') zs ch' → k (.slice A' zs.length c') μ (ch' :: L)) : SemOk P (Builtin.append_ #[t, t] ty #[.slice B xs.length xs.length, .slice A m d]) μ L k := by
  obtain ⟨css, h1, h2⟩ := hx
  obtain ⟨nss, h3, h4⟩ := hr
  obtain ⟨hb, rfl⟩ := appO_some hz2
  have hby := Nat.le_of_ble_eq_true hby
  rw [← hsr] at h1 h3
  have hlen : xs.length + m ≤ 1000000 := by rw [← hm]; exact hb
  refine sem_app_fresh hT ht hu he hz hsz (css := css) (news := nss) (by rw [h2.1]) h1 (by rw [← h4.1, hm]) h3 hm0 (by omega) ?_ (by omega) fun v' ch' hv => ?_
  · exact Nat.le_trans (Nat.mul_le_mul hlen hby) (by decide)
  · rw [hsr] at hv
    have ho : Own r e μ v' (xs ++ ys) ch' := ⟨_, hv, h2.append h4⟩
    obtain ⟨A', c', rfl, _, _⟩ := ho.form
    exact hk A' c' ch' ho
end

/-! ### maps that may be nil, and delete -/
def mdel {β : Type} (n : Int) : List (Int × β) → List (Int × β)
  | [] => []
  | p :: r => if p.1 = n then r else p :: mdel n r
theorem mdel_map {β γ : Type} (f : β → γ) (n : Int) : ∀ (m : List (Int × β)), mdel n (m.map fun p => (p.1, f p.2)) = (mdel n m).map fun p => (p.1, f p.2)
  | [] => rfl
  | p :: m => by simp only [List.map_cons, mdel]; split <;> simp [mdel_map f n m]
theorem findNow_del (kd : IntKind) (n : Int) : ∀ (es : List MapEntry) (i : Nat) {m : List (Int × Value)}, es.map (fun e => (e.key, e.val)) = m.map (fun p => (Value.int kd p.1, p.2)) →
    (Instr.findNow (.int kd) (.int kd n) es i = some none ∧ mdel n m = m) ∨
    ∃ j v, Instr.findNow (.int kd) (.int kd n) es i = some (some (i + j, v)) ∧ j < es.length ∧ mdel n m = m.eraseIdx j
  | [], i, [], _ => .inl ⟨rfl, rfl⟩
  | [], i, p :: m, h => by simp at h
  | e :: es, i, [], h => by simp at h
  | e :: es, i, p :: m, h => by
    simp only [List.map_cons, List.cons.injEq, Prod.mk.injEq] at h
    obtain ⟨⟨h1, h2⟩, h3⟩ := h
    by_cases hn : p.1 = n
    · exact .inr ⟨0, e.val, by simp [Instr.findNow, Instr.sameNow, h1, hn], by simp, by simp [mdel, hn]⟩
    · have hne : (n == p.1) = false := by simpa using fun e => hn e.symm
      rcases findNow_del kd n es (i + 1) h3 with ⟨h4, h5⟩ | ⟨j, v, h4, h6, h8⟩
      · exact .inl ⟨by simp [Instr.findNow, Instr.sameNow, h1, hne, h4], by simp [mdel, hn, h5]⟩
      · refine .inr ⟨j + 1, v, ?_, by simp; omega, by simp [mdel, hn, h8]⟩
        simp only [Instr.findNow, Instr.sameNow, h1, if_true, hne, h4]
        congr 3
        omega
theorem mapErase {α β : Type} (f : α → β) : ∀ (l : List α) (j : Nat), (l.eraseIdx j).map f = (l.map f).eraseIdx j
  | [], _ => rfl
  | x :: l, 0 => rfl
  | x :: l, j + 1 => by simp [mapErase f l j]
theorem MapR.erase {kd : IntKind} {es : Array MapEntry} {c : Nat} {m : List (Int × Value)} (h : MapR kd es c m) {j : Nat} (hj : j < es.size) : MapR kd (es.eraseIdxIfInBounds j) c (m.eraseIdx j) := by
  have hsub : (es.eraseIdxIfInBounds j).toList = es.toList.eraseIdx j := by
    unfold Array.eraseIdxIfInBounds
    rw [dif_pos hj]
    simp
  have hs : (es.toList.eraseIdx j).Sublist es.toList := List.eraseIdx_sublist _ _
  refine ⟨?_, ?_, ?_, ?_⟩
  · rw [hsub, mapErase, mapErase, h.ps]
  · exact h.nd.sublist ((List.eraseIdx_sublist _ _).map _)
  · rw [hsub]; exact h.born.sublist (hs.map _)
  · intro e he
    rw [hsub] at he
    exact h.lt e (hs.subset he)
section
variable {P : Program} {T : TT} {μ : Gh} {L : List Seg} {β : Type} {enc : β → Value} {es : Array MapEntry} {c : Nat} {m : List (Int × β)}
theorem sem_delB (hT : TOk P T) {t kt et ty : TypeId} {it ik : TyI} (ht : T t = some it) (hu : it.u = .map kt et) (hkt : T kt = some ik) (hku : ik.u = .int .i64)
    (i : Nat) {g : Nat} {n : Int} {k : Value → Gh → List Seg → Prop} (hi : L[i]? = some [(g, .map es c)]) (hm : MapB enc es c m)
    (hk : ∀ es', MapB enc es' c (mdel n m) → k (.tuple #[]) μ (L.set i [(g, .map es' c)])) : SemOk P (Builtin.delete_ #[t, kt] ty #[.map (some g), .int .i64 n]) μ L k := by
  intro w hw
  have hj : [(g, Obj.map es c)][0]? = some (g, .map es c) := rfl
  have hb : w.heap[g]? = some (.map es c) := hw.own (g, _) (List.mem_flatten.2 ⟨_, List.mem_of_getElem? hi, List.mem_of_getElem? hj⟩)
  have hc : ∀ b, (Instr.checkKey b 10000 kt (.int .i64 n)).run P w = .ok () w := fun b => run_checkKey hT hkt hku b 9999 _ w
  have hut := und_of hT ht hu (by simp)
  have hkk := und_of hT hkt hku (by simp)
  rcases findNow_del .i64 n es.toList 0 hm.ps with ⟨h1, h2⟩ | ⟨jj, x, h1, h3, h2⟩
  · rw [mdel_map] at h2
    have h4 : MapB enc es c (mdel n m) := by unfold MapB; rw [h2]; exact hm
    refine ⟨_, _, μ, _, ?_, Gh.le.refl _, hw.updObj hi hj (o' := .map es c), hk es h4⟩
    simp [Builtin.delete_, run_underlying hut, run_getObj w _ _ (by simp) hb, hc, Instr.findKey, run_underlying hkk, h1, run_setObj w g _ _ (by simp) hb, Result.andThen]
  · have hjs : jj < es.size := by simpa using h3
    have h5 := MapR.erase hm hjs
    have h4 : MapB enc (es.eraseIdxIfInBounds jj) c (mdel n m) := by unfold MapB; rw [← mdel_map, h2]; exact h5
    refine ⟨_, _, μ, _, ?_, Gh.le.refl _, hw.updObj hi hj (o' := .map (es.eraseIdxIfInBounds jj) c), hk _ h4⟩
    simp [Builtin.delete_, run_underlying hut, run_getObj w _ _ (by simp) hb, hc, Instr.findKey, run_underlying hkk, h1, run_setObj w g _ _ (by simp) hb, Result.andThen]
end

/-- A map that may be nil. -/
def MapO {β : Type} (enc : β → Value) (v : Value) (so : Seg) : Option (List (Int × β)) → Prop
  | none => v = .map none ∧ so = []
  | some m => ∃ (g : Nat) (es : Array MapEntry) (cn : Nat), v = .map (some g) ∧ so = [(g, .map es cn)] ∧ MapB enc es cn m
theorem MapO.nil {β : Type} {enc : β → Value} : MapO enc (.map none) [] none := ⟨rfl, rfl⟩
theorem MapO.some {β : Type} {enc : β → Value} {g : Nat} {es : Array MapEntry} {cn : Nat} {m : List (Int × β)} (h : MapB enc es cn m) : MapO enc (.map (some g)) [(g, .map es cn)] (some m) := ⟨g, es, cn, rfl, rfl, h⟩
theorem MapO.get {β : Type} {enc : β → Value} {v : Value} {so : Seg} {o : Option (List (Int × β))} {m : List (Int × β)} (h : MapO enc v so o) (ho : o = Option.some m) : ∃ (g : Nat) (es : Array MapEntry) (cn : Nat), v = .map (Option.some g) ∧ so = [(g, .map es cn)] ∧ MapB enc es cn m := by
  subst ho; exact h

end Go.Proofs.Ytfekfbcghnlohaa
