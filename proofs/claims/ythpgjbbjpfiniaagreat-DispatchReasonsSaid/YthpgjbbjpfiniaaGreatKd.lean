/- The operations that change memory, a region in its order, and code. -/
import Derived.Test.YthpgjbbjpfiniaaGreatKc
namespace Go.Proofs.YthpgjbbjpfiniaaGreat
open Go.RowKit
set_option linter.unusedSimpArgs false
set_option linter.unusedVariables false
def SemOk (P : Program) (s : Sem Value) (μ : Gh) (L : List Seg) (k : Value → Gh → List Seg → Prop) : Prop :=
  ∀ w, Inv w μ L → ∃ v w' μ' L', s.run P w = .ok v w' ∧ μ.le μ' ∧ Inv w' μ' L' ∧ k v μ' L'
def SemU (P : Program) (s : Sem Unit) (μ : Gh) (L : List Seg) (k : Gh → List Seg → Prop) : Prop :=
  ∀ w, Inv w μ L → ∃ w' μ' L', s.run P w = .ok () w' ∧ μ.le μ' ∧ Inv w' μ' L' ∧ k μ' L'
def Fn (P : Program) (f : FuncId) (args : List Value) (μ : Gh) (L : List Seg) (R : Value → Gh → List Seg → Prop) : Prop :=
  ((∃ fn, P.funcs[f]? = some fn ∧ (fn.name == "runtime.NumGoroutine") = false ∧ fn.body.isNone = false) ∧
   ∀ w, Inv w μ L → Calls P f args.toArray w fun e w' => ∃ v μ' L', e = .returned v ∧ μ.le μ' ∧ Inv w' μ' L' ∧ R v μ' L') ∨
  (∃ fn e, P.funcs[f]? = some fn ∧ (fn.name == "runtime.NumGoroutine") = false ∧ fn.body.isNone = true ∧ Extern.findNext fn = none ∧ Extern.find fn = some e ∧ SemOk P (e args.toArray) μ L R)
theorem SemOk.mono {P : Program} {s : Sem Value} {μ : Gh} {L : List Seg} {R R' : Value → Gh → List Seg → Prop} (h : SemOk P s μ L R)
    (hr : ∀ v μ' L', μ.le μ' → R v μ' L' → R' v μ' L') : SemOk P s μ L R' := fun w hw =>
  let ⟨v, w', μ', L', h1, h2, h3, h4⟩ := h w hw; ⟨v, w', μ', L', h1, h2, h3, hr v μ' L' h2 h4⟩
theorem Fn.mono {P : Program} {f : FuncId} {args : List Value} {μ : Gh} {L : List Seg} {R R' : Value → Gh → List Seg → Prop} (h : Fn P f args μ L R)
    (hr : ∀ v μ' L', μ.le μ' → R v μ' L' → R' v μ' L') : Fn P f args μ L R' := by
  rcases h with ⟨h1, h2⟩ | ⟨fn, e, h1, h2, h3, h4, h5, h6⟩
  · exact .inl ⟨h1, fun w hw => (h2 w hw).mono fun _ _ ⟨v, μ', L', he, hm, hi, hR⟩ => ⟨v, μ', L', he, hm, hi, hr v μ' L' hm hR⟩⟩
  · exact .inr ⟨fn, e, h1, h2, h3, h4, h5, h6.mono hr⟩
def StAt (L : List Seg) (a : Addr) (vs : List Value) (L' : List Seg) : Prop :=
  ∃ i j s cs e, L[i]? = some s ∧ s[j]? = some (a.block, Obj.cells cs e (0, 0)) ∧ a.spot = none ∧ a.off + vs.length ≤ cs.size ∧
    L' = L.set i (s.set j (a.block, .cells (setL cs.toList a.off vs).toArray e (0, 0)))
def storeK (T : TT) (t : TypeId) (p v : Value) (L : List Seg) (k : List Seg → Prop) : Prop := match p with
  | .pointer (some a) => (match T t with
    | some i => v.cells.size = i.size ∧ (∀ c ∈ v.cells.toList, c.oneCell' = true) ∧ Ex (StAt L a v.cells.toList) k
    | none => False)
  | _ => False
def allocK (T : TT) (t : TypeId) (k : Array Value → Prop) : Prop := match T t with | some i => k i.zero.cells | none => False
def cyc (z : List Value) : Nat → List Value
  | 0 => []
  | n + 1 => z ++ cyc z n
def buildSlK (T : TT) (t : TypeId) (n : Nat) (vs : List (Nat × Value)) (k : TypeId → List Value → Prop) : Prop :=
  elemK T t fun e j => n * j.size ≤ 16777216 ∧ j.zero.cells.size = j.size ∧ fillK (fun i => some (i * j.size, j.size)) (cyc j.zero.cells.toList n) vs fun cs => k e cs
def callK (P : Program) (fv : Value) (vs : List Value) (μ : Gh) (L : List Seg) (k : Value → Gh → List Seg → Prop) : Prop := match fv with
  | .func (.func f) fi ca => Fn P f (fi.toList ++ vs ++ ca.toList) μ L k
  | _ => False
def biO (P : Program) (T : TT) (b : Builtin) (tys : Array TypeId) (ty : TypeId) (vs : List Value) (μ : Gh) (L : List Seg) (k : Value → Gh → List Seg → Prop) : Prop := match b with
  | .append => SemOk P (Builtin.append_ tys ty vs.toArray) μ L k
  | .copy => SemOk P (Builtin.copy_ tys ty vs.toArray) μ L k
  | .delete => SemOk P (Builtin.delete_ tys ty vs.toArray) μ L k
  | .clear => SemOk P (Builtin.clear_ tys ty vs.toArray) μ L k
  | b => biK T b tys.toList vs μ L fun v => k v μ L
def vcO (P : Program) (T : TT) (o : Op) (ty : TypeId) (fr : Fr) (μ : Gh) (L : List Seg) (k : Value → Gh → List Seg → Prop) : Prop := match o with
  | .store t a x => ev fr a fun p => ev fr x fun v => storeK T t p v L fun L' => k undef μ L'
  | .alloc t => allocK T t fun cs => ∀ g, k (.pointer (some ⟨g, 0, none⟩)) μ ([(g, .cells cs t)] :: L)
  | .box t x => ev fr x fun v => ∀ g, k (.pointer (some ⟨g, 0, none⟩)) μ ([(g, .cells v.cells t)] :: L)
  | .buildSlice t n ps => evp fr ps.toList fun vs => buildSlK T t n vs fun e cs => ∀ g, k (.slice (some ⟨g, 0, none⟩) n n) μ ([(g, .cells cs.toArray e)] :: L)
  | .makeMap _ none => ∀ g, k (.map (some g)) μ ([(g, .map #[] 0)] :: L)
  | .makeSlice t l c => ev fr l fun a => ev fr c fun b => SemOk P (Instr.makeSlice t a b) μ L k
  | .mapUpdate t m x v => ev fr m fun a => ev fr x fun b => ev fr v fun c => SemU P (Instr.mapUpdate t a b c) μ L fun μ' L' => k undef μ' L'
  | .insert t m x v => ev fr m fun a => ev fr x fun b => ev fr v fun c => SemU P (Instr.mapUpdate t a b c) μ L fun μ' L' => k undef μ' L'
  | .mapEntry t m x => ev fr m fun a => ev fr x fun b => SemOk P (Instr.mapEntry t a b) μ L k
  | .entryStore t m s x => ev fr m fun a => ev fr s fun b => ev fr x fun c => SemU P (Instr.entryStore t a b c) μ L fun μ' L' => k undef μ' L'
  | .range t x => ev fr x fun a => SemOk P (Instr.range t a) μ L k
  | .next it s => ev fr it fun a => SemOk P (Instr.next a s ty) μ L k
  | .entry it => ev fr it fun a => SemOk P (Instr.entry a) μ L k
  | .call c => (match c.callee with
    | .value f => ev fr f fun fv => evs fr c.args.toList fun vs => callK P fv vs μ L k
    | .builtin b => evs fr c.args.toList fun vs => biO P T b c.argTypes ty vs μ L k
    | .invoke _ _ => False)
  | o => vcR P T o fr μ L fun v => k v μ L
section
variable {P : Program} {T : TT} {μ : Gh} {L : List Seg}
theorem addr_add (g o n : Nat) : (⟨g, o, none⟩ : Addr).add n = ⟨g, o + n, none⟩ := by unfold Addr.add; split <;> simp_all
theorem setL_eq : ∀ (vs : List Value) (o : Nat) (cs : List Value), o + vs.length ≤ cs.length → setL cs o vs = cs.take o ++ vs ++ cs.drop (o + vs.length)
  | [], o, cs, _ => by simp [setL]
  | v :: r, o, cs, h => by
    have h' : o + (r.length + 1) ≤ cs.length := by simpa using h
    rw [setL, setL_eq r (o + 1) _ (by simp; omega)]
    exact list_seg_step cs o v r h'
theorem storeCells_ok {a : Addr} {vs : List Value} {L' : List Seg} (hs : StAt L a vs L') (h1 : ∀ c ∈ vs, c.oneCell' = true) {w : World} (hw : Inv w μ L) :
    ∃ w', (storeCells a vs).run P w = .ok () w' ∧ Inv w' μ L' := by
  obtain ⟨i, j, s, cs, e, hi, hj, hsp, hl, rfl⟩ := hs
  obtain ⟨b, o, sp⟩ := a
  simp only at hsp hl hj
  subst hsp
  have hb : w.heap[b]? = some (.cells cs e (0, 0)) := hw.own _ (List.mem_flatten.2 ⟨s, List.mem_of_getElem? hi, List.mem_of_getElem? hj⟩)
  have hr := run_storeCells_at P b o e vs 0 cs w hb (by simpa using hl) h1
  refine ⟨_, hr, ?_⟩
  have e2 : setL cs.toList o vs = cs.toList.take (o + 0) ++ vs ++ cs.toList.drop (o + 0 + vs.length) := by
    rw [Nat.add_zero]; exact setL_eq vs o cs.toList (by simpa using hl)
  simp only [e2]
  exact hw.upd hi hj rfl rfl rfl (setRow_heap w b cs _ e _ hb) (fun k hk => setRow_other w b k _ hk)
theorem sem_store (hT : TOk P T) {t : TypeId} {p v : Value} {k : List Seg → Prop} (h : storeK T t p v L k) :
    SemU P (Instr.storeAt t p v) μ L fun μ' L' => μ' = μ ∧ k L' := by
  intro w hw
  unfold storeK at h
  split at h
  · rename_i a
    split at h
    · rename_i i hi
      obtain ⟨h1, h2, L', hs, hk⟩ := h
      obtain ⟨w', hr, hw'⟩ := storeCells_ok (P := P) hs h2 hw
      refine ⟨w', μ, L', ?_, Gh.le.refl _, hw', rfl, hk⟩
      simp [Instr.storeAt, Instr.sureAddr, storeVar, run_size hT hi, h1, hr]
    · exact h.elim
  · exact h.elim
theorem length_cyc (z : List Value) : ∀ n, (cyc z n).length = n * z.length
  | 0 => by simp [cyc]
  | n + 1 => by rw [cyc, List.length_append, length_cyc z n, Nat.succ_mul]; omega
theorem cyc_get (z : List Value) : ∀ n i, i < n * z.length → (cyc z n)[i]? = z[i % z.length]?
  | 0, i, h => by simp at h
  | n + 1, i, h => by
    rw [cyc]
    by_cases hi : i < z.length
    · rw [List.getElem?_append_left hi, Nat.mod_eq_of_lt hi]
    · rw [List.getElem?_append_right (by omega), cyc_get z n _ (by rw [Nat.succ_mul] at h; omega)]
      congr 1
      have : i = i - z.length + z.length := by omega
      conv => rhs; rw [this, Nat.add_mod_right]
theorem cyc_eq (z : Array Value) (n : Nat) : ((Array.range (n * z.size)).map (z[· % z.size]!)) = (cyc z.toList n).toArray := by
  rw [← Array.toList_inj]
  apply List.ext_getElem?
  intro i
  by_cases hi : i < n * z.size
  · have hz : 0 < z.size := by rcases Nat.eq_zero_or_pos z.size with h0 | h0; (rw [h0] at hi; simp at hi); exact h0
    have hm : i % z.size < z.size := Nat.mod_lt _ hz
    have := cyc_get z.toList n i (by simpa using hi)
    simp only [Array.toList_map, List.getElem?_map]
    rw [this]
    simp [hi, hm]
  · rw [List.getElem?_eq_none (by simp; omega), List.getElem?_eq_none (by rw [List.toList_toArray, length_cyc]; simp; omega)]
theorem sem_buildSl (hT : TOk P T) {t : TypeId} {n : Nat} {vs : List (Nat × Value)} {k : TypeId → List Value → Prop} (h : buildSlK T t n vs k) :
    ∃ e cs, k e cs ∧ ∀ w, (Instr.buildSlice t n vs.toArray).run P w = .ok (.slice (some ⟨w.heap.size, 0, none⟩) n n) (w.alloc (.cells cs.toArray e)) := by
  obtain ⟨i, e, j, hi, hu, hj, h1, hz, h2⟩ := elemK_spec h
  obtain ⟨cs, hk, hf⟩ := fillK_spec _ _ h2
  refine ⟨e, cs, hk, fun w => ?_⟩
  by_cases h0 : n * j.size = 0
  · have e1 : (cyc j.zero.cells.toList n).toArray = #[] := by
      have : (cyc j.zero.cells.toList n).length = 0 := by rw [length_cyc]; simp only [Array.length_toList, hz]; exact h0
      rw [List.eq_nil_of_length_eq_zero this]
    rw [e1] at hf
    simp only [Instr.buildSlice, Sem.run_bind, run_und hT hi hu (by simp), Result.andThen_ok, run_size hT hj, Sem.run_ite]
    rw [if_neg (by omega)]
    simp [h0, Array.range_zero', hf, newRow, newObj, Sem.run]
  · have e1 := cyc_eq j.zero.cells n
    rw [hz] at e1
    rw [← e1] at hf
    simp only [Instr.buildSlice, Sem.run_bind, run_und hT hi hu (by simp), Result.andThen_ok, run_size hT hj, Sem.run_ite]
    rw [if_neg (by omega), if_neg h0]
    simp [run_zero hT hj, hz, hf, newRow, newObj, Sem.run]
theorem vcO_sound (hT : TOk P T) {N : NN} {fr : Fr} {a : Act} (ha : Agr N fr a) {o : Oper} {k : Value → Gh → List Seg → Prop} (h : vcO P T o.op o.type fr μ L k)
    {w : World} (hw : Inv w μ L) {next : Act → World → Prop} {Q : Exit → Act → World → Prop}
    (hk : ∀ v μ' L' w', μ.le μ' → Inv w' μ' L' → k v μ' L' → next (a.put o.dst v) w') : o.wp P a w next Q := by
  have hR : RunsN P μ L (execOp a.eval o) (fun v => k v μ L) → o.wp P a w next Q := by
    rintro ⟨v, hv, hr⟩
    unfold Oper.wp
    rw [hr w hw.holds]
    exact hk v μ L w (Gh.le.refl _) hw hv
  have hS : ∀ s : Sem Value, execOp a.eval o = (do pure (.value (← s))) → SemOk P s μ L k → o.wp P a w next Q := by
    intro s he hs
    obtain ⟨v, w', μ', L', hr, hm, hi, hkk⟩ := hs w hw
    unfold Oper.wp
    rw [he]
    simp only [Sem.run_bind, hr, Result.andThen_ok, Sem.run_pure]
    exact hk v μ' L' w' hm hi hkk
  have hU : ∀ (s : Sem Unit) (k' : Gh → List Seg → Prop), (∀ μ' L', k' μ' L' → k undef μ' L') → execOp a.eval o = (do s; pure .skip) → SemU P s μ L k' → o.wp P a w next Q := by
    intro s k' hk' he hs
    obtain ⟨w', μ', L', hr, hm, hi, hkk⟩ := hs w hw
    unfold Oper.wp
    rw [he]
    simp only [Sem.run_bind, hr, Result.andThen_ok, Sem.run_pure]
    exact hk undef μ' L' w' hm hi (hk' _ _ hkk)
  obtain ⟨dst, op, ty, pos, aft, gd⟩ := o
  simp only at h
  have hA : ∀ ob : Array Value × TypeId, execOp a.eval ⟨dst, op, ty, pos, aft, gd⟩ = (do pure (.value (.pointer (some (← newRow ob.2 ob.1))))) →
      (∀ g, k (.pointer (some ⟨g, 0, none⟩)) μ ([(g, .cells ob.1 ob.2)] :: L)) → Oper.wp P ⟨dst, op, ty, pos, aft, gd⟩ a w next Q := by
    intro ob he hkk
    unfold Oper.wp
    rw [he]
    simp only [newRow, newObj, Sem.run_bind, Sem.run, Result.andThen_ok, Sem.run_pure]
    exact hk _ μ _ _ (Gh.le.refl _) (hw.alloc _) (hkk _)
  cases op
  case store t p x =>
    simp only [vcO] at h
    have h1 := ev_sound ha h
    have h2 := ev_sound ha (k := fun v => storeK T t (a.eval p) v L fun L' => k undef μ L') h1
    exact hU _ _ (fun μ' L' ⟨e, hk⟩ => e ▸ hk) rfl (sem_store hT h2)
  case alloc t =>
    simp only [vcO] at h
    unfold allocK at h
    split at h
    · rename_i i hi
      unfold Oper.wp
      have he : (execOp a.eval ⟨dst, .alloc t, ty, pos, aft, gd⟩).run P w = .ok (.value (.pointer (some ⟨w.heap.size, 0, none⟩))) (w.alloc (.cells i.zero.cells t)) := by
        simp only [execOp, Instr.alloc, Sem.run_bind, run_zero hT hi, Result.andThen_ok, newVar, newRow, newObj, Sem.run, Sem.run_pure]
        rfl
      rw [he]
      exact hk _ μ _ _ (Gh.le.refl _) (hw.alloc _) (h _)
    · exact h.elim
  case box t x =>
    simp only [vcO] at h
    have h1 := ev_sound ha h
    refine hA ((a.eval x).cells, t) ?_ h1
    simp [execOp, Instr.box, newVar]
  case buildSlice t n ps =>
    simp only [vcO] at h
    have h1 := evp_sound ha h
    obtain ⟨e, cs, hkk, hr⟩ := sem_buildSl hT h1
    have e2 : (ps.toList.map fun p => (p.1, a.eval p.2)).toArray = ps.map fun p => (p.1, a.eval p.2) := by
      rw [← Array.toList_inj]; simp
    rw [e2] at hr
    unfold Oper.wp
    have hr' := hr w
    simp only [execOp, Sem.run_bind]
    rw [hr']
    exact hk _ μ _ _ (Gh.le.refl _) (hw.alloc _) (hkk _)
  case makeMap t r =>
    cases r with
    | none =>
      simp only [vcO] at h
      unfold Oper.wp
      simp only [execOp, Instr.makeMap, newObj, Sem.run_bind, Sem.run, Result.andThen_ok, Sem.run_pure, Option.map_none]
      exact hk _ μ _ _ (Gh.le.refl _) (hw.alloc _) (h _)
    | some x => simp only [vcO, vcR] at h
  case makeSlice t l c =>
    simp only [vcO] at h
    have h1 := ev_sound ha h
    exact hS _ rfl (ev_sound ha (k := fun b => SemOk P (Instr.makeSlice t (a.eval l) b) μ L k) h1)
  case mapUpdate t m x v =>
    simp only [vcO] at h
    have h1 := ev_sound ha h
    have h2 := ev_sound ha (k := fun b => ev fr v fun c => SemU P (Instr.mapUpdate t (a.eval m) b c) μ L fun μ' L' => k undef μ' L') h1
    exact hU _ _ (fun _ _ h => h) rfl (ev_sound ha (k := fun c => SemU P (Instr.mapUpdate t (a.eval m) (a.eval x) c) μ L fun μ' L' => k undef μ' L') h2)
  case insert t m x v =>
    simp only [vcO] at h
    have h1 := ev_sound ha h
    have h2 := ev_sound ha (k := fun b => ev fr v fun c => SemU P (Instr.mapUpdate t (a.eval m) b c) μ L fun μ' L' => k undef μ' L') h1
    exact hU _ _ (fun _ _ h => h) rfl (ev_sound ha (k := fun c => SemU P (Instr.mapUpdate t (a.eval m) (a.eval x) c) μ L fun μ' L' => k undef μ' L') h2)
  case mapEntry t m x =>
    simp only [vcO] at h
    have h1 := ev_sound ha h
    exact hS _ rfl (ev_sound ha (k := fun b => SemOk P (Instr.mapEntry t (a.eval m) b) μ L k) h1)
  case entryStore t m s x =>
    simp only [vcO] at h
    have h1 := ev_sound ha h
    have h2 := ev_sound ha (k := fun b => ev fr x fun c => SemU P (Instr.entryStore t (a.eval m) b c) μ L fun μ' L' => k undef μ' L') h1
    exact hU _ _ (fun _ _ h => h) rfl (ev_sound ha (k := fun c => SemU P (Instr.entryStore t (a.eval m) (a.eval s) c) μ L fun μ' L' => k undef μ' L') h2)
  case range t x => simp only [vcO] at h; exact hS _ rfl (ev_sound ha h)
  case next it s => simp only [vcO] at h; exact hS _ rfl (ev_sound ha h)
  case entry it => simp only [vcO] at h; exact hS _ rfl (ev_sound ha h)
  case call c =>
    obtain ⟨ce, args, tys⟩ := c
    have e : (args.toList.map a.eval).toArray = args.map a.eval := by rw [← Array.toList_inj]; simp
    cases ce with
    | invoke r m => simp only [vcO] at h
    | value f =>
      simp only [vcO] at h
      have h1 := ev_sound ha h
      have h2 := evs_sound ha (k := fun vs => callK P (a.eval f) vs μ L k) h1
      unfold callK at h2
      split at h2
      · rename_i g fi ca hf
        have e2 : (fi.toList ++ List.map a.eval args.toList ++ ca.toList).toArray = fi ++ args.map a.eval ++ ca := by
          rw [← Array.toList_inj]; simp
        rcases h2 with ⟨⟨fn, hfn, hnm, hbd⟩, hc⟩ | ⟨fn, ex, hfn, hnm, hbd, hx1, hx2, hc⟩
        · unfold Oper.wp
          have he : (execOp a.eval ⟨dst, .call ⟨.value f, args, tys⟩, ty, pos, aft, gd⟩).run P w = .ok (.enter g (fi ++ args.map a.eval ++ ca)) w := by
            simp only [execOp, resolve, hf, Deferred.ofValue, invoke, callFunc, program, Sem.run_bind, Sem.run, Sem.run_pure, Result.andThen_ok, hfn, hnm, hbd, Bool.false_eq_true, if_false]
          rw [he, Oper.upon_enter]
          have := hc w hw
          rw [e2] at this
          refine this.mono ?_
          rintro _ w' ⟨v, μ', L', rfl, hm, hi, hkk⟩
          exact hk v μ' L' w' hm hi hkk
        · obtain ⟨v, w', μ', L', hr, hm, hi, hkk⟩ := hc w hw
          rw [e2] at hr
          unfold Oper.wp
          have he : (execOp a.eval ⟨dst, .call ⟨.value f, args, tys⟩, ty, pos, aft, gd⟩).run P w = .ok (.value v) w' := by
            simp only [execOp, resolve, hf, Deferred.ofValue, invoke, callFunc, program, mark, Sem.run_bind, Sem.run, Sem.run_pure, Result.andThen_ok, hfn, hnm, hbd, Bool.false_eq_true, if_false, if_true, hx1, hx2, hr]
          rw [he]
          exact hk v μ' L' w' hm hi hkk
      · exact h2.elim
    | builtin b =>
      simp only [vcO] at h
      have h1 := evs_sound ha h
      cases b
      case append =>
        have h3 : SemOk P (Builtin.append_ tys ty (List.map a.eval args.toList).toArray) μ L k := h1
        rw [e] at h3
        exact hS _ rfl h3
      case copy =>
        have h3 : SemOk P (Builtin.copy_ tys ty (List.map a.eval args.toList).toArray) μ L k := h1
        rw [e] at h3
        exact hS _ rfl h3
      case delete =>
        have h3 : SemOk P (Builtin.delete_ tys ty (List.map a.eval args.toList).toArray) μ L k := h1
        rw [e] at h3
        exact hS _ rfl h3
      case clear =>
        have h3 : SemOk P (Builtin.clear_ tys ty (List.map a.eval args.toList).toArray) μ L k := h1
        rw [e] at h3
        exact hS _ rfl h3
      all_goals
        refine hR ?_
        simp only [biO] at h1
        have h2 := runs_bi (P := P) (ty := ty) (cs := args.map fun | .const _ => true | _ => false) hT h1
        rw [e] at h2
        exact h2
  all_goals exact hR (vcR_sound hT ha (by simpa only [vcO] using h))
theorem opIn {o : Oper} {a : Act} {w : World} {r : Option Nat} {next : Act → World → Prop} {Q : Exit → Act → World → Prop} (hd : ∀ c, o.op ≠ .defer c) (h : o.wp P a w next Q) : o.wpIn (fw r) 0 P a w next Q := by
  refine ⟨fun _ _ => trivial, ?_⟩
  rw [Oper.semAt_eq _ _ _ hd]
  unfold Oper.wp Oper.upon at h
  unfold Oper.uponIn
  split at h <;> rename_i he
  · rw [he]; exact h
  · rw [he]; exact h
  · rw [he]; exact h
  · rw [he]; exact ⟨fun e => (by cases e), callsIn_wide.2 h⟩
  · rw [he]
    refine ⟨fun e => (by cases e), fun c cs _ => ?_⟩
    obtain ⟨v, w', hr, hs⟩ := h c cs
    exact ⟨v, w', hr, stepsIn_wide.2 hs⟩
  · rw [he]; exact h
  · exact h.elim
theorem vcO_nodefer {o : Oper} {fr : Fr} {k : Value → Gh → List Seg → Prop} (h : vcO P T o.op o.type fr μ L k) : ∀ c, o.op ≠ .defer c := by
  intro c e
  rw [e] at h
  simp only [vcO, vcR] at h
def nodO (o : Oper) : Bool := match o.op with | .defer _ => false | _ => true
def noDef : List Oper → Bool
  | [] => true
  | o :: r => nodO o && noDef r
theorem noDef_at : ∀ {ops : List Oper} {i : Nat} {o : Oper}, noDef ops = true → ops[i]? = some o → ∀ c, o.op ≠ .defer c
  | [], i, o, _, h => by simp at h
  | x :: r, 0, o, hd, h => by
    simp only [List.getElem?_cons_zero, Option.some.injEq] at h
    subst h
    intro c e
    simp only [noDef, nodO, e, Bool.false_and] at hd
    cases hd
  | x :: r, i + 1, o, hd, h => noDef_at (ops := r) (i := i) (by simp only [noDef, Bool.and_eq_true] at hd; exact hd.2) (by simpa using h)
theorem wpOps_in {ops : List Oper} {r : Option Nat} {Q : Exit → Act → World → Prop} (hd : noDef ops = true) (hQ : ¬ LetsOut Q) : ∀ (l : List Nat) (a : Act) (w : World), wpOps P ops.toArray Q l a w → wpOpsIn (fw r) 0 P ops.toArray Q l a w
  | [], a, w, h => h
  | i :: l, a, w, h => by
    simp only [wpOps] at h
    simp only [wpOpsIn]
    cases ho : ops.toArray[i]? with
    | none => rw [ho] at h; exact wpOps_in hd hQ l a w h
    | some o =>
      rw [ho] at h
      simp only at h ⊢
      by_cases hw : Region.wanted o (yielded ops.toArray a.tmps) = true
      · rw [if_pos hw] at h ⊢
        rcases h with h | ⟨_, h⟩
        · exact opIn (noDef_at hd (by simpa using ho)) (Oper.wp_mono (fun a w => wpOps_in hd hQ l a w) h)
        · exact absurd h hQ
      · rw [if_neg hw] at h ⊢
        exact ⟨fun _ _ => trivial, wpOps_in hd hQ l _ w h⟩
theorem region_in {ops : List Oper} {r : Option Nat} {Q : Exit → Act → World → Prop} {id : Nat} {a : Act} {w : World} (hm : P.follows .mixedOrders = true) (hd : r = none ∨ noDef ops = true) (hQ : ¬ LetsOut Q)
    (h : wpAny P .any ops.toArray Q ops.toArray.size (Array.replicate ops.toArray.size false) a { w with drawn := w.drawn + 1 }) : (Code.region id ops.toArray true).wpIn (fw r) 0 P Q a w := by
  rcases hd with rfl | hd
  · exact wpIn_wide.2 (wp_region_any hm h)
  · refine wpIn_region_draw fun t => ?_
    simp only [Region.schedule, hm, Bool.true_or, if_true]
    exact wpOps_in hd hQ _ _ _ (wpAny_sound _ _ _ _ _ h)
end
end Go.Proofs.YthpgjbbjpfiniaaGreat
