/- The operations that only read, the rest of them; then the one law for all. -/
import Derived.Test.YthpgjbbjpfiniaaGreatKb
namespace Go.Proofs.YthpgjbbjpfiniaaGreat
open Go.RowKit
set_option linter.unusedSimpArgs false
set_option linter.unusedVariables false
section
variable {P : Program} {T : TT} {μ : Gh} {L : List Seg}
theorem runs_un {op : UnOp} {x : Value} {k : Value → Prop} (h : unK op x k) : Runs P μ L (Op.unary op x) k := by
  unfold unK at h
  split at h
  · exact runs_pure h fun w => rfl
  · exact runs_pure h fun w => rfl
  · exact h.elim
theorem runs_conv (hT : TOk P T) {s d : TypeId} {x : Value} {k : Value → Prop} (h : convK T s d x k) : Runs P μ L (convert s d x) k := by
  unfold convK at h
  split at h
  · rename_i kd n
    split at h
    · rename_i j hj
      split at h
      · rename_i i hi
        unfold intD at h
        split at h
        · rename_i kd' hu
          obtain ⟨u, hu1, _⟩ := tyi_spec (hT s j hj)
          exact runs_pure h fun w => by simp [convert, run_und hT hi hu (by simp), run_underlying hu1 w, Conv.intToInt]
        · exact h.elim
      · exact h.elim
    · exact h.elim
  · exact h.elim
theorem foldl_setL (o : Nat) : ∀ (vs : List Value) (j : Nat) (cs : List Value),
    (((vs.zipIdx j).foldl (fun cs p => cs.setIfInBounds (o + p.2) p.1) cs.toArray) : Array Value) = (setL cs (o + j) vs).toArray
  | [], _, _ => by simp [setL]
  | v :: r, j, cs => by
    simp only [List.zipIdx_cons, List.foldl_cons, setL, List.setIfInBounds_toArray]
    exact foldl_setL o r (j + 1) _
theorem fillK_spec {pl : Nat → Option (Nat × Nat)} {k : List Value → Prop} : ∀ (parts : List (Nat × Value)) (cells : List Value), fillK pl cells parts k →
    ∃ cs, k cs ∧ Instr.fill pl cells.toArray parts = some cs.toArray
  | [], cells, h => ⟨cells, h, rfl⟩
  | p :: r, cells, h => by
    simp only [fillK] at h
    split at h
    · rename_i q hq
      obtain ⟨h1, h2, h3⟩ := h
      obtain ⟨cs, hk, hf⟩ := fillK_spec r _ h3
      refine ⟨cs, hk, ?_⟩
      rw [← hf]
      obtain ⟨i, v⟩ := p
      simp only [Instr.fill]
      simp only at hq
      rw [hq]
      simp only at h1 h2 ⊢
      have h4 : (decide (v.cells.size ≠ q.2) || decide (q.1 + v.cells.size > cells.toArray.size)) = false := by simp [h1]; exact h2
      have h5 := foldl_setL q.1 v.cells.toList 0 cells
      rw [if_neg (by simpa using h4)]
      congr 1
      rw [← Array.toList_zipIdx, Array.foldl_toList] at h5
      exact h5
    · exact h.elim
theorem str_spec {d : TypeDesc} (h : isStr d = true) : ∃ fs, d = .struct fs := by
  cases d <;> simp [isStr] at h ⊢
theorem fld_spec {P : Program} {f : Field} {x : Nat × Nat × Bool} (h : fldI P f = some x) :
    ∃ i d, P.info? f.type = some i ∧ P.underlying f.type = some d ∧ x = (f.offset, i.size, aggD d) := by
  unfold fldI at h
  split at h
  · rename_i i d hi hd
    injection h with h
    exact ⟨i, d, hi, hd, h.symm⟩
  · cases h
theorem mapM_flds (P : Program) (w : World) (g : Field → Sem (Nat × Nat)) (hg : ∀ f i, P.info? f.type = some i → (g f).run P w = .ok (f.offset, i.size) w) :
    ∀ (fs : List Field), (∀ x ∈ fs.map (fldI P), x.isSome = true) → (fs.mapM g).run P w = .ok ((fs.map (fldI P)).filterMap fun x => x.map fun y => (y.1, y.2.1)) w
  | [], _ => rfl
  | f :: fs, h => by
    have h0 := h (fldI P f) (by simp)
    obtain ⟨x, hx⟩ := Option.isSome_iff_exists.1 h0
    obtain ⟨i, d, hi, hd, rfl⟩ := fld_spec hx
    have ih := mapM_flds P w g hg fs (fun x hx => h x (by simp only [List.map_cons, List.mem_cons]; exact .inr hx))
    simp [List.mapM_cons, hg f i hi, ih, hx]
theorem filterMap_get {l : List (Option (Nat × Nat × Bool))} (h : ∀ x ∈ l, x.isSome = true) (n : Nat) :
    (l.filterMap fun x => x.map fun y => (y.1, y.2.1))[n]? = match l[n]? with | some (some x) => some (x.1, x.2.1) | _ => none := by
  induction l generalizing n with
  | nil => simp
  | cons x l ih =>
    obtain ⟨y, rfl⟩ := Option.isSome_iff_exists.1 (h x (by simp))
    cases n with
    | zero => simp
    | succ n => simpa using ih (fun x hx => h x (by simp [hx])) n
theorem runs_build (hT : TOk P T) {t : TypeId} {vs : List (Nat × Value)} {k : Value → Prop} (h : buildK T t vs k) : Runs P μ L (Instr.build t vs.toArray) k := by
  unfold buildK at h
  split at h
  · rename_i i hi
    split at h
    · rename_i hs
      obtain ⟨fs0, hfs0⟩ := str_spec hs
      obtain ⟨hall, h⟩ := h
      obtain ⟨fs, hfl, hru⟩ := run_str hT hi hfs0
      have hall' : ∀ x ∈ i.flds, x.isSome = true := by simpa using hall
      obtain ⟨cs, hk, hf⟩ := fillK_spec _ _ h
      refine runs_pure hk fun w => ?_
      have hm := mapM_flds P w (fun (f : Field) => do pure (f.offset, ← sizeOf f.type)) (fun f i hi => by simp [sizeOf, run_typeInfo w hi]) fs.toList (by rw [← hfl]; exact hall')
      have hm' : (fs.mapM fun (f : Field) => do pure (f.offset, ← sizeOf f.type)).run P w = .ok (i.flds.filterMap fun (x : Option (Nat × Nat × Bool)) => x.map fun y => (y.1, y.2.1)).toArray w := by
        rw [Array.mapM_eq_mapM_toList, Sem.run_map, hm, hfl]
        rfl
      have hpl : (fun n => (i.flds.filterMap fun (x : Option (Nat × Nat × Bool)) => x.map fun y => (y.1, y.2.1)).toArray[n]?) = plOf i := by
        funext n
        simp only [List.getElem?_toArray, filterMap_get hall' n, plOf]
        rfl
      simp only [Instr.build, Sem.run_bind, run_zero hT hi, Result.andThen_ok, hru, hm', hpl]
      have hz : i.zero.cells.toList.toArray = i.zero.cells := by simp
      rw [hz] at hf
      simp [hf]
    · exact h.elim
  · exact h.elim
theorem runs_fa (hT : TOk P T) {s : TypeId} {v : Value} {f : Nat} {k : Value → Prop} (h : faK T s v f k) : Runs P μ L (Instr.fieldAt s v f) k := by
  unfold faK at h
  split at h
  · rename_i a
    split at h
    · rename_i i hi
      split at h
      · rename_i hs
        obtain ⟨fs0, hfs0⟩ := str_spec hs
        obtain ⟨fs, hfl, hru⟩ := run_str hT hi hfs0
        split at h
        · rename_i x hx
          obtain ⟨hne, h⟩ := h
          rw [hfl] at hx
          simp only [List.getElem?_map, Option.map_eq_some_iff] at hx
          obtain ⟨fd, hfd, hfx⟩ := hx
          obtain ⟨j, d, hj, hd, rfl⟩ := fld_spec hfx
          refine runs_pure h fun w => ?_
          have hfd' : fs[f]? = some fd := by simpa using hfd
          simp only at hne
          simp [Instr.fieldAt, hru, hfd', Instr.sureAddr, fieldPlace, sizeOf, run_typeInfo w hj, hne]
        · exact h.elim
      · exact h.elim
    · exact h.elim
  · exact h.elim
theorem runs_field (hT : TOk P T) {s : TypeId} {v : Value} {f : Nat} {k : Value → Prop} (h : fieldK T s v f k) : Runs P μ L (Instr.field s v f) k := by
  unfold fieldK at h
  split at h
  · rename_i cs
    split at h
    · rename_i i hi
      split at h
      · rename_i hs
        obtain ⟨fs0, hfs0⟩ := str_spec hs
        obtain ⟨fs, hfl, hru⟩ := run_str hT hi hfs0
        split at h
        · rename_i x hx
          rw [hfl] at hx
          simp only [List.getElem?_map, Option.map_eq_some_iff] at hx
          obtain ⟨fd, hfd, hfx⟩ := hx
          obtain ⟨j, d, hj, hd, rfl⟩ := fld_spec hfx
          have hfd' : fs[f]? = some fd := by simpa using hfd
          have hag : ∀ w, (isAgg fd.type).run P w = .ok (aggD d) w := fun w => by
            simp only [isAgg, Sem.run_bind, run_underlying hd w, Result.andThen_ok]
            cases d <;> rfl
          simp only at h
          split at h
          · rename_i ha
            exact runs_pure h fun w => by simp [Instr.field, hru, hfd', asAgg, part, hag, ha, sizeOf, run_typeInfo w hj]
          · rename_i ha
            obtain ⟨u, hu, h⟩ := h
            exact runs_pure h fun w => by simp [Instr.field, hru, hfd', asAgg, part, hag, ha, hu]
        · exact h.elim
      · exact h.elim
    · exact h.elim
  · exact h.elim
theorem elemK_spec {t : TypeId} {k : TypeId → TyI → Prop} (h : elemK T t k) : ∃ i e j, T t = some i ∧ i.u = .slice e ∧ T e = some j ∧ k e j := by
  unfold elemK at h
  split at h
  · rename_i i hi
    split at h
    · rename_i e he
      split at h
      · rename_i j hj
        exact ⟨i, e, j, hi, he, hj, h⟩
      · exact h.elim
    · exact h.elim
  · exact h.elim
theorem runs_ia (hT : TOk P T) {t : TypeId} {x n : Value} {k : Value → Prop} (h : iaK T t x n k) : Runs P μ L (Instr.indexAt t x n) k := by
  unfold iaK at h
  split at h
  · rename_i a kd i
    unfold arrK at h
    split at h
    · rename_i d hd
      split at h
      · rename_i n e hu
        split at h
        · rename_i j hj
          obtain ⟨h1, h2, hk⟩ := h
          exact runs_pure hk fun w => by simp [Instr.indexAt, Instr.sureAddr, asIntOf, run_und hT hd hu (by simp), h1, h2, run_size hT hj]
        · exact h.elim
      · exact h.elim
    · exact h.elim
  · rename_i A len c kd i
    obtain ⟨d, e, j, hd, hu, hj, h1, h2, a, rfl, hk⟩ := elemK_spec h
    exact runs_pure hk fun w => by simp [Instr.indexAt, asIntOf, run_und hT hd hu (by simp), h1, h2, run_size hT hj]
  · exact h.elim
theorem runs_ext {v : Value} {i : Nat} {k : Value → Prop} (h : extK v i k) : Runs P μ L (Instr.extract v i) k := by
  unfold extK at h
  split at h
  · split at h
    · rename_i u hu
      exact runs_pure h fun w => by simp [Instr.extract, hu]
    · exact h.elim
  · exact h.elim
theorem bnd_spec {v : Option Value} {dflt y : Nat} {k : Nat → Prop} (h : bndK v dflt y k) :
    ∃ n, k n ∧ (v = none → n = dflt) ∧ (∀ u, v = some u → ∀ c w, (Instr.sliceBound u y c).run P w = .ok n w) := by
  unfold bndK at h
  split at h
  · exact ⟨_, h, fun _ => rfl, (fun u hu => by cases hu)⟩
  · obtain ⟨h1, h2, h3⟩ := h
    refine ⟨_, h3, (fun hu => by cases hu), fun u hu c w => ?_⟩
    cases hu
    simp [Instr.sliceBound, asIntOf, h1, h2]
  · exact h.elim
theorem runs_slice (hT : TOk P T) {t : TypeId} {x : Value} {lo hi mx : Option Value} {k : Value → Prop} (h : sliceK T t x lo hi mx k) :
    Runs P μ L (Instr.sliceAt t x lo hi mx) k := by
  unfold sliceK at h
  split at h
  · rename_i A len cap
    obtain ⟨d, e, j, hd, hu, hj, h⟩ := elemK_spec h
    obtain ⟨m, h, hm1, hm2⟩ := bnd_spec (P := P) h
    obtain ⟨l, h, hl1, hl2⟩ := bnd_spec (P := P) h
    refine runs_pure h fun w => ?_
    have hb : (Instr.sliceBounds true len cap lo hi none).run P w = .ok (l, m, cap) w := by
      cases lo <;> cases hi <;> simp_all [Instr.sliceBounds]
    simp [Instr.sliceAt, Instr.slice, run_und hT hd hu (by simp), hb, run_size hT hj]
  · rename_i A len cap kq q
    obtain ⟨d, e, j, hd, hu, hj, hq1, hq2, h⟩ := elemK_spec h
    cases hi with
    | none => exact h.elim
    | some hv =>
      obtain ⟨m, h, hm1, hm2⟩ := bnd_spec (P := P) h
      obtain ⟨l, h, hl1, hl2⟩ := bnd_spec (P := P) h
      have hq : ∀ c w, (Instr.sliceBound (.int kq q) cap c).run P w = .ok q.toNat w := fun c w => by simp [Instr.sliceBound, asIntOf, hq1, hq2]
      refine runs_pure h fun w => ?_
      have hb : (Instr.sliceBounds true len cap lo (some hv) (some (.int kq q))).run P w = .ok (l, m, q.toNat) w := by
        cases lo with
        | none =>
          have := hl1 rfl
          subst this
          simp [Instr.sliceBounds, hq, hm2 hv rfl]
        | some lv => simp [Instr.sliceBounds, hq, hm2 hv rfl, hl2 lv rfl]
      simp [Instr.sliceAt, Instr.slice, run_und hT hd hu (by simp), hb, run_size hT hj]
  · exact h.elim
theorem runs_minmax {b : Bool} {tys : Array TypeId} {ty : TypeId} {vs : List Value} {k : Value → Prop} (h : minmaxK b vs k) :
    Runs P μ L (if b then Builtin.max_ tys ty vs.toArray else Builtin.min_ tys ty vs.toArray) k := by
  unfold minmaxK at h
  split at h
  · split at h
    · exact runs_pure h fun w => by simp [Builtin.max_, Builtin.max2]
    · exact runs_pure h fun w => by simp [Builtin.min_, Builtin.min2]
  · exact h.elim
theorem map_spec {d : TypeDesc} (h : (match d with | .map _ _ => true | _ => false) = true) : ∃ a b, d = .map a b := by
  cases d <;> simp at h ⊢
theorem string_spec {d : TypeDesc} (h : (match d with | .string => true | _ => false) = true) : d = .string := by
  cases d <;> simp at h ⊢
theorem slc_spec {d : TypeDesc} (h : isSlc d = true) : ∃ a, d = .slice a := by
  cases d <;> simp [isSlc] at h ⊢
theorem run_getObj (w : World) (r : Nat) (o : Obj) (hc : ∀ a b c, o ≠ .cells a b c) (h : w.heap[r]? = some o) : (getObj r).run P w = .ok o w := by
  cases o <;> first | exact absurd rfl (hc _ _ _) | simp only [getObj, Sem.run, h]
theorem runs_len (hT : TOk P T) {t ty : TypeId} {v : Value} {k : Value → Prop} (h : lenK T t v μ L k) : Runs P μ L (Builtin.len_ #[t] ty #[v]) k := by
  unfold lenK at h
  split at h
  · obtain ⟨i, hi, hf, h⟩ := descK_spec h
    obtain ⟨e, hd⟩ := slc_spec hf
    exact runs_pure h fun w => by simp [Builtin.len_, run_und hT hi hd (by simp), goInt]
  · obtain ⟨i, hi, hf, h⟩ := descK_spec h
    obtain ⟨a, b, hd⟩ := map_spec hf
    exact runs_pure h fun w => by simp [Builtin.len_, run_und hT hi hd (by simp), goInt]
  · obtain ⟨i, hi, hf, es, ⟨c, ho⟩, h⟩ := descK_spec h
    obtain ⟨a, b, hd⟩ := map_spec hf
    refine ⟨_, h, fun w hw => ?_⟩
    simp [Builtin.len_, run_und hT hi hd (by simp), goInt, run_getObj w _ _ (by simp) (hw.obj ho)]
  · obtain ⟨i, hi, hf, h⟩ := descK_spec h
    have hd := string_spec hf
    exact runs_pure h fun w => by simp [Builtin.len_, run_und hT hi hd (by simp), goInt]
  · exact h.elim
theorem runs_cap (hT : TOk P T) {t ty : TypeId} {v : Value} {k : Value → Prop} (h : capK T t v k) : Runs P μ L (Builtin.cap_ #[t] ty #[v]) k := by
  unfold capK at h
  split at h
  · obtain ⟨i, hi, hf, h⟩ := descK_spec h
    obtain ⟨e, hd⟩ := slc_spec hf
    exact runs_pure h fun w => by simp [Builtin.cap_, run_und hT hi hd (by simp), goInt]
  · exact h.elim
def RunsN (P : Program) (μ : Gh) (L : List Seg) (s : Sem Next) (k : Value → Prop) : Prop := ∃ v, k v ∧ ∀ w, Holds w μ L → s.run P w = .ok (.value v) w
theorem Runs.next {s : Sem Value} {k : Value → Prop} (h : Runs P μ L s k) : RunsN P μ L (do pure (.value (← s))) k := by
  obtain ⟨v, hk, hr⟩ := h
  exact ⟨v, hk, fun w hw => by simp [hr w hw]⟩
theorem runs_bi (hT : TOk P T) {b : Builtin} {tys : Array TypeId} {ty : TypeId} {cs : Array Bool} {vs : List Value} {k : Value → Prop} (h : biK T b tys.toList vs μ L k) :
    RunsN P μ L (builtin b tys ty cs vs.toArray) k := by
  unfold biK at h
  split at h
  · rename_i t v hts
    have : tys = #[t] := by rw [← Array.toList_inj]; simp [hts]
    subst this
    exact (runs_len hT h).next
  · rename_i t v hts
    have : tys = #[t] := by rw [← Array.toList_inj]; simp [hts]
    subst this
    exact (runs_cap hT h).next
  · exact (runs_minmax (tys := tys) (ty := ty) (P := P) (μ := μ) (L := L) h).next
  · exact (runs_minmax (tys := tys) (ty := ty) (P := P) (μ := μ) (L := L) h).next
  · exact h.elim
theorem findNow_I (kd : IntKind) (n : Int) : ∀ (es : List MapEntry) (i : Nat), intKeys kd es →
    ∃ r, Instr.findNow (.int kd) (.int kd n) es i = some r ∧ r.map (·.2) = findI n es
  | [], i, _ => ⟨none, rfl, rfl⟩
  | e :: es, i, h => by
    obtain ⟨m, hm⟩ := h e (by simp)
    obtain ⟨r, h1, h2⟩ := findNow_I kd n es (i + 1) (fun e he => h e (by simp [he]))
    by_cases hn : m = n
    · subst hn
      exact ⟨some (i, e.val), by simp [Instr.findNow, Instr.sameNow, hm], by simp [findI, hm]⟩
    · refine ⟨r, ?_, by simp [findI, hm, hn, h2]⟩
      have : (n == m) = false := by simpa using fun e => hn e.symm
      simp [Instr.findNow, Instr.sameNow, hm, this, h1]
theorem run_checkKey (hT : TOk P T) {t : TypeId} {i : TyI} (hi : T t = some i) {kd : IntKind} (hu : i.u = .int kd) (b : Bool) (n : Nat) (v : Value) (w : World) :
    (Instr.checkKey b (n + 1) t v).run P w = .ok () w := by
  simp only [Instr.checkKey, Sem.run_bind, run_und hT hi hu (by simp), Result.andThen_ok]
  cases v <;> rfl
theorem runs_look (hT : TOk P T) {t : TypeId} {m key : Value} {ok : Bool} {k : Value → Prop} (h : lookK P T t m key ok μ L k) : Runs P μ L (Instr.lookup t m key ok) k := by
  unfold lookK at h
  split at h
  · rename_i kd n
    split at h
    · rename_i i hi
      split at h
      · rename_i kt et hu
        split at h
        · rename_i ik hik
          unfold intD at h
          split at h
          · rename_i kd' hku
            obtain ⟨rfl, h'⟩ := sameK_spec h
            clear h
            split at h'
            · rename_i ie hie
              split at h'
              · refine runs_pure h' fun w => ?_
                have hc : (Instr.checkKey true 10000 kt (.int kd n)).run P w = .ok () w := run_checkKey hT hik hku true 9999 (.int kd n) w
                cases ok <;> simp [Instr.lookup, run_und hT hi hu (by simp), hc, Instr.findKey, run_und hT hik hku (by simp), Instr.findNow, run_zero hT hie, okK]
              · rename_i r
                obtain ⟨x, ⟨es, c, ho, hks, hx⟩, hk⟩ := h'
                obtain ⟨rr, hr1, hr2⟩ := findNow_I kd n es.toList 0 hks
                cases hf : findI n es.toList with
                | none =>
                  rw [hf] at hx
                  subst hx
                  have hrn : rr = none := by cases rr with | none => rfl | some x => rw [hf] at hr2; cases hr2
                  subst hrn
                  refine ⟨_, hk, fun w hw => ?_⟩
                  have hc : (Instr.checkKey es.isEmpty 10000 kt (.int kd n)).run P w = .ok () w := run_checkKey hT hik hku es.isEmpty 9999 (.int kd n) w
                  cases ok <;> simp [Instr.lookup, run_und hT hi hu (by simp), run_getObj w _ _ (by simp) (hw.obj ho), hc, Instr.findKey, run_und hT hik hku (by simp), hr1, run_zero hT hie, okK]
                | some v =>
                  rw [hf] at hx
                  subst hx
                  obtain ⟨x, rfl, hx⟩ : ∃ x, rr = some x ∧ x.2 = v := by
                    cases rr with
                    | none => rw [hf] at hr2; cases hr2
                    | some x => rw [hf] at hr2; exact ⟨x, rfl, by simpa using hr2⟩
                  refine ⟨_, hk, fun w hw => ?_⟩
                  have hc : (Instr.checkKey es.isEmpty 10000 kt (.int kd n)).run P w = .ok () w := run_checkKey hT hik hku es.isEmpty 9999 (.int kd n) w
                  cases ok <;> simp [Instr.lookup, run_und hT hi hu (by simp), run_getObj w _ _ (by simp) (hw.obj ho), hc, Instr.findKey, run_und hT hik hku (by simp), hr1, okK, hx]
              · exact h'.elim
            · exact h'.elim
          · exact h.elim
        · exact h.elim
      · exact h.elim
    · exact h.elim
  · obtain ⟨v, hv, hk⟩ := h
    exact ⟨v, hk, hv⟩
  · exact h.elim
theorem vcR_sound (hT : TOk P T) {N : NN} {fr : Fr} {a : Act} (ha : Agr N fr a) {o : Oper} {k : Value → Prop} (h : vcR P T o.op fr μ L k) :
    RunsN P μ L (execOp a.eval o) k := by
  obtain ⟨dst, op, ty, pos, aft, gd⟩ := o
  unfold vcR at h
  cases op <;> simp only at h
  case move x => exact ⟨_, ev_sound ha h, fun w _ => rfl⟩
  case assign x => exact ⟨_, ev_sound ha h, fun w _ => rfl⟩
  case pick c x y =>
    have h1 := ev_sound ha h
    revert h1
    cases hc : a.eval c <;> simp only [pickK, false_implies]
    rename_i b
    cases b
    · exact fun h => ⟨_, ev_sound ha h, fun w _ => by simp [execOp, hc, asBool]⟩
    · exact fun h => ⟨_, ev_sound ha h, fun w _ => by simp [execOp, hc, asBool]⟩
  case load t x => exact (runs_load hT (ev_sound ha h)).next
  case nilCheck x =>
    have h1 := ev_sound ha h
    unfold nilK at h1
    split at h1
    · rename_i p hp
      exact ⟨_, h1, fun w _ => by simp [execOp, hp]⟩
    · rename_i f fi ca hp
      exact ⟨_, h1, fun w _ => by simp [execOp, hp]⟩
    · exact h1.elim
  case binOp op t x y yt =>
    have h1 := ev_sound ha h
    have h2 := ev_sound ha (k := fun b => binK P T op t (a.eval x) b k) h1
    obtain ⟨v, hk, hr⟩ := runs_bin (ox := x) (oy := y) hT h2 (μ := μ) (L := L)
    exact ⟨v, hk, fun w hw => by
      have := hr w hw
      simp only [Sem.run_bind] at this
      simp only [execOp, Sem.run_bind, this, Result.andThen_ok, Sem.run_pure]⟩
  case unOp op t x => exact (runs_un (ev_sound ha h)).next
  case convert s d x => exact (runs_conv hT (ev_sound ha h)).next
  case build t ps =>
    have h1 := evp_sound ha h
    have := (runs_build (μ := μ) (L := L) hT h1).next
    have e : (ps.toList.map fun p => (p.1, a.eval p.2)).toArray = ps.map fun p => (p.1, a.eval p.2) := by
      rw [← Array.toList_inj]; simp
    rw [e] at this
    exact this
  case fieldAddr s x f => exact (runs_fa hT (ev_sound ha h)).next
  case field s x f => exact (runs_field hT (ev_sound ha h)).next
  case indexAddr t x i =>
    have h1 := ev_sound ha h
    exact (runs_ia hT (ev_sound ha (k := fun b => iaK T t (a.eval x) b k) h1)).next
  case extract x i => exact (runs_ext (ev_sound ha h)).next
  case makeFunc fn fi ca =>
    have h1 := evs_sound ha h
    have h2 := evs_sound ha (k := fun b => k (.func fn (fi.toList.map a.eval).toArray b.toArray)) h1
    refine ⟨_, h2, fun w _ => ?_⟩
    have e : ∀ l : Array Operand, (l.toList.map a.eval).toArray = l.map a.eval := fun l => by rw [← Array.toList_inj]; simp
    simp only [execOp, Instr.makeFunc, e]
    rfl
  case slice t x lo hi mx =>
    have h1 := ev_sound ha h
    have h2 := evo_sound ha (k := fun l => evo fr hi fun h => evo fr mx fun m => sliceK T t (a.eval x) l h m k) h1
    have h3 := evo_sound ha (k := fun h => evo fr mx fun m => sliceK T t (a.eval x) (lo.map a.eval) h m k) h2
    have h4 := evo_sound ha (k := fun m => sliceK T t (a.eval x) (lo.map a.eval) (hi.map a.eval) m k) h3
    exact (runs_slice hT h4).next
  case lookup t m i ok =>
    have h1 := ev_sound ha h
    exact (runs_look hT (ev_sound ha (k := fun n => lookK P T t (a.eval m) n ok μ L k) h1)).next
  case index t x i =>
    have h1 := ev_sound ha h
    obtain ⟨v, hv, hk⟩ := ev_sound ha (k := fun n => Ex (PureRun P (Instr.index t (a.eval x) n)) k) h1
    exact ⟨v, hk, fun w _ => by simp only [execOp, Sem.run_bind, hv w, Result.andThen_ok, Sem.run_pure]⟩
  case call c =>
    split at h
    · rename_i b hb
      have h1 := evs_sound ha h
      have h2 := runs_bi (P := P) (ty := ty) (cs := c.args.map fun | .const _ => true | _ => false) hT h1
      obtain ⟨v, hk, hr⟩ := h2
      refine ⟨v, hk, fun w hw => ?_⟩
      have e : (c.args.toList.map a.eval).toArray = c.args.map a.eval := by rw [← Array.toList_inj]; simp
      have := hr w hw
      rw [e] at this
      simp only [execOp, resolve, hb, Sem.run_bind, Sem.run_pure, Result.andThen_ok, invoke]
      exact this
    · exact h.elim
  all_goals exact h.elim
end
end Go.Proofs.YthpgjbbjpfiniaaGreat
