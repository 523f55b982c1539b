/- Strings, maps with strings as keys, maps of slices that are kept, clear, and scopes. Nothing of the program is named here. -/
import Derived.Test.YthpgjbbjpfiniaaGreatGx
import Derived.Test.YthpgjbbjpfiniaaGreatKj
import Derived.Scope
import Derived.Laws.StructEq
namespace Go.Proofs.YthpgjbbjpfiniaaGreat
open Go.RowKit
set_option linter.unusedSimpArgs false
set_option linter.unusedVariables false
theorem ba_beq (a b : ByteArray) : (a == b) = decide (a = b) := by
  rw [beq_toListBytes, Bool.eq_iff_iff, decide_eq_true_iff, beq_iff_eq]
  refine ⟨fun h => ?_, fun h => by rw [h]⟩
  rw [ByteArray.toList_eq, ByteArray.toList_eq] at h
  cases a; cases b
  congr 1
  exact Array.toList_inj.1 h
theorem ba_self (a : ByteArray) : (a == a) = true := by rw [ba_beq]; simp
def getB (s : ByteArray) (n : Int) : Option Int := if 0 ≤ n then (s[n.toNat]?).map fun b => ((b.toNat : Nat) : Int) else none
section
variable {P : Program} {T : TT} {N : NN} {K : Kont} {B : Nat → Kont} {R : Kont} {fr : Fr} {μ : Gh} {L : List Seg}
theorem stepR_scope {b : Frame} {a : Act} {k : List Item} {cs : List Frame} {w : World} {c : Code} : step P (lone (b.atR a (.code (.scope c) :: k)) cs w) = .next (lone (b.atR a (.code c :: .inScope c :: k)) cs w) :=
  step_lone_go (by simp [stepG, stepG.exec, Frame.atR])
theorem stepR_inScope {b : Frame} {a : Act} {k : List Item} {cs : List Frame} {w : World} {c : Code} : step P (lone (b.atR a (.inScope c :: k)) cs w) = .next (lone (b.atR a k) cs w) :=
  step_lone_go (by simp [stepG, stepG.exec, Frame.atR])
theorem WP.scope {c : Code} (h : WP P N c K B R fr μ L) : WP P N (.scope c) K B R fr μ L := fun a w ha hw => by
  intro b k cs hro hb hr
  obtain ⟨e, a₁, w₁, hq, harr⟩ := h a w ha hw b (.inScope c :: k) cs hro hb hr
  have h0 := fenced_calm (P := P) (fr := b.atR a (.code (.scope c) :: k)) (w := w) hb hr rfl
  cases e with
  | normal => exact ⟨.normal, a₁, w₁, hq, .head h0 stepR_scope (StepsIn.trans harr (.one (fenced_calm (fr := b.atR a₁ (.inScope c :: k)) hb hr rfl) stepR_inScope))⟩
  | exit id =>
    have hx : exitTo id (.inScope c :: k) = exitTo id k := by simp [exitTo]
    exact ⟨.exit id, a₁, w₁, hq, fun k' hk => .head h0 stepR_scope (harr.1 k' (by rw [hx]; exact hk)),
      fun hr' hk => let ⟨k₁, h1, h2⟩ := harr.2 hr' (by rw [hx]; exact hk); ⟨k₁, h1, .head h0 stepR_scope h2⟩⟩
  | ret => exact ⟨_, a₁, w₁, hq, .of_steps (.one h0 stepR_scope) harr⟩
  | _ => exact hq.elim
theorem WP.label {l : Nat} (h : K fr μ L) : WP P N (.label l) K B R fr μ L := fun a w ha hw => wpIn_label ⟨fr, μ, L, ha, Gh.le.refl _, hw, h⟩
end
section
variable {P : Program} {T : TT} {fr : Fr} {μ : Gh} {L : List Seg} {k : Value → Prop} {t yt : TypeId} {x y : Operand} {i : TyI}
theorem R_idxB (hT : TOk P T) {s : ByteArray} {kd : IntKind} {n b : Int} (h : evV fr x = some (.string s)) (h2 : evV fr y = some (.int kd n)) (ht : T t = some i) (hu : i.u = .string) (hb : getB s n = some b) (hk : k (.int .u8 b)) : vcR P T (.index t x y) fr μ L k := by
  refine ev_of (k := fun v => ev fr y fun n => Ex (PureRun P (Instr.index t v n)) k) h (ev_of (k := fun n => Ex (PureRun P (Instr.index t (.string s) n)) k) h2 ⟨_, fun w => ?_, hk⟩)
  unfold getB at hb
  split at hb
  · rename_i h0
    cases hx : s[n.toNat]? with
    | none => rw [hx] at hb; cases hb
    | some c =>
      rw [hx] at hb
      simp only [Option.map_some, Option.some.injEq] at hb
      subst hb
      simp [Instr.index, asIntOf, run_und hT ht hu (by simp), h0, hx]
  · cases hb
theorem R_eqF (hT : TOk P T) {f : Go.Fn} {fi ca : Array Value} {p r : Array TypeId} {vr : Bool} (h : evV fr x = some (.func f fi ca)) (h2 : evV fr y = some .nilFunc) (ht : T t = some i) (hu : i.u = .func p r vr) (hk : k (.bool false)) : vcR P T (.binOp .eql t x y yt) fr μ L k := by
  refine ev_of (k := fun v => ev fr y fun u => binK P T .eql t v u k) h (ev_of (k := fun u => binK P T .eql t (.func f fi ca) u k) h2 ⟨_, fun w => ?_, hk⟩)
  have hq : ∀ d, (Op.equalIn (d + 1) t (.func f fi ca) .nilFunc).run P w = .ok false w := fun d => by
    rw [Op.equalIn]
    simp [run_und hT ht hu (by simp)]
  have hq := hq 9999
  have h3 : binOp .eql t (.func f fi ca) .nilFunc = (do pure (.bool (← Op.equal t (.func f fi ca) .nilFunc))) := rfl
  have h4 : Op.equal t (.func f fi ca) .nilFunc = Op.equalIn (9999 + 1) t (.func f fi ca) .nilFunc := rfl
  have hg : (eqGuard .eql t (.tmp 0) (.tmp 0) (.func f fi ca) .nilFunc) = pure () := rfl
  rw [h3, h4, hg, Sem.run_bind, Sem.run_pure, Result.andThen_ok, Sem.run_bind, hq, Result.andThen_ok, Sem.run_pure]
end
theorem run_checkKeyS {P : Program} {T : TT} (hT : TOk P T) {t : TypeId} {i : TyI} (hi : T t = some i) (hu : i.u = .string) (b : Bool) (n : Nat) (v : Value) (w : World) :
    (Instr.checkKey b (n + 1) t v).run P w = .ok () w := by
  simp only [Instr.checkKey, Sem.run_bind, run_und hT hi hu (by simp), Result.andThen_ok]
  cases v <;> rfl
structure MapS (es : Array MapEntry) (c : Nat) (m : List (ByteArray × Value)) : Prop where
  ps : es.toList.map (fun e => (e.key, e.val)) = m.map (fun p => (Value.string p.1, p.2))
  nd : (m.map (·.1)).Nodup
  born : (es.toList.map (·.born)).Nodup
  lt : ∀ e ∈ es.toList, e.born < c
def sfind (n : ByteArray) : List (ByteArray × Value) → Option Value
  | [] => none
  | p :: r => if p.1 = n then some p.2 else sfind n r
def sset (n : ByteArray) (v : Value) : List (ByteArray × Value) → List (ByteArray × Value)
  | [] => [(n, v)]
  | p :: r => if p.1 = n then (n, v) :: r else p :: sset n v r
theorem MapS.nil : MapS #[] 0 [] := ⟨rfl, List.nodup_nil, List.nodup_nil, by simp⟩
theorem MapS.size {es : Array MapEntry} {c : Nat} {m : List (ByteArray × Value)} (h : MapS es c m) : es.size = m.length := by
  have := congrArg List.length h.ps
  simpa using this
theorem findNow_atS (n : ByteArray) : ∀ (es : List MapEntry) (i : Nat) {m : List (ByteArray × Value)}, es.map (fun e => (e.key, e.val)) = m.map (fun p => (Value.string p.1, p.2)) →
    (Instr.findNow .string (.string n) es i = some none ∧ sfind n m = none) ∨
    ∃ j v, Instr.findNow .string (.string n) es i = some (some (i + j, v)) ∧ sfind n m = some v ∧ j < es.length ∧ (es[j]?).map (·.key) = some (.string n) ∧
      ∀ u, sset n u m = m.set j (n, u)
  | [], i, [], _ => .inl ⟨rfl, rfl⟩
  | [], i, p :: m, h => by simp at h
  | e :: es, i, [], h => by simp at h
  | e :: es, i, p :: m, h => by
    simp only [List.map_cons, List.cons.injEq, Prod.mk.injEq] at h
    obtain ⟨⟨h1, h2⟩, h3⟩ := h
    by_cases hn : p.1 = n
    · refine .inr ⟨0, e.val, ?_, by simp [sfind, hn, h2], by simp, by simp [h1, hn], fun u => by simp [sset, hn]⟩
      simp [Instr.findNow, Instr.sameNow, h1, hn, ba_self]
    · have hne : (n == p.1) = false := by rw [ba_beq, decide_eq_false_iff_not]; exact fun e => hn e.symm
      rcases findNow_atS n es (i + 1) h3 with ⟨h4, h5⟩ | ⟨j, v, h4, h5, h6, h7, h8⟩
      · exact .inl ⟨by simp [Instr.findNow, Instr.sameNow, h1, hne, h4], by simp [sfind, hn, h5]⟩
      · refine .inr ⟨j + 1, v, ?_, by simp [sfind, hn, h5], by simp; omega, by simpa using h7, fun u => by simp [sset, hn, h8 u]⟩
        simp only [Instr.findNow, Instr.sameNow, h1, if_true, hne, h4]
        congr 3
        omega
theorem sset_new (n : ByteArray) (u : Value) : ∀ {m : List (ByteArray × Value)}, sfind n m = none → sset n u m = m ++ [(n, u)] ∧ n ∉ m.map (·.1)
  | [], _ => ⟨rfl, by simp⟩
  | p :: m, h => by
    simp only [sfind] at h
    by_cases hn : p.1 = n
    · rw [if_pos hn] at h; cases h
    · rw [if_neg hn] at h
      obtain ⟨h1, h2⟩ := sset_new n u h
      refine ⟨by simp [sset, hn, h1], ?_⟩
      simp only [List.map_cons, List.mem_cons, not_or]
      exact ⟨fun e => hn e.symm, h2⟩
theorem MapS.push {es : Array MapEntry} {c : Nat} {m : List (ByteArray × Value)} (h : MapS es c m) {n : ByteArray} {v : Value} (hn : sfind n m = none) :
    MapS (es.push { key := .string n, val := v, born := c }) (c + 1) (sset n v m) := by
  obtain ⟨h1, h2⟩ := sset_new n v hn
  refine ⟨by rw [h1]; simp [h.ps], by rw [h1]; simp [List.nodup_append]; exact ⟨h.nd, fun a b hb e => h2 (by subst e; simp; exact ⟨b, hb⟩)⟩, ?_, ?_⟩
  · simp [List.nodup_append]
    refine ⟨h.born, fun e he hb => ?_⟩
    have := h.lt e (by simpa using he)
    omega
  · intro e he
    simp at he
    rcases he with he | rfl
    · have := h.lt e (by simpa using he); omega
    · simp
theorem MapS.put {es : Array MapEntry} {c : Nat} {m : List (ByteArray × Value)} (h : MapS es c m) {n : ByteArray} {v : Value} {j : Nat}
    (hj : (es.toList[j]?).map (·.key) = some (.string n)) (hs : sset n v m = m.set j (n, v)) (hjl : j < es.size) :
    MapS (es.modify j fun e => { e with key := .string n, val := v }) c (sset n v m) := by
  have hl := h.size
  refine ⟨?_, ?_, ?_, ?_⟩
  · have h1 := map_modify_set (fun e : MapEntry => (e.key, e.val)) (fun e => { e with key := .string n, val := v }) es.toList j (Value.string n, v) (fun x _ => rfl)
    rw [Array.toList_modify, h1, h.ps, hs, List.map_set]
  · have hk : (m.set j (n, v)).map (·.1) = m.map (·.1) := by
      apply List.ext_getElem?
      intro i
      simp only [List.getElem?_map, List.getElem?_set]
      by_cases hij : j = i
      · subst hij
        have h1 := congrArg (fun l => l[j]?) h.ps
        simp only [List.getElem?_map] at h1
        have hjm : j < m.length := by omega
        cases hx : es.toList[j]? with
        | none => rw [hx] at hj; cases hj
        | some x =>
          rw [hx] at hj h1
          simp only [Option.map_some, Option.some.injEq] at hj
          rw [List.getElem?_eq_getElem hjm] at h1 ⊢
          simp only [Option.map_some, Option.some.injEq, Prod.mk.injEq, hj, Value.string.injEq, true_and] at h1
          simp [hjm, h1.1]
      · simp [hij]
    rw [hs, hk]; exact h.nd
  · have h1 := map_modify_same (fun e : MapEntry => e.born) (fun e => { e with key := .string n, val := v }) es.toList j (fun x _ => rfl)
    rw [Array.toList_modify, h1]; exact h.born
  · intro e he
    rw [Array.toList_modify] at he
    obtain ⟨i, hi⟩ := List.getElem?_of_mem he
    rw [List.getElem?_modify] at hi
    cases hx : es.toList[i]? with
    | none => rw [hx] at hi; cases hi
    | some x =>
      rw [hx] at hi
      have := h.lt x (List.mem_of_getElem? hx)
      by_cases hji : j = i
      · simp [hji] at hi; subst hi; exact this
      · simp [hji] at hi; subst hi; exact this
section
variable {P : Program} {T : TT} {μ : Gh} {L : List Seg}
theorem semu_mapSetS (hT : TOk P T) {t kt et : TypeId} {it ik : TyI} (ht : T t = some it) (hu : it.u = .map kt et) (hkt : T kt = some ik) (hku : ik.u = .string)
    (i j : Nat) {s : Seg} {r : Nat} {es : Array MapEntry} {c : Nat} {m : List (ByteArray × Value)} (hi : L[i]? = some s) (hj : s[j]? = some (r, .map es c)) (hm : MapS es c m) {n : ByteArray} {v : Value} {k : Gh → List Seg → Prop}
    (hk : ∀ es' c', MapS es' c' (sset n v m) → k μ (L.set i (s.set j (r, .map es' c')))) : SemU P (Instr.mapUpdate t (.map (some r)) (.string n) v) μ L k := by
  intro w hw
  have hb : w.heap[r]? = some (.map es c) := hw.own (r, _) (List.mem_flatten.2 ⟨s, List.mem_of_getElem? hi, List.mem_of_getElem? hj⟩)
  have hc : ∀ b, (Instr.checkKey b 10000 kt (.string n)).run P w = .ok () w := fun b => run_checkKeyS hT hkt hku b 9999 _ w
  rcases findNow_atS n es.toList 0 hm.ps with ⟨h1, h2⟩ | ⟨jj, x, h1, h2, h3, h4, h5⟩
  · refine ⟨_, μ, _, ?_, Gh.le.refl _, hw.updObj hi hj (o' := .map (es.push { key := .string n, val := v, born := c }) (c + 1)), hk _ _ (hm.push h2)⟩
    simp only [Instr.mapUpdate, Sem.run_bind, run_und hT ht hu (by simp), Result.andThen_ok, run_getObj w _ _ (by simp) hb, hc, Instr.findKey, run_und hT hkt hku (by simp), h1, Sem.run_pure, run_setObj w r _ _ (by simp) hb]
  · have hjl : jj < es.size := by simpa using h3
    refine ⟨_, μ, _, ?_, Gh.le.refl _, hw.updObj hi hj (o' := .map (es.modify jj fun e => { e with key := .string n, val := v }) c), hk _ _ (hm.put h4 (h5 v) hjl)⟩
    have hold : ((es[jj]?).map (·.key)).getD (.string n) = .string n := by
      have : (es[jj]?).map (·.key) = some (.string n) := by rw [← h4]; simp
      rw [this]; rfl
    have hks : (Instr.keyThatStays (.string n) (.string n)).run P w = .ok (.string n) w := by
      simp [Instr.keyThatStays, Instr.sameBits, ba_self]
    simp only [Instr.mapUpdate, Sem.run_bind, run_und hT ht hu (by simp), Result.andThen_ok, run_getObj w _ _ (by simp) hb, hc, Instr.findKey, run_und hT hkt hku (by simp), h1, Sem.run_pure, Nat.zero_add, hold, hks, run_setObj w r _ _ (by simp) hb]
end
theorem SemU.pre {P : Program} {μ : Gh} {L : List Seg} {s : Sem Unit} {R : Gh → List Seg → Prop} (h : Upd μ L fun μ' L' => SemU P s μ' L' R) : SemU P s μ L R := fun w hw => by
  obtain ⟨μ', L', h1, h2, h3⟩ := h w hw
  obtain ⟨w', μ2, L2, k1, k2, k3, k4⟩ := h3 w h2
  exact ⟨w', μ2, L2, k1, h1.trans k2, k3, k4⟩
def sget {β : Type} (k : ByteArray) : List (ByteArray × β) → Option β
  | [] => none
  | p :: r => if p.1 = k then some p.2 else sget k r
def sput {β : Type} (k : ByteArray) (v : β) : List (ByteArray × β) → List (ByteArray × β)
  | [] => [(k, v)]
  | p :: r => if p.1 = k then (k, v) :: r else p :: sput k v r
theorem sfind_map {β : Type} (enc : β → Value) (n : ByteArray) : ∀ (m : List (ByteArray × β)), sfind n (m.map fun p => (p.1, enc p.2)) = (sget n m).map enc
  | [] => rfl
  | p :: m => by simp only [List.map_cons, sfind, sget]; split <;> simp [sfind_map enc n m]
theorem sset_map {β : Type} (enc : β → Value) (n : ByteArray) (b : β) : ∀ (m : List (ByteArray × β)), sset n (enc b) (m.map fun p => (p.1, enc p.2)) = (sput n b m).map fun p => (p.1, enc p.2)
  | [] => rfl
  | p :: m => by simp only [List.map_cons, sset, sput]; split <;> simp [sset_map enc n b m]
def MapSB {β : Type} (enc : β → Value) (es : Array MapEntry) (c : Nat) (m : List (ByteArray × β)) : Prop := MapS es c (m.map fun p => (p.1, enc p.2))
section
variable {P : Program} {T : TT} {fr : Fr} {μ : Gh} {L : List Seg} {β : Type} {enc : β → Value} {es : Array MapEntry} {c : Nat} {m : List (ByteArray × β)}
theorem MapSB.nil : MapSB enc #[] 0 [] := MapS.nil
theorem MapSB.size (h : MapSB enc es c m) : es.size = m.length := by rw [MapS.size h, List.length_map]
theorem R_lookS (hT : TOk P T) {t kt et : TypeId} {mo x : Operand} {ok : Bool} {g : Nat} {s : ByteArray} {i ik ie : TyI} {zb : β} {k : Value → Prop} (h : evV fr mo = some (.map (some g))) (h2 : evV fr x = some (.string s)) (ht : T t = some i) (hu : i.u = .map kt et) (hkt : T kt = some ik) (hku : ik.u = .string) (he : T et = some ie) (hz : ie.zero = enc zb)
    (ho : ObjAt μ L g (.map es c)) (hm : MapSB enc es c m) (hk : k (okK ok (enc ((sget s m).getD zb)) (sget s m).isSome)) : vcR P T (.lookup t mo x ok) fr μ L k := by
  refine ev_of (k := fun v => ev fr x fun n => lookK P T t v n ok μ L k) h (ev_of (k := fun n => lookK P T t (.map (some g)) n ok μ L k) h2 ⟨_, fun w hw => ?_, hk⟩)
  have hc : (Instr.checkKey es.isEmpty 10000 kt (.string s)).run P w = .ok () w := run_checkKeyS hT hkt hku es.isEmpty 9999 (.string s) w
  have hs := sfind_map enc s m
  rcases findNow_atS s es.toList 0 hm.ps with ⟨h1, h3⟩ | ⟨j, v, h1, h3, _⟩
  · rw [hs] at h3
    have h4 : sget s m = none := by cases hx : sget s m with | none => rfl | some y => rw [hx] at h3; cases h3
    cases ok <;> simp [Instr.lookup, run_und hT ht hu (by simp), run_getObj w _ _ (by simp) (hw.obj ho), hc, Instr.findKey, run_und hT hkt hku (by simp), h1, run_zero hT he, okK, h4, hz]
  · rw [hs] at h3
    obtain ⟨y, h4, h5⟩ : ∃ y, sget s m = some y ∧ enc y = v := by
      cases hx : sget s m with
      | none => rw [hx] at h3; cases h3
      | some y => rw [hx] at h3; exact ⟨y, rfl, by simpa using h3⟩
    cases ok <;> simp [Instr.lookup, run_und hT ht hu (by simp), run_getObj w _ _ (by simp) (hw.obj ho), hc, Instr.findKey, run_und hT hkt hku (by simp), h1, okK, h4, h5]
theorem semu_mapSB (hT : TOk P T) {t kt et : TypeId} {it ik : TyI} (ht : T t = some it) (hu : it.u = .map kt et) (hkt : T kt = some ik) (hku : ik.u = .string)
    (i : Nat) {g : Nat} {n : ByteArray} {b : β} {v : Value} {k : Gh → List Seg → Prop} (hi : L[i]? = some [(g, .map es c)]) (hm : MapSB enc es c m) (hv : v = enc b)
    (hk : ∀ es' c', MapSB enc es' c' (sput n b m) → k μ (L.set i [(g, .map es' c')])) : SemU P (Instr.mapUpdate t (.map (some g)) (.string n) v) μ L k := by
  subst hv
  refine semu_mapSetS hT ht hu hkt hku i 0 hi rfl hm fun es' c' hm' => ?_
  rw [sset_map] at hm'
  exact hk es' c' hm'
end
def FroV {α : Type} (r : Rp α) (μ : Gh) (v : Value) (xs : List α) : Prop := ∃ A cc, v = .slice A xs.length cc ∧ (xs.length ≤ cc ∧ cc ≤ maxLen) ∧ ArrR r μ A xs
def MapF {α : Type} (r : Rp α) (μ : Gh) (es : Array MapEntry) (c : Nat) (m : List (Int × List α)) : Prop :=
  ∃ mv : List (Int × Value), MapB (fun v => v) es c mv ∧ All2 (fun (p : Int × List α) (q : Int × Value) => p.1 = q.1 ∧ FroV r μ q.2 p.2) m mv
section
variable {P : Program} {T : TT} {fr : Fr} {μ μ' : Gh} {L : List Seg} {α : Type} {r : Rp α} {es : Array MapEntry} {c : Nat} {m : List (Int × List α)}
theorem MapF.nil : MapF r μ #[] 0 [] := ⟨[], MapB.nil, All2.nil⟩
theorem MapF.mono (h : MapF r μ es c m) (hm : μ.le μ') : MapF r μ' es c m := by
  obtain ⟨mv, h1, h2⟩ := h
  exact ⟨mv, h1, h2.mono fun p q ⟨e, A, cc, hv, hl, ha⟩ => ⟨e, A, cc, hv, hl, ha.mono hm⟩⟩
theorem mget_all2 {R : List α → Value → Prop} (n : Int) : ∀ {m : List (Int × List α)} {mv : List (Int × Value)}, All2 (fun (p : Int × List α) (q : Int × Value) => p.1 = q.1 ∧ R p.2 q.2) m mv →
    (mget n m = none ∧ mget n mv = none) ∨ ∃ xs v, mget n m = some xs ∧ mget n mv = some v ∧ R xs v
  | [], [], _ => .inl ⟨rfl, rfl⟩
  | [], q :: mv, h => by have := h.1; simp at this
  | p :: m, [], h => by have := h.1; simp at this
  | p :: m, q :: mv, h => by
    have h0 := h.2 0 p q rfl rfl
    have ht : All2 (fun (p : Int × List α) (q : Int × Value) => p.1 = q.1 ∧ R p.2 q.2) m mv := ⟨by have := h.1; simpa using this, fun i x y hx hy => h.2 (i + 1) x y (by simpa using hx) (by simpa using hy)⟩
    by_cases hn : p.1 = n
    · exact .inr ⟨p.2, q.2, by simp [mget, hn], by simp [mget, ← h0.1, hn], h0.2⟩
    · have hn2 : ¬ q.1 = n := by rw [← h0.1]; exact hn
      simp only [mget, hn, hn2, if_false]
      exact mget_all2 n ht
theorem mput_all2 {R : List α → Value → Prop} (n : Int) {xs : List α} {v : Value} (hr : R xs v) : ∀ {m : List (Int × List α)} {mv : List (Int × Value)}, All2 (fun (p : Int × List α) (q : Int × Value) => p.1 = q.1 ∧ R p.2 q.2) m mv →
    All2 (fun (p : Int × List α) (q : Int × Value) => p.1 = q.1 ∧ R p.2 q.2) (mput n xs m) (mput n v mv)
  | [], [], _ => All2.cons ⟨rfl, hr⟩ All2.nil
  | [], q :: mv, h => by have := h.1; simp at this
  | p :: m, [], h => by have := h.1; simp at this
  | p :: m, q :: mv, h => by
    have h0 := h.2 0 p q rfl rfl
    have ht : All2 (fun (p : Int × List α) (q : Int × Value) => p.1 = q.1 ∧ R p.2 q.2) m mv := ⟨by have := h.1; simpa using this, fun i x y hx hy => h.2 (i + 1) x y (by simpa using hx) (by simpa using hy)⟩
    by_cases hn : p.1 = n
    · have hn2 : q.1 = n := by rw [← h0.1]; exact hn
      simp only [mput, hn, hn2, if_true]
      exact All2.cons ⟨rfl, hr⟩ ht
    · have hn2 : ¬ q.1 = n := by rw [← h0.1]; exact hn
      simp only [mput, hn, hn2, if_false]
      exact All2.cons h0 (mput_all2 n hr ht)
theorem MapF.look (h : MapF r μ es c m) {g : Nat} (ho : ObjAt μ L g (.map es c)) (n : Int) :
    ∃ A cc, (∃ es' c', ObjAt μ L g (.map es' c') ∧ intKeys .i64 es'.toList ∧ ((.slice A ((mget n m).getD []).length cc, (mget n m).isSome) : Value × Bool) = (match findI n es'.toList with | some v => (v, true) | none => (.slice none 0 0, false))) ∧
      (((mget n m).getD []).length ≤ cc ∧ cc ≤ maxLen) ∧ ArrR r μ A ((mget n m).getD []) := by
  obtain ⟨mv, h1, h2⟩ := h
  obtain ⟨es', c', k1, k2, k3⟩ := h1.look ho (z := .slice none 0 0) (zb := .slice none 0 0) rfl n
  rcases mget_all2 (R := fun xs v => FroV r μ v xs) n h2 with ⟨e1, e2⟩ | ⟨xs, v, e1, e2, A, cc, hv, hl, ha⟩
  · rw [e2] at k3
    rw [e1]
    exact ⟨none, 0, ⟨es', c', k1, k2, k3⟩, ⟨Nat.le_refl _, Nat.zero_le _⟩, ArrR.nil⟩
  · rw [e2] at k3
    rw [e1]
    refine ⟨A, cc, ⟨es', c', k1, k2, ?_⟩, hl, ha⟩
    refine Eq.trans ?_ k3
    simp [hv]
theorem semu_mapF (hT : TOk P T) {t kt et : TypeId} {it ik : TyI} (ht : T t = some it) (hu : it.u = .map kt et) (hkt : T kt = some ik) (hku : ik.u = .int .i64)
    (i : Nat) {g : Nat} {n : Int} {xs : List α} {A : Option Addr} {cc nn : Nat} {k : Gh → List Seg → Prop} (hi : L[i]? = some [(g, .map es c)]) (hm : MapF r μ es c m) (hn : xs.length = nn) (hl : xs.length ≤ cc ∧ cc ≤ maxLen) (ha : ArrR r μ A xs)
    (hk : ∀ es' c', MapF r μ es' c' (mput n xs m) → k μ (L.set i [(g, .map es' c')])) : SemU P (Instr.mapUpdate t (.map (some g)) (.int .i64 n) (.slice A nn cc)) μ L k := by
  obtain ⟨mv, h1, h2⟩ := hm
  subst hn
  refine semu_mapB (enc := fun v => v) hT ht hu hkt hku i hi h1 (b := .slice A xs.length cc) rfl fun es' c' hm' => ?_
  exact hk es' c' ⟨_, hm', mput_all2 (R := fun xs v => FroV r μ v xs) n ⟨A, cc, rfl, hl, ha⟩ h2⟩
theorem MapF.size (h : MapF r μ es c m) : es.size = m.length := by
  obtain ⟨mv, h1, h2⟩ := h
  rw [h1.size, h2.1]
end
def ObjO {α : Type} (R : Gh → Value → α → Seg → Prop) (μ : Gh) (v : Value) (o : Option α) (so : Seg) : Prop := match o with
  | none => v = .pointer none ∧ so = []
  | some x => R μ v x so
theorem ObjO.nil {α : Type} {R : Gh → Value → α → Seg → Prop} {μ : Gh} : ObjO R μ (.pointer none) none [] := ⟨rfl, rfl⟩
theorem ObjO.get {α : Type} {R : Gh → Value → α → Seg → Prop} {μ : Gh} {v : Value} {o : Option α} {so : Seg} {x : α} (h : ObjO R μ v o so) (ho : o = some x) : R μ v x so := by subst ho; exact h
theorem ObjO.lift {α : Type} {R : Gh → Value → α → Seg → Prop} {μ μ' : Gh} {v : Value} {o : Option α} {so : Seg} (h : ObjO R μ v o so) (hR : ∀ x, R μ v x so → R μ' v x so) : ObjO R μ' v o so := by
  cases o with
  | none => exact h
  | some x => exact hR x h
theorem lt_of_someL {α : Type} {l : List α} {i : Nat} {x : α} (h : l[i]? = some x) : i < l.length := by
  rcases Nat.lt_or_ge i l.length with h1 | h1
  · exact h1
  · rw [List.getElem?_eq_none h1] at h; cases h
def clrO {α : Type} (xs : List α) (lo : Int) (z : α) : List α := xs.take lo.toNat ++ List.replicate (xs.length - lo.toNat) z
theorem length_clrO {α : Type} (xs : List α) (lo : Int) (z : α) : (clrO xs lo z).length = xs.length := by simp [clrO]; omega
section
variable {P : Program} {T : TT} {μ : Gh} {L : List Seg} {α : Type} {r : Rp α} {e : TypeId} {A : Option Addr} {n c : Nat} {xs ys : List α} {ch : Seg} {lo hi : Int}
theorem Own.cut (h : Own r e μ (.slice A n c) xs ch) (hs : subO xs 0 hi = some ys) : Own r e μ (.slice A ys.length c) ys ch := by
  obtain ⟨_, h2, h3, rfl, h5⟩ := subO_h hs
  obtain ⟨css, ⟨h6, h7⟩, h8⟩ := h
  have hl := h8.1
  have hm : hi.toNat ≤ css.length := by omega
  have hlen : ((xs.take hi.toNat).drop (0 : Int).toNat).length = hi.toNat := by rw [h5]; simp
  rcases h7 with ⟨hv, rfl, rfl⟩ | ⟨g, cap, cur, hv, rfl, q1, q2, q3, q4⟩
  · injection hv with e1 e2 e3
    subst e1 e3
    have : xs = [] := List.eq_nil_of_length_eq_zero (by simpa using hl)
    subst this
    exact ⟨[], ⟨by simp, .inl ⟨by simp, rfl, rfl⟩⟩, by simpa using All2.nil⟩
  · injection hv with e1 e2 e3
    subst e1 e3
    refine ⟨css.take hi.toNat, ⟨fun cs hc => h6 cs (List.mem_of_mem_take hc), .inr ⟨g, c, cur, ?_, rfl, by simp; omega, q2, q3, ?_⟩⟩, by simpa using h8.take hi.toNat⟩
    · rw [hlen]; simp [hm]
    · have : (css.take hi.toNat).flatten = css.flatten.take (hi.toNat * r.sz) := by
        have e4 : css = css.take hi.toNat ++ css.drop hi.toNat := (List.take_append_drop _ _).symm
        conv => rhs; rw [e4, List.flatten_append]
        rw [List.take_left']
        rw [length_flat (sz := r.sz) fun cs hc => h6 cs (List.mem_of_mem_take hc), List.length_take, Nat.min_eq_left hm]
      rw [this, ← q4, List.take_take, List.length_take, Nat.min_eq_left hm, Nat.min_eq_left (Nat.mul_le_mul_right _ hm)]
theorem sem_clear (hT : TOk P T) {t ty : TypeId} {it ie : TyI} (ht : T t = some it) (hu : it.u = .slice e) (he : T e = some ie) {z : α} {zc : List Value} (hz : ie.zero.cells.toList = zc) (hsz : ie.size = r.sz) (hrep : r.rep μ z zc)
    (i : Nat) (hi : L[i]? = some ch) (h : Own r e μ (.slice A n c) xs ch) (hs : subO xs lo (xs.length : Nat) = some ys) {A' : Option Addr} (hA : A' = (if c = lo.toNat then A else A.map (·.add (lo.toNat * r.sz)))) {c' : Nat} {k : Value → Gh → List Seg → Prop}
    (hk : ∀ ch', Own r e μ (.slice A n c) (clrO xs lo z) ch' → k (.tuple #[]) μ (L.set i ch')) : SemOk P (Builtin.clear_ #[t] ty #[.slice A' ys.length c']) μ L k := by
  obtain ⟨h1, h2, h3, hys, h5⟩ := subO_h hs
  obtain ⟨css, ⟨h6, h7⟩, h8⟩ := h
  have hl := h8.1
  have hut := und_of hT ht hu (by simp)
  have hself : L.set i ch = L := by
    apply List.ext_getElem?
    intro j
    by_cases hj : i = j
    · subst hj
      rw [List.getElem?_set_self (lt_of_someL hi), hi]
    · simp [List.getElem?_set, hj]
  by_cases h0 : ys.length = 0
  · intro w hw
    have hrun : (Builtin.clear_ #[t] ty #[.slice A' ys.length c']).run P w = .ok (.tuple #[]) w := by
      rw [h0]
      cases A' <;> simp [Builtin.clear_, run_underlying hut]
    refine ⟨_, w, μ, L, hrun, Gh.le.refl _, hw, ?_⟩
    have hx : clrO xs lo z = xs := by
      unfold clrO
      have : xs.length - lo.toNat = 0 := by omega
      rw [this, List.replicate_zero, List.append_nil, List.take_of_length_le (by omega)]
    have := hk ch (by rw [hx]; exact ⟨css, ⟨h6, h7⟩, h8⟩)
    rwa [hself] at this
  · rcases h7 with ⟨hv, rfl, rfl⟩ | ⟨g, cap, cur, hv, rfl, q1, q2, q3, q4⟩
    · have : xs.length = 0 := by rw [hl]; rfl
      omega
    · injection hv with e1 e2 e3
      subst e1 e2 e3
      obtain ⟨m, hm⟩ : ∃ m, ys.length = m + 1 := ⟨ys.length - 1, by omega⟩
      have hzl := r.len hrep
      obtain ⟨vs, hvs⟩ : ∃ vs, (List.replicate ys.length zc).flatten = vs := ⟨_, rfl⟩
      have hvl : vs.length = ys.length * r.sz := by rw [← hvs]; simp [hzl]
      have hcl : cur.toList.length = c * r.sz := by simpa using q3
      have hle : lo.toNat + ys.length = css.length := by omega
      have hfit : lo.toNat * r.sz + vs.length ≤ cur.toList.length := by
        rw [hvl, ← Nat.add_mul, hle, hcl]
        exact Nat.mul_le_mul_right _ q1
      have hcn : ¬ c = lo.toNat := by omega
      rw [if_neg hcn] at hA
      have hst : StAt L (⟨g, lo.toNat * r.sz, none⟩ : Addr) vs (L.set i [(g, .cells (setL cur.toList (lo.toNat * r.sz) vs).toArray e (0, 0))]) := ⟨i, 0, _, cur, e, hi, rfl, rfl, by simpa using hfit, rfl⟩
      intro w hw
      have hone : ∀ u ∈ vs, u.oneCell' = true := by
        intro u hu
        rw [← hvs] at hu
        obtain ⟨l, hl1, hl2⟩ := List.mem_flatten.1 hu
        rw [List.eq_of_mem_replicate hl1] at hl2
        exact r.one hrep u hl2
      obtain ⟨w', hrun, hw'⟩ := storeCells_ok (P := P) hst hone hw
      have hzz : (Builtin.zeroCells ie.zero.cells ys.length).toList = vs := by
        have h9 := cyc_eq ie.zero.cells ys.length
        have h10 : ∀ (z : List Value) m, cyc z m = (List.replicate m z).flatten := by
          intro z m
          induction m with
          | zero => simp [cyc]
          | succ m ih => rw [cyc, ih, List.replicate_succ, List.flatten_cons]
        rw [show Builtin.zeroCells ie.zero.cells ys.length = (cyc ie.zero.cells.toList ys.length).toArray from h9, List.toList_toArray, h10, hz, hvs]
      have hA2 : A' = some ⟨g, lo.toNat * r.sz, none⟩ := by rw [hA]; simp [addr_add]
      have hrun2 : (Builtin.clear_ #[t] ty #[.slice A' ys.length c']).run P w = .ok (.tuple #[]) w' := by
        rw [hA2, hm] at *
        rw [hm] at hzz
        simp [Builtin.clear_, run_underlying hut, run_zero hT he, hzz, hrun]
      refine ⟨_, w', μ, _, hrun2, Gh.le.refl _, hw', hk _ ⟨css.take lo.toNat ++ List.replicate ys.length zc, ⟨?_, .inr ⟨g, c, _, ?_, rfl, ?_, q2, ?_, ?_⟩⟩, ?_⟩⟩
      · intro cs hc
        rcases List.mem_append.1 hc with hc | hc
        · exact h6 cs (List.mem_of_mem_take hc)
        · rw [List.eq_of_mem_replicate hc]; exact hzl
      · congr 1
        simp
        omega
      · simp; omega
      · rw [setL_eq _ _ _ hfit]
        simp
        have : lo.toNat * r.sz ≤ cur.size := by have := hfit; simp at this; omega
        omega
      · rw [setL_eq _ _ _ hfit]
        have hf1 : (css.take lo.toNat ++ List.replicate ys.length zc).flatten = cur.toList.take (lo.toNat * r.sz) ++ vs := by
          rw [List.flatten_append, hvs]
          congr 1
          have h11 : (css.take lo.toNat).flatten = css.flatten.take (lo.toNat * r.sz) := by
            have e4 : css = css.take lo.toNat ++ css.drop lo.toNat := (List.take_append_drop _ _).symm
            conv => rhs; rw [e4, List.flatten_append]
            rw [List.take_left']
            rw [length_flat (sz := r.sz) fun cs hc => h6 cs (List.mem_of_mem_take hc), List.length_take, Nat.min_eq_left (by omega)]
          rw [h11, ← q4, List.take_take, Nat.min_eq_left (Nat.mul_le_mul_right _ (by omega))]
        rw [hf1]
        have h12 : ((css.take lo.toNat ++ List.replicate ys.length zc).length) * r.sz = (cur.toList.take (lo.toNat * r.sz) ++ vs).length := by
          rw [List.length_append, List.length_append, List.length_take, List.length_replicate, List.length_take, Nat.min_eq_left (by omega), hvl, Nat.min_eq_left (by rw [hcl]; exact Nat.mul_le_mul_right _ (by omega)), Nat.add_mul]
        rw [h12]
        exact List.take_left
      · have h13 : clrO xs lo z = xs.take lo.toNat ++ List.replicate ys.length z := by
          unfold clrO
          rw [show xs.length - lo.toNat = ys.length by omega]
        rw [h13]
        refine (h8.take lo.toNat).append ⟨by simp, fun j a b ha hb => ?_⟩
        rw [List.getElem?_replicate] at ha hb
        split at ha
        · rename_i hj
          rw [if_pos hj] at hb
          injection ha with ha; injection hb with hb
          rw [← ha, ← hb]; exact hrep
        · cases ha
end
theorem lenN {n m : Nat} {i : Int} (h : n = m) (hi : i < (m : Nat)) : i < (n : Nat) := h ▸ hi
def andI (k : IntKind) (x y : Int) : Int := k.wrap ((BitVec.ofInt k.bits x &&& BitVec.ofInt k.bits y).toNat)
theorem andI_run {P : Program} (k : IntKind) (a b : Int) : PureRun P (Op.intBits .and k a b) (.int k (andI k a b)) := by
  intro w
  rfl
section
variable {P : Program} {N : NN} {K : Kont} {B : Nat → Kont} {R : Kont} {fr : Fr} {μ : Gh} {L : List Seg}
def KEnd (N : NN) (K : Kont) : Kont := fun fr μ L => ∀ a w, Agr N fr a → Inv w μ L → ∃ fr' μ' L', Agr N fr' a ∧ μ.le μ' ∧ Inv w μ' L' ∧ K fr' μ' L'
theorem KEnd.at {F : Fr} {L2 : List Seg} (hF : SubFr F fr) (hL : SegSub L2 L) (h : KEnd N K F μ L2) : KEnd N K fr μ L := fun a w ha hw => h a w (ha.sub hF) (hL w μ hw)
theorem KEnd.done (h : K fr μ L) : KEnd N K fr μ L := fun _ _ ha hw => ⟨fr, μ, L, ha, Gh.le.refl _, hw, h⟩
end
end Go.Proofs.YthpgjbbjpfiniaaGreat
