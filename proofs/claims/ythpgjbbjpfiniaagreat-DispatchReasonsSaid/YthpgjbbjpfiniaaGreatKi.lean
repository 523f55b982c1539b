/- Maps with integer keys that the call owns. -/
import Derived.Test.YthpgjbbjpfiniaaGreatKh
namespace Go.Proofs.YthpgjbbjpfiniaaGreat
open Go.RowKit
set_option linter.unusedSimpArgs false
set_option linter.unusedVariables false
structure MapR (kd : IntKind) (es : Array MapEntry) (c : Nat) (m : List (Int × Value)) : Prop where
  ps : es.toList.map (fun e => (e.key, e.val)) = m.map (fun p => (Value.int kd p.1, p.2))
  nd : (m.map (·.1)).Nodup
  born : (es.toList.map (·.born)).Nodup
  lt : ∀ e ∈ es.toList, e.born < c
def mfind (n : Int) : List (Int × Value) → Option Value
  | [] => none
  | p :: r => if p.1 = n then some p.2 else mfind n r
def mset (n : Int) (v : Value) : List (Int × Value) → List (Int × Value)
  | [] => [(n, v)]
  | p :: r => if p.1 = n then (n, v) :: r else p :: mset n v r
theorem MapR.nil {kd : IntKind} : MapR kd #[] 0 [] := ⟨rfl, List.nodup_nil, List.nodup_nil, by simp⟩
theorem keys_of {kd : IntKind} : ∀ {es : List MapEntry} {m : List (Int × Value)}, es.map (fun e => (e.key, e.val)) = m.map (fun p => (Value.int kd p.1, p.2)) → intKeys kd es
  | [], _, _ => by intro e he; cases he
  | e :: es, [], h => by simp at h
  | e :: es, p :: m, h => by
    simp only [List.map_cons, List.cons.injEq, Prod.mk.injEq] at h
    intro x hx
    rcases List.mem_cons.1 hx with rfl | hx
    · exact ⟨_, h.1.1⟩
    · exact keys_of h.2 x hx
theorem findI_eq {kd : IntKind} (n : Int) : ∀ {es : List MapEntry} {m : List (Int × Value)}, es.map (fun e => (e.key, e.val)) = m.map (fun p => (Value.int kd p.1, p.2)) → findI n es = mfind n m
  | [], [], _ => rfl
  | [], p :: m, h => by simp at h
  | e :: es, [], h => by simp at h
  | e :: es, p :: m, h => by
    simp only [List.map_cons, List.cons.injEq, Prod.mk.injEq] at h
    simp only [findI, h.1.1, mfind, h.1.2, findI_eq n h.2]
theorem MapR.keys {kd : IntKind} {es : Array MapEntry} {c : Nat} {m : List (Int × Value)} (h : MapR kd es c m) : intKeys kd es.toList := keys_of h.ps
theorem MapR.find {kd : IntKind} {es : Array MapEntry} {c : Nat} {m : List (Int × Value)} (h : MapR kd es c m) (n : Int) : findI n es.toList = mfind n m := findI_eq n h.ps
theorem MapR.size {kd : IntKind} {es : Array MapEntry} {c : Nat} {m : List (Int × Value)} (h : MapR kd es c m) : es.size = m.length := by
  have := congrArg List.length h.ps
  simpa using this
theorem findNow_at (kd : IntKind) (n : Int) : ∀ (es : List MapEntry) (i : Nat) {m : List (Int × Value)}, es.map (fun e => (e.key, e.val)) = m.map (fun p => (Value.int kd p.1, p.2)) →
    (Instr.findNow (.int kd) (.int kd n) es i = some none ∧ mfind n m = none) ∨
    ∃ j v, Instr.findNow (.int kd) (.int kd n) es i = some (some (i + j, v)) ∧ mfind n m = some v ∧ j < es.length ∧ (es[j]?).map (·.key) = some (.int kd n) ∧
      ∀ u, mset n u m = m.set j (n, u)
  | [], i, [], _ => .inl ⟨rfl, rfl⟩
  | [], i, p :: m, h => by simp at h
  | e :: es, i, [], h => by simp at h
  | e :: es, i, p :: m, h => by
    simp only [List.map_cons, List.cons.injEq, Prod.mk.injEq] at h
    obtain ⟨⟨h1, h2⟩, h3⟩ := h
    by_cases hn : p.1 = n
    · refine .inr ⟨0, e.val, ?_, by simp [mfind, hn, h2], by simp, by simp [h1, hn], fun u => by simp [mset, hn]⟩
      simp [Instr.findNow, Instr.sameNow, h1, hn]
    · have hne : (n == p.1) = false := by simpa using fun e => hn e.symm
      rcases findNow_at kd n es (i + 1) h3 with ⟨h4, h5⟩ | ⟨j, v, h4, h5, h6, h7, h8⟩
      · exact .inl ⟨by simp [Instr.findNow, Instr.sameNow, h1, hne, h4], by simp [mfind, hn, h5]⟩
      · refine .inr ⟨j + 1, v, ?_, by simp [mfind, hn, h5], by simp; omega, by simpa using h7, fun u => by simp [mset, hn, h8 u]⟩
        simp only [Instr.findNow, Instr.sameNow, h1, if_true, hne, h4]
        congr 3
        omega
theorem mset_new (n : Int) (u : Value) : ∀ {m : List (Int × Value)}, mfind n m = none → mset n u m = m ++ [(n, u)] ∧ n ∉ m.map (·.1)
  | [], _ => ⟨rfl, by simp⟩
  | p :: m, h => by
    simp only [mfind] at h
    by_cases hn : p.1 = n
    · rw [if_pos hn] at h; cases h
    · rw [if_neg hn] at h
      obtain ⟨h1, h2⟩ := mset_new n u h
      refine ⟨by simp [mset, hn, h1], ?_⟩
      simp only [List.map_cons, List.mem_cons, not_or]
      exact ⟨fun e => hn e.symm, h2⟩
theorem MapR.push {kd : IntKind} {es : Array MapEntry} {c : Nat} {m : List (Int × Value)} (h : MapR kd es c m) {n : Int} {v : Value} (hn : mfind n m = none) :
    MapR kd (es.push { key := .int kd n, val := v, born := c }) (c + 1) (mset n v m) := by
  obtain ⟨h1, h2⟩ := mset_new n v hn
  refine ⟨by rw [h1]; simp [h.ps], by rw [h1]; simp [List.nodup_append]; exact ⟨h.nd, fun a b hb e => h2 (by subst e; simp; exact ⟨b, hb⟩)⟩, ?_, ?_⟩
  · simp [List.nodup_append]
    refine ⟨h.born, fun e he hb => ?_⟩
    have := h.lt e (by simpa using he)
    omega
  · intro e he
    simp at he
    rcases he with he | rfl
    · have := h.lt e (by simpa using he); omega
    · simp
theorem map_modify_same {α β : Type} (f : α → β) (g : α → α) (l : List α) (j : Nat) (h : ∀ x, l[j]? = some x → f (g x) = f x) : (l.modify j g).map f = l.map f := by
  apply List.ext_getElem?
  intro i
  simp only [List.getElem?_map, List.getElem?_modify]
  by_cases hij : j = i
  · subst hij
    cases hx : l[j]? with
    | none => rfl
    | some x => simp [h x hx]
  · simp [hij]
theorem map_modify_set {α β : Type} (f : α → β) (g : α → α) (l : List α) (j : Nat) (y : β) (h : ∀ x, l[j]? = some x → f (g x) = y) : (l.modify j g).map f = (l.map f).set j y := by
  apply List.ext_getElem?
  intro i
  simp only [List.getElem?_map, List.getElem?_modify, List.getElem?_set, List.length_map]
  by_cases hij : j = i
  · subst hij
    cases hx : l[j]? with
    | none =>
      have hge : l.length ≤ j := by
        rcases Nat.lt_or_ge j l.length with h | h
        · rw [List.getElem?_eq_getElem h] at hx; cases hx
        · exact h
      simp; omega
    | some x =>
      have hlt : j < l.length := by
        rcases Nat.lt_or_ge j l.length with h | h
        · exact h
        · rw [List.getElem?_eq_none h] at hx; cases hx
      simp [hlt, h x hx]
  · simp [hij]
theorem MapR.put {kd : IntKind} {es : Array MapEntry} {c : Nat} {m : List (Int × Value)} (h : MapR kd es c m) {n : Int} {v : Value} {j : Nat}
    (hj : (es.toList[j]?).map (·.key) = some (.int kd n)) (hs : mset n v m = m.set j (n, v)) (hjl : j < es.size) :
    MapR kd (es.modify j fun e => { e with key := .int kd n, val := v }) c (mset n v m) := by
  have hl := h.size
  refine ⟨?_, ?_, ?_, ?_⟩
  · have h1 := map_modify_set (fun e : MapEntry => (e.key, e.val)) (fun e => { e with key := .int kd n, val := v }) es.toList j (Value.int kd n, v) (fun x _ => rfl)
    rw [Array.toList_modify, h1, h.ps, hs, List.map_set]
  · have hk : (m.set j (n, v)).map (·.1) = m.map (·.1) := by
      apply List.ext_getElem?
      intro i
      simp only [List.getElem?_map, List.getElem?_set]
      by_cases hij : j = i
      · subst hij
        have h1 := congrArg (fun l => l[j]?) h.ps
        simp only [List.getElem?_map] at h1
        have hjm : j < m.length := by omega
        cases hx : es.toList[j]? with
        | none => rw [hx] at hj; cases hj
        | some x =>
          rw [hx] at hj h1
          simp only [Option.map_some, Option.some.injEq] at hj
          rw [List.getElem?_eq_getElem hjm] at h1 ⊢
          simp only [Option.map_some, Option.some.injEq, Prod.mk.injEq, hj, Value.int.injEq, true_and] at h1
          simp [hjm, h1.1]
      · simp [hij]
    rw [hs, hk]; exact h.nd
  · have h1 := map_modify_same (fun e : MapEntry => e.born) (fun e => { e with key := .int kd n, val := v }) es.toList j (fun x _ => rfl)
    rw [Array.toList_modify, h1]; exact h.born
  · intro e he
    rw [Array.toList_modify] at he
    obtain ⟨i, hi⟩ := List.getElem?_of_mem he
    rw [List.getElem?_modify] at hi
    cases hx : es.toList[i]? with
    | none => rw [hx] at hi; cases hi
    | some x =>
      rw [hx] at hi
      have := h.lt x (List.mem_of_getElem? hx)
      by_cases hji : j = i
      · simp [hji] at hi; subst hi; exact this
      · simp [hji] at hi; subst hi; exact this
section
variable {P : Program} {T : TT} {μ : Gh} {L : List Seg}
theorem Inv.updObj {w : World} {i j : Nat} {s : Seg} {g : Nat} {o o' : Obj} (h : Inv w μ L) (hi : L[i]? = some s) (hj : s[j]? = some (g, o)) :
    Inv { w with heap := w.heap.setIfInBounds g o' } μ (L.set i (s.set j (g, o'))) := by
  have hb := h.own _ (List.mem_flatten.2 ⟨s, List.mem_of_getElem? hi, List.mem_of_getElem? hj⟩)
  have hlt := lt_of_some hb
  simp only at hlt
  refine h.upd (w' := { w with heap := w.heap.setIfInBounds g o' }) hi hj rfl rfl rfl ?_ fun k hk => ?_
  · simp [hlt]
  · simp [Array.getElem?_setIfInBounds_ne (Ne.symm hk)]
theorem run_setObj (w : World) (r : Nat) (o o' : Obj) (hc : ∀ a b c, o ≠ .cells a b c) (h : w.heap[r]? = some o) : (setObj r o').run P w = .ok () { w with heap := w.heap.setIfInBounds r o' } := by
  cases o <;> first | exact absurd rfl (hc _ _ _) | simp only [setObj, Sem.run, h]
theorem semu_mapSet (hT : TOk P T) {t kt et : TypeId} {it ik : TyI} {kd : IntKind} (ht : T t = some it) (hu : it.u = .map kt et) (hkt : T kt = some ik) (hku : ik.u = .int kd)
    (i j : Nat) {s : Seg} {r : Nat} {es : Array MapEntry} {c : Nat} {m : List (Int × Value)} (hi : L[i]? = some s) (hj : s[j]? = some (r, .map es c)) (hm : MapR kd es c m) {n : Int} {v : Value} {k : Gh → List Seg → Prop}
    (hk : ∀ es' c', MapR kd es' c' (mset n v m) → k μ (L.set i (s.set j (r, .map es' c')))) : SemU P (Instr.mapUpdate t (.map (some r)) (.int kd n) v) μ L k := by
  intro w hw
  have hb : w.heap[r]? = some (.map es c) := hw.own (r, _) (List.mem_flatten.2 ⟨s, List.mem_of_getElem? hi, List.mem_of_getElem? hj⟩)
  have hc : ∀ b, (Instr.checkKey b 10000 kt (.int kd n)).run P w = .ok () w := fun b => run_checkKey hT hkt hku b 9999 _ w
  rcases findNow_at kd n es.toList 0 hm.ps with ⟨h1, h2⟩ | ⟨jj, x, h1, h2, h3, h4, h5⟩
  · refine ⟨_, μ, _, ?_, Gh.le.refl _, hw.updObj hi hj (o' := .map (es.push { key := .int kd n, val := v, born := c }) (c + 1)), hk _ _ (hm.push h2)⟩
    simp only [Instr.mapUpdate, Sem.run_bind, run_und hT ht hu (by simp), Result.andThen_ok, run_getObj w _ _ (by simp) hb, hc, Instr.findKey, run_und hT hkt hku (by simp), h1, Sem.run_pure, run_setObj w r _ _ (by simp) hb]
  · have hjl : jj < es.size := by simpa using h3
    refine ⟨_, μ, _, ?_, Gh.le.refl _, hw.updObj hi hj (o' := .map (es.modify jj fun e => { e with key := .int kd n, val := v }) c), hk _ _ (hm.put h4 (h5 v) hjl)⟩
    have hold : ((es[jj]?).map (·.key)).getD (.int kd n) = .int kd n := by
      have : (es[jj]?).map (·.key) = some (.int kd n) := by rw [← h4]; simp
      rw [this]; rfl
    have hks : (Instr.keyThatStays (.int kd n) (.int kd n)).run P w = .ok (.int kd n) w := by
      simp [Instr.keyThatStays, Instr.sameBits]
    simp only [Instr.mapUpdate, Sem.run_bind, run_und hT ht hu (by simp), Result.andThen_ok, run_getObj w _ _ (by simp) hb, hc, Instr.findKey, run_und hT hkt hku (by simp), h1, Sem.run_pure, Nat.zero_add, hold, hks, run_setObj w r _ _ (by simp) hb]
end
end Go.Proofs.YthpgjbbjpfiniaaGreat
