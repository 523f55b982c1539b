/- maps.Keys at map[int]int and slices.Sorted over it: contracts. -/
import Derived.Test.YtpghcnpheabbgaaGv
import Derived.Test.YtpghcnpheabbgaaGs
import Derived.Test.YtpghcnpheabbgaaGx
import Derived.Test.YtpghcnpheabbgaaTt
import Derived.Test.YtpghcnpheabbgaaSh
import Derived.Test.YtpghcnpheabbgaaSi
namespace Go.Proofs.Ytpghcnpheabbgaa
open Go.RowKit Go.Maps Go.Sort Go.Shelf
set_option linter.unusedSimpArgs false
set_option linter.unusedVariables false

section
variable {es : Array MapEntry} {cn : Nat} {m : List (Int × Int)}
theorem ent_of (hm : MapB (Value.int .i64) es cn m) : es.toList.map (fun e => (e.key, e.val)) = m.map fun p => (Value.int .i64 p.1, Value.int .i64 p.2) := by
  have := hm.ps
  rw [List.map_map] at this
  exact this
theorem ent_mem (hm : MapB (Value.int .i64) es cn m) {e : MapEntry} (he : e ∈ es.toList) : ∃ p ∈ m, e.key = .int .i64 p.1 ∧ e.val = .int .i64 p.2 := by
  have h1 : (e.key, e.val) ∈ es.toList.map (fun e => (e.key, e.val)) := List.mem_map.2 ⟨e, he, rfl⟩
  rw [ent_of hm] at h1
  obtain ⟨p, hp, h2⟩ := List.mem_map.1 h1
  injection h2 with h2 h3
  exact ⟨p, hp, h2.symm, h3.symm⟩
theorem mem_ent (hm : MapB (Value.int .i64) es cn m) {p : Int × Int} (hp : p ∈ m) : ∃ e ∈ es.toList, e.key = .int .i64 p.1 ∧ e.val = .int .i64 p.2 := by
  have h1 : (Value.int .i64 p.1, Value.int .i64 p.2) ∈ m.map fun p => (Value.int .i64 p.1, Value.int .i64 p.2) := List.mem_map.2 ⟨p, hp, rfl⟩
  rw [← ent_of hm] at h1
  obtain ⟨e, he, h2⟩ := List.mem_map.1 h1
  injection h2 with h2 h3
  exact ⟨e, he, h2, h3⟩
theorem keyOf_i {n : Int} (hw : wfI .i64 n) : keyOf Try.prog 3 (.int .i64 n) = some (.int .i64 n) := by
  have : (Lit.int .i64 n).wf = true := hw
  simp [keyOf, mapKey, Try.underlying3, this]
theorem rd_i {H : Type} {e : MapEntry} {p : Int × Int} (hk : e.key = .int .i64 p.1) (hv : e.val = .int .i64 p.2) (h1 : wfI .i64 p.1) (h2 : wfI .i64 p.2) :
    WideElems.rd Try.prog 3 (plainElem (H := H) Try.prog 3) e = some (.int .i64 p.1, .lit (.int .i64 p.2)) := by
  obtain ⟨k, v, b⟩ := e
  simp only at hk hv
  subst hk hv
  have := plainElem_int (H := H) Try.underlying3 (a := p.2) h2
  exact WideElems.rd_mk (keyOf_i h1) this
theorem fit_i {H : Type} (hm : MapB (Value.int .i64) es cn m) (hw : wfM m) : WideElems.Fit Try.prog 3 (plainElem (H := H) Try.prog 3) es cn := by
  refine ⟨?_, (MapKept.stamped_iff es cn).2 ⟨hm.lt, hm.born, ?_⟩, fun e he => ?_⟩
  · have h1 := MapB.size hm; have h2 := hw.1
    unfold maxLen; omega
  · have h1 : (es.toList.map (·.key)) = m.map fun p => Value.int .i64 p.1 := by
      have := congrArg (List.map Prod.fst) (ent_of hm)
      simpa [List.map_map, Function.comp_def] using this
    have h2 : (es.toList.map (·.key)).Nodup := by
      rw [h1]
      have h3 : (m.map (·.1)).Nodup := by
        have := hm.nd
        simpa [List.map_map, Function.comp_def] using this
      have h4 : (m.map fun p => Value.int .i64 p.1) = (m.map (·.1)).map (Value.int .i64) := by simp [List.map_map, Function.comp_def]
      rw [h4]
      exact List.pairwise_map.2 (h3.imp fun hne e => hne (by injection e))
    exact List.pairwise_map.1 h2
  · obtain ⟨p, hp, hk, hv⟩ := ent_mem hm he
    exact ⟨_, rd_i hk hv (hw.2 p hp).1 (hw.2 p hp).2⟩
end

section
variable {es : Array MapEntry} {cn : Nat} {m : List (Int × Int)} {H : Type}
noncomputable abbrev rgI (H : Type) := WideElems.rg (H := H) Try.prog 3 (plainElem Try.prog 3)
noncomputable abbrev datI (H : Type) (es : Array MapEntry) : DataW H := .map ((es.toList.map (rgI H)).foldr DataW.insert [])
theorem key_in (hm : MapB (Value.int .i64) es cn m) (hw : wfM m) {x : Int} (hx : x ∈ _root_.Go.intKeys (datI H es)) : ∃ v, (x, v) ∈ m := by
  obtain ⟨q, hq, rfl⟩ := List.mem_map.1 hx
  obtain ⟨e, he, rfl⟩ := List.mem_map.1 (mem_sorted.1 hq)
  obtain ⟨p, hp, hk, hv⟩ := ent_mem hm he
  have hr : rgI H e = (.int .i64 p.1, .lit (.int .i64 p.2)) := WideElems.rg_of (rd_i hk hv (hw.2 p hp).1 (hw.2 p hp).2)
  refine ⟨p.2, ?_⟩
  have : _root_.Go.intOf (rgI H e).1 = p.1 := by rw [hr]; rfl
  rw [this]
  exact hp
theorem key_of (hm : MapB (Value.int .i64) es cn m) (hw : wfM m) {p : Int × Int} (hp : p ∈ m) : p.1 ∈ _root_.Go.intKeys (datI H es) := by
  obtain ⟨e, he, hk, hv⟩ := mem_ent hm hp
  have hr : rgI H e = (.int .i64 p.1, .lit (.int .i64 p.2)) := WideElems.rg_of (rd_i hk hv (hw.2 p hp).1 (hw.2 p hp).2)
  have hmem : rgI H e ∈ es.toList.map (rgI H) := List.mem_map.2 ⟨e, he, rfl⟩
  refine List.mem_map.2 ⟨rgI H e, mem_sorted.2 hmem, ?_⟩
  rw [hr]; rfl
theorem keys_nodup (hm : MapB (Value.int .i64) es cn m) (hw : wfM m) : (_root_.Go.intKeys (datI H es)).Nodup := by
  have h1 : ((es.toList.map (rgI H)).foldr DataW.insert []).Pairwise (fun p q => p.1 ≠ q.1) := List.Pairwise.imp (fun {a b} hab (e : a.1 = b.1) => by rw [e, Go.WideShapes.before_irrefl] at hab; cases hab) (Go.WideShapes.rising_pairwise _ (Maps.fit_rising (int_keyed Try.underlying3) (fit_i (H := H) hm hw)))
  have hk : ∀ p ∈ ((es.toList.map (rgI H)).foldr DataW.insert []), ∃ x, p.1 = .int .i64 x := by
    intro p hp
    obtain ⟨e, he, rfl⟩ := List.mem_map.1 (mem_sorted.1 hp)
    obtain ⟨q, hq, hk, hv⟩ := ent_mem hm he
    have hr : rgI H e = (.int .i64 q.1, .lit (.int .i64 q.2)) := WideElems.rg_of (rd_i hk hv (hw.2 q hq).1 (hw.2 q hq).2)
    exact ⟨q.1, by rw [hr]⟩
  show (((es.toList.map (rgI H)).foldr DataW.insert []).map fun p => _root_.Go.intOf p.1).Nodup
  refine List.pairwise_map.2 (h1.imp_of_mem fun {p q} hp' hq' hne e => hne ?_)
  obtain ⟨a, ha⟩ := hk p hp'
  obtain ⟨b, hb⟩ := hk q hq'
  rw [ha, hb] at e ⊢
  exact congrArg _ e
theorem keys_perm (hm : MapB (Value.int .i64) es cn m) (hw : wfM m) : (_root_.Go.intKeys (datI H es)).Perm (m.map (·.1)) := by
  have hnd : (m.map (·.1)).Nodup := by
    have := hm.nd
    simpa [List.map_map, Function.comp_def] using this
  refine (List.perm_ext_iff_of_nodup (keys_nodup hm hw) hnd).2 fun x => ⟨fun hx => ?_, fun hx => ?_⟩
  · obtain ⟨v, hv⟩ := key_in (H := H) hm hw hx
    exact List.mem_map.2 ⟨_, hv, rfl⟩
  · obtain ⟨p, hp, rfl⟩ := List.mem_map.1 hx
    exact key_of hm hw hp
theorem isort_perm_eq {a b : List Int} (h : a.Perm b) : isort a = isort b :=
  sorted_unique ((isort_perm a).trans (h.trans (isort_perm b).symm)) (isort_sorted a) (isort_sorted b)
end

theorem sortsA (n : Nat) : AnyZI.SortsIn Try.prog Try.sortedA_ren Fence.wide n :=
  ⟨fun blk off cap ss W hH hblk hsz => callsIn_wide.2 (Try.slices_Sort_int blk off cap ss W hH hblk hsz), fun p cap W => callsIn_wide.2 (Try.slices_Sort_int_none p cap W)⟩
theorem inv_below {w w' : World} {μ : Gh} {L : List Seg} (hw : Inv w μ L) (h : Below w.heap.size w w') : Inv w' μ L :=
  ⟨h.os.trans hw.os, h.output.trans hw.out, h.tape.trans hw.tape, fun b o hb => by have h6 := hw.mem b o hb; rw [h.block b (lt_of_some h6)]; exact h6,
    fun c hc => by have h6 := hw.own c hc; rw [h.block c.1 (lt_of_some h6)]; exact h6, hw.sep, hw.nd⟩
theorem inv_new {w w' : World} {μ : Gh} {L : List Seg} (hw : Inv w μ L) (h : Below w.heap.size w w') {g : Nat} {o : Obj} (hg : w.heap.size ≤ g) (ho : w'.heap[g]? = some o) : Inv w' μ ([(g, o)] :: L) := by
  have hi := inv_below hw h
  refine ⟨hi.os, hi.out, hi.tape, hi.mem, fun c hc => ?_, fun c hc => ?_, ?_⟩
  · simp only [List.flatten_cons, List.singleton_append, List.mem_cons] at hc
    rcases hc with rfl | hc
    · exact ho
    · exact hi.own c hc
  · simp only [List.flatten_cons, List.singleton_append, List.mem_cons] at hc
    rcases hc with rfl | hc
    · cases hm : μ.mem g with
      | none => rfl
      | some o' => have := lt_of_some (hw.mem g o' hm); omega
    · exact hi.sep c hc
  · simp only [List.flatten_cons, List.singleton_append, List.map_cons, List.nodup_cons]
    refine ⟨fun hc => ?_, hi.nd⟩
    obtain ⟨c, hc, e⟩ := List.mem_map.1 hc
    have := lt_of_some (hw.own c hc)
    omega
theorem sortedKeys_fn {μ : Gh} {L : List Seg} {R : Value → Gh → List Seg → Prop} {b g cn : Nat} {es : Array MapEntry} {m : List (Int × Int)} {ys : List Int} (i j : Nat)
    (hi : L[i]? = some [(b, .cells #[.map (some g)] 58 (0, 0))]) (hj : L[j]? = some [(g, .map es cn)]) (hm : MapB (Value.int .i64) es cn m) (hs : keysO m = some ys)
    (hR : ∀ (A : Option Addr) (c : Nat) (ch : Seg), Own rInt 3 μ (.slice A ys.length c) ys ch → R (.slice A ys.length c) μ (ch :: L)) :
    Fn Try.prog 35 [.func (.func 43) #[] #[.pointer (some ⟨b, 0, none⟩)]] μ L R := by
  unfold keysO at hs
  split at hs
  case isFalse => cases hs
  rename_i hwf
  injection hs with hs
  refine .inl ⟨⟨Try.f35, Try.func35, by kernel_rfl, rfl⟩, fun w hw => ?_⟩
  have hb : w.heap[b]? = some (.cells #[.map (some g)] 58 (0, 0)) := hw.own (b, _) (List.mem_flatten.2 ⟨_, List.mem_of_getElem? hi, by simp⟩)
  have hg : w.heap[g]? = some (.map es cn) := hw.own (g, _) (List.mem_flatten.2 ⟨_, List.mem_of_getElem? hj, by simp⟩)
  have hown : w.ownsMap Try.prog 3 (plainElem (H := Unit) Try.prog 3) g es.size (datI Unit es) := ⟨es, cn, hg, fit_i hm hwf, Nat.le_refl _, rfl⟩
  have hsz : Maps.size (datI Unit es) = m.length := by rw [← MapB.size hm]; simp [Maps.size, length_sorted]
  have hml := hwf.1
  have hseq := AnyZI.keys_gives Try.keysA Fence.wide 2 trivial rfl (by omega) b g es.size (datI Unit es) w (lt_of_some hb) (cell_of_box_a hb).1 hown
  have cS := AnyZI.sorted_in Try.sortedA Fence.wide 5 trivial trivial trivial trivial rfl (by omega) (sortsA _) (enters_of Try.func42 (by kernel_rfl) rfl) 43 #[.pointer (some ⟨b, 0, none⟩)] trivial (enters_of Try.func43 (by kernel_rfl) rfl) _ (Maps.size (datI Unit es)) (by rw [hsz]; unfold maxLen; omega) (by rw [hsz]; omega) w hseq
  change CallsIn _ _ Try.prog 35 _ _ _ at cS
  refine ((callsIn_wide (n := 5)).1 cS).mono ?_
  rintro e' w' ⟨v, ss, rfl, hps, hrow, hnil, hbel⟩
  have hys : ss.mergeSort (fun x y => decide (x ≤ y)) = ys := by rw [isort_eq, isort_perm_eq (hps.trans (keys_perm hm hwf)), hs]
  rw [hys] at hrow
  have hlen : ss.length = ys.length := by rw [← hys, List.length_mergeSort]
  rw [hlen] at hrow
  rcases hrow.2 with ⟨rfl, hz⟩ | ⟨gb, cap, cur, rfl, hbase, hgb, r1, r2, r3, r4⟩
  · have hy0 : ys = [] := List.eq_nil_of_length_eq_zero hz
    subst hy0
    have hi2 := inv_below hw hbel
    exact ⟨_, μ, [] :: L, rfl, Gh.le.refl _, hi2.perm (by simp), hR none 0 [] Own.nil⟩
  · refine ⟨_, μ, _, rfl, Gh.le.refl _, inv_new hw hbel hbase hgb, hR _ _ _ ⟨ys.map fun x => [Value.int .i64 x], ⟨?_, .inr ⟨gb, cap, cur, ?_, rfl, ?_, r2, ?_, ?_⟩⟩, ?_⟩⟩
    · intro cs hc
      obtain ⟨x, _, rfl⟩ := List.mem_map.1 hc
      rfl
    · simp
    · simpa using r1
    · exact r3
    · rw [flatten_ints, List.length_map]
      have : rInt.sz = 1 := rfl
      rw [this]
      exact r4
    · refine ⟨by simp, fun j x y hx hy => ?_⟩
      rw [List.getElem?_map, hx] at hy
      simp only [Option.map_some, Option.some.injEq] at hy
      exact hy.symm

set_option linter.unusedSimpArgs false
set_option linter.unusedVariables false
attribute [local irreducible] WP SemOk SemU Fn AN Upd vcR vcO vcOps vcPlan putK fillK resK inBlk forkOne Cell StAt Kept
theorem keysI_fn {μ : Gh} {L : List Seg} {R : Value → Gh → List Seg → Prop} {g : Nat}
    (hR : ∀ b, R (.func (.func 43) #[] #[.pointer (some ⟨b, 0, none⟩)]) μ ([(b, .cells #[.map (some g)] 58 (0, 0))] :: L)) : Fn Try.prog 36 [.map (some g)] μ L R := by
  refine Fn.of_body Tt_ok Try.func36 (by kernel_rfl) rfl Try.ntmps36 (by simp) ?_
  simp only [Try.f36, argFr, List.zipIdx, List.map, Nat.reduceAdd]
  repeat' first | (apply O_cons) | (apply P_some; exact rfl) | (apply P_none) | ((first | (apply O_read; exact rfl)); first | (apply R_assign; exact rfl) | (apply R_mkf; exact rfl; exact rfl)) | (apply O_nil) | (apply WP.seq_k; intro K hK) | refine WP.region Tt_ok ?_ | (apply WP.ret) | (apply S_nil) | (apply S_tmp; exact rfl) | (first | (apply O_box; exact rfl; (focus (simp only [setL, List.set_cons_zero, List.set_cons_succ, List.take_succ_cons, List.take_zero, List.drop_succ_cons, List.drop_zero, Value.cells, Nat.reduceAdd, Nat.reduceMul, Nat.zero_add, Nat.add_zero, List.toList_toArray, List.cons_append, List.nil_append, cyc]; first | done | exact rfl)); intro g)) | (fail) | (first | (refine hK _ _ _ ?_; clear hK K) | (clear hK K; refine hK _ _ _ ?_; clear hK K) | (clear hK K; clear hK K; refine hK _ _ _ ?_; clear hK K) | (clear hK K; clear hK K; clear hK K; refine hK _ _ _ ?_; clear hK K)) | intro g
  exact Upd.done (hR _)


end Go.Proofs.Ytpghcnpheabbgaa
