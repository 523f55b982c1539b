/- Library functions that turn a row of integers in place. -/
import Derived.Test.YtchakbpjokemnaaGs
import Derived.Test.YtchakbpjokemnaaGx
namespace Go.Proofs.Ytchakbpjokemnaa
open Go.RowKit
set_option linter.unusedSimpArgs false
set_option linter.unusedVariables false

def mapO (G : List Int → List Int) (xs : List Int) : Option (List Int) := if xs.length ≤ 1000000 then some (G xs) else none
theorem length_mapO {G : List Int → List Int} (hG : ∀ l, (G l).length = l.length) {xs ys : List Int} (h : mapO G xs = some ys) : xs.length = ys.length := by
  unfold mapO at h
  split at h
  · injection h with h; rw [← h, hG]
  · cases h
section
variable {P : Program} {μ : Gh} {L : List Seg} {R : Value → Gh → List Seg → Prop}
theorem mapI_fn (G : List Int → List Int) (hG : ∀ l, (G l).length = l.length) {f : FuncId} {fn : Func} (hf : P.funcs[f]? = some fn) (hnm : (fn.name == "runtime.NumGoroutine") = false) (hbd : fn.body.isNone = false) {e : TypeId}
    (hS : ∀ (blk off cap : Nat) (zs : List Int) (w : World), Go.Sort.Holds (Value.int .i64) w blk off zs.toArray → blk < w.heap.size → zs.length < 4611686018427387904 → Calls P f #[.slice (some ⟨blk, off, none⟩) zs.length cap] w fun e w' =>
      e = .returned (.tuple #[]) ∧ ∃ n os, w' = Go.Sort.grow (Go.Sort.putRow (Value.int .i64) (Go.Sort.ahead w n) blk off (G zs).toArray) os)
    (h0 : ∀ (p : Option Addr) (cap : Nat) (w : World), Calls P f #[.slice p 0 cap] w fun e w' => e = .returned (.tuple #[]) ∧ w' = w)
    (i : Nat) {ch : Seg} {A : Option Addr} {n c : Nat} {xs ys : List Int} (hi : L[i]? = some ch) (hown : Own rInt e μ (.slice A n c) xs ch) (hs : mapO G xs = some ys)
    (hR : ∀ ch', Own rInt e μ (.slice A ys.length c) ys ch' → R (.tuple #[]) μ (L.set i ch')) : Fn P f [.slice A n c] μ L R := by
  unfold mapO at hs
  split at hs
  case isFalse => cases hs
  rename_i hb
  injection hs with hs
  subst hs
  refine .inl ⟨⟨fn, hf, hnm, hbd⟩, fun w hw => ?_⟩
  obtain ⟨css, h1, h2⟩ := hown
  have hcss := flat_ints h2
  rcases h1.2 with ⟨hv, hnil, hch⟩ | ⟨g, cap, cur, hv, rfl, q1, q2, q3, q4⟩
  · injection hv with hv1 hv2 hv3
    subst hv1 hv2 hv3 hch
    have hx : xs = [] := by have := h2.1; rw [hnil] at this; exact List.eq_nil_of_length_eq_zero (by simpa using this)
    subst hx
    refine (h0 none 0 w).mono ?_
    rintro e' w' ⟨rfl, rfl⟩
    refine ⟨_, μ, L, rfl, Gh.le.refl _, hw, ?_⟩
    have hG0 : G [] = [] := List.eq_nil_of_length_eq_zero (hG [])
    rw [hG0] at hR
    have := hR [] Own.nil
    rwa [set_same hi] at this
  · injection hv with hv1 hv2 hv3
    have hlen : css.length = xs.length := h2.1.symm
    subst hv1 hv3
    rw [hlen] at hv2
    subst hv2
    have hbk := hw.own (g, .cells cur e (0, 0)) (List.mem_flatten.2 ⟨_, List.mem_of_getElem? hi, by simp⟩)
    simp only at hbk
    have hz : rInt.sz = 1 := rfl
    rw [hz, Nat.mul_one, hcss, flatten_ints, List.length_map] at q4
    rw [hz] at q3
    have q1' : xs.length ≤ c := by rw [← hlen]; exact q1
    refine (hS g 0 c xs w (holds_of_blockI hbk q4) (lt_of_some hbk) (by omega)).mono ?_
    rintro e' w' ⟨rfl, m, os, rfl⟩
    have hg := grownBy_sortedI (w := w) (g := g) (n := m) (os := os) (G xs).toArray
    have hlt := lt_of_some hbk
    have hnew := heap_sortedI (n := m) (os := os) (G xs).toArray hbk
    refine ⟨_, μ, L.set i [(g, .cells (Go.Sort.putCells (Value.int .i64) 0 (G xs).toArray cur) e (0, 0))], rfl, Gh.le.refl _, ?_, ?_⟩
    · have hw1 := hw.perm (set_nil_perm hi)
      have hsub : (L.set i []).flatten.Sublist ([(g, Obj.cells cur e (0, 0))] :: L.set i []).flatten := by simp
      have hne : ∀ c' ∈ (L.set i []).flatten, c'.1 ≠ g := by
        intro c' hc'
        have hnd := hw1.nd
        simp only [List.flatten_cons, List.map_append, List.nodup_append, List.map_cons, List.map_nil] at hnd
        exact fun e => hnd.2.2 g (by simp) c'.1 (List.mem_map.2 ⟨c', hc', rfl⟩) e.symm
      have hfin : Inv (Go.Sort.grow (Go.Sort.putRow (Value.int .i64) (Go.Sort.ahead w m) g 0 (G xs).toArray) os) μ ([(g, .cells (Go.Sort.putCells (Value.int .i64) 0 (G xs).toArray cur) e (0, 0))] :: L.set i []) := by
        refine ⟨hg.os.trans hw.os, hg.output.trans hw.out, hg.tape.trans hw.tape, fun b o hb' => ?_, fun c' hc' => ?_, fun c' hc' => ?_, ?_⟩
        · have h6 := hw.mem b o hb'
          rw [hg.block b (lt_of_some h6) ?_]; exact h6
          intro he1
          injection he1 with he1
          subst he1
          have := hw1.sep (b, .cells cur e (0, 0)) (by simp)
          rw [hb'] at this; cases this
        · simp only [List.flatten_cons, List.singleton_append, List.mem_cons] at hc'
          rcases hc' with rfl | hc'
          · exact hnew
          · have h7 := hw1.own c' (hsub.subset hc')
            rw [hg.block c'.1 (lt_of_some h7) (fun e => hne c' hc' (by injection e))]
            exact h7
        · simp only [List.flatten_cons, List.singleton_append, List.mem_cons] at hc'
          rcases hc' with rfl | hc'
          · exact hw1.sep (g, .cells cur e (0, 0)) (by simp)
          · exact hw1.sep c' (hsub.subset hc')
        · have := hw1.nd
          simpa using this
      have hi' : (L.set i [(g, Obj.cells (Go.Sort.putCells (Value.int .i64) 0 (G xs).toArray cur) e (0, 0))])[i]? = some [(g, .cells (Go.Sort.putCells (Value.int .i64) 0 (G xs).toArray cur) e (0, 0))] := seg_set _ hi
      have hp := set_nil_perm hi'
      rw [List.set_set] at hp
      exact hfin.perm hp.symm
    · refine hR _ ⟨(G xs).map fun x => [Value.int .i64 x], ⟨?_, .inr ⟨g, c, _, ?_, rfl, ?_, q2, ?_, ?_⟩⟩, ?_⟩
      · intro cs hc
        obtain ⟨x, _, rfl⟩ := List.mem_map.1 hc
        rfl
      · simp
      · simp only [List.length_map, hG]; exact q1'
      · simp only [Go.Sort.putCells, Array.size_mapIdx, hz]; exact q3
      · rw [hz, Nat.mul_one, List.length_map, flatten_ints]
        exact take_putCellsI cur (G xs) (by rw [hG]; omega)
      · refine ⟨by simp, fun j x y hx hy => ?_⟩
        rw [List.getElem?_map, hx] at hy
        simp only [Option.map_some, Option.some.injEq] at hy
        exact hy.symm
theorem grow_none (w : World) : Go.Sort.grow w #[] = w := by
  cases w
  simp [Go.Sort.grow]
theorem revI_fn {f : FuncId} {fn : Func} (hf : P.funcs[f]? = some fn) (hnm : (fn.name == "runtime.NumGoroutine") = false) (hbd : fn.body.isNone = false) {e : TypeId}
    (hS : ∀ (blk off cap : Nat) (zs : List Int) (w : World), Go.Sort.Holds (Value.int .i64) w blk off zs.toArray → zs.length ≤ 9223372036854775807 → Calls P f #[.slice (some ⟨blk, off, none⟩) zs.length cap] w fun e w' =>
      e = .returned (.tuple #[]) ∧ ∃ n, w' = Go.Sort.putRow (Value.int .i64) (Go.Sort.ahead w n) blk off zs.reverse.toArray)
    (h0 : ∀ (p : Option Addr) (cap : Nat) (w : World), Calls P f #[.slice p 0 cap] w fun e w' => e = .returned (.tuple #[]) ∧ w' = w)
    (i : Nat) {ch : Seg} {A : Option Addr} {n c : Nat} {xs ys : List Int} (hi : L[i]? = some ch) (hown : Own rInt e μ (.slice A n c) xs ch) (hs : mapO List.reverse xs = some ys)
    (hR : ∀ ch', Own rInt e μ (.slice A ys.length c) ys ch' → R (.tuple #[]) μ (L.set i ch')) : Fn P f [.slice A n c] μ L R :=
  mapI_fn List.reverse (fun l => List.length_reverse) hf hnm hbd (fun blk off cap zs w h1 _ h3 => (hS blk off cap zs w h1 (by omega)).mono fun e w' h => ⟨h.1, by obtain ⟨n, hn⟩ := h.2; exact ⟨n, #[], by rw [grow_none]; exact hn⟩⟩) h0 i hi hown hs hR
end

end Go.Proofs.Ytchakbpjokemnaa
