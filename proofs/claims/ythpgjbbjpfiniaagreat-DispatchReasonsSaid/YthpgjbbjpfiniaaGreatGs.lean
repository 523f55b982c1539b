/- slices.Sort of integers: its contract off the shelf turned into a call's contract here. -/
import Derived.Test.YthpgjbbjpfiniaaGreatGa
import Derived.Sort.OwnSortedInts
namespace Go.Proofs.YthpgjbbjpfiniaaGreat
open Go.RowKit
set_option linter.unusedSimpArgs false
set_option linter.unusedVariables false
def insI (x : Int) : List Int → List Int
  | [] => [x]
  | y :: r => if x ≤ y then x :: y :: r else y :: insI x r
def isort : List Int → List Int
  | [] => []
  | x :: r => insI x (isort r)
def sortO (xs : List Int) : Option (List Int) := if xs.length ≤ 1000000 then some (isort xs) else none
theorem insI_perm (x : Int) : ∀ l, (insI x l).Perm (x :: l)
  | [] => List.Perm.refl _
  | y :: r => by
    simp only [insI]
    split
    · exact List.Perm.refl _
    · exact ((insI_perm x r).cons y).trans (List.Perm.swap x y r)
theorem isort_perm : ∀ l, (isort l).Perm l
  | [] => List.Perm.refl _
  | x :: r => (insI_perm x _).trans ((isort_perm r).cons x)
theorem insI_sorted (x : Int) : ∀ l, l.Pairwise (· ≤ ·) → (insI x l).Pairwise (· ≤ ·)
  | [], _ => by simp [insI]
  | y :: r, h => by
    simp only [insI]
    rw [List.pairwise_cons] at h
    split
    · rename_i hxy
      rw [List.pairwise_cons, List.pairwise_cons]
      exact ⟨fun z hz => by
        rcases List.mem_cons.1 hz with rfl | hz
        · exact hxy
        · exact Int.le_trans hxy (h.1 z hz), h⟩
    · rw [List.pairwise_cons]
      refine ⟨fun z hz => ?_, insI_sorted x r h.2⟩
      rcases List.mem_cons.1 ((insI_perm x r).mem_iff.1 hz) with rfl | hz
      · omega
      · exact h.1 z hz
theorem isort_sorted : ∀ l, (isort l).Pairwise (· ≤ ·)
  | [] => List.Pairwise.nil
  | x :: r => insI_sorted x _ (isort_sorted r)
theorem length_isort (l : List Int) : (isort l).length = l.length := (isort_perm l).length_eq
theorem length_sortO {xs ys : List Int} (h : sortO xs = some ys) : xs.length = ys.length := by
  unfold sortO at h
  split at h
  · injection h with h; rw [← h, length_isort]
  · cases h
theorem sorted_unique : ∀ {a b : List Int}, a.Perm b → a.Pairwise (· ≤ ·) → b.Pairwise (· ≤ ·) → a = b
  | [], b, hp, _, _ => by have := hp.length_eq; cases b with
    | nil => rfl
    | cons y r => simp at this
  | x :: a, [], hp, _, _ => by have := hp.length_eq; simp at this
  | x :: a, y :: b, hp, ha, hb => by
    rw [List.pairwise_cons] at ha hb
    have hxy : x = y := by
      have h1 : x ∈ y :: b := hp.mem_iff.1 (by simp)
      have h2 : y ∈ x :: a := hp.mem_iff.2 (by simp)
      have h3 : y ≤ x := by
        rcases List.mem_cons.1 h1 with rfl | h
        · exact Int.le_refl _
        · exact hb.1 x h
      have h4 : x ≤ y := by
        rcases List.mem_cons.1 h2 with rfl | h
        · exact Int.le_refl _
        · exact ha.1 y h
      omega
    subst hxy
    rw [sorted_unique (List.Perm.cons_inv hp) ha.2 hb.2]
theorem isort_eq (l : List Int) : l.mergeSort (fun x y => decide (x ≤ y)) = isort l := by
  refine sorted_unique ((List.mergeSort_perm l _).trans (isort_perm l).symm) ?_ (isort_sorted l)
  have := List.pairwise_mergeSort (le := fun x y : Int => decide (x ≤ y)) (fun a b c h1 h2 => by simp at *; omega) (fun a b => by simp; omega) l
  exact this.imp fun h => by simpa using h
section
variable {P : Program} {μ : Gh} {L : List Seg} {R : Value → Gh → List Seg → Prop}
theorem flat_ints : ∀ {xs : List Int} {css : List (List Value)}, All2 (rInt.rep μ) xs css → css = xs.map fun x => [Value.int .i64 x]
  | [], css, h => by
    have := h.1
    cases css with
    | nil => rfl
    | cons a b => simp at this
  | x :: xs, css, h => by
    cases css with
    | nil => have := h.1; simp at this
    | cons a b =>
      have h0 := h.2 0 x a rfl rfl
      have h1 : All2 (rInt.rep μ) xs b := ⟨by have := h.1; simpa using this, fun i u v hu hv => h.2 (i + 1) u v (by simpa using hu) (by simpa using hv)⟩
      rw [flat_ints h1, List.map_cons]
      congr 1
theorem flatten_ints (xs : List Int) : (xs.map fun x => [Value.int .i64 x]).flatten = xs.map (Value.int .i64) := by
  induction xs with
  | nil => rfl
  | cons x xs ih => simp [ih]
theorem sortI_fn {f : FuncId} {fn : Func} (hf : P.funcs[f]? = some fn) (hnm : (fn.name == "runtime.NumGoroutine") = false) (hbd : fn.body.isNone = false) {e : TypeId}
    (hS : ∀ (blk off cap : Nat) (zs : List Int) (w : World), Go.Sort.Holds (Value.int .i64) w blk off zs.toArray → blk < w.heap.size → zs.length < 4611686018427387904 → Calls P f #[.slice (some ⟨blk, off, none⟩) zs.length cap] w fun e w' =>
      e = .returned (.tuple #[]) ∧ ∃ n os, w' = Go.Sort.grow (Go.Sort.putRow (Value.int .i64) (Go.Sort.ahead w n) blk off (zs.mergeSort fun x y => decide (x ≤ y)).toArray) os)
    (h0 : ∀ (p : Option Addr) (cap : Nat) (w : World), Calls P f #[.slice p 0 cap] w fun e w' => e = .returned (.tuple #[]) ∧ w' = w)
    (i : Nat) {ch : Seg} {A : Option Addr} {n c : Nat} {xs ys : List Int} (hi : L[i]? = some ch) (hown : Own rInt e μ (.slice A n c) xs ch) (hs : sortO xs = some ys)
    (hR : ∀ ch', Own rInt e μ (.slice A ys.length c) ys ch' → R (.tuple #[]) μ (L.set i ch')) : Fn P f [.slice A n c] μ L R := by
  unfold sortO at hs
  split at hs
  case isFalse => cases hs
  rename_i hb
  injection hs with hs
  subst hs
  refine .inl ⟨⟨fn, hf, hnm, hbd⟩, fun w hw => ?_⟩
  obtain ⟨css, h1, h2⟩ := hown
  have hcss := flat_ints h2
  rcases h1.2 with ⟨hv, hnil, hch⟩ | ⟨g, cap, cur, hv, rfl, q1, q2, q3, q4⟩
  · injection hv with hv1 hv2 hv3
    subst hv1 hv2 hv3 hch
    have hx : xs = [] := by have := h2.1; rw [hnil] at this; exact List.eq_nil_of_length_eq_zero (by simpa using this)
    subst hx
    refine (h0 none 0 w).mono ?_
    rintro e' w' ⟨rfl, rfl⟩
    refine ⟨_, μ, L, rfl, Gh.le.refl _, hw, ?_⟩
    have := hR [] Own.nil
    rwa [set_same hi] at this
  · injection hv with hv1 hv2 hv3
    have hlen : css.length = xs.length := h2.1.symm
    subst hv1 hv3
    rw [hlen] at hv2
    subst hv2
    have hbk := hw.own (g, .cells cur e (0, 0)) (List.mem_flatten.2 ⟨_, List.mem_of_getElem? hi, by simp⟩)
    simp only at hbk
    have hz : rInt.sz = 1 := rfl
    rw [hz, Nat.mul_one, hcss, flatten_ints, List.length_map] at q4
    rw [hz] at q3
    have q1' : xs.length ≤ c := by rw [← hlen]; exact q1
    refine (hS g 0 c xs w (holds_of_blockI hbk q4) (lt_of_some hbk) (by omega)).mono ?_
    rintro e' w' ⟨rfl, m, os, rfl⟩
    rw [isort_eq]
    have hg := grownBy_sortedI (w := w) (g := g) (n := m) (os := os) (isort xs).toArray
    have hlt := lt_of_some hbk
    have hnew := heap_sortedI (n := m) (os := os) (isort xs).toArray hbk
    refine ⟨_, μ, L.set i [(g, .cells (Go.Sort.putCells (Value.int .i64) 0 (isort xs).toArray cur) e (0, 0))], rfl, Gh.le.refl _, ?_, ?_⟩
    · have hw1 := hw.perm (set_nil_perm hi)
      have hsub : (L.set i []).flatten.Sublist ([(g, Obj.cells cur e (0, 0))] :: L.set i []).flatten := by simp
      have hne : ∀ c' ∈ (L.set i []).flatten, c'.1 ≠ g := by
        intro c' hc'
        have hnd := hw1.nd
        simp only [List.flatten_cons, List.map_append, List.nodup_append, List.map_cons, List.map_nil] at hnd
        exact fun e => hnd.2.2 g (by simp) c'.1 (List.mem_map.2 ⟨c', hc', rfl⟩) e.symm
      have hfin : Inv (Go.Sort.grow (Go.Sort.putRow (Value.int .i64) (Go.Sort.ahead w m) g 0 (isort xs).toArray) os) μ ([(g, .cells (Go.Sort.putCells (Value.int .i64) 0 (isort xs).toArray cur) e (0, 0))] :: L.set i []) := by
        refine ⟨hg.os.trans hw.os, hg.output.trans hw.out, hg.tape.trans hw.tape, fun b o hb' => ?_, fun c' hc' => ?_, fun c' hc' => ?_, ?_⟩
        · have h6 := hw.mem b o hb'
          rw [hg.block b (lt_of_some h6) ?_]; exact h6
          intro he1
          injection he1 with he1
          subst he1
          have := hw1.sep (b, .cells cur e (0, 0)) (by simp)
          rw [hb'] at this; cases this
        · simp only [List.flatten_cons, List.singleton_append, List.mem_cons] at hc'
          rcases hc' with rfl | hc'
          · exact hnew
          · have h7 := hw1.own c' (hsub.subset hc')
            rw [hg.block c'.1 (lt_of_some h7) (fun e => hne c' hc' (by injection e))]
            exact h7
        · simp only [List.flatten_cons, List.singleton_append, List.mem_cons] at hc'
          rcases hc' with rfl | hc'
          · exact hw1.sep (g, .cells cur e (0, 0)) (by simp)
          · exact hw1.sep c' (hsub.subset hc')
        · have := hw1.nd
          simpa using this
      have hi' : (L.set i [(g, Obj.cells (Go.Sort.putCells (Value.int .i64) 0 (isort xs).toArray cur) e (0, 0))])[i]? = some [(g, .cells (Go.Sort.putCells (Value.int .i64) 0 (isort xs).toArray cur) e (0, 0))] := seg_set _ hi
      have hp := set_nil_perm hi'
      rw [List.set_set] at hp
      exact hfin.perm hp.symm
    · refine hR _ ⟨(isort xs).map fun x => [Value.int .i64 x], ⟨?_, .inr ⟨g, c, _, ?_, rfl, ?_, q2, ?_, ?_⟩⟩, ?_⟩
      · intro cs hc
        obtain ⟨x, _, rfl⟩ := List.mem_map.1 hc
        rfl
      · simp
      · simp only [List.length_map, length_isort]; exact q1'
      · simp only [Go.Sort.putCells, Array.size_mapIdx, hz]; exact q3
      · rw [hz, Nat.mul_one, List.length_map, flatten_ints]
        exact take_putCellsI cur (isort xs) (by rw [length_isort]; omega)
      · refine ⟨by simp, fun j x y hx hy => ?_⟩
        rw [List.getElem?_map, hx] at hy
        simp only [Option.map_some, Option.some.injEq] at hy
        exact hy.symm
end
end Go.Proofs.YthpgjbbjpfiniaaGreat
