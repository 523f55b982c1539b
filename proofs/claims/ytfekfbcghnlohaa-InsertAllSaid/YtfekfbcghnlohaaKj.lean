/- Rows that can be read, wherever they lie; copy; append of zeros; the entry for slices.overlaps. -/
import Derived.Test.YtfekfbcghnlohaaKi
import Derived.Lib.Overlaps
namespace Go.Proofs.Ytfekfbcghnlohaa
open Go.RowKit
set_option linter.unusedSimpArgs false
set_option linter.unusedVariables false

/-- The rows css can be read from A on. -/
def Rd (μ : Gh) (L : List Seg) (A : Option Addr) (sz : Nat) (css : List (List Value)) : Prop :=
  (∀ cs ∈ css, cs.length = sz) ∧ (css ≠ [] → ∃ a, A = some a ∧ Cells μ L a css.flatten)

section
variable {μ : Gh} {L : List Seg}
theorem flat_pos {sz : Nat} : ∀ {css : List (List Value)} {k : Nat} {v : Value}, (∀ cs ∈ css, cs.length = sz) → css.flatten[k]? = some v →
    ∃ i j cs, css[i]? = some cs ∧ cs[j]? = some v ∧ k = i * sz + j
  | [], k, v, _, h => by simp at h
  | c :: r, k, v, hl, h => by
    have hc := hl c (by simp)
    rw [List.flatten_cons] at h
    by_cases hk : k < c.length
    · rw [List.getElem?_append_left hk] at h
      exact ⟨0, k, c, by simp, h, by simp⟩
    · rw [List.getElem?_append_right (by omega)] at h
      obtain ⟨i, j, cs, h1, h2, h3⟩ := flat_pos (fun c hc => hl c (by simp [hc])) h
      exact ⟨i + 1, j, cs, by simpa using h1, h2, by rw [Nat.succ_mul]; omega⟩
theorem Arr.rd {A : Option Addr} {sz : Nat} {css : List (List Value)} (h : Arr μ A sz css) : Rd μ L A sz css := by
  have hl : ∀ cs ∈ css, cs.length = sz := fun cs hcs => by
    obtain ⟨i, hi⟩ := List.getElem?_of_mem hcs
    exact (h i cs hi).1
  refine ⟨hl, fun hne => ?_⟩
  have h0 : 0 < css.length := List.length_pos_iff.2 hne
  obtain ⟨_, a, ha, _⟩ := h 0 css[0] (List.getElem?_eq_getElem h0)
  refine ⟨a, ha, fun k v hk => ?_⟩
  obtain ⟨i, j, cs, h1, h2, rfl⟩ := flat_pos hl hk
  obtain ⟨a', ha', hc⟩ := h.at_ (L := L) h1
  rw [ha] at ha'
  injection ha' with ha'
  subst ha'
  have := hc j v h2
  rwa [Addr.add_add'] at this
theorem Rd.at_ {A : Option Addr} {sz : Nat} {css : List (List Value)} (h : Rd μ L A sz css) {i : Nat} {cs : List Value} (hi : css[i]? = some cs) : ∃ a, A = some a ∧ Cells μ L (a.add (i * sz)) cs := by
  obtain ⟨a, ha, hc⟩ := h.2 (fun e => by rw [e] at hi; cases hi)
  refine ⟨a, ha, fun j v hj => ?_⟩
  rw [Addr.add_add']
  exact hc _ v (flat_get h.1 hi hj)
theorem Rd.mono {A : Option Addr} {sz : Nat} {css : List (List Value)} {μ' : Gh} {L' : List Seg} (h : Rd μ L A sz css) (hm : μ.le μ') (hl : ∀ c ∈ L.flatten, c ∈ L'.flatten) : Rd μ' L' A sz css :=
  ⟨h.1, fun hne => by obtain ⟨a, ha, hc⟩ := h.2 hne; exact ⟨a, ha, hc.mono hm hl⟩⟩
theorem Rd.cons {A : Option Addr} {sz : Nat} {css : List (List Value)} {s : Seg} (h : Rd μ L A sz css) : Rd μ (s :: L) A sz css := h.mono (Gh.le.refl _) (by intro c hc; simp [List.flatten_cons]; exact .inr (by simpa using hc))
theorem Rd.nil {A : Option Addr} {sz : Nat} : Rd μ L A sz [] := ⟨by simp, fun h => absurd rfl h⟩
theorem OwnSl.rd {e : TypeId} {sz : Nat} {A : Option Addr} {n cap : Nat} {css : List (List Value)} {ch : Seg} (h : OwnSl e sz (.slice A n cap) css ch) (i : Nat) (hi : L[i]? = some ch) : Rd μ L A sz css := by
  refine ⟨h.1, fun hne => ?_⟩
  rcases h.2 with ⟨_, rfl, _⟩ | ⟨g, cap', cur, hv, rfl, h1, h2, h3, h4⟩
  · exact absurd rfl hne
  · injection hv with hv _ _
    refine ⟨_, hv, fun k v hk => ?_⟩
    rw [addr_add]
    refine Cell.seg i 0 hi rfl ?_
    rw [← h4] at hk
    rw [List.getElem?_take] at hk
    split at hk
    · simpa using hk
    · cases hk
theorem Rd.chunk (i : Nat) {g : Nat} {cs : List Value} {e : TypeId} {f : Nat × Nat} {sz : Nat} {css : List (List Value)} (hi : L[i]? = some [(g, .cells cs.toArray e f)]) (hl : ∀ c ∈ css, c.length = sz) (hc : cs = css.flatten) :
    Rd μ L (some ⟨g, 0, none⟩) sz css :=
  ⟨hl, fun _ => ⟨_, rfl, fun k v hk => by rw [addr_add]; exact Cell.seg i 0 hi rfl (by simpa [hc] using hk)⟩⟩
end

section
variable {P : Program} {T : TT} {μ : Gh} {L : List Seg} {k : Value → Gh → List Seg → Prop}

/-- append by 'Rd'. -/
theorem sem_app (hT : TOk P T) {t ty e : TypeId} {it ie : TyI} (ht : T t = some it) (hu : it.u = .slice e) (he : T e = some ie) (hz : ie.zero.cells.size = ie.size) (hsz : 0 < ie.size)
    {v : Value} {css : List (List Value)} {ch : Seg} (i : Nat) (hi : L[i]? = some ch) (hown : OwnSl e ie.size v css ch)
    {A : Option Addr} {m c : Nat} {news : List (List Value)} (hm : news.length = m) (hr : Rd μ L A ie.size news) (h1 : ∀ cs ∈ news, ∀ u ∈ cs, u.oneCell' = true)
    (h63 : css.length + m ≤ 140737488355328) (hb : (css.length + m) * ie.bytes ≤ 140737488355328)
    (hk : ∀ v' ch', OwnSl e ie.size v' (css ++ news) ch' → (css ++ news = [] → v' = v ∨ A ≠ none) → k v' μ (L.set i ch')) :
    SemOk P (Builtin.append_ #[t, t] ty #[v, .slice A m c]) μ L k :=
  sem_append hT ht hu he hz hsz i hi hown hm hr.1 h1 (fun h => hr.2 (fun e => by rw [e] at hm; simp at hm; omega)) (by unfold maxLen; omega) hb hk

/-- copy into a row that the call owns. -/
theorem sem_copy (hT : TOk P T) {t ty e : TypeId} {it ie : TyI} (ht : T t = some it) (hu : it.u = .slice e) (he : T e = some ie)
    {a : Addr} {dl dc : Nat} {A : Option Addr} {m c n : Nat} (hn : n = min m dl) {vs : List Value} (hl : vs.length = n * ie.size) (hr : 0 < n → ∃ b, A = some b ∧ Cells μ L b vs) (h1 : ∀ u ∈ vs, u.oneCell' = true)
    {L' : List Seg} (hs : StAt L a vs L') (hk : k (.int .i64 n) μ L') : SemOk P (Builtin.copy_ #[t, t] ty #[.slice (some a) dl dc, .slice A m c]) μ L k := by
  intro w hw
  have hut := und_of hT ht hu (by simp)
  obtain ⟨w', hrun, hw'⟩ := storeCells_ok (P := P) hs h1 hw
  have hmin : m.min dl = n := by rw [hn]
  have hf : (Builtin.firstCells ie.size n (.slice A m c)).run P w = .ok vs.toArray w := by
    rcases Nat.eq_zero_or_pos n with h0 | h0
    · subst h0
      have hv : vs = [] := List.eq_nil_of_length_eq_zero (by simpa using hl)
      subst hv
      cases A <;> simp [Builtin.firstCells, loadCells, loadCellsFrom]
    · obtain ⟨b, rfl, hc⟩ := hr h0
      have := run_loadCells_list (P := P) (w := w) b vs (fun j v hj => hw.holds.cell (hc j v hj))
      rw [hl] at this
      simp only [Builtin.firstCells, this]
  refine ⟨.int .i64 n, w', μ, L', ?_, Gh.le.refl _, hw', hk⟩
  simp [Builtin.copy_, run_underlying hut, Builtin.lenOf, run_size hT he, hmin, hf, hrun, goInt]

/-- append of zeros that does not fit: a new row. -/
theorem sem_app_zeros (hT : TOk P T) {t ti ty e : TypeId} {it ii ie : TyI} (ht : T t = some it) (hu : it.u = .slice e) (hti : T ti = some ii) (hui : ii.u = .int .i64) (he : T e = some ie) (hz : ie.zero.cells.size = ie.size) (hsz : 0 < ie.size)
    {A : Option Addr} {n c q : Nat} {css : List (List Value)} (hcl : css.length = n) (hr : Rd μ L A ie.size css) (hq0 : 0 < q)
    (hgrow : c < n + q) (hq : (n + q) * ie.bytes ≤ 140737488355328) (hq2 : n + q ≤ 140737488355328)
    (hk : ∀ v' ch', OwnSl e ie.size v' (css ++ List.replicate q ie.zero.cells.toList) ch' → k v' μ (ch' :: L)) :
    SemOk P (Builtin.append_ #[t, ti] ty #[.slice A n c, .int .i64 (q : Nat)]) μ L k := by
  intro w hw
  have hut := und_of hT ht hu (by simp)
  have hui' := und_of hT hti hui (by simp)
  obtain ⟨j, hj1, hj2, hj3, hj4⟩ := run_bytes hT he
  have hfl := length_flat hr.1
  have hf : (Builtin.firstCells ie.size n (.slice A n c)).run P w.drew = .ok css.flatten.toArray w.drew := by
    by_cases h0 : css = []
    · subst h0
      simp at hcl; subst hcl
      cases A <;> simp [Builtin.firstCells, loadCells, loadCellsFrom]
    · obtain ⟨a, rfl, hc⟩ := hr.2 h0
      have := run_loadCells_list (P := P) (w := w.drew) a css.flatten (fun j v hj => hw.drew.holds.cell (hc j v hj))
      rw [hfl, hcl] at this
      simp only [Builtin.firstCells, this]
  have hbz : q * ie.bytes ≤ 140737488355328 := Nat.le_trans (Nat.mul_le_mul_right _ (by omega)) hq
  have hcap := growslice_fits (need := n + q) (old := c) (bytes := ie.bytes) (by omega) hq
  have hn : ¬ (n + q ≤ c) := by omega
  have h63' : ¬ (9223372036854775807 < ((n : Int) + (q : Int))) := by omega
  have h48' : ¬ (281474976710656 < Builtin.nextslicecap (n + q) c * j.bytes) := by rw [hj2]; omega
  have hw1 : IntKind.i64.wrap (q : Int) = q := w64_of (by omega) (by omega)
  have hl0 : ¬ ((q : Int) < 0) := by omega
  have hl1 : ¬ (281474976710656 < (q : Int) * (j.bytes : Int)) := by
    have : ((q * ie.bytes : Nat) : Int) ≤ 140737488355328 := by omega
    rw [hj2, ← Int.natCast_mul]; omega
  have hz0 : ¬ (q * ie.size = 0) := Nat.ne_of_gt (Nat.mul_pos hq0 hsz)
  have hrun : (Builtin.append_ #[t, ti] ty #[.slice A n c, .int .i64 (q : Nat)]).run P w =
      .ok (.slice (some ⟨w.heap.size, 0, none⟩) (n + q) (grownCap w (n + q) c e))
        (w.drew.alloc (.cells (css.flatten.toArray ++ Builtin.zeroCells ie.zero.cells q ++ Builtin.zeroCells ie.zero.cells (grownCap w (n + q) c e - (n + q))) e)) := by
    simp [Builtin.append_, run_underlying hut, run_underlying hui', sizeOf, typeInfo, zeroValue, hj1, hj3, hj4, asInt, asIntOf, hw1, hl0, hl1, hn, h63', h48', Question.forced, hf, newRow, grownCap]
    intro h0
    exact absurd h0 hz0
  have hge := grownCap_ge w (n + q) c e
  have hcm := grownCap_le_maxLen w (n + q) c e (by unfold maxLen; omega)
  have hzc : ∀ m, (Builtin.zeroCells ie.zero.cells m).toList = (List.replicate m ie.zero.cells.toList).flatten := by
    intro m
    have h1 := cyc_eq ie.zero.cells m
    have h2 : ∀ (z : List Value) m, cyc z m = (List.replicate m z).flatten := by
      intro z m
      induction m with
      | zero => simp [cyc]
      | succ m ih => rw [cyc, ih, List.replicate_succ, List.flatten_cons]
    rw [show Builtin.zeroCells ie.zero.cells m = (cyc ie.zero.cells.toList m).toArray from h1, List.toList_toArray, h2]
  refine ⟨_, _, μ, _, hrun, Gh.le.refl _, hw.drew.alloc _, hk _ _ ⟨?_, .inr ⟨w.heap.size, _, _, ?_, rfl, ?_, hcm, ?_, ?_⟩⟩⟩
  · intro cs hcs
    rcases List.mem_append.1 hcs with h | h
    · exact hr.1 cs h
    · rw [List.eq_of_mem_replicate h]; simpa using hz
  · simp [hcl]
  · simp [hcl]; exact hge
  · simp only [Array.size_append, List.size_toArray, size_zeroCells, hz, hfl, hcl]
    rw [← Nat.add_mul, ← Nat.add_mul]
    congr 1
    omega
  · have h3 : (css ++ List.replicate q ie.zero.cells.toList).flatten.length = (css ++ List.replicate q ie.zero.cells.toList).length * ie.size := by
      refine length_flat fun cs hcs => ?_
      rcases List.mem_append.1 hcs with h | h
      · exact hr.1 cs h
      · rw [List.eq_of_mem_replicate h]; simpa using hz
    rw [← h3]
    simp only [Array.toList_append, List.toList_toArray, hzc, List.flatten_append]
    exact List.take_left
/-- append onto a row that can be read and has no room: a new row. -/
theorem sem_app_fresh (hT : TOk P T) {t ty e : TypeId} {it ie : TyI} (ht : T t = some it) (hu : it.u = .slice e) (he : T e = some ie) (hz : ie.zero.cells.size = ie.size) (hsz : 0 < ie.size)
    {A B : Option Addr} {n c m d : Nat} {css news : List (List Value)} (hcl : css.length = n) (hr : Rd μ L A ie.size css) (hml : news.length = m) (hs : Rd μ L B ie.size news) (hm0 : 0 < m)
    (hgrow : c < n + m) (hq : (n + m) * ie.bytes ≤ 140737488355328) (hq2 : n + m ≤ 140737488355328)
    (hk : ∀ v' ch', OwnSl e ie.size v' (css ++ news) ch' → k v' μ (ch' :: L)) :
    SemOk P (Builtin.append_ #[t, t] ty #[.slice A n c, .slice B m d]) μ L k := by
  intro w hw
  have hut := und_of hT ht hu (by simp)
  obtain ⟨j, hj1, hj2, hj3, hj4⟩ := run_bytes hT he
  have first : ∀ {A : Option Addr} {n c : Nat} {css : List (List Value)}, css.length = n → Rd μ L A ie.size css → (Builtin.firstCells ie.size n (.slice A n c)).run P w.drew = .ok css.flatten.toArray w.drew := by
    intro A n c css hcl hr
    have hfl := length_flat hr.1
    by_cases h0 : css = []
    · subst h0
      simp at hcl; subst hcl
      cases A <;> simp [Builtin.firstCells, loadCells, loadCellsFrom]
    · obtain ⟨a, rfl, hc⟩ := hr.2 h0
      have := run_loadCells_list (P := P) (w := w.drew) a css.flatten (fun j v hj => hw.drew.holds.cell (hc j v hj))
      rw [hfl, hcl] at this
      simp only [Builtin.firstCells, this]
  have hf := first (c := c) hcl hr
  have hg := first (c := d) hml hs
  have hfl := length_flat hr.1
  have hgl := length_flat hs.1
  have hcap := growslice_fits (need := n + m) (old := c) (bytes := ie.bytes) (by omega) hq
  have hn : ¬ (n + m ≤ c) := by omega
  have h63' : ¬ (9223372036854775807 < ((n : Int) + (m : Int))) := by omega
  have h48' : ¬ (281474976710656 < Builtin.nextslicecap (n + m) c * j.bytes) := by rw [hj2]; omega
  have hrun : (Builtin.append_ #[t, t] ty #[.slice A n c, .slice B m d]).run P w =
      .ok (.slice (some ⟨w.heap.size, 0, none⟩) (n + m) (grownCap w (n + m) c e))
        (w.drew.alloc (.cells (css.flatten.toArray ++ news.flatten.toArray ++ Builtin.zeroCells ie.zero.cells (grownCap w (n + m) c e - (n + m))) e)) := by
    simp [Builtin.append_, run_underlying hut, sizeOf, typeInfo, zeroValue, hj1, hj3, hj4, Builtin.lenOf, hn, h63', h48', Question.forced, hf, hg, newRow, grownCap]
    rw [← Array.append_assoc]
    simp only [List.append_toArray]
  have hge := grownCap_ge w (n + m) c e
  have hcm := grownCap_le_maxLen w (n + m) c e (by unfold maxLen; omega)
  refine ⟨_, _, μ, _, hrun, Gh.le.refl _, hw.drew.alloc _, hk _ _ ⟨?_, .inr ⟨w.heap.size, _, _, ?_, rfl, ?_, hcm, ?_, ?_⟩⟩⟩
  · intro cs hcs
    rcases List.mem_append.1 hcs with h | h
    · exact hr.1 cs h
    · exact hs.1 cs h
  · simp [hcl, hml]
  · simp [hcl, hml]; exact hge
  · simp only [Array.size_append, List.size_toArray, size_zeroCells, hz, hfl, hcl, hgl, hml]
    rw [← Nat.add_mul, ← Nat.add_mul]
    congr 1
    omega
  · have h3 : (css ++ news).flatten.length = (css ++ news).length * ie.size := by
      refine length_flat fun cs hcs => ?_
      rcases List.mem_append.1 hcs with h | h
      · exact hr.1 cs h
      · exact hs.1 cs h
    rw [← h3]
    simp only [Array.toList_append, List.toList_toArray, List.flatten_append]
    exact List.take_left
end

end Go.Proofs.Ytfekfbcghnlohaa
