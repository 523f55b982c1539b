/- Turns of the ghost memory; slices that a call owns: append, make, freeze; maps. -/
import Derived.Test.YthpgjbbjpfiniaaGreatKg
import Derived.Maps.AppendAt
namespace Go.Proofs.YthpgjbbjpfiniaaGreat
open Go.RowKit
set_option linter.unusedSimpArgs false
set_option linter.unusedVariables false
section
variable {μ : Gh} {L : List Seg} {k : Gh → List Seg → Prop}
theorem Upd.done (h : k μ L) : Upd μ L k := fun _ hw => ⟨μ, L, Gh.le.refl _, hw, h⟩
theorem Upd.drop {s : Seg} (h : Upd μ L k) : Upd μ (s :: L) k := fun w hw => h w hw.drop
theorem Upd.sub {L' : List Seg} (hs : L'.flatten.Sublist L.flatten) (h : Upd μ L' k) : Upd μ L k := fun w hw => h w (hw.sub hs)
theorem Upd.perm {L' : List Seg} (hs : L.flatten.Perm L'.flatten) (h : Upd μ L' k) : Upd μ L k := fun w hw => h w (hw.perm hs)
theorem Upd.swap {s t : Seg} (h : Upd μ (t :: s :: L) k) : Upd μ (s :: t :: L) k :=
  h.perm (by simp only [List.flatten_cons, ← List.append_assoc]; exact List.perm_append_comm.append_right _)
theorem Upd.frz {s : Seg} (h : μ.le (μ.add s) → Upd (μ.add s) L k) : Upd μ (s :: L) k := fun w hw => by
  obtain ⟨hm, hi⟩ := hw.freeze
  obtain ⟨μ', L', h1, h2, h3⟩ := h hm w hi
  exact ⟨μ', L', hm.trans h1, h2, h3⟩
theorem Upd.mono {k' : Gh → List Seg → Prop} (h : Upd μ L k) (hk : ∀ μ' L', μ.le μ' → k μ' L' → k' μ' L') : Upd μ L k' := fun w hw => by
  obtain ⟨μ', L', h1, h2, h3⟩ := h w hw
  exact ⟨μ', L', h1, h2, hk _ _ h1 h3⟩
theorem Upd.know (h : (∃ w, Inv w μ L) → Upd μ L k) : Upd μ L k := fun w hw => h ⟨w, hw⟩ w hw
theorem WP.upd {P : Program} {N : NN} {c : Code} {K : Kont} {B : Nat → Kont} {R : Kont} {fr : Fr} (h : Upd μ L fun μ' L' => WP P N c K B R fr μ' L') : WP P N c K B R fr μ L := fun a w ha hw => by
  obtain ⟨μ', L', h1, h2, h3⟩ := h w hw
  exact Code.wpIn_mono (lift_mono h1 (fun _ _ _ _ h => h) (fun _ _ _ _ _ h => h) (fun _ _ _ _ h => h)) (h3 a w ha h2)
theorem SemOk.upd {P : Program} {s : Sem Value} {R : Value → Gh → List Seg → Prop} (h : SemOk P s μ L fun v μ' L' => Upd μ' L' (R v)) : SemOk P s μ L R := fun w hw => by
  obtain ⟨v, w', μ', L', h1, h2, h3, h4⟩ := h w hw
  obtain ⟨μ2, L2, k1, k2, k3⟩ := h4 w' h3
  exact ⟨v, w', μ2, L2, h1, h2.trans k1, k2, k3⟩
theorem SemOk.pre {P : Program} {s : Sem Value} {R : Value → Gh → List Seg → Prop} (h : Upd μ L fun μ' L' => SemOk P s μ' L' R) : SemOk P s μ L R := fun w hw => by
  obtain ⟨μ', L', h1, h2, h3⟩ := h w hw
  obtain ⟨v, w', μ2, L2, k1, k2, k3, k4⟩ := h3 w h2
  exact ⟨v, w', μ2, L2, k1, h1.trans k2, k3, k4⟩
theorem Fn.upd {P : Program} {f : FuncId} {args : List Value} {R : Value → Gh → List Seg → Prop} (h : Fn P f args μ L fun v μ' L' => Upd μ' L' (R v)) : Fn P f args μ L R := by
  rcases h with ⟨h1, h2⟩ | ⟨fn, e, h1, h2, h3, h4, h5, h6⟩
  · exact .inl ⟨h1, fun w hw => (h2 w hw).mono fun _ w' ⟨v, μ', L', he, hm, hi, hR⟩ => by
      obtain ⟨μ2, L2, h1, h2, h3⟩ := hR w' hi
      exact ⟨v, μ2, L2, he, hm.trans h1, h2, h3⟩⟩
  · exact .inr ⟨fn, e, h1, h2, h3, h4, h5, h6.upd⟩
theorem set_nil_perm {L : List Seg} {i : Nat} {s : Seg} (hi : L[i]? = some s) : L.flatten.Perm (s :: L.set i []).flatten := by
  induction L generalizing i with
  | nil => simp at hi
  | cons t L ih =>
    cases i with
    | zero => simp at hi; subst hi; simp
    | succ i =>
      simp at hi
      have := ih hi
      simp only [List.flatten_cons, List.set_cons_succ] at this ⊢
      refine (this.append_left t).trans ?_
      rw [← List.append_assoc, ← List.append_assoc]
      exact List.perm_append_comm.append_right _
theorem Upd.frzAt (i : Nat) {s : Seg} (hi : L[i]? = some s) (h : μ.le (μ.add s) → Upd (μ.add s) (L.set i []) k) : Upd μ L k :=
  Upd.perm (set_nil_perm hi) (Upd.frz h)
end
def OwnSl (e : TypeId) (sz : Nat) (v : Value) (css : List (List Value)) (ch : Seg) : Prop :=
  (∀ cs ∈ css, cs.length = sz) ∧
  ((v = .slice none 0 0 ∧ css = [] ∧ ch = []) ∨
   ∃ g cap cur, v = .slice (some ⟨g, 0, none⟩) css.length cap ∧ ch = [(g, .cells cur e (0, 0))] ∧ css.length ≤ cap ∧ cap ≤ maxLen ∧ cur.size = cap * sz ∧ cur.toList.take (css.length * sz) = css.flatten)
theorem OwnSl.nil {e : TypeId} {sz : Nat} : OwnSl e sz (.slice none 0 0) [] [] := ⟨by simp, .inl ⟨rfl, rfl, rfl⟩⟩
theorem length_flat {sz : Nat} : ∀ {css : List (List Value)}, (∀ cs ∈ css, cs.length = sz) → css.flatten.length = css.length * sz
  | [], _ => by simp
  | c :: r, h => by
    rw [List.flatten_cons, List.length_append, h c (by simp), length_flat (fun c hc => h c (by simp [hc])), List.length_cons, Nat.succ_mul]; omega
theorem flat_get {sz : Nat} : ∀ {css : List (List Value)} {i j : Nat} {cs : List Value} {v : Value}, (∀ cs ∈ css, cs.length = sz) → css[i]? = some cs → cs[j]? = some v → css.flatten[i * sz + j]? = some v
  | [], i, j, cs, v, _, hi, _ => by simp at hi
  | c :: r, 0, j, cs, v, h, hi, hj => by
    simp at hi; subst hi
    have hlt : j < c.length := by
      rcases Nat.lt_or_ge j c.length with h | h
      · exact h
      · rw [List.getElem?_eq_none h] at hj; cases hj
    rw [List.flatten_cons, Nat.zero_mul, Nat.zero_add, List.getElem?_append_left hlt]; exact hj
  | c :: r, i + 1, j, cs, v, h, hi, hj => by
    have hc := h c (by simp)
    rw [List.flatten_cons, List.getElem?_append_right (by rw [hc, Nat.succ_mul]; omega)]
    have : (i + 1) * sz + j - c.length = i * sz + j := by rw [hc, Nat.succ_mul]; omega
    rw [this]
    exact flat_get (fun c hc => h c (by simp [hc])) (by simpa using hi) hj
theorem OwnSl.form {e : TypeId} {sz : Nat} {v : Value} {css : List (List Value)} {ch : Seg} (h : OwnSl e sz v css ch) : ∃ A cap, v = .slice A css.length cap ∧ css.length ≤ cap ∧ cap ≤ maxLen := by
  rcases h.2 with ⟨rfl, rfl, rfl⟩ | ⟨g, cap, cur, rfl, _, h1, h2, _⟩
  · exact ⟨none, 0, rfl, by simp, by simp [maxLen]⟩
  · exact ⟨_, cap, rfl, h1, h2⟩
theorem OwnSl.arr {e : TypeId} {sz : Nat} {A : Option Addr} {n cap : Nat} {css : List (List Value)} {ch : Seg} (h : OwnSl e sz (.slice A n cap) css ch) {μ : Gh} (hm : ∀ c ∈ ch, μ.mem c.1 = some c.2) : Arr μ A sz css := by
  intro i cs hi
  have hcs := h.1 cs (List.mem_of_getElem? hi)
  refine ⟨hcs, ?_⟩
  rcases h.2 with ⟨_, rfl, _⟩ | ⟨g, cap', cur, hv, rfl, h1, h2, h3, h4⟩
  · cases hi
  · injection hv with hv _ _
    refine ⟨⟨g, 0, none⟩, hv, fun j v hj => ?_⟩
    rw [addr_add, addr_add]
    refine ⟨rfl, cur, e, (0, 0), .inl (hm (g, .cells cur e (0, 0)) (by simp)), ?_⟩
    have hf := flat_get h.1 hi hj
    rw [← h4, List.getElem?_take] at hf
    split at hf
    · simpa using hf
    · cases hf
theorem nd_seg {w : World} {μ : Gh} {L : List Seg} (h : Inv w μ L) {i : Nat} {s : Seg} (hi : L[i]? = some s) : (s.map (·.1)).Nodup := by
  have := (h.perm (set_nil_perm hi)).nd
  simp only [List.flatten_cons, List.map_append, List.nodup_append] at this
  exact this.1
theorem Upd.arr {e : TypeId} {sz : Nat} {v : Value} {css : List (List Value)} {ch : Seg} {μ : Gh} {L : List Seg} {k : Gh → List Seg → Prop} (i : Nat) (hi : L[i]? = some ch) (hown : OwnSl e sz v css ch)
    (h : ∀ A cap μ', v = .slice A css.length cap → cap ≤ maxLen → css.length ≤ cap → μ.le μ' → Arr μ' A sz css → Upd μ' (L.set i []) k) : Upd μ L k := by
  refine Upd.know fun ⟨w, hw⟩ => ?_
  have hn := nd_seg hw hi
  refine Upd.frzAt i hi fun hm => ?_
  obtain ⟨A, cap, rfl, h1, h2⟩ := hown.form
  exact h A cap _ rfl h2 h1 hm (hown.arr fun c hc => Gh.add_at hc hn)
section
variable {P : Program} {T : TT} {μ : Gh} {L : List Seg} {k : Value → Gh → List Seg → Prop}
theorem OwnSl.row {w : World} {e : TypeId} {sz : Nat} {v : Value} {css : List (List Value)} {ch : Seg} (h : OwnSl e sz v css ch) (hw : ∀ c ∈ ch, w.heap[c.1]? = some c.2) :
    w.ownsRow 0 e sz v css.length css.flatten := by
  refine ⟨length_flat h.1, ?_⟩
  rcases h.2 with ⟨rfl, rfl, rfl⟩ | ⟨g, cap, cur, rfl, rfl, h1, h2, h3, h4⟩
  · exact .inl ⟨rfl, rfl⟩
  · exact .inr ⟨g, cap, cur, rfl, Nat.zero_le _, hw (g, .cells cur e (0, 0)) (by simp), h1, h2, h3, h4⟩
theorem sem_append (hT : TOk P T) {t ty e : TypeId} {it ie : TyI} (ht : T t = some it) (hu : it.u = .slice e) (he : T e = some ie) (hz : ie.zero.cells.size = ie.size) (hsz : 0 < ie.size)
    {v : Value} {css : List (List Value)} {ch : Seg} (i : Nat) (hi : L[i]? = some ch) (hown : OwnSl e ie.size v css ch)
    {A : Option Addr} {m c : Nat} {news : List (List Value)} (hm : news.length = m) (hn : ∀ cs ∈ news, cs.length = ie.size) (h1 : ∀ cs ∈ news, ∀ u ∈ cs, u.oneCell' = true)
    (hr : 0 < m → ∃ a, A = some a ∧ Cells μ L a news.flatten) (h63 : css.length + m ≤ maxLen) (hb : (css.length + m) * ie.bytes ≤ 140737488355328)
    (hk : ∀ v' ch', OwnSl e ie.size v' (css ++ news) ch' → (css ++ news = [] → v' = v ∨ A ≠ none) → k v' μ (L.set i ch')) :
    SemOk P (Builtin.append_ #[t, t] ty #[v, .slice A m c]) μ L k := by
  intro w hw
  have hself : L.set i ch = L := by
    apply List.ext_getElem?
    intro j
    by_cases hj : i = j
    · subst hj
      have hlt : i < L.length := by
        rcases Nat.lt_or_ge i L.length with h | h
        · exact h
        · rw [List.getElem?_eq_none h] at hi; cases hi
      have he1 : L[i] = ch := by rw [List.getElem?_eq_getElem hlt] at hi; injection hi
      simp [List.getElem?_set, hlt, he1]
    · simp [List.getElem?_set, hj]
  have hperm := set_nil_perm hi
  obtain ⟨j, hj1, hj2, hj3, hj4⟩ := run_bytes hT he
  have hut := und_of hT ht hu (by simp)
  have hchw : ∀ c ∈ ch, w.heap[c.1]? = some c.2 := fun c hc => hw.own c (List.mem_flatten.2 ⟨ch, List.mem_of_getElem? hi, hc⟩)
  have hrow := hown.row hchw
  rcases Nat.eq_zero_or_pos m with h0 | h0
  ·
    subst h0
    have hne : news = [] := List.eq_nil_of_length_eq_zero hm
    subst hne
    have hrun : (Builtin.append_ #[t, t] ty #[v, .slice A 0 c]).run P w = .ok v w := by
      obtain ⟨A', cap, rfl, hc1, hc2⟩ := hown.form
      cases A <;> cases A' <;> simp [Builtin.append_, run_underlying hut, sizeOf, typeInfo, hj1, Builtin.lenOf, hc1, Builtin.firstCells, loadCells, loadCellsFrom, storeCells]
    refine ⟨v, w, μ, L, hrun, Gh.le.refl _, hw, ?_⟩
    have := hk v ch (by simpa using hown) (fun _ => .inl rfl)
    rwa [hself] at this
  · obtain ⟨a, rfl, hcs⟩ := hr h0
    obtain ⟨v', w', hrun, h2, h3, _, h5⟩ := run_append_own_at (P := P) w 0 t ty e j ie.zero ie.size ie.bytes hut hj1 hj4 hj3 hj2 hz hsz v css.length css.flatten hrow a m c news.flatten (by rw [length_flat hn, hm])
      (fun j u hu => hw.holds.cell (hcs j u hu)) (fun u hu => by obtain ⟨cs, h6, h7⟩ := List.mem_flatten.1 hu; exact h1 cs h6 u h7) h63 hb (Nat.zero_le _)
    have hlen : css.length + m = (css ++ news).length := by rw [List.length_append, hm]
    rw [hlen, ← List.flatten_append] at h2
    have hnn : (css ++ news).length ≠ 0 := by rw [← hlen]; omega
    rcases h2.2 with ⟨_, hz0⟩ | ⟨g, cap, cur, rfl, _, hg, hc1, hc2, hc3, hc4⟩
    · exact absurd hz0 hnn
    · have hgo : g = w.heap.size ∨ ∃ o, ch = [(g, o)] := by
        simp only [Value.ownBlock] at h5
        rcases h5 with h5 | h5
        · rcases hown.2 with ⟨rfl, _, _⟩ | ⟨g', cap', cur', rfl, rfl, _⟩
          · simp at h5
          · simp at h5; subst h5; exact .inr ⟨_, rfl⟩
        · injection h5 with h5; exact .inl h5
      refine ⟨_, w', μ, L.set i [(g, .cells cur e (0, 0))], hrun, Gh.le.refl _, ?_, hk _ _ ⟨?_, .inr ⟨g, cap, cur, rfl, rfl, hc1, hc2, hc3, hc4⟩⟩ (fun h => absurd (by rw [h]; rfl) hnn)⟩
      ·
        have hw1 : Inv w μ (ch :: L.set i []) := hw.perm hperm
        have hsub : (L.set i []).flatten.Sublist (ch :: L.set i []).flatten := by simp
        have hown' : ∀ c ∈ (L.set i []).flatten, c.1 ≠ g ∧ c.1 < w.heap.size ∧ some c.1 ≠ v.ownBlock := by
          intro c hc
          have hlt := lt_of_some (hw1.own c (hsub.subset hc))
          have hnd := hw1.nd
          simp only [List.flatten_cons, List.map_append, List.nodup_append] at hnd
          have hnch : ∀ d ∈ ch, d.1 ≠ c.1 := fun d hd => hnd.2.2 d.1 (List.mem_map.2 ⟨d, hd, rfl⟩) c.1 (List.mem_map.2 ⟨c, hc, rfl⟩)
          refine ⟨?_, hlt, ?_⟩
          · rcases hgo with rfl | ⟨o, rfl⟩
            · omega
            · exact fun e => hnch (g, o) (by simp) e.symm
          · rcases hown.2 with ⟨rfl, _, _⟩ | ⟨g', cap', cur', rfl, rfl, _⟩
            · simp [Value.ownBlock]
            · simp only [Value.ownBlock, ne_eq, Option.some.injEq]
              exact fun q => hnch (g', .cells cur' e (0, 0)) (by simp) q.symm
        have hkeep : ∀ c ∈ (L.set i []).flatten, w'.heap[c.1]? = some c.2 := fun c hc => by
          obtain ⟨_, h6, h7⟩ := hown' c hc
          rw [h3.block c.1 h6 h7]
          exact hw1.own c (hsub.subset hc)
        have hgm : μ.mem g = none := by
          rcases hgo with rfl | ⟨o, rfl⟩
          · cases hx : μ.mem w.heap.size with
            | none => rfl
            | some x => have := lt_of_some (hw.mem _ _ hx); omega
          · exact hw1.sep (g, o) (by simp)
        have hfin : Inv w' μ ([(g, .cells cur e (0, 0))] :: L.set i []) := by
          refine ⟨h3.os.trans hw.os, h3.output.trans hw.out, h3.tape.trans hw.tape, fun b o hb => ?_, fun c hc => ?_, fun c hc => ?_, ?_⟩
          · have h6 := hw.mem b o hb
            rw [h3.block b (lt_of_some h6) ?_]; exact h6
            intro he1
            rcases hown.2 with ⟨rfl, _, _⟩ | ⟨g', cap', cur', rfl, rfl, _⟩
            · simp [Value.ownBlock] at he1
            · simp only [Value.ownBlock, Option.some.injEq] at he1
              subst he1
              have := hw1.sep (b, .cells cur' e (0, 0)) (by simp)
              rw [hb] at this; cases this
          · simp only [List.flatten_cons, List.singleton_append, List.mem_cons] at hc
            rcases hc with rfl | hc
            · exact hg
            · exact hkeep c hc
          · simp only [List.flatten_cons, List.singleton_append, List.mem_cons] at hc
            rcases hc with rfl | hc
            · exact hgm
            · exact hw1.sep c (hsub.subset hc)
          · simp only [List.flatten_cons, List.singleton_append, List.map_cons, List.nodup_cons]
            refine ⟨fun hmem => ?_, ?_⟩
            · obtain ⟨c, hc, he⟩ := List.mem_map.1 hmem
              exact (hown' c hc).1 he
            · exact (hsub.map _).nodup hw1.nd
        refine hfin.perm ?_
        have hi' : (L.set i [(g, Obj.cells cur e (0, 0))])[i]? = some [(g, .cells cur e (0, 0))] := by
          have : i < L.length := by
            rcases Nat.lt_or_ge i L.length with h | h
            · exact h
            · rw [List.getElem?_eq_none h] at hi; cases hi
          simp [this]
        have := set_nil_perm hi'
        rw [List.set_set] at this
        exact this.symm
      · intro cs hcs'
        rcases List.mem_append.1 hcs' with h | h
        · exact hown.1 cs h
        · exact hn cs h
end
end Go.Proofs.YthpgjbbjpfiniaaGreat
