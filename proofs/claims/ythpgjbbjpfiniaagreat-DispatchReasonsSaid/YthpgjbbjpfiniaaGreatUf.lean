/- The plain laws of the tours: the search as the program runs it. -/
import Derived.Test.YthpgjbbjpfiniaaGreatUe
namespace Go.Proofs.YthpgjbbjpfiniaaGreat
open Go.RowKit
set_option linter.unusedSimpArgs false
set_option linter.unusedVariables false
variable {r : Rd_} {s : Int}
theorem after_eq {l : Lg} {x : Ed} (hr : OkR r) (hx : x ∈ r.Edges) {k : Nat} {n : Int} (hw : Wk r s k n l) (hk : k ≤ 100000) : road_after l x = some (addL l x) := by
  have h1 := hw.bound hr
  have h2 := hr.ed x hx
  unfold okEdge at h2
  unfold road_after addL
  rw [w64_eq (by omega) (by omega), w64_eq (by omega) (by omega)]
theorem relax_loop {F : Nat} {S : List Int} {W : Nat} {b : Lg} {cur : Int} {y : T_road_stop} (hr : OkR r) (hs : 0 ≤ s ∧ s < r.Nodes) (hcs : cur ∈ S) (hyn : y.node = cur) (hyl : y.leg = b) (hW : W ≤ 64) {M0 : Nat} (hM : M0 + 600 ≤ F) (hM2 : M0 ≤ 100000) :
    ∀ (d j : Nat) (out : List Lg) (q : Qu) (n : Nat), r.Edges.length - j = d → j ≤ r.Edges.length → d < n → lab out cur = b → (∃ k, k + 1 ≤ W ∧ Wk r s k cur (lab out cur)) → Dj r s (M0 + j) S W b cur j out q.heap →
      ∃ out' q', iter (road_spread_c143_l2 F r y) n (out, q, (j : Int)) = some (out', q') ∧ lab out' cur = b ∧ Dj r s (M0 + r.Edges.length) S W b cur r.Edges.length out' q'.heap := by
  intro d
  induction d with
  | zero =>
    intro j out q n hd hj hn hl hk hD
    obtain ⟨n, rfl⟩ : ∃ f, n = f + 1 := ⟨n - 1, by omega⟩
    obtain rfl : j = r.Edges.length := by omega
    refine ⟨out, q, ?_, hl, hD⟩
    rw [iter]
    simp only [road_spread_c143_l2, oun]
    rw [show decide (((r.Edges.length : Nat) : Int) < ((r.Edges.length : Nat) : Int)) = false by simp]
    rfl
  | succ d ih =>
    intro j out q n hd hj hn hl hk hD
    obtain ⟨n, rfl⟩ : ∃ f, n = f + 1 := ⟨n - 1, by omega⟩
    have hjl : j < r.Edges.length := by omega
    have hx : r.Edges[j]? = some r.Edges[j] := List.getElem?_eq_getElem hjl
    generalize r.Edges[j] = x at hx
    have hxm := List.mem_of_getElem? hx
    have hok := hr.ed x hxm
    unfold okEdge at hok
    have hel := hr.el
    have hlen := hD.len
    have hto : getI out x.To = some (lab out x.To) := lab_get (by omega) (by omega)
    have step : (∃ out1 q1, road_spread_c143_l2 F r y (out, q, (j : Int)) = some (.inl (out1, q1, ((j + 1 : Nat) : Int))) ∧ lab out1 cur = b ∧ (∃ k, k + 1 ≤ W ∧ Wk r s k cur (lab out1 cur)) ∧ Dj r s (M0 + (j + 1)) S W b cur (j + 1) out1 q1.heap) := by
      simp only [road_spread_c143_l2, oun]
      rw [show decide ((j : Int) < ((r.Edges.length : Nat) : Int)) = true by simp; omega]
      simp only [cond_true, getI_nat, hx, Option.bind_some, road_forward, hyn, hyl]
      rw [w64_nat (by omega)]
      by_cases hf : x.From = cur
      · simp only [hf, decide_true, Bool.not_true, cond_false]
        obtain ⟨k, hk1, hk2⟩ := hk
        have hk3 := hk2
        rw [hl] at hk3
        rw [after_eq hr hxm hk3 (by omega)]
        simp only [Option.bind_some, hto, better_eq]
        cases hb : (decide (lab out x.To = noL) || decide (Lg.lt (addL b x) (lab out x.To))) with
        | true =>
          simp only [cond_true]
          have hb' : lab out x.To = noL ∨ Lg.lt (addL b x) (lab out x.To) := by simpa using hb
          have hbnd := hk3.bound hr
          have hlh := hD.lenh
          obtain ⟨q1, hq1, hq2, hq3⟩ := Push_eq (F := F) (q := q) ⟨x.To, addL b x⟩ (by omega) (by omega) hD.okH (by unfold addL; simp only []; omega) hD.hp
          rw [hq1]
          simp only [Option.bind_some]
          have hD2 := hD.take hr hs hx hl hcs hf ⟨k, hk1, hk2⟩ hb' hq2 hq3
          have hne : cur ≠ x.To := fun e => by omega
          have hl2 : lab (setI out x.To (addL b x)) cur = lab out cur := by rw [lab_set (by omega) (by omega) (hD.sr cur hcs).1, if_neg hne]
          exact ⟨_, q1, rfl, by rw [hl2]; exact hl, ⟨k, hk1, by rw [hl2]; exact hk2⟩, hD2⟩
        | false =>
          simp only [cond_false]
          refine ⟨out, q, rfl, hl, ⟨k, hk1, hk2⟩, hD.skip hx fun _ => ?_⟩
          simp only [Bool.or_eq_false_iff, decide_eq_false_iff_not] at hb
          obtain ⟨k2, _, _, h5⟩ := secs_of hr (hD.lb x.To (by omega) (by omega)) hb.1
          rw [hl]
          exact ⟨h5, Lg.le_of_not_lt hb.2⟩
      · simp only [show decide (x.From = cur) = false by simpa using hf, Bool.not_false, cond_true, Option.bind_some]
        exact ⟨out, q, rfl, hl, hk, hD.skip hx fun e => absurd e hf⟩
    obtain ⟨out1, q1, h1, h2, h3, h4⟩ := step
    obtain ⟨out', q', g1, g2, g3⟩ := ih (j + 1) out1 q1 n (by omega) (by omega) (by omega) h2 h3 h4
    refine ⟨out', q', ?_, g2, g3⟩
    rw [iter, h1]
    exact g1
theorem Dj.drop {M : Nat} {S : List Int} {W : Nat} {b : Lg} {cur : Int} {j : Nat} {out : List Lg} {h h' : List It} {y : It} (d : Dj r s M S W b cur j out h) (hc : cur ∉ S) (hp : (y :: h').Perm h) (hh : Hp h') (hmin : ∀ z ∈ h, kle y z)
    (hst : lab out y.value.node ≠ y.value.leg) : Dj r s M S W y.value.leg cur j out h' := by
  have hmem : ∀ z, z ∈ h' → z ∈ h := fun z hz => hp.mem_iff.1 (List.mem_cons_of_mem _ hz)
  have hy : y ∈ h := hp.mem_iff.1 List.mem_cons_self
  have hby := (d.it y hy).2.2.1
  refine { d with hp := hh, lenh := ?_, it := fun z hz => ?_, nd := ?_, pend := fun n h0 h1 h2 h3 => ?_, dn := fun n hn => ⟨(d.dn n hn).1, Lg.le_trans (d.dn n hn).2 hby⟩, st := fun z hz => d.st z (hmem z hz), bs := ?_ }
  · have := d.lenh; have h2 := hp.length_eq; rw [List.length_cons] at h2; omega
  · have h2 := d.it z (hmem z hz)
    exact ⟨h2.1, h2.2.1, hmin z (hmem z hz), h2.2.2.2⟩
  · have h2 := ((hp.map fun y => (y.value.node, y.value.leg)).nodup_iff).2 d.nd
    rw [List.map_cons, List.nodup_cons] at h2
    exact h2.2
  · obtain ⟨z, hz, h5, h6⟩ := d.pend n h0 h1 h2 h3
    rcases List.mem_cons.1 (hp.mem_iff.2 hz) with h7 | h7
    · subst h7
      exact absurd (by rw [h5]; exact h6.symm) hst
    · exact ⟨z, h7, h5, h6⟩
  · have := d.bs; unfold Lg.le at hby; omega
theorem Dj.enter {M : Nat} {S : List Int} {W : Nat} {b : Lg} {out : List Lg} {h h' : List It} {y : It} (hr : OkR r) (d : Dj r s M S W b (-1) 0 out h) (hp : (y :: h').Perm h) (hh : Hp h') (hmin : ∀ z ∈ h, kle y z)
    (hst : lab out y.value.node = y.value.leg) : y.value.node ∉ S ∧ Dj r s (M - 1) (y.value.node :: S) (W + 1) y.value.leg y.value.node 0 out h' := by
  have hmem : ∀ z, z ∈ h' → z ∈ h := fun z hz => hp.mem_iff.1 (List.mem_cons_of_mem _ hz)
  have hy : y ∈ h := hp.mem_iff.1 List.mem_cons_self
  have hyi := d.it y hy
  have hby := hyi.2.2.1
  have hnS : y.value.node ∉ S := fun hm => by
    have := d.st y hy hm
    rw [hst] at this
    exact Lg.lt_irrefl this
  have hnd := ((hp.map fun y => (y.value.node, y.value.leg)).nodup_iff).2 d.nd
  rw [List.map_cons, List.nodup_cons] at hnd
  refine ⟨hnS, { len := d.len, hp := hh, lenh := ?_, it := fun z hz => ?_, nd := hnd.2, lb := fun n h0 h1 => ?_, src := d.src, pend := fun n h0 h1 h2 h3 => ?_, sn := List.nodup_cons.2 ⟨hnS, d.sn⟩, sr := fun n hn => ?_, dn := fun n hn => ?_, st := fun z hz hzS => ?_, bs := ?_, edge := fun n hn x hx hf => ?_ }⟩
  · have := d.lenh; have h2 := hp.length_eq; rw [List.length_cons] at h2; omega
  · have h2 := d.it z (hmem z hz)
    exact ⟨h2.1, h2.2.1, hmin z (hmem z hz), h2.2.2.2⟩
  · rcases d.lb n h0 h1 with h2 | ⟨k, h2, h3⟩
    · exact .inl h2
    · exact .inr ⟨k, by omega, h3⟩
  · obtain ⟨z, hz, h5, h6⟩ := d.pend n h0 h1 (fun e => h2 (List.mem_cons_of_mem _ e)) h3
    rcases List.mem_cons.1 (hp.mem_iff.2 hz) with h7 | h7
    · subst h7
      exact absurd (by rw [← h5]; exact List.mem_cons_self) h2
    · exact ⟨z, h7, h5, h6⟩
  · rcases List.mem_cons.1 hn with h1 | h1
    · subst h1; exact ⟨hyi.1, hyi.2.1⟩
    · exact d.sr n h1
  · rcases List.mem_cons.1 hn with h1 | h1
    · subst h1; exact ⟨hyi.2.2.2.1, by rw [hst]; exact Lg.le_refl _⟩
    · exact ⟨(d.dn n h1).1, Lg.le_trans (d.dn n h1).2 hby⟩
  · rcases List.mem_cons.1 hzS with h1 | h1
    · have h2 := (d.it z (hmem z hz)).2.2.2.2
      refine Lg.lt_of_le_ne h2 fun e => hnd.1 ?_
      rw [h1, hst] at e
      exact List.mem_map.2 ⟨z, hz, by rw [h1, ← e]⟩
    · exact d.st z (hmem z hz) h1
  · have := d.bs; unfold Lg.le at hby; omega
  · rcases List.mem_cons.1 hn with h1 | h1
    · subst h1
      rw [if_pos rfl] at hx
      simp at hx
    · have hne : n ≠ y.value.node := fun e => hnS (e ▸ h1)
      rw [if_neg hne] at hx
      refine d.edge n h1 x ?_ hf
      rw [if_neg (by have := (d.sr n h1).1; omega)]
      exact hx
theorem Dj.leave {M : Nat} {S : List Int} {W : Nat} {b : Lg} {cur : Int} {out : List Lg} {h : List It} (d : Dj r s M S W b cur r.Edges.length out h) : Dj r s M S W b (-1) 0 out h := by
  refine { d with edge := fun n hn x hx hf => d.edge n hn x ?_ hf }
  rw [if_neg (by have := (d.sr n hn).1; omega)] at hx
  split
  · rw [List.take_length]; exact hx
  · exact hx
theorem S_len {S : List Int} (hr : OkR r) (h1 : S.Nodup) (h2 : ∀ n ∈ S, 0 ≤ n ∧ n < r.Nodes) : S.length ≤ 64 := by
  have := nodup_sub_len (m := (List.range 64).map fun k : Nat => (k : Int)) h1 fun n hn => by
    have h3 := h2 n hn
    have h4 := hr.n2
    exact List.mem_map.2 ⟨n.toNat, List.mem_range.2 (by omega), by omega⟩
  simpa using this
theorem spread_loop {F : Nat} (hF : 40000 ≤ F) (hr : OkR r) (hs : 0 ≤ s ∧ s < r.Nodes) : ∀ (m : Nat) (n : Nat) (S : List Int) (b : Lg) (out : List Lg) (q : Qu), 514 * (64 - S.length) + q.heap.length ≤ m → m < n → Dj r s (1 + 512 * S.length) S S.length b (-1) 0 out q.heap →
    ∃ out', iter (road_spread_c143_l3 F r) n (out, q) = some out' ∧ ∃ S' b', Dj r s (1 + 512 * S'.length) S' S'.length b' (-1) 0 out' [] := by
  intro m
  induction m using Nat.strongRecOn with
  | ind m ih =>
    intro n S b out q hm hn hD
    obtain ⟨n, rfl⟩ : ∃ f, n = f + 1 := ⟨n - 1, by omega⟩
    have hS := S_len hr hD.sn hD.sr
    have hlh := hD.lenh
    by_cases hq : q.heap = []
    · refine ⟨out, ?_, S, b, by rw [← hq]; exact hD⟩
      rw [iter]
      simp only [road_spread_c143_l3, oun]
      rw [Pop_nil F q hq]
      rfl
    · obtain ⟨y, q', h1, h2, h3, h4⟩ := Pop_eq (F := F) (q := q) (by omega) (by omega) hD.okH hD.hp hq
      have hy : y ∈ q.heap := h2.mem_iff.1 List.mem_cons_self
      have hyi := hD.it y hy
      have hlen := hD.len
      have hql := h2.length_eq
      rw [List.length_cons] at hql
      have hget : getI out y.value.node = some (lab out y.value.node) := lab_get hyi.1 (by omega)
      by_cases hst : lab out y.value.node = y.value.leg
      · obtain ⟨hnS, hE⟩ := hD.enter hr h2 h3 h4 hst
        have hS2 := S_len hr hE.sn hE.sr
        rw [List.length_cons] at hS2
        obtain ⟨k, hk1, hk2⟩ : ∃ k, k + 1 ≤ S.length + 1 ∧ Wk r s k y.value.node (lab out y.value.node) := by
          obtain ⟨k, h5, h6, _⟩ := secs_of hr (hD.lb _ hyi.1 hyi.2.1) (ne_noL hyi.2.2.2.1)
          exact ⟨k, by omega, h6⟩
        have hE' : Dj r s (q'.heap.length + 0) (y.value.node :: S) (S.length + 1) y.value.leg y.value.node 0 out q'.heap := { hE with lenh := Nat.le_refl _ }
        obtain ⟨out', q2, g1, g2, g3⟩ := relax_loop (F := F) (y := y.value) (M0 := q'.heap.length) hr hs List.mem_cons_self rfl rfl (by omega) (by omega) (by omega) r.Edges.length 0 out q' (((r.Edges.length : Nat) : Int).toNat + 1) (by omega) (by omega) (by omega) hst ⟨k, hk1, hk2⟩ hE'
        have hel := hr.el
        have g6 := g3.lenh
        have g5 : Dj r s (1 + 512 * (y.value.node :: S).length) (y.value.node :: S) (y.value.node :: S).length y.value.leg (-1) 0 out' q2.heap := by
          refine { g3.leave with lenh := ?_ }
          rw [List.length_cons]
          omega
        obtain ⟨out2, k1, k2⟩ := ih (514 * (64 - (y.value.node :: S).length) + q2.heap.length) (by rw [List.length_cons]; omega) n (y.value.node :: S) y.value.leg out' q2 (Nat.le_refl _) (by rw [List.length_cons]; omega) g5
        refine ⟨out2, ?_, k2⟩
        rw [iter]
        simp only [road_spread_c143_l3, oun, h1, Option.bind_some, Bool.not_true, cond_false, hget, hst, decide_true]
        rw [show (0 : Int) = ((0 : Nat) : Int) from rfl, g1]
        exact k1
      · have hE := hD.drop (by intro hm; have := hD.sr _ hm; omega) h2 h3 h4 hst
        obtain ⟨out', k1, k2⟩ := ih (514 * (64 - S.length) + q'.heap.length) (by omega) n S y.value.leg out q' (Nat.le_refl _) (by omega) hE
        refine ⟨out', ?_, k2⟩
        rw [iter]
        simp only [road_spread_c143_l3, oun, h1, Option.bind_some, Bool.not_true, cond_false, hget]
        rw [show decide (lab out y.value.node = y.value.leg) = false by simpa using hst]
        simp only [Bool.not_false, cond_true, Option.bind_some, osum]
        exact k1
structure IsL (r : Rd_) (s : Int) (out : List Lg) : Prop where
  len : ((out.length : Nat) : Int) = r.Nodes
  lb : ∀ n, 0 ≤ n → n < r.Nodes → lab out n = noL ∨ ∃ k, k ≤ out.length ∧ Wk r s k n (lab out n)
  best : ∀ k n l, Wk r s k n l → 0 ≤ (lab out n).Secs ∧ Lg.le (lab out n) l
theorem Dj.legs {S : List Int} {b : Lg} {out : List Lg} {M : Nat} (hr : OkR r) (hs : 0 ≤ s ∧ s < r.Nodes) (d : Dj r s M S S.length b (-1) 0 out []) : IsL r s out := by
  have hlen := d.len
  have hS : S.length ≤ out.length := by
    have := nodup_sub_len (m := (List.range out.length).map fun k : Nat => (k : Int)) d.sn fun n hn => by
      have h3 := d.sr n hn
      exact List.mem_map.2 ⟨n.toNat, List.mem_range.2 (by omega), by omega⟩
    simpa using this
  refine ⟨hlen, fun n h0 h1 => ?_, fun k n l hw => ?_⟩
  · rcases d.lb n h0 h1 with h2 | ⟨k, h2, h3⟩
    · exact .inl h2
    · exact .inr ⟨k, by omega, h3⟩
  · have hin : ∀ n, 0 ≤ n → n < r.Nodes → 0 ≤ (lab out n).Secs → n ∈ S := fun n h0 h1 h2 => by
      by_cases h3 : n ∈ S
      · exact h3
      · obtain ⟨y, hy, _⟩ := d.pend n h0 h1 h3 (ne_noL h2)
        cases hy
    induction hw with
    | nil => rw [d.src]; exact ⟨Int.le_refl _, Lg.le_refl _⟩
    | cons h hx ha ih =>
      rename_i k a l x
      have hnode := h.node hr hs
      have hS := hin a hnode.1 hnode.2 ih.1
      have h2 := d.edge a hS x (by rw [if_neg (by omega)]; exact hx) ha
      exact ⟨h2.1, Lg.le_trans h2.2 (addL_mono ih.2)⟩
theorem lab_rep {n : Nat} {i : Int} : lab (List.replicate n noL) i = noL := by
  unfold lab getI
  split
  · rw [List.getElem?_replicate]; split <;> rfl
  · rfl
theorem list_ext_lab {a b : List Lg} (h : a.length = b.length) (h2 : ∀ n : Nat, n < a.length → lab a n = lab b n) : a = b := by
  apply List.ext_getElem?
  intro i
  rcases Nat.lt_or_ge i a.length with hi | hi
  · have h3 := h2 i hi
    have h4 := lab_get (out := a) (n := (i : Int)) (by omega) (by omega)
    have h5 := lab_get (out := b) (n := (i : Int)) (by omega) (by omega)
    rw [getI_nat] at h4 h5
    rw [h4, h5, h3]
  · rw [List.getElem?_eq_none hi, List.getElem?_eq_none (by omega)]
theorem IsL.unique {a b : List Lg} (hr : OkR r) (ha : IsL r s a) (hb : IsL r s b) : a = b := by
  have h1 := ha.len
  have h2 := hb.len
  refine list_ext_lab (by omega) fun n hn => ?_
  rcases ha.lb n (by omega) (by omega) with h3 | ⟨k, _, h3⟩ <;> rcases hb.lb n (by omega) (by omega) with h4 | ⟨k', _, h4⟩
  · rw [h3, h4]
  · have h5 := ha.best _ _ _ h4
    rw [h3] at h5; exact absurd h5.1 (by decide)
  · have h5 := hb.best _ _ _ h3
    rw [h4] at h5; exact absurd h5.1 (by decide)
  · exact Lg.antisymm (ha.best _ _ _ h4).2 (hb.best _ _ _ h3).2
theorem spread_eq {F : Nat} (hF : 40000 ≤ F) (hr : OkR r) (hs : 0 ≤ s ∧ s < r.Nodes) : ∃ out, road_spread_c143 F r s = some out ∧ IsL r s out := by
  have h1 := hr.n1
  have h2 := hr.n2
  have hmk : makeO (⟨0, 0⟩ : Lg) r.Nodes = some (List.replicate r.Nodes.toNat ⟨0, 0⟩) := by
    unfold makeO
    rw [if_pos (by omega)]
  have hl1 : iter (road_spread_c143_l1 (List.replicate r.Nodes.toNat ⟨0, 0⟩)) ((((List.replicate r.Nodes.toNat (⟨0, 0⟩ : Lg)).length : Nat) : Int).toNat + 1) (List.replicate r.Nodes.toNat ⟨0, 0⟩, 0) = some (List.replicate r.Nodes.toNat noL) := by
    have hN : r.Nodes.toNat ≤ 64 := by omega
    generalize r.Nodes.toNat = N at *
    have := iter_stI (body := road_spread_c143_l1 (List.replicate N ⟨0, 0⟩)) (List.replicate N (⟨0, 0⟩ : Lg)) (fun k => List.replicate k noL ++ List.replicate (N - k) (⟨0, 0⟩ : Lg)) (fun m k => (m, k)) (fun _ _ => none) (List.replicate N noL) (by simp; omega) (fun k x hx _ => ?_) (fun _ => by simp [road_spread_c143_l1, oun]) ((((List.replicate N (⟨0, 0⟩ : Lg)).length : Nat) : Int).toNat + 1) (by simp)
    · rw [firstI_none _ _ (fun _ _ _ => rfl)] at this
      simpa using this
    · have hk := lt_of_get hx
      have hk2 : ((k : Int) < (((List.replicate N (⟨0, 0⟩ : Lg)).length : Nat) : Int)) := by omega
      rw [List.length_replicate] at hk
      simp only [road_spread_c143_l1, oun, hk2, decide_true, cond_true, road_none, Option.bind_some]
      obtain ⟨z, hz⟩ : ∃ z, getI (List.replicate k noL ++ List.replicate (N - k) (⟨0, 0⟩ : Lg)) (k : Int) = some z := getI_in (by omega) (by simp; omega)
      rw [hz]
      simp only [Option.bind_some, pickO]
      congr 3
      unfold setI
      rw [Int.toNat_natCast, show N - k = (N - (k + 1)) + 1 by omega, List.replicate_succ, List.set_append_right _ _ (by simp), List.length_replicate, Nat.sub_self, List.set_cons_zero, List.replicate_succ', List.append_assoc]
      rfl
  have hlenR : ((((List.replicate r.Nodes.toNat noL).length : Nat)) : Int) = r.Nodes := by simp; omega
  obtain ⟨q, hq1, hq2, hq3⟩ := Push_eq (F := F) (q := ⟨[], 0⟩) ⟨s, ⟨0, 0⟩⟩ (by simp; omega) (by simp) (by intro y hy; cases hy) (Int.le_refl _) (by intro k a b _ ha; simp at ha)
  have hset : ∀ n, 0 ≤ n → lab (setI (List.replicate r.Nodes.toNat noL) s ⟨0, 0⟩) n = if n = s then ⟨0, 0⟩ else noL := fun n hn => by
    rw [lab_set hs.1 (by omega) hn, lab_rep]
  have hmem : ∀ y, y ∈ q.heap ↔ y = ⟨⟨s, ⟨0, 0⟩⟩, 0⟩ := fun y => by rw [hq2.mem_iff]; simp
  have hD : Dj r s (1 + 512 * ([] : List Int).length) [] ([] : List Int).length ⟨0, 0⟩ (-1) 0 (setI (List.replicate r.Nodes.toNat noL) s ⟨0, 0⟩) q.heap := by
    refine { len := by rw [setI_len]; exact hlenR, hp := hq3, lenh := by rw [hq2.length_eq]; simp, it := fun y hy => ?_, nd := ?_, lb := fun n h0 h3 => ?_, src := by rw [hset s hs.1, if_pos rfl], pend := fun n h0 h3 h4 h5 => ?_, sn := List.nodup_nil, sr := (fun n hn => by cases hn), dn := (fun n hn => by cases hn), st := (fun y hy h => by cases h), bs := Int.le_refl _, edge := (fun n hn => by cases hn) }
    · rw [(hmem y).1 hy]
      simp only []
      rw [hset s hs.1, if_pos rfl]
      exact ⟨hs.1, hs.2, Lg.le_refl _, Int.le_refl _, Lg.le_refl _⟩
    · rw [(hq2.map _).nodup_iff]; simp
    · rw [hset n h0]
      by_cases h4 : n = s
      · rw [if_pos h4, h4]; exact .inr ⟨0, Nat.le_refl _, .nil⟩
      · rw [if_neg h4]; exact .inl rfl
    · rw [hset n h0] at h5 ⊢
      by_cases h6 : n = s
      · rw [if_pos h6]; exact ⟨_, (hmem _).2 rfl, h6.symm, rfl⟩
      · rw [if_neg h6] at h5; exact absurd rfl h5
  obtain ⟨out, k1, S', b', k2⟩ := spread_loop hF hr hs (514 * 64 + q.heap.length) F [] ⟨0, 0⟩ _ q (by simp) (by rw [hq2.length_eq]; simp; omega) hD
  refine ⟨out, ?_, k2.legs hr hs⟩
  unfold road_spread_c143
  rw [hmk]
  simp only [Option.bind_some]
  rw [hl1]
  simp only [Option.bind_some, pqueue_New_stop_c153]
  rw [lab_get hs.1 (by omega)]
  simp only [Option.bind_some]
  rw [hq1]
  simp only [Option.bind_some, k1]
end Go.Proofs.YthpgjbbjpfiniaaGreat
