/- The plain laws of the tours: the ways. -/
import Derived.Test.YthpgjbbjpfiniaaGreatUd
namespace Go.Proofs.YthpgjbbjpfiniaaGreat
open Go.RowKit
set_option linter.unusedSimpArgs false
set_option linter.unusedVariables false
abbrev Ed := T_api_Edge
abbrev Rd_ := T_api_Road
structure OkR (r : Rd_) : Prop where
  n1 : 1 ≤ r.Nodes
  n2 : r.Nodes ≤ 64
  el : r.Edges.length ≤ 512
  ed : ∀ x ∈ r.Edges, okEdge r x
theorem OkR.of {r : Rd_} (h : roadE r = 0) : OkR r := let ⟨a, b, c, d⟩ := roadE_zero h; ⟨a, b, c, d⟩
def addL (l : Lg) (x : Ed) : Lg := ⟨l.Secs + x.Secs, l.Meters + x.Meters⟩
theorem lt_addL {l : Lg} {x : Ed} (h : 1 ≤ x.Secs) : Lg.lt l (addL l x) := by unfold Lg.lt addL; simp only []; omega
theorem addL_mono {a b : Lg} {x : Ed} (h : Lg.le a b) : Lg.le (addL a x) (addL b x) := by unfold Lg.le addL at *; simp only []; omega
theorem Lg.lt_irrefl {a : Lg} : ¬ Lg.lt a a := by unfold Lg.lt; omega
theorem Lg.lt_of_lt_le {a b c : Lg} (h : Lg.lt a b) (h2 : Lg.le b c) : Lg.lt a c := by unfold Lg.lt Lg.le at *; omega
theorem Lg.lt_of_le_lt {a b c : Lg} (h : Lg.le a b) (h2 : Lg.lt b c) : Lg.lt a c := by unfold Lg.lt Lg.le at *; omega
theorem Lg.lt_of_le_ne {a b : Lg} (h : Lg.le a b) (h2 : a ≠ b) : Lg.lt a b := by
  cases a; cases b
  unfold Lg.lt Lg.le at *
  simp only [ne_eq, T_api_Leg.mk.injEq] at *
  omega
theorem Lg.antisymm {a b : Lg} (h : Lg.le a b) (h2 : Lg.le b a) : a = b := by
  cases a; cases b
  unfold Lg.le at *
  simp only [T_api_Leg.mk.injEq] at *
  omega
inductive Wk (r : Rd_) (s : Int) : Nat → Int → Lg → Prop
  | nil : Wk r s 0 s ⟨0, 0⟩
  | cons {k : Nat} {a : Int} {l : Lg} {x : Ed} (h : Wk r s k a l) (hx : x ∈ r.Edges) (ha : x.From = a) : Wk r s (k + 1) x.To (addL l x)
theorem Wk.bound {r : Rd_} {s : Int} (hr : OkR r) : ∀ {k : Nat} {n : Int} {l : Lg}, Wk r s k n l → 0 ≤ l.Secs ∧ l.Secs ≤ k * 100000 ∧ 0 ≤ l.Meters ∧ l.Meters ≤ k * 100000
  | _, _, _, .nil => by simp
  | _, _, _, .cons h hx ha => by
    have h1 := h.bound hr
    have h2 := hr.ed _ hx
    unfold okEdge at h2
    unfold addL
    simp only []
    omega
theorem Wk.node {r : Rd_} {s : Int} (hr : OkR r) (hs : 0 ≤ s ∧ s < r.Nodes) : ∀ {k : Nat} {n : Int} {l : Lg}, Wk r s k n l → 0 ≤ n ∧ n < r.Nodes
  | _, _, _, .nil => hs
  | _, _, _, .cons h hx ha => by
    have h2 := hr.ed _ hx
    unfold okEdge at h2
    omega
def lab (out : List Lg) (n : Int) : Lg := (getI out n).getD noL
theorem lab_get {out : List Lg} {n : Int} (h0 : 0 ≤ n) (h1 : n < (out.length : Nat)) : getI out n = some (lab out n) := by
  obtain ⟨x, hx⟩ := getI_in h0 h1
  unfold lab
  rw [hx]; rfl
theorem lab_set {out : List Lg} {b n : Int} {l : Lg} (h0 : 0 ≤ b) (h1 : b < (out.length : Nat)) (hn : 0 ≤ n) : lab (setI out b l) n = if n = b then l else lab out n := by
  unfold lab setI getI
  simp only [hn, if_true]
  rw [List.getElem?_set]
  by_cases h : n = b
  · subst h
    simp only [if_true]
    rw [if_pos (by omega)]; rfl
  · rw [if_neg h, if_neg (by omega)]
theorem setI_len (out : List Lg) (b : Int) (l : Lg) : (setI out b l).length = out.length := by simp [setI]
structure Dj (r : Rd_) (s : Int) (M : Nat) (S : List Int) (W : Nat) (b : Lg) (cur : Int) (j : Nat) (out : List Lg) (h : List It) : Prop where
  len : ((out.length : Nat) : Int) = r.Nodes
  hp : Hp h
  lenh : h.length ≤ M
  it : ∀ y ∈ h, 0 ≤ y.value.node ∧ y.value.node < r.Nodes ∧ Lg.le b y.value.leg ∧ 0 ≤ (lab out y.value.node).Secs ∧ Lg.le (lab out y.value.node) y.value.leg
  nd : (h.map fun y => (y.value.node, y.value.leg)).Nodup
  lb : ∀ n, 0 ≤ n → n < r.Nodes → lab out n = noL ∨ ∃ k, k ≤ W ∧ Wk r s k n (lab out n)
  src : lab out s = ⟨0, 0⟩
  pend : ∀ n, 0 ≤ n → n < r.Nodes → n ∉ S → lab out n ≠ noL → ∃ y ∈ h, y.value.node = n ∧ y.value.leg = lab out n
  sn : S.Nodup
  sr : ∀ n ∈ S, 0 ≤ n ∧ n < r.Nodes
  dn : ∀ n ∈ S, 0 ≤ (lab out n).Secs ∧ Lg.le (lab out n) b
  st : ∀ y ∈ h, y.value.node ∈ S → Lg.lt (lab out y.value.node) y.value.leg
  bs : 0 ≤ b.Secs
  edge : ∀ n ∈ S, ∀ x ∈ (if n = cur then r.Edges.take j else r.Edges), x.From = n → 0 ≤ (lab out x.To).Secs ∧ Lg.le (lab out x.To) (addL (lab out n) x)
theorem Dj.okH {r : Rd_} {s : Int} {M : Nat} {S : List Int} {W : Nat} {b : Lg} {cur : Int} {j : Nat} {out : List Lg} {h : List It} (d : Dj r s M S W b cur j out h) : okH h := fun y hy => by
  have h1 := d.it y hy
  have h2 := d.bs
  unfold okI
  have h3 := h1.2.2.1
  unfold Lg.le at h3
  omega
theorem ne_noL {l : Lg} (h : 0 ≤ l.Secs) : l ≠ noL := by intro e; rw [e] at h; exact absurd h (by decide)
theorem secs_of {r : Rd_} {s : Int} {W : Nat} (hr : OkR r) {l : Lg} {n : Int} (h : l = noL ∨ ∃ k, k ≤ W ∧ Wk r s k n l) (hne : l ≠ noL) : ∃ k, k ≤ W ∧ Wk r s k n l ∧ 0 ≤ l.Secs := by
  rcases h with h | ⟨k, h1, h2⟩
  · exact absurd h hne
  · exact ⟨k, h1, h2, (h2.bound hr).1⟩
theorem take_mem_succ {α : Type} {l : List α} {j : Nat} {x y : α} (hx : l[j]? = some x) (hy : y ∈ l.take (j + 1)) : y ∈ l.take j ∨ y = x := by
  rw [take_succ' hx] at hy
  rcases List.mem_append.1 hy with h | h
  · exact .inl h
  · exact .inr (List.mem_singleton.1 h)
theorem Dj.skip {r : Rd_} {s : Int} {M : Nat} {S : List Int} {W : Nat} {b : Lg} {cur : Int} {j : Nat} {out : List Lg} {h : List It} {x : Ed} (d : Dj r s M S W b cur j out h) (hx : r.Edges[j]? = some x)
    (hc : x.From = cur → 0 ≤ (lab out x.To).Secs ∧ Lg.le (lab out x.To) (addL (lab out cur) x)) : Dj r s (M + 1) S W b cur (j + 1) out h := by
  refine { d with lenh := by have := d.lenh; omega, edge := fun n hn y hy hf => ?_ }
  by_cases hnc : n = cur
  · rw [if_pos hnc] at hy
    rcases take_mem_succ hx hy with h1 | h1
    · exact d.edge n hn y (by rw [if_pos hnc]; exact h1) hf
    · subst h1
      rw [hnc]
      exact hc (by rw [hf, hnc])
  · rw [if_neg hnc] at hy
    exact d.edge n hn y (by rw [if_neg hnc]; exact hy) hf
theorem Dj.take {r : Rd_} {s : Int} {M : Nat} {S : List Int} {W : Nat} {b : Lg} {cur : Int} {j : Nat} {out : List Lg} {h h' : List It} {x : Ed} {c : Int} (hr : OkR r) (hs : 0 ≤ s ∧ s < r.Nodes) (d : Dj r s M S W b cur j out h) (hx : r.Edges[j]? = some x)
    (hcur : lab out cur = b) (hcs : cur ∈ S) (hf : x.From = cur) (hk : ∃ k, k + 1 ≤ W ∧ Wk r s k cur (lab out cur)) (hb : lab out x.To = noL ∨ Lg.lt (addL b x) (lab out x.To))
    (hp : h'.Perm (h ++ [⟨⟨x.To, addL b x⟩, c⟩])) (hh : Hp h') : Dj r s (M + 1) S W b cur (j + 1) (setI out x.To (addL b x)) h' := by
  have hok := hr.ed x (List.mem_of_getElem? hx)
  unfold okEdge at hok
  have hlen := d.len
  have hto0 : 0 ≤ x.To := by omega
  have hto1 : x.To < ((out.length : Nat) : Int) := by omega
  have hbx : Lg.lt b (addL b x) := lt_addL (by omega)
  have hset : ∀ n, 0 ≤ n → lab (setI out x.To (addL b x)) n = if n = x.To then addL b x else lab out n := fun n hn => lab_set hto0 hto1 hn
  have hself : lab (setI out x.To (addL b x)) x.To = addL b x := by rw [hset _ hto0, if_pos rfl]
  have hbs := d.bs
  have hxs : 0 ≤ (addL b x).Secs := by unfold addL; simp only []; omega
  have hnS : x.To ∉ S := fun hm => by
    have h1 := d.dn _ hm
    rcases hb with h2 | h2
    · rw [h2] at h1; exact absurd h1.1 (by decide)
    · exact Lg.lt_irrefl (Lg.lt_of_lt_le (Lg.lt_of_lt_le (Lg.lt_of_le_lt h1.2 hbx) (Lg.le_of_lt h2)) (Lg.le_refl _))
  have hne : ∀ n ∈ S, n ≠ x.To := fun n hn e => hnS (e ▸ hn)
  have hold : ∀ n ∈ S, lab (setI out x.To (addL b x)) n = lab out n := fun n hn => by rw [hset _ (d.sr n hn).1, if_neg (hne n hn)]
  have hsrc : s ≠ x.To := fun e => by
    have h1 := d.src
    rw [e] at h1
    rcases hb with h2 | h2
    · rw [h1] at h2; cases h2
    · rw [h1] at h2
      unfold Lg.lt addL at h2
      simp only [] at h2
      omega
  have hmem : ∀ y, y ∈ h' ↔ y ∈ h ∨ y = ⟨⟨x.To, addL b x⟩, c⟩ := fun y => by rw [hp.mem_iff]; simp
  have himp : ∀ n, 0 ≤ n → 0 ≤ (lab out n).Secs → 0 ≤ (lab (setI out x.To (addL b x)) n).Secs ∧ Lg.le (lab (setI out x.To (addL b x)) n) (lab out n) := fun n hn h0 => by
    rw [hset n hn]
    by_cases h1 : n = x.To
    · subst h1
      rw [if_pos rfl]
      rcases hb with h2 | h2
      · rw [h2] at h0; exact absurd h0 (by decide)
      · exact ⟨hxs, Lg.le_of_lt h2⟩
    · rw [if_neg h1]; exact ⟨h0, Lg.le_refl _⟩
  refine { len := by rw [setI_len]; exact hlen, hp := hh, lenh := ?_, it := ?_, nd := ?_, lb := ?_, src := ?_, pend := ?_, sn := d.sn, sr := d.sr, dn := ?_, st := ?_, bs := d.bs, edge := ?_ }
  · rw [hp.length_eq, List.length_append, List.length_singleton]; have := d.lenh; omega
  · intro y hy
    rcases (hmem y).1 hy with h1 | h1
    · have h2 := d.it y h1
      have h3 := himp _ h2.1 h2.2.2.2.1
      exact ⟨h2.1, h2.2.1, h2.2.2.1, h3.1, Lg.le_trans h3.2 h2.2.2.2.2⟩
    · subst h1
      simp only []
      rw [hself]
      exact ⟨hto0, by omega, Lg.le_of_lt hbx, hxs, Lg.le_refl _⟩
  · rw [(hp.map _).nodup_iff, List.map_append, List.nodup_append]
    refine ⟨d.nd, by simp, fun p hp1 q hq => ?_⟩
    simp only [List.map_cons, List.map_nil, List.mem_singleton] at hq
    subst hq
    obtain ⟨y, hy, rfl⟩ := List.mem_map.1 hp1
    intro e
    injection e with e1 e2
    have h2 := d.it y hy
    rw [e1, e2] at h2
    rcases hb with h3 | h3
    · rw [h3] at h2; exact absurd h2.2.2.2.1 (by decide)
    · exact Lg.lt_irrefl (Lg.lt_of_lt_le h3 h2.2.2.2.2)
  · intro n h0 h1
    rw [hset n h0]
    by_cases h2 : n = x.To
    · subst h2
      rw [if_pos rfl]
      obtain ⟨k, hk1, hk2⟩ := hk
      refine .inr ⟨k + 1, hk1, ?_⟩
      rw [← hcur]
      exact .cons hk2 (List.mem_of_getElem? hx) hf
    · rw [if_neg h2]; exact d.lb n h0 h1
  · rw [hset s hs.1, if_neg hsrc]; exact d.src
  · intro n h0 h1 h2 h3
    rw [hset n h0] at h3 ⊢
    by_cases h4 : n = x.To
    · rw [if_pos h4]
      exact ⟨_, (hmem _).2 (.inr rfl), h4.symm, rfl⟩
    · rw [if_neg h4] at h3 ⊢
      obtain ⟨y, hy, h5⟩ := d.pend n h0 h1 h2 h3
      exact ⟨y, (hmem y).2 (.inl hy), h5⟩
  · intro n hn
    rw [hold n hn]; exact d.dn n hn
  · intro y hy hyS
    rcases (hmem y).1 hy with h1 | h1
    · rw [hold _ hyS]; exact d.st y h1 hyS
    · subst h1; exact absurd hyS hnS
  · intro n hn y hy hfy
    have hyE : y ∈ r.Edges := by
      split at hy
      · exact List.mem_of_mem_take hy
      · exact hy
    have hyok := hr.ed y hyE
    unfold okEdge at hyok
    have h5 : (y = x ∧ n = cur) ∨ y ∈ (if n = cur then r.Edges.take j else r.Edges) := by
      by_cases hnc : n = cur
      · rw [if_pos hnc] at hy ⊢
        rcases take_mem_succ hx hy with h1 | h1
        · exact .inr h1
        · exact .inl ⟨h1, hnc⟩
      · rw [if_neg hnc] at hy ⊢
        exact .inr hy
    rw [hold n hn]
    rcases h5 with ⟨rfl, rfl⟩ | h5
    · rw [hself, hcur]; exact ⟨hxs, Lg.le_refl _⟩
    · have h6 := d.edge n hn y h5 hfy
      have h7 := himp y.To (by omega) h6.1
      exact ⟨h7.1, Lg.le_trans h7.2 h6.2⟩
end Go.Proofs.YthpgjbbjpfiniaaGreat
