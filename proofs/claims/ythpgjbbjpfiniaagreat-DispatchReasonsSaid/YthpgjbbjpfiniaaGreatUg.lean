/- The plain laws of the tours: the reference's ways are the program's. -/
import Derived.Test.YthpgjbbjpfiniaaGreatUf
namespace Go.Proofs.YthpgjbbjpfiniaaGreat
open Go.RowKit
set_option linter.unusedSimpArgs false
set_option linter.unusedVariables false
variable {r : Rd_} {s : Int}
structure Bf (r : Rd_) (s : Int) (t k : Nat) (out : List Lg) : Prop where
  len : ((out.length : Nat) : Int) = r.Nodes
  lb : ∀ n, 0 ≤ n → n < r.Nodes → lab out n = noL ∨ ∃ k, k ≤ t ∧ Wk r s k n (lab out n)
  best : ∀ j n l, j ≤ k → Wk r s j n l → 0 ≤ (lab out n).Secs ∧ Lg.le (lab out n) l
theorem rbetter_eq {a b : Lg} (h : 0 ≤ a.Secs) : recyclingref19_Better a b = some (decide (b.Secs < 0) || decide (Lg.lt a b)) := by
  unfold recyclingref19_Better
  by_cases h1 : b.Secs < 0
  · simp [h1, h]
  · by_cases h2 : a.Secs < b.Secs
    · simp [h1, h2, Lg.lt, show ¬ a.Secs < 0 by omega]
    · by_cases h3 : a.Secs = b.Secs
      · simp [h1, h2, h3, Lg.lt, show ¬ b.Secs < 0 by omega]
      · simp [h1, h2, h3, Lg.lt, show ¬ a.Secs < 0 by omega]
theorem Bf.better {t k : Nat} {out : List Lg} {b : Int} {l : Lg} (d : Bf r s t k out) (h0 : 0 ≤ b) (h1 : b < r.Nodes) (hw : ∃ j, j ≤ t + 1 ∧ Wk r s j b l) (hl : 0 ≤ l.Secs) (hb : (lab out b).Secs < 0 ∨ Lg.lt l (lab out b)) :
    Bf r s (t + 1) k (setI out b l) ∧ ∀ n, 0 ≤ n → 0 ≤ (lab out n).Secs → 0 ≤ (lab (setI out b l) n).Secs ∧ Lg.le (lab (setI out b l) n) (lab out n) := by
  have hlen := d.len
  have hset : ∀ n, 0 ≤ n → lab (setI out b l) n = if n = b then l else lab out n := fun n hn => lab_set h0 (by omega) hn
  have himp : ∀ n, 0 ≤ n → 0 ≤ (lab out n).Secs → 0 ≤ (lab (setI out b l) n).Secs ∧ Lg.le (lab (setI out b l) n) (lab out n) := fun n hn h2 => by
    rw [hset n hn]
    by_cases h3 : n = b
    · subst h3
      rw [if_pos rfl]
      rcases hb with h4 | h4
      · omega
      · exact ⟨hl, Lg.le_of_lt h4⟩
    · rw [if_neg h3]; exact ⟨h2, Lg.le_refl _⟩
  refine ⟨⟨by rw [setI_len]; exact hlen, fun n hn hn2 => ?_, fun j n l' hj hw' => ?_⟩, himp⟩
  · rw [hset n hn]
    by_cases h3 : n = b
    · subst h3; rw [if_pos rfl]; exact .inr hw
    · rw [if_neg h3]
      rcases d.lb n hn hn2 with h4 | ⟨j, h4, h5⟩
      · exact .inl h4
      · exact .inr ⟨j, by omega, h5⟩
  · have h2 := d.best j n l' hj hw'
    by_cases hn : 0 ≤ n
    · have h3 := himp n hn h2.1
      exact ⟨h3.1, Lg.le_trans h3.2 h2.2⟩
    · have : lab out n = noL := by unfold lab getI; rw [if_neg hn]; rfl
      rw [this] at h2
      exact absurd h2.1 (by decide)
theorem Bf.more {t t' k : Nat} {out : List Lg} (d : Bf r s t k out) (h : t ≤ t') : Bf r s t' k out :=
  ⟨d.len, fun n h0 h1 => by
    rcases d.lb n h0 h1 with h4 | ⟨j, h4, h5⟩
    · exact .inl h4
    · exact .inr ⟨j, by omega, h5⟩, d.best⟩
theorem round_loop (hr : OkR r) (hs : 0 ≤ s ∧ s < r.Nodes) {k : Nat} : ∀ (d j : Nat) (t : Nat) (out : List Lg) (n : Nat), r.Edges.length - j = d → j ≤ r.Edges.length → d < n → t + d ≤ 90000 → Bf r s t k out →
      (∀ x ∈ r.Edges.take j, ∀ i l, i ≤ k → Wk r s i x.From l → 0 ≤ (lab out x.To).Secs ∧ Lg.le (lab out x.To) (addL l x)) →
      ∃ out', iter (recyclingref19_Legs_l2 r) n (out, (j : Int)) = some out' ∧ Bf r s (t + d) (k + 1) out' := by
  intro d
  induction d with
  | zero =>
    intro j t out n hd hj hn ht hB hE
    obtain ⟨n, rfl⟩ : ∃ f, n = f + 1 := ⟨n - 1, by omega⟩
    obtain rfl : j = r.Edges.length := by omega
    refine ⟨out, ?_, hB.len, hB.lb, fun i m l hi hw => ?_⟩
    · rw [iter]
      simp only [recyclingref19_Legs_l2, oun]
      rw [show decide (((r.Edges.length : Nat) : Int) < ((r.Edges.length : Nat) : Int)) = false by simp]
      rfl
    · rcases Nat.lt_or_ge k i with h1 | h1
      · obtain rfl : i = k + 1 := by omega
        rw [List.take_length] at hE
        cases hw with
        | cons h hx ha => subst ha; exact hE _ hx _ _ (Nat.le_refl _) h
      · exact hB.best i m l h1 hw
  | succ d ih =>
    intro j t out n hd hj hn ht hB hE
    obtain ⟨n, rfl⟩ : ∃ f, n = f + 1 := ⟨n - 1, by omega⟩
    have hjl : j < r.Edges.length := by omega
    have hx : r.Edges[j]? = some r.Edges[j] := List.getElem?_eq_getElem hjl
    generalize r.Edges[j] = x at hx
    have hxm := List.mem_of_getElem? hx
    have hok := hr.ed x hxm
    unfold okEdge at hok
    have hel := hr.el
    have hlen := hB.len
    have hto : getI out x.To = some (lab out x.To) := lab_get (by omega) (by omega)
    have hfrom : getI out x.From = some (lab out x.From) := lab_get (by omega) (by omega)
    have step : ∃ out1, recyclingref19_Legs_l2 r (out, (j : Int)) = some (.inl (out1, ((j + 1 : Nat) : Int))) ∧ Bf r s (t + 1) k out1 ∧
        (∀ n, 0 ≤ n → 0 ≤ (lab out n).Secs → 0 ≤ (lab out1 n).Secs ∧ Lg.le (lab out1 n) (lab out n)) ∧ ∀ i l, i ≤ k → Wk r s i x.From l → 0 ≤ (lab out1 x.To).Secs ∧ Lg.le (lab out1 x.To) (addL l x) := by
      simp only [recyclingref19_Legs_l2, oun]
      rw [show decide ((j : Int) < ((r.Edges.length : Nat) : Int)) = true by simp; omega]
      simp only [cond_true, getI_nat, hx, Option.bind_some, hfrom, hto]
      rw [w64_nat (by omega)]
      by_cases hf : 0 ≤ (lab out x.From).Secs
      · simp only [hf, decide_true, cond_true]
        obtain ⟨i0, h1, h2, _⟩ := secs_of hr (hB.lb x.From (by omega) (by omega)) (ne_noL hf)
        have hal : recyclingref19_Along (lab out x.From) ⟨x.Secs, x.Meters⟩ = some (addL (lab out x.From) x) := by
          have := after_eq hr hxm h2 (by omega)
          exact this
        rw [hal]
        simp only [Option.bind_some]
        have hls : 0 ≤ (addL (lab out x.From) x).Secs := by unfold addL; simp only []; omega
        have hbe : recyclingref19_Better ⟨(addL (lab out x.From) x).Secs, (addL (lab out x.From) x).Meters⟩ (lab out x.To) = _ := rbetter_eq hls
        rw [hbe]
        simp only [Option.bind_some]
        cases hb : (decide ((lab out x.To).Secs < 0) || decide (Lg.lt (addL (lab out x.From) x) (lab out x.To))) with
        | true =>
          have hb' : (lab out x.To).Secs < 0 ∨ Lg.lt (addL (lab out x.From) x) (lab out x.To) := by simpa using hb
          have hB2 := hB.better (b := x.To) (l := addL (lab out x.From) x) (by omega) (by omega) ⟨i0 + 1, by omega, .cons h2 hxm rfl⟩ hls hb'
          refine ⟨setI out x.To (addL (lab out x.From) x), ?_, hB2.1, hB2.2, fun i l hi hw => ?_⟩
          · rw [show (⟨(addL (lab out x.From) x).Secs, (addL (lab out x.From) x).Meters⟩ : Lg) = addL (lab out x.From) x from rfl] at *
            simp only [hb, cond_true, Option.bind_some]
          · rw [lab_set (by omega) (by omega) (by omega), if_pos rfl]
            exact ⟨hls, addL_mono (hB.best i _ l hi hw).2⟩
        | false =>
          refine ⟨out, ?_, hB.more (by omega), fun n _ h => ⟨h, Lg.le_refl _⟩, fun i l hi hw => ?_⟩
          · rw [show (⟨(addL (lab out x.From) x).Secs, (addL (lab out x.From) x).Meters⟩ : Lg) = addL (lab out x.From) x from rfl] at *
            simp only [hb, cond_false, Option.bind_some]
          · simp only [Bool.or_eq_false_iff, decide_eq_false_iff_not] at hb
            exact ⟨by omega, Lg.le_trans (Lg.le_of_not_lt hb.2) (addL_mono (hB.best i _ l hi hw).2)⟩
      · simp only [show decide (0 ≤ (lab out x.From).Secs) = false by simpa using hf, cond_false, Option.bind_some]
        refine ⟨out, rfl, hB.more (by omega), fun n _ h => ⟨h, Lg.le_refl _⟩, fun i l hi hw => ?_⟩
        exact absurd (hB.best i _ l hi hw).1 hf
    obtain ⟨out1, h1, h2, h3, h4⟩ := step
    obtain ⟨out', g1, g2⟩ := ih (j + 1) (t + 1) out1 n (by omega) (by omega) (by omega) (by omega) h2 (fun y hy i l hi hw => by
      rcases take_mem_succ hx hy with h5 | h5
      · have h6 := hE y h5 i l hi hw
        have hyk := hr.ed y (List.mem_of_mem_take h5)
        unfold okEdge at hyk
        have h7 := h3 y.To (by omega) h6.1
        exact ⟨h7.1, Lg.le_trans h7.2 h6.2⟩
      · subst h5; exact h4 i l hi hw)
    refine ⟨out', ?_, by rw [show t + (d + 1) = t + 1 + d by omega]; exact g2⟩
    rw [iter, h1]
    exact g1
theorem rounds (hr : OkR r) (hs : 0 ≤ s ∧ s < r.Nodes) : ∀ (d k : Nat) (out : List Lg) (n : Nat), ((k + d : Nat) : Int) = r.Nodes → d < n → Bf r s (512 * k) k out →
    ∃ out', iter (recyclingref19_Legs_l3 r) n (out, (k : Int)) = some out' ∧ Bf r s (512 * (k + d)) (k + d) out' := by
  intro d
  induction d with
  | zero =>
    intro k out n hk hn hB
    obtain ⟨n, rfl⟩ : ∃ f, n = f + 1 := ⟨n - 1, by omega⟩
    refine ⟨out, ?_, hB⟩
    rw [iter]
    simp only [recyclingref19_Legs_l3, oun]
    rw [show decide ((k : Int) < r.Nodes) = false by simp; omega]
    rfl
  | succ d ih =>
    intro k out n hk hn hB
    obtain ⟨n, rfl⟩ : ∃ f, n = f + 1 := ⟨n - 1, by omega⟩
    have hel := hr.el
    have h2 := hr.n2
    obtain ⟨out1, h3, h4⟩ := round_loop hr hs (k := k) r.Edges.length 0 (512 * k) out (((r.Edges.length : Nat) : Int).toNat + 1) (by omega) (by omega) (by omega) (by omega) hB (by intro x hx; simp at hx)
    obtain ⟨out', g1, g2⟩ := ih (k + 1) out1 n (by omega) (by omega) (h4.more (by omega))
    refine ⟨out', ?_, by rw [show k + (d + 1) = k + 1 + d by omega]; exact g2⟩
    rw [iter]
    simp only [recyclingref19_Legs_l3, oun]
    rw [show decide ((k : Int) < r.Nodes) = true by simp; omega]
    simp only [cond_true]
    rw [show (0 : Int) = ((0 : Nat) : Int) from rfl, h3]
    simp only [Option.bind_some, osum]
    rw [w64_nat (by omega)]
    exact g1
theorem ref_legs (hr : OkR r) (hc : roadE r = 0) (hs : 0 ≤ s ∧ s < r.Nodes) : ∃ out, recyclingref19_Legs r s = some (out, 0) ∧ IsL r s out := by
  have h1 := hr.n1
  have h2 := hr.n2
  obtain ⟨L, _, hL⟩ := spread_eq (F := 40000) (Nat.le_refl _) hr hs
  have hmk : makeO (⟨0, 0⟩ : Lg) r.Nodes = some (List.replicate r.Nodes.toNat ⟨0, 0⟩) := by
    unfold makeO
    rw [if_pos (by omega)]
  have hl1 : iter (recyclingref19_Legs_l1 (List.replicate r.Nodes.toNat ⟨0, 0⟩)) ((((List.replicate r.Nodes.toNat (⟨0, 0⟩ : Lg)).length : Nat) : Int).toNat + 1) (List.replicate r.Nodes.toNat ⟨0, 0⟩, 0) = some (List.replicate r.Nodes.toNat noL) := by
    have hN : r.Nodes.toNat ≤ 64 := by omega
    generalize r.Nodes.toNat = N at *
    have := iter_stI (body := recyclingref19_Legs_l1 (List.replicate N ⟨0, 0⟩)) (List.replicate N (⟨0, 0⟩ : Lg)) (fun k => List.replicate k noL ++ List.replicate (N - k) (⟨0, 0⟩ : Lg)) (fun m k => (m, k)) (fun _ _ => none) (List.replicate N noL) (by simp; omega) (fun k x hx _ => ?_) (fun _ => by simp [recyclingref19_Legs_l1, oun]) ((((List.replicate N (⟨0, 0⟩ : Lg)).length : Nat) : Int).toNat + 1) (by simp)
    · rw [firstI_none _ _ (fun _ _ _ => rfl)] at this
      simpa using this
    · have hk := lt_of_get hx
      have hk2 : ((k : Int) < (((List.replicate N (⟨0, 0⟩ : Lg)).length : Nat) : Int)) := by omega
      rw [List.length_replicate] at hk
      simp only [recyclingref19_Legs_l1, oun, hk2, decide_true, cond_true, getI_nat]
      rw [List.getElem?_append_right (by simp), List.length_replicate, Nat.sub_self, List.getElem?_replicate, if_pos (by omega)]
      simp only [Option.bind_some, pickO]
      congr 3
      unfold setI
      rw [Int.toNat_natCast, show N - k = (N - (k + 1)) + 1 by omega, List.replicate_succ, List.set_append_right _ _ (by simp), List.length_replicate, Nat.sub_self, List.set_cons_zero, List.replicate_succ', List.append_assoc]
      rfl
  have hlenR : ((((List.replicate r.Nodes.toNat noL).length : Nat)) : Int) = r.Nodes := by simp; omega
  have hset : ∀ n, 0 ≤ n → lab (setI (List.replicate r.Nodes.toNat noL) s ⟨0, 0⟩) n = if n = s then ⟨0, 0⟩ else noL := fun n hn => by
    rw [lab_set hs.1 (by omega) hn, lab_rep]
  have hB : Bf r s (512 * 0) 0 (setI (List.replicate r.Nodes.toNat noL) s ⟨0, 0⟩) := by
    refine ⟨by rw [setI_len]; exact hlenR, fun n h0 h3 => ?_, fun j n l hj hw => ?_⟩
    · rw [hset n h0]
      by_cases h4 : n = s
      · rw [if_pos h4, h4]; exact .inr ⟨0, Nat.le_refl _, .nil⟩
      · rw [if_neg h4]; exact .inl rfl
    · cases hw with
      | nil => rw [hset s hs.1, if_pos rfl]; exact ⟨Int.le_refl _, Lg.le_refl _⟩
      | cons => omega
  obtain ⟨out, k1, k2⟩ := rounds hr hs r.Nodes.toNat 0 _ (r.Nodes.toNat + 1) (by omega) (by omega) hB
  refine ⟨out, ?_, k2.len, fun n h0 h3 => ?_, fun k n l hw => ?_⟩
  · unfold recyclingref19_Legs
    rw [ref19_Check_eq _ (by have := hr.el; omega), hc]
    simp only [Option.bind_some, decide_true, Bool.not_true, cond_false, recyclingref19_node]
    rw [show decide ((0 : Int) ≤ s) = true by simp; exact hs.1, show decide (s < r.Nodes) = true by simp; exact hs.2]
    simp only [cond_true, Option.bind_some, Bool.not_true, cond_false, hmk, hl1]
    rw [lab_get hs.1 (by omega), lab_rep]
    simp only [Option.bind_some]
    rw [show ((setI (List.replicate r.Nodes.toNat noL) s ⟨0, noL.Meters⟩, (0 : Int))) = (setI (List.replicate r.Nodes.toNat noL) s ⟨0, 0⟩, ((0 : Nat) : Int)) from rfl, k1]
    rfl
  · have hb := hL.lb n h0 h3
    rcases k2.lb n h0 h3 with h4 | ⟨j, h4, h5⟩
    · exact .inl h4
    ·
      have h6 := hL.best _ _ _ h5
      rcases hb with h7 | ⟨i, h7, h8⟩
      · rw [h7] at h6; exact absurd h6.1 (by decide)
      · have h9 := k2.best i n _ (by have := hL.len; omega) h8
        have := k2.len
        have := hL.len
        exact .inr ⟨i, by omega, (Lg.antisymm h9.2 h6.2) ▸ h8⟩
  · have h6 := hL.best _ _ _ hw
    have hn := hw.node hr hs
    obtain ⟨i, h7, h8, _⟩ := secs_of hr (hL.lb n hn.1 hn.2) (ne_noL h6.1)
    have h9 := k2.best i n _ (by have := hL.len; omega) h8
    exact ⟨h9.1, Lg.le_trans h9.2 h6.2⟩
theorem legs_both (hc : roadE r = 0) (hs : 0 ≤ s ∧ s < r.Nodes) : ∃ L, IsL r s L ∧ (∀ F, 40000 ≤ F → road_Legs F r s = some (L, 0)) ∧ recyclingref19_Legs r s = some (L, 0) := by
  have hr := OkR.of hc
  obtain ⟨L, h1, h2⟩ := ref_legs hr hc hs
  refine ⟨L, h2, fun F hF => ?_, h1⟩
  obtain ⟨L', h3, h4⟩ := spread_eq hF hr hs
  rw [h4.unique hr h2] at h3
  unfold road_Legs
  rw [road_Check_eq _ (by have := hr.el; omega), hc]
  simp only [Option.bind_some, decide_true, Bool.not_true, cond_false, or_some]
  rw [show (decide (s < 0) || decide (r.Nodes ≤ s)) = false by simp; omega]
  simp only [cond_false, h3, Option.bind_some]
end Go.Proofs.YthpgjbbjpfiniaaGreat
