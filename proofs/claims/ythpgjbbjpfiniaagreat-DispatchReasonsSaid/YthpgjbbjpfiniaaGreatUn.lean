/- The plain laws of the tours: a tour with a stop less (TourFewer). -/
import Derived.Test.YthpgjbbjpfiniaaGreatUm
namespace Go.Proofs.YthpgjbbjpfiniaaGreat
open Go.RowKit
set_option linter.unusedSimpArgs false
set_option linter.unusedVariables false
theorem Wk.join {r : Rd_} {a b : Int} {k : Nat} {l : Lg} (h : Wk r a k b l) : ∀ {k' : Nat} {c : Int} {l' : Lg}, Wk r b k' c l' → Wk r a (k + k') c ⟨l.Secs + l'.Secs, l.Meters + l'.Meters⟩
  | _, _, _, .nil => by simpa using h
  | _, _, _, .cons (l := m) (x := x) h2 hx ha => by
    have h3 := Wk.join h h2
    have h4 := Wk.cons h3 hx ha
    unfold addL at h4 ⊢
    simp only [] at h4 ⊢
    rw [show l.Secs + (m.Secs + x.Secs) = l.Secs + m.Secs + x.Secs by omega, show l.Meters + (m.Meters + x.Meters) = l.Meters + m.Meters + x.Meters by omega]
    exact h4
theorem tri {p : Pr} (hp : OkP p) {a b c : Int} (ha : 0 ≤ a ∧ a < p.Road.Nodes) (hb : 0 ≤ b ∧ b < p.Road.Nodes) (hc : 0 ≤ c ∧ c < p.Road.Nodes) (h1 : 0 ≤ (legP p a b).Secs) (h2 : 0 ≤ (legP p b c).Secs) :
    0 ≤ (legP p a c).Secs ∧ (legP p a c).Secs ≤ (legP p a b).Secs + (legP p b c).Secs := by
  have hr := OkR.of hp.road
  obtain ⟨La, _⟩ := legsP_h hp ha
  obtain ⟨Lb, _⟩ := legsP_h hp hb
  obtain ⟨k, _, w1, _⟩ := secs_of hr (La.lb b hb.1 hb.2) (ne_noL h1)
  obtain ⟨k', _, w2, _⟩ := secs_of hr (Lb.lb c hc.1 hc.2) (ne_noL h2)
  have h3 := La.best _ _ _ (w1.join w2)
  have h4 := h3.2
  unfold Lg.le at h4
  refine ⟨h3.1, ?_⟩
  unfold legP at h1 h2 ⊢
  simp only [] at h4
  omega
structure Lax (p : Pr) (x' x : Vi) : Prop where
  leg : ∀ b, 0 ≤ b → b < p.Road.Nodes → 0 ≤ (legP p x.Node b).Secs → 0 ≤ (legP p x'.Node b).Secs ∧ x'.Leave + (legP p x'.Node b).Secs ≤ x.Leave + (legP p x.Node b).Secs
  load : x'.Load ≤ x.Load
theorem Lax.same {p : Pr} {x' x : Vi} (h1 : x'.Node = x.Node) (h2 : x'.Leave ≤ x.Leave) (h3 : x'.Load ≤ x.Load) : Lax p x' x :=
  ⟨fun b _ _ h => ⟨by rw [h1]; exact h, by rw [h1]; omega⟩, h3⟩
theorem lax_step {p : Pr} {v : Ve} (hp : OkP p) {x' x y : Vi} {pre pre' : List Int} {s : Int} (hl : Lax p x' x) (hsub : ∀ u ∈ pre', u ∈ pre) (hs : stepR p v pre x s = .inl y) :
    ∃ y', stepR p v pre' x' s = .inl y' ∧ Lax p y' y := by
  unfold stepR at hs
  split at hs
  · rename_i h1
    split at hs
    · cases hs
    · rename_i h2
      injection hs with hs; subst hs
      obtain ⟨g1, g2⟩ := hl.leg _ hp.u0 hp.u1 (by omega)
      unfold stepR
      rw [if_pos h1, if_neg (by omega)]
      exact ⟨_, rfl, Lax.same rfl (by simp only []; omega) (Int.le_refl _)⟩
  · rename_i h1
    split at hs
    · cases hs
    · rename_i h2
      split at hs
      · cases hs
      · rename_i h3
        split at hs
        · cases hs
        · rename_i d hd
          have hd2 := hp.de d (List.mem_of_getElem? hd)
          split at hs
          · cases hs
          · rename_i h4
            split at hs
            · cases hs
            · rename_i h5
              split at hs
              · cases hs
              · rename_i h6
                split at hs
                · cases hs
                · rename_i h7
                  injection hs with hs; subst hs
                  obtain ⟨g1, g2⟩ := hl.leg _ hd2.n0 hd2.n1 (by omega)
                  have g3 := hl.load
                  unfold stepR
                  rw [if_neg h1, if_neg h2, if_neg (fun h => h3 (hsub _ h)), hd]
                  simp only []
                  rw [if_neg h4, if_neg (by omega), if_neg (by omega), if_neg (by omega)]
                  exact ⟨_, rfl, Lax.same rfl (by simp only []; omega) (by simp only []; omega)⟩
theorem lax_fol {p : Pr} {v : Ve} (hp : OkP p) : ∀ (rest pre pre' : List Int) (x x' : Vi) (z : Vi × List Vi), Lax p x' x → (∀ u ∈ pre', u ∈ pre) → folR p v pre rest x = .inl z → ∃ z', folR p v pre' rest x' = .inl z' ∧ Lax p z'.1 z.1
  | [], pre, pre', x, x', z, hl, _, h => by
    injection h with h; subst h
    exact ⟨_, rfl, hl⟩
  | s :: rest, pre, pre', x, x', z, hl, hsub, h => by
    unfold folR at h
    split at h
    · cases h
    · rename_i y hy
      obtain ⟨y', h1, h2⟩ := lax_step hp hl hsub hy
      split at h
      · rename_i z1 hz
        injection h with h; subst h
        obtain ⟨z', h3, h4⟩ := lax_fol hp rest (pre ++ [s]) (pre' ++ [s]) y y' z1 h2 (fun u hu => by
          rcases List.mem_append.1 hu with h5 | h5
          · exact List.mem_append_left _ (hsub u h5)
          · exact List.mem_append_right _ h5) hz
        unfold folR
        rw [h1]
        simp only []
        rw [h3]
        exact ⟨_, rfl, h4⟩
      · cases h
theorem lax_home {p : Pr} {v : Ve} (hv : OkV p.Road.Nodes v) {x x' y : Vi} (hl : Lax p x' x) (h0 : 0 ≤ x'.Load) (hs : homeR p v x = .inl y) : ∃ y', homeR p v x' = .inl y' := by
  unfold homeR at hs
  split at hs
  · cases hs
  · rename_i h1
    split at hs
    · cases hs
    · rename_i h2
      split at hs
      · cases hs
      · rename_i h3
        obtain ⟨g1, g2⟩ := hl.leg _ hv.d0 hv.d1 (by omega)
        have g3 := hl.load
        unfold homeR
        simp only [ne_eq, Decidable.not_not] at h2
        rw [if_neg (by omega), if_neg (by omega), if_neg (by omega)]
        exact ⟨_, rfl⟩
theorem lax_drop {p : Pr} {v : Ve} (hp : OkP p) (hv : OkV p.Road.Nodes v) {k : Nat} {x y : Vi} {pre : List Int} {s : Int} (hx : InV p v k x) (h0 : 0 ≤ s) (hs : stepR p v pre x s = .inl y) : Lax p x y := by
  have hin := stepR_in hp hv hx hs
  unfold stepR at hs
  rw [if_neg (by omega)] at hs
  split at hs
  · cases hs
  · split at hs
    · cases hs
    · split at hs
      · cases hs
      · rename_i d hd
        have hd2 := hp.de d (List.mem_of_getElem? hd)
        have a1 := hd2.g0; have a5 := hd2.s0
        split at hs
        · cases hs
        · split at hs
          · cases hs
          · rename_i h5
            split at hs
            · cases hs
            · split at hs
              · cases hs
              · injection hs with hs; subst hs
                refine ⟨fun b b0 b1 hb => ?_, by simp only []; omega⟩
                simp only [] at hb ⊢
                have h6 := tri hp ⟨hx.n0, hx.n1⟩ ⟨hd2.n0, hd2.n1⟩ ⟨b0, b1⟩ (by omega) hb
                omega
theorem fewer_core {p : Pr} (hp : OkP p) {t : T_api_Tour} {u : Vi × List Vi × Ve} (h : tourR p t = .inl u) {n : Nat} {s : Int} (hn : t.Stops[n]? = some s) (h0 : 0 ≤ s) : (walkR p ⟨t.Vehicle, t.Stops.take n ++ t.Stops.drop (n + 1)⟩).2.1 = 0 := by
  obtain ⟨z, y, hf, _, _⟩ := tourR_ok h
  have hv := hp.ve u.2.2 (by
    have := hf.hv
    unfold getI at this
    rw [if_pos hf.t0] at this
    exact List.mem_of_getElem? this)
  have hnl := lt_of_get hn
  have hsl := hf.sl
  have hfol := hf.fol
  have hsplit : t.Stops = t.Stops.take n ++ (s :: t.Stops.drop (n + 1)) := by
    conv => lhs; rw [← List.take_append_drop n t.Stops]
    congr 1
    rw [List.drop_eq_getElem_cons hnl]
    rw [List.getElem?_eq_getElem hnl] at hn
    injection hn with hn
    rw [hn]
  rw [hsplit, folR_append] at hfol
  cases hA : folR p u.2.2 [] (t.Stops.take n) (x0 u.2.2) with
  | inr q => rw [hA] at hfol; cases hfol
  | inl zA =>
    rw [hA] at hfol
    simp only [List.nil_append] at hfol
    have hzA := folR_in hp hv (t.Stops.take n) [] _ _ (x0_in hv) hA
    simp only [List.length_nil, Nat.zero_add, length_take' (Nat.le_of_lt hnl)] at hzA
    cases hB : folR p u.2.2 (t.Stops.take n) (s :: t.Stops.drop (n + 1)) zA.1 with
    | inr q => rw [hB] at hfol; cases hfol
    | inl zB =>
      rw [hB] at hfol
      injection hfol with hfol
      have hB2 := hB
      unfold folR at hB2
      split at hB2
      · cases hB2
      · rename_i y1 hy1
        split at hB2
        · rename_i zC hC
          injection hB2 with hB2
          have hlx := lax_drop hp hv hzA.1 h0 hy1
          obtain ⟨z', g1, g2⟩ := lax_fol hp (t.Stops.drop (n + 1)) (t.Stops.take n ++ [s]) (t.Stops.take n) y1 zA.1 zC hlx (fun w hw => List.mem_append_left _ hw) hC
          have hzn := folR_in hp hv (t.Stops.drop (n + 1)) (t.Stops.take n) _ _ (by rw [length_take' (Nat.le_of_lt hnl)]; exact hzA.1) g1
          have hhom := hf.hom
          rw [← hfol, ← hB2] at hhom
          obtain ⟨y', g3⟩ := lax_home hv g2 hzn.1.l0 hhom
          have e := tourR_eq (p := p) (t := ⟨t.Vehicle, t.Stops.take n ++ t.Stops.drop (n + 1)⟩) hf.t0 hf.t1 hf.hv (by simp; omega)
          simp only [] at e
          rw [folR_append, hA] at e
          simp only [List.nil_append, g1, g3] at e
          unfold walkR
          rw [e]
        · cases hB2
end Go.Proofs.YthpgjbbjpfiniaaGreat
