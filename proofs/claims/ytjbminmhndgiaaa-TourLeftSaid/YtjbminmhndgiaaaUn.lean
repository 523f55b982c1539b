/- The plain laws of the tours: a tour with a stop less (TourFewer). -/
import Derived.Test.YtjbminmhndgiaaaUm
namespace Go.Proofs.Ytjbminmhndgiaaa
open Go.RowKit
set_option linter.unusedSimpArgs false
set_option linter.unusedVariables false

theorem Wk.join {r : Rd_} {a b : Int} {k : Nat} {l : Lg} (h : Wk r a k b l) : ∀ {k' : Nat} {c : Int} {l' : Lg}, Wk r b k' c l' → Wk r a (k + k') c ⟨l.Secs + l'.Secs, l.Meters + l'.Meters⟩
  | _, _, _, .nil => by simpa using h
  | _, _, _, .cons (l := m) (x := x) h2 hx ha => by
    have h3 := Wk.join h h2
    have h4 := Wk.cons h3 hx ha
    unfold addL at h4 ⊢
    simp only [] at h4 ⊢
    rw [show l.Secs + (m.Secs + x.Secs) = l.Secs + m.Secs + x.Secs by omega, show l.Meters + (m.Meters + x.Meters) = l.Meters + m.Meters + x.Meters by omega]
    exact h4
theorem tri {p : Pr} (hp : OkP p) {a b c : Int} (ha : 0 ≤ a ∧ a < p.Road.Nodes) (hb : 0 ≤ b ∧ b < p.Road.Nodes) (hc : 0 ≤ c ∧ c < p.Road.Nodes) (h1 : 0 ≤ (legP p a b).Secs) (h2 : 0 ≤ (legP p b c).Secs) :
    0 ≤ (legP p a c).Secs ∧ (legP p a c).Secs ≤ (legP p a b).Secs + (legP p b c).Secs := by
  have hr := OkR.of hp.road
  obtain ⟨La, _⟩ := legsP_h hp ha
  obtain ⟨Lb, _⟩ := legsP_h hp hb
  obtain ⟨k, _, w1, _⟩ := secs_of hr (La.lb b hb.1 hb.2) (ne_noL h1)
  obtain ⟨k', _, w2, _⟩ := secs_of hr (Lb.lb c hc.1 hc.2) (ne_noL h2)
  have h3 := La.best _ _ _ (w1.join w2)
  have h4 := h3.2
  unfold Lg.le at h4
  refine ⟨h3.1, ?_⟩
  unfold legP at h1 h2 ⊢
  simp only [] at h4
  omega
/-- No later, no heavier. -/
structure Lax (p : Pr) (x' x : Vi) : Prop where
  leg : ∀ b, 0 ≤ b → b < p.Road.Nodes → 0 ≤ (legP p x.Node b).Secs → 0 ≤ (legP p x'.Node b).Secs ∧ x'.Leave + (legP p x'.Node b).Secs ≤ x.Leave + (legP p x.Node b).Secs
  load : x'.Load ≤ x.Load
theorem Lax.same {p : Pr} {x' x : Vi} (h1 : x'.Node = x.Node) (h2 : x'.Leave ≤ x.Leave) (h3 : x'.Load ≤ x.Load) : Lax p x' x :=
  ⟨fun b _ _ h => ⟨by rw [h1]; exact h, by rw [h1]; omega⟩, h3⟩
theorem lax_step {p : Pr} {v : Ve} (hp : OkP p) {x' x y : Vi} {pre pre' : List Int} {s : Int} (hl : Lax p x' x) (hsub : ∀ u ∈ pre', u ∈ pre) (hs : stepR p v pre x s = .inl y) :
    ∃ y', stepR p v pre' x' s = .inl y' ∧ Lax p y' y := by
  unfold stepR at hs
  split at hs
  · rename_i h1
    split at hs
    · cases hs
    · rename_i h2
      injection hs with hs; subst hs
      obtain ⟨g1, g2⟩ := hl.leg _ hp.u0 hp.u1 (by omega)
      unfold stepR
      rw [if_pos h1, if_neg (by omega)]
      exact ⟨_, rfl, Lax.same rfl (by simp only []; omega) (Int.le_refl _)⟩
  · rename_i h1
    split at hs
    · cases hs
    · rename_i h2
      split at hs
      · cases hs
      · rename_i h3
        split at hs
        · cases hs
        · rename_i d hd
          have hd2 := hp.de d (List.mem_of_getElem? hd)
          split at hs
          · cases hs
          · rename_i h4
            split at hs
            · cases hs
            · rename_i h5
              split at hs
              · cases hs
              · rename_i h6
                split at hs
                · cases hs
                · rename_i h7
                  injection hs with hs; subst hs
                  obtain ⟨g1, g2⟩ := hl.leg _ hd2.n0 hd2.n1 (by omega)
                  have g3 := hl.load
                  unfold stepR
                  rw [if_neg h1, if_neg h2, if_neg (fun h => h3 (hsub _ h)), hd]
                  simp only []
                  rw [if_neg h4, if_neg (by omega), if_neg (by omega), if_neg (by omega)]
                  exact ⟨_, rfl, Lax.same rfl (by simp only []; omega) (by simp only []; omega)⟩
theorem lax_fol {p : Pr} {v : Ve} (hp : OkP p) : ∀ (rest pre pre' : List Int) (x x' : Vi) (z : Vi × List Vi), Lax p x' x → (∀ u ∈ pre', u ∈ pre) → folR p v pre rest x = .inl z → ∃ z', folR p v pre' rest x' = .inl z' ∧ Lax p z'.1 z.1
  | [], pre, pre', x, x', z, hl, _, h => by
    injection h with h; subst h
    exact ⟨_, rfl, hl⟩
  | s :: rest, pre, pre', x, x', z, hl, hsub, h => by
    unfold folR at h
    split at h
    · cases h
    · rename_i y hy
      obtain ⟨y', h1, h2⟩ := lax_step hp hl hsub hy
      split at h
      · rename_i z1 hz
        injection h with h; subst h
        obtain ⟨z', h3, h4⟩ := lax_fol hp rest (pre ++ [s]) (pre' ++ [s]) y y' z1 h2 (fun u hu => by
          rcases List.mem_append.1 hu with h5 | h5
          · exact List.mem_append_left _ (hsub u h5)
          · exact List.mem_append_right _ h5) hz
        unfold folR
        rw [h1]
        simp only []
        rw [h3]
        exact ⟨_, rfl, h4⟩
      · cases h
theorem lax_home {p : Pr} {v : Ve} (hv : OkV p.Road.Nodes v) {x x' y : Vi} (hl : Lax p x' x) (h0 : 0 ≤ x'.Load) (hs : homeR p v x = .inl y) : ∃ y', homeR p v x' = .inl y' := by
  unfold homeR at hs
  split at hs
  · cases hs
  · rename_i h1
    split at hs
    · cases hs
    · rename_i h2
      split at hs
      · cases hs
      · rename_i h3
        obtain ⟨g1, g2⟩ := hl.leg _ hv.d0 hv.d1 (by omega)
        have g3 := hl.load
        unfold homeR
        simp only [ne_eq, Decidable.not_not] at h2
        rw [if_neg (by omega), if_neg (by omega), if_neg (by omega)]
        exact ⟨_, rfl⟩
/-- The stop itself. -/
theorem lax_drop {p : Pr} {v : Ve} (hp : OkP p) (hv : OkV p.Road.Nodes v) {k : Nat} {x y : Vi} {pre : List Int} {s : Int} (hx : InV p v k x) (h0 : 0 ≤ s) (hs : stepR p v pre x s = .inl y) : Lax p x y := by
  have hin := stepR_in hp hv hx hs
  unfold stepR at hs
  rw [if_neg (by omega)] at hs
  split at hs
  · cases hs
  · split at hs
    · cases hs
    · split at hs
      · cases hs
      · rename_i d hd
        have hd2 := hp.de d (List.mem_of_getElem? hd)
        have a1 := hd2.g0; have a5 := hd2.s0
        split at hs
        · cases hs
        · split at hs
          · cases hs
          · rename_i h5
            split at hs
            · cases hs
            · split at hs
              · cases hs
              · injection hs with hs; subst hs
                refine ⟨fun b b0 b1 hb => ?_, by simp only []; omega⟩
                simp only [] at hb ⊢
                have h6 := tri hp ⟨hx.n0, hx.n1⟩ ⟨hd2.n0, hd2.n1⟩ ⟨b0, b1⟩ (by omega) hb
                omega
theorem fewer_core {p : Pr} (hp : OkP p) {t : T_api_Tour} {u : Vi × List Vi × Ve} (h : tourR p t = .inl u) {n : Nat} {s : Int} (hn : t.Stops[n]? = some s) (h0 : 0 ≤ s) : (walkR p ⟨t.Vehicle, t.Stops.take n ++ t.Stops.drop (n + 1)⟩).2.1 = 0 := by
  obtain ⟨z, y, hf, _, _⟩ := tourR_ok h
  have hv := hp.ve u.2.2 (by
    have := hf.hv
    unfold getI at this
    rw [if_pos hf.t0] at this
    exact List.mem_of_getElem? this)
  have hnl := lt_of_get hn
  have hsl := hf.sl
  have hfol := hf.fol
  have hsplit : t.Stops = t.Stops.take n ++ (s :: t.Stops.drop (n + 1)) := by
    conv => lhs; rw [← List.take_append_drop n t.Stops]
    congr 1
    rw [List.drop_eq_getElem_cons hnl]
    rw [List.getElem?_eq_getElem hnl] at hn
    injection hn with hn
    rw [hn]
  rw [hsplit, folR_append] at hfol
  cases hA : folR p u.2.2 [] (t.Stops.take n) (x0 u.2.2) with
  | inr q => rw [hA] at hfol; cases hfol
  | inl zA =>
    rw [hA] at hfol
    simp only [List.nil_append] at hfol
    have hzA := folR_in hp hv (t.Stops.take n) [] _ _ (x0_in hv) hA
    simp only [List.length_nil, Nat.zero_add, length_take' (Nat.le_of_lt hnl)] at hzA
    cases hB : folR p u.2.2 (t.Stops.take n) (s :: t.Stops.drop (n + 1)) zA.1 with
    | inr q => rw [hB] at hfol; cases hfol
    | inl zB =>
      rw [hB] at hfol
      injection hfol with hfol
      have hB2 := hB
      unfold folR at hB2
      split at hB2
      · cases hB2
      · rename_i y1 hy1
        split at hB2
        · rename_i zC hC
          injection hB2 with hB2
          have hlx := lax_drop hp hv hzA.1 h0 hy1
          obtain ⟨z', g1, g2⟩ := lax_fol hp (t.Stops.drop (n + 1)) (t.Stops.take n ++ [s]) (t.Stops.take n) y1 zA.1 zC hlx (fun w hw => List.mem_append_left _ hw) hC
          have hzn := folR_in hp hv (t.Stops.drop (n + 1)) (t.Stops.take n) _ _ (by rw [length_take' (Nat.le_of_lt hnl)]; exact hzA.1) g1
          have hhom := hf.hom
          rw [← hfol, ← hB2] at hhom
          obtain ⟨y', g3⟩ := lax_home hv g2 hzn.1.l0 hhom
          have e := tourR_eq (p := p) (t := ⟨t.Vehicle, t.Stops.take n ++ t.Stops.drop (n + 1)⟩) hf.t0 hf.t1 hf.hv (by simp; omega)
          simp only [] at e
          rw [folR_append, hA] at e
          simp only [List.nil_append, g1, g3] at e
          unfold walkR
          rw [e]
        · cases hB2
theorem recyclinglaw22_TourFewer_true (p : T_api_Problem) (t : T_api_Tour) (k : Int) (hp : wf_api_Problem p) (ht : wf_api_Tour t) (hk : wfI .u8 k) : ∃ F, recyclinglaw22_TourFewer F p t k = some true := by
  refine ⟨40000, ?_⟩
  have hk0 : 0 ≤ k ∧ k < 256 := by
    simp only [wfI, Lit.wf, Bool.and_eq_true, decide_eq_true_eq] at hk
    have h1 : IntKind.u8.min = 0 := by decide
    have h2 : IntKind.u8.max = 255 := by decide
    omega
  unfold recyclinglaw22_TourFewer
  obtain ⟨⟨b, hb⟩, hl⟩ := Large_some p
  rw [hb]
  have haw := awake_all (Nat.le_refl 40000)
  simp only [Option.bind_some, or_some]
  by_cases h : (b || (decide ((100 : Int) < ((t.Stops.length : Nat) : Int)) || decide (((t.Stops.length : Nat) : Int) = 0))) = true
  · rw [h]; simp only [cond_true, haw, Option.bind_some]
  · rw [Bool.not_eq_true] at h
    rw [h]
    simp only [Bool.or_eq_false_iff, decide_eq_false_iff_not] at h
    obtain ⟨hbf, h100, hne⟩ := h
    subst hbf
    obtain ⟨h1, _, _⟩ := hl hb
    simp only [cond_false]
    rw [w64_eq (n := k) (by omega) (by omega)]
    obtain ⟨n, hn⟩ : ∃ n : Nat, Int.tmod k ((t.Stops.length : Nat) : Int) = n := by
      rw [Int.tmod_eq_emod_of_nonneg hk0.1]
      exact ⟨(k % ((t.Stops.length : Nat) : Int)).toNat, by have := Int.emod_nonneg k hne; omega⟩
    have hnl : n < t.Stops.length := by
      rw [Int.tmod_eq_emod_of_nonneg hk0.1] at hn
      have := Int.emod_lt_of_pos k (show (0 : Int) < ((t.Stops.length : Nat) : Int) by omega)
      omega
    rw [hn, guardO_eq hne]
    have hs : t.Stops[n]? = some t.Stops[n] := List.getElem?_eq_getElem hnl
    generalize t.Stops[n] = s at hs
    rcases Check_cases p h1 with ⟨g1, g2⟩ | ⟨e, g1, g2⟩
    · rw [Walk_eq (Nat.le_refl _) g2 g1 h1]
      cases hr : tourR p t with
      | inr q =>
        unfold walkR
        rw [hr]
        simp only [Option.bind_some, oun]
        rw [show decide (q.1 = 0) = false by simpa using tourR_err hr]
        simp only [Bool.not_false, cond_true, Option.bind_some, oun, haw]
      | inl u =>
        have hsl : t.Stops.length ≤ 40 := by obtain ⟨z, y, hf, _⟩ := tourR_ok hr; exact hf.sl
        have e1 : walkR p t = (u.2.1, 0, 0) := by unfold walkR; rw [hr]
        rw [e1]
        simp only [Option.bind_some, oun, decide_true, Bool.not_true, cond_false, getI_nat, hs]
        by_cases h0 : s < 0
        · simp only [h0, decide_true, cond_true, haw, Option.bind_some]
        · simp only [h0, decide_false, cond_false]
          rw [subO_take (Nat.le_of_lt hnl), w64_nat (by omega)]
          have hsub : subO t.Stops ((n + 1 : Nat) : Int) ((t.Stops.length : Nat) : Int) = some (t.Stops.drop (n + 1)) := by
            unfold subO
            rw [if_pos ⟨by omega, by omega, by omega⟩]
            simp
          simp only [Option.bind_some, hsub]
          rw [appO_eq (by simp; omega)]
          simp only [Option.bind_some, List.nil_append]
          rw [appO_eq (by simp; omega)]
          simp only [Option.bind_some]
          rw [Walk_eq (Nat.le_refl _) g2 g1 h1]
          have hc := fewer_core g2 hr hs (by omega)
          generalize walkR p ⟨t.Vehicle, t.Stops.take n ++ t.Stops.drop (n + 1)⟩ = B at *
          obtain ⟨b', f, j⟩ := B
          simp only [] at hc
          subst hc
          simp only [Option.bind_some, oun, decide_true, cond_true, haw]
    · unfold tour_Walk
      rw [tour_Check_eq (by omega) p h1, g2]
      simp only [Option.bind_some]
      rw [show decide (e = 0) = false by simpa using g1]
      simp only [Bool.not_false, cond_true, Option.bind_some, oun]
      rw [show decide (e = 0) = false by simpa using g1]
      simp only [Bool.not_false, cond_true, Option.bind_some, oun, haw]

end Go.Proofs.Ytjbminmhndgiaaa
