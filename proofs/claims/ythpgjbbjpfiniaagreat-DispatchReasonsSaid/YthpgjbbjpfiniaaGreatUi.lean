/- The plain laws of the tours: a tour is followed. -/
import Derived.Test.YthpgjbbjpfiniaaGreatUh
namespace Go.Proofs.YthpgjbbjpfiniaaGreat
open Go.RowKit
set_option linter.unusedSimpArgs false
set_option linter.unusedVariables false
theorem contains_eq (L : List Int) (hn : L.length ≤ 1000) (s : Int) : slices_Contains_int L s = some (decide (s ∈ L)) := by
  unfold slices_Contains_int slices_Index_int
  have := iter_firstI (body := slices_Index_int_l1 L s) L (fun k y => bif decide (s = y) then some (.inr (k : Int)) else none) (.inl () : Unit ⊕ Int) (by omega) (fun k y hy => ?_) (by simp [slices_Index_int_l1]) (((L.length : Nat) : Int).toNat + 1) (by simp)
  · rw [this]
    have ha : L.any (fun y => decide (s = y)) = decide (s ∈ L) := by
      rw [Bool.eq_iff_iff]
      simp only [List.any_eq_true, decide_eq_true_eq]
      exact ⟨fun ⟨y, h1, h2⟩ => h2 ▸ h1, fun h => ⟨s, h, rfl⟩⟩
    rw [← ha]
    rcases anyIx (fun y : Int => decide (s = y)) L 0 with ⟨h1, h2⟩ | ⟨j, h1, h2⟩
    · rw [h1, h2]; rfl
    · rw [h1, h2]
      simp only [Option.bind_some, osum]
      simp
  · have hk := lt_of_get hy
    have hk2 : ((k : Int) < (L.length : Nat)) := by omega
    simp only [slices_Index_int_l1, hk2, decide_true, cond_true, getI_nat, hy, Option.bind_some]
    cases decide (s = y) <;> rfl
def stepR (p : Pr) (v : Ve) (pre : List Int) (x : Vi) (s : Int) : Vi ⊕ Int :=
  if s = -1 then
    if (legP p x.Node p.Unload).Secs < 0 then .inr 22
    else .inl ⟨s, p.Unload, x.Leave + (legP p x.Node p.Unload).Secs, x.Leave + (legP p x.Node p.Unload).Secs, x.Leave + (legP p x.Node p.Unload).Secs + p.UnloadSecs, 0⟩
  else if s < 0 ∨ ((p.Demands.length : Nat) : Int) ≤ s then .inr 7
  else if s ∈ pre then .inr 6
  else match p.Demands[s.toNat]? with
    | none => .inr 7
    | some d =>
      if carB v d.Kind = false then .inr 21
      else if (legP p x.Node d.Node).Secs < 0 then .inr 22
      else if d.When.To ≤ max (x.Leave + (legP p x.Node d.Node).Secs) d.When.From then .inr 19
      else if v.Grams < x.Load + d.Grams then .inr 20
      else .inl ⟨s, d.Node, x.Leave + (legP p x.Node d.Node).Secs, max (x.Leave + (legP p x.Node d.Node).Secs) d.When.From, max (x.Leave + (legP p x.Node d.Node).Secs) d.When.From + d.Service, x.Load + d.Grams⟩
structure InV (p : Pr) (v : Ve) (k : Nat) (x : Vi) : Prop where
  n0 : 0 ≤ x.Node
  n1 : x.Node < p.Road.Nodes
  t0 : 0 ≤ x.Leave
  t1 : x.Leave ≤ 100000 + k * 7000000
  l0 : 0 ≤ x.Load
  l1 : x.Load ≤ v.Grams
theorem stepR_in {p : Pr} {v : Ve} (hp : OkP p) (hv : OkV p.Road.Nodes v) {k : Nat} {x y : Vi} {pre : List Int} {s : Int} (h : InV p v k x) (hs : stepR p v pre x s = .inl y) :
    InV p v (k + 1) y ∧ 0 ≤ (legP p x.Node y.Node).Secs ∧ y.Stop = s := by
  have hu := legP_bound hp ⟨h.n0, h.n1⟩ ⟨hp.u0, hp.u1⟩
  have h1 := h.t0; have h2 := h.t1; have h3 := h.l0; have h4 := h.l1
  have hus0 := hp.us0; have hus1 := hp.us1
  have hg := hv.g0
  unfold stepR at hs
  split at hs
  · split at hs
    · cases hs
    · injection hs with hs; subst hs
      refine ⟨⟨hp.u0, hp.u1, by simp only []; omega, by simp only []; omega, Int.le_refl _, by simp only []; omega⟩, by simp only []; omega, rfl⟩
  · split at hs
    · cases hs
    · split at hs
      · cases hs
      · split at hs
        · cases hs
        · rename_i d hd
          have hd2 := hp.de d (List.mem_of_getElem? hd)
          have hl := legP_bound hp ⟨h.n0, h.n1⟩ ⟨hd2.n0, hd2.n1⟩
          have a1 := hd2.g0; have a2 := hd2.w0; have a3 := hd2.w1; have a4 := hd2.w2; have a5 := hd2.s0; have a6 := hd2.s1
          split at hs
          · cases hs
          · split at hs
            · cases hs
            · split at hs
              · cases hs
              · split at hs
                · cases hs
                · injection hs with hs; subst hs
                  refine ⟨⟨hd2.n0, hd2.n1, by simp only []; omega, by simp only []; omega, by simp only []; omega, by simp only []; omega⟩, by simp only []; omega, rfl⟩
theorem stepR_err {p : Pr} {v : Ve} {x : Vi} {pre : List Int} {s e : Int} (hs : stepR p v pre x s = .inr e) : e ≠ 0 := by
  unfold stepR at hs
  repeat' split at hs
  all_goals first | (cases hs; done) | (injection hs with hs; subst hs; decide)
theorem right_l1 (stops : List Int) (i : Nat) (hi : i ≤ stops.length) (hn : stops.length ≤ 1000) (s : Int) : iter (recyclingref22_right_l1 stops (i : Int) s) ((i : Int).toNat + 1) 0 = some (bif decide (s ∈ stops.take i) then .inr 6 else .inl ()) := by
  have := iter_firstI (body := recyclingref22_right_l1 stops (i : Int) s) (stops.take i) (fun _ y => bif decide (y = s) then some (.inr 6) else none) (.inl () : Unit ⊕ Int) (by simp; omega) (fun k y hy => ?_) (by rw [length_take' hi]; simp [recyclingref22_right_l1]) ((i : Int).toNat + 1) (by rw [length_take' hi]; omega)
  · rw [this, anyF]
    have ha : (stops.take i).any (fun y => decide (y = s)) = decide (s ∈ stops.take i) := by
      rw [Bool.eq_iff_iff]
      simp only [List.any_eq_true, decide_eq_true_eq]
      exact ⟨fun ⟨y, h1, h2⟩ => h2 ▸ h1, fun h => ⟨s, h, rfl⟩⟩
    rw [ha]
  · have hk := lt_of_get hy
    rw [length_take' hi] at hk
    rw [List.getElem?_take, if_pos hk] at hy
    have hk2 : ((k : Int) < (i : Int)) := by omega
    simp only [recyclingref22_right_l1, hk2, decide_true, cond_true, getI_nat, hy, Option.bind_some]
    cases decide (y = s) <;> rfl
theorem ref_step {p : Pr} {v : Ve} (hp : OkP p) (hv : OkV p.Road.Nodes v) {t : T_api_Tour} (hn : t.Stops.length ≤ 40) {k : Nat} {s : Int} (hk : t.Stops[k]? = some s) {x : Vi} (hx : InV p v k x) (out : List Vi) (ho : out.length ≤ 1000) :
    recyclingref22_Walk_l1 p t v (x.Stop, x.Node, x.Arrive, x.Start, x.Leave, x.Load, out, (k : Int)) = match stepR p v (t.Stops.take k) x s with
      | .inl y => some (.inl (y.Stop, y.Node, y.Arrive, y.Start, y.Leave, y.Load, out ++ [y], ((k + 1 : Nat) : Int)))
      | .inr e => some (.inr (.inr ([], e, (k : Int)))) := by
  have hkl := lt_of_get hk
  have hk2 : ((k : Int) < ((t.Stops.length : Nat) : Int)) := by omega
  have h1 := hx.t0; have h2 := hx.t1; have h3 := hx.l0; have h4 := hx.l1
  have hg := hv.g1
  have happ : ∀ y, appO out [y] = some (out ++ [y]) := fun y => appO_eq (by simp; omega)
  simp only [recyclingref22_Walk_l1, oun, hk2, decide_true, cond_true, getI_nat, hk, Option.bind_some, w64_nat (show k < 9223372036854775807 by omega)]
  unfold recyclingref22_right stepR
  simp only [getI_nat, hk, Option.bind_some]
  by_cases hs : s = -1
  · subst hs
    have hu := legP_bound hp ⟨hx.n0, hx.n1⟩ ⟨hp.u0, hp.u1⟩
    have hus0 := hp.us0; have hus1 := hp.us1
    simp only [decide_true, cond_true, if_true, Option.bind_some]
    unfold recyclingref22_visit
    rw [show decide ((0 : Int) ≤ -1) = false by decide]
    simp only [cond_false, Option.bind_some]
    rw [rLeg_eq hp ⟨hx.n0, hx.n1⟩ ⟨hp.u0, hp.u1⟩]
    simp only [Option.bind_some]
    by_cases hl : (legP p x.Node p.Unload).Secs < 0
    · simp only [hl, decide_true, cond_true, if_true, Option.bind_some, oun]
      rfl
    · rw [if_neg hl]
      simp only [hl, decide_false, cond_false, show decide ((-1 : Int) < 0) = true by decide, cond_true, Option.bind_some, oun, decide_true, Bool.not_true]
      rw [w64_eq (n := x.Leave + (legP p x.Node p.Unload).Secs) (by omega) (by omega), w64_eq (by omega) (by omega), happ]
      rfl
  · simp only [show decide (s = -1) = false by simpa using hs, cond_false, if_neg hs, or_some, Option.bind_some]
    by_cases h7 : s < 0 ∨ ((p.Demands.length : Nat) : Int) ≤ s
    · rw [if_pos h7, show (decide (s < 0) || decide (((p.Demands.length : Nat) : Int) ≤ s)) = true by simpa using h7]
      simp only [cond_true, Option.bind_some, show decide ((7 : Int) = 0) = false by decide, cond_false, oun, Bool.not_false]
    · rw [if_neg h7, show (decide (s < 0) || decide (((p.Demands.length : Nat) : Int) ≤ s)) = false by simpa using h7]
      simp only [cond_false]
      rw [right_l1 _ _ (Nat.le_of_lt hkl) (by omega)]
      by_cases h6 : s ∈ t.Stops.take k
      · rw [if_pos h6]
        simp only [h6, decide_true, cond_true, Option.bind_some, osum, show decide ((6 : Int) = 0) = false by decide, cond_false, oun, Bool.not_false]
      · rw [if_neg h6]
        obtain ⟨i, rfl⟩ : ∃ i : Nat, s = i := ⟨s.toNat, by omega⟩
        have hd : p.Demands[i]? = some p.Demands[i] := List.getElem?_eq_getElem (by omega)
        generalize p.Demands[i] = d at hd
        have hd2 := hp.de d (List.mem_of_getElem? hd)
        have hl := legP_bound hp ⟨hx.n0, hx.n1⟩ ⟨hd2.n0, hd2.n1⟩
        have a1 := hd2.g0; have a2 := hd2.w0; have a3 := hd2.w1; have a4 := hd2.w2; have a5 := hd2.s0; have a6 := hd2.s1; have a7 := hd2.g1
        simp only [h6, decide_false, cond_false, Option.bind_some, osum, getI_nat, hd, Int.toNat_natCast, (Carries_eq hv hd2.k0 hd2.k1).2]
        cases hc : carB v d.Kind with
        | false => simp only [Bool.not_false, cond_true, Option.bind_some, show decide ((21 : Int) = 0) = false by decide, cond_false, oun, if_true]
        | true =>
          simp only [Bool.not_true, cond_false, Option.bind_some, decide_true, cond_true, Bool.true_eq_false, if_false]
          unfold recyclingref22_visit
          rw [show decide ((0 : Int) ≤ (i : Int)) = true by simp]
          simp only [cond_true, getI_nat, hd, Option.bind_some]
          rw [rLeg_eq hp ⟨hx.n0, hx.n1⟩ ⟨hd2.n0, hd2.n1⟩]
          simp only [Option.bind_some]
          by_cases hl2 : (legP p x.Node d.Node).Secs < 0
          · rw [if_pos hl2]
            simp only [hl2, decide_true, cond_true, Option.bind_some, oun, show decide ((22 : Int) = 0) = false by decide, Bool.not_false]
          · rw [if_neg hl2]
            simp only [hl2, decide_false, cond_false, show decide ((i : Int) < 0) = false by simp, Option.bind_some]
            rw [w64_eq (n := x.Leave + (legP p x.Node d.Node).Secs) (by omega) (by omega), w64_eq (n := x.Load + d.Grams) (by omega) (by omega)]
            by_cases hw : d.When.To ≤ max (x.Leave + (legP p x.Node d.Node).Secs) d.When.From
            · rw [if_pos hw]
              simp only [hw, decide_true, cond_true, Option.bind_some, oun, show decide ((19 : Int) = 0) = false by decide, Bool.not_false]
            · rw [if_neg hw]
              by_cases hgr : v.Grams < x.Load + d.Grams
              · rw [if_pos hgr]
                simp only [hw, hgr, decide_true, decide_false, cond_true, cond_false, Option.bind_some, oun, show decide ((20 : Int) = 0) = false by decide, Bool.not_false]
              · rw [if_neg hgr]
                rw [w64_eq (n := max (x.Leave + (legP p x.Node d.Node).Secs) d.When.From + d.Service) (by omega) (by omega)]
                simp only [hw, hgr, decide_false, cond_false, Option.bind_some, oun, decide_true, Bool.not_true, happ]
end Go.Proofs.YthpgjbbjpfiniaaGreat
