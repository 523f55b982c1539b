/- The plain laws of the tours: what a walk is (TourWalk). -/
import Derived.Test.YtjbminmhndgiaaaUk
namespace Go.Proofs.Ytjbminmhndgiaaa
open Go.RowKit
set_option linter.unusedSimpArgs false
set_option linter.unusedVariables false

theorem folR_ix {p : Pr} {v : Ve} : ∀ (rest pre : List Int) (x : Vi) (q : Int × Nat), folR p v pre rest x = .inr q → pre.length ≤ q.2 ∧ q.2 < pre.length + rest.length
  | [], pre, x, q, h => by cases h
  | s :: rest, pre, x, q, h => by
    unfold folR at h
    split at h
    · injection h with h; subst h
      simp only [List.length_cons]; omega
    · split at h
      · cases h
      · rename_i q' hq
        injection h with h; subst h
        have := folR_ix rest _ _ _ hq
        simp only [List.length_append, List.length_cons, List.length_nil] at this ⊢
        omega
theorem tourR_ix {p : Pr} {t : T_api_Tour} {q : Int × Int} (h : tourR p t = .inr q) : 0 ≤ q.2 ∧ q.2 ≤ ((t.Stops.length : Nat) : Int) := by
  unfold tourR at h
  split at h
  · injection h with h; subst h; simp only []; omega
  · split at h
    · injection h with h; subst h; simp only []; omega
    · split at h
      · injection h with h; subst h; simp only []; omega
      · split at h
        · rename_i q' hq
          injection h with h; subst h
          have := folR_ix _ _ _ _ hq
          simp only [List.length_nil] at this ⊢
          omega
        · split at h
          · injection h with h; subst h; simp only []; omega
          · cases h
/-- A tour that was followed to its end. -/
structure Fol (p : Pr) (t : T_api_Tour) (v : Ve) (z : Vi × List Vi) (y : Vi) : Prop where
  t0 : 0 ≤ t.Vehicle
  t1 : t.Vehicle < ((p.Vehicles.length : Nat) : Int)
  sl : t.Stops.length ≤ 40
  hv : getI p.Vehicles t.Vehicle = some v
  fol : folR p v [] t.Stops (x0 v) = .inl z
  hom : homeR p v z.1 = .inl y
theorem tourR_ok {p : Pr} {t : T_api_Tour} {u : Vi × List Vi × Ve} (h : tourR p t = .inl u) : ∃ z y, Fol p t u.2.2 z y ∧ u.1 = z.1 ∧ u.2.1 = z.2 ++ [y] := by
  unfold tourR at h
  split at h
  · cases h
  · rename_i h1
    split at h
    · cases h
    · rename_i h2
      split at h
      · cases h
      · rename_i v hv
        split at h
        · cases h
        · rename_i z hf
          split at h
          · cases h
          · rename_i y hm
            injection h with h; subst h
            exact ⟨z, y, ⟨by omega, by omega, by omega, by unfold getI; rw [if_pos (by omega)]; exact hv, hf, hm⟩, rfl, rfl⟩
theorem follows_true {p : Pr} {v : Ve} (hp : OkP p) (hv : OkV p.Road.Nodes v) {k : Nat} (hk : k ≤ 1000) {x y : Vi} {pre : List Int} {s : Int} (hx : InV p v k x) (hs : stepR p v pre x s = .inl y) :
    recyclinglaw22_follows p v x y s = some true ∧ -1 ≤ s ∧ s < ((p.Demands.length : Nat) : Int) + 1 ∧ (s < 0 ∨ s < ((p.Demands.length : Nat) : Int)) ∧ (0 ≤ s → s ∉ pre) := by
  have hin := stepR_in hp hv hx hs
  have h1 := hx.t0; have h2 := hx.t1; have h3 := hx.l0; have h4 := hx.l1
  have hg := hv.g1
  have hlb := legP_bound hp ⟨hx.n0, hx.n1⟩ ⟨hin.1.n0, hin.1.n1⟩
  have hus0 := hp.us0; have hus1 := hp.us1
  unfold recyclinglaw22_follows
  rw [rLeg_eq hp ⟨hx.n0, hx.n1⟩ ⟨hin.1.n0, hin.1.n1⟩]
  have hls := hin.2.1
  unfold stepR at hs
  split at hs
  · rename_i h5
    split at hs
    · cases hs
    · injection hs with hs; subst hs
      simp only at hls hlb ⊢
      simp only [Option.bind_some, or_some, and_some]
      rw [w64_eq (n := x.Leave + (legP p x.Node p.Unload).Secs) (by omega) (by omega), w64_eq (n := x.Leave + (legP p x.Node p.Unload).Secs + p.UnloadSecs) (by omega) (by omega)]
      rw [show decide ((legP p x.Node p.Unload).Secs < 0) = false by simp; omega]
      subst h5
      refine ⟨by simp, by omega, by omega, .inl (by omega), fun h => absurd h (by decide)⟩
  · split at hs
    · cases hs
    · rename_i h6
      split at hs
      · cases hs
      · rename_i h7
        split at hs
        · cases hs
        · rename_i d hd
          have hd2 := hp.de d (List.mem_of_getElem? hd)
          have a1 := hd2.g0; have a2 := hd2.w0; have a3 := hd2.w1; have a4 := hd2.w2; have a5 := hd2.s0; have a6 := hd2.s1; have a7 := hd2.g1
          split at hs
          · cases hs
          · split at hs
            · cases hs
            · split at hs
              · cases hs
              · rename_i h8
                split at hs
                · cases hs
                · rename_i h9
                  injection hs with hs; subst hs
                  simp only at hls hlb ⊢
                  have hgd : getI p.Demands s = some d := by unfold getI; rw [if_pos (by omega)]; exact hd
                  simp only [Option.bind_some, or_some, and_some, hgd]
                  rw [w64_eq (n := x.Leave + (legP p x.Node d.Node).Secs) (by omega) (by omega), w64_eq (n := max (x.Leave + (legP p x.Node d.Node).Secs) d.When.From + d.Service) (by omega) (by omega), w64_eq (n := x.Load + d.Grams) (by omega) (by omega)]
                  rw [show decide ((legP p x.Node d.Node).Secs < 0) = false by simp; omega, show decide (s < 0) = false by simp; omega, show decide (max (x.Leave + (legP p x.Node d.Node).Secs) d.When.From < d.When.To) = true by simp only [decide_eq_true_eq]; omega, show decide (x.Load + d.Grams ≤ v.Grams) = true by simp only [decide_eq_true_eq]; omega]
                  refine ⟨by simp, by omega, by omega, .inr (by omega), fun _ => h7⟩
theorem twice_loop (L : List Int) (hL : L.length ≤ 1000) (s : Int) (hs : 0 ≤ s → s ∉ L) : iter (recyclinglaw22_TourWalk_l1 s L) (((L.length : Nat) : Int).toNat + 1) 0 = some (.inl ()) := by
  have := iter_firstI (body := recyclinglaw22_TourWalk_l1 s L) L (fun _ _ => none) (.inl () : Unit ⊕ Bool) (by omega) (fun k y hy => ?_) (by simp [recyclinglaw22_TourWalk_l1]) (((L.length : Nat) : Int).toNat + 1) (by simp)
  · rw [this, firstI_none _ _ (fun _ _ _ => rfl)]
  · have hk := lt_of_get hy
    have hk2 : ((k : Int) < (L.length : Nat)) := by omega
    simp only [recyclinglaw22_TourWalk_l1, hk2, decide_true, cond_true, getI_nat, hy, Option.bind_some, and_some]
    have : (decide (0 ≤ s) && decide (y = s)) = false := by
      rw [Bool.eq_false_iff]
      simp only [ne_eq, Bool.and_eq_true, decide_eq_true_eq]
      rintro ⟨h1, rfl⟩
      exact hs h1 (List.mem_of_getElem? hy)
    rw [this]
    rfl
theorem walk_loop {p : Pr} {v : Ve} (hp : OkP p) (hv : OkV p.Road.Nodes v) {t : T_api_Tour} (hn : t.Stops.length ≤ 40) (R : List Vi) : ∀ (rest : List Int) (k : Nat) (x : Vi) (z : Vi × List Vi) (n : Nat), t.Stops.drop k = rest → k ≤ t.Stops.length → rest.length < n → InV p v k x →
    folR p v (t.Stops.take k) rest x = .inl z → (∀ i y, z.2[i]? = some y → R[k + i]? = some y) →
    iter (recyclinglaw22_TourWalk_l2 p t R v) n (x.Stop, x.Node, x.Arrive, x.Start, x.Leave, x.Load, (k : Int)) = some (.inl (z.1.Stop, z.1.Node, z.1.Arrive, z.1.Start, z.1.Leave, z.1.Load)) := by
  intro rest
  induction rest with
  | nil =>
    intro k x z n hd hk hn2 hx hf hR
    obtain ⟨n, rfl⟩ : ∃ f, n = f + 1 := ⟨n - 1, by omega⟩
    have hk2 : k = t.Stops.length := by
      have := congrArg List.length hd
      simp at this; omega
    injection hf with hf; subst hf
    rw [iter]
    simp only [recyclinglaw22_TourWalk_l2, oun]
    rw [show decide ((k : Int) < ((t.Stops.length : Nat) : Int)) = false by simp; omega]
    rfl
  | cons s rest ih =>
    intro k x z n hd hk hn2 hx hf hR
    obtain ⟨n, rfl⟩ : ∃ f, n = f + 1 := ⟨n - 1, by omega⟩
    obtain ⟨h1, h2, h3⟩ := take_next hd
    have hkl := lt_of_get h1
    unfold folR at hf
    split at hf
    · cases hf
    · rename_i y hs
      have hin := stepR_in hp hv hx hs
      have hft := follows_true hp hv (by omega) hx hs
      split at hf
      · rename_i z' hz
        injection hf with hf; subst hf
        have hRk : R[k]? = some y := hR 0 y rfl
        have hsub : subO t.Stops 0 (k : Int) = some (t.Stops.take k) := subO_take (Nat.le_of_lt hkl)
        rw [iter]
        simp only [recyclinglaw22_TourWalk_l2, oun]
        rw [show decide ((k : Int) < ((t.Stops.length : Nat) : Int)) = true by simp; omega]
        simp only [cond_true, getI_nat, h1, Option.bind_some]
        rw [show decide (s < -1) = false by simp; omega, show decide (((p.Demands.length : Nat) : Int) ≤ s) = false by simp only [decide_eq_false_iff_not]; omega]
        simp only [cond_false, hRk, Option.bind_some]
        rw [show (⟨x.Stop, x.Node, x.Arrive, x.Start, x.Leave, x.Load⟩ : Vi) = x from rfl, hft.1]
        simp only [Option.bind_some, Bool.not_true, cond_false, hsub]
        rw [twice_loop _ (by simp; omega) s hft.2.2.2.2]
        simp only [Option.bind_some, osum]
        rw [w64_nat (by omega)]
        refine ih (k + 1) y z' n h3 (by omega) (by simp only [List.length_cons] at hn2; omega) hin.1 (by rw [h2]; exact hz) fun i u hu => ?_
        have := hR (i + 1) u (by simpa using hu)
        rwa [show k + (i + 1) = k + 1 + i by omega] at this
      · cases hf
theorem recyclinglaw22_TourWalk_true (p : T_api_Problem) (t : T_api_Tour) (hp : wf_api_Problem p) (ht : wf_api_Tour t) : ∃ F, recyclinglaw22_TourWalk F p t = some true := by
  refine ⟨40000, ?_⟩
  unfold recyclinglaw22_TourWalk
  obtain ⟨⟨b, hb⟩, hl⟩ := Large_some p
  rw [hb]
  simp only [Option.bind_some, or_some]
  by_cases h : (b || decide ((100 : Int) < ((t.Stops.length : Nat) : Int))) = true
  · rw [h]; simp only [cond_true, awake_all (Nat.le_refl _), Option.bind_some]
  · rw [Bool.not_eq_true] at h
    rw [h]
    have hbf : b = false := by rw [Bool.or_eq_false_iff] at h; exact h.1
    subst hbf
    obtain ⟨h1, _, _⟩ := hl hb
    simp only [cond_false]
    rcases Check_cases p h1 with ⟨g1, g2⟩ | ⟨e, g1, g2⟩
    · rw [Walk_eq (Nat.le_refl _) g2 g1 h1 t]
      unfold walkR
      cases hr : tourR p t with
      | inr q =>
        have hq := tourR_ix hr
        simp only [Option.bind_some, oun]
        rw [show decide (q.1 = 0) = false by simpa using tourR_err hr]
        simp only [Bool.not_false, cond_true, List.length_nil, show decide (((0 : Nat) : Int) = 0) = true by decide, show decide (0 ≤ q.2) = true by simpa using hq.1, show decide (q.2 ≤ ((t.Stops.length : Nat) : Int)) = true by simpa using hq.2, awake_all (Nat.le_refl _), Option.bind_some]
      | inl u =>
        obtain ⟨z, y, hf, e1, e2⟩ := tourR_ok hr
        obtain ⟨u1, u2, v⟩ := u
        simp only at hf e1 e2
        subst e1 e2
        have hv := g2.ve v (by
          have := hf.hv
          unfold getI at this
          rw [if_pos hf.t0] at this
          exact List.mem_of_getElem? this)
        have hz := folR_in g2 hv t.Stops [] _ _ (x0_in hv) hf.fol
        simp only [List.length_nil, Nat.zero_add] at hz
        have hsl := hf.sl
        have hlen : (((z.2 ++ [y]).length : Nat) : Int) = ((t.Stops.length + 1 : Nat) : Int) := by simp; omega
        have hloop := walk_loop g2 hv (t := t) hf.sl (z.2 ++ [y]) t.Stops 0 (x0 v) z (((t.Stops.length : Nat) : Int).toNat + 1) rfl (Nat.zero_le _) (by simp) (x0_in hv) hf.fol (fun i u hu => by
          have := lt_of_get hu
          rw [Nat.zero_add, List.getElem?_append_left this]; exact hu)
        have hloop2 : iter (recyclinglaw22_TourWalk_l2 p t (z.2 ++ [y]) v) (((t.Stops.length : Nat) : Int).toNat + 1) (0, v.Depot, 0, 0, v.Shift.From, 0, 0) = _ := hloop
        have hlast : getI (z.2 ++ [y]) (w64 ((((z.2 ++ [y]).length : Nat) : Int) - 1)) = some y := by
          rw [hlen, w64_eq (by omega) (by omega), show ((t.Stops.length + 1 : Nat) : Int) - 1 = ((t.Stops.length : Nat) : Int) by omega, getI_nat, List.getElem?_append_right (by omega), hz.2.1, Nat.sub_self]
          rfl
        have t0 := hf.t0; have t1 := hf.t1
        have hx1 := hz.1.t0; have hx2 := hz.1.t1
        have hlb := legP_bound g2 ⟨hz.1.n0, hz.1.n1⟩ ⟨hv.d0, hv.d1⟩
        simp only [Option.bind_some, oun, decide_true, Bool.not_true, cond_false, g1]
        rw [show decide (t.Vehicle < 0) = false by simp; omega, show decide (((p.Vehicles.length : Nat) : Int) ≤ t.Vehicle) = false by simp; omega, w64_nat (by omega), hlen, show decide ((40 : Int) < ((t.Stops.length : Nat) : Int)) = false by simp; omega]
        rw [← hlen, hlast]
        simp only [decide_true, Bool.not_true, cond_false, Option.bind_some, hf.hv, hloop2, osum, oun, rLeg_eq g2 ⟨hz.1.n0, hz.1.n1⟩ ⟨hv.d0, hv.d1⟩]
        have hom := hf.hom
        unfold homeR at hom
        split at hom
        · cases hom
        · rename_i c1
          split at hom
          · cases hom
          · rename_i c2
            split at hom
            · cases hom
            · rename_i c3
              injection hom with hom; subst hom
              simp only []
              simp only [ne_eq, Decidable.not_not] at c2
              rw [w64_eq (n := z.1.Leave + (legP p z.1.Node v.Depot).Secs) (by omega) (by omega)]
              rw [show decide (0 ≤ (legP p z.1.Node v.Depot).Secs) = true by simp; omega, show decide (z.1.Leave + (legP p z.1.Node v.Depot).Secs < v.Shift.To) = true by simp; omega]
              simp only [c2, decide_true, cond_true, awake_all (Nat.le_refl _), Option.bind_some]
              rfl
    · unfold tour_Walk
      rw [tour_Check_eq (by omega) p h1, g2]
      simp only [Option.bind_some]
      rw [show decide (e = 0) = false by simpa using g1]
      simp only [Bool.not_false, cond_true, Option.bind_some, oun]
      rw [show decide (e = 0) = false by simpa using g1]
      simp only [Bool.not_false, cond_true, List.length_nil, show decide (((0 : Nat) : Int) = 0) = true by decide, show decide ((0 : Int) ≤ 0) = true by decide, show decide ((0 : Int) ≤ ((t.Stops.length : Nat) : Int)) = true by simp, awake_all (Nat.le_refl _), Option.bind_some]

end Go.Proofs.Ytjbminmhndgiaaa
