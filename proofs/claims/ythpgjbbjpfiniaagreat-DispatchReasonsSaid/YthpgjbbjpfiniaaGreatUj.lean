/- The plain laws of the tours: the program's walk is the reference's. -/
import Derived.Test.YthpgjbbjpfiniaaGreatUi
namespace Go.Proofs.YthpgjbbjpfiniaaGreat
open Go.RowKit
set_option linter.unusedSimpArgs false
set_option linter.unusedVariables false
abbrev Wa := T_tour_walk
structure At (p : Pr) (v : Ve) (w : Wa) (x : Vi) (m : Int) (l : List Vi) : Prop where
  pl : w.place = ⟨x.Node, x.Leave, x.Load, m⟩
  ep : w.p = p
  ev : w.v = v
  vs : w.visits = l
  ok : okC p w.legs
theorem note_eq {w : Wa} {s a b : Int} (h : w.visits.length ≤ 1000) : tour_walk_note w s a b = some ⟨w.place, w.p, w.v, w.legs, w.visits ++ [⟨s, w.place.node, a, b, w.place.time, w.place.load⟩]⟩ := by
  unfold tour_walk_note
  rw [appO_eq (by simp; omega)]
  rfl
theorem serve_step {F : Nat} (hF : 40000 ≤ F) {p : Pr} {v : Ve} (hp : OkP p) (hv : OkV p.Road.Nodes v) {t : T_api_Tour} (hn : t.Stops.length ≤ 40) {k : Nat} {s : Int} (hk : t.Stops[k]? = some s) {x : Vi} (hx : InV p v k x) {w : Wa} {m : Int} {l : List Vi}
    (hw : At p v w x m l) (hl : l.length ≤ 900) (hm0 : 0 ≤ m) (hm1 : m ≤ k * 6400000) :
    match stepR p v (t.Stops.take k) x s with
      | .inl y => ∃ w', tour_walk_serve F w t (k : Int) = some (0, w') ∧ At p v w' y (m + (legP p x.Node y.Node).Meters) (l ++ [y])
      | .inr e => ∃ w', tour_walk_serve F w t (k : Int) = some (e, w') := by
  obtain ⟨pl, wp, wv, wl, wvs⟩ := w
  obtain ⟨e1, e2, e3, e4, e5⟩ := hw
  simp only at e1 e2 e3 e4 e5
  subst e1 e2 e3 e4
  have hkl := lt_of_get hk
  have h1 := hx.t0; have h2 := hx.t1; have h3 := hx.l0; have h4 := hx.l1
  have hg := hv.g1
  have hsub : subO t.Stops 0 (k : Int) = some (t.Stops.take k) := subO_take (Nat.le_of_lt hkl)
  have hcon : slices_Contains_int (t.Stops.take k) s = some (decide (s ∈ t.Stops.take k)) := contains_eq _ (by simp; omega) s
  unfold tour_walk_serve stepR
  simp only [getI_nat, hk, Option.bind_some]
  by_cases hs : s = -1
  · subst hs
    have hu := legP_bound hp ⟨hx.n0, hx.n1⟩ ⟨hp.u0, hp.u1⟩
    have hus0 := hp.us0; have hus1 := hp.us1
    obtain ⟨c, hc1, hc2⟩ := leg_eq hF (w := ⟨⟨x.Node, x.Leave, x.Load, m⟩, wp, wv, wl, wvs⟩) hp e5 ⟨hx.n0, hx.n1⟩ ⟨hp.u0, hp.u1⟩
    simp only [decide_true, Bool.not_true, cond_false, cond_true, if_true, Option.bind_some, osum, hc1, oun]
    by_cases hl2 : (legP wp x.Node wp.Unload).Secs < 0
    · rw [if_pos hl2, show decide (0 ≤ (legP wp x.Node wp.Unload).Secs) = false by simp; omega]
      exact ⟨_, rfl⟩
    · rw [if_neg hl2, show decide (0 ≤ (legP wp x.Node wp.Unload).Secs) = true by simp; omega]
      simp only [Bool.not_true, cond_false]
      rw [w64_eq (n := x.Leave + (legP wp x.Node wp.Unload).Secs) (by omega) (by omega), w64_eq (n := x.Leave + (legP wp x.Node wp.Unload).Secs + wp.UnloadSecs) (by omega) (by omega), w64_eq (n := m + (legP wp x.Node wp.Unload).Meters) (by omega) (by omega)]
      rw [note_eq (by simp only []; omega)]
      exact ⟨_, rfl, ⟨rfl, rfl, rfl, rfl, hc2⟩⟩
  · simp only [show decide (s = -1) = false by simpa using hs, cond_false, cond_true, Bool.not_false, if_neg hs, or_some, Option.bind_some]
    by_cases h7 : s < 0 ∨ ((wp.Demands.length : Nat) : Int) ≤ s
    · rw [if_pos h7, show (decide (s < 0) || decide (((wp.Demands.length : Nat) : Int) ≤ s)) = true by simpa using h7]
      exact ⟨_, rfl⟩
    · rw [if_neg h7, show (decide (s < 0) || decide (((wp.Demands.length : Nat) : Int) ≤ s)) = false by simpa using h7]
      simp only [cond_false, hsub, hcon, Option.bind_some]
      by_cases h6 : s ∈ t.Stops.take k
      · rw [if_pos h6]
        simp only [h6, decide_true, cond_true, Option.bind_some, osum]
        exact ⟨_, rfl⟩
      · rw [if_neg h6]
        obtain ⟨i, rfl⟩ : ∃ i : Nat, s = i := ⟨s.toNat, by omega⟩
        have hd : wp.Demands[i]? = some wp.Demands[i] := List.getElem?_eq_getElem (by omega)
        generalize wp.Demands[i] = d at hd
        have hd2 := hp.de d (List.mem_of_getElem? hd)
        have hl3 := legP_bound hp ⟨hx.n0, hx.n1⟩ ⟨hd2.n0, hd2.n1⟩
        have a1 := hd2.g0; have a2 := hd2.w0; have a3 := hd2.w1; have a4 := hd2.w2; have a5 := hd2.s0; have a6 := hd2.s1; have a7 := hd2.g1
        obtain ⟨c, hc1, hc2⟩ := leg_eq hF (w := ⟨⟨x.Node, x.Leave, x.Load, m⟩, wp, wv, wl, wvs⟩) hp e5 ⟨hx.n0, hx.n1⟩ ⟨hd2.n0, hd2.n1⟩
        simp only [h6, decide_false, cond_false, Option.bind_some, osum, getI_nat, hd, Int.toNat_natCast, (Carries_eq hv hd2.k0 hd2.k1).1]
        cases hc : carB wv d.Kind with
        | false => simp only [Bool.not_false, cond_true, Option.bind_some, osum, if_true]; exact ⟨_, rfl⟩
        | true =>
          simp only [Bool.not_true, cond_false, Option.bind_some, Bool.true_eq_false, if_false, osum, hc1, oun]
          by_cases hl2 : (legP wp x.Node d.Node).Secs < 0
          · rw [if_pos hl2, show decide (0 ≤ (legP wp x.Node d.Node).Secs) = false by simp; omega]
            exact ⟨_, rfl⟩
          · rw [if_neg hl2, show decide (0 ≤ (legP wp x.Node d.Node).Secs) = true by simp; omega]
            simp only [Bool.not_true, cond_false, getI_nat, hd, Option.bind_some]
            rw [w64_eq (n := x.Leave + (legP wp x.Node d.Node).Secs) (by omega) (by omega), w64_eq (n := x.Load + d.Grams) (by omega) (by omega), w64_eq (n := m + (legP wp x.Node d.Node).Meters) (by omega) (by omega)]
            by_cases hw : d.When.To ≤ max (x.Leave + (legP wp x.Node d.Node).Secs) d.When.From
            · rw [if_pos hw]
              simp only [hw, decide_true, cond_true]
              exact ⟨_, rfl⟩
            · rw [if_neg hw]
              by_cases hgr : wv.Grams < x.Load + d.Grams
              · rw [if_pos hgr]
                simp only [hw, hgr, decide_true, decide_false, cond_true, cond_false]
                exact ⟨_, rfl⟩
              · rw [if_neg hgr]
                rw [w64_eq (n := max (x.Leave + (legP wp x.Node d.Node).Secs) d.When.From + d.Service) (by omega) (by omega)]
                simp only [hw, hgr, decide_false, cond_false]
                rw [note_eq (by simp only []; omega)]
                exact ⟨_, rfl, ⟨rfl, rfl, rfl, rfl, hc2⟩⟩
def folR (p : Pr) (v : Ve) : List Int → List Int → Vi → (Vi × List Vi) ⊕ (Int × Nat)
  | _, [], x => .inl (x, [])
  | pre, s :: rest, x => match stepR p v pre x s with
    | .inr e => .inr (e, pre.length)
    | .inl y => match folR p v (pre ++ [s]) rest y with
      | .inl z => .inl (z.1, y :: z.2)
      | .inr q => .inr q
def metR (p : Pr) : Int → List Vi → Int
  | _, [] => 0
  | a, y :: l => (legP p a y.Node).Meters + metR p y.Node l
theorem folR_err {p : Pr} {v : Ve} : ∀ (rest pre : List Int) (x : Vi) (q : Int × Nat), folR p v pre rest x = .inr q → q.1 ≠ 0
  | [], pre, x, q, h => by cases h
  | s :: rest, pre, x, q, h => by
    unfold folR at h
    split at h
    · rename_i e he
      injection h with h; subst h
      exact stepR_err he
    · rename_i y hy
      split at h
      · cases h
      · rename_i q' hq
        injection h with h; subst h
        exact folR_err rest _ _ _ hq
theorem folR_in {p : Pr} {v : Ve} (hp : OkP p) (hv : OkV p.Road.Nodes v) : ∀ (rest pre : List Int) (x : Vi) (z : Vi × List Vi), InV p v pre.length x → folR p v pre rest x = .inl z → InV p v (pre.length + rest.length) z.1 ∧ z.2.length = rest.length ∧ 0 ≤ metR p x.Node z.2 ∧ metR p x.Node z.2 ≤ rest.length * 6400000
  | [], pre, x, z, hx, h => by
    injection h with h; subst h
    exact ⟨hx, rfl, Int.le_refl _, by simp [metR]⟩
  | s :: rest, pre, x, z, hx, h => by
    unfold folR at h
    split at h
    · cases h
    · rename_i y hy
      obtain ⟨h1, h2, _⟩ := stepR_in hp hv hx hy
      split at h
      · rename_i z' hz
        injection h with h; subst h
        have h3 := folR_in hp hv rest (pre ++ [s]) y z' (by simpa using h1) hz
        have h4 := legP_bound hp ⟨hx.n0, hx.n1⟩ ⟨h1.n0, h1.n1⟩
        simp only [List.length_append, List.length_singleton, List.length_cons, metR] at h3 ⊢
        refine ⟨by rw [show pre.length + (rest.length + 1) = pre.length + 1 + rest.length by omega]; exact h3.1, by omega, by omega, by omega⟩
      · cases h
theorem take_next {t : List Int} {k : Nat} {s : Int} {rest : List Int} (h : t.drop k = s :: rest) : t[k]? = some s ∧ t.take (k + 1) = t.take k ++ [s] ∧ t.drop (k + 1) = rest := by
  have h1 : t[k]? = some s := by
    have : (t.drop k)[0]? = some s := by rw [h]; rfl
    rw [List.getElem?_drop] at this
    simpa using this
  refine ⟨h1, take_succ' h1, ?_⟩
  rw [← List.drop_drop, h]
  rfl
theorem ref_loop {p : Pr} {v : Ve} (hp : OkP p) (hv : OkV p.Road.Nodes v) {t : T_api_Tour} (hn : t.Stops.length ≤ 40) : ∀ (rest : List Int) (k : Nat) (x : Vi) (out : List Vi) (n : Nat), t.Stops.drop k = rest → k ≤ t.Stops.length → rest.length < n → InV p v k x → out.length = k →
    iter (recyclingref22_Walk_l1 p t v) n (x.Stop, x.Node, x.Arrive, x.Start, x.Leave, x.Load, out, (k : Int)) = some (match folR p v (t.Stops.take k) rest x with
      | .inl z => .inl (z.1.Stop, z.1.Node, z.1.Arrive, z.1.Start, z.1.Leave, z.1.Load, out ++ z.2)
      | .inr q => .inr ([], q.1, ((q.2 : Nat) : Int))) := by
  intro rest
  induction rest with
  | nil =>
    intro k x out n hd hk hn2 hx ho
    obtain ⟨n, rfl⟩ : ∃ f, n = f + 1 := ⟨n - 1, by omega⟩
    have hk2 : k = t.Stops.length := by
      have := congrArg List.length hd
      simp at this; omega
    rw [iter]
    simp only [recyclingref22_Walk_l1, oun]
    rw [show decide ((k : Int) < ((t.Stops.length : Nat) : Int)) = false by simp; omega]
    simp only [cond_false, Option.bind_some, osum, folR, List.append_nil]
  | cons s rest ih =>
    intro k x out n hd hk hn2 hx ho
    obtain ⟨n, rfl⟩ : ∃ f, n = f + 1 := ⟨n - 1, by omega⟩
    obtain ⟨h1, h2, h3⟩ := take_next hd
    have hkl := lt_of_get h1
    rw [iter, ref_step hp hv hn h1 hx out (by omega)]
    unfold folR
    cases hs : stepR p v (t.Stops.take k) x s with
    | inr e =>
      simp only [Option.bind_some, osum]
      rw [length_take' (Nat.le_of_lt hkl)]
    | inl y =>
      simp only [Option.bind_some, osum]
      have := ih (k + 1) y (out ++ [y]) n h3 (by omega) (by simp only [List.length_cons] at hn2; omega) (stepR_in hp hv hx hs).1 (by simp; omega)
      rw [this, h2]
      cases folR p v (t.Stops.take k ++ [s]) rest y with
      | inl z => simp
      | inr q => rfl
theorem pro_loop {F : Nat} (hF : 40000 ≤ F) {p : Pr} {v : Ve} (hp : OkP p) (hv : OkV p.Road.Nodes v) {t : T_api_Tour} (hn : t.Stops.length ≤ 40) : ∀ (rest : List Int) (k : Nat) (x : Vi) (w : Wa) (m : Int) (l : List Vi) (n : Nat), t.Stops.drop k = rest → k ≤ t.Stops.length → rest.length < n → InV p v k x → At p v w x m l → l.length = k → 0 ≤ m → m ≤ k * 6400000 →
    match folR p v (t.Stops.take k) rest x with
      | .inl z => ∃ w', iter (tour_follow_l1 F t) n (w, 0, (k : Int)) = some (w', 0, ((t.Stops.length : Nat) : Int)) ∧ At p v w' z.1 (m + metR p x.Node z.2) (l ++ z.2)
      | .inr q => ∃ w', iter (tour_follow_l1 F t) n (w, 0, (k : Int)) = some (w', q.1, ((q.2 : Nat) : Int)) := by
  intro rest
  induction rest with
  | nil =>
    intro k x w m l n hd hk hn2 hx hw ho hm0 hm1
    obtain ⟨n, rfl⟩ : ∃ f, n = f + 1 := ⟨n - 1, by omega⟩
    have hk2 : k = t.Stops.length := by
      have := congrArg List.length hd
      simp at this; omega
    refine ⟨w, ?_, by simpa [metR] using hw⟩
    rw [iter]
    simp only [tour_follow_l1, oun]
    rw [show decide ((k : Int) < ((t.Stops.length : Nat) : Int)) = false by simp; omega]
    simp only [cond_false, Option.bind_some, osum, hk2]
  | cons s rest ih =>
    intro k x w m l n hd hk hn2 hx hw ho hm0 hm1
    obtain ⟨n, rfl⟩ : ∃ f, n = f + 1 := ⟨n - 1, by omega⟩
    obtain ⟨h1, h2, h3⟩ := take_next hd
    have hkl := lt_of_get h1
    have hst := serve_step hF hp hv hn h1 hx hw (by omega) hm0 hm1
    have hk2 : decide ((k : Int) < ((t.Stops.length : Nat) : Int)) = true := by simp; omega
    unfold folR
    cases hs : stepR p v (t.Stops.take k) x s with
    | inr e =>
      rw [hs] at hst
      obtain ⟨w', hw'⟩ := hst
      refine ⟨w', ?_⟩
      rw [iter]
      simp only [tour_follow_l1, oun, hk2, cond_true, hw', Option.bind_some]
      rw [show decide (e = 0) = false by simpa using stepR_err hs]
      simp only [Bool.not_false, cond_true, Option.bind_some, osum]
      rw [length_take' (Nat.le_of_lt hkl)]
    | inl y =>
      rw [hs] at hst
      obtain ⟨w', hw', hat⟩ := hst
      have hin := stepR_in hp hv hx hs
      have hlb := legP_bound hp ⟨hx.n0, hx.n1⟩ ⟨hin.1.n0, hin.1.n1⟩
      have := ih (k + 1) y w' (m + (legP p x.Node y.Node).Meters) (l ++ [y]) n h3 (by omega) (by simp only [List.length_cons] at hn2; omega) hin.1 hat (by simp; omega) (by omega) (by omega)
      rw [h2] at this
      have hb : iter (tour_follow_l1 F t) (n + 1) (w, 0, (k : Int)) = iter (tour_follow_l1 F t) n (w', 0, ((k + 1 : Nat) : Int)) := by
        rw [iter]
        simp only [tour_follow_l1, oun, hk2, cond_true, hw', Option.bind_some, decide_true, Bool.not_true, cond_false, osum]
        rw [w64_nat (by omega)]
      rw [hb]
      simp only []
      cases hf : folR p v (t.Stops.take k ++ [s]) rest y with
      | inl z =>
        rw [hf] at this
        obtain ⟨w2, g1, g2⟩ := this
        refine ⟨w2, g1, ?_⟩
        simp only [metR]
        rw [show m + ((legP p x.Node y.Node).Meters + metR p y.Node z.2) = m + (legP p x.Node y.Node).Meters + metR p y.Node z.2 by omega, show l ++ y :: z.2 = l ++ [y] ++ z.2 by simp]
        exact g2
      | inr q =>
        rw [hf] at this
        exact this
def homeR (p : Pr) (v : Ve) (x : Vi) : Vi ⊕ Int :=
  if (legP p x.Node v.Depot).Secs < 0 then .inr 22
  else if x.Load ≠ 0 then .inr 20
  else if v.Shift.To ≤ x.Leave + (legP p x.Node v.Depot).Secs then .inr 19
  else .inl ⟨-2, v.Depot, x.Leave + (legP p x.Node v.Depot).Secs, x.Leave + (legP p x.Node v.Depot).Secs, x.Leave + (legP p x.Node v.Depot).Secs, 0⟩
theorem homeR_err {p : Pr} {v : Ve} {x : Vi} {e : Int} (hs : homeR p v x = .inr e) : e ≠ 0 := by
  unfold homeR at hs
  repeat' split at hs
  all_goals first | (cases hs; done) | (injection hs with hs; subst hs; decide)
theorem ref_home {p : Pr} {v : Ve} (hp : OkP p) (hv : OkV p.Road.Nodes v) {k : Nat} (hk : k ≤ 1000) {x : Vi} (hx : InV p v k x) : recyclingref22_home p v x = match homeR p v x with
    | .inl y => some (y, 0)
    | .inr e => some (⟨0, 0, 0, 0, 0, 0⟩, e) := by
  have h1 := hx.t0; have h2 := hx.t1; have h3 := hx.l0
  have hl := legP_bound hp ⟨hx.n0, hx.n1⟩ ⟨hv.d0, hv.d1⟩
  unfold recyclingref22_home homeR
  rw [rLeg_eq hp ⟨hx.n0, hx.n1⟩ ⟨hv.d0, hv.d1⟩]
  simp only [Option.bind_some]
  by_cases c1 : (legP p x.Node v.Depot).Secs < 0
  · rw [if_pos c1]; simp only [c1, decide_true, cond_true]
  · rw [if_neg c1, w64_eq (n := x.Leave + (legP p x.Node v.Depot).Secs) (by omega) (by omega)]
    simp only [c1, decide_false, cond_false]
    by_cases c2 : x.Load ≠ 0
    · rw [if_pos c2, show decide (0 < x.Load) = true by simp; omega]; rfl
    · rw [if_neg c2, show decide (0 < x.Load) = false by simp; omega]
      simp only [cond_false]
      by_cases c3 : v.Shift.To ≤ x.Leave + (legP p x.Node v.Depot).Secs
      · rw [if_pos c3]; simp only [c3, decide_true, cond_true]
      · rw [if_neg c3]; simp only [c3, decide_false, cond_false]
theorem pro_home {F : Nat} (hF : 40000 ≤ F) {p : Pr} {v : Ve} (hp : OkP p) (hv : OkV p.Road.Nodes v) {k : Nat} (hk : k ≤ 1000) {x : Vi} (hx : InV p v k x) {w : Wa} {m : Int} {l : List Vi} (hw : At p v w x m l) (hl : l.length ≤ 900) (hm0 : 0 ≤ m) (hm1 : m ≤ k * 6400000) : match homeR p v x with
    | .inl y => ∃ w', tour_walk_back F w = some (0, w') ∧ w'.visits = l ++ [y] ∧ w'.place.meters = m + (legP p x.Node v.Depot).Meters
    | .inr e => ∃ w', tour_walk_back F w = some (e, w') := by
  obtain ⟨pl, wp, wv, wl, wvs⟩ := w
  obtain ⟨e1, e2, e3, e4, e5⟩ := hw
  simp only at e1 e2 e3 e4 e5
  subst e1 e2 e3 e4
  have h1 := hx.t0; have h2 := hx.t1; have h3 := hx.l0
  have hlb := legP_bound hp ⟨hx.n0, hx.n1⟩ ⟨hv.d0, hv.d1⟩
  obtain ⟨c, hc1, hc2⟩ := leg_eq hF (w := ⟨⟨x.Node, x.Leave, x.Load, m⟩, wp, wv, wl, wvs⟩) hp e5 ⟨hx.n0, hx.n1⟩ ⟨hv.d0, hv.d1⟩
  unfold tour_walk_back homeR
  simp only [hc1, Option.bind_some, oun]
  by_cases c1 : (legP wp x.Node wv.Depot).Secs < 0
  · rw [if_pos c1, show decide (0 ≤ (legP wp x.Node wv.Depot).Secs) = false by simp; omega]
    exact ⟨_, rfl⟩
  · rw [if_neg c1, show decide (0 ≤ (legP wp x.Node wv.Depot).Secs) = true by simp; omega]
    simp only [Bool.not_true, cond_false]
    rw [w64_eq (n := x.Leave + (legP wp x.Node wv.Depot).Secs) (by omega) (by omega), w64_eq (n := m + (legP wp x.Node wv.Depot).Meters) (by omega) (by omega)]
    by_cases c2 : x.Load ≠ 0
    · rw [if_pos c2, show decide (x.Load = 0) = false by simpa using c2]
      exact ⟨_, rfl⟩
    · rw [if_neg c2]
      simp only [ne_eq, Decidable.not_not] at c2
      simp only [c2, decide_true, Bool.not_true, cond_false]
      by_cases c3 : wv.Shift.To ≤ x.Leave + (legP wp x.Node wv.Depot).Secs
      · rw [if_pos c3]; simp only [c3, decide_true, cond_true]; exact ⟨_, rfl⟩
      · rw [if_neg c3]; simp only [c3, decide_false, cond_false]
        rw [note_eq (by simp only []; omega)]
        exact ⟨_, rfl, rfl, rfl⟩
end Go.Proofs.YthpgjbbjpfiniaaGreat
