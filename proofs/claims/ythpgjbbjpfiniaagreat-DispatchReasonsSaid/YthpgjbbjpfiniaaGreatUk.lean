/- The plain laws of the tours: walks and costs. -/
import Derived.Test.YthpgjbbjpfiniaaGreatUj
namespace Go.Proofs.YthpgjbbjpfiniaaGreat
open Go.RowKit
set_option linter.unusedSimpArgs false
set_option linter.unusedVariables false
def x0 (v : Ve) : Vi := ⟨0, v.Depot, 0, 0, v.Shift.From, 0⟩
theorem x0_in {p : Pr} {v : Ve} (hv : OkV p.Road.Nodes v) : InV p v 0 (x0 v) := by
  have h1 := hv.s0; have h2 := hv.s1; have h3 := hv.s2; have h4 := hv.g0
  exact ⟨hv.d0, hv.d1, h1, by simp only [x0]; omega, Int.le_refl _, by simp only [x0]; omega⟩
def tourR (p : Pr) (t : T_api_Tour) : (Vi × List Vi × Ve) ⊕ (Int × Int) :=
  if t.Vehicle < 0 ∨ ((p.Vehicles.length : Nat) : Int) ≤ t.Vehicle then .inr (7, 0)
  else if 40 < t.Stops.length then .inr (8, 0)
  else match p.Vehicles[t.Vehicle.toNat]? with
    | none => .inr (7, 0)
    | some v => match folR p v [] t.Stops (x0 v) with
      | .inr q => .inr (q.1, ((q.2 : Nat) : Int))
      | .inl z => match homeR p v z.1 with
        | .inr e => .inr (e, ((t.Stops.length : Nat) : Int))
        | .inl y => .inl (z.1, z.2 ++ [y], v)
def walkR (p : Pr) (t : T_api_Tour) : List Vi × Int × Int := match tourR p t with
  | .inl z => (z.2.1, 0, 0)
  | .inr q => ([], q.1, q.2)
def costR (p : Pr) (t : T_api_Tour) : Int × Int := match tourR p t with
  | .inl z => (metR p z.2.2.Depot z.2.1, 0)
  | .inr q => (0, q.1)
theorem tourR_err {p : Pr} {t : T_api_Tour} {q : Int × Int} (h : tourR p t = .inr q) : q.1 ≠ 0 := by
  unfold tourR at h
  split at h
  · injection h with h; subst h; decide
  · split at h
    · injection h with h; subst h; decide
    · split at h
      · injection h with h; subst h; decide
      · split at h
        · rename_i q' hq
          injection h with h; subst h
          exact folR_err _ _ _ _ hq
        · split at h
          · rename_i e he
            injection h with h; subst h
            exact homeR_err he
          · cases h
theorem metR_snoc {p : Pr} {v : Ve} (y : Vi) : ∀ (rest pre : List Int) (x : Vi) (z : Vi × List Vi), folR p v pre rest x = .inl z → metR p x.Node (z.2 ++ [y]) = metR p x.Node z.2 + (legP p z.1.Node y.Node).Meters
  | [], pre, x, z, h => by
    injection h with h; subst h
    simp [metR]
  | s :: rest, pre, x, z, h => by
    unfold folR at h
    split at h
    · cases h
    · split at h
      · rename_i y' _ z' hz
        injection h with h; subst h
        have := metR_snoc y rest _ _ _ hz
        simp only [List.cons_append, metR] at this ⊢
        omega
      · cases h
theorem ref_Walk {p : Pr} (hp : OkP p) (hc : recyclingref22_Check p = some 0) (t : T_api_Tour) : recyclingref22_Walk p t = some (walkR p t) := by
  unfold recyclingref22_Walk walkR tourR
  rw [hc]
  simp only [Option.bind_some, decide_true, Bool.not_true, cond_false, or_some]
  by_cases h1 : t.Vehicle < 0 ∨ ((p.Vehicles.length : Nat) : Int) ≤ t.Vehicle
  · rw [if_pos h1, show (decide (t.Vehicle < 0) || decide (((p.Vehicles.length : Nat) : Int) ≤ t.Vehicle)) = true by simpa using h1]
    rfl
  · rw [if_neg h1, show (decide (t.Vehicle < 0) || decide (((p.Vehicles.length : Nat) : Int) ≤ t.Vehicle)) = false by simpa using h1]
    simp only [cond_false]
    by_cases h2 : 40 < t.Stops.length
    · rw [if_pos h2, show decide ((40 : Int) < ((t.Stops.length : Nat) : Int)) = true by simp; omega]
      rfl
    · rw [if_neg h2, show decide ((40 : Int) < ((t.Stops.length : Nat) : Int)) = false by simp; omega]
      simp only [cond_false]
      obtain ⟨i, hi⟩ : ∃ i : Nat, t.Vehicle = i := ⟨t.Vehicle.toNat, by omega⟩
      have hd : p.Vehicles[i]? = some p.Vehicles[i] := List.getElem?_eq_getElem (by omega)
      generalize p.Vehicles[i] = v at hd
      have hv := hp.ve v (List.mem_of_getElem? hd)
      rw [hi]
      simp only [getI_nat, hd, Option.bind_some, Int.toNat_natCast]
      have hl := ref_loop hp hv (t := t) (by omega) t.Stops 0 (x0 v) [] (t.Stops.length + 1) rfl (Nat.zero_le _) (by simp) (x0_in hv) rfl
      rw [List.take_zero] at hl
      have hl2 : iter (recyclingref22_Walk_l1 p t v) (t.Stops.length + 1) (0, v.Depot, 0, 0, v.Shift.From, 0, [], 0) = _ := hl
      rw [hl2]
      cases hf : folR p v [] t.Stops (x0 v) with
      | inr q => rfl
      | inl z =>
        have hz := folR_in hp hv t.Stops [] _ _ (x0_in hv) hf
        simp only [List.length_nil, Nat.zero_add] at hz
        simp only [Option.bind_some, osum, oun, List.nil_append]
        have hh : recyclingref22_home p v ⟨z.1.Stop, z.1.Node, z.1.Arrive, z.1.Start, z.1.Leave, z.1.Load⟩ = _ := ref_home hp hv (k := t.Stops.length) (by omega) hz.1
        rw [hh]
        cases hm : homeR p v z.1 with
        | inr e =>
          simp only [Option.bind_some, oun]
          rw [show decide (e = 0) = false by simpa using homeR_err hm]
          rfl
        | inl y =>
          simp only [Option.bind_some, oun, decide_true, Bool.not_true, cond_false]
          rw [appO_eq (by simp; omega)]
          rfl
theorem pro_follow {F : Nat} (hF : 40000 ≤ F) {p : Pr} (hp : OkP p) (t : T_api_Tour) : match tourR p t with
    | .inl z => ∃ w, tour_follow F p t = some (some w, 0, 0) ∧ w.visits = z.2.1 ∧ w.place.meters = metR p z.2.2.Depot z.2.1
    | .inr q => tour_follow F p t = some (none, q.1, q.2) := by
  unfold tour_follow tourR
  simp only [Option.bind_some, or_some]
  by_cases h1 : t.Vehicle < 0 ∨ ((p.Vehicles.length : Nat) : Int) ≤ t.Vehicle
  · rw [if_pos h1, show (decide (t.Vehicle < 0) || decide (((p.Vehicles.length : Nat) : Int) ≤ t.Vehicle)) = true by simpa using h1]
    rfl
  · rw [if_neg h1, show (decide (t.Vehicle < 0) || decide (((p.Vehicles.length : Nat) : Int) ≤ t.Vehicle)) = false by simpa using h1]
    simp only [cond_false]
    by_cases h2 : 40 < t.Stops.length
    · rw [if_pos h2, show decide ((40 : Int) < ((t.Stops.length : Nat) : Int)) = true by simp; omega]
      rfl
    · rw [if_neg h2, show decide ((40 : Int) < ((t.Stops.length : Nat) : Int)) = false by simp; omega]
      simp only [cond_false]
      obtain ⟨i, hi⟩ : ∃ i : Nat, t.Vehicle = i := ⟨t.Vehicle.toNat, by omega⟩
      have hd : p.Vehicles[i]? = some p.Vehicles[i] := List.getElem?_eq_getElem (by omega)
      generalize p.Vehicles[i] = v at hd
      have hv := hp.ve v (List.mem_of_getElem? hd)
      rw [hi]
      simp only [getI_nat, hd, Option.bind_some, Int.toNat_natCast]
      have hl := pro_loop hF hp hv (t := t) (by omega) t.Stops 0 (x0 v) ⟨⟨v.Depot, v.Shift.From, 0, 0⟩, p, v, [], []⟩ 0 [] (t.Stops.length + 1) rfl (Nat.zero_le _) (by simp) (x0_in hv) ⟨rfl, rfl, rfl, rfl, fun n L h => by cases h⟩ rfl (Int.le_refl _) (by simp)
      rw [List.take_zero] at hl
      cases hf : folR p v [] t.Stops (x0 v) with
      | inr q =>
        rw [hf] at hl
        obtain ⟨w', hw'⟩ := hl
        rw [show ((0 : Nat) : Int) = (0 : Int) from rfl] at hw'
        simp only [hw', Option.bind_some, oun]
        rw [show decide (q.1 = 0) = false by simpa using folR_err _ _ _ _ hf]
        simp only [cond_false, Option.bind_some, oun]
        rw [show decide (q.1 = 0) = false by simpa using folR_err _ _ _ _ hf]
        rfl
      | inl z =>
        rw [hf] at hl
        obtain ⟨w', hw', hat⟩ := hl
        rw [show ((0 : Nat) : Int) = (0 : Int) from rfl] at hw'
        have hz := folR_in hp hv t.Stops [] _ _ (x0_in hv) hf
        simp only [List.length_nil, Nat.zero_add] at hz
        simp only [hw', Option.bind_some, oun, decide_true, cond_true]
        have hb := pro_home hF hp hv (k := t.Stops.length) (by omega) hz.1 hat (by simp; omega) (by omega) (by omega)
        cases hm : homeR p v z.1 with
        | inr e =>
          rw [hm] at hb
          obtain ⟨w2, hw2⟩ := hb
          simp only [hw2, Option.bind_some, oun]
          rw [show decide (e = 0) = false by simpa using homeR_err hm]
          rfl
        | inl y =>
          rw [hm] at hb
          obtain ⟨w2, hw2, g1, g2⟩ := hb
          simp only [hw2, Option.bind_some, oun, decide_true, Bool.not_true, cond_false]
          refine ⟨w2, rfl, by simpa using g1, ?_⟩
          rw [g2]
          have h5 := metR_snoc y _ _ _ _ hf
          have h6 : y.Node = v.Depot := by
            unfold homeR at hm
            repeat' split at hm
            all_goals first | (cases hm; done) | (injection hm with hm; subst hm; rfl)
          rw [h6] at h5
          show 0 + metR p (x0 v).Node z.2 + _ = metR p (x0 v).Node (z.2 ++ [y])
          omega
theorem Check_cases (p : Pr) (hn : p.Road.Edges.length ≤ 600) : (recyclingref22_Check p = some 0 ∧ OkP p) ∨ ∃ e, e ≠ 0 ∧ recyclingref22_Check p = some e := by
  obtain ⟨e, he⟩ := ref22_some p hn
  by_cases h : e = 0
  · subst h; exact .inl ⟨he, OkP.of hn he⟩
  · exact .inr ⟨e, h, he⟩
theorem Walk_eq {F : Nat} (hF : 40000 ≤ F) {p : Pr} (hp : OkP p) (hc : recyclingref22_Check p = some 0) (hn : p.Road.Edges.length ≤ 600) (t : T_api_Tour) : tour_Walk F p t = some (walkR p t) := by
  unfold tour_Walk walkR
  rw [tour_Check_eq (by omega) p hn, hc]
  simp only [Option.bind_some, decide_true, Bool.not_true, cond_false]
  have := pro_follow hF hp t
  cases h : tourR p t with
  | inr q =>
    rw [h] at this
    simp only [this, Option.bind_some, oun]
    rw [show decide (q.1 = 0) = false by simpa using tourR_err h]
    rfl
  | inl z =>
    rw [h] at this
    obtain ⟨w, h1, h2, _⟩ := this
    simp only [h1, Option.bind_some, oun, decide_true, Bool.not_true, cond_false, h2]
theorem Cost_eq {F : Nat} (hF : 40000 ≤ F) {p : Pr} (hp : OkP p) (hc : recyclingref22_Check p = some 0) (hn : p.Road.Edges.length ≤ 600) (t : T_api_Tour) : tour_Cost F p t = some (costR p t) := by
  unfold tour_Cost costR
  rw [tour_Check_eq (by omega) p hn, hc]
  simp only [Option.bind_some, decide_true, Bool.not_true, cond_false]
  have := pro_follow hF hp t
  cases h : tourR p t with
  | inr q =>
    rw [h] at this
    simp only [this, Option.bind_some, oun]
    rw [show decide (q.1 = 0) = false by simpa using tourR_err h]
    rfl
  | inl z =>
    rw [h] at this
    obtain ⟨w, h1, _, h3⟩ := this
    simp only [h1, Option.bind_some, oun, decide_true, Bool.not_true, cond_false, h3]
theorem folR_nodes {p : Pr} {v : Ve} (hp : OkP p) (hv : OkV p.Road.Nodes v) : ∀ (rest pre : List Int) (x : Vi) (z : Vi × List Vi), InV p v pre.length x → folR p v pre rest x = .inl z → ∀ y ∈ z.2, 0 ≤ y.Node ∧ y.Node < p.Road.Nodes
  | [], pre, x, z, hx, h => by
    injection h with h; subst h
    intro y hy; cases hy
  | s :: rest, pre, x, z, hx, h => by
    unfold folR at h
    split at h
    · cases h
    · rename_i y hy
      obtain ⟨h1, _, _⟩ := stepR_in hp hv hx hy
      split at h
      · rename_i z' hz
        injection h with h; subst h
        have h3 := folR_nodes hp hv rest (pre ++ [s]) y z' (by simpa using h1) hz
        intro u hu
        rcases List.mem_cons.1 hu with h4 | h4
        · subst h4; exact ⟨h1.n0, h1.n1⟩
        · exact h3 u h4
      · cases h
theorem rcost_loop {p : Pr} (hp : OkP p) (L : List Vi) (hL : L.length ≤ 100) (hnd : ∀ y ∈ L, 0 ≤ y.Node ∧ y.Node < p.Road.Nodes) : ∀ (rest : List Vi) (k : Nat) (sum a : Int) (n : Nat), L.drop k = rest → k ≤ L.length → rest.length < n → 0 ≤ a ∧ a < p.Road.Nodes → 0 ≤ sum → sum ≤ k * 6400000 →
    iter (recyclingref22_Cost_l1 p L) n (sum, a, (k : Int)) = some (sum + metR p a rest) := by
  intro rest
  induction rest with
  | nil =>
    intro k sum a n hd hk hn ha hs0 hs1
    obtain ⟨n, rfl⟩ : ∃ f, n = f + 1 := ⟨n - 1, by omega⟩
    have hk2 : k = L.length := by
      have := congrArg List.length hd
      simp at this; omega
    rw [iter]
    simp only [recyclingref22_Cost_l1, oun]
    rw [show decide ((k : Int) < ((L.length : Nat) : Int)) = false by simp; omega]
    simp [metR, osum]
  | cons y rest ih =>
    intro k sum a n hd hk hn ha hs0 hs1
    obtain ⟨n, rfl⟩ : ∃ f, n = f + 1 := ⟨n - 1, by omega⟩
    have h1 : L[k]? = some y := by
      have : (L.drop k)[0]? = some y := by rw [hd]; rfl
      rw [List.getElem?_drop] at this
      simpa using this
    have h3 : L.drop (k + 1) = rest := by rw [← List.drop_drop, hd]; rfl
    have hkl := lt_of_get h1
    have hy := hnd y (List.mem_of_getElem? h1)
    have hl := legP_bound hp ha hy
    rw [iter]
    simp only [recyclingref22_Cost_l1, oun]
    rw [show decide ((k : Int) < ((L.length : Nat) : Int)) = true by simp; omega]
    simp only [cond_true, getI_nat, h1, Option.bind_some, rLeg_eq hp ha hy, osum]
    rw [w64_nat (by omega), w64_eq (by omega) (by omega)]
    rw [ih (k + 1) _ _ n h3 (by omega) (by simp only [List.length_cons] at hn; omega) hy (by omega) (by omega)]
    simp only [metR]
    congr 1
    omega
theorem ref_Cost {p : Pr} (hp : OkP p) (hc : recyclingref22_Check p = some 0) (t : T_api_Tour) : recyclingref22_Cost p t = some (costR p t) := by
  unfold recyclingref22_Cost
  rw [ref_Walk hp hc]
  unfold walkR costR
  cases h : tourR p t with
  | inr q =>
    simp only [Option.bind_some, oun]
    rw [show decide (q.1 = 0) = false by simpa using tourR_err h]
    rfl
  | inl z =>
    simp only [Option.bind_some, oun, decide_true, Bool.not_true, cond_false]
    unfold tourR at h
    split at h
    · cases h
    · rename_i h1
      split at h
      · cases h
      · rename_i h2
        obtain ⟨i, hi⟩ : ∃ i : Nat, t.Vehicle = i := ⟨t.Vehicle.toNat, by omega⟩
        have hd : p.Vehicles[i]? = some p.Vehicles[i] := List.getElem?_eq_getElem (by omega)
        generalize p.Vehicles[i] = v at hd
        have hv := hp.ve v (List.mem_of_getElem? hd)
        rw [hi] at h ⊢
        simp only [getI_nat, hd, Option.bind_some, Int.toNat_natCast] at h ⊢
        cases hf : folR p v [] t.Stops (x0 v) with
        | inr q => rw [hf] at h; cases h
        | inl w =>
          rw [hf] at h
          simp only [] at h
          cases hm : homeR p v w.1 with
          | inr e => rw [hm] at h; cases h
          | inl y =>
            rw [hm] at h
            injection h with h; subst h
            have hz := folR_in hp hv t.Stops [] _ _ (x0_in hv) hf
            have hnn := folR_nodes hp hv t.Stops [] _ _ (x0_in hv) hf
            simp only [List.length_nil, Nat.zero_add] at hz
            have h6 : y.Node = v.Depot := by
              unfold homeR at hm
              repeat' split at hm
              all_goals first | (cases hm; done) | (injection hm with hm; subst hm; rfl)
            have := rcost_loop hp (w.2 ++ [y]) (by simp; omega) (fun u hu => by
              rcases List.mem_append.1 hu with h7 | h7
              · exact hnn u h7
              · rw [List.mem_singleton.1 h7, h6]; exact ⟨hv.d0, hv.d1⟩) (w.2 ++ [y]) 0 0 v.Depot ((w.2 ++ [y]).length + 1) rfl (Nat.zero_le _) (by simp) ⟨hv.d0, hv.d1⟩ (Int.le_refl _) (by simp)
            rw [show ((0 : Nat) : Int) = (0 : Int) from rfl, Int.zero_add] at this
            show Option.bind (iter (recyclingref22_Cost_l1 p (w.2 ++ [y])) ((w.2 ++ [y]).length + 1) (0, v.Depot, 0)) _ = _
            rw [this]
            rfl
end Go.Proofs.YthpgjbbjpfiniaaGreat
