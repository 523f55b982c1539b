/- The plain laws of the tours: plans (TourPlans). -/
import Derived.Test.YthpgjbbjpfiniaaGreatUp
namespace Go.Proofs.YthpgjbbjpfiniaaGreat
open Go.RowKit
set_option linter.unusedSimpArgs false
set_option linter.unusedVariables false
theorem stepR_stop {p : Pr} {v : Ve} {pre : List Int} {x y : Vi} {s : Int} (hs : stepR p v pre x s = .inl y) : okS p.Demands.length s := by
  unfold stepR at hs
  unfold okS
  split at hs
  · exact .inl (by assumption)
  · split at hs
    · cases hs
    · exact .inr (by omega)
theorem folR_stops {p : Pr} {v : Ve} : ∀ (rest pre : List Int) (x : Vi) (z : Vi × List Vi), folR p v pre rest x = .inl z → ∀ s ∈ rest, okS p.Demands.length s
  | [], _, _, _, _, s, hs => by cases hs
  | a :: rest, pre, x, z, h, s, hs => by
    unfold folR at h
    split at h
    · cases h
    · rename_i y hy
      split at h
      · rename_i z' hz
        rcases List.mem_cons.1 hs with h1 | h1
        · subst h1; exact stepR_stop hy
        · exact folR_stops rest _ _ _ hz s h1
      · cases h
theorem cost_bound {p : Pr} (hp : OkP p) {t : T_api_Tour} {u : Vi × List Vi × Ve} (h : tourR p t = .inl u) : 0 ≤ metR p u.2.2.Depot u.2.1 ∧ metR p u.2.2.Depot u.2.1 ≤ 262400000 ∧ (∀ s ∈ t.Stops, okS p.Demands.length s) ∧ t.Stops.length ≤ 40 := by
  obtain ⟨z, y, hf, _, e2⟩ := tourR_ok h
  have hv := hp.ve u.2.2 (by
    have := hf.hv
    unfold getI at this
    rw [if_pos hf.t0] at this
    exact List.mem_of_getElem? this)
  have hz := folR_in hp hv t.Stops [] _ _ (x0_in hv) hf.fol
  have hm := metR_snoc y _ _ _ _ hf.fol
  have hsl := hf.sl
  have h6 : y.Node = u.2.2.Depot := by
    have hom := hf.hom
    unfold homeR at hom
    repeat' split at hom
    all_goals first | (cases hom; done) | (injection hom with hom; subst hom; rfl)
  have hlb := legP_bound hp ⟨hz.1.n0, hz.1.n1⟩ ⟨hv.d0, hv.d1⟩
  rw [h6] at hm
  rw [e2]
  refine ⟨?_, ?_, folR_stops _ _ _ _ hf.fol, hf.sl⟩
  · show 0 ≤ metR p (x0 u.2.2).Node (z.2 ++ [y])
    omega
  · show metR p (x0 u.2.2).Node (z.2 ++ [y]) ≤ 262400000
    omega
def badT (p : Pr) (ts : List To) (k : Nat) (t : To) : Option Int := bif (ts.take k).any (fun u => decide (u.Vehicle = t.Vehicle)) then some 6 else match tourR p t with
  | .inl _ => none
  | .inr q => some q.1
def costs (p : Pr) (ts : List To) : Int := sumBy (fun t => (costR p t).1) ts
theorem tour_contains (L : List To) (hn : L.length ≤ 1000) (x : To) : slices_ContainsFunc_Tour_c79 L x = some (L.any fun y => decide (y.Vehicle = x.Vehicle)) := by
  unfold slices_ContainsFunc_Tour_c79 slices_IndexFunc_Tour_c79
  have := iter_firstI (body := slices_IndexFunc_Tour_c79_l1 L x) L (fun k y => bif decide (y.Vehicle = x.Vehicle) then some (.inr (k : Int)) else none) (.inl () : Unit ⊕ Int) (by omega) (fun k y hy => ?_) (by simp [slices_IndexFunc_Tour_c79_l1]) (((L.length : Nat) : Int).toNat + 1) (by simp)
  · rw [this]
    rcases anyIx (fun y : To => decide (y.Vehicle = x.Vehicle)) L 0 with ⟨h1, h2⟩ | ⟨j, h1, h2⟩
    · rw [h1, h2]; rfl
    · rw [h1, h2]
      simp only [Option.bind_some, osum]
      simp
  · have hk := lt_of_get hy
    have hk2 : ((k : Int) < (L.length : Nat)) := by omega
    simp only [slices_IndexFunc_Tour_c79_l1, hk2, decide_true, cond_true, getI_nat, hy, Option.bind_some, tour_plan_1]
    cases decide (y.Vehicle = x.Vehicle) <;> rfl
theorem badT_none {p : Pr} {ts : List To} {k : Nat} {t : To} (h : badT p ts k t = none) : ∃ u, tourR p t = .inl u := by
  unfold badT at h
  cases hb : (ts.take k).any (fun u => decide (u.Vehicle = t.Vehicle)) with
  | true => rw [hb] at h; cases h
  | false =>
    rw [hb] at h
    cases hr : tourR p t with
    | inl u => exact ⟨u, rfl⟩
    | inr q => rw [hr] at h; cases h
theorem costs_take {p : Pr} (hp : OkP p) {ts : List To} : ∀ (k : Nat), k ≤ ts.length → (∀ (j : Nat) (y : To), j < k → ts[j]? = some y → badT p ts j y = none) → 0 ≤ costs p (ts.take k) ∧ costs p (ts.take k) ≤ k * 262400000
  | 0, _, _ => by simp [costs, sumBy]
  | k + 1, hk, h => by
    have h1 := costs_take hp k (by omega) fun j y hj => h j y (by omega)
    have hx : ts[k]? = some ts[k] := List.getElem?_eq_getElem (by omega)
    obtain ⟨u, hu⟩ := badT_none (h k _ (by omega) hx)
    have h2 := cost_bound hp hu
    have h3 : (costR p ts[k]).1 = metR p u.2.2.Depot u.2.1 := by unfold costR; rw [hu]
    rw [take_succ' hx]
    unfold costs at h1 ⊢
    rw [sumBy_append]
    have h4 : sumBy (fun t => (costR p t).1) [ts[k]] = (costR p ts[k]).1 := by simp [sumBy]
    rw [h4]
    omega
theorem plan_l1 {F : Nat} (hF : 40000 ≤ F) {p : Pr} (hp : OkP p) (x : T_api_Plan) (hn : x.Tours.length ≤ 30) :
    iter (tour_plan_l1 F p x) (((x.Tours.length : Nat) : Int).toNat + 1) (0, 0) = some (firstI (fun k t => (badT p x.Tours k t).map fun c => .inr (0, c)) (.inl (costs p x.Tours)) 0 x.Tours) := by
  have := iter_stI (body := tour_plan_l1 F p x) x.Tours (fun k => costs p (x.Tours.take k)) (fun m k => (m, k)) (fun k t => (badT p x.Tours k t).map fun c => .inr (0, c)) (.inl (costs p x.Tours)) (by omega) (fun k t ht hno => ?_) (fun _ => by simp [tour_plan_l1, oun]) (((x.Tours.length : Nat) : Int).toNat + 1) (by simp)
  · exact this
  · have hk := lt_of_get ht
    have hk2 : ((k : Int) < (x.Tours.length : Nat)) := by omega
    have hb := costs_take hp k (Nat.le_of_lt hk) (fun j y hj hy => by
      have := hno j y hj hy
      cases h : badT p x.Tours j y with
      | none => rfl
      | some c => rw [h] at this; cases this)
    simp only [tour_plan_l1, oun, hk2, decide_true, cond_true, getI_nat, ht, Option.bind_some, subO_take (Nat.le_of_lt hk)]
    rw [tour_contains _ (by simp; omega)]
    simp only [Option.bind_some]
    unfold badT
    cases (x.Tours.take k).any (fun u => decide (u.Vehicle = t.Vehicle)) with
    | true => rfl
    | false =>
      simp only [cond_false]
      have hfo := pro_follow hF hp t
      cases hr : tourR p t with
      | inr q =>
        rw [hr] at hfo
        simp only [hfo, Option.bind_some]
        rw [show decide (q.1 = 0) = false by simpa using tourR_err hr]
        rfl
      | inl u =>
        rw [hr] at hfo
        obtain ⟨w, h1, _, h3⟩ := hfo
        have h2 := cost_bound hp hr
        have h4 : (costR p t).1 = metR p u.2.2.Depot u.2.1 := by unfold costR; rw [hr]
        simp only [h1, Option.bind_some, decide_true, Bool.not_true, cond_false, h3, Option.map_none, pickO]
        rw [w64_eq (n := costs p (x.Tours.take k) + metR p u.2.2.Depot u.2.1) (by omega) (by omega), take_succ' ht]
        unfold costs
        rw [sumBy_append]
        have h5 : sumBy (fun t => (costR p t).1) [t] = (costR p t).1 := by simp [sumBy]
        rw [h5, h4]
theorem feas_l2 {p : Pr} (hp : OkP p) (hc : recyclingref22_Check p = some 0) (x : T_api_Plan) (hn : x.Tours.length ≤ 30) :
    iter (recyclingref22_Feasible_l2 p x) (((x.Tours.length : Nat) : Int).toNat + 1) 0 = some (firstI (fun k t => (badT p x.Tours k t).map fun c => .inr c) (.inl ()) 0 x.Tours) := by
  refine iter_firstI (body := recyclingref22_Feasible_l2 p x) x.Tours (fun k t => (badT p x.Tours k t).map fun c => .inr c) (.inl ()) (by omega) (fun k t ht => ?_) (by simp [recyclingref22_Feasible_l2]) (((x.Tours.length : Nat) : Int).toNat + 1) (by simp)
  have hk := lt_of_get ht
  have hk2 : ((k : Int) < (x.Tours.length : Nat)) := by omega
  have hin := iter_firstI (body := recyclingref22_Feasible_l1 x (k : Int) t) (x.Tours.take k) (fun _ u => bif decide (u.Vehicle = t.Vehicle) then some (.inr 6) else none) (.inl () : Unit ⊕ Int) (by simp; omega) (fun j u hu => by
    have hj := lt_of_get hu
    rw [length_take' (Nat.le_of_lt hk)] at hj
    rw [List.getElem?_take, if_pos hj] at hu
    have hj2 : ((j : Int) < (k : Int)) := by omega
    simp only [recyclingref22_Feasible_l1, hj2, decide_true, cond_true, getI_nat, hu, Option.bind_some]
    cases decide (u.Vehicle = t.Vehicle) <;> rfl) (by rw [length_take' (Nat.le_of_lt hk)]; simp [recyclingref22_Feasible_l1]) ((k : Int).toNat + 1) (by rw [length_take' (Nat.le_of_lt hk)]; omega)
  rw [anyF] at hin
  simp only [recyclingref22_Feasible_l2, hk2, decide_true, cond_true, getI_nat, ht, Option.bind_some]
  rw [hin]
  unfold badT
  cases (x.Tours.take k).any (fun u => decide (u.Vehicle = t.Vehicle)) with
  | true => rfl
  | false =>
    simp only [cond_false, Option.bind_some, osum, ref_Walk hp hc]
    unfold walkR
    cases hr : tourR p t with
    | inr q =>
      simp only [oun]
      rw [show decide (q.1 = 0) = false by simpa using tourR_err hr]
      rfl
    | inl u => rfl
end Go.Proofs.YthpgjbbjpfiniaaGreat
