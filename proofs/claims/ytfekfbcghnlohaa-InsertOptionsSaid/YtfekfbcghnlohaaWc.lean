/- The plain laws of Insert: the options of a tour, both ways; InsertOptions. -/
import Derived.Test.YtfekfbcghnlohaaWb
namespace Go.Proofs.Ytfekfbcghnlohaa
open Go.RowKit
set_option linter.unusedSimpArgs false
set_option linter.unusedVariables false

theorem finU_len (l : List Int) : l.length ≤ (finU l).length := by unfold finU; split <;> simp
theorem candAt_len {s : List Int} {d : Int} {i : Nat} (h : i < 2 * s.length + 1) : s.length + 1 ≤ (candAt s d i).length := by
  unfold candAt candR
  refine Nat.le_trans ?_ (finU_len _)
  simp; omega
theorem costR_long {p : Pr} {t : T_api_Tour} (h : 40 < t.Stops.length) : (costR p t).2 ≠ 0 := by
  unfold costR tourR
  split
  · rename_i z hz
    split at hz
    · cases hz
    · first | rw [if_pos h] at hz | skip
      cases hz
  · rename_i q hq
    split at hq
    · injection hq with hq; subst hq; decide
    · first | rw [if_pos h] at hq | skip
      injection hq with hq; subst hq; decide
theorem feas_long {p : Pr} {t : T_api_Tour} {d : Int} (h : 40 ≤ t.Stops.length) : feas p ((cands t.Stops d).map (toT t.Vehicle)) = [] := by
  unfold feas
  rw [List.filterMap_eq_nil_iff]
  intro u hu
  obtain ⟨s, h1, rfl⟩ := List.mem_map.1 hu
  obtain ⟨i, h2, rfl⟩ := List.mem_map.1 h1
  have := candAt_len (s := t.Stops) (d := d) (List.mem_range.1 h2)
  unfold opOf
  rw [if_neg]
  exact costR_long (by simp only [toT]; omega)
/-- What the options of a tour are. -/
structure OkO (p : Pr) (t : T_api_Tour) (d : Int) (L : List Op) : Prop where
  chk : recyclingref22_Check p = some 0
  ok : OkP p
  v0 : 0 ≤ t.Vehicle
  v1 : t.Vehicle < ((p.Vehicles.length : Nat) : Int)
  d0 : 0 ≤ d
  d1 : d < ((p.Demands.length : Nat) : Int)
  new : d ∉ t.Stops
  srt : Srt ocost L
  stab : Stab ocost (feas p ((cands t.Stops d).map (toT t.Vehicle))) L
theorem refO_l1 {t : T_api_Tour} {d : Int} (hs : t.Stops.length ≤ 1000) : iter (recyclingref23_Options_l1 t d) (((t.Stops.length : Nat) : Int).toNat + 1) 0 = some (bif decide (d ∈ t.Stops) then .inr ([], 6) else .inl ()) := by
  have := iter_firstI (body := recyclingref23_Options_l1 t d) t.Stops (fun k y => bif decide (y = d) then some (.inr ([], 6)) else none) (.inl () : Unit ⊕ (List T_api_Tour × Int)) (by omega) (fun k y hy => ?_) (by simp [recyclingref23_Options_l1]) (((t.Stops.length : Nat) : Int).toNat + 1) (by simp)
  · rw [this, anyF]
    have : (t.Stops.any fun y => decide (y = d)) = decide (d ∈ t.Stops) := by
      rw [Bool.eq_iff_iff]
      simp only [List.any_eq_true, decide_eq_true_eq]
      exact ⟨fun ⟨y, h1, h2⟩ => h2 ▸ h1, fun h => ⟨d, h, rfl⟩⟩
    rw [this]
  · have hk := lt_of_get hy
    have hk2 : ((k : Int) < (t.Stops.length : Nat)) := by omega
    simp only [recyclingref23_Options_l1, hk2, decide_true, cond_true, getI_nat, hy, Option.bind_some]
    cases decide (y = d) <;> rfl
/-- Does the call ask for a vehicle or a demand that is none? -/
def badI (p : Pr) (t : T_api_Tour) (d : Int) : Bool := decide (t.Vehicle < 0) || (decide (((p.Vehicles.length : Nat) : Int) ≤ t.Vehicle) || (decide (d < 0) || decide (((p.Demands.length : Nat) : Int) ≤ d)))
theorem options_both {F : Nat} (hF : 40000 ≤ F) (p : Pr) (hn : p.Road.Edges.length ≤ 600) (t : T_api_Tour) (hs : t.Stops.length ≤ 1000) (d : Int) :
    ∃ L e, insert_options F p t d = some (L, e) ∧ recyclingref23_Options F p t d = some (L.map otour, e) ∧ ((e ≠ 0 ∧ L = []) ∨ (e = 0 ∧ OkO p t d L)) ∧ (recyclingref22_Check p = some 0 → badI p t d = false → e = bif decide (d ∈ t.Stops) then 6 else 0) := by
  unfold insert_options recyclingref23_Options
  rw [tour_Check_eq (by omega) p hn]
  rcases Check_cases p hn with ⟨h1, h2⟩ | ⟨e, h1, h2⟩
  · rw [h1]
    simp only [Option.bind_some, decide_true, Bool.not_true, cond_false, or_some]
    have hb : (decide (t.Vehicle < 0) || (decide (((p.Vehicles.length : Nat) : Int) ≤ t.Vehicle) || (decide (d < 0) || decide (((p.Demands.length : Nat) : Int) ≤ d)))) = badI p t d := rfl
    rw [hb]
    cases hbi : badI p t d with
    | true => exact ⟨[], 7, rfl, rfl, .inl ⟨by decide, rfl⟩, fun _ h => by cases h⟩
    | false =>
      simp only [cond_false, contains_eq _ hs, Option.bind_some, refO_l1 hs]
      unfold badI at hbi
      simp only [Bool.or_eq_false_iff, decide_eq_false_iff_not] at hbi
      by_cases hd : d ∈ t.Stops
      · simp only [hd, decide_true, cond_true, osum]
        exact ⟨[], 6, rfl, rfl, .inl ⟨by decide, rfl⟩, fun _ _ => rfl⟩
      · simp only [hd, decide_false, cond_false, osum]
        obtain ⟨L', q1, q2, q3⟩ := ref_opts hF h2 h1 hs (2 * t.Stops.length + 1) 0 [] F (t := t) (d := d) (by omega) (by omega) List.Pairwise.nil (by simp [firstC, feas]; exact Stab.refl _)
        simp only [List.map_nil] at q1
        rw [show ((0 : Nat) : Int) = 0 from rfl] at q1
        rw [q1]
        by_cases hl : 40 ≤ t.Stops.length
        · have hl' : (40 : Int) ≤ ((t.Stops.length : Nat) : Int) := by omega
          have : L' = [] := by rw [feas_long hl] at q3; exact (q3.perm.symm.eq_nil)
          subst this
          exact ⟨[], 0, by simp only [hl', decide_true, cond_true], rfl, .inr ⟨rfl, h1, h2, by omega, by omega, by omega, by omega, hd, q2, q3⟩, fun _ _ => rfl⟩
        · have hl' : ¬ (40 : Int) ≤ ((t.Stops.length : Nat) : Int) := by omega
          have hcl : ((cands t.Stops d).map (toT t.Vehicle)).length ≤ 1000 := by simp [cands]; omega
          obtain ⟨L2, j1, j2, j3⟩ := opt_sorted (F := F) (L := feas p ((cands t.Stops d).map (toT t.Vehicle))) (Nat.le_trans (feas_len _ _) hcl) hF (feas_cost h2)
          have : L2 = L' := j2.unique q2 (j3.symm.trans q3)
          subst this
          refine ⟨L2, 0, ?_, rfl, .inr ⟨rfl, h1, h2, by omega, by omega, by omega, by omega, hd, q2, q3⟩, fun _ _ => rfl⟩
          simp only [hl', decide_false, cond_false, candidates_eq hs hF, Option.bind_some, opts_loop hF h2 h1 hn _ hcl, j1]
  · rw [h2]
    simp only [Option.bind_some]
    rw [show decide (e = 0) = false by simpa using h1]
    exact ⟨[], e, rfl, rfl, .inl ⟨h1, rfl⟩, fun h => by injection h with h; exact absurd h h1⟩
theorem Options_l1 (L : List Op) (hl : L.length ≤ 10000) : iter (insert_Options_l1 L) (((L.length : Nat) : Int).toNat + 1) ([], 0) = some (L.map otour) := by
  have := iter_stI (body := insert_Options_l1 L) L (fun k => (L.take k).map otour) (fun m k => (m, k)) (fun _ _ => none) (L.map otour) (by omega) (fun k x hx _ => ?_) (fun _ => by simp only [insert_Options_l1, oun, List.take_length]; simp) (((L.length : Nat) : Int).toNat + 1) (by simp)
  · rw [firstI_none _ _ (fun _ _ _ => rfl)] at this
    exact this
  · have hk := lt_of_get hx
    have hk2 : ((k : Int) < (L.length : Nat)) := by omega
    simp only [insert_Options_l1, oun, hk2, decide_true, cond_true, getI_nat, hx, Option.bind_some, pickO]
    rw [appO_eq (by simp; omega), take_succ' hx]
    simp
theorem OkO.len {p : Pr} {t : T_api_Tour} {d : Int} {L : List Op} (h : OkO p t d L) (hs : t.Stops.length ≤ 1000) : L.length ≤ 2001 := by
  rw [← h.stab.perm.length_eq]
  refine Nat.le_trans (feas_len _ _) ?_
  simp [cands]; omega
theorem Options_eq {F : Nat} (hF : 40000 ≤ F) (p : Pr) (hn : p.Road.Edges.length ≤ 600) (t : T_api_Tour) (hs : t.Stops.length ≤ 1000) (d : Int) :
    insert_Options F p t d = recyclingref23_Options F p t d ∧ insert_Best F p t d = recyclingref23_Best F p t d := by
  obtain ⟨L, e, h1, h2, h3, _⟩ := options_both hF p hn t hs d
  have hl : L.length ≤ 2001 := by
    rcases h3 with ⟨_, rfl⟩ | ⟨_, h3⟩
    · simp
    · exact h3.len hs
  constructor
  · unfold insert_Options
    rw [h1, h2]
    simp only [Option.bind_some, oun, Options_l1 L (by omega)]
  · unfold insert_Best recyclingref23_Best
    rw [h1, h2]
    simp only [Option.bind_some, oun, List.length_map]
    cases decide (e = 0) with
    | false => rfl
    | true =>
      simp only [Bool.not_true, cond_false]
      by_cases h0 : L = []
      · subst h0; rfl
      · obtain ⟨x, M, rfl⟩ := List.exists_cons_of_ne_nil h0
        have : ¬ ((((x :: M).length : Nat) : Int) = 0) := by simp; omega
        simp only [this, decide_false, cond_false, List.map_cons]
        rfl
/-- The options of a call that asks for nothing wrong. -/
theorem options_det {F : Nat} (hF : 40000 ≤ F) {p : Pr} (hn : p.Road.Edges.length ≤ 600) {t : T_api_Tour} (hs : t.Stops.length ≤ 1000) {d : Int} (hc : recyclingref22_Check p = some 0) (hb : badI p t d = false) (hd : d ∉ t.Stops) :
    ∃ L, insert_options F p t d = some (L, 0) ∧ OkO p t d L := by
  obtain ⟨L, e, h1, h2, h3, h4⟩ := options_both hF p hn t hs d
  have := h4 hc hb
  rw [show decide (d ∈ t.Stops) = false by simpa using hd] at this
  have he : e = 0 := this
  subst he
  rcases h3 with ⟨h, _⟩ | ⟨_, h3⟩
  · exact absurd rfl h
  · exact ⟨L, h1, h3⟩
theorem Options_at {F : Nat} {p : Pr} {t : T_api_Tour} {d e : Int} {L : List Op} (h : insert_options F p t d = some (L, e)) (hl : L.length ≤ 10000) : insert_Options F p t d = some (L.map otour, e) := by
  unfold insert_Options
  rw [h]
  simp only [Option.bind_some, oun, Options_l1 L hl]
/-! ### tours and lists that are the same -/
theorem Ints_self (a : List Int) (h : a.length ≤ 1000000) : recyclingref23_Ints a a = some true := by
  unfold recyclingref23_Ints
  have := iter_firstI (body := recyclingref23_Ints_l1 a a) a (fun _ _ => none) (.inl () : Unit ⊕ Bool) (by omega) (fun k y hy => ?_) (by simp [recyclingref23_Ints_l1]) (((a.length : Nat) : Int).toNat + 1) (by simp)
  · rw [this, firstI_none _ _ (fun _ _ _ => rfl)]
    simp [osum]
  · have hk := lt_of_get hy
    have hk2 : ((k : Int) < (a.length : Nat)) := by omega
    simp only [recyclingref23_Ints_l1, hk2, decide_true, cond_true, getI_nat, hy, Option.bind_some, Bool.not_true, cond_false, pickO]
theorem Tours_self (a : List T_api_Tour) (h : a.length ≤ 1000000) (h2 : ∀ x ∈ a, x.Stops.length ≤ 1000000) : recyclingref23_Same a a = some true := by
  unfold recyclingref23_Same
  have := iter_firstI (body := recyclingref23_Same_l1 a a) a (fun _ _ => none) (.inl () : Unit ⊕ Bool) (by omega) (fun k y hy => ?_) (by simp [recyclingref23_Same_l1]) (((a.length : Nat) : Int).toNat + 1) (by simp)
  · rw [this, firstI_none _ _ (fun _ _ _ => rfl)]
    simp [osum]
  · have hk := lt_of_get hy
    have hk2 : ((k : Int) < (a.length : Nat)) := by omega
    simp only [recyclingref23_Same_l1, hk2, decide_true, cond_true, getI_nat, hy, Option.bind_some, Bool.not_true, cond_false, pickO, Ints_self _ (h2 y (List.mem_of_getElem? hy))]
theorem light_some (p : Pr) (t : T_api_Tour) : ∃ b, recyclinglaw23_light p t = some b ∧ (b = true → p.Road.Edges.length ≤ 600 ∧ p.Vehicles.length ≤ 30 ∧ p.Demands.length ≤ 60 ∧ t.Stops.length ≤ 100) := by
  obtain ⟨⟨b, hb⟩, hl⟩ := Large_some p
  unfold recyclinglaw23_light
  rw [hb]
  cases b with
  | true => exact ⟨false, rfl, fun h => by cases h⟩
  | false =>
    obtain ⟨h1, h2, h3⟩ := hl hb
    refine ⟨_, rfl, fun h => ⟨h1, h2, h3, ?_⟩⟩
    have := of_decide_eq_true h
    omega
theorem feas_stops {p : Pr} {ts : List T_api_Tour} {x : Op} (h : x ∈ feas p ts) : x.tour.Stops.length ≤ 40 := by
  rcases Nat.lt_or_ge 40 x.tour.Stops.length with h1 | h1
  · exact absurd (feas_mem h).2.1 (costR_long h1)
  · exact h1
theorem OkO.stops {p : Pr} {t : T_api_Tour} {d : Int} {L : List Op} (h : OkO p t d L) : ∀ x ∈ L, x.tour.Stops.length ≤ 40 := fun x hx => feas_stops (h.stab.perm.symm.subset hx)
end Go.Proofs.Ytfekfbcghnlohaa
