/- The plain laws of Insert: the options. -/
import Derived.Test.YtfekfbcghnlohaaWa
namespace Go.Proofs.Ytfekfbcghnlohaa
open Go.RowKit
set_option linter.unusedSimpArgs false
set_option linter.unusedVariables false

abbrev ocost : Op → Int := T_insert_option.cost
abbrev otour : Op → T_api_Tour := T_insert_option.tour
theorem costR_bound {p : Pr} (hp : OkP p) (t : T_api_Tour) : 0 ≤ (costR p t).1 ∧ (costR p t).1 ≤ 262400000 := by
  unfold costR
  cases h : tourR p t with
  | inr q => simp
  | inl u =>
    have := cost_bound hp h
    exact ⟨this.1, this.2.1⟩
/-- The tours that can be driven, with what they cost. -/
def opOf (p : Pr) (t : T_api_Tour) : Option Op := if (costR p t).2 = 0 then some ⟨t, (costR p t).1⟩ else none
def feas (p : Pr) (ts : List T_api_Tour) : List Op := ts.filterMap (opOf p)
theorem feas_snoc (p : Pr) (ts : List T_api_Tour) (t : T_api_Tour) : feas p (ts ++ [t]) = feas p ts ++ (opOf p t).toList := by
  unfold feas
  rw [List.filterMap_append]
  cases h : opOf p t <;> simp [h]
theorem feas_len (p : Pr) (ts : List T_api_Tour) : (feas p ts).length ≤ ts.length := List.length_filterMap_le _ _
theorem feas_mem {p : Pr} {ts : List T_api_Tour} {x : Op} (h : x ∈ feas p ts) : x.tour ∈ ts ∧ (costR p x.tour).2 = 0 ∧ x.cost = (costR p x.tour).1 := by
  obtain ⟨t, h1, h2⟩ := List.mem_filterMap.1 h
  unfold opOf at h2
  split at h2
  · injection h2 with h2; subst h2
    exact ⟨h1, by assumption, rfl⟩
  · cases h2
theorem feas_cost {p : Pr} (hp : OkP p) {ts : List T_api_Tour} : ∀ x ∈ feas p ts, 0 ≤ x.cost ∧ x.cost ≤ 1000000000 := fun x hx => by
  have h1 := (feas_mem hx).2.2
  have h2 := costR_bound hp x.tour
  omega
/-- The program's loop over the candidates. -/
theorem opts_loop {F : Nat} (hF : 40000 ≤ F) {p : Pr} (hp : OkP p) (hc : recyclingref22_Check p = some 0) (hn : p.Road.Edges.length ≤ 600) (L : List T_api_Tour) (hl : L.length ≤ 1000) :
    iter (insert_options_l1 F p L) (((L.length : Nat) : Int).toNat + 1) ([], 0) = some (feas p L) := by
  have := iter_stI (body := insert_options_l1 F p L) L (fun k => feas p (L.take k)) (fun m k => (m, k)) (fun _ _ => none) (feas p L) (by omega) (fun k t ht _ => ?_) (fun _ => by simp only [insert_options_l1, oun, List.take_length]; simp) (((L.length : Nat) : Int).toNat + 1) (by simp)
  · rw [firstI_none _ _ (fun _ _ _ => rfl)] at this
    exact this
  · have hk := lt_of_get ht
    have hk2 : ((k : Int) < (L.length : Nat)) := by omega
    have h1 := feas_len p (L.take k)
    rw [length_take' (Nat.le_of_lt hk)] at h1
    simp only [insert_options_l1, oun, hk2, decide_true, cond_true, getI_nat, ht, Option.bind_some, Cost_eq hF hp hc hn, pickO]
    rw [take_succ' ht, feas_snoc]
    unfold opOf
    by_cases h : (costR p t).2 = 0
    · rw [if_pos h]
      simp only [h, decide_true, cond_true]
      rw [appO_eq (by simp; omega)]
      rfl
    · rw [if_neg h]
      simp only [h, decide_false, cond_false, Option.bind_some, Option.toList_none, List.append_nil]
/-- Where the reference puts an option: behind its equals. -/
theorem place_loop (c : Int) : ∀ (n : Nat) (Z R : List Op) (f : Nat), Z.length = n → n < f → n ≤ 100000 → Srt ocost Z →
    ∃ Z1 Z2, Z = Z1 ++ Z2 ∧ iter (recyclingref23_Options_l2 ((Z ++ R).map ocost) c) f (n : Int) = some ((Z1.length : Nat) : Int) ∧ (∀ z ∈ Z1, z.cost ≤ c) ∧ ∀ z ∈ Z2, c < z.cost
  | _, _, _, 0, _, h, _, _ => by omega
  | 0, Z, R, f + 1, hZ, _, _, _ => by
    have : Z = [] := List.eq_nil_of_length_eq_zero hZ
    subst this
    exact ⟨[], [], rfl, by simp [iter, recyclingref23_Options_l2, osum], by simp, by simp⟩
  | n + 1, Z, R, f + 1, hZ, hf, hb, hs => by
    obtain ⟨Y, y, rfl⟩ : ∃ Y y, Z = Y ++ [y] := by
      have : Z ≠ [] := by intro e; rw [e] at hZ; simp at hZ
      exact ⟨Z.dropLast, Z.getLast this, (List.dropLast_concat_getLast this).symm⟩
    have hY : Y.length = n := by simpa using hZ
    have h0 : (0 : Int) < ((n + 1 : Nat) : Int) := by omega
    have e1 : w64 (((n + 1 : Nat) : Int) - 1) = (n : Int) := by rw [w64_eq (by omega) (by omega)]; omega
    have g1 : ((Y ++ [y] ++ R).map ocost)[n]? = some y.cost := by
      rw [List.getElem?_map, List.append_assoc, List.getElem?_append_right (by omega), hY]
      simp
    have hp := List.pairwise_append.1 hs
    by_cases h : c < y.cost
    · obtain ⟨Z1, Z2, k1, k2, k3, k4⟩ := place_loop c n Y (y :: R) f hY (by omega) (by omega) hp.1
      refine ⟨Z1, Z2 ++ [y], by rw [k1]; simp, ?_, k3, fun z hz => ?_⟩
      · have e2 : Y ++ [y] ++ R = Y ++ y :: R := by simp
        rw [e2] at g1 ⊢
        simp only [iter, recyclingref23_Options_l2, h0, decide_true, cond_true, e1, getI_nat, g1, Option.bind_some, h, osum, k2]
      · rcases List.mem_append.1 hz with hz | hz
        · exact k4 z hz
        · rw [List.mem_singleton.1 hz]; exact h
    · refine ⟨Y ++ [y], [], by simp, ?_, fun z hz => ?_, by simp⟩
      · simp only [iter, recyclingref23_Options_l2, h0, decide_true, cond_true, e1, getI_nat, g1, Option.bind_some, h, decide_false, cond_false, osum]
        rw [hZ]
      · rcases List.mem_append.1 hz with hz | hz
        · have := hp.2.2 z hz y (by simp)
          simp only [ocost] at this
          omega
        · rw [List.mem_singleton.1 hz]; omega
theorem map_ins (f : Op → Int) (g : Op → T_api_Tour) (Z1 Z2 : List Op) (x : Op) (hl : (Z1 ++ Z2).length ≤ 100000) : (Option.bind (subO ((Z1 ++ Z2).map g) 0 ((Z1.length : Nat) : Int)) fun l1 =>
            Option.bind (appO [] l1) fun l2 =>
            Option.bind (appO l2 [g x]) fun l3 =>
            Option.bind (subO ((Z1 ++ Z2).map g) ((Z1.length : Nat) : Int) ((((Z1 ++ Z2).map g).length : Nat) : Int)) fun l4 =>
            Option.bind (appO l3 l4) fun l5 =>
            Option.bind (subO ((Z1 ++ Z2).map f) 0 ((Z1.length : Nat) : Int)) fun l6 =>
            Option.bind (appO [] l6) fun l7 =>
            Option.bind (appO l7 [f x]) fun l8 =>
            Option.bind (subO ((Z1 ++ Z2).map f) ((Z1.length : Nat) : Int) ((((Z1 ++ Z2).map f).length : Nat) : Int)) fun l9 =>
            Option.bind (appO l8 l9) fun l10 =>
            some (l5, l10)) = some ((Z1 ++ x :: Z2).map g, (Z1 ++ x :: Z2).map f) := by
  simp only [List.length_append] at hl
  rw [subO_take (by simp), subO_drop (by simp), subO_take (by simp), subO_drop (by simp)]
  simp only [Option.bind_some]
  rw [appO_eq (by simp; omega)]
  simp only [Option.bind_some]
  rw [appO_eq (by simp; omega)]
  simp only [Option.bind_some]
  rw [appO_eq (by simp; omega)]
  simp only [Option.bind_some]
  rw [appO_eq (by simp; omega)]
  simp only [Option.bind_some]
  rw [appO_eq (by simp; omega)]
  simp only [Option.bind_some]
  rw [appO_eq (by simp; omega)]
  simp [List.map_append]
/-- The reference's loop. -/
theorem ref_opts {F : Nat} (hF : 40000 ≤ F) {p : Pr} (hp : OkP p) (hc : recyclingref22_Check p = some 0) {t : T_api_Tour} {d : Int} (hs : t.Stops.length ≤ 1000) : ∀ (r i : Nat) (L : List Op) (f : Nat), i + r = 2 * t.Stops.length + 1 → r < f → Srt ocost L → Stab ocost (feas p (firstC t d i)) L →
    ∃ L', iter (recyclingref23_Options_l3 F p t d) f (L.map otour, L.map ocost, (i : Int)) = some (L'.map otour) ∧ Srt ocost L' ∧ Stab ocost (feas p ((cands t.Stops d).map (toT t.Vehicle))) L'
  | _, _, _, 0, _, h, _, _ => by omega
  | 0, i, L, f + 1, hi, _, h1, h2 => by
    have e1 : w64 (2 * ((t.Stops.length : Nat) : Int)) = ((2 * t.Stops.length : Nat) : Int) := by rw [w64_eq (by omega) (by omega)]; omega
    have : ¬ ((i : Int) ≤ ((2 * t.Stops.length : Nat) : Int)) := by omega
    refine ⟨L, ?_, h1, ?_⟩
    · simp only [iter, recyclingref23_Options_l3, oun, e1, this, decide_false, cond_false, Option.bind_some, osum]
    · have e2 : firstC t d i = (cands t.Stops d).map (toT t.Vehicle) := by
        unfold firstC cands
        rw [show min i (2 * t.Stops.length + 1) = 2 * t.Stops.length + 1 by omega]
      rw [← e2]; exact h2
  | r + 1, i, L, f + 1, hi, hf, h1, h2 => by
    have e1 : w64 (2 * ((t.Stops.length : Nat) : Int)) = ((2 * t.Stops.length : Nat) : Int) := by rw [w64_eq (by omega) (by omega)]; omega
    have hlt : ((i : Int) ≤ ((2 * t.Stops.length : Nat) : Int)) := by omega
    have e2 : w64 ((i : Int) + 1) = ((i + 1 : Nat) : Int) := by rw [w64_eq (by omega) (by omega)]; omega
    have e3 : w64 (Int.tdiv (i : Int) 2) = ((i / 2 : Nat) : Int) := by
      rw [show Int.tdiv (i : Int) 2 = ((i / 2 : Nat) : Int) from rfl, w64_eq (by omega) (by omega)]
    have e4 : (decide (Int.tmod (i : Int) 2 = 1)) = decide (i % 2 = 1) := by
      rw [show Int.tmod (i : Int) 2 = ((i % 2 : Nat) : Int) from rfl]
      congr 1
      exact propext (by omega)
    have hcand : recyclingref23_candidate t.Stops d ((i / 2 : Nat) : Int) (decide (i % 2 = 1)) = some (candAt t.Stops d i) := candidate_eq (by omega) hs
    have hcost := ref_Cost hp hc ⟨t.Vehicle, candAt t.Stops d i⟩
    have hfs := firstC_succ t d (j := i) (by omega)
    have hlen : L.length ≤ 2001 := by
      rw [← h2.perm.length_eq]
      refine Nat.le_trans (feas_len _ _) ?_
      rw [firstC_len]; omega
    by_cases h : (costR p ⟨t.Vehicle, candAt t.Stops d i⟩).2 = 0
    · have hop : opOf p ⟨t.Vehicle, candAt t.Stops d i⟩ = some ⟨⟨t.Vehicle, candAt t.Stops d i⟩, (costR p ⟨t.Vehicle, candAt t.Stops d i⟩).1⟩ := by unfold opOf; rw [if_pos h]
      generalize hx : (⟨⟨t.Vehicle, candAt t.Stops d i⟩, (costR p ⟨t.Vehicle, candAt t.Stops d i⟩).1⟩ : Op) = x at hop
      obtain ⟨Z1, Z2, k1, k2, k3, k4⟩ := place_loop (costR p ⟨t.Vehicle, candAt t.Stops d i⟩).1 L.length L [] F rfl (by omega) (by omega) h1
      have hxc : x.cost = (costR p ⟨t.Vehicle, candAt t.Stops d i⟩).1 := by rw [← hx]
      rw [List.append_nil] at k2
      obtain ⟨j1, j2⟩ := ins_stab (k := ocost) (x := x) (by rw [← k1]; exact h1) (fun z hz => by have := k4 z hz; simp only [ocost]; omega) (fun z hz => by have := k3 z hz; simp only [ocost]; omega)
      rw [← k1] at j2
      have h3 : Stab ocost (feas p (firstC t d (i + 1))) (Z1 ++ x :: Z2) := by
        rw [hfs, feas_snoc, hop]
        exact Stab.trans (h2.append (Stab.refl _)) j2
      obtain ⟨L', q1, q2, q3⟩ := ref_opts hF hp hc hs r (i + 1) (Z1 ++ x :: Z2) f (by omega) (by omega) j1 h3
      refine ⟨L', ?_, q2, q3⟩
      have hmi := map_ins ocost otour Z1 Z2 x (by rw [← k1]; omega)
      rw [← k1] at hmi
      have hx1 : otour x = ⟨t.Vehicle, candAt t.Stops d i⟩ := by rw [← hx]
      have hx2 : ocost x = (costR p ⟨t.Vehicle, candAt t.Stops d i⟩).1 := hxc
      rw [hx1, hx2] at hmi
      simp only [iter, recyclingref23_Options_l3, oun, e1, hlt, decide_true, cond_true, e3, e4, hcand, Option.bind_some, hcost, h, Bool.not_true, cond_false, List.length_map, k2]
      rw [List.length_map, List.length_map] at hmi
      rw [hmi]
      simp only [Option.bind_some, e2, osum, q1]
    · have hop : opOf p ⟨t.Vehicle, candAt t.Stops d i⟩ = none := by unfold opOf; rw [if_neg h]
      obtain ⟨L', q1, q2, q3⟩ := ref_opts hF hp hc hs r (i + 1) L f (by omega) (by omega) h1 (by rw [hfs, feas_snoc, hop]; simpa using h2)
      refine ⟨L', ?_, q2, q3⟩
      simp only [iter, recyclingref23_Options_l3, oun, e1, hlt, decide_true, cond_true, e3, e4, hcand, Option.bind_some, hcost, h, decide_false, Bool.not_false, e2, osum, q1]
end Go.Proofs.Ytfekfbcghnlohaa
