/- DispatchReasons: for every input the given law returns true, and its arguments read as before. No condition. -/
import Derived.Test.YthpgjbbjpfiniaaGreatUr
import Derived.Test.YthpgjbbjpfiniaaGreatHc
import Derived.Test.YthpgjbbjpfiniaaGreatUs
import Derived.Test.YthpgjbbjpfiniaaGreatUn
import Derived.Test.YthpgjbbjpfiniaaGreatGs
import Derived.Test.YthpgjbbjpfiniaaGreatRows
import Derived.Test.YthpgjbbjpfiniaaGreatTaw14
import Derived.Test.YthpgjbbjpfiniaaGreatGo
namespace Go.Proofs.YthpgjbbjpfiniaaGreat
open Go.RowKit
set_option linter.unusedSimpArgs false
set_option linter.unusedVariables false
abbrev Op := T_insert_option
theorem opt_symB (rec_ : List Op → Int → Int → Int → Option (List Op)) (F : Nat) (d : List Op) (a m b : Int) : slices_symMergeCmpFunc_option_c85_b rec_ F d a m b = gSymB insert_options_1 rec_ F d a m b := rfl
theorem opt_sym : ∀ F : Nat, slices_symMergeCmpFunc_option_c85 F = gSym insert_options_1 F
  | 0 => rfl
  | F + 1 => by
    funext d a m b
    show slices_symMergeCmpFunc_option_c85_b (slices_symMergeCmpFunc_option_c85 F) F d a m b = gSymB insert_options_1 (gSym insert_options_1 F) F d a m b
    rw [opt_sym F]; exact opt_symB _ _ _ _ _ _
theorem opt_l2 (F : Nat) (n s : Int) : slices_stableCmpFunc_option_c85_l2 F n s = gStL2 insert_options_1 F n s := by
  funext j
  unfold slices_stableCmpFunc_option_c85_l2 gStL2
  rw [opt_sym]
theorem opt_l3 (F : Nat) (n : Int) : slices_stableCmpFunc_option_c85_l3 F n = gStL3 insert_options_1 F n := by
  funext j
  unfold slices_stableCmpFunc_option_c85_l3 gStL3
  simp only [opt_sym, opt_l2]
theorem opt_sort (F : Nat) (d : List Op) : slices_SortStableFunc_option_c85 F d = gSort insert_options_1 F d := by
  unfold slices_SortStableFunc_option_c85 gSort slices_stableCmpFunc_option_c85 gSt
  simp only [opt_l3]
  rfl
theorem opt_cmp (x y : Op) (hx : 0 ≤ x.cost ∧ x.cost ≤ 1000000000) (hy : 0 ≤ y.cost ∧ y.cost ≤ 1000000000) : ∃ z, insert_options_1 x y = some z ∧ (z < 0 ↔ x.cost < y.cost) :=
  ⟨x.cost - y.cost, by unfold insert_options_1; rw [w64_eq (by omega) (by omega)], by omega⟩
theorem opt_sorted {F : Nat} {L : List Op} (hn : L.length ≤ 1000) (hF : 40000 ≤ F) (hb : ∀ x ∈ L, 0 ≤ x.cost ∧ x.cost ≤ 1000000000) : ∃ L', slices_SortStableFunc_option_c85 F L = some L' ∧ Srt T_insert_option.cost L' ∧ Stab T_insert_option.cost L L' := by
  rw [opt_sort]
  exact gSort_eq opt_cmp (by omega) (by omega) hb
def finU (l : List Int) : List Int := if l.getLast? = some (-1) then l else l ++ [-1]
def candR (s : List Int) (d : Int) (k : Nat) (u : Bool) : List Int := finU (s.take k ++ (d :: (bif u then [-1] else [])) ++ s.drop k)
def candAt (s : List Int) (d : Int) (i : Nat) : List Int := candR s d (i / 2) (decide (i % 2 = 1))
def cands (s : List Int) (d : Int) : List (List Int) := (List.range (2 * s.length + 1)).map (candAt s d)
theorem subO_drop {α : Type} {l : List α} {k : Nat} (h : k ≤ l.length) : subO l (k : Int) ((l.length : Nat) : Int) = some (l.drop k) := by
  unfold subO
  rw [if_pos (by omega)]
  simp
theorem getI_last {α : Type} {l : List α} (h : l ≠ []) (hn : l.length ≤ 1000000) : getI l (w64 (((l.length : Nat) : Int) - 1)) = l.getLast? := by
  have : 0 < l.length := List.length_pos_iff.2 h
  have e : w64 (((l.length : Nat) : Int) - 1) = ((l.length - 1 : Nat) : Int) := by rw [w64_eq (by omega) (by omega)]; omega
  rw [e, getI_nat, List.getLast?_eq_getElem?]
theorem fin_eq {l : List Int} (h : l ≠ []) (hn : l.length ≤ 10000) : (Option.bind (getI l (w64 (((l.length : Nat) : Int) - 1))) fun x1 =>
    Option.bind (bif (!(decide (x1 = (-1)))) then Option.bind (appO l [(-1)]) fun l6 => some l6 else some l) (fun out1 => some out1)) = some (finU l) := by
  rw [getI_last h (by omega), List.getLast?_eq_some_getLast h]
  unfold finU
  rw [List.getLast?_eq_some_getLast h]
  by_cases hx : l.getLast h = -1
  · simp [hx]
  · rw [if_neg (by simpa using hx)]
    simp only [Option.bind_some, hx, decide_false, Bool.not_false, cond_true]
    rw [appO_eq (by simp; omega)]
    rfl
theorem joined_eq {s m : List Int} {k : Nat} (hk : k ≤ s.length) (hs : s.length ≤ 1000) (hm : m ≠ []) (hm2 : m.length ≤ 2) : insert_joined s (k : Int) m = some (finU (s.take k ++ m ++ s.drop k)) := by
  have hm3 : 0 < m.length := List.length_pos_iff.2 hm
  unfold insert_joined
  rw [subO_take hk, subO_drop hk]
  simp only [Option.bind_some]
  rw [appO_eq (by simp; omega)]
  simp only [Option.bind_some]
  rw [appO_eq (by simp; omega)]
  simp only [Option.bind_some]
  rw [appO_eq (by simp; omega)]
  simp only [Option.bind_some, List.nil_append]
  exact fin_eq (by intro h; have := congrArg List.length h; simp only [List.length_append, List.length_nil] at this; omega) (by simp; omega)
theorem candidate_eq {s : List Int} {d : Int} {k : Nat} {u : Bool} (hk : k ≤ s.length) (hs : s.length ≤ 1000) : recyclingref23_candidate s d (k : Int) u = some (candR s d k u) := by
  unfold recyclingref23_candidate candR
  rw [subO_take hk, subO_drop hk]
  simp only [Option.bind_some]
  rw [appO_eq (by simp; omega)]
  simp only [Option.bind_some]
  rw [appO_eq (by simp; omega)]
  simp only [Option.bind_some, List.nil_append]
  have h1 : (bif u then Option.bind (appO (s.take k ++ [d]) [(-1)]) fun l4 => some l4 else some (s.take k ++ [d])) = some (s.take k ++ (d :: (bif u then [-1] else []))) := by
    cases u
    · simp
    · rw [cond_true, appO_eq (by simp; omega)]; simp
  have hl : (bif u then [(-1 : Int)] else []).length ≤ 1 := by cases u <;> simp
  rw [h1]
  simp only [Option.bind_some]
  rw [appO_eq (by simp; omega)]
  simp only [Option.bind_some]
  exact fin_eq (by simp) (by simp; omega)
def toT (v : Int) (s : List Int) : T_api_Tour := ⟨v, s⟩
def firstC (t : T_api_Tour) (d : Int) (j : Nat) : List T_api_Tour := ((List.range (min j (2 * t.Stops.length + 1))).map (candAt t.Stops d)).map (toT t.Vehicle)
theorem firstC_len (t : T_api_Tour) (d : Int) (j : Nat) : (firstC t d j).length = min j (2 * t.Stops.length + 1) := by simp [firstC]
theorem firstC_succ (t : T_api_Tour) (d : Int) {j : Nat} (h : j < 2 * t.Stops.length + 1) : firstC t d (j + 1) = firstC t d j ++ [⟨t.Vehicle, candAt t.Stops d j⟩] := by
  unfold firstC
  rw [show min (j + 1) (2 * t.Stops.length + 1) = j + 1 by omega, show min j (2 * t.Stops.length + 1) = j by omega, List.range_succ, List.map_append, List.map_append]
  rfl
theorem candidates_loop {t : T_api_Tour} {d : Int} (hs : t.Stops.length ≤ 1000) : ∀ (r k f : Nat), k + r = t.Stops.length + 1 → r < f →
    iter (insert_candidates_l1 t d) f (firstC t d (2 * k), ((t.Stops.length + 1 : Nat) : Int), (k : Int)) = some ((cands t.Stops d).map (toT t.Vehicle))
  | _, _, 0, _, h => by omega
  | 0, k, f + 1, hk, _ => by
    have h1 : ¬ ((k : Int) < ((t.Stops.length + 1 : Nat) : Int)) := by omega
    simp only [iter, insert_candidates_l1, oun, h1, decide_false, cond_false, Option.bind_some, osum]
    unfold firstC cands
    rw [show min (2 * k) (2 * t.Stops.length + 1) = 2 * t.Stops.length + 1 by omega]
  | r + 1, k, f + 1, hk, hf => by
    have h1 : ((k : Int) < ((t.Stops.length + 1 : Nat) : Int)) := by omega
    have ih := candidates_loop (t := t) (d := d) hs r (k + 1) f (by omega) (by omega)
    have e1 : w64 ((k : Int) + 1) = ((k + 1 : Nat) : Int) := by rw [w64_eq (by omega) (by omega)]; omega
    have j1 : insert_joined t.Stops (k : Int) [d] = some (candAt t.Stops d (2 * k)) := by
      rw [joined_eq (by omega) hs (by simp) (by simp)]
      unfold candAt candR
      rw [show 2 * k / 2 = k by omega, show decide (2 * k % 2 = 1) = false by simp]
      rfl
    simp only [iter, insert_candidates_l1, oun, h1, decide_true, cond_true, j1, Option.bind_some, e1]
    rw [appO_eq (by rw [firstC_len]; simp; omega), Option.bind_some, ← firstC_succ t d (by omega)]
    by_cases h2 : k < t.Stops.length
    · have h2' : (k : Int) < ((t.Stops.length : Nat) : Int) := by omega
      have j2 : insert_joined t.Stops (k : Int) [d, -1] = some (candAt t.Stops d (2 * k + 1)) := by
        rw [joined_eq (by omega) hs (by simp) (by simp)]
        unfold candAt candR
        rw [show (2 * k + 1) / 2 = k by omega, show decide ((2 * k + 1) % 2 = 1) = true by simp]
        rfl
      simp only [h2', decide_true, cond_true, j2, Option.bind_some]
      rw [appO_eq (by rw [firstC_len]; simp; omega), Option.bind_some, ← firstC_succ t d (by omega)]
      simp only [Option.bind_some, osum]
      exact ih
    · have h2' : ¬ ((k : Int) < ((t.Stops.length : Nat) : Int)) := by omega
      have e2 : firstC t d (2 * k + 1) = firstC t d (2 * (k + 1)) := by
        unfold firstC
        rw [show min (2 * k + 1) (2 * t.Stops.length + 1) = min (2 * (k + 1)) (2 * t.Stops.length + 1) by omega]
      simp only [h2', decide_false, cond_false, Option.bind_some, osum]
      rw [e2]
      exact ih
theorem candidates_eq {F : Nat} {t : T_api_Tour} {d : Int} (hs : t.Stops.length ≤ 1000) (hF : 40000 ≤ F) : insert_candidates F t d = some ((cands t.Stops d).map (toT t.Vehicle)) := by
  have e1 : w64 (((t.Stops.length : Nat) : Int) + 1) = ((t.Stops.length + 1 : Nat) : Int) := by rw [w64_eq (by omega) (by omega)]; omega
  have := candidates_loop (t := t) (d := d) hs (t.Stops.length + 1) 0 F (by omega) (by omega)
  have e2 : firstC t d (2 * 0) = [] := by simp [firstC]
  rw [e2] at this
  unfold insert_candidates
  rw [e1, show (0 : Int) = ((0 : Nat) : Int) from rfl, this]
  rfl
end Go.Proofs.YthpgjbbjpfiniaaGreat

namespace Go.Proofs.YthpgjbbjpfiniaaGreat
open Go.RowKit
set_option linter.unusedSimpArgs false
set_option linter.unusedVariables false
abbrev ocost : Op → Int := T_insert_option.cost
abbrev otour : Op → T_api_Tour := T_insert_option.tour
theorem costR_bound {p : Pr} (hp : OkP p) (t : T_api_Tour) : 0 ≤ (costR p t).1 ∧ (costR p t).1 ≤ 262400000 := by
  unfold costR
  cases h : tourR p t with
  | inr q => simp
  | inl u =>
    have := cost_bound hp h
    exact ⟨this.1, this.2.1⟩
def opOf (p : Pr) (t : T_api_Tour) : Option Op := if (costR p t).2 = 0 then some ⟨t, (costR p t).1⟩ else none
def feas (p : Pr) (ts : List T_api_Tour) : List Op := ts.filterMap (opOf p)
theorem feas_snoc (p : Pr) (ts : List T_api_Tour) (t : T_api_Tour) : feas p (ts ++ [t]) = feas p ts ++ (opOf p t).toList := by
  unfold feas
  rw [List.filterMap_append]
  cases h : opOf p t <;> simp [h]
theorem feas_len (p : Pr) (ts : List T_api_Tour) : (feas p ts).length ≤ ts.length := List.length_filterMap_le _ _
theorem feas_mem {p : Pr} {ts : List T_api_Tour} {x : Op} (h : x ∈ feas p ts) : x.tour ∈ ts ∧ (costR p x.tour).2 = 0 ∧ x.cost = (costR p x.tour).1 := by
  obtain ⟨t, h1, h2⟩ := List.mem_filterMap.1 h
  unfold opOf at h2
  split at h2
  · injection h2 with h2; subst h2
    exact ⟨h1, by assumption, rfl⟩
  · cases h2
theorem feas_cost {p : Pr} (hp : OkP p) {ts : List T_api_Tour} : ∀ x ∈ feas p ts, 0 ≤ x.cost ∧ x.cost ≤ 1000000000 := fun x hx => by
  have h1 := (feas_mem hx).2.2
  have h2 := costR_bound hp x.tour
  omega
theorem opts_loop {F : Nat} (hF : 40000 ≤ F) {p : Pr} (hp : OkP p) (hc : recyclingref22_Check p = some 0) (hn : p.Road.Edges.length ≤ 600) (L : List T_api_Tour) (hl : L.length ≤ 1000) :
    iter (insert_options_l1 F p L) (((L.length : Nat) : Int).toNat + 1) ([], 0) = some (feas p L) := by
  have := iter_stI (body := insert_options_l1 F p L) L (fun k => feas p (L.take k)) (fun m k => (m, k)) (fun _ _ => none) (feas p L) (by omega) (fun k t ht _ => ?_) (fun _ => by simp only [insert_options_l1, oun, List.take_length]; simp) (((L.length : Nat) : Int).toNat + 1) (by simp)
  · rw [firstI_none _ _ (fun _ _ _ => rfl)] at this
    exact this
  · have hk := lt_of_get ht
    have hk2 : ((k : Int) < (L.length : Nat)) := by omega
    have h1 := feas_len p (L.take k)
    rw [length_take' (Nat.le_of_lt hk)] at h1
    simp only [insert_options_l1, oun, hk2, decide_true, cond_true, getI_nat, ht, Option.bind_some, Cost_eq hF hp hc hn, pickO]
    rw [take_succ' ht, feas_snoc]
    unfold opOf
    by_cases h : (costR p t).2 = 0
    · rw [if_pos h]
      simp only [h, decide_true, cond_true]
      rw [appO_eq (by simp; omega)]
      rfl
    · rw [if_neg h]
      simp only [h, decide_false, cond_false, Option.bind_some, Option.toList_none, List.append_nil]
theorem place_loop (c : Int) : ∀ (n : Nat) (Z R : List Op) (f : Nat), Z.length = n → n < f → n ≤ 100000 → Srt ocost Z →
    ∃ Z1 Z2, Z = Z1 ++ Z2 ∧ iter (recyclingref23_Options_l2 ((Z ++ R).map ocost) c) f (n : Int) = some ((Z1.length : Nat) : Int) ∧ (∀ z ∈ Z1, z.cost ≤ c) ∧ ∀ z ∈ Z2, c < z.cost
  | _, _, _, 0, _, h, _, _ => by omega
  | 0, Z, R, f + 1, hZ, _, _, _ => by
    have : Z = [] := List.eq_nil_of_length_eq_zero hZ
    subst this
    exact ⟨[], [], rfl, by simp [iter, recyclingref23_Options_l2, osum], by simp, by simp⟩
  | n + 1, Z, R, f + 1, hZ, hf, hb, hs => by
    obtain ⟨Y, y, rfl⟩ : ∃ Y y, Z = Y ++ [y] := by
      have : Z ≠ [] := by intro e; rw [e] at hZ; simp at hZ
      exact ⟨Z.dropLast, Z.getLast this, (List.dropLast_concat_getLast this).symm⟩
    have hY : Y.length = n := by simpa using hZ
    have h0 : (0 : Int) < ((n + 1 : Nat) : Int) := by omega
    have e1 : w64 (((n + 1 : Nat) : Int) - 1) = (n : Int) := by rw [w64_eq (by omega) (by omega)]; omega
    have g1 : ((Y ++ [y] ++ R).map ocost)[n]? = some y.cost := by
      rw [List.getElem?_map, List.append_assoc, List.getElem?_append_right (by omega), hY]
      simp
    have hp := List.pairwise_append.1 hs
    by_cases h : c < y.cost
    · obtain ⟨Z1, Z2, k1, k2, k3, k4⟩ := place_loop c n Y (y :: R) f hY (by omega) (by omega) hp.1
      refine ⟨Z1, Z2 ++ [y], by rw [k1]; simp, ?_, k3, fun z hz => ?_⟩
      · have e2 : Y ++ [y] ++ R = Y ++ y :: R := by simp
        rw [e2] at g1 ⊢
        simp only [iter, recyclingref23_Options_l2, h0, decide_true, cond_true, e1, getI_nat, g1, Option.bind_some, h, osum, k2]
      · rcases List.mem_append.1 hz with hz | hz
        · exact k4 z hz
        · rw [List.mem_singleton.1 hz]; exact h
    · refine ⟨Y ++ [y], [], by simp, ?_, fun z hz => ?_, by simp⟩
      · simp only [iter, recyclingref23_Options_l2, h0, decide_true, cond_true, e1, getI_nat, g1, Option.bind_some, h, decide_false, cond_false, osum]
        rw [hZ]
      · rcases List.mem_append.1 hz with hz | hz
        · have := hp.2.2 z hz y (by simp)
          simp only [ocost] at this
          omega
        · rw [List.mem_singleton.1 hz]; omega
theorem map_ins (f : Op → Int) (g : Op → T_api_Tour) (Z1 Z2 : List Op) (x : Op) (hl : (Z1 ++ Z2).length ≤ 100000) : (Option.bind (subO ((Z1 ++ Z2).map g) 0 ((Z1.length : Nat) : Int)) fun l1 =>
            Option.bind (appO [] l1) fun l2 =>
            Option.bind (appO l2 [g x]) fun l3 =>
            Option.bind (subO ((Z1 ++ Z2).map g) ((Z1.length : Nat) : Int) ((((Z1 ++ Z2).map g).length : Nat) : Int)) fun l4 =>
            Option.bind (appO l3 l4) fun l5 =>
            Option.bind (subO ((Z1 ++ Z2).map f) 0 ((Z1.length : Nat) : Int)) fun l6 =>
            Option.bind (appO [] l6) fun l7 =>
            Option.bind (appO l7 [f x]) fun l8 =>
            Option.bind (subO ((Z1 ++ Z2).map f) ((Z1.length : Nat) : Int) ((((Z1 ++ Z2).map f).length : Nat) : Int)) fun l9 =>
            Option.bind (appO l8 l9) fun l10 =>
            some (l5, l10)) = some ((Z1 ++ x :: Z2).map g, (Z1 ++ x :: Z2).map f) := by
  simp only [List.length_append] at hl
  rw [subO_take (by simp), subO_drop (by simp), subO_take (by simp), subO_drop (by simp)]
  simp only [Option.bind_some]
  rw [appO_eq (by simp; omega)]
  simp only [Option.bind_some]
  rw [appO_eq (by simp; omega)]
  simp only [Option.bind_some]
  rw [appO_eq (by simp; omega)]
  simp only [Option.bind_some]
  rw [appO_eq (by simp; omega)]
  simp only [Option.bind_some]
  rw [appO_eq (by simp; omega)]
  simp only [Option.bind_some]
  rw [appO_eq (by simp; omega)]
  simp [List.map_append]
theorem ref_opts {F : Nat} (hF : 40000 ≤ F) {p : Pr} (hp : OkP p) (hc : recyclingref22_Check p = some 0) {t : T_api_Tour} {d : Int} (hs : t.Stops.length ≤ 1000) : ∀ (r i : Nat) (L : List Op) (f : Nat), i + r = 2 * t.Stops.length + 1 → r < f → Srt ocost L → Stab ocost (feas p (firstC t d i)) L →
    ∃ L', iter (recyclingref23_Options_l3 F p t d) f (L.map otour, L.map ocost, (i : Int)) = some (L'.map otour) ∧ Srt ocost L' ∧ Stab ocost (feas p ((cands t.Stops d).map (toT t.Vehicle))) L'
  | _, _, _, 0, _, h, _, _ => by omega
  | 0, i, L, f + 1, hi, _, h1, h2 => by
    have e1 : w64 (2 * ((t.Stops.length : Nat) : Int)) = ((2 * t.Stops.length : Nat) : Int) := by rw [w64_eq (by omega) (by omega)]; omega
    have : ¬ ((i : Int) ≤ ((2 * t.Stops.length : Nat) : Int)) := by omega
    refine ⟨L, ?_, h1, ?_⟩
    · simp only [iter, recyclingref23_Options_l3, oun, e1, this, decide_false, cond_false, Option.bind_some, osum]
    · have e2 : firstC t d i = (cands t.Stops d).map (toT t.Vehicle) := by
        unfold firstC cands
        rw [show min i (2 * t.Stops.length + 1) = 2 * t.Stops.length + 1 by omega]
      rw [← e2]; exact h2
  | r + 1, i, L, f + 1, hi, hf, h1, h2 => by
    have e1 : w64 (2 * ((t.Stops.length : Nat) : Int)) = ((2 * t.Stops.length : Nat) : Int) := by rw [w64_eq (by omega) (by omega)]; omega
    have hlt : ((i : Int) ≤ ((2 * t.Stops.length : Nat) : Int)) := by omega
    have e2 : w64 ((i : Int) + 1) = ((i + 1 : Nat) : Int) := by rw [w64_eq (by omega) (by omega)]; omega
    have e3 : w64 (Int.tdiv (i : Int) 2) = ((i / 2 : Nat) : Int) := by
      rw [show Int.tdiv (i : Int) 2 = ((i / 2 : Nat) : Int) from rfl, w64_eq (by omega) (by omega)]
    have e4 : (decide (Int.tmod (i : Int) 2 = 1)) = decide (i % 2 = 1) := by
      rw [show Int.tmod (i : Int) 2 = ((i % 2 : Nat) : Int) from rfl]
      congr 1
      exact propext (by omega)
    have hcand : recyclingref23_candidate t.Stops d ((i / 2 : Nat) : Int) (decide (i % 2 = 1)) = some (candAt t.Stops d i) := candidate_eq (by omega) hs
    have hcost := ref_Cost hp hc ⟨t.Vehicle, candAt t.Stops d i⟩
    have hfs := firstC_succ t d (j := i) (by omega)
    have hlen : L.length ≤ 2001 := by
      rw [← h2.perm.length_eq]
      refine Nat.le_trans (feas_len _ _) ?_
      rw [firstC_len]; omega
    by_cases h : (costR p ⟨t.Vehicle, candAt t.Stops d i⟩).2 = 0
    · have hop : opOf p ⟨t.Vehicle, candAt t.Stops d i⟩ = some ⟨⟨t.Vehicle, candAt t.Stops d i⟩, (costR p ⟨t.Vehicle, candAt t.Stops d i⟩).1⟩ := by unfold opOf; rw [if_pos h]
      generalize hx : (⟨⟨t.Vehicle, candAt t.Stops d i⟩, (costR p ⟨t.Vehicle, candAt t.Stops d i⟩).1⟩ : Op) = x at hop
      obtain ⟨Z1, Z2, k1, k2, k3, k4⟩ := place_loop (costR p ⟨t.Vehicle, candAt t.Stops d i⟩).1 L.length L [] F rfl (by omega) (by omega) h1
      have hxc : x.cost = (costR p ⟨t.Vehicle, candAt t.Stops d i⟩).1 := by rw [← hx]
      rw [List.append_nil] at k2
      obtain ⟨j1, j2⟩ := ins_stab (k := ocost) (x := x) (by rw [← k1]; exact h1) (fun z hz => by have := k4 z hz; simp only [ocost]; omega) (fun z hz => by have := k3 z hz; simp only [ocost]; omega)
      rw [← k1] at j2
      have h3 : Stab ocost (feas p (firstC t d (i + 1))) (Z1 ++ x :: Z2) := by
        rw [hfs, feas_snoc, hop]
        exact Stab.trans (h2.append (Stab.refl _)) j2
      obtain ⟨L', q1, q2, q3⟩ := ref_opts hF hp hc hs r (i + 1) (Z1 ++ x :: Z2) f (by omega) (by omega) j1 h3
      refine ⟨L', ?_, q2, q3⟩
      have hmi := map_ins ocost otour Z1 Z2 x (by rw [← k1]; omega)
      rw [← k1] at hmi
      have hx1 : otour x = ⟨t.Vehicle, candAt t.Stops d i⟩ := by rw [← hx]
      have hx2 : ocost x = (costR p ⟨t.Vehicle, candAt t.Stops d i⟩).1 := hxc
      rw [hx1, hx2] at hmi
      simp only [iter, recyclingref23_Options_l3, oun, e1, hlt, decide_true, cond_true, e3, e4, hcand, Option.bind_some, hcost, h, Bool.not_true, cond_false, List.length_map, k2]
      rw [List.length_map, List.length_map] at hmi
      rw [hmi]
      simp only [Option.bind_some, e2, osum, q1]
    · have hop : opOf p ⟨t.Vehicle, candAt t.Stops d i⟩ = none := by unfold opOf; rw [if_neg h]
      obtain ⟨L', q1, q2, q3⟩ := ref_opts hF hp hc hs r (i + 1) L f (by omega) (by omega) h1 (by rw [hfs, feas_snoc, hop]; simpa using h2)
      refine ⟨L', ?_, q2, q3⟩
      simp only [iter, recyclingref23_Options_l3, oun, e1, hlt, decide_true, cond_true, e3, e4, hcand, Option.bind_some, hcost, h, decide_false, Bool.not_false, e2, osum, q1]
end Go.Proofs.YthpgjbbjpfiniaaGreat

namespace Go.Proofs.YthpgjbbjpfiniaaGreat
open Go.RowKit
set_option linter.unusedSimpArgs false
set_option linter.unusedVariables false
theorem finU_len (l : List Int) : l.length ≤ (finU l).length := by unfold finU; split <;> simp
theorem candAt_len {s : List Int} {d : Int} {i : Nat} (h : i < 2 * s.length + 1) : s.length + 1 ≤ (candAt s d i).length := by
  unfold candAt candR
  refine Nat.le_trans ?_ (finU_len _)
  simp; omega
theorem costR_long {p : Pr} {t : T_api_Tour} (h : 40 < t.Stops.length) : (costR p t).2 ≠ 0 := by
  unfold costR tourR
  split
  · rename_i z hz
    split at hz
    · cases hz
    · first | rw [if_pos h] at hz | skip
      cases hz
  · rename_i q hq
    split at hq
    · injection hq with hq; subst hq; decide
    · first | rw [if_pos h] at hq | skip
      injection hq with hq; subst hq; decide
theorem feas_long {p : Pr} {t : T_api_Tour} {d : Int} (h : 40 ≤ t.Stops.length) : feas p ((cands t.Stops d).map (toT t.Vehicle)) = [] := by
  unfold feas
  rw [List.filterMap_eq_nil_iff]
  intro u hu
  obtain ⟨s, h1, rfl⟩ := List.mem_map.1 hu
  obtain ⟨i, h2, rfl⟩ := List.mem_map.1 h1
  have := candAt_len (s := t.Stops) (d := d) (List.mem_range.1 h2)
  unfold opOf
  rw [if_neg]
  exact costR_long (by simp only [toT]; omega)
structure OkO (p : Pr) (t : T_api_Tour) (d : Int) (L : List Op) : Prop where
  chk : recyclingref22_Check p = some 0
  ok : OkP p
  v0 : 0 ≤ t.Vehicle
  v1 : t.Vehicle < ((p.Vehicles.length : Nat) : Int)
  d0 : 0 ≤ d
  d1 : d < ((p.Demands.length : Nat) : Int)
  new : d ∉ t.Stops
  srt : Srt ocost L
  stab : Stab ocost (feas p ((cands t.Stops d).map (toT t.Vehicle))) L
theorem refO_l1 {t : T_api_Tour} {d : Int} (hs : t.Stops.length ≤ 1000) : iter (recyclingref23_Options_l1 t d) (((t.Stops.length : Nat) : Int).toNat + 1) 0 = some (bif decide (d ∈ t.Stops) then .inr ([], 6) else .inl ()) := by
  have := iter_firstI (body := recyclingref23_Options_l1 t d) t.Stops (fun k y => bif decide (y = d) then some (.inr ([], 6)) else none) (.inl () : Unit ⊕ (List T_api_Tour × Int)) (by omega) (fun k y hy => ?_) (by simp [recyclingref23_Options_l1]) (((t.Stops.length : Nat) : Int).toNat + 1) (by simp)
  · rw [this, anyF]
    have : (t.Stops.any fun y => decide (y = d)) = decide (d ∈ t.Stops) := by
      rw [Bool.eq_iff_iff]
      simp only [List.any_eq_true, decide_eq_true_eq]
      exact ⟨fun ⟨y, h1, h2⟩ => h2 ▸ h1, fun h => ⟨d, h, rfl⟩⟩
    rw [this]
  · have hk := lt_of_get hy
    have hk2 : ((k : Int) < (t.Stops.length : Nat)) := by omega
    simp only [recyclingref23_Options_l1, hk2, decide_true, cond_true, getI_nat, hy, Option.bind_some]
    cases decide (y = d) <;> rfl
def badI (p : Pr) (t : T_api_Tour) (d : Int) : Bool := decide (t.Vehicle < 0) || (decide (((p.Vehicles.length : Nat) : Int) ≤ t.Vehicle) || (decide (d < 0) || decide (((p.Demands.length : Nat) : Int) ≤ d)))
theorem options_both {F : Nat} (hF : 40000 ≤ F) (p : Pr) (hn : p.Road.Edges.length ≤ 600) (t : T_api_Tour) (hs : t.Stops.length ≤ 1000) (d : Int) :
    ∃ L e, insert_options F p t d = some (L, e) ∧ recyclingref23_Options F p t d = some (L.map otour, e) ∧ ((e ≠ 0 ∧ L = []) ∨ (e = 0 ∧ OkO p t d L)) ∧ (recyclingref22_Check p = some 0 → badI p t d = false → e = bif decide (d ∈ t.Stops) then 6 else 0) := by
  unfold insert_options recyclingref23_Options
  rw [tour_Check_eq (by omega) p hn]
  rcases Check_cases p hn with ⟨h1, h2⟩ | ⟨e, h1, h2⟩
  · rw [h1]
    simp only [Option.bind_some, decide_true, Bool.not_true, cond_false, or_some]
    have hb : (decide (t.Vehicle < 0) || (decide (((p.Vehicles.length : Nat) : Int) ≤ t.Vehicle) || (decide (d < 0) || decide (((p.Demands.length : Nat) : Int) ≤ d)))) = badI p t d := rfl
    rw [hb]
    cases hbi : badI p t d with
    | true => exact ⟨[], 7, rfl, rfl, .inl ⟨by decide, rfl⟩, fun _ h => by cases h⟩
    | false =>
      simp only [cond_false, contains_eq _ hs, Option.bind_some, refO_l1 hs]
      unfold badI at hbi
      simp only [Bool.or_eq_false_iff, decide_eq_false_iff_not] at hbi
      by_cases hd : d ∈ t.Stops
      · simp only [hd, decide_true, cond_true, osum]
        exact ⟨[], 6, rfl, rfl, .inl ⟨by decide, rfl⟩, fun _ _ => rfl⟩
      · simp only [hd, decide_false, cond_false, osum]
        obtain ⟨L', q1, q2, q3⟩ := ref_opts hF h2 h1 hs (2 * t.Stops.length + 1) 0 [] F (t := t) (d := d) (by omega) (by omega) List.Pairwise.nil (by simp [firstC, feas]; exact Stab.refl _)
        simp only [List.map_nil] at q1
        rw [show ((0 : Nat) : Int) = 0 from rfl] at q1
        rw [q1]
        by_cases hl : 40 ≤ t.Stops.length
        · have hl' : (40 : Int) ≤ ((t.Stops.length : Nat) : Int) := by omega
          have : L' = [] := by rw [feas_long hl] at q3; exact (q3.perm.symm.eq_nil)
          subst this
          exact ⟨[], 0, by simp only [hl', decide_true, cond_true], rfl, .inr ⟨rfl, h1, h2, by omega, by omega, by omega, by omega, hd, q2, q3⟩, fun _ _ => rfl⟩
        · have hl' : ¬ (40 : Int) ≤ ((t.Stops.length : Nat) : Int) := by omega
          have hcl : ((cands t.Stops d).map (toT t.Vehicle)).length ≤ 1000 := by simp [cands]; omega
          obtain ⟨L2, j1, j2, j3⟩ := opt_sorted (F := F) (L := feas p ((cands t.Stops d).map (toT t.Vehicle))) (Nat.le_trans (feas_len _ _) hcl) hF (feas_cost h2)
          have : L2 = L' := j2.unique q2 (j3.symm.trans q3)
          subst this
          refine ⟨L2, 0, ?_, rfl, .inr ⟨rfl, h1, h2, by omega, by omega, by omega, by omega, hd, q2, q3⟩, fun _ _ => rfl⟩
          simp only [hl', decide_false, cond_false, candidates_eq hs hF, Option.bind_some, opts_loop hF h2 h1 hn _ hcl, j1]
  · rw [h2]
    simp only [Option.bind_some]
    rw [show decide (e = 0) = false by simpa using h1]
    exact ⟨[], e, rfl, rfl, .inl ⟨h1, rfl⟩, fun h => by injection h with h; exact absurd h h1⟩
theorem Options_l1 (L : List Op) (hl : L.length ≤ 10000) : iter (insert_Options_l1 L) (((L.length : Nat) : Int).toNat + 1) ([], 0) = some (L.map otour) := by
  have := iter_stI (body := insert_Options_l1 L) L (fun k => (L.take k).map otour) (fun m k => (m, k)) (fun _ _ => none) (L.map otour) (by omega) (fun k x hx _ => ?_) (fun _ => by simp only [insert_Options_l1, oun, List.take_length]; simp) (((L.length : Nat) : Int).toNat + 1) (by simp)
  · rw [firstI_none _ _ (fun _ _ _ => rfl)] at this
    exact this
  · have hk := lt_of_get hx
    have hk2 : ((k : Int) < (L.length : Nat)) := by omega
    simp only [insert_Options_l1, oun, hk2, decide_true, cond_true, getI_nat, hx, Option.bind_some, pickO]
    rw [appO_eq (by simp; omega), take_succ' hx]
    simp
theorem OkO.len {p : Pr} {t : T_api_Tour} {d : Int} {L : List Op} (h : OkO p t d L) (hs : t.Stops.length ≤ 1000) : L.length ≤ 2001 := by
  rw [← h.stab.perm.length_eq]
  refine Nat.le_trans (feas_len _ _) ?_
  simp [cands]; omega
theorem Options_eq {F : Nat} (hF : 40000 ≤ F) (p : Pr) (hn : p.Road.Edges.length ≤ 600) (t : T_api_Tour) (hs : t.Stops.length ≤ 1000) (d : Int) :
    insert_Options F p t d = recyclingref23_Options F p t d ∧ insert_Best F p t d = recyclingref23_Best F p t d := by
  obtain ⟨L, e, h1, h2, h3, _⟩ := options_both hF p hn t hs d
  have hl : L.length ≤ 2001 := by
    rcases h3 with ⟨_, rfl⟩ | ⟨_, h3⟩
    · simp
    · exact h3.len hs
  constructor
  · unfold insert_Options
    rw [h1, h2]
    simp only [Option.bind_some, oun, Options_l1 L (by omega)]
  · unfold insert_Best recyclingref23_Best
    rw [h1, h2]
    simp only [Option.bind_some, oun, List.length_map]
    cases decide (e = 0) with
    | false => rfl
    | true =>
      simp only [Bool.not_true, cond_false]
      by_cases h0 : L = []
      · subst h0; rfl
      · obtain ⟨x, M, rfl⟩ := List.exists_cons_of_ne_nil h0
        have : ¬ ((((x :: M).length : Nat) : Int) = 0) := by simp; omega
        simp only [this, decide_false, cond_false, List.map_cons]
        rfl
theorem options_det {F : Nat} (hF : 40000 ≤ F) {p : Pr} (hn : p.Road.Edges.length ≤ 600) {t : T_api_Tour} (hs : t.Stops.length ≤ 1000) {d : Int} (hc : recyclingref22_Check p = some 0) (hb : badI p t d = false) (hd : d ∉ t.Stops) :
    ∃ L, insert_options F p t d = some (L, 0) ∧ OkO p t d L := by
  obtain ⟨L, e, h1, h2, h3, h4⟩ := options_both hF p hn t hs d
  have := h4 hc hb
  rw [show decide (d ∈ t.Stops) = false by simpa using hd] at this
  have he : e = 0 := this
  subst he
  rcases h3 with ⟨h, _⟩ | ⟨_, h3⟩
  · exact absurd rfl h
  · exact ⟨L, h1, h3⟩
theorem Options_at {F : Nat} {p : Pr} {t : T_api_Tour} {d e : Int} {L : List Op} (h : insert_options F p t d = some (L, e)) (hl : L.length ≤ 10000) : insert_Options F p t d = some (L.map otour, e) := by
  unfold insert_Options
  rw [h]
  simp only [Option.bind_some, oun, Options_l1 L hl]
theorem Ints_self (a : List Int) (h : a.length ≤ 1000000) : recyclingref23_Ints a a = some true := by
  unfold recyclingref23_Ints
  have := iter_firstI (body := recyclingref23_Ints_l1 a a) a (fun _ _ => none) (.inl () : Unit ⊕ Bool) (by omega) (fun k y hy => ?_) (by simp [recyclingref23_Ints_l1]) (((a.length : Nat) : Int).toNat + 1) (by simp)
  · rw [this, firstI_none _ _ (fun _ _ _ => rfl)]
    simp [osum]
  · have hk := lt_of_get hy
    have hk2 : ((k : Int) < (a.length : Nat)) := by omega
    simp only [recyclingref23_Ints_l1, hk2, decide_true, cond_true, getI_nat, hy, Option.bind_some, Bool.not_true, cond_false, pickO]
theorem Tours_self (a : List T_api_Tour) (h : a.length ≤ 1000000) (h2 : ∀ x ∈ a, x.Stops.length ≤ 1000000) : recyclingref23_Same a a = some true := by
  unfold recyclingref23_Same
  have := iter_firstI (body := recyclingref23_Same_l1 a a) a (fun _ _ => none) (.inl () : Unit ⊕ Bool) (by omega) (fun k y hy => ?_) (by simp [recyclingref23_Same_l1]) (((a.length : Nat) : Int).toNat + 1) (by simp)
  · rw [this, firstI_none _ _ (fun _ _ _ => rfl)]
    simp [osum]
  · have hk := lt_of_get hy
    have hk2 : ((k : Int) < (a.length : Nat)) := by omega
    simp only [recyclingref23_Same_l1, hk2, decide_true, cond_true, getI_nat, hy, Option.bind_some, Bool.not_true, cond_false, pickO, Ints_self _ (h2 y (List.mem_of_getElem? hy))]
theorem feas_stops {p : Pr} {ts : List T_api_Tour} {x : Op} (h : x ∈ feas p ts) : x.tour.Stops.length ≤ 40 := by
  rcases Nat.lt_or_ge 40 x.tour.Stops.length with h1 | h1
  · exact absurd (feas_mem h).2.1 (costR_long h1)
  · exact h1
theorem OkO.stops {p : Pr} {t : T_api_Tour} {d : Int} {L : List Op} (h : OkO p t d L) : ∀ x ∈ L, x.tour.Stops.length ≤ 40 := fun x hx => feas_stops (h.stab.perm.symm.subset hx)
end Go.Proofs.YthpgjbbjpfiniaaGreat

namespace Go.Proofs.YthpgjbbjpfiniaaGreat
open Go.RowKit
set_option linter.unusedSimpArgs false
set_option linter.unusedVariables false
abbrev Pl := T_api_Plan
theorem first_find {α ρ : Type} (p : α → Bool) (g : α → ρ) (fin : ρ) : ∀ l : List α, first (fun x => bif p x then some (g x) else none) fin l = (match l.find? p with | some x => g x | none => fin)
  | [] => rfl
  | x :: r => by
    simp only [first, List.find?]
    cases h : p x with
    | true => rfl
    | false => exact first_find p g fin r
def ofP (x : Pl) (v : Int) : T_api_Tour := (x.Tours.find? fun t => decide (t.Vehicle = v)).getD ⟨v, []⟩
def wo (d : Int) (l : List Int) : List Int := l.filter fun k => !decide (k = d)
def servB (t : T_api_Tour) : Bool := t.Stops.any fun s => decide (0 ≤ s)
theorem Of_eq {x : Pl} (v : Int) (hx : x.Tours.length ≤ 1000) : dispatch_of x v = some (ofP x v) ∧ recyclingref25_Of x v = some (ofP x v) := by
  have key : ∀ body : Int → Option (Int ⊕ (Unit ⊕ T_api_Tour)), (∀ k, body k = bif decide (k < ((x.Tours.length : Nat) : Int)) then Option.bind (getI x.Tours k) fun x2 => bif decide (x2.Vehicle = v) then some (.inr (.inr x2)) else some (.inl (w64 (k + 1))) else some (.inr (.inl ()))) →
      (Option.bind (iter body (((x.Tours.length : Nat) : Int).toNat + 1) 0) fun o_ => osum o_ (fun _ => some (T_api_Tour.mk v [])) (fun r => some r)) = some (ofP x v) := by
    intro body hb
    rw [iter_first x.Tours (fun t => bif decide (t.Vehicle = v) then some (Sum.inr t) else none) (Sum.inl ()) (by omega) (fun k t hk => by
        have h1 : ((k : Int) < ((x.Tours.length : Nat) : Int)) := by have := lt_of_get hk; omega
        rw [hb]
        simp only [h1, decide_true, cond_true, getI_nat, hk, Option.bind_some]
        cases decide (t.Vehicle = v) <;> rfl) (by rw [hb]; simp) _ (by simp), Option.bind_some, first_find]
    unfold ofP
    cases x.Tours.find? fun t => decide (t.Vehicle = v) <;> rfl
  exact ⟨key _ fun k => rfl, key _ fun k => rfl⟩
theorem idx_first {p : Int → Bool} {body : Int → Option (Int ⊕ (Unit ⊕ Int))} {l : List Int} (hl : l.length ≤ 1000000) (hb : ∀ k, body k = bif decide (k < ((l.length : Nat) : Int)) then Option.bind (getI l k) fun x1 => bif p x1 then some (.inr (.inr k)) else some (.inl (w64 (k + 1))) else some (.inr (.inl ()))) :
    (∃ k : Nat, k < l.length ∧ (∀ y ∈ l.take k, p y = false) ∧ (∀ y, l[k]? = some y → p y = true) ∧ iter body (((l.length : Nat) : Int).toNat + 1) 0 = some (.inr (k : Int))) ∨
    ((∀ y ∈ l, p y = false) ∧ iter body (((l.length : Nat) : Int).toNat + 1) 0 = some (.inl ())) := by
  rw [iter_firstI l (fun k x => bif p x then some (Sum.inr (k : Int)) else none) (Sum.inl ()) (by omega) (fun k x hk => by
      have h1 : ((k : Int) < ((l.length : Nat) : Int)) := by have := lt_of_get hk; omega
      rw [hb]
      simp only [h1, decide_true, cond_true, getI_nat, hk, Option.bind_some]
      cases p x <;> rfl) (by rw [hb]; simp) _ (by simp)]
  have key : ∀ (m : List Int) (n : Nat), (∃ k : Nat, k < m.length ∧ (∀ y ∈ m.take k, p y = false) ∧ (∀ y, m[k]? = some y → p y = true) ∧ firstI (fun k x => bif p x then some (Sum.inr (k : Int)) else none) (Sum.inl () : Unit ⊕ Int) n m = .inr ((n + k : Nat) : Int)) ∨
      ((∀ y ∈ m, p y = false) ∧ firstI (fun k x => bif p x then some (Sum.inr (k : Int)) else none) (Sum.inl () : Unit ⊕ Int) n m = .inl ()) := by
    intro m
    induction m with
    | nil => exact fun n => .inr ⟨by simp, rfl⟩
    | cons x r ih =>
      intro n
      cases hp : p x with
      | true => exact .inl ⟨0, by simp, by simp, fun y hy => by simp at hy; rw [← hy]; exact hp, by simp [firstI, hp]⟩
      | false =>
        rcases ih (n + 1) with ⟨k, h1, h2, h3, h4⟩ | ⟨h1, h2⟩
        · refine .inl ⟨k + 1, by simp; omega, fun y hy => ?_, fun y hy => h3 y (by simpa using hy), ?_⟩
          · simp only [List.take_succ_cons, List.mem_cons] at hy
            rcases hy with rfl | hy
            · exact hp
            · exact h2 y hy
          · simp only [firstI, hp, cond_false]
            rw [h4]; congr 2; omega
        · refine .inr ⟨fun y hy => ?_, ?_⟩
          · rcases List.mem_cons.1 hy with rfl | hy
            · exact hp
            · exact h1 y hy
          · simp only [firstI, hp, cond_false]; exact h2
  rcases key l 0 with ⟨k, h1, h2, h3, h4⟩ | ⟨h1, h2⟩
  · exact .inl ⟨k, h1, h2, h3, by rw [h4]; simp⟩
  · exact .inr ⟨h1, by rw [h2]⟩
theorem any_false {p : Int → Bool} {l : List Int} (h : ∀ y ∈ l, p y = false) : l.any p = false := by
  rw [List.any_eq_false]
  exact fun y hy => by rw [h y hy]; simp
theorem any_at {p : Int → Bool} {l : List Int} {k : Nat} (hk : k < l.length) (h : ∀ y, l[k]? = some y → p y = true) : l.any p = true := by
  rw [List.any_eq_true]
  exact ⟨l[k], List.getElem_mem hk, h _ (List.getElem?_eq_getElem hk)⟩
theorem serves_eq {t : T_api_Tour} (hl : t.Stops.length ≤ 1000000) : dispatch_serves t = some (servB t) ∧ recyclingref25_serves t = some (servB t) := by
  constructor
  · unfold dispatch_serves slices_ContainsFunc_int_c117 slices_IndexFunc_int_c117
    rcases idx_first (p := fun s => decide (0 ≤ s)) (body := slices_IndexFunc_int_c117_l1 t.Stops) hl (fun k => rfl) with ⟨k, h1, h2, h3, h4⟩ | ⟨h1, h2⟩
    · rw [h4]
      have h5 : (0 : Int) ≤ (k : Int) := by omega
      simp only [Option.bind_some, osum, h5, decide_true, servB, any_at h1 h3]
    · rw [h2]
      simp only [Option.bind_some, osum, servB, any_false h1]
      rfl
  · unfold recyclingref25_serves
    rw [iter_first t.Stops (fun s => bif decide (0 ≤ s) then some (Sum.inr true) else none) (Sum.inl ()) (by omega) (fun k s hk => by
      have h1 : ((k : Int) < ((t.Stops.length : Nat) : Int)) := by have := lt_of_get hk; omega
      simp only [recyclingref25_serves_l1, h1, decide_true, cond_true, getI_nat, hk, Option.bind_some]
      cases decide (0 ≤ s) <;> rfl) (by simp [recyclingref25_serves_l1]) _ (by simp), Option.bind_some, first_find]
    unfold servB
    cases h : t.Stops.find? fun s => decide (0 ≤ s) with
    | none =>
      rw [List.find?_eq_none] at h
      have : t.Stops.any (fun s => decide (0 ≤ s)) = false := by rw [List.any_eq_false]; exact h
      rw [this]; rfl
    | some s =>
      have h1 := List.find?_some h
      have h2 := List.mem_of_find?_eq_some h
      have : t.Stops.any (fun s => decide (0 ≤ s)) = true := by rw [List.any_eq_true]; exact ⟨s, h2, h1⟩
      rw [this]; rfl
theorem refWo_eq {l : List Int} (d : Int) (hl : l.length ≤ 1000000) : recyclingref25_without l d = some (wo d l) := by
  unfold recyclingref25_without
  have := iter_each l (fun (o : List Int) k => (o, k)) (body := recyclingref25_without_l1 l d) (fun o x => .inl (if x = d then o else o ++ [x])) (fun o => o) (fun o k => o = wo d (l.take k)) (by omega) (fun k x o hk ho => by
    have h0 := lt_of_get hk
    have h1 : ((k : Int) < ((l.length : Nat) : Int)) := by omega
    have hw : wo d (l.take (k + 1)) = wo d (l.take k) ++ if x = d then [] else [x] := by
      rw [take_succ' hk]; unfold wo; rw [List.filter_append]
      by_cases h : x = d <;> simp [h]
    refine ⟨?_, fun o' h => ?_⟩
    · simp only [recyclingref25_without_l1, oun, h1, decide_true, cond_true, getI_nat, hk, Option.bind_some]
      by_cases h : x = d
      · simp [h]
      · have hle : o.length ≤ k := by rw [ho]; exact Nat.le_trans (List.length_filter_le _ _) (by simp; omega)
        simp only [h, decide_false, Bool.not_false, cond_true, if_false]
        rw [appO_eq (by simp; omega)]
        rfl
    · injection h with h
      subst h
      rw [hw, ho]
      by_cases h : x = d <;> simp [h]) (fun o ho => by simp [recyclingref25_without_l1, oun]) (((l.length : Nat) : Int).toNat + 1) [] rfl (by simp)
  rw [this]
  have key : ∀ (m : List Int) (o : List Int), each (fun o x => (.inl (if x = d then o else o ++ [x]) : List Int ⊕ List Int)) (fun o => o) m o = o ++ wo d m := by
    intro m
    induction m with
    | nil => intro o; simp [each, wo]
    | cons x r ih =>
      intro o
      simp only [each]
      rw [ih]
      by_cases h : x = d <;> simp [h, wo]
  rw [key]; rfl
theorem has_eq {l : List Int} (d : Int) (hl : l.length ≤ 1000000) : recyclingref25_has l d = some (decide (d ∈ l)) := by
  unfold recyclingref25_has
  rw [iter_first l (fun s => bif decide (s = d) then some (Sum.inr true) else none) (Sum.inl ()) (by omega) (fun k s hk => by
    have h1 : ((k : Int) < ((l.length : Nat) : Int)) := by have := lt_of_get hk; omega
    simp only [recyclingref25_has_l1, h1, decide_true, cond_true, getI_nat, hk, Option.bind_some]
    cases decide (s = d) <;> rfl) (by simp [recyclingref25_has_l1]) _ (by simp), Option.bind_some, first_find]
  cases h : l.find? fun s => decide (s = d) with
  | none =>
    rw [List.find?_eq_none] at h
    have : ¬ d ∈ l := fun hm => by have := h d hm; simp at this
    simp [this, osum]
  | some s =>
    have h1 := List.find?_some h
    have h2 := List.mem_of_find?_eq_some h
    have h3 : s = d := by simpa using h1
    rw [h3] at h2
    simp [h2, osum]
theorem del_loop {l : List Int} {d : Int} (hl : l.length ≤ 100000) : ∀ (r j i f : Nat) (s : List Int), j + r = l.length → r < f → i < j → s.length = l.length → s.take i = wo d (l.take j) → s.drop j = l.drop j →
    ∃ s', iter (slices_DeleteFunc_int_c116_l1 l d) f (s, (i : Int), (j : Int)) = some (s', ((wo d l).length : Int)) ∧ s'.length = l.length ∧ s'.take (wo d l).length = wo d l ∧ (wo d l).length ≤ l.length
  | 0, j, i, f + 1, s, hj, _, hij, hs, ht, hd => by
    have h1 : ¬ ((j : Int) < ((l.length : Nat) : Int)) := by omega
    have e : l.take j = l := List.take_of_length_le (by omega)
    rw [e] at ht
    have hi : (wo d l).length = i := by rw [← ht]; simp; omega
    refine ⟨s, ?_, hs, by rw [hi]; exact ht, List.length_filter_le _ _⟩
    simp only [iter, slices_DeleteFunc_int_c116_l1, oun, h1, decide_false, cond_false, hi]
    rfl
  | r + 1, j, i, f + 1, s, hj, hf, hij, hs, ht, hd => by
    have h1 : ((j : Int) < ((l.length : Nat) : Int)) := by omega
    obtain ⟨x, hx⟩ : ∃ x, l[j]? = some x := ⟨_, List.getElem?_eq_getElem (by omega)⟩
    have hsx : s[j]? = some x := by
      have e1 : s[j]? = (s.drop j)[0]? := by simp
      rw [e1, hd]; simpa using hx
    obtain ⟨y, hy⟩ : ∃ y, s[i]? = some y := ⟨_, List.getElem?_eq_getElem (by omega)⟩
    have hw : wo d (l.take (j + 1)) = wo d (l.take j) ++ if x = d then [] else [x] := by
      rw [take_succ' hx]; unfold wo; rw [List.filter_append]
      by_cases h : x = d <;> simp [h]
    have e2 : w64 ((i : Int) + 1) = ((i + 1 : Nat) : Int) := w64_nat (by omega)
    have e3 : w64 ((j : Int) + 1) = ((j + 1 : Nat) : Int) := w64_nat (by omega)
    by_cases h : x = d
    · obtain ⟨s', g1, g2⟩ := del_loop hl r (j + 1) i f s (by omega) (by omega) (by omega) hs (by rw [hw]; simp [h, ht]) (by rw [← List.drop_drop, hd]; simp)
      refine ⟨s', ?_, g2⟩
      rw [← g1]
      simp only [iter, slices_DeleteFunc_int_c116_l1, dispatch_without_1, oun, h1, decide_true, cond_true, getI_nat, hsx, Option.bind_some, h, Bool.not_true, cond_false, e3]
      rfl
    · have hlt : i < s.length := by omega
      obtain ⟨s', g1, g2⟩ := del_loop hl r (j + 1) (i + 1) f (s.set i x) (by omega) (by omega) (by omega) (by simpa using hs) (by
          rw [hw, if_neg h, ← ht]
          rw [List.take_add_one, List.take_set_of_le (Nat.le_refl _)]
          simp [hlt]) (by
          rw [List.drop_set_of_lt (by omega), ← List.drop_drop, hd]; simp)
      refine ⟨s', ?_, g2⟩
      rw [← g1]
      simp only [iter, slices_DeleteFunc_int_c116_l1, dispatch_without_1, oun, h1, decide_true, cond_true, getI_nat, hsx, hy, Option.bind_some, h, decide_false, Bool.not_false, e2, e3, setI, Int.toNat_natCast]
      rfl
theorem wo_self {d : Int} {l : List Int} (h : ∀ y ∈ l, decide (y = d) = false) : wo d l = l := by
  unfold wo
  rw [List.filter_eq_self]
  exact fun y hy => by rw [h y hy]; rfl
theorem del_eq {F : Nat} (hF : 40000 ≤ F) {l : List Int} (d : Int) (hl : l.length ≤ 30000) : slices_DeleteFunc_int_c116 F l d = some (wo d l) := by
  unfold slices_DeleteFunc_int_c116 slices_IndexFunc_int_c116
  rcases idx_first (p := fun s => decide (s = d)) (body := slices_IndexFunc_int_c116_l1 l d) (l := l) (by omega) (fun k => rfl) with ⟨k, h1, h2, h3, h4⟩ | ⟨h1, h2⟩
  · rw [h4]
    have h5 : ¬ ((k : Int) = -1) := by omega
    have hw : wo d (l.take (k + 1)) = l.take k := by
      obtain ⟨x, hx⟩ : ∃ x, l[k]? = some x := ⟨_, List.getElem?_eq_getElem h1⟩
      have hxd : x = d := by simpa using h3 x hx
      rw [take_succ' hx]
      have := wo_self h2
      unfold wo at this ⊢
      rw [List.filter_append, this]; simp [hxd]
    obtain ⟨s', g1, g2, g3, g4⟩ := del_loop (d := d) (by omega) (l.length - (k + 1)) (k + 1) k F l (by omega) (by omega) (by omega) rfl hw.symm rfl
    simp only [Option.bind_some, osum, h5, decide_false, cond_false, w64_nat (show k < 9223372036854775807 by omega)]
    rw [g1]
    simp only [Option.bind_some, oun]
    rw [subO_drop (by omega)]
    have e1 : (clrO s' (((wo d l).length : Nat) : Int) 0).take (wo d l).length = wo d l := by
      unfold clrO
      rw [List.take_append_of_le_length (by simp; omega)]
      simp [g3]
    have e2 : subO (clrO s' (((wo d l).length : Nat) : Int) 0) 0 (((wo d l).length : Nat) : Int) = some (wo d l) := by
      unfold subO
      rw [if_pos ⟨by omega, by omega, by rw [length_clrO]; omega⟩]
      simp only [Int.toNat_natCast, Int.toNat_zero, List.drop_zero, e1]
    rw [Option.bind_some, e2]; rfl
  · rw [h2]
    simp only [Option.bind_some, osum, decide_true, cond_true]
    rw [wo_self h1]
theorem clone_eq {α : Type} (l : List α) (hl : l.length ≤ 1000) : cloneO l = some l := by
  unfold cloneO
  simp
  omega
theorem without_eq {F : Nat} (hF : 40000 ≤ F) {l : List Int} (d : Int) (hl : l.length ≤ 1000) : dispatch_without F l d = some (wo d l) := by
  unfold dispatch_without
  rw [clone_eq l hl, Option.bind_some, del_eq hF d (by omega)]; rfl
theorem cmpI_eq (a b : Int) : cmp_Compare_int a b = some (if a < b then -1 else if b < a then 1 else 0) := by
  unfold cmp_Compare_int cmp_isNaN_int
  simp only [Option.bind_some, decide_true, Bool.not_true, cond_false]
  by_cases h : a < b
  · simp [h]
  · by_cases h2 : b < a <;> simp [h, h2]
theorem or_eq (a b : Int) : cmp_Or_int [a, b] = some (if a = 0 then b else a) := by
  unfold cmp_Or_int
  rw [iter_first [a, b] (fun x => bif !decide (x = 0) then some (Sum.inr x) else none) (Sum.inl ()) (by simp) (fun k x hk => by
    have h1 : ((k : Int) < (([a, b].length : Nat) : Int)) := by have := lt_of_get hk; omega
    simp only [cmp_Or_int_l1, h1, decide_true, cond_true, getI_nat, hk, Option.bind_some]
    cases decide (x = 0) <;> rfl) (by simp [cmp_Or_int_l1]) _ (by simp), Option.bind_some]
  by_cases ha : a = 0
  · by_cases hb : b = 0
    · simp [first, ha, hb, osum]
    · simp [first, ha, hb, osum]
  · simp [first, ha, osum]
def rkey (x : T_dispatch_rated) : Int := ((x.plan.Left.length : Nat) : Int) * 1000000000000 + x.cost
def costOk (x : T_dispatch_rated) : Prop := 0 ≤ x.cost ∧ x.cost < 1000000000000
theorem compare_eq {a b : T_dispatch_rated} (ha : costOk a) (hb : costOk b) : ∃ z, dispatch_compare a b = some z ∧ (z < 0 ↔ rkey a < rkey b) := by
  unfold dispatch_compare
  simp only [cmpI_eq, Option.bind_some, or_eq]
  refine ⟨_, rfl, ?_⟩
  unfold rkey
  obtain ⟨a0, a1⟩ := ha
  obtain ⟨b0, b1⟩ := hb
  by_cases h1 : ((a.plan.Left.length : Nat) : Int) < ((b.plan.Left.length : Nat) : Int)
  · rw [if_pos h1, if_neg (by decide)]; omega
  · by_cases h2 : ((b.plan.Left.length : Nat) : Int) < ((a.plan.Left.length : Nat) : Int)
    · rw [if_neg h1, if_pos h2, if_neg (by decide)]; omega
    · rw [if_neg h1, if_neg h2, if_pos rfl]
      by_cases h3 : a.cost < b.cost
      · rw [if_pos h3]; omega
      · by_cases h4 : b.cost < a.cost
        · rw [if_neg h3, if_pos h4]; omega
        · rw [if_neg h3, if_neg h4]; omega
end Go.Proofs.YthpgjbbjpfiniaaGreat

namespace Go.Proofs.YthpgjbbjpfiniaaGreat
open Go.RowKit
set_option linter.unusedSimpArgs false
set_option linter.unusedVariables false
theorem legP_self {p : Pr} (hp : OkP p) {a : Int} (ha : 0 ≤ a ∧ a < p.Road.Nodes) : legP p a a = ⟨0, 0⟩ := by
  obtain ⟨h1, _⟩ := legsP_h hp ha
  have h2 := h1.best 0 a ⟨0, 0⟩ .nil
  have h3 := legP_bound hp ha ha
  unfold legP at h3 ⊢
  generalize lab (legsP p a) a = l at *
  have h4 := h2.2
  unfold Lg.le at h4
  cases l
  simp only at h2 h3 h4 ⊢
  congr 1 <;> omega
theorem costR_empty {p : Pr} (hp : OkP p) (v : Int) : (costR p ⟨v, []⟩).1 = 0 := by
  unfold costR
  cases h : tourR p ⟨v, []⟩ with
  | inr q => rfl
  | inl u =>
    obtain ⟨z, y, hf, _, e2⟩ := tourR_ok h
    have hv := hp.ve u.2.2 (by
      have := hf.hv
      unfold getI at this
      rw [if_pos hf.t0] at this
      exact List.mem_of_getElem? this)
    have h1 : z = (x0 u.2.2, []) := by
      have := hf.fol
      injection this with this
      exact this.symm
    have h6 : y.Node = u.2.2.Depot := by
      have hom := hf.hom
      unfold homeR at hom
      repeat' split at hom
      all_goals first | (cases hom; done) | (injection hom with hom; subst hom; rfl)
    simp only [e2, h1, List.nil_append, metR, h6, legP_self hp ⟨hv.d0, hv.d1⟩]
    rfl
def pickB (h : Op → Option Op) : List Op → Nat → Option (Nat × Op × Int) → Option (Nat × Op × Int)
  | [], _, s => s
  | x :: r, k, s => pickB h r (k + 1) (match h x with
    | none => s
    | some y => match s with
      | none => some (k, y, w64 (y.cost - x.cost))
      | some z => if w64 (y.cost - x.cost) < z.2.2 then some (k, y, w64 (y.cost - x.cost)) else s)
def encP (s : Option (Nat × Op × Int)) : Int × List Int × Int × Int := match s with
  | none => (0, [], 0, -1)
  | some z => (z.2.1.tour.Vehicle, z.2.1.tour.Stops, z.2.1.cost, ((z.1 : Nat) : Int))
def encR (s : Option (Nat × Op × Int)) : Int × Int × Int × List Int := match s with
  | none => (-1, 0, 0, [])
  | some z => (((z.1 : Nat) : Int), z.2.2, z.2.1.tour.Vehicle, z.2.1.tour.Stops)
def hdOp (F : Nat) (p : Pr) (d : Int) (x : Op) : Option Op := match insert_options F p x.tour d with
  | some (y :: _, _) => some y
  | _ => none
def AllO (F : Nat) (p : Pr) (d : Int) (T : List Op) : Prop := ∀ x ∈ T, x.cost = (costR p x.tour).1 ∧ ∃ L e, insert_options F p x.tour d = some (L, e) ∧ recyclingref23_Options F p x.tour d = some (L.map otour, e) ∧ ((e ≠ 0 ∧ L = []) ∨ (e = 0 ∧ OkO p x.tour d L))
theorem pick_pro {F : Nat} {p : Pr} {T : List Op} {d : Int} (hT : T.length ≤ 1000) (ha : AllO F p d T) : ∀ (rest : List Op) (k : Nat) (s : Option (Nat × Op × Int)) (f : Nat), T.drop k = rest → k ≤ T.length → rest.length < f → (∀ z, s = some z → ∃ x, T[z.1]? = some x ∧ z.2.2 = w64 (z.2.1.cost - x.cost)) →
    iter (insert_Build_l2 F p T d) f ((encP s).1, (encP s).2.1, (encP s).2.2.1, (encP s).2.2.2, (k : Int)) = some (encP (pickB (hdOp F p d) rest k s))
  | [], k, s, 0, _, _, h, _ => by simp at h
  | _ :: _, k, s, 0, _, _, h, _ => by simp at h
  | [], k, s, f + 1, hd, hk, _, _ => by
    have : k = T.length := by have := congrArg List.length hd; simp at this; omega
    have h1 : ¬ ((k : Int) < ((T.length : Nat) : Int)) := by omega
    simp only [iter, insert_Build_l2, oun, h1, decide_false, cond_false, Option.bind_some, osum, pickB]
  | x :: rest, k, s, f + 1, hd, hk, hf, hs => by
    have hx : T[k]? = some x := by
      have := congrArg List.head? hd
      rwa [List.head?_drop] at this
    have hlt := lt_of_get hx
    have h1 : ((k : Int) < ((T.length : Nat) : Int)) := by omega
    have hd2 : T.drop (k + 1) = rest := by rw [← List.drop_drop, hd]; rfl
    have e1 : w64 ((k : Int) + 1) = ((k + 1 : Nat) : Int) := by rw [w64_eq (by omega) (by omega)]; omega
    obtain ⟨_, L, e, ho, _⟩ := ha x (List.mem_of_getElem? hx)
    have hh : hdOp F p d x = L.head? := by unfold hdOp; rw [ho]; cases L <;> rfl
    rw [pickB, hh]
    cases L with
    | nil =>
      have ih := pick_pro hT ha rest (k + 1) s f hd2 (by omega) (by simp at hf; omega) hs
      simp only [iter, insert_Build_l2, oun, h1, decide_true, cond_true, getI_nat, hx, Option.bind_some, ho, List.length_nil, e1, osum, List.head?_nil]
      exact ih
    | cons y M =>
      have hl : (0 : Int) < (((y :: M).length : Nat) : Int) := by simp only [List.length_cons]; omega
      have g0 : getI (y :: M) 0 = some y := rfl
      cases s with
      | none =>
        have ih := pick_pro hT ha rest (k + 1) (some (k, y, w64 (y.cost - x.cost))) f hd2 (by omega) (by simp at hf; omega) (fun z hz => by injection hz with hz; subst hz; exact ⟨x, hx, rfl⟩)
        simp only [iter, insert_Build_l2, oun, h1, decide_true, cond_true, getI_nat, hx, Option.bind_some, ho, hl, encP, g0, show decide ((-1 : Int) < 0) = true from rfl, e1, osum, List.head?_cons]
        exact ih
      | some z =>
        obtain ⟨u, hu, hz⟩ := hs z rfl
        have hz0 : ¬ (((z.1 : Nat) : Int) < 0) := by omega
        by_cases hc : w64 (y.cost - x.cost) < z.2.2
        · have ih := pick_pro hT ha rest (k + 1) (some (k, y, w64 (y.cost - x.cost))) f hd2 (by omega) (by simp at hf; omega) (fun z hz => by injection hz with hz; subst hz; exact ⟨x, hx, rfl⟩)
          have hc2 := hc
          rw [hz] at hc2
          simp only [iter, insert_Build_l2, oun, h1, decide_true, cond_true, getI_nat, hx, Option.bind_some, ho, hl, encP, g0, hz0, decide_false, cond_false, hu, hc2, e1, osum, List.head?_cons]
          rw [if_pos hc]
          exact ih
        · have ih := pick_pro hT ha rest (k + 1) (some z) f hd2 (by omega) (by simp at hf; omega) hs
          have hc2 := hc
          rw [hz] at hc2
          simp only [iter, insert_Build_l2, oun, h1, decide_true, cond_true, getI_nat, hx, Option.bind_some, ho, hl, encP, g0, hz0, decide_false, cond_false, hu, hc2, e1, osum, List.head?_cons]
          rw [if_neg hc]
          exact ih
end Go.Proofs.YthpgjbbjpfiniaaGreat

namespace Go.Proofs.YthpgjbbjpfiniaaGreat
open Go.RowKit
set_option linter.unusedSimpArgs false
set_option linter.unusedVariables false
theorem finU_last (l : List Int) : (finU l).getLast? = some (-1) := by
  unfold finU; split
  · assumption
  · simp
theorem finU_count (l : List Int) {e : Int} (he : 0 ≤ e) : (finU l).count e = l.count e := by
  unfold finU; split
  · rfl
  · rw [List.count_append, List.count_singleton, if_neg (by simp; omega)]; rfl
theorem candAt_last (s : List Int) (d : Int) (i : Nat) : (candAt s d i).getLast? = some (-1) := finU_last _
theorem candAt_count (s : List Int) (d : Int) (i : Nat) {e : Int} (he : 0 ≤ e) : (candAt s d i).count e = s.count e + if e = d then 1 else 0 := by
  unfold candAt candR
  rw [finU_count _ he, List.count_append, List.count_append, List.count_cons]
  have h1 : (bif decide (i % 2 = 1) then [(-1 : Int)] else []).count e = 0 := by
    cases decide (i % 2 = 1)
    · rfl
    · rw [cond_true, List.count_singleton, if_neg (by simp; omega)]
  have h2 : s.count e = (s.take (i / 2)).count e + (s.drop (i / 2)).count e := by rw [← List.count_append, List.take_append_drop]
  rw [h1, h2]
  by_cases h : e = d
  · subst h; simp; omega
  · have : ¬ (d == e) = true := by simp; exact fun h' => h h'.symm
    simp [h, this]
theorem candAt_two (s : List Int) {d : Int} (hd : 0 ≤ d) (i : Nat) : 2 ≤ (candAt s d i).length := by
  have h1 := candAt_last s d i
  have h2 := candAt_count s d i hd
  rw [if_pos rfl] at h2
  generalize candAt s d i = l at *
  match l, h1, h2 with
  | [], _, h2 => simp at h2
  | [a], h1, h2 =>
    simp at h1; subst h1
    rw [List.count_singleton, if_neg (by simp; omega)] at h2
    omega
  | _ :: _ :: _, _, _ => simp
structure IsO (p : Pr) (t : T_api_Tour) (d : Int) (y : Op) : Prop where
  cand : ∃ i, i < 2 * t.Stops.length + 1 ∧ y.tour = ⟨t.Vehicle, candAt t.Stops d i⟩
  ok : (costR p y.tour).2 = 0
  cost : y.cost = (costR p y.tour).1
theorem OkO.isO {p : Pr} {t : T_api_Tour} {d : Int} {L : List Op} (h : OkO p t d L) {y : Op} (hy : y ∈ L) : IsO p t d y := by
  obtain ⟨h1, h2, h3⟩ := feas_mem (h.stab.perm.symm.subset hy)
  obtain ⟨s, g1, g2⟩ := List.mem_map.1 h1
  obtain ⟨i, g3, g4⟩ := List.mem_map.1 g1
  exact ⟨⟨i, List.mem_range.1 g3, by rw [← g2, ← g4]; rfl⟩, h2, h3⟩
def hdT : List Op → T_api_Tour
  | [] => ⟨0, []⟩
  | y :: _ => y.tour
theorem Best_at {F : Nat} {p : Pr} {t : T_api_Tour} {d e : Int} {L : List Op} (h : recyclingref23_Options F p t d = some (L.map otour, e)) (he : (e ≠ 0 ∧ L = []) ∨ (e = 0 ∧ OkO p t d L)) :
    ∃ e', recyclingref23_Best F p t d = some (hdT L, e') ∧ (e' = 0 ↔ L ≠ []) ∧ (e ≠ 0 → e' = e) ∧ (e = 0 → L = [] → e' = 40) := by
  unfold recyclingref23_Best
  rw [h]
  simp only [Option.bind_some, oun]
  rcases he with ⟨h1, rfl⟩ | ⟨rfl, h2⟩
  · rw [show decide (e = 0) = false by simpa using h1]
    exact ⟨e, rfl, by simpa using h1, fun _ => rfl, fun h => absurd h h1⟩
  · cases L with
    | nil => exact ⟨40, rfl, by decide, fun h => absurd rfl h, fun _ _ => rfl⟩
    | cons y M =>
      have : ¬ (((((y :: M).map otour).length : Nat) : Int) = 0) := by simp; omega
      simp only [decide_true, Bool.not_true, cond_false, this, decide_false, List.map_cons]
      exact ⟨0, rfl, by simp, fun h => absurd rfl h, fun _ h => by cases h⟩
theorem pick_ref {F : Nat} {p : Pr} {T : List Op} {d : Int} (hp : OkP p) (hc : recyclingref22_Check p = some 0) (hT : T.length ≤ 1000) (ha : AllO F p d T) : ∀ (rest : List Op) (k : Nat) (s : Option (Nat × Op × Int)) (f : Nat), T.drop k = rest → k ≤ T.length → rest.length < f →
    iter (recyclingref23_Build_l2 F p (T.map otour) d) f ((encR s).1, (encR s).2.1, (encR s).2.2.1, (encR s).2.2.2, (k : Int)) = some ((encR (pickB (hdOp F p d) rest k s)).1, (encR (pickB (hdOp F p d) rest k s)).2.2.1, (encR (pickB (hdOp F p d) rest k s)).2.2.2)
  | [], k, s, 0, _, _, h => by simp at h
  | _ :: _, k, s, 0, _, _, h => by simp at h
  | [], k, s, f + 1, hd, hk, _ => by
    have : k = T.length := by have := congrArg List.length hd; simp at this; omega
    have h1 : ¬ ((k : Int) < (((T.map otour).length : Nat) : Int)) := by simp; omega
    simp only [iter, recyclingref23_Build_l2, oun, h1, decide_false, cond_false, Option.bind_some, osum, pickB]
  | x :: rest, k, s, f + 1, hd, hk, hf => by
    have hx : T[k]? = some x := by
      have := congrArg List.head? hd
      rwa [List.head?_drop] at this
    have hlt := lt_of_get hx
    have h1 : ((k : Int) < (((T.map otour).length : Nat) : Int)) := by simp; omega
    have hd2 : T.drop (k + 1) = rest := by rw [← List.drop_drop, hd]; rfl
    have e1 : w64 ((k : Int) + 1) = ((k + 1 : Nat) : Int) := by rw [w64_eq (by omega) (by omega)]; omega
    have hx2 : (T.map otour)[k]? = some x.tour := by rw [List.getElem?_map, hx]; rfl
    obtain ⟨hcx, L, e, ho, hr, hL⟩ := ha x (List.mem_of_getElem? hx)
    have hh : hdOp F p d x = L.head? := by unfold hdOp; rw [ho]; cases L <;> rfl
    obtain ⟨e', hb, he', _⟩ := Best_at hr hL
    rw [pickB, hh]
    cases L with
    | nil =>
      have ih := pick_ref hp hc hT ha rest (k + 1) s f hd2 (by omega) (by simp at hf; omega)
      have : ¬ e' = 0 := by simpa using he'
      simp only [iter, recyclingref23_Build_l2, oun, h1, decide_true, cond_true, getI_nat, hx2, Option.bind_some, hb, hdT, this, decide_false, Bool.not_false, e1, osum, List.head?_nil]
      exact ih
    | cons y M =>
      have : e' = 0 := by simpa using he'
      subst this
      have hy : y.cost = (costR p y.tour).1 := by
        rcases hL with ⟨_, h⟩ | ⟨_, h⟩
        · cases h
        · exact (h.isO (y := y) (by simp)).cost
      have c1 : recyclingref22_Cost p ⟨y.tour.Vehicle, y.tour.Stops⟩ = some (costR p y.tour) := ref_Cost hp hc _
      have c2 : recyclingref22_Cost p x.tour = some (costR p x.tour) := ref_Cost hp hc _
      cases s with
      | none =>
        have ih := pick_ref hp hc hT ha rest (k + 1) (some (k, y, w64 (y.cost - x.cost))) f hd2 (by omega) (by simp at hf; omega)
        simp only [iter, recyclingref23_Build_l2, oun, h1, decide_true, cond_true, getI_nat, hx2, Option.bind_some, hb, hdT, decide_true, Bool.not_true, cond_false, c1, c2, encR, show decide ((-1 : Int) < 0) = true from rfl, ← hy, ← hcx, e1, osum, List.head?_cons]
        exact ih
      | some z =>
        have hz0 : ¬ (((z.1 : Nat) : Int) < 0) := by omega
        by_cases hcc : w64 (y.cost - x.cost) < z.2.2
        · have ih := pick_ref hp hc hT ha rest (k + 1) (some (k, y, w64 (y.cost - x.cost))) f hd2 (by omega) (by simp at hf; omega)
          simp only [iter, recyclingref23_Build_l2, oun, h1, decide_true, cond_true, getI_nat, hx2, Option.bind_some, hb, hdT, decide_true, Bool.not_true, cond_false, c1, c2, encR, hz0, decide_false, hcc, ← hy, ← hcx, e1, osum, List.head?_cons]
          exact ih
        · have ih := pick_ref hp hc hT ha rest (k + 1) (some z) f hd2 (by omega) (by simp at hf; omega)
          simp only [iter, recyclingref23_Build_l2, oun, h1, decide_true, cond_true, getI_nat, hx2, Option.bind_some, hb, hdT, decide_true, Bool.not_true, cond_false, c1, c2, encR, hz0, decide_false, hcc, ← hy, ← hcx, e1, osum, List.head?_cons]
          exact ih
theorem pickB_or (h : Op → Option Op) : ∀ (rest : List Op) (k : Nat) (s : Option (Nat × Op × Int)) (z : Nat × Op × Int), pickB h rest k s = some z → s = some z ∨ ∃ i x, rest[i]? = some x ∧ z.1 = k + i ∧ h x = some z.2.1
  | [], _, _, _, hz => .inl hz
  | x :: r, k, s, z, hz => by
    rw [pickB] at hz
    rcases pickB_or h r (k + 1) _ z hz with h1 | ⟨i, y, g1, g2, g3⟩
    · cases hx : h x with
      | none => rw [hx] at h1; exact .inl h1
      | some y =>
        rw [hx] at h1
        have hn : ∀ w : Int, some (k, y, w) = some z → ∃ i x', (x :: r)[i]? = some x' ∧ z.1 = k + i ∧ h x' = some z.2.1 := fun w hw => by
          injection hw with hw; subst hw
          exact ⟨0, x, rfl, rfl, hx⟩
        cases s with
        | none => exact .inr (hn _ h1)
        | some u =>
          simp only at h1
          split at h1
          · exact .inr (hn _ h1)
          · exact .inl h1
    · exact .inr ⟨i + 1, y, by simpa using g1, by omega, g3⟩
theorem pickB_some (h : Op → Option Op) : ∀ (rest : List Op) (k : Nat) (z : Nat × Op × Int), pickB h rest k (some z) ≠ none
  | [], _, _ => by simp [pickB]
  | x :: r, k, z => by
    rw [pickB]
    cases h x with
    | none => exact pickB_some h r (k + 1) z
    | some y =>
      simp only
      split
      · exact pickB_some h r (k + 1) _
      · exact pickB_some h r (k + 1) _
theorem pickB_none (h : Op → Option Op) : ∀ (rest : List Op) (k : Nat), pickB h rest k none = none → ∀ x ∈ rest, h x = none
  | [], _, _ => by simp
  | x :: r, k, hn => by
    rw [pickB] at hn
    cases hx : h x with
    | none =>
      rw [hx] at hn
      intro y hy
      rcases List.mem_cons.1 hy with rfl | hy
      · exact hx
      · exact pickB_none h r (k + 1) hn y hy
    | some y =>
      rw [hx] at hn
      exact absurd hn (pickB_some h r (k + 1) _)
def stepB (h : Op → Option Op) (d : Int) (s : List Op × List Int) : List Op × List Int := match pickB h s.1 0 none with
  | none => (s.1, s.2 ++ [d])
  | some z => (s.1.set z.1 z.2.1, s.2)
def startB (n : Nat) : List Op := (List.range n).map fun (i : Nat) => ⟨⟨(i : Int), []⟩, 0⟩
def runB (F : Nat) (p : Pr) : Nat → List Op × List Int
  | 0 => (startB p.Vehicles.length, [])
  | k + 1 => stepB (hdOp F p k) k (runB F p k)
structure TourB (p : Pr) (i : Nat) (x : Op) : Prop where
  veh : x.tour.Vehicle = (i : Int)
  cost : x.cost = (costR p x.tour).1
  len : x.tour.Stops.length ≤ 40
  full : x.tour.Stops ≠ [] → (costR p x.tour).2 = 0 ∧ 2 ≤ x.tour.Stops.length ∧ x.tour.Stops.getLast? = some (-1)
def cnB (T : List Op) (e : Int) : Nat := (T.map fun x => x.tour.Stops.count e).sum
structure InvB (F : Nat) (p : Pr) (k : Nat) (s : List Op × List Int) : Prop where
  len : s.1.length = p.Vehicles.length
  tour : ∀ (i : Nat) (x : Op), s.1[i]? = some x → TourB p i x
  once : ∀ e : Nat, cnB s.1 (e : Int) + s.2.count (e : Int) = if e < k then 1 else 0
  lo : ∀ e ∈ s.2, 0 ≤ e ∧ e < (k : Int)
  asc : s.2.Pairwise (· < ·)
  ll : s.2.length ≤ k
  left : ∀ e ∈ s.2, ∀ (i : Nat) (x : Op), s.1[i]? = some x → x.tour.Stops = [] → hdOp F p e x = none
theorem cnB_set : ∀ (T : List Op) (i : Nat) (x y : Op) (e : Int), T[i]? = some x → cnB (T.set i y) e + x.tour.Stops.count e = cnB T e + y.tour.Stops.count e
  | [], i, _, _, _, h => by simp at h
  | z :: T, 0, x, y, e, h => by
    simp at h; subst h
    simp [cnB]; omega
  | z :: T, i + 1, x, y, e, h => by
    have := cnB_set T i x y e (by simpa using h)
    simp [cnB] at this ⊢; omega
theorem startB_get {n i : Nat} {x : Op} (h : (startB n)[i]? = some x) : x = ⟨⟨(i : Int), []⟩, 0⟩ := by
  unfold startB at h
  rw [List.getElem?_map] at h
  cases hr : (List.range n)[i]? with
  | none => rw [hr] at h; cases h
  | some j =>
    rw [hr] at h
    have := List.getElem?_eq_some_iff.1 hr
    obtain ⟨h1, h2⟩ := this
    simp at h2; subst h2
    simp at h
    exact h.symm
theorem startB_cn (n : Nat) (e : Int) : cnB (startB n) e = 0 := by
  unfold cnB startB
  rw [List.map_map]
  induction n with
  | zero => rfl
  | succ n ih => rw [List.range_succ, List.map_append, List.sum_append, ih]; rfl
theorem start_inv {F : Nat} {p : Pr} (hp : OkP p) : InvB F p 0 (startB p.Vehicles.length, []) where
  len := by simp [startB]
  tour := fun i x hx => by
    rw [startB_get hx]
    exact ⟨rfl, (costR_empty hp _).symm, by simp, fun h => absurd rfl h⟩
  once := fun e => by simp [startB_cn]
  lo := by simp
  asc := List.Pairwise.nil
  ll := by simp
  left := by simp
theorem hdO_is {F : Nat} {p : Pr} {d : Int} {x y : Op} (h : hdOp F p d x = some y) (ha : ∃ L e, insert_options F p x.tour d = some (L, e) ∧ ((e ≠ 0 ∧ L = []) ∨ (e = 0 ∧ OkO p x.tour d L))) : IsO p x.tour d y ∧ y.tour.Stops.length ≤ 40 := by
  obtain ⟨L, e, h1, h2⟩ := ha
  unfold hdOp at h
  rw [h1] at h
  cases L with
  | nil => cases h
  | cons z M =>
    injection h with h; subst h
    rcases h2 with ⟨_, h2⟩ | ⟨_, h2⟩
    · cases h2
    · exact ⟨h2.isO (by simp), h2.stops _ (by simp)⟩
theorem allO {F : Nat} (hF : 40000 ≤ F) {p : Pr} (hn : p.Road.Edges.length ≤ 600) {k : Nat} {s : List Op × List Int} (h : InvB F p k s) (d : Int) : AllO F p d s.1 := fun x hx => by
  obtain ⟨i, hi⟩ := List.getElem?_of_mem hx
  have h1 := h.tour i x hi
  obtain ⟨L, e, g1, g2, g3, _⟩ := options_both hF p hn x.tour (by have := h1.len; omega) d
  exact ⟨h1.cost, L, e, g1, g2, g3⟩
theorem step_inv {F : Nat} (hF : 40000 ≤ F) {p : Pr} (hn : p.Road.Edges.length ≤ 600) {k : Nat} {s : List Op × List Int} (h : InvB F p k s) : InvB F p (k + 1) (stepB (hdOp F p k) k s) := by
  have ha := allO hF hn h k
  unfold stepB
  cases hz : pickB (hdOp F p k) s.1 0 none with
  | none =>
    have hno := pickB_none _ _ _ hz
    refine ⟨h.len, h.tour, fun e => ?_, fun e he => ?_, ?_, ?_, fun e he i x hi hx => ?_⟩
    · have := h.once e
      show cnB s.1 (e : Int) + (s.2 ++ [(k : Int)]).count (e : Int) = _
      rw [List.count_append, List.count_singleton]
      by_cases hek : e = k
      · subst hek; simp at this ⊢; omega
      · have h1 : ¬ (((k : Int) == (e : Int)) = true) := by simp; omega
        rw [if_neg h1]
        by_cases h2 : e < k
        · rw [if_pos (by omega)]; rw [if_pos h2] at this; omega
        · rw [if_neg (by omega)]; rw [if_neg h2] at this; omega
    · rcases List.mem_append.1 he with h1 | h1
      · have := h.lo e h1; omega
      · rw [List.mem_singleton.1 h1]; omega
    · refine List.pairwise_append.2 ⟨h.asc, by simp, fun a ha b hb => ?_⟩
      rw [List.mem_singleton.1 hb]; exact (h.lo a ha).2
    · have := h.ll; simp; omega
    · rcases List.mem_append.1 he with h1 | h1
      · exact h.left e h1 i x hi hx
      · rw [List.mem_singleton.1 h1]; exact hno x (List.mem_of_getElem? hi)
  | some z =>
    obtain ⟨i, x, hi, hzi, hy⟩ : ∃ i x, s.1[i]? = some x ∧ z.1 = i ∧ hdOp F p k x = some z.2.1 := by
      rcases pickB_or _ _ _ _ _ hz with h1 | ⟨i, x, h1, h2, h3⟩
      · cases h1
      · exact ⟨i, x, h1, by omega, h3⟩
    obtain ⟨hcx, L, e, g1, _, g3⟩ := ha x (List.mem_of_getElem? hi)
    obtain ⟨hO, hl⟩ := hdO_is hy ⟨L, e, g1, g3⟩
    obtain ⟨j, _, hj⟩ := hO.cand
    have hx := h.tour i x hi
    have hcount : ∀ e : Nat, z.2.1.tour.Stops.count (e : Int) = x.tour.Stops.count (e : Int) + if e = k then 1 else 0 := fun e => by
      rw [hj]
      show (candAt x.tour.Stops k j).count (e : Int) = _
      rw [candAt_count _ _ _ (by omega)]
      by_cases h1 : e = k
      · subst h1; simp
      · rw [if_neg (by omega), if_neg h1]
    have htwo : 2 ≤ z.2.1.tour.Stops.length := by rw [hj]; exact candAt_two _ (by omega) _
    have hlast : z.2.1.tour.Stops.getLast? = some (-1) := by rw [hj]; exact candAt_last _ _ _
    have hg : ∀ (j : Nat) (w : Op), (s.1.set z.1 z.2.1)[j]? = some w → (j = i ∧ w = z.2.1) ∨ s.1[j]? = some w := fun j w hw => by
      rw [List.getElem?_set, hzi] at hw
      split at hw
      · rename_i h1
        split at hw
        · injection hw with hw; exact .inl ⟨h1.symm, hw.symm⟩
        · cases hw
      · exact .inr hw
    refine ⟨by show (s.1.set _ _).length = _; rw [List.length_set]; exact h.len, fun j w hw => ?_, fun e => ?_, fun e he => ?_, h.asc, by have := h.ll; show s.2.length ≤ _; omega, fun e he j w hw hws => ?_⟩
    · rcases hg j w hw with ⟨rfl, rfl⟩ | h1
      · exact ⟨by rw [hj]; exact hx.veh, hO.cost, hl, fun _ => ⟨hO.ok, htwo, hlast⟩⟩
      · exact h.tour j w h1
    · have h1 := cnB_set s.1 i x z.2.1 (e : Int) hi
      have h2 := h.once e
      rw [hcount e] at h1
      show cnB (s.1.set z.1 z.2.1) (e : Int) + s.2.count (e : Int) = _
      rw [hzi]
      by_cases hek : e = k
      · subst hek; rw [if_neg (by omega)] at h2; rw [if_pos (by omega)]; rw [if_pos rfl] at h1; omega
      · rw [if_neg hek] at h1
        by_cases h3 : e < k
        · rw [if_pos h3] at h2; rw [if_pos (by omega)]; omega
        · rw [if_neg h3] at h2; rw [if_neg (by omega)]; omega
    · have := h.lo e he; omega
    · rcases hg j w hw with ⟨_, rfl⟩ | h1
      · rw [hws] at htwo; simp at htwo
      · exact h.left e he j w h1 hws
theorem run_inv {F : Nat} (hF : 40000 ≤ F) {p : Pr} (hp : OkP p) (hn : p.Road.Edges.length ≤ 600) : ∀ k, InvB F p k (runB F p k)
  | 0 => start_inv hp
  | k + 1 => step_inv hF hn (run_inv hF hp hn k)
end Go.Proofs.YthpgjbbjpfiniaaGreat

namespace Go.Proofs.YthpgjbbjpfiniaaGreat
open Go.RowKit
set_option linter.unusedSimpArgs false
set_option linter.unusedVariables false
theorem op_eta (y : Op) : T_insert_option.mk (T_api_Tour.mk y.tour.Vehicle y.tour.Stops) y.cost = y := rfl
theorem build_step {F : Nat} (hF : 40000 ≤ F) {p : Pr} (hp : OkP p) (hc : recyclingref22_Check p = some 0) (hn : p.Road.Edges.length ≤ 600) (hv : p.Vehicles.length ≤ 1000) (hd : p.Demands.length ≤ 1000) {k : Nat} (hk : k < p.Demands.length) {s : List Op × List Int} (h : InvB F p k s) :
    insert_Build_l3 F p (s.1, s.2, (k : Int)) = some (.inl ((stepB (hdOp F p k) k s).1, (stepB (hdOp F p k) k s).2, ((k + 1 : Nat) : Int))) ∧
    recyclingref23_Build_l3 F p (s.1.map otour, s.2, (k : Int)) = some (.inl ((stepB (hdOp F p k) k s).1.map otour, (stepB (hdOp F p k) k s).2, ((k + 1 : Nat) : Int))) := by
  have ha := allO hF hn h k
  have hlen := h.len
  have hll := h.ll
  have h1 : ((k : Int) < ((p.Demands.length : Nat) : Int)) := by omega
  have e1 : w64 ((k : Int) + 1) = ((k + 1 : Nat) : Int) := by rw [w64_eq (by omega) (by omega)]; omega
  have q1 := pick_pro (F := F) (p := p) (T := s.1) (d := k) (by omega) ha s.1 0 none (((s.1.length : Nat) : Int).toNat + 1) (by simp) (by omega) (by simp) (fun z hz => by cases hz)
  have q2 := pick_ref (F := F) (p := p) (T := s.1) (d := k) hp hc (by omega) ha s.1 0 none (((s.1.length : Nat) : Int).toNat + 1) (by simp) (by omega) (by simp)
  have hml : (s.1.map otour).length = s.1.length := by simp
  have q1' : iter (insert_Build_l2 F p s.1 (k : Int)) (((s.1.length : Nat) : Int).toNat + 1) (0, [], 0, -1, 0) = some (encP (pickB (hdOp F p k) s.1 0 none)) := q1
  have q2' : iter (recyclingref23_Build_l2 F p (s.1.map otour) (k : Int)) (((s.1.length : Nat) : Int).toNat + 1) (-1, 0, 0, [], 0) = some ((encR (pickB (hdOp F p k) s.1 0 none)).1, (encR (pickB (hdOp F p k) s.1 0 none)).2.2.1, (encR (pickB (hdOp F p k) s.1 0 none)).2.2.2) := q2
  unfold insert_Build_l3 recyclingref23_Build_l3 stepB
  simp only [oun, h1, decide_true, cond_true, hml, q1', q2', Option.bind_some]
  cases hz : pickB (hdOp F p k) s.1 0 none with
  | none =>
    simp only [encP, encR, show decide ((-1 : Int) < 0) = true from rfl, cond_true, e1, Option.bind_some]
    rw [appO_eq (by simp; omega)]
    exact ⟨rfl, rfl⟩
  | some z =>
    obtain ⟨i, x, hi, hzi⟩ : ∃ i x, s.1[i]? = some x ∧ z.1 = i := by
      rcases pickB_or _ _ _ _ _ hz with h1 | ⟨i, x, h1, h2, h3⟩
      · cases h1
      · exact ⟨i, x, h1, by omega⟩
    have hz0 : ¬ (((z.1 : Nat) : Int) < 0) := by omega
    have g1 : s.1[z.1]? = some x := by rw [hzi]; exact hi
    have g2 : (s.1.map otour)[z.1]? = some x.tour := by rw [List.getElem?_map, g1]; rfl
    simp only [encP, encR, hz0, decide_false, cond_false, getI_nat, g1, g2, Option.bind_some, e1, setI, Int.toNat_natCast, op_eta]
    first | exact ⟨rfl, by rw [List.map_set]⟩ | simp [List.map_set]
theorem build_loop {F : Nat} (hF : 40000 ≤ F) {p : Pr} (hp : OkP p) (hc : recyclingref22_Check p = some 0) (hn : p.Road.Edges.length ≤ 600) (hv : p.Vehicles.length ≤ 1000) (hd : p.Demands.length ≤ 1000) : ∀ (r k f : Nat), k + r = p.Demands.length → r < f →
    iter (insert_Build_l3 F p) f ((runB F p k).1, (runB F p k).2, (k : Int)) = some (runB F p p.Demands.length) ∧
    iter (recyclingref23_Build_l3 F p) f ((runB F p k).1.map otour, (runB F p k).2, (k : Int)) = some ((runB F p p.Demands.length).1.map otour, (runB F p p.Demands.length).2)
  | _, _, 0, _, h => by omega
  | 0, k, f + 1, hk, _ => by
    have : k = p.Demands.length := by omega
    subst this
    simp only [iter, insert_Build_l3, recyclingref23_Build_l3, oun, Int.lt_irrefl, decide_false, cond_false, Option.bind_some, osum]
    first | exact ⟨rfl, rfl⟩ | exact ⟨trivial, trivial⟩ | simp
  | r + 1, k, f + 1, hk, hf => by
    obtain ⟨h1, h2⟩ := build_step hF hp hc hn hv hd (by omega) (run_inv hF hp hn k)
    obtain ⟨i1, i2⟩ := build_loop hF hp hc hn hv hd r (k + 1) f (by omega) (by omega)
    simp only [iter, h1, h2, Option.bind_some, osum]
    exact ⟨i1, i2⟩
def usedB (T : List Op) : List T_api_Tour := (T.map otour).filter fun t => decide (0 < t.Stops.length)
theorem usedB_snoc (T : List Op) (x : Op) : usedB (T ++ [x]) = usedB T ++ if 0 < x.tour.Stops.length then [x.tour] else [] := by
  unfold usedB
  rw [List.map_append, List.filter_append]
  by_cases h : 0 < x.tour.Stops.length
  · simp [h]
  · simp [h]
theorem usedB_len (T : List Op) : (usedB T).length ≤ T.length := by
  unfold usedB
  refine Nat.le_trans (List.length_filter_le _ _) (by simp)
theorem used_loop (T : List Op) (hT : T.length ≤ 1000) :
    iter (insert_Build_l4 T) (((T.length : Nat) : Int).toNat + 1) ([], 0) = some (usedB T) ∧
    iter (recyclingref23_Build_l4 (T.map otour)) ((((T.map otour).length : Nat) : Int).toNat + 1) ([], 0) = some (usedB T) := by
  have hml : (T.map otour).length = T.length := by simp
  constructor
  · have := iter_stI (body := insert_Build_l4 T) T (fun k => usedB (T.take k)) (fun m k => (m, k)) (fun _ _ => none) (usedB T) (by omega) (fun k x hx _ => ?_) (fun _ => by simp only [insert_Build_l4, oun, List.take_length]; simp) (((T.length : Nat) : Int).toNat + 1) (by simp)
    · rw [firstI_none _ _ (fun _ _ _ => rfl)] at this
      exact this
    · have hk := lt_of_get hx
      have hk2 : ((k : Int) < (T.length : Nat)) := by omega
      have hul := usedB_len (T.take k)
      rw [length_take' (Nat.le_of_lt hk)] at hul
      simp only [insert_Build_l4, oun, hk2, decide_true, cond_true, getI_nat, hx, Option.bind_some, pickO]
      rw [take_succ' hx, usedB_snoc]
      by_cases h : 0 < x.tour.Stops.length
      · have h' : (0 : Int) < ((x.tour.Stops.length : Nat) : Int) := by omega
        simp only [h, h', decide_true, cond_true, if_true]
        rw [appO_eq (by simp; omega)]
        rfl
      · have h' : ¬ (0 : Int) < ((x.tour.Stops.length : Nat) : Int) := by omega
        simp only [h, h', decide_false, cond_false, if_false, List.append_nil, Option.bind_some]
  · have := iter_stI (body := recyclingref23_Build_l4 (T.map otour)) T (fun k => usedB (T.take k)) (fun m k => (m, k)) (fun _ _ => none) (usedB T) (by omega) (fun k x hx _ => ?_) (fun _ => by simp only [recyclingref23_Build_l4, oun, List.take_length, hml]; simp) (((T.length : Nat) : Int).toNat + 1) (by simp)
    · rw [firstI_none _ _ (fun _ _ _ => rfl)] at this
      rw [hml]
      exact this
    · have hk := lt_of_get hx
      have hk2 : ((k : Int) < (T.length : Nat)) := by omega
      have hul := usedB_len (T.take k)
      rw [length_take' (Nat.le_of_lt hk)] at hul
      have hx2 : (T.map otour)[k]? = some x.tour := by rw [List.getElem?_map, hx]; rfl
      simp only [recyclingref23_Build_l4, oun, hml, hk2, decide_true, cond_true, getI_nat, hx2, Option.bind_some, pickO]
      rw [take_succ' hx, usedB_snoc]
      by_cases h : 0 < x.tour.Stops.length
      · have h' : (0 : Int) < ((x.tour.Stops.length : Nat) : Int) := by omega
        simp only [h, h', decide_true, cond_true, if_true]
        rw [appO_eq (by simp; omega)]
        rfl
      · have h' : ¬ (0 : Int) < ((x.tour.Stops.length : Nat) : Int) := by omega
        simp only [h, h', decide_false, cond_false, if_false, List.append_nil, Option.bind_some]
theorem startB_pro (n : Nat) (hn : n ≤ 1000) : ∃ l, makeO (T_insert_option.mk (T_api_Tour.mk 0 []) 0) ((n : Nat) : Int) = some l ∧ l.length = n ∧ iter (insert_Build_l1 l) (((l.length : Nat) : Int).toNat + 1) (l, 0) = some (startB n) := by
  have hm : makeO (T_insert_option.mk (T_api_Tour.mk 0 []) 0) ((n : Nat) : Int) = some (List.replicate n (T_insert_option.mk (T_api_Tour.mk 0 []) 0)) := by
    unfold makeO
    rw [if_pos (by omega), Int.toNat_natCast]
  refine ⟨_, hm, by simp, ?_⟩
  generalize hl : List.replicate n (T_insert_option.mk (T_api_Tour.mk 0 []) 0) = l
  have hln : l.length = n := by rw [← hl]; simp
  have := iter_stI (body := insert_Build_l1 l) l (fun k => startB k ++ l.drop k) (fun m k => (m, k)) (fun _ _ => none) (startB n) (by omega) (fun k x hx _ => ?_) (fun _ => by simp only [insert_Build_l1, oun, hln]; simp [List.drop_of_length_le (Nat.le_of_eq hln)]) (((l.length : Nat) : Int).toNat + 1) (by simp)
  · rw [firstI_none _ _ (fun _ _ _ => rfl)] at this
    simpa [startB] using this
  · have hk := lt_of_get hx
    have hk2 : ((k : Int) < (l.length : Nat)) := by omega
    have hx0 : x = ⟨⟨0, []⟩, 0⟩ := by
      rw [← hl, List.getElem?_replicate] at hx
      split at hx
      · injection hx with hx; exact hx.symm
      · cases hx
    have hsl : (startB k).length = k := by simp [startB]
    have hdr : l.drop k = x :: l.drop (k + 1) := by
      rw [List.drop_eq_getElem_cons hk]
      congr 1
      rw [List.getElem?_eq_getElem hk] at hx
      injection hx
    have hg : (startB k ++ l.drop k)[k]? = some x := by
      rw [List.getElem?_append_right (by omega), hsl, Nat.sub_self, hdr]; rfl
    simp only [insert_Build_l1, oun, hk2, decide_true, cond_true, getI_nat, hg, Option.bind_some, pickO, setI, Int.toNat_natCast]
    rw [List.set_append_right _ _ (by omega), hsl, Nat.sub_self, hdr, List.set_cons_zero]
    have : startB (k + 1) = startB k ++ [⟨⟨(k : Int), []⟩, 0⟩] := by simp [startB, List.range_succ]
    rw [this, hx0]
    simp
theorem startB_ref {p : Pr} (hv : p.Vehicles.length ≤ 1000) : iter (recyclingref23_Build_l1 p) (((p.Vehicles.length : Nat) : Int).toNat + 1) ([], 0) = some ((startB p.Vehicles.length).map otour) := by
  have := iter_stI (body := recyclingref23_Build_l1 p) p.Vehicles (fun k => (startB k).map otour) (fun m k => (m, k)) (fun _ _ => none) ((startB p.Vehicles.length).map otour) (by omega) (fun k x hx _ => ?_) (fun _ => by simp only [recyclingref23_Build_l1, oun]; simp) (((p.Vehicles.length : Nat) : Int).toNat + 1) (by simp)
  · rw [firstI_none _ _ (fun _ _ _ => rfl)] at this
    exact this
  · have hk := lt_of_get hx
    have hk2 : ((k : Int) < (p.Vehicles.length : Nat)) := by omega
    simp only [recyclingref23_Build_l1, oun, hk2, decide_true, cond_true, pickO]
    have : startB (k + 1) = startB k ++ [⟨⟨(k : Int), []⟩, 0⟩] := by simp [startB, List.range_succ]
    rw [appO_eq (by simp [startB]; omega), this, List.map_append]
    rfl
def planB (F : Nat) (p : Pr) : T_api_Plan := ⟨usedB (runB F p p.Demands.length).1, (runB F p p.Demands.length).2⟩
theorem build_both {F : Nat} (hF : 40000 ≤ F) (p : Pr) (hn : p.Road.Edges.length ≤ 600) (hv : p.Vehicles.length ≤ 1000) (hd : p.Demands.length ≤ 1000) :
    ∃ e, recyclingref22_Check p = some e ∧ ((e ≠ 0 ∧ insert_Build F p = some (⟨[], []⟩, e) ∧ recyclingref23_Build F p = some (⟨[], []⟩, e)) ∨ (e = 0 ∧ OkP p ∧ insert_Build F p = some (planB F p, 0) ∧ recyclingref23_Build F p = some (planB F p, 0))) := by
  unfold insert_Build recyclingref23_Build
  rw [tour_Check_eq (by omega) p hn]
  rcases Check_cases p hn with ⟨h1, h2⟩ | ⟨e, h1, h2⟩
  · refine ⟨0, h1, .inr ⟨rfl, h2, ?_⟩⟩
    obtain ⟨l, q1, q2, q3⟩ := startB_pro p.Vehicles.length hv
    obtain ⟨b1, b2⟩ := build_loop hF h2 h1 hn hv hd p.Demands.length 0 (((p.Demands.length : Nat) : Int).toNat + 1) (by omega) (by simp)
    have hr := (run_inv hF h2 hn p.Demands.length).len
    obtain ⟨u1, u2⟩ := used_loop (runB F p p.Demands.length).1 (by omega)
    have b1' : iter (insert_Build_l3 F p) (((p.Demands.length : Nat) : Int).toNat + 1) (startB p.Vehicles.length, [], 0) = some (runB F p p.Demands.length) := b1
    have b2' : iter (recyclingref23_Build_l3 F p) (((p.Demands.length : Nat) : Int).toNat + 1) ((startB p.Vehicles.length).map otour, [], 0) = some ((runB F p p.Demands.length).1.map otour, (runB F p p.Demands.length).2) := b2
    rw [h1]
    simp only [Option.bind_some, decide_true, Bool.not_true, cond_false, q1, q3, startB_ref hv, b1', b2', oun, u1, u2]
    exact ⟨rfl, rfl⟩
  · refine ⟨e, h2, .inl ⟨h1, ?_⟩⟩
    rw [h2]
    simp only [Option.bind_some]
    rw [show decide (e = 0) = false by simpa using h1]
    exact ⟨rfl, rfl⟩
theorem used_mem {T : List Op} {t : T_api_Tour} (h : t ∈ usedB T) : ∃ (i : Nat) (x : Op), T[i]? = some x ∧ x.tour = t ∧ t.Stops ≠ [] := by
  obtain ⟨h1, h2⟩ := List.mem_filter.1 h
  obtain ⟨x, h3, rfl⟩ := List.mem_map.1 h1
  obtain ⟨i, hi⟩ := List.getElem?_of_mem h3
  refine ⟨i, x, hi, rfl, fun h => ?_⟩
  have := of_decide_eq_true h2
  rw [h] at this
  simp at this
theorem plan_small {F : Nat} (hF : 40000 ≤ F) {p : Pr} (hp : OkP p) (hn : p.Road.Edges.length ≤ 600) : (planB F p).Tours.length ≤ p.Vehicles.length ∧ (planB F p).Left.length ≤ p.Demands.length ∧ ∀ t ∈ (planB F p).Tours, t.Stops.length ≤ 40 := by
  have h := run_inv hF hp hn p.Demands.length
  refine ⟨by rw [← h.len]; exact usedB_len _, h.ll, fun t ht => ?_⟩
  obtain ⟨i, x, h1, rfl, _⟩ := used_mem ht
  exact (h.tour i x h1).len
end Go.Proofs.YthpgjbbjpfiniaaGreat

namespace Go.Proofs.YthpgjbbjpfiniaaGreat
open Go.RowKit
set_option linter.unusedSimpArgs false
set_option linter.unusedVariables false
theorem tn_used (d : Nat) : ∀ (T : List Op), tn (usedB T) d = cnB T (d : Int)
  | [] => rfl
  | x :: T => by
    have ih := tn_used d T
    unfold usedB tn at ih ⊢
    unfold cnB at ih ⊢
    rw [List.map_cons, List.filter_cons, List.map_cons, List.sum_cons, ← ih]
    by_cases h : 0 < x.tour.Stops.length
    · simp [otour, h, cn]
    · have : x.tour.Stops = [] := List.eq_nil_of_length_eq_zero (by omega)
      simp [otour, this]
theorem used_asc {F : Nat} {p : Pr} {k : Nat} {s : List Op × List Int} (h : InvB F p k s) : (usedB s.1).Pairwise fun a b => a.Vehicle < b.Vehicle := by
  unfold usedB
  refine List.Pairwise.sublist List.filter_sublist ?_
  rw [List.pairwise_map, List.pairwise_iff_getElem]
  intro i j hi hj hij
  have h1 := (h.tour i _ (List.getElem?_eq_getElem hi)).veh
  have h2 := (h.tour j _ (List.getElem?_eq_getElem hj)).veh
  show s.1[i].tour.Vehicle < s.1[j].tour.Vehicle
  rw [h1, h2]; omega
theorem costR_inl {p : Pr} {t : T_api_Tour} (h : (costR p t).2 = 0) : ∃ u, tourR p t = .inl u := by
  unfold costR at h
  cases hr : tourR p t with
  | inl u => exact ⟨u, rfl⟩
  | inr q => rw [hr] at h; exact absurd h (tourR_err hr)
theorem plan_ok {F : Nat} (hF : 40000 ≤ F) {p : Pr} (hn : p.Road.Edges.length ≤ 600) (hp : OkP p) (hc : recyclingref22_Check p = some 0) (x : T_api_Plan) (hx : x.Tours.length ≤ 30) (hl : x.Left.length ≤ 100)
    (ha : x.Tours.Pairwise fun a b => a.Vehicle < b.Vehicle) (ht : ∀ t ∈ x.Tours, (costR p t).2 = 0) (hb : ∀ e ∈ x.Left, 0 ≤ e ∧ e < ((p.Demands.length : Nat) : Int)) (h1 : ∀ d, d < p.Demands.length → tn x.Tours d + cn x.Left d = 1) :
    tour_plan F p x = some (costs p x.Tours, 0) := by
  have hdl := hp.dl
  have hbad : ∀ (k : Nat) (t : To), x.Tours[k]? = some t → badT p x.Tours k t = none := fun k t hk => by
    obtain ⟨u, hu⟩ := costR_inl (ht t (List.mem_of_getElem? hk))
    have hany : (x.Tours.take k).any (fun u => decide (u.Vehicle = t.Vehicle)) = false := by
      rw [List.any_eq_false]
      intro y hy he
      obtain ⟨j, hj⟩ := List.getElem?_of_mem hy
      have hjk := lt_of_get hj
      have hkl := lt_of_get hk
      rw [length_take' (Nat.le_of_lt hkl)] at hjk
      rw [List.getElem?_take, if_pos hjk] at hj
      have := List.pairwise_iff_getElem.1 ha j k (by omega) hkl hjk
      rw [List.getElem?_eq_getElem (by omega)] at hj hk
      injection hj with hj
      injection hk with hk
      rw [hj, hk, of_decide_eq_true he] at this
      omega
    unfold badT
    rw [hany, hu]
    rfl
  have hall : ∀ t ∈ x.Tours, (∀ s ∈ t.Stops, okS p.Demands.length s) ∧ t.Stops.length ≤ 40 := fun t htm => by
    obtain ⟨u, hu⟩ := costR_inl (ht t htm)
    exact (cost_bound hp hu).2.2
  have q1 := plan_l1 hF hp x hx
  rw [firstI_none _ _ (fun i t hi => by rw [Nat.zero_add, hbad i t hi]; rfl)] at q1
  have q3 := (left_loop (n := p.Demands.length) x (fun _ => 0) (by omega) (fun _ => Nat.zero_le _)).1
  have q4 := (tours_loop (n := p.Demands.length) x (fun d => 0 + cn x.Left d) (by omega) (fun d => by have := cn_le x.Left d; omega) (fun t htm => by have := (hall t htm).2; omega) (fun t htm => (hall t htm).1)).1
  have hbl : badL p.Demands.length x.Left = false := by
    unfold badL
    rw [List.any_eq_false]
    intro e he
    have := hb e he
    simp; omega
  have hv : (vec p.Demands.length fun d => 0 + cn x.Left d + tn x.Tours d) = vec p.Demands.length fun _ => 1 := vec_ext fun d hd => by have := h1 d hd; omega
  rw [hv] at q4
  rw [hbl] at q3
  have hmem : ∀ c ∈ vec p.Demands.length (fun _ => 1), c = (1 : Int) := fun c hc => by
    unfold vec at hc
    obtain ⟨j, _, rfl⟩ := List.mem_map.1 hc
    rfl
  have a1 : (vec p.Demands.length (fun _ => 1)).any (fun c => decide (1 < c)) = false := by
    rw [List.any_eq_false]; intro c hc; rw [hmem c hc]; decide
  have a2 : (vec p.Demands.length (fun _ => 1)).any (fun c => decide (c = 0)) = false := by
    rw [List.any_eq_false]; intro c hc; rw [hmem c hc]; decide
  unfold tour_plan
  rw [tour_Check_eq (by omega) _ hn, hc]
  simp only [Option.bind_some, decide_true, Bool.not_true, cond_false]
  rw [q1]
  simp only [Option.bind_some, osum]
  rw [make_vec _ (by omega)]
  simp only [Option.bind_some]
  rw [q3]
  simp only [cond_false, Option.bind_some, osum]
  rw [q4]
  simp only [Option.bind_some]
  rw [more_eq _ (by rw [vec_len]; omega), zero_eq _ (by rw [vec_len]; omega), a1, a2]
  rfl
theorem planB_ok {F : Nat} (hF : 40000 ≤ F) {p : Pr} (hn : p.Road.Edges.length ≤ 600) (hv : p.Vehicles.length ≤ 30) (hp : OkP p) (hc : recyclingref22_Check p = some 0) : tour_plan F p (planB F p) = some (costs p (planB F p).Tours, 0) := by
  have h := run_inv hF hp hn p.Demands.length
  obtain ⟨l1, l2, l3⟩ := plan_small hF hp hn
  have hdl := hp.dl
  refine plan_ok hF hn hp hc _ (by omega) (by omega) (used_asc h) (fun t ht => ?_) h.lo (fun d hd => ?_)
  · obtain ⟨i, x, g1, rfl, g2⟩ := used_mem ht
    exact ((h.tour i x g1).full g2).1
  · have := h.once d
    rw [if_pos hd] at this
    show tn (usedB _) d + cn _ d = 1
    rw [tn_used]
    exact this
end Go.Proofs.YthpgjbbjpfiniaaGreat

namespace Go.Proofs.YthpgjbbjpfiniaaGreat
open Go.RowKit
set_option linter.unusedSimpArgs false
set_option linter.unusedVariables false
structure Fe (p : Pr) (x : Pl) : Prop where
  ok : OkP p
  chk : recyclingref22_Check p = some 0
  drv : ∀ t ∈ x.Tours, (costR p t).2 = 0
  dis : x.Tours.Pairwise fun a b => a.Vehicle ≠ b.Vehicle
  lft : ∀ e ∈ x.Left, 0 ≤ e ∧ e < ((p.Demands.length : Nat) : Int)
  one : ∀ d, d < p.Demands.length → tn x.Tours d + cn x.Left d = 1
theorem ansC_one {n : Nat} {f : Nat → Nat} (h : ansC (vec n f) = 0) : ∀ d, d < n → f d = 1 := fun d hd => by
  unfold ansC at h
  have hm : ((f d : Nat) : Int) ∈ vec n f := List.mem_of_getElem? (vec_get f hd)
  cases h1 : (vec n f).any fun c => decide (1 < c) with
  | true => rw [h1] at h; cases h
  | false =>
    rw [h1] at h
    simp only [cond_false] at h
    cases h2 : (vec n f).any fun c => decide (c = 0) with
    | true => rw [h2] at h; cases h
    | false =>
      rw [List.any_eq_false] at h1 h2
      have a1 := h1 _ hm
      have a2 := h2 _ hm
      simp at a1 a2
      omega
theorem badT_dis {p : Pr} {ts : List To} (h : ∀ (k : Nat) (t : To), ts[k]? = some t → badT p ts k t = none) : ts.Pairwise fun a b => a.Vehicle ≠ b.Vehicle := by
  rw [List.pairwise_iff_getElem]
  intro i j hi hj hij he
  have := h j _ (List.getElem?_eq_getElem hj)
  unfold badT at this
  have hany : (ts.take j).any (fun u => decide (u.Vehicle = ts[j].Vehicle)) = true := by
    rw [List.any_eq_true]
    refine ⟨ts[i], ?_, by simpa using he⟩
    refine List.mem_of_getElem? (i := i) ?_
    rw [List.getElem?_take, if_pos hij, List.getElem?_eq_getElem hi]
  rw [hany] at this
  cases this
theorem costR_of_inl {p : Pr} {t : To} {u : Vi × List Vi × Ve} (h : tourR p t = .inl u) : (costR p t).2 = 0 := by unfold costR; rw [h]
theorem plan_inv {F : Nat} (hF : 40000 ≤ F) {p : Pr} (hn : p.Road.Edges.length ≤ 600) (x : Pl) (hx : x.Tours.length ≤ 30) (hl : x.Left.length ≤ 100) :
    ∃ s e, tour_plan F p x = some (s, e) ∧ recyclingref22_Feasible p x = some e ∧ recyclingref22_Total p x = some (s, e) ∧ (e = 0 → s = costs p x.Tours ∧ Fe p x) := by
  obtain ⟨s, e, h1, h2, h3⟩ := plan_both hF hn x hx hl
  refine ⟨s, e, h1, h2, h3, fun he => ?_⟩
  subst he
  rcases Check_cases p hn with ⟨g1, g2⟩ | ⟨e, g1, g2⟩
  · rcases firstI_map (badT p x.Tours) x.Tours 0 with k1 | ⟨c, i, t, k1, k2⟩
    · simp only [Nat.zero_add] at k1
      have hdl := g2.dl
      have hall : ∀ t ∈ x.Tours, (∀ s ∈ t.Stops, okS p.Demands.length s) ∧ t.Stops.length ≤ 40 := fun t htm => by
        obtain ⟨i, hi⟩ := List.getElem?_of_mem htm
        obtain ⟨u, hu⟩ := badT_none (k1 i t hi)
        exact (cost_bound g2 hu).2.2
      have q1 := plan_l1 hF g2 x hx
      rw [firstI_none _ _ (fun i t hi => by rw [Nat.zero_add, k1 i t hi]; rfl)] at q1
      have q3 := (left_loop (n := p.Demands.length) x (fun _ => 0) (by omega) (fun _ => Nat.zero_le _)).1
      have q4 := (tours_loop (n := p.Demands.length) x (fun d => 0 + cn x.Left d) (by omega) (fun d => by have := cn_le x.Left d; omega) (fun t htm => by have := (hall t htm).2; omega) (fun t htm => (hall t htm).1)).1
      have hpl : tour_plan F p x = some (bif badL p.Demands.length x.Left then (0, 7) else (bif decide (ansC (vec p.Demands.length fun d => 0 + cn x.Left d + tn x.Tours d) = 0) then costs p x.Tours else 0, ansC (vec p.Demands.length fun d => 0 + cn x.Left d + tn x.Tours d))) := by
        unfold tour_plan
        rw [tour_Check_eq (by omega) _ hn, g1]
        simp only [Option.bind_some, decide_true, Bool.not_true, cond_false]
        rw [q1]
        simp only [Option.bind_some, osum]
        rw [make_vec _ (by omega)]
        simp only [Option.bind_some]
        rw [q3]
        cases badL p.Demands.length x.Left with
        | true => rfl
        | false =>
          simp only [cond_false, Option.bind_some, osum]
          rw [q4]
          simp only [Option.bind_some]
          rw [more_eq _ (by rw [vec_len]; omega), zero_eq _ (by rw [vec_len]; omega)]
          unfold ansC
          simp only [Option.bind_some]
          generalize (vec p.Demands.length fun d => 0 + cn x.Left d + tn x.Tours d).any (fun c => decide (1 < c)) = a
          generalize (vec p.Demands.length fun d => 0 + cn x.Left d + tn x.Tours d).any (fun c => decide (c = 0)) = b
          cases a <;> cases b <;> rfl
      rw [h1] at hpl
      cases hbl : badL p.Demands.length x.Left with
      | true => rw [hbl] at hpl; cases hpl
      | false =>
        rw [hbl] at hpl
        simp only [cond_false, Option.some.injEq, Prod.mk.injEq] at hpl
        obtain ⟨p1, p2⟩ := hpl
        rw [← p2] at p1
        simp only [decide_true, cond_true] at p1
        refine ⟨p1, g2, g1, fun t ht => ?_, badT_dis k1, fun e he => ?_, fun d hd => ?_⟩
        · obtain ⟨i, hi⟩ := List.getElem?_of_mem ht
          obtain ⟨u, hu⟩ := badT_none (k1 i t hi)
          exact costR_of_inl hu
        · unfold badL at hbl
          rw [List.any_eq_false] at hbl
          have := hbl e he
          simp at this
          omega
        · have := ansC_one p2.symm d hd
          omega
    · exfalso
      have hc0 := badT_err k1
      have q1 := plan_l1 hF g2 x hx
      rw [k2] at q1
      unfold tour_plan at h1
      rw [tour_Check_eq (by omega) _ hn, g1] at h1
      simp only [Option.bind_some, decide_true, Bool.not_true, cond_false] at h1
      rw [q1] at h1
      simp only [Option.bind_some, osum, Option.some.injEq, Prod.mk.injEq] at h1
      exact hc0 h1.2
  · exfalso
    unfold tour_plan at h1
    rw [tour_Check_eq (by omega) _ hn, g2] at h1
    simp only [Option.bind_some] at h1
    rw [show decide (e = 0) = false by simpa using g1] at h1
    simp only [Bool.not_false, cond_true, Option.some.injEq, Prod.mk.injEq] at h1
    exact g1 h1.2
theorem Fe.tour {p : Pr} {x : Pl} (h : Fe p x) {t : To} (ht : t ∈ x.Tours) : 0 ≤ t.Vehicle ∧ t.Vehicle < ((p.Vehicles.length : Nat) : Int) ∧ t.Stops.length ≤ 40 ∧ (∀ s ∈ t.Stops, okS p.Demands.length s) ∧ ∃ u, tourR p t = .inl u := by
  obtain ⟨u, hu⟩ := costR_inl (h.drv t ht)
  obtain ⟨z, y, hf, _, _⟩ := tourR_ok hu
  exact ⟨hf.t0, hf.t1, hf.sl, (cost_bound h.ok hu).2.2.1, u, hu⟩
theorem ofP_mem (x : Pl) (v : Int) : (ofP x v ∈ x.Tours ∧ (ofP x v).Vehicle = v) ∨ ofP x v = ⟨v, []⟩ := by
  unfold ofP
  cases h : x.Tours.find? fun t => decide (t.Vehicle = v) with
  | none => exact .inr rfl
  | some t =>
    have h1 := List.find?_some h
    exact .inl ⟨List.mem_of_find?_eq_some h, by simpa using h1⟩
theorem ofP_veh (x : Pl) (v : Int) : (ofP x v).Vehicle = v := by
  rcases ofP_mem x v with ⟨_, h⟩ | h
  · exact h
  · rw [h]
theorem Fe.of_len {p : Pr} {x : Pl} (h : Fe p x) (v : Int) : (ofP x v).Stops.length ≤ 40 := by
  rcases ofP_mem x v with ⟨h1, _⟩ | h1
  · exact (h.tour h1).2.2.1
  · rw [h1]; simp
theorem wo_len (d : Int) (l : List Int) : (wo d l).length ≤ l.length := List.length_filter_le _ _
theorem wo_not (d : Int) (l : List Int) : d ∉ wo d l := fun h => by
  unfold wo at h
  simp at h
theorem wo_count {d e : Int} (l : List Int) (h : e ≠ d) : (wo d l).count e = l.count e := by
  unfold wo
  rw [List.count_filter (by simpa using h)]
theorem wo_split {d : Int} : ∀ (l : List Int), l.count d ≤ 1 → d ∈ l → ∃ n, l[n]? = some d ∧ wo d l = l.take n ++ l.drop (n + 1)
  | [], _, h => by cases h
  | a :: r, hc, h => by
    by_cases ha : a = d
    · subst ha
      have h0 : r.count a = 0 := by simp at hc; omega
      have h1 : wo a r = r := wo_self fun y hy => by
        have : a ∉ r := List.count_eq_zero.1 h0
        simp only [decide_eq_false_iff_not]
        intro e; rw [e] at hy; exact this hy
      exact ⟨0, rfl, by simp [wo] at h1 ⊢; exact h1⟩
    · have hr : d ∈ r := by rcases List.mem_cons.1 h with e | h; exact absurd e.symm ha; exact h
      have hc2 : r.count d ≤ 1 := by rw [List.count_cons] at hc; omega
      obtain ⟨n, h1, h2⟩ := wo_split r hc2 hr
      refine ⟨n + 1, by simpa using h1, ?_⟩
      unfold wo at h2 ⊢
      simp [ha, h2]
theorem tn_ge {ts : List To} {t : To} (h : t ∈ ts) (d : Nat) : cn t.Stops d ≤ tn ts d := by
  induction ts with
  | nil => cases h
  | cons u ts ih =>
    simp only [tn, List.map_cons, List.sum_cons]
    rcases List.mem_cons.1 h with rfl | h
    · omega
    · have := ih h; unfold tn at this; omega
theorem Fe.less {p : Pr} {x : Pl} (h : Fe p x) {d : Int} (h0 : 0 ≤ d) (h1 : d < ((p.Demands.length : Nat) : Int)) {t : To} (ht : t ∈ x.Tours) : (costR p ⟨t.Vehicle, wo d t.Stops⟩).2 = 0 := by
  obtain ⟨_, _, _, _, u, hu⟩ := h.tour ht
  by_cases hd : d ∈ t.Stops
  · have hc : t.Stops.count d ≤ 1 := by
      have a1 := h.one d.toNat (by omega)
      have a2 := tn_ge ht d.toNat
      unfold cn at a2
      rw [show ((d.toNat : Nat) : Int) = d by omega] at a2
      omega
    obtain ⟨n, e1, e2⟩ := wo_split t.Stops hc hd
    have := fewer_core h.ok hu e1 h0
    rw [← e2] at this
    unfold walkR at this
    cases hr : tourR p ⟨t.Vehicle, wo d t.Stops⟩ with
    | inl w => exact costR_of_inl hr
    | inr q => rw [hr] at this; exact absurd this (tourR_err hr)
  · rw [wo_self (fun y hy => by simp only [decide_eq_false_iff_not]; intro e; rw [e] at hy; exact hd hy)]
    exact h.drv t ht
theorem sum_ite {n k : Nat} (a : Nat) (f : Nat → Nat) (hk : k < n) (h0 : f k = 0) : ((List.range n).map fun i => if k = i then a else f i).sum = a + ((List.range n).map f).sum := by
  induction n with
  | zero => omega
  | succ n ih =>
    simp only [List.range_succ, List.map_append, List.sum_append, List.map_cons, List.map_nil, List.sum_cons, List.sum_nil]
    by_cases h : k = n
    · subst h
      have : ((List.range k).map fun i => if k = i then a else f i) = (List.range k).map f := List.map_congr_left fun i hi => by
        rw [if_neg (by have := List.mem_range.1 hi; omega)]
      rw [this, if_pos rfl, h0]; omega
    · rw [if_neg h, ih (by omega)]; omega
theorem sum_zero (n : Nat) : ((List.range n).map fun _ => 0).sum = 0 := by
  induction n with
  | zero => rfl
  | succ n ih => simp only [List.range_succ, List.map_append, List.sum_append, ih]; rfl
def gOf (ts : List To) (v : Int) : To := (ts.find? fun t => decide (t.Vehicle = v)).getD ⟨v, []⟩
theorem tn_veh {n : Nat} (e : Nat) : ∀ {ts : List To}, (ts.Pairwise fun a b => a.Vehicle ≠ b.Vehicle) → (∀ t ∈ ts, 0 ≤ t.Vehicle ∧ t.Vehicle < (n : Int)) → ((List.range n).map fun i : Nat => cn (gOf ts (i : Int)).Stops e).sum = tn ts e
  | [], _, _ => by
    have : ((List.range n).map fun i : Nat => cn (gOf [] (i : Int)).Stops e) = (List.range n).map fun _ => 0 := List.map_congr_left fun i _ => by simp [gOf, cn]
    rw [this, sum_zero]
    simp [tn]
  | t :: r, hp, hv => by
    have hp' := List.pairwise_cons.1 hp
    have ih := tn_veh (n := n) e hp'.2 fun u hu => hv u (List.mem_cons_of_mem _ hu)
    obtain ⟨v0, v1⟩ := hv t List.mem_cons_self
    have hg : ∀ i : Nat, cn (gOf (t :: r) (i : Int)).Stops e = if t.Vehicle.toNat = i then cn t.Stops e else cn (gOf r (i : Int)).Stops e := fun i => by
      unfold gOf
      by_cases h : t.Vehicle.toNat = i
      · rw [if_pos h, List.find?_cons_of_pos (by simp; omega)]; rfl
      · rw [if_neg h, List.find?_cons_of_neg (by simp; omega)]
    have hz : cn (gOf r (t.Vehicle.toNat : Int)).Stops e = 0 := by
      have : r.find? (fun u => decide (u.Vehicle = (t.Vehicle.toNat : Int))) = none := by
        rw [List.find?_eq_none]
        intro u hu
        have := hp'.1 u hu
        simp; omega
      unfold gOf
      rw [this]
      simp [cn]
    have e1 : ((List.range n).map fun i : Nat => cn (gOf (t :: r) (i : Int)).Stops e) = (List.range n).map fun i => if t.Vehicle.toNat = i then cn t.Stops e else cn (gOf r (i : Int)).Stops e := List.map_congr_left fun i _ => hg i
    rw [e1, sum_ite _ (fun i : Nat => cn (gOf r (i : Int)).Stops e) (by omega) hz, ih]
    simp [tn]
theorem Fe.sum {p : Pr} {x : Pl} (h : Fe p x) (e : Nat) : ((List.range p.Vehicles.length).map fun i : Nat => cn (ofP x (i : Int)).Stops e).sum = tn x.Tours e :=
  tn_veh e h.dis fun t ht => ⟨(h.tour ht).1, (h.tour ht).2.1⟩
def stB (x : Pl) (d v : Int) (b : To) (i : Nat) : To := if (i : Int) = v then b else ⟨(i : Int), wo d (ofP x (i : Int)).Stops⟩
def lefB (p : Pr) (x : Pl) (d : Int) : List Int := ((List.range p.Demands.length).map fun k : Nat => (k : Int)).filter fun k => !decide (k = d) && decide (k ∈ x.Left)
def moveP (p : Pr) (x : Pl) (d v : Int) (b : To) : Pl := ⟨((List.range p.Vehicles.length).map (stB x d v b)).filter servB, lefB p x d⟩
theorem lefB_asc (p : Pr) (x : Pl) (d : Int) : (lefB p x d).Pairwise (· < ·) := by
  refine List.Pairwise.filter _ ?_
  rw [List.pairwise_map]
  exact List.Pairwise.imp (fun h => by omega) List.pairwise_lt_range
theorem lefB_mem {p : Pr} {x : Pl} {d e : Int} : e ∈ lefB p x d ↔ (0 ≤ e ∧ e < ((p.Demands.length : Nat) : Int)) ∧ e ≠ d ∧ e ∈ x.Left := by
  unfold lefB
  rw [List.mem_filter]
  constructor
  · rintro ⟨h1, h2⟩
    obtain ⟨k, hk, rfl⟩ := List.mem_map.1 h1
    have := List.mem_range.1 hk
    simp at h2
    exact ⟨by omega, h2⟩
  · rintro ⟨⟨h1, h2⟩, h3, h4⟩
    refine ⟨List.mem_map.2 ⟨e.toNat, List.mem_range.2 (by omega), by omega⟩, ?_⟩
    simp [h3, h4]
theorem Fe.left_nodup {p : Pr} {x : Pl} (h : Fe p x) : x.Left.Nodup := by
  rw [List.nodup_iff_count]
  intro e
  by_cases he : e ∈ x.Left
  · have := h.lft e he
    have h1 := h.one e.toNat (by omega)
    unfold cn at h1
    rw [show ((e.toNat : Nat) : Int) = e by omega] at h1
    omega
  · rw [List.count_eq_zero.2 he]; omega
theorem lt_nodup {l : List Int} (h : l.Pairwise (· < ·)) : l.Nodup := List.Pairwise.imp (fun h => by omega) h
theorem nodup_perm {a b : List Int} (ha : a.Nodup) (hb : b.Nodup) (h : ∀ e, e ∈ a ↔ e ∈ b) : a.Perm b := (List.perm_ext_iff_of_nodup ha hb).2 h
theorem Fe.left_perm {p : Pr} {x : Pl} (h : Fe p x) (d : Int) : (wo d x.Left).Perm (lefB p x d) := by
  refine nodup_perm (h.left_nodup.filter _) (lt_nodup (lefB_asc p x d)) fun e => ?_
  rw [lefB_mem]
  unfold wo
  rw [List.mem_filter]
  simp only [Bool.not_eq_true', decide_eq_false_iff_not]
  exact ⟨fun ⟨h1, h2⟩ => ⟨h.lft e h1, h2, h1⟩, fun ⟨_, h1, h2⟩ => ⟨h2, h1⟩⟩
theorem Fe.left_sort {p : Pr} {x : Pl} (h : Fe p x) (hl : x.Left.length ≤ 1000) (d : Int) : sortO (wo d x.Left) = some (lefB p x d) := by
  have h1 := wo_len d x.Left
  unfold sortO
  rw [if_pos (by omega)]
  congr 1
  refine List.Perm.eq_of_pairwise (le := (· ≤ ·)) (fun a b _ _ => Int.le_antisymm) (isort_sorted _) (List.Pairwise.imp (fun h => by omega) (lefB_asc p x d)) ((isort_perm _).trans (h.left_perm d))
end Go.Proofs.YthpgjbbjpfiniaaGreat

namespace Go.Proofs.YthpgjbbjpfiniaaGreat
open Go.RowKit
set_option linter.unusedSimpArgs false
set_option linter.unusedVariables false
abbrev Ra := T_dispatch_rated
theorem rat_symB (rec_ : List Ra → Int → Int → Int → Option (List Ra)) (F : Nat) (d : List Ra) (a m b : Int) : slices_symMergeCmpFunc_rated_c40_b rec_ F d a m b = gSymB dispatch_compare rec_ F d a m b := rfl
theorem rat_sym : ∀ F : Nat, slices_symMergeCmpFunc_rated_c40 F = gSym dispatch_compare F
  | 0 => rfl
  | F + 1 => by
    funext d a m b
    show slices_symMergeCmpFunc_rated_c40_b (slices_symMergeCmpFunc_rated_c40 F) F d a m b = gSymB dispatch_compare (gSym dispatch_compare F) F d a m b
    rw [rat_sym F]; exact rat_symB _ _ _ _ _ _
theorem rat_l2 (F : Nat) (n s : Int) : slices_stableCmpFunc_rated_c40_l2 F n s = gStL2 dispatch_compare F n s := by
  funext j
  unfold slices_stableCmpFunc_rated_c40_l2 gStL2
  rw [rat_sym]
theorem rat_l3 (F : Nat) (n : Int) : slices_stableCmpFunc_rated_c40_l3 F n = gStL3 dispatch_compare F n := by
  funext j
  unfold slices_stableCmpFunc_rated_c40_l3 gStL3
  simp only [rat_sym, rat_l2]
theorem rat_sort (F : Nat) (d : List Ra) : slices_SortStableFunc_rated_c40 F d = gSort dispatch_compare F d := by
  unfold slices_SortStableFunc_rated_c40 gSort slices_stableCmpFunc_rated_c40 gSt
  simp only [rat_l3]
  rfl
theorem rat_sorted {F : Nat} {L : List Ra} (hn : L.length ≤ 1000) (hF : 40000 ≤ F) (hb : ∀ x ∈ L, costOk x) : ∃ L', slices_SortStableFunc_rated_c40 F L = some L' ∧ Srt rkey L' ∧ Stab rkey L L' := by
  rw [rat_sort]
  exact gSort_eq (α := Ra) (k := rkey) (cmp := dispatch_compare) (Pv := costOk) (fun x y hx hy => compare_eq hx hy) (by omega) (by omega) hb
theorem firstI_hit {α ρ : Type} {step : Nat → α → Option ρ} {fin r : ρ} : ∀ (l : List α) (k i : Nat) (y : α), l[i]? = some y → step (k + i) y = some r → (∀ (j : Nat) (z : α), j < i → l[j]? = some z → step (k + j) z = none) → firstI step fin k l = r
  | [], _, _, _, h, _, _ => by simp at h
  | x :: l, k, 0, y, h, hs, _ => by
    simp at h; subst h
    simp only [firstI]
    rw [Nat.add_zero] at hs
    rw [hs]
  | x :: l, k, i + 1, y, h, hs, hn => by
    have h0 := hn 0 x (by omega) rfl
    rw [Nat.add_zero] at h0
    simp only [firstI, h0]
    exact firstI_hit l (k + 1) i y (by simpa using h) (by rw [show k + 1 + i = k + (i + 1) by omega]; exact hs) fun j z hj hz => by
      have := hn (j + 1) z (by omega) (by simpa using hz)
      rwa [show k + (j + 1) = k + 1 + j by omega] at this
def tO (x : Pl) (d v : Int) : To := ⟨v, wo d (ofP x v).Stops⟩
def bsO (F : Nat) (p : Pr) (x : Pl) (d v : Int) : Option Op := hdOp F p d ⟨tO x d v, 0⟩
def mvR (F : Nat) (p : Pr) (x : Pl) (d v : Int) : Option Pl := (bsO F p x d v).map fun y => moveP p x d v y.tour
def encM : Option Pl → Pl × Bool
  | some y => (y, true)
  | none => (⟨[], []⟩, false)
def stK (x : Pl) (d v : Int) (b : To) (k : Nat) : List To := ((List.range k).map (stB x d v b)).filter servB
theorem stK_succ (x : Pl) (d v : Int) (b : To) (k : Nat) : stK x d v b (k + 1) = stK x d v b k ++ if servB (stB x d v b k) = true then [stB x d v b k] else [] := by
  unfold stK
  rw [List.range_succ, List.map_append, List.filter_append]
  simp [List.filter_cons]
theorem stK_len (x : Pl) (d v : Int) (b : To) (k : Nat) : (stK x d v b k).length ≤ k := Nat.le_trans (List.length_filter_le _ _) (by simp)
theorem move_pro_l1 {F : Nat} (hF : 40000 ≤ F) {p : Pr} {x : Pl} (hx : x.Tours.length ≤ 1000) (hs : ∀ v, (ofP x v).Stops.length ≤ 1000) (hv : p.Vehicles.length ≤ 1000) (d v : Int) {b : To} (hb : b.Stops.length ≤ 1000) :
    iter (dispatch_move_l1 F p x d v b.Vehicle b.Stops) (((p.Vehicles.length : Nat) : Int).toNat + 1) ([], 0) = some (stK x d v b p.Vehicles.length) := by
  have := iter_stI (body := dispatch_move_l1 F p x d v b.Vehicle b.Stops) p.Vehicles (stK x d v b) (fun m k => (m, k)) (fun _ _ => none) (stK x d v b p.Vehicles.length) (by omega) (fun k y hk _ => ?_) (fun _ => by simp [dispatch_move_l1, oun]) (((p.Vehicles.length : Nat) : Int).toNat + 1) (by simp)
  · rw [firstI_none _ _ (fun _ _ _ => rfl)] at this
    exact this
  · have h0 := lt_of_get hk
    have h1 : ((k : Int) < ((p.Vehicles.length : Nat) : Int)) := by omega
    have hl := stK_len x d v b k
    have fin : ∀ t : To, t = stB x d v b k → t.Stops.length ≤ 1000 → (Option.bind (Option.bind (dispatch_serves (T_api_Tour.mk t.Vehicle t.Stops)) fun r7 => bif r7 then Option.bind (appO (stK x d v b k) [(T_api_Tour.mk t.Vehicle t.Stops)]) fun l1 => some l1 else some (stK x d v b k)) fun f6 =>
        some (Sum.inl (f6, w64 ((k : Int) + 1)))) = some (pickO none (stK x d v b (k + 1), w64 ((k : Int) + 1)) : (List To × Int) ⊕ List To) := fun t ht hl2 => by
      rw [(serves_eq (t := ⟨t.Vehicle, t.Stops⟩) (by simpa using (by omega : t.Stops.length ≤ 1000000))).1, stK_succ, ← ht]
      cases servB t with
      | true =>
        simp only [Option.bind_some, cond_true]
        rw [appO_eq (by simp; omega)]
        rfl
      | false => simp [pickO]
    by_cases h : (k : Int) = v
    · have ht : b = stB x d v b k := by unfold stB; rw [if_pos h]
      have h1v : v < ((p.Vehicles.length : Nat) : Int) := by omega
      simp only [dispatch_move_l1, oun, h1v, decide_true, cond_true, h, Bool.not_true, cond_false, Option.bind_some]
      rw [← h]
      have := fin b ht hb
      rw [h] at this ⊢
      exact this
    · have ht : (⟨(k : Int), wo d (ofP x (k : Int)).Stops⟩ : To) = stB x d v b k := by unfold stB; rw [if_neg h]
      simp only [dispatch_move_l1, oun, h1, decide_true, cond_true, h, decide_false, Bool.not_false, (Of_eq (x := x) (k : Int) hx).1, Option.bind_some, without_eq hF d (hs k)]
      exact fin ⟨(k : Int), wo d (ofP x (k : Int)).Stops⟩ ht (Nat.le_trans (wo_len _ _) (hs k))
theorem move_ref_l1 {F : Nat} (hF : 40000 ≤ F) {p : Pr} {x : Pl} (hx : x.Tours.length ≤ 1000) (hs : ∀ v, (ofP x v).Stops.length ≤ 1000) (hv : p.Vehicles.length ≤ 1000) (d : Int) {v : Nat} (hvv : v < p.Vehicles.length) {b : To} (hb : b.Stops.length ≤ 1000) {e : Int} (hbe : recyclingref23_Best F p (tO x d v) d = some (b, e)) :
    iter (recyclingref25_move_l1 F p x d v) (((p.Vehicles.length : Nat) : Int).toNat + 1) ([], 0) = some (if e = 0 then .inl (stK x d v b p.Vehicles.length) else .inr (⟨[], []⟩, false)) := by
  have := iter_stI (body := recyclingref25_move_l1 F p x d v) p.Vehicles (stK x d v b) (fun m k => (m, k)) (fun k _ => if k = v ∧ e ≠ 0 then some (.inr (⟨[], []⟩, false)) else none) (.inl (stK x d v b p.Vehicles.length)) (by omega) (fun k y hk hno => ?_) (fun _ => by simp [recyclingref25_move_l1, oun]) (((p.Vehicles.length : Nat) : Int).toNat + 1) (by simp)
  · have e0 : (stK x d v b 0, (0 : Int)) = (([] : List To), (0 : Int)) := rfl
    refine this.trans ?_
    by_cases he : e = 0
    · rw [if_pos he, firstI_none _ _ (fun i y _ => by simp [he])]
    · rw [if_neg he, firstI_hit p.Vehicles 0 v p.Vehicles[v] (List.getElem?_eq_getElem hvv) (r := .inr (⟨[], []⟩, false)) (by simp [he]) (fun j z hj _ => by simp; omega)]
  · have h0 := lt_of_get hk
    have h1 : ((k : Int) < ((p.Vehicles.length : Nat) : Int)) := by omega
    have hl := stK_len x d v b k
    by_cases h : k = v
    · subst h
      have ht : b = stB x d k b k := by unfold stB; rw [if_pos rfl]
      simp only [recyclingref25_move_l1, oun, h1, decide_true, cond_true, (Of_eq (x := x) (k : Int) hx).2, Option.bind_some, refWo_eq d (show (ofP x (k : Int)).Stops.length ≤ 1000000 by have := hs k; omega)]
      have hbe' : recyclingref23_Best F p (T_api_Tour.mk (k : Int) (wo d (ofP x (k : Int)).Stops)) d = some (b, e) := hbe
      rw [hbe']
      simp only [Option.bind_some]
      by_cases he : e = 0
      · simp only [he, decide_true, Bool.not_true, cond_false, Option.bind_some, osum]
        rw [(serves_eq (t := ⟨b.Vehicle, b.Stops⟩) (by simpa using (by omega : b.Stops.length ≤ 1000000))).2, stK_succ, ← ht]
        cases servB b with
        | true =>
          simp only [Option.bind_some, cond_true]
          rw [appO_eq (by simp; omega)]
          simp [pickO, osum]
        | false => simp [pickO, osum]
      · simp [he, pickO, osum]
    · have hkv : ¬ ((k : Int) = (v : Int)) := by omega
      have ht : (⟨(k : Int), wo d (ofP x (k : Int)).Stops⟩ : To) = stB x d v b k := by unfold stB; rw [if_neg hkv]
      have hl2 := Nat.le_trans (wo_len d (ofP x (k : Int)).Stops) (hs k)
      simp only [recyclingref25_move_l1, oun, h1, decide_true, cond_true, (Of_eq (x := x) (k : Int) hx).2, Option.bind_some, refWo_eq d (show (ofP x (k : Int)).Stops.length ≤ 1000000 by have := hs k; omega), hkv, decide_false, cond_false, osum]
      rw [(serves_eq (t := ⟨(k : Int), wo d (ofP x (k : Int)).Stops⟩) (by simpa using (by omega : (wo d (ofP x (k : Int)).Stops).length ≤ 1000000))).2, stK_succ, ← ht]
      cases servB ⟨(k : Int), wo d (ofP x (k : Int)).Stops⟩ with
      | true =>
        simp only [Option.bind_some, cond_true]
        rw [appO_eq (by simp; omega)]
        simp [pickO, osum, h]
      | false => simp [pickO, osum, h]
theorem move_ref_l2 {p : Pr} {x : Pl} (hl : x.Left.length ≤ 1000) (hd : p.Demands.length ≤ 1000) (d : Int) :
    iter (recyclingref25_move_l2 p x d) (((p.Demands.length : Nat) : Int).toNat + 1) ([], 0) = some (lefB p x d) := by
  have := iter_stI (body := recyclingref25_move_l2 p x d) p.Demands (fun k => ((List.range k).map fun k : Nat => (k : Int)).filter fun k => !decide (k = d) && decide (k ∈ x.Left)) (fun m k => (m, k)) (fun _ _ => none) (lefB p x d) (by omega) (fun k y hk _ => ?_) (fun _ => by simp [recyclingref25_move_l2, oun, lefB]) (((p.Demands.length : Nat) : Int).toNat + 1) (by simp)
  · rw [firstI_none _ _ (fun _ _ _ => rfl)] at this
    exact this
  · have h0 := lt_of_get hk
    have h1 : ((k : Int) < ((p.Demands.length : Nat) : Int)) := by omega
    have hl2 : (((List.range k).map fun k : Nat => (k : Int)).filter fun k => !decide (k = d) && decide (k ∈ x.Left)).length ≤ k := Nat.le_trans (List.length_filter_le _ _) (by simp)
    simp only [recyclingref25_move_l2, oun, h1, decide_true, cond_true, has_eq (k : Int) (show x.Left.length ≤ 1000000 by omega)]
    rw [List.range_succ, List.map_append, List.filter_append]
    generalize (((List.range k).map fun k : Nat => (k : Int)).filter fun k => !decide (k = d) && decide (k ∈ x.Left)) = A at *
    by_cases e1 : (k : Int) = d
    · simp [e1, pickO]
    · by_cases e2 : (k : Int) ∈ x.Left
      · simp only [e1, e2, decide_false, decide_true, Bool.not_false, cond_true, Option.bind_some]
        rw [appO_eq (by simp; omega)]
        simp [pickO, e1, e2]
      · simp [e1, e2, pickO]
theorem move_both {F : Nat} (hF : 40000 ≤ F) {p : Pr} (hn : p.Road.Edges.length ≤ 600) {x : Pl} (h : Fe p x) (hx : x.Tours.length ≤ 1000) (hl : x.Left.length ≤ 1000) (hv : p.Vehicles.length ≤ 1000) {d v : Nat} (hdd : d < p.Demands.length) (hvv : v < p.Vehicles.length) :
    dispatch_move F p x d v = some (encM (mvR F p x d v)) ∧ recyclingref25_move F p x d v = some (encM (mvR F p x d v)) ∧ (∀ y, bsO F p x d v = some y → IsO p (tO x d v) d y ∧ y.tour.Stops.length ≤ 40) := by
  have hs : ∀ v, (ofP x v).Stops.length ≤ 1000 := fun v => by have := h.of_len v; omega
  have hts : (tO x d v).Stops.length ≤ 1000 := Nat.le_trans (wo_len _ _) (hs _)
  have hdl := h.ok.dl
  obtain ⟨L, e, h1, h2, h3, h4⟩ := options_both hF p hn (tO x d v) hts d
  have hbad : badI p (tO x d v) d = false := by
    unfold badI tO
    simp; omega
  have he := h4 h.chk hbad
  rw [show decide ((d : Int) ∈ (tO x d v).Stops) = false from decide_eq_false (wo_not (d : Int) _)] at he
  have he : e = 0 := he
  subst he
  rcases h3 with ⟨h3, _⟩ | ⟨_, h3⟩
  · exact absurd rfl h3
  obtain ⟨e', b1, b2, _, b4⟩ := Best_at h2 (.inr ⟨rfl, h3⟩)
  have hB := (Options_eq hF p hn (tO x d v) hts d).2
  have hbs : bsO F p x d v = L.head? := by
    unfold bsO hdOp
    rw [h1]
    cases L <;> rfl
  have hisO : ∀ y, bsO F p x d v = some y → IsO p (tO x d v) d y ∧ y.tour.Stops.length ≤ 40 := fun y hy => hdO_is (x := ⟨tO x d v, 0⟩) hy ⟨L, 0, h1, .inr ⟨rfl, h3⟩⟩
  have hbl : (hdT L).Stops.length ≤ 1000 := by
    cases L with
    | nil => simp [hdT]
    | cons y M => have := (hisO y (by rw [hbs]; rfl)).2; simp only [hdT]; omega
  rw [b1] at hB
  have hB' : insert_Best F p (T_api_Tour.mk (v : Int) (wo (d : Int) (ofP x (v : Int)).Stops)) d = some (hdT L, e') := hB
  refine ⟨?_, ?_, hisO⟩
  · unfold dispatch_move
    simp only [(Of_eq (x := x) (v : Int) hx).1, Option.bind_some, without_eq hF (d : Int) (hs v), hB', oun]
    cases L with
    | nil =>
      rw [b4 rfl rfl, mvR, hbs]
      rfl
    | cons y M =>
      have he' : e' = 0 := b2.2 (by simp)
      simp only [he', decide_true, Bool.not_true, cond_false]
      rw [move_pro_l1 hF hx hs hv (d : Int) (v : Int) hbl, without_eq hF (d : Int) hl]
      simp only [Option.bind_some]
      rw [h.left_sort hl, mvR, hbs]
      rfl
  · unfold recyclingref25_move
    rw [move_ref_l1 hF hx hs hv (d : Int) hvv hbl b1]
    cases L with
    | nil =>
      rw [b4 rfl rfl, mvR, hbs]
      rfl
    | cons y M =>
      have he' : e' = 0 := b2.2 (by simp)
      rw [if_pos he']
      simp only [Option.bind_some, osum]
      rw [move_ref_l2 hl (by omega), mvR, hbs]
      rfl
theorem move_fe {p : Pr} {x : Pl} (h : Fe p x) {d v : Nat} (hdd : d < p.Demands.length) (hvv : v < p.Vehicles.length) {y : Op} (hy : IsO p (tO x d v) d y) :
    Fe p (moveP p x d v y.tour) ∧ (moveP p x d v y.tour).Tours.Pairwise fun a b => a.Vehicle < b.Vehicle := by
  have hyv : y.tour.Vehicle = (v : Int) := by
    obtain ⟨i, _, hi⟩ := hy.cand
    rw [hi]; rfl
  have hveh : ∀ i : Nat, (stB x d v y.tour i).Vehicle = (i : Int) := fun i => by
    unfold stB
    by_cases e : (i : Int) = (v : Int)
    · rw [if_pos e, hyv, e]
    · rw [if_neg e]
  have hasc : (moveP p x d v y.tour).Tours.Pairwise fun a b => a.Vehicle < b.Vehicle := by
    refine List.Pairwise.filter _ ?_
    rw [List.pairwise_map]
    exact List.Pairwise.imp (fun h => by rw [hveh, hveh]; omega) List.pairwise_lt_range
  have hcnt : ∀ e : Nat, tn (moveP p x d v y.tour).Tours e = ((List.range p.Vehicles.length).map fun i : Nat => cn (stB x d v y.tour i).Stops e).sum := fun e => by
    show tn (((List.range p.Vehicles.length).map (stB x d v y.tour)).filter servB) e = _
    have key : ∀ ts : List To, tn (ts.filter servB) e = (ts.map fun t => cn t.Stops e).sum := by
      intro ts
      induction ts with
      | nil => rfl
      | cons t ts ih =>
        rw [List.filter_cons]
        by_cases hs : servB t = true
        · rw [if_pos hs]
          simp only [tn, List.map_cons, List.sum_cons] at ih ⊢
          rw [ih]
        · rw [if_neg hs, ih]
          have : cn t.Stops e = 0 := by
            unfold cn
            rw [List.count_eq_zero]
            intro hm
            refine hs ?_
            unfold servB
            rw [List.any_eq_true]
            exact ⟨_, hm, by simp⟩
          simp [this]
    rw [key, List.map_map]
    rfl
  have hcE : ∀ e i : Nat, e ≠ d → cn (stB x d v y.tour i).Stops e = cn (ofP x (i : Int)).Stops e := fun e i hed => by
    have hed' : (e : Int) ≠ (d : Int) := by omega
    unfold stB cn
    by_cases hi : (i : Int) = (v : Int)
    · rw [if_pos hi]
      obtain ⟨j, _, hj⟩ := hy.cand
      rw [hj, candAt_count _ _ _ (by omega), if_neg hed']
      show (wo (d : Int) (ofP x (v : Int)).Stops).count (e : Int) + 0 = _
      rw [wo_count _ hed', hi]; rfl
    · rw [if_neg hi]
      exact wo_count _ hed'
  have hcD : ∀ i : Nat, cn (stB x d v y.tour i).Stops d = if v = i then 1 else 0 := fun i => by
    unfold stB cn
    by_cases hi : (i : Int) = (v : Int)
    · rw [if_pos hi, if_pos (by omega)]
      obtain ⟨j, _, hj⟩ := hy.cand
      rw [hj, candAt_count _ _ _ (by omega), if_pos rfl]
      show (wo (d : Int) (ofP x (v : Int)).Stops).count (d : Int) + 1 = 1
      rw [List.count_eq_zero.2 (wo_not _ _)]
    · rw [if_neg hi, if_neg (by omega)]
      exact List.count_eq_zero.2 (wo_not _ _)
  refine ⟨⟨h.ok, h.chk, fun t ht => ?_, List.Pairwise.imp (fun h => by omega) hasc, fun e he => (lefB_mem.1 he).1, fun e he => ?_⟩, hasc⟩
  · obtain ⟨h1, h2⟩ := List.mem_filter.1 ht
    obtain ⟨i, _, rfl⟩ := List.mem_map.1 h1
    unfold stB at h2 ⊢
    by_cases hi : (i : Int) = (v : Int)
    · rw [if_pos hi]; exact hy.ok
    · rw [if_neg hi] at h2 ⊢
      rcases ofP_mem x (i : Int) with ⟨h3, h4⟩ | h3
      · have := h.less (d := (d : Int)) (by omega) (by omega) h3
        rw [h4] at this
        exact this
      · rw [h3] at h2
        simp [servB, wo] at h2
  · show tn (moveP p x d v y.tour).Tours e + cn (lefB p x d) e = 1
    rw [hcnt]
    by_cases hed : e = d
    · subst hed
      have e1 : ((List.range p.Vehicles.length).map fun i : Nat => cn (stB x e v y.tour i).Stops e) = (List.range p.Vehicles.length).map fun i => if v = i then 1 else (fun _ => 0) i := List.map_congr_left fun i _ => hcD i
      rw [e1, sum_ite 1 (fun _ => 0) hvv rfl, sum_zero]
      have : cn (lefB p x e) e = 0 := by
        unfold cn
        rw [List.count_eq_zero]
        exact fun hm => (lefB_mem.1 hm).2.1 rfl
      omega
    · have e1 : ((List.range p.Vehicles.length).map fun i : Nat => cn (stB x d v y.tour i).Stops e) = (List.range p.Vehicles.length).map fun i : Nat => cn (ofP x (i : Int)).Stops e := List.map_congr_left fun i _ => hcE e i hed
      rw [e1, h.sum]
      have h1 := h.one e he
      have h2 : cn (lefB p x d) e = cn x.Left e := by
        unfold cn
        rw [← (h.left_perm d).count_eq, wo_count _ (by omega)]
      rw [h2]; exact h1
end Go.Proofs.YthpgjbbjpfiniaaGreat

namespace Go.Proofs.YthpgjbbjpfiniaaGreat
open Go.RowKit
set_option linter.unusedSimpArgs false
set_option linter.unusedVariables false
theorem costs_bound {p : Pr} (hp : OkP p) {ts : List To} (h : ts.length ≤ 30) : 0 ≤ costs p ts ∧ costs p ts < 1000000000000 := by
  have := sumBy_bound (f := fun t => (costR p t).1) (B := 262400000) (l := ts) (fun t _ => costR_bound hp t)
  unfold costs
  omega
def rateP (p : Pr) (y : Pl) : Ra := ⟨y, costs p y.Tours⟩
structure OkRa (p : Pr) (z : Ra) : Prop where
  eq : z = rateP p z.plan
  fe : Fe p z.plan
  asc : z.plan.Tours.Pairwise fun a b => a.Vehicle < b.Vehicle
  tl : z.plan.Tours.length ≤ p.Vehicles.length
  ll : z.plan.Left.length ≤ p.Demands.length
theorem rate_ok {p : Pr} (hp : OkP p) {y : Pl} (h : y.Tours.length ≤ 30) : costOk (rateP p y) := costs_bound hp h
theorem OkRa.cost {p : Pr} {z : Ra} (h : OkRa p z) (hv : p.Vehicles.length ≤ 30) : costOk z := by
  rw [h.eq]
  exact rate_ok h.fe.ok (Nat.le_trans h.tl hv)
def mvs (F : Nat) (p : Pr) (x : Pl) (d v : Nat) : Option Ra := (mvR F p x d v).bind fun y => if rkey (rateP p y) < rkey (rateP p x) then some (rateP p y) else none
def rowM (F : Nat) (p : Pr) (x : Pl) (d : Nat) : Nat → List Ra
  | 0 => []
  | n + 1 => rowM F p x d n ++ (mvs F p x d n).toList
def allM (F : Nat) (p : Pr) (x : Pl) : Nat → List Ra
  | 0 => []
  | m + 1 => allM F p x m ++ rowM F p x m p.Vehicles.length
theorem rowM_len (F : Nat) (p : Pr) (x : Pl) (d : Nat) : ∀ n, (rowM F p x d n).length ≤ n
  | 0 => Nat.le_refl _
  | n + 1 => by
    have := rowM_len F p x d n
    simp only [rowM, List.length_append]
    cases mvs F p x d n <;> simp <;> omega
theorem allM_len (F : Nat) (p : Pr) (x : Pl) : ∀ m, (allM F p x m).length ≤ m * p.Vehicles.length
  | 0 => by simp [allM]
  | m + 1 => by
    have h1 := allM_len F p x m
    have h2 := rowM_len F p x m p.Vehicles.length
    simp only [allM, List.length_append, Nat.succ_mul]
    omega
theorem rowM_mem {F : Nat} {p : Pr} {x : Pl} {d : Nat} {z : Ra} : ∀ {n : Nat}, z ∈ rowM F p x d n → ∃ v, v < n ∧ mvs F p x d v = some z
  | 0, h => by cases h
  | n + 1, h => by
    rcases List.mem_append.1 h with h | h
    · obtain ⟨v, h1, h2⟩ := rowM_mem h; exact ⟨v, by omega, h2⟩
    · refine ⟨n, by omega, ?_⟩
      cases hm : mvs F p x d n with
      | none => rw [hm] at h; simp at h
      | some y => rw [hm] at h; simp at h; rw [h]
theorem allM_mem {F : Nat} {p : Pr} {x : Pl} {z : Ra} : ∀ {m : Nat}, z ∈ allM F p x m → ∃ d v, d < m ∧ v < p.Vehicles.length ∧ mvs F p x d v = some z
  | 0, h => by cases h
  | m + 1, h => by
    rcases List.mem_append.1 h with h | h
    · obtain ⟨d, v, h1, h2⟩ := allM_mem h; exact ⟨d, v, by omega, h2⟩
    · obtain ⟨v, h1, h2⟩ := rowM_mem h; exact ⟨m, v, by omega, h1, h2⟩
theorem rowM_has {F : Nat} {p : Pr} {x : Pl} {d v : Nat} {z : Ra} (h : mvs F p x d v = some z) : ∀ {n : Nat}, v < n → z ∈ rowM F p x d n
  | n + 1, hv => by
    simp only [rowM, List.mem_append]
    by_cases e : v = n
    · subst e; right; rw [h]; simp
    · left; exact rowM_has h (by omega)
theorem allM_has {F : Nat} {p : Pr} {x : Pl} {d v : Nat} {z : Ra} (h : mvs F p x d v = some z) (hv : v < p.Vehicles.length) : ∀ {m : Nat}, d < m → z ∈ allM F p x m
  | m + 1, hd => by
    simp only [allM, List.mem_append]
    by_cases e : d = m
    · subst e; right; exact rowM_has h hv
    · left; exact allM_has h hv (by omega)
structure Cx (F : Nat) (p : Pr) (x : Pl) : Prop where
  hF : 40000 ≤ F
  hn : p.Road.Edges.length ≤ 600
  hv : p.Vehicles.length ≤ 30
  fe : Fe p x
  tl : x.Tours.length ≤ 30
  ll : x.Left.length ≤ 100
theorem moveP_len (p : Pr) (x : Pl) (d v : Int) (b : To) : (moveP p x d v b).Tours.length ≤ p.Vehicles.length ∧ (moveP p x d v b).Left.length ≤ p.Demands.length :=
  ⟨Nat.le_trans (List.length_filter_le _ _) (by simp), Nat.le_trans (List.length_filter_le _ _) (by simp)⟩
theorem plans_loop (L : List Ra) (hl : L.length ≤ 10000) : iter (dispatch_Moves_l1 L) (((L.length : Nat) : Int).toNat + 1) ([], 0) = some (L.map T_dispatch_rated.plan) := by
  have := iter_stI (body := dispatch_Moves_l1 L) L (fun k => (L.take k).map T_dispatch_rated.plan) (fun m k => (m, k)) (fun _ _ => none) (L.map T_dispatch_rated.plan) (by omega) (fun k y hk _ => ?_) (fun _ => by simp [dispatch_Moves_l1, oun]) (((L.length : Nat) : Int).toNat + 1) (by simp)
  · rw [firstI_none _ _ (fun _ _ _ => rfl)] at this
    simpa using this
  · have h0 := lt_of_get hk
    have h1 : ((k : Int) < ((L.length : Nat) : Int)) := by omega
    simp only [dispatch_Moves_l1, oun, h1, decide_true, cond_true, getI_nat, hk, Option.bind_some]
    rw [appO_eq (by simp; omega), take_succ' hk]
    simp [pickO]
section
variable {F : Nat} {p : Pr} {x : Pl} (h : Cx F p x)
include h
theorem Cx.move {d v : Nat} (hd : d < p.Demands.length) (hv : v < p.Vehicles.length) : dispatch_move F p x d v = some (encM (mvR F p x d v)) ∧ recyclingref25_move F p x d v = some (encM (mvR F p x d v)) ∧ ∀ y, mvR F p x d v = some y → OkRa p (rateP p y) ∧ tour_plan F p y = some (costs p y.Tours, 0) ∧ recyclingref22_Total p y = some (costs p y.Tours, 0) := by
  have htl := h.tl
  have hll := h.ll
  have hvl := h.hv
  obtain ⟨m1, m2, m3⟩ := move_both h.hF h.hn h.fe (by omega) (by omega) (by omega) hd hv
  refine ⟨m1, m2, fun y hy => ?_⟩
  unfold mvR at hy
  cases hb : bsO F p x d v with
  | none => rw [hb] at hy; cases hy
  | some o =>
    rw [hb] at hy
    injection hy with hy
    have hy : moveP p x d v o.tour = y := hy
    obtain ⟨q1, q2⟩ := move_fe h.fe hd hv (m3 o hb).1
    rw [hy] at q1 q2
    have ⟨l1, l2⟩ := moveP_len p x d v o.tour
    rw [hy] at l1 l2
    have hdl := h.fe.ok.dl
    have hpl := plan_ok h.hF h.hn h.fe.ok h.fe.chk y (by omega) (by omega) q2 q1.drv q1.lft q1.one
    refine ⟨⟨rfl, q1, q2, l1, l2⟩, hpl, ?_⟩
    obtain ⟨s, e, a1, a2, a3, _⟩ := plan_inv h.hF h.hn y (by omega) (by omega)
    rw [hpl] at a1
    injection a1 with a1
    rw [a3, ← a1]
theorem Cx.mvs_ok {d v : Nat} (hd : d < p.Demands.length) (hv : v < p.Vehicles.length) {z : Ra} (hz : mvs F p x d v = some z) : OkRa p z ∧ rkey z < rkey (rateP p x) := by
  obtain ⟨_, _, m3⟩ := h.move hd hv
  unfold mvs at hz
  cases hm : mvR F p x d v with
  | none => rw [hm] at hz; cases hz
  | some y =>
    rw [hm] at hz
    simp only [Option.bind_some] at hz
    split at hz
    · injection hz with hz
      subst hz
      exact ⟨(m3 y hm).1, by assumption⟩
    · cases hz
theorem Cx.all_ok {z : Ra} (hz : z ∈ allM F p x p.Demands.length) : OkRa p z ∧ rkey z < rkey (rateP p x) := by
  obtain ⟨d, v, h1, h2, h3⟩ := allM_mem hz
  exact h.mvs_ok h1 h2 h3
theorem Cx.part_ok {d n : Nat} (hd : d < p.Demands.length) (hn : n ≤ p.Vehicles.length) {z : Ra} (hz : z ∈ allM F p x d ++ rowM F p x d n) : OkRa p z := by
  rcases List.mem_append.1 hz with hz | hz
  · obtain ⟨d', v, h1, h2, h3⟩ := allM_mem hz
    exact (h.mvs_ok (by omega) h2 h3).1
  · obtain ⟨v, h1, h2⟩ := rowM_mem hz
    exact (h.mvs_ok hd (by omega) h2).1
theorem Cx.part_len {d n : Nat} (hd : d < p.Demands.length) (hn : n ≤ p.Vehicles.length) : (allM F p x d ++ rowM F p x d n).length ≤ 990 := by
  have h1 := allM_len F p x d
  have h2 := rowM_len F p x d n
  have h3 := h.fe.ok.dl
  have h4 := h.hv
  have : d * p.Vehicles.length ≤ 31 * 30 := Nat.mul_le_mul (by omega) h4
  simp only [List.length_append]
  omega
theorem Cx.xOk : costOk (rateP p x) := rate_ok h.fe.ok h.tl
theorem Cx.y_pro {y : Pl} (hy : OkRa p (rateP p y)) (hpl : tour_plan F p y = some (costs p y.Tours, 0)) {q : List Ra} (hq : q.length ≤ 1000) :
    dispatch_Moves_y F p x (costs p x.Tours) q y = some (q ++ (if rkey (rateP p y) < rkey (rateP p x) then some (rateP p y) else none).toList) := by
  unfold dispatch_Moves_y tour_Total
  rw [hpl]
  obtain ⟨z, hz, hzz⟩ := compare_eq (hy.cost h.hv) h.xOk
  have hz' : dispatch_compare (T_dispatch_rated.mk y (costs p y.Tours)) (T_dispatch_rated.mk x (costs p x.Tours)) = some z := hz
  simp only [Option.bind_some, oun, decide_true, cond_true, hz']
  by_cases hlt : rkey (rateP p y) < rkey (rateP p x)
  · rw [if_pos hlt, decide_eq_true (hzz.2 hlt)]
    simp only [cond_true]
    rw [appO_eq (by simp; omega)]
    rfl
  · rw [if_neg hlt, decide_eq_false (fun hh => hlt (hzz.1 hh))]
    simp
theorem Cx.row_pro {d : Nat} (hd : d < p.Demands.length) {q : List Ra} (hq : q.length ≤ 960) :
    iter (dispatch_moves_1_y16_l1 F p x (costs p x.Tours) p x d) (((p.Vehicles.length : Nat) : Int).toNat + 1) (0, q) = some (q ++ rowM F p x d p.Vehicles.length) := by
  have hvl := h.hv
  have := iter_stI (body := dispatch_moves_1_y16_l1 F p x (costs p x.Tours) p x d) p.Vehicles (fun k => q ++ rowM F p x d k) (fun m k => (k, m)) (fun _ _ => none) (q ++ rowM F p x d p.Vehicles.length) (by omega) (fun k y hk _ => ?_) (fun _ => by simp [dispatch_moves_1_y16_l1, oun]) (((p.Vehicles.length : Nat) : Int).toNat + 1) (by simp)
  · rw [firstI_none _ _ (fun _ _ _ => rfl)] at this
    simpa [rowM] using this
  · have h0 := lt_of_get hk
    have h1 : ((k : Int) < ((p.Vehicles.length : Nat) : Int)) := by omega
    obtain ⟨m1, _, m3⟩ := h.move hd h0
    have hrl := rowM_len F p x d k
    simp only [dispatch_moves_1_y16_l1, oun, h1, decide_true, cond_true, m1, Option.bind_some]
    cases hm : mvR F p x d k with
    | none => simp [encM, pickO, rowM, mvs, hm]
    | some y =>
      obtain ⟨a1, a2, _⟩ := m3 y hm
      simp only [encM, cond_true]
      rw [h.y_pro a1 a2 (by simp; omega)]
      simp [pickO, rowM, mvs, hm]
theorem Cx.all_pro : dispatch_moves_1_y16 F p x (costs p x.Tours) [] p x = some (allM F p x p.Demands.length) := by
  have hdl := h.fe.ok.dl
  unfold dispatch_moves_1_y16
  have := iter_stI (body := dispatch_moves_1_y16_l2 F p x (costs p x.Tours) p x) p.Demands (fun k => allM F p x k) (fun m k => (k, m)) (fun _ _ => none) (allM F p x p.Demands.length) (by omega) (fun k y hk _ => ?_) (fun _ => by simp [dispatch_moves_1_y16_l2, oun]) (((p.Demands.length : Nat) : Int).toNat + 1) (by simp)
  · rw [firstI_none _ _ (fun _ _ _ => rfl)] at this
    have e : (allM F p x 0) = [] := rfl
    rw [e] at this
    rw [this]; rfl
  · have h0 := lt_of_get hk
    have h1 : ((k : Int) < ((p.Demands.length : Nat) : Int)) := by omega
    have hl := allM_len F p x k
    have hvl := h.hv
    have : k * p.Vehicles.length ≤ 31 * 30 := Nat.mul_le_mul (by omega) hvl
    simp only [dispatch_moves_1_y16_l2, oun, h1, decide_true, cond_true]
    rw [h.row_pro h0 (by omega)]
    simp [pickO, allM]
theorem Cx.total : tour_plan F p x = some (costs p x.Tours, 0) ∧ recyclingref22_Feasible p x = some 0 ∧ recyclingref22_Total p x = some (costs p x.Tours, 0) := by
  obtain ⟨s, e, a1, a2, a3, a4⟩ := plan_inv h.hF h.hn x h.tl h.ll
  have hbad : ∀ (k : Nat) (t : To), x.Tours[k]? = some t → badT p x.Tours k t = none := fun k t hk => by
    obtain ⟨u, hu⟩ := costR_inl (h.fe.drv t (List.mem_of_getElem? hk))
    have hany : (x.Tours.take k).any (fun u => decide (u.Vehicle = t.Vehicle)) = false := by
      rw [List.any_eq_false]
      intro y hy he
      obtain ⟨j, hj⟩ := List.getElem?_of_mem hy
      have hjk := lt_of_get hj
      have hkl := lt_of_get hk
      rw [length_take' (Nat.le_of_lt hkl)] at hjk
      rw [List.getElem?_take, if_pos hjk] at hj
      have := List.pairwise_iff_getElem.1 h.fe.dis j k (by omega) hkl hjk
      rw [List.getElem?_eq_getElem (by omega)] at hj hk
      injection hj with hj
      injection hk with hk
      rw [hj, hk, of_decide_eq_true he] at this
      exact this rfl
    unfold badT
    rw [hany, hu]
    rfl
  have he : e = 0 := by
    have hp := h.fe.ok
    have hdl := hp.dl
    have htl := h.tl
    have hll := h.ll
    have hall : ∀ t ∈ x.Tours, (∀ s ∈ t.Stops, okS p.Demands.length s) ∧ t.Stops.length ≤ 40 := fun t htm => by
      obtain ⟨u, hu⟩ := costR_inl (h.fe.drv t htm)
      exact (cost_bound hp hu).2.2
    have q1 := plan_l1 h.hF hp x h.tl
    rw [firstI_none _ _ (fun i t hi => by rw [Nat.zero_add, hbad i t hi]; rfl)] at q1
    have q3 := (left_loop (n := p.Demands.length) x (fun _ => 0) (by omega) (fun _ => Nat.zero_le _)).1
    have q4 := (tours_loop (n := p.Demands.length) x (fun d => 0 + cn x.Left d) (by omega) (fun d => by have := cn_le x.Left d; omega) (fun t htm => by have := (hall t htm).2; omega) (fun t htm => (hall t htm).1)).1
    have hbl : badL p.Demands.length x.Left = false := by
      unfold badL
      rw [List.any_eq_false]
      intro e he
      have := h.fe.lft e he
      simp; omega
    have hv : (vec p.Demands.length fun d => 0 + cn x.Left d + tn x.Tours d) = vec p.Demands.length fun _ => 1 := vec_ext fun d hd => by have := h.fe.one d hd; omega
    rw [hv] at q4
    rw [hbl] at q3
    have hmem : ∀ c ∈ vec p.Demands.length (fun _ => 1), c = (1 : Int) := fun c hc => by
      unfold vec at hc
      obtain ⟨j, _, rfl⟩ := List.mem_map.1 hc
      rfl
    have b1 : (vec p.Demands.length (fun _ => 1)).any (fun c => decide (1 < c)) = false := by
      rw [List.any_eq_false]; intro c hc; rw [hmem c hc]; decide
    have b2 : (vec p.Demands.length (fun _ => 1)).any (fun c => decide (c = 0)) = false := by
      rw [List.any_eq_false]; intro c hc; rw [hmem c hc]; decide
    have hF := h.hF
    unfold tour_plan at a1
    rw [tour_Check_eq (by omega) _ h.hn, h.fe.chk] at a1
    simp only [Option.bind_some, decide_true, Bool.not_true, cond_false] at a1
    rw [q1] at a1
    simp only [Option.bind_some, osum] at a1
    rw [make_vec _ (by omega)] at a1
    simp only [Option.bind_some] at a1
    rw [q3] at a1
    simp only [cond_false, Option.bind_some, osum] at a1
    rw [q4] at a1
    simp only [Option.bind_some] at a1
    rw [more_eq _ (by rw [vec_len]; omega), zero_eq _ (by rw [vec_len]; omega), b1, b2] at a1
    simp only [Option.bind_some, cond_false, Option.some.injEq, Prod.mk.injEq] at a1
    exact a1.2.symm
  subst he
  have := (a4 rfl).1
  subst this
  exact ⟨a1, a2, a3⟩
theorem Cx.pro : ∃ L, dispatch_Moves F p x = some (L.map T_dispatch_rated.plan, 0) ∧ Srt rkey L ∧ Stab rkey (allM F p x p.Demands.length) L := by
  have hdl := h.fe.ok.dl
  have hvl := h.hv
  have hl := allM_len F p x p.Demands.length
  have h9 : p.Demands.length * p.Vehicles.length ≤ 32 * 30 := Nat.mul_le_mul (by omega) hvl
  obtain ⟨L, s1, s2, s3⟩ := rat_sorted (F := F) (L := allM F p x p.Demands.length) (by omega) h.hF (fun z hz => (h.all_ok hz).1.cost hvl)
  have hl2 := s3.perm.length_eq
  refine ⟨L, ?_, s2, s3⟩
  unfold dispatch_Moves tour_Total
  rw [h.total.1]
  simp only [Option.bind_some, oun, decide_true, Bool.not_true, cond_false]
  rw [h.all_pro]
  simp only [Option.bind_some]
  rw [s1]
  simp only [Option.bind_some]
  rw [plans_loop L (by omega)]
  rfl
end
end Go.Proofs.YthpgjbbjpfiniaaGreat

namespace Go.Proofs.YthpgjbbjpfiniaaGreat
open Go.RowKit
set_option linter.unusedSimpArgs false
set_option linter.unusedVariables false
abbrev rpl : Ra → Pl := T_dispatch_rated.plan
abbrev rco : Ra → Int := T_dispatch_rated.cost
theorem Better_eq (a b c d : Int) : recyclingref25_Better a b c d = some (decide (a < c) || (decide (a = c) && decide (b < d))) := by
  unfold recyclingref25_Better
  by_cases h : a < c
  · simp [h]
  · by_cases h2 : a = c
    · subst h2; simp
    · simp [h, h2]
theorem better_key {a b : Ra} (ha : costOk a) (hb : costOk b) : recyclingref25_Better ((a.plan.Left.length : Nat) : Int) a.cost ((b.plan.Left.length : Nat) : Int) b.cost = some (decide (rkey a < rkey b)) := by
  rw [Better_eq]
  congr 1
  unfold rkey
  obtain ⟨a0, a1⟩ := ha
  obtain ⟨b0, b1⟩ := hb
  rw [Bool.eq_iff_iff]
  simp only [Bool.or_eq_true, Bool.and_eq_true, decide_eq_true_eq]
  omega
theorem placeR {c : Ra} (hc : costOk c) : ∀ (n : Nat) (Z R : List Ra) (f : Nat), Z.length = n → n < f → n ≤ 100000 → Srt rkey Z → (∀ z ∈ Z, costOk z) →
    ∃ Z1 Z2, Z = Z1 ++ Z2 ∧ iter (recyclingref25_Moves_l1 ((Z ++ R).map rpl) ((Z ++ R).map rco) c.plan c.cost) f (n : Int) = some ((Z1.length : Nat) : Int) ∧ (∀ z ∈ Z1, rkey z ≤ rkey c) ∧ ∀ z ∈ Z2, rkey c < rkey z
  | _, _, _, 0, _, h, _, _, _ => by omega
  | 0, Z, R, f + 1, hZ, _, _, _, _ => by
    have : Z = [] := List.eq_nil_of_length_eq_zero hZ
    subst this
    exact ⟨[], [], rfl, by simp [iter, recyclingref25_Moves_l1, osum], by simp, by simp⟩
  | n + 1, Z, R, f + 1, hZ, hf, hb, hs, ho => by
    obtain ⟨Y, y, rfl⟩ : ∃ Y y, Z = Y ++ [y] := by
      have : Z ≠ [] := by intro e; rw [e] at hZ; simp at hZ
      exact ⟨Z.dropLast, Z.getLast this, (List.dropLast_concat_getLast this).symm⟩
    have hY : Y.length = n := by simpa using hZ
    have h0 : (0 : Int) < ((n + 1 : Nat) : Int) := by omega
    have e1 : w64 (((n + 1 : Nat) : Int) - 1) = (n : Int) := by rw [w64_eq (by omega) (by omega)]; omega
    have g0 : (Y ++ [y] ++ R)[n]? = some y := by
      rw [List.append_assoc, List.getElem?_append_right (by omega), hY]
      simp
    have g1 : ((Y ++ [y] ++ R).map rpl)[n]? = some y.plan := by rw [List.getElem?_map, g0]; rfl
    have g2 : ((Y ++ [y] ++ R).map rco)[n]? = some y.cost := by rw [List.getElem?_map, g0]; rfl
    have hp := List.pairwise_append.1 hs
    have hk := better_key hc (ho y (by simp))
    by_cases h : rkey c < rkey y
    · obtain ⟨Z1, Z2, k1, k2, k3, k4⟩ := placeR hc n Y (y :: R) f hY (by omega) (by omega) hp.1 (fun z hz => ho z (by simp [hz]))
      refine ⟨Z1, Z2 ++ [y], by rw [k1]; simp, ?_, k3, fun z hz => ?_⟩
      · have e2 : Y ++ [y] ++ R = Y ++ y :: R := by simp
        rw [e2] at g1 g2 ⊢
        simp only [iter, recyclingref25_Moves_l1, h0, decide_true, cond_true, e1, getI_nat, g1, g2, Option.bind_some, hk, h, osum, k2]
      · rcases List.mem_append.1 hz with hz | hz
        · exact k4 z hz
        · rw [List.mem_singleton.1 hz]; exact h
    · refine ⟨Y ++ [y], [], by simp, ?_, fun z hz => ?_, by simp⟩
      · simp only [iter, recyclingref25_Moves_l1, h0, decide_true, cond_true, e1, getI_nat, g1, g2, Option.bind_some, hk, h, decide_false, cond_false, osum]
        rw [hZ]
      · rcases List.mem_append.1 hz with hz | hz
        · have := hp.2.2 z hz y (by simp)
          omega
        · rw [List.mem_singleton.1 hz]; omega
theorem map_insG {α β γ : Type} (f : α → β) (g : α → γ) (Z1 Z2 : List α) (x : α) (hl : (Z1 ++ Z2).length ≤ 100000) : (Option.bind (subO ((Z1 ++ Z2).map g) 0 ((Z1.length : Nat) : Int)) fun l1 =>
            Option.bind (appO [] l1) fun l2 =>
            Option.bind (appO l2 [g x]) fun l3 =>
            Option.bind (subO ((Z1 ++ Z2).map g) ((Z1.length : Nat) : Int) ((((Z1 ++ Z2).map g).length : Nat) : Int)) fun l4 =>
            Option.bind (appO l3 l4) fun l5 =>
            Option.bind (subO ((Z1 ++ Z2).map f) 0 ((Z1.length : Nat) : Int)) fun l6 =>
            Option.bind (appO [] l6) fun l7 =>
            Option.bind (appO l7 [f x]) fun l8 =>
            Option.bind (subO ((Z1 ++ Z2).map f) ((Z1.length : Nat) : Int) ((((Z1 ++ Z2).map f).length : Nat) : Int)) fun l9 =>
            Option.bind (appO l8 l9) fun l10 =>
            some (l5, l10)) = some ((Z1 ++ x :: Z2).map g, (Z1 ++ x :: Z2).map f) := by
  simp only [List.length_append] at hl
  rw [subO_take (by simp), subO_drop (by simp), subO_take (by simp), subO_drop (by simp)]
  simp only [Option.bind_some]
  rw [appO_eq (by simp; omega)]
  simp only [Option.bind_some]
  rw [appO_eq (by simp; omega)]
  simp only [Option.bind_some]
  rw [appO_eq (by simp; omega)]
  simp only [Option.bind_some]
  rw [appO_eq (by simp; omega)]
  simp only [Option.bind_some]
  rw [appO_eq (by simp; omega)]
  simp only [Option.bind_some]
  rw [appO_eq (by simp; omega)]
  simp [List.map_append]
section
variable {F : Nat} {p : Pr} {x : Pl} (h : Cx F p x)
include h
theorem Cx.empty_total : ∃ s e, recyclingref22_Total p ⟨[], []⟩ = some (s, e) := by
  obtain ⟨s, e, _, _, a3, _⟩ := plan_inv h.hF h.hn ⟨[], []⟩ (by simp) (by simp)
  exact ⟨s, e, a3⟩
theorem Cx.row_ref {d : Nat} (hd : d < p.Demands.length) : ∀ (r v : Nat) (L : List Ra) (f : Nat), v + r = p.Vehicles.length → r < f → Srt rkey L → Stab rkey (allM F p x d ++ rowM F p x d v) L →
    ∃ L', iter (recyclingref25_Moves_l2 F p x (costs p x.Tours) d) f (L.map rpl, L.map rco, (v : Int)) = some (L'.map rpl, L'.map rco) ∧ Srt rkey L' ∧ Stab rkey (allM F p x d ++ rowM F p x d p.Vehicles.length) L'
  | _, _, _, 0, _, hf, _, _ => by omega
  | 0, v, L, f + 1, hv, _, h1, h2 => by
    have hv : v = p.Vehicles.length := by omega
    subst hv
    refine ⟨L, ?_, h1, h2⟩
    simp only [iter, recyclingref25_Moves_l2, oun, Int.lt_irrefl, decide_false, cond_false, Option.bind_some, osum]
  | r + 1, v, L, f + 1, hv, hf, h1, h2 => by
    have hvv : v < p.Vehicles.length := by omega
    have hvl := h.hv
    have hlt : ((v : Int) < ((p.Vehicles.length : Nat) : Int)) := by omega
    have e2 : w64 ((v : Int) + 1) = ((v + 1 : Nat) : Int) := by rw [w64_eq (by omega) (by omega)]; omega
    obtain ⟨_, m2, m3⟩ := h.move hd hvv
    have hlen : L.length ≤ 990 := by
      rw [← h2.perm.length_eq]
      exact h.part_len hd (by omega)
    have hok : ∀ z ∈ L, costOk z := fun z hz => (h.part_ok hd (show v ≤ p.Vehicles.length by omega) (h2.perm.symm.subset hz)).cost hvl
    have keep : mvs F p x d v = none → Stab rkey (allM F p x d ++ rowM F p x d (v + 1)) L := fun hm => by
      simp only [rowM, hm, Option.toList_none, List.append_nil]
      exact h2
    cases hm : mvR F p x d v with
    | none =>
      obtain ⟨s, e, ht⟩ := h.empty_total
      obtain ⟨L', q1, q2, q3⟩ := Cx.row_ref hd r (v + 1) L f (by omega) (by omega) h1 (keep (by unfold mvs; rw [hm]; rfl))
      refine ⟨L', ?_, q2, q3⟩
      rw [hm] at m2
      simp only [iter, recyclingref25_Moves_l2, oun, hlt, decide_true, cond_true, m2, encM, Option.bind_some, ht, Bool.not_false, e2, osum, q1]
    | some y =>
      obtain ⟨a1, a2, a3⟩ := m3 y hm
      rw [hm] at m2
      have hyc := a1.cost hvl
      have hb : recyclingref25_Better ((y.Left.length : Nat) : Int) (costs p y.Tours) ((x.Left.length : Nat) : Int) (costs p x.Tours) = some (decide (rkey (rateP p y) < rkey (rateP p x))) := better_key hyc h.xOk
      by_cases hlt2 : rkey (rateP p y) < rkey (rateP p x)
      · have hms : mvs F p x d v = some (rateP p y) := by unfold mvs; rw [hm]; simp only [Option.bind_some]; rw [if_pos hlt2]
        have hF := h.hF
        obtain ⟨Z1, Z2, k1, k2, k3, k4⟩ := placeR (c := rateP p y) hyc L.length L [] F rfl (by omega) (by omega) h1 hok
        rw [List.append_nil] at k2
        obtain ⟨j1, j2⟩ := ins_stab (k := rkey) (x := rateP p y) (by rw [← k1]; exact h1) k4 k3
        rw [← k1] at j2
        have h3 : Stab rkey (allM F p x d ++ rowM F p x d (v + 1)) (Z1 ++ rateP p y :: Z2) := by
          simp only [rowM, hms, Option.toList_some]
          rw [← List.append_assoc]
          exact Stab.trans (h2.append (Stab.refl _)) j2
        obtain ⟨L', q1, q2, q3⟩ := Cx.row_ref hd r (v + 1) (Z1 ++ rateP p y :: Z2) f (by omega) (by omega) j1 h3
        refine ⟨L', ?_, q2, q3⟩
        have hmi := map_insG rco rpl Z1 Z2 (rateP p y) (by rw [← k1]; omega)
        rw [← k1] at hmi
        have hmi' := hmi
        rw [List.length_map, List.length_map] at hmi'
        have k2' : iter (recyclingref25_Moves_l1 (L.map rpl) (L.map rco) y (costs p y.Tours)) F ((L.length : Nat) : Int) = some ((Z1.length : Nat) : Int) := k2
        simp only [iter, recyclingref25_Moves_l2, oun, hlt, decide_true, cond_true, m2, encM, Option.bind_some, a3, Bool.not_true, cond_false, hb, hlt2, List.length_map, k2']
        have hmi2 : _ = _ := hmi'
        rw [show rpl (rateP p y) = y from rfl, show rco (rateP p y) = costs p y.Tours from rfl] at hmi2
        rw [hmi2]
        simp only [Option.bind_some, e2, osum, q1]
      · have hms : mvs F p x d v = none := by unfold mvs; rw [hm]; simp only [Option.bind_some]; rw [if_neg hlt2]
        obtain ⟨L', q1, q2, q3⟩ := Cx.row_ref hd r (v + 1) L f (by omega) (by omega) h1 (keep hms)
        refine ⟨L', ?_, q2, q3⟩
        simp only [iter, recyclingref25_Moves_l2, oun, hlt, decide_true, cond_true, m2, encM, Option.bind_some, a3, Bool.not_true, cond_false, hb, hlt2, decide_false, Bool.not_false, e2, osum, q1]
theorem Cx.all_ref : ∀ (r d : Nat) (L : List Ra) (f : Nat), d + r = p.Demands.length → r < f → Srt rkey L → Stab rkey (allM F p x d) L →
    ∃ L', iter (recyclingref25_Moves_l3 F p x (costs p x.Tours)) f (L.map rpl, L.map rco, (d : Int)) = some (L'.map rpl) ∧ Srt rkey L' ∧ Stab rkey (allM F p x p.Demands.length) L'
  | _, _, _, 0, _, hf, _, _ => by omega
  | 0, d, L, f + 1, hd, _, h1, h2 => by
    have hd : d = p.Demands.length := by omega
    subst hd
    refine ⟨L, ?_, h1, h2⟩
    simp only [iter, recyclingref25_Moves_l3, oun, Int.lt_irrefl, decide_false, cond_false, Option.bind_some, osum]
  | r + 1, d, L, f + 1, hd, hf, h1, h2 => by
    have hdd : d < p.Demands.length := by omega
    have hdl := h.fe.ok.dl
    have hlt : ((d : Int) < ((p.Demands.length : Nat) : Int)) := by omega
    have e2 : w64 ((d : Int) + 1) = ((d + 1 : Nat) : Int) := by rw [w64_eq (by omega) (by omega)]; omega
    obtain ⟨M, q1, q2, q3⟩ := h.row_ref hdd p.Vehicles.length 0 L (((p.Vehicles.length : Nat) : Int).toNat + 1) (by omega) (by simp) h1 (by simpa [rowM] using h2)
    obtain ⟨L', g1, g2, g3⟩ := Cx.all_ref r (d + 1) M f (by omega) (by omega) q2 q3
    refine ⟨L', ?_, g2, g3⟩
    have q1' : iter (recyclingref25_Moves_l2 F p x (costs p x.Tours) d) (((p.Vehicles.length : Nat) : Int).toNat + 1) (L.map rpl, L.map rco, 0) = some (M.map rpl, M.map rco) := q1
    have hb : recyclingref25_Moves_l3 F p x (costs p x.Tours) (L.map rpl, L.map rco, (d : Int)) = some (.inl (M.map rpl, M.map rco, ((d + 1 : Nat) : Int))) := by
      unfold recyclingref25_Moves_l3
      simp only [oun, hlt, decide_true, cond_true]
      rw [q1']
      simp only [Option.bind_some, e2]
    simp only [iter, hb, Option.bind_some, osum, g1]
theorem Cx.both : ∃ L, dispatch_Moves F p x = some (L.map rpl, 0) ∧ recyclingref25_Moves F p x = some (L.map rpl, 0) ∧ Srt rkey L ∧ Stab rkey (allM F p x p.Demands.length) L := by
  obtain ⟨L, h1, h2, h3⟩ := h.pro
  obtain ⟨L', g1, g2, g3⟩ := h.all_ref p.Demands.length 0 [] (((p.Demands.length : Nat) : Int).toNat + 1) (by omega) (by simp) List.Pairwise.nil (Stab.refl _)
  have : L = L' := Srt.unique h2 g2 (h3.symm.trans g3)
  subst this
  refine ⟨L, h1, ?_, h2, h3⟩
  unfold recyclingref25_Moves
  rw [h.total.2.1, h.total.2.2]
  simp only [Option.bind_some, oun, decide_true, Bool.not_true, cond_false]
  have g1' : iter (recyclingref25_Moves_l3 F p x (costs p x.Tours)) (((p.Demands.length : Nat) : Int).toNat + 1) ([], [], 0) = some (L.map rpl) := g1
  rw [g1']
  rfl
end
end Go.Proofs.YthpgjbbjpfiniaaGreat

namespace Go.Proofs.YthpgjbbjpfiniaaGreat
open Go.RowKit
set_option linter.unusedSimpArgs false
set_option linter.unusedVariables false
theorem Cx.next {F : Nat} {p : Pr} {x : Pl} (h : Cx F p x) {z : Ra} (hz : z ∈ allM F p x p.Demands.length) : Cx F p z.plan ∧ z = rateP p z.plan ∧ rkey z < rkey (rateP p x) := by
  obtain ⟨h1, h2⟩ := h.all_ok hz
  have h3 := h1.tl
  have h4 := h1.ll
  have h5 := h.hv
  have h6 := h.fe.ok.dl
  exact ⟨⟨h.hF, h.hn, h.hv, h1.fe, by omega, by omega⟩, h1.eq, h2⟩
theorem planB_cx {F : Nat} (hF : 40000 ≤ F) {p : Pr} (hn : p.Road.Edges.length ≤ 600) (hv : p.Vehicles.length ≤ 30) (hp : OkP p) (hc : recyclingref22_Check p = some 0) : Cx F p (planB F p) := by
  have h1 := planB_ok hF hn hv hp hc
  have hi := run_inv hF hp hn p.Demands.length
  have hl1 := usedB_len (runB F p p.Demands.length).1
  have hl2 := hi.len
  have hl3 := hi.ll
  have hdl := hp.dl
  have ht : (planB F p).Tours.length ≤ 30 := by show (usedB (runB F p p.Demands.length).1).length ≤ 30; omega
  have hl : (planB F p).Left.length ≤ 100 := by show ((runB F p p.Demands.length).2).length ≤ 100; omega
  obtain ⟨s, e, a1, _, _, a4⟩ := plan_inv hF hn (planB F p) ht hl
  rw [h1] at a1
  injection a1 with a1
  injection a1 with a2 a3
  exact ⟨hF, hn, hv, (a4 a3.symm).2, ht, hl⟩
theorem Same25_self (x : Pl) (h1 : x.Tours.length ≤ 1000000) (h2 : ∀ t ∈ x.Tours, t.Stops.length ≤ 1000000) (h3 : x.Left.length ≤ 1000000) : recyclingref25_Same x x = some true := by
  unfold recyclingref25_Same
  rw [Tours_self _ h1 h2, Ints_self _ h3]
  rfl
theorem Cx.same {F : Nat} {p : Pr} {x : Pl} (h : Cx F p x) : recyclingref25_Same x x = some true := by
  have h1 := h.tl
  have h2 := h.ll
  exact Same25_self x (by omega) (fun t ht => by have := (h.fe.tour ht).2.2.1; omega) (by omega)
theorem Large25_some (p : Pr) (x : Pl) : (∃ b, recyclingref25_Large p x = some b) ∧ (recyclingref25_Large p x = some false → p.Road.Edges.length ≤ 100 ∧ p.Vehicles.length ≤ 4 ∧ p.Demands.length ≤ 8 ∧ x.Tours.length ≤ 8 ∧ x.Left.length ≤ 100) := by
  obtain ⟨⟨b, hb⟩, hl⟩ := Large_some p
  obtain ⟨⟨b2, hb2⟩, hl2⟩ := LargePlan_some x
  unfold recyclingref25_Large
  rw [hb, hb2]
  cases b with
  | true => exact ⟨⟨true, rfl⟩, fun e => by cases e⟩
  | false =>
    cases b2 with
    | true => exact ⟨⟨true, rfl⟩, fun e => by cases e⟩
    | false =>
      obtain ⟨g2, g3⟩ := hl2 hb2
      simp only [Option.bind_some, cond_false]
      by_cases h1 : (100 : Int) < ((p.Road.Edges.length : Nat) : Int)
      · simp only [h1, decide_true, cond_true, Option.bind_some]
        exact ⟨⟨true, rfl⟩, fun e => by cases e⟩
      by_cases h2 : (4 : Int) < ((p.Vehicles.length : Nat) : Int)
      · simp only [h1, h2, decide_true, decide_false, cond_true, cond_false, Option.bind_some]
        exact ⟨⟨true, rfl⟩, fun e => by cases e⟩
      by_cases h3 : (8 : Int) < ((p.Demands.length : Nat) : Int)
      · simp only [h1, h2, h3, decide_true, decide_false, cond_true, cond_false, Option.bind_some]
        exact ⟨⟨true, rfl⟩, fun e => by cases e⟩
      by_cases h4 : (8 : Int) < ((x.Tours.length : Nat) : Int)
      · simp only [h1, h2, h3, h4, decide_true, decide_false, cond_true, cond_false, Option.bind_some]
        exact ⟨⟨true, rfl⟩, fun e => by cases e⟩
      simp only [h1, h2, h3, h4, decide_false, cond_false, Option.bind_some]
      obtain ⟨o, ho⟩ := iter_total (body := recyclingref25_Large_l1 x) (N := x.Tours.length) (by omega) (fun k hk => by
        obtain ⟨t, ht⟩ : ∃ t, x.Tours[k]? = some t := ⟨_, List.getElem?_eq_getElem hk⟩
        have hk2 : ((k : Int) < ((x.Tours.length : Nat) : Int)) := by omega
        simp only [recyclingref25_Large_l1, hk2, decide_true, cond_true, getI_nat, ht, Option.bind_some, w64_nat (show k < 9223372036854775807 by omega)]
        cases decide ((16 : Int) < ((t.Stops.length : Nat) : Int)) with
        | true => exact .inl ⟨_, rfl⟩
        | false => exact .inr rfl) ⟨_, by simp [recyclingref25_Large_l1]; rfl⟩ x.Tours.length 0 (by omega)
      refine ⟨?_, fun _ => by omega⟩
      rw [show (((x.Tours.length : Nat) : Int).toNat + 1) = x.Tours.length + 1 by simp, show (0 : Int) = ((0 : Nat) : Int) from rfl, ho]
      cases o with
      | inl u => exact ⟨false, rfl⟩
      | inr b => exact ⟨b, rfl⟩
structure Lt (p : Pr) (x : Pl) : Prop where
  ed : p.Road.Edges.length ≤ 600
  ve : p.Vehicles.length ≤ 4
  de : p.Demands.length ≤ 8
  to : x.Tours.length ≤ 8
  le : x.Left.length ≤ 100
theorem Large25 (p : Pr) (x : Pl) : recyclingref25_Large p x = some true ∨ (recyclingref25_Large p x = some false ∧ Lt p x) := by
  obtain ⟨⟨b, hb⟩, hl⟩ := Large25_some p x
  cases b with
  | true => exact .inl hb
  | false =>
    obtain ⟨h1, h2, h3, h4, h5⟩ := hl hb
    exact .inr ⟨hb, ⟨by omega, h2, h3, h4, h5⟩⟩
end Go.Proofs.YthpgjbbjpfiniaaGreat

namespace Go.Proofs.YthpgjbbjpfiniaaGreat
open Go.RowKit
set_option linter.unusedSimpArgs false
set_option linter.unusedVariables false
abbrev Rn := T_api_Reason
theorem rns_loop {body : Int → Option (Int ⊕ (Unit ⊕ Bool))} {a b : List Rn} (hl : a.length = b.length) (hn : a.length ≤ 1000000) (hb : ∀ k, body k = bif decide (k < ((a.length : Nat) : Int)) then Option.bind (getI a k) fun x1 => Option.bind (getI b k) fun x2 => bif (!(decide (x1 = x2))) then some (.inr (.inr false)) else some (.inl (w64 (k + 1))) else some (.inr (.inl ()))) : ∀ (r k f : Nat), k + r = a.length → r < f → a.take k = b.take k →
    iter body f (k : Int) = some (if a = b then .inl () else .inr false)
  | _, _, 0, _, h, _ => by omega
  | 0, k, f + 1, hk, _, ht => by
    have h1 : ¬ ((k : Int) < ((a.length : Nat) : Int)) := by omega
    have : a = b := by
      have h2 : a.take k = a := List.take_of_length_le (by omega)
      have h3 : b.take k = b := List.take_of_length_le (by omega)
      rw [h2, h3] at ht; exact ht
    simp only [iter, hb, h1, decide_false, cond_false, Option.bind_some, osum]
    rw [if_pos this]
  | r + 1, k, f + 1, hk, hf, ht => by
    have h1 : ((k : Int) < ((a.length : Nat) : Int)) := by omega
    have ga : a[k]? = some a[k] := List.getElem?_eq_getElem (by omega)
    have gb : b[k]? = some b[k] := List.getElem?_eq_getElem (by omega)
    have e1 : w64 ((k : Int) + 1) = ((k + 1 : Nat) : Int) := by rw [w64_eq (by omega) (by omega)]; omega
    by_cases h : a[k] = b[k]
    · have ih := rns_loop hl hn hb r (k + 1) f (by omega) (by omega) (by rw [take_succ' ga, take_succ' gb, ht, h])
      simp only [iter]
      rw [hb]
      simp only [h1, decide_true, cond_true, getI_nat, ga, gb, Option.bind_some, h, Bool.not_true, cond_false, osum, e1]
      exact ih
    · have : a ≠ b := by intro e; subst e; exact h rfl
      simp only [iter]
      rw [hb]
      simp only [h1, decide_true, cond_true, getI_nat, ga, gb, Option.bind_some, h, decide_false, Bool.not_false, cond_true, osum]
      rw [if_neg this]
theorem rns_eq {a b : List Rn} (hn : a.length ≤ 1000000) : recyclingref25_SameReasons a b = some (decide (a = b)) ∧ slices_Equal_Reason a b = some (decide (a = b)) := by
  unfold recyclingref25_SameReasons slices_Equal_Reason
  by_cases hl : a.length = b.length
  · have h1 := rns_loop (body := recyclingref25_SameReasons_l1 a b) hl hn (fun k => rfl) a.length 0 (((a.length : Nat) : Int).toNat + 1) (by omega) (by simp) (by simp)
    have h2 := rns_loop (body := slices_Equal_Reason_l1 a b) hl hn (fun k => rfl) a.length 0 (((a.length : Nat) : Int).toNat + 1) (by omega) (by simp) (by simp)
    have hl' : (((a.length : Nat) : Int) = ((b.length : Nat) : Int)) := by omega
    simp only [hl', decide_true, Bool.not_true, cond_false]
    rw [← hl', show (0 : Int) = ((0 : Nat) : Int) from rfl, h1, h2]
    by_cases h : a = b
    · simp [h, osum]
    · simp [h, osum]
  · have hl' : ¬ (((a.length : Nat) : Int) = ((b.length : Nat) : Int)) := by omega
    have : a ≠ b := by intro e; subst e; exact hl rfl
    simp [hl', this]
def walkE (p : Pr) (d v : Nat) : Int := (walkR p ⟨(v : Int), [(d : Int), -1]⟩).2.1
structure Rs (F : Nat) (p : Pr) (x : Pl) (d v : Nat) (r : Int) (ve : Ve) (de : De) (car : Bool) (L : List Op) : Prop where
  hv : p.Vehicles[v]? = some ve
  hd : p.Demands[d]? = some de
  hc : vehicle_Carries ve de.Kind = some car
  ops : insert_Options F p (ofP x v) d = some (L.map otour, 0)
  bst : ∃ e, insert_Best F p (ofP x v) d = some (hdT L, e) ∧ (e = 0 ↔ L ≠ [])
  hdO : bsO F p x d v = L.head?
  cb : car = carB ve de.Kind
  eq : r = bif !car then 21 else bif decide (ve.Grams < de.Grams) then 20 else bif !(decide (walkE p d v = 0)) then walkE p d v else bif decide ((((L.map otour).length : Nat) : Int) = 0) then 40 else 0
section
variable {F : Nat} {p : Pr} {x : Pl} (h : Cx F p x)
include h
theorem Cx.not_in {d : Nat} (hd : (d : Int) ∈ x.Left) (v : Int) : (d : Int) ∉ (ofP x v).Stops := by
  have h1 := h.fe.lft _ hd
  have h2 := h.fe.one d (by omega)
  have h3 : 0 < cn x.Left d := List.count_pos_iff.2 hd
  rcases ofP_mem x v with ⟨h4, _⟩ | h4
  · have h5 := tn_ge h4 d
    intro hm
    have h6 : 0 < cn (ofP x v).Stops d := List.count_pos_iff.2 hm
    omega
  · rw [h4]; simp
theorem Cx.tO_self {d : Nat} (hd : (d : Int) ∈ x.Left) (v : Int) : tO x (d : Int) v = ofP x v := by
  unfold tO
  rw [wo_self (fun y hy => by
    simp only [decide_eq_false_iff_not]
    intro e
    rw [e] at hy
    exact h.not_in hd v hy)]
  have := ofP_veh x v
  cases hq : ofP x v with
  | mk a b => rw [hq] at this; simp only at this ⊢; rw [this]
theorem Cx.reason {d v : Nat} (hd : (d : Int) ∈ x.Left) (hv : v < p.Vehicles.length) : ∃ r ve de car L, dispatch_reason F p x d v = some r ∧ recyclingref25_why F p x d v = some r ∧ Rs F p x d v r ve de car L := by
  have hF := h.hF
  have htl := h.tl
  have hdd := h.fe.lft _ hd
  have hdl : d < p.Demands.length := by omega
  have g1 : p.Vehicles[v]? = some p.Vehicles[v] := List.getElem?_eq_getElem hv
  have g2 : p.Demands[d]? = some p.Demands[d] := List.getElem?_eq_getElem hdl
  have hvk := h.fe.ok.ve _ (List.mem_of_getElem? g1)
  have hdk := h.fe.ok.de _ (List.mem_of_getElem? g2)
  obtain ⟨c1, c2⟩ := Carries_eq hvk hdk.k0 hdk.k1
  have hs : (ofP x (v : Int)).Stops.length ≤ 1000 := by have := h.fe.of_len v; omega
  obtain ⟨L, e, o1, o2, o3, o4⟩ := options_both hF p h.hn (ofP x v) hs d
  have hbad : badI p (ofP x v) d = false := by
    unfold badI
    rw [ofP_veh]
    simp; omega
  have he := o4 h.fe.chk hbad
  rw [show decide ((d : Int) ∈ (ofP x (v : Int)).Stops) = false from decide_eq_false (h.not_in hd v)] at he
  have he : e = 0 := he
  subst he
  obtain ⟨b1, b2⟩ := Options_eq hF p h.hn (ofP x v) hs d
  obtain ⟨e', k1, k2, _⟩ := Best_at o2 o3
  have hbs : bsO F p x d v = L.head? := by
    unfold bsO hdOp
    rw [h.tO_self hd, o1]
    cases L <;> rfl
  refine ⟨_, p.Vehicles[v], p.Demands[d], carB p.Vehicles[v] p.Demands[d].Kind, L, ?_, ?_, ⟨g1, g2, c1, by rw [b1, o2], ⟨e', by rw [b2, k1], k2⟩, hbs, rfl, rfl⟩⟩
  · unfold dispatch_reason
    rw [getI_nat, getI_nat, g1, g2]
    simp only [Option.bind_some, c1]
    rw [Walk_eq hF h.fe.ok h.fe.chk h.hn, (Of_eq (x := x) (v : Int) (by omega)).1]
    simp only [Option.bind_some, oun, b1, o2]
    cases carB p.Vehicles[v] p.Demands[d].Kind with
    | false => rfl
    | true =>
      simp only [Bool.not_true, cond_false]
      cases decide (p.Vehicles[v].Grams < p.Demands[d].Grams) with
      | true => rfl
      | false =>
        simp only [cond_false]
        show (bif !(decide (walkE p d v = 0)) then some (walkE p d v) else _) = _
        cases decide (walkE p d v = 0) with
        | false => rfl
        | true =>
          simp only [Bool.not_true, cond_false, decide_true]
          cases decide ((((L.map otour).length : Nat) : Int) = 0) <;> rfl
  · unfold recyclingref25_why
    rw [getI_nat, getI_nat, g1, g2]
    simp only [Option.bind_some, c2]
    rw [ref_Walk h.fe.ok h.fe.chk, (Of_eq (x := x) (v : Int) (by omega)).2]
    simp only [Option.bind_some, oun, o2]
    cases carB p.Vehicles[v] p.Demands[d].Kind with
    | false => rfl
    | true =>
      simp only [Bool.not_true, cond_false]
      cases decide (p.Vehicles[v].Grams < p.Demands[d].Grams) with
      | true => rfl
      | false =>
        simp only [cond_false]
        show (bif !(decide (walkE p d v = 0)) then some (walkE p d v) else _) = _
        cases decide (walkE p d v = 0) with
        | false => rfl
        | true =>
          simp only [Bool.not_true, cond_false]
          cases decide ((((L.map otour).length : Nat) : Int) = 0) <;> rfl
def rsn (F : Nat) (p : Pr) (x : Pl) (d v : Nat) : Int := (dispatch_reason F p x d v).getD 0
theorem Cx.rsn_at {d v : Nat} (hd : (d : Int) ∈ x.Left) (hv : v < p.Vehicles.length) : dispatch_reason F p x d v = some (rsn F p x d v) ∧ recyclingref25_why F p x d v = some (rsn F p x d v) ∧ ∃ ve de car L, Rs F p x d v (rsn F p x d v) ve de car L := by
  obtain ⟨r, ve, de, car, L, h1, h2, h3⟩ := h.reason hd hv
  have : rsn F p x d v = r := by unfold rsn; rw [h1]; rfl
  rw [this]
  exact ⟨h1, h2, ve, de, car, L, h3⟩
end
def rsL (F : Nat) (p : Pr) (x : Pl) (d : Nat) (n : Nat) : List Rn := (List.range n).map fun v : Nat => ⟨(v : Int), rsn F p x d v⟩
theorem rsL_len (F : Nat) (p : Pr) (x : Pl) (d n : Nat) : (rsL F p x d n).length = n := by simp [rsL]
theorem rsL_get (F : Nat) (p : Pr) (x : Pl) (d : Nat) {n v : Nat} (hv : v < n) : (rsL F p x d n)[v]? = some ⟨(v : Int), rsn F p x d v⟩ := by simp [rsL, hv]
theorem rsL_succ (F : Nat) (p : Pr) (x : Pl) (d n : Nat) : rsL F p x d (n + 1) = rsL F p x d n ++ [⟨(n : Int), rsn F p x d n⟩] := by simp [rsL, List.range_succ]
theorem why_loop {F : Nat} {p : Pr} {x : Pl} {d : Nat} {body : List Rn × Int → Option ((List Rn × Int) ⊕ List Rn)} {rf : Int → Option Int} (hV : p.Vehicles.length ≤ 1000) (hb : ∀ q : List Rn × Int, body q = bif decide (q.2 < ((p.Vehicles.length : Nat) : Int)) then Option.bind (rf q.2) fun r3 => Option.bind (appO q.1 [⟨q.2, r3⟩]) fun l1 => some (.inl (l1, w64 (q.2 + 1))) else some (.inr q.1))
    (hr : ∀ v : Nat, v < p.Vehicles.length → rf v = some (rsn F p x d v)) : iter body (((p.Vehicles.length : Nat) : Int).toNat + 1) ([], 0) = some (rsL F p x d p.Vehicles.length) := by
  have := iter_stI (body := body) p.Vehicles (fun k => rsL F p x d k) (fun m k => (m, k)) (fun _ _ => none) (rsL F p x d p.Vehicles.length) (by omega) (fun k y hk _ => ?_) (fun _ => by rw [hb]; simp) (((p.Vehicles.length : Nat) : Int).toNat + 1) (by simp)
  · rw [firstI_none _ _ (fun _ _ _ => rfl)] at this
    exact this
  · have h0 := lt_of_get hk
    have h1 : ((k : Int) < ((p.Vehicles.length : Nat) : Int)) := by omega
    have h2 := rsL_len F p x d k
    rw [hb]
    simp only [h1, decide_true, cond_true, hr k h0, Option.bind_some]
    rw [appO_eq (by simp; omega), rsL_succ]
    rfl
theorem why_all {F : Nat} (hF : 40000 ≤ F) {p : Pr} (hn : p.Road.Edges.length ≤ 600) (hv : p.Vehicles.length ≤ 30) (x : Pl) (hx : x.Tours.length ≤ 30) (hl : x.Left.length ≤ 100) (d : Int) :
    ∃ R e, dispatch_Why F p x d = some (R, e) ∧ recyclingref25_Why F p x d = some (R, e) ∧ R.length ≤ 30 ∧ ((e ≠ 0 ∧ R = []) ∨ (e = 0 ∧ Cx F p x ∧ ∃ n : Nat, d = (n : Int) ∧ d ∈ x.Left ∧ n < p.Demands.length ∧ R = rsL F p x n p.Vehicles.length)) ∧ (d ∈ x.Left → tour_Feasible F p x = some 0 → e = 0) := by
  obtain ⟨s, e, a1, a2, a3, a4⟩ := plan_inv hF hn x hx hl
  have hfe : tour_Feasible F p x = some e := by unfold tour_Feasible; rw [a1]; rfl
  unfold dispatch_Why recyclingref25_Why
  rw [hfe, a2]
  by_cases he : e = 0
  · have hc : Cx F p x := ⟨hF, hn, hv, (a4 he).2, hx, hl⟩
    subst he
    simp only [Option.bind_some, decide_true, Bool.not_true, cond_false]
    by_cases h1 : d < 0
    · simp only [h1, decide_true, cond_true, Option.bind_some]
      exact ⟨[], 7, rfl, rfl, by simp, .inl ⟨by decide, rfl⟩, fun hm _ => by have := hc.fe.lft _ hm; omega⟩
    by_cases h2 : ((p.Demands.length : Nat) : Int) ≤ d
    · simp only [h1, h2, decide_true, decide_false, cond_true, cond_false, Option.bind_some]
      exact ⟨[], 7, rfl, rfl, by simp, .inl ⟨by decide, rfl⟩, fun hm _ => by have := hc.fe.lft _ hm; omega⟩
    simp only [h1, h2, decide_false, cond_false, Option.bind_some]
    rw [has_eq d (by omega), contains_eq _ (by omega)]
    simp only [Option.bind_some]
    by_cases h3 : d ∈ x.Left
    · obtain ⟨n, rfl⟩ : ∃ n : Nat, d = (n : Int) := ⟨d.toNat, by omega⟩
      simp only [h3, decide_true, Bool.not_true, cond_false]
      have q1 := why_loop (F := F) (p := p) (x := x) (d := n) (body := dispatch_Why_l1 F p x n) (rf := dispatch_reason F p x n) (by omega) (fun q => rfl) (fun v hv => (hc.rsn_at h3 hv).1)
      have q2 := why_loop (F := F) (p := p) (x := x) (d := n) (body := recyclingref25_Why_l1 F p x n) (rf := recyclingref25_why F p x n) (by omega) (fun q => rfl) (fun v hv => (hc.rsn_at h3 hv).2.1)
      rw [q1, q2]
      exact ⟨_, 0, rfl, rfl, by rw [rsL_len]; exact hv, .inr ⟨rfl, hc, n, rfl, by first | exact h3 | trivial, by omega, rfl⟩, fun _ _ => rfl⟩
    · simp only [h3, decide_false, Bool.not_false, cond_true]
      exact ⟨[], 13, rfl, rfl, by simp, .inl ⟨by decide, rfl⟩, fun hm _ => by first | exact absurd hm h3 | exact hm.elim⟩
  · simp only [Option.bind_some, he, decide_false, Bool.not_false, cond_true]
    exact ⟨[], e, rfl, rfl, by simp, .inl ⟨he, rfl⟩, fun _ h => by first | (injection h; done) | (injection h with h; exact h)⟩
end Go.Proofs.YthpgjbbjpfiniaaGreat

namespace Go.Proofs.YthpgjbbjpfiniaaGreat
open Go.RowKit
set_option linter.unusedSimpArgs false
set_option linter.unusedVariables false
def exD : Pr := ⟨⟨2, [⟨0, 1, 500, 60⟩, ⟨1, 0, 500, 60⟩]⟩, [⟨⟨#[118]⟩, 0, ⟨1000, 2000⟩, 1000, 1⟩], [⟨0, 1, 0, 300, ⟨1100, 1200⟩, 30⟩], 0, 20⟩
def exE : Pr := ⟨⟨2, [⟨0, 1, 500, 60⟩, ⟨1, 0, 500, 60⟩]⟩, [⟨⟨#[118]⟩, 0, ⟨1000, 2000⟩, 299, 1⟩], [⟨0, 1, 0, 300, ⟨1100, 1200⟩, 30⟩], 0, 20⟩
theorem chkD : recyclingref22_Check exD = some 0 := by decide +kernel
theorem chkE : recyclingref22_Check exE = some 0 := by decide +kernel
theorem okPD : OkP exD := OkP.of (by decide) chkD
theorem okPE : OkP exE := OkP.of (by decide) chkE
theorem costR_at {p : Pr} (hp : OkP p) (hc : recyclingref22_Check p = some 0) {t : T_api_Tour} {c : Int × Int} (h : recyclingref22_Cost p t = some c) : costR p t = c := by
  rw [ref_Cost hp hc t] at h
  injection h
theorem costD : costR exD ⟨0, [0, -1]⟩ = (1000, 0) := costR_at okPD chkD (by decide +kernel)
theorem costD2 : costR exD ⟨0, [0, -1, -1]⟩ = (1000, 0) := costR_at okPD chkD (by decide +kernel)
theorem costD3 : costR exD ⟨0, [-1, 0, -1]⟩ = (1000, 0) := costR_at okPD chkD (by decide +kernel)
theorem costE : costR exE ⟨0, [0, -1]⟩ = (0, 20) := costR_at okPE chkE (by decide +kernel)
theorem exD_opts {F : Nat} (hF : 40000 ≤ F) : insert_options F exD ⟨0, []⟩ 0 = some ([⟨⟨0, [0, -1]⟩, 1000⟩], 0) := by
  obtain ⟨L, h1, h2⟩ := options_det hF (p := exD) (by decide) (t := ⟨0, []⟩) (by decide) (d := 0) chkD (by decide) (by decide)
  have hf : feas exD ((cands [] 0).map (toT 0)) = [⟨⟨0, [0, -1]⟩, 1000⟩] := by
    rw [show cands [] 0 = [[0, -1]] by decide]
    simp [feas, opOf, toT, costD]
  have h3 := h2.stab
  simp only at h3
  rw [hf] at h3
  have := h3.perm.symm.eq_singleton
  rw [this] at h1
  exact h1
theorem exE_opts {F : Nat} (hF : 40000 ≤ F) : insert_options F exE ⟨0, []⟩ 0 = some ([], 0) := by
  obtain ⟨L, h1, h2⟩ := options_det hF (p := exE) (by decide) (t := ⟨0, []⟩) (by decide) (d := 0) chkE (by decide) (by decide)
  have hf : feas exE ((cands [] 0).map (toT 0)) = [] := by
    rw [show cands [] 0 = [[0, -1]] by decide]
    simp [feas, opOf, toT, costE]
  have h3 := h2.stab
  simp only at h3
  rw [hf] at h3
  have := h3.perm.symm.eq_nil
  rw [this] at h1
  exact h1
theorem exD_opts2 {F : Nat} (hF : 40000 ≤ F) : ∃ L, insert_options F exD ⟨0, [-1]⟩ 0 = some (L, 0) ∧ ∀ y ∈ L, y.tour = ⟨0, [0, -1]⟩ ∨ y.tour = ⟨0, [0, -1, -1]⟩ ∨ y.tour = ⟨0, [-1, 0, -1]⟩ := by
  obtain ⟨L, h1, h2⟩ := options_det hF (p := exD) (by decide) (t := ⟨0, [-1]⟩) (by decide) (d := 0) chkD (by decide) (by decide)
  refine ⟨L, h1, fun y hy => ?_⟩
  have hf : feas exD ((cands [-1] 0).map (toT 0)) = [⟨⟨0, [0, -1]⟩, 1000⟩, ⟨⟨0, [0, -1, -1]⟩, 1000⟩, ⟨⟨0, [-1, 0, -1]⟩, 1000⟩] := by
    rw [show cands [-1] 0 = [[0, -1], [0, -1, -1], [-1, 0, -1]] by decide]
    simp [feas, opOf, toT, costD, costD2, costD3]
  have h3 := h2.stab
  simp only at h3
  rw [hf] at h3
  have h4 := h3.perm.symm.subset hy
  simp only [List.mem_cons, List.not_mem_nil, or_false] at h4
  rcases h4 with rfl | rfl | rfl
  · exact .inl rfl
  · exact .inr (.inl rfl)
  · exact .inr (.inr rfl)
def pD : Pl := ⟨[⟨0, [0, -1]⟩], []⟩
def p0 : Pl := ⟨[], [0]⟩
theorem planB_D {F : Nat} (hF : 40000 ≤ F) : planB F exD = pD := by
  have h1 : hdOp F exD ((0 : Nat) : Int) ⟨⟨0, []⟩, 0⟩ = some ⟨⟨0, [0, -1]⟩, 1000⟩ := by
    unfold hdOp
    rw [show insert_options F exD (T_insert_option.mk ⟨0, []⟩ 0).tour ((0 : Nat) : Int) = insert_options F exD ⟨0, []⟩ 0 from rfl, exD_opts hF]
  have h2 : runB F exD 1 = stepB (hdOp F exD ((0 : Nat) : Int)) ((0 : Nat) : Int) ([⟨⟨0, []⟩, 0⟩], []) := rfl
  have h3 : runB F exD 1 = ([⟨⟨0, [0, -1]⟩, 1000⟩], []) := by
    rw [h2]
    unfold stepB
    simp only [pickB, h1]
    rfl
  unfold planB
  rw [show exD.Demands.length = 1 from rfl, h3]
  rfl
theorem planB_E {F : Nat} (hF : 40000 ≤ F) : planB F exE = p0 := by
  have h1 : hdOp F exE ((0 : Nat) : Int) ⟨⟨0, []⟩, 0⟩ = none := by
    unfold hdOp
    rw [show insert_options F exE (T_insert_option.mk ⟨0, []⟩ 0).tour ((0 : Nat) : Int) = insert_options F exE ⟨0, []⟩ 0 from rfl, exE_opts hF]
  have h2 : runB F exE 1 = stepB (hdOp F exE ((0 : Nat) : Int)) ((0 : Nat) : Int) ([⟨⟨0, []⟩, 0⟩], []) := rfl
  have h3 : runB F exE 1 = ([⟨⟨0, []⟩, 0⟩], [0]) := by
    rw [h2]
    unfold stepB
    simp only [pickB, h1]
    rfl
  unfold planB
  rw [show exE.Demands.length = 1 from rfl, h3]
  rfl
theorem key_D : rkey (rateP exD pD) = 1000 := by
  unfold rkey rateP pD costs sumBy
  simp [costD]
theorem key_0 (p : Pr) : rkey (rateP p p0) = 1000000000000 := by
  unfold rkey rateP p0 costs sumBy
  simp
theorem all_D {F : Nat} (hF : 40000 ≤ F) : allM F exD pD 1 = [] := by
  have hm : mvs F exD pD 0 0 = none := by
    obtain ⟨L, h1, h2⟩ := exD_opts2 hF
    have hb : bsO F exD pD ((0 : Nat) : Int) ((0 : Nat) : Int) = L.head? := by
      unfold bsO hdOp
      rw [show insert_options F exD (T_insert_option.mk (tO pD ((0 : Nat) : Int) ((0 : Nat) : Int)) 0).tour ((0 : Nat) : Int) = insert_options F exD ⟨0, [-1]⟩ 0 from rfl, h1]
      cases L <;> rfl
    unfold mvs mvR
    rw [hb]
    cases L with
    | nil => rfl
    | cons y M =>
      have c1 := h2 y List.mem_cons_self
      have e1 : ∀ b : To, servB b = true → moveP exD pD ((0 : Nat) : Int) ((0 : Nat) : Int) b = ⟨[b], []⟩ := fun b hb => by
        unfold moveP
        rw [show (List.range exD.Vehicles.length).map (stB pD ((0 : Nat) : Int) ((0 : Nat) : Int) b) = [b] from rfl]
        simp only [List.filter_cons, hb, if_true]
        rfl
      have e2 : servB y.tour = true ∧ (costR exD y.tour).1 = 1000 := by
        rcases c1 with c | c | c
        · rw [c, costD]; exact ⟨rfl, rfl⟩
        · rw [c, costD2]; exact ⟨rfl, rfl⟩
        · rw [c, costD3]; exact ⟨rfl, rfl⟩
      simp only [List.head?_cons, Option.map_some, Option.bind_some]
      rw [if_neg]
      rw [key_D, e1 _ e2.1]
      unfold rkey rateP costs sumBy
      simp [e2.2]
  show allM F exD pD 0 ++ rowM F exD pD 0 1 = []
  show [] ++ ([] ++ (mvs F exD pD 0 0).toList) = []
  rw [hm]; rfl
theorem fe_0 {p : Pr} (hp : OkP p) (hc : recyclingref22_Check p = some 0) (hd : p.Demands.length = 1) : Fe p p0 where
  ok := hp
  chk := hc
  drv := fun t ht => by cases ht
  dis := List.Pairwise.nil
  lft := fun e he => by
    have : e = 0 := by simpa [p0] using he
    omega
  one := fun d hd2 => by
    obtain rfl : d = 0 := by omega
    rfl
theorem cx_0 {F : Nat} (hF : 40000 ≤ F) {p : Pr} (hp : OkP p) (hc : recyclingref22_Check p = some 0) (hd : p.Demands.length = 1) (hn : p.Road.Edges.length ≤ 600) (hv : p.Vehicles.length ≤ 30) : Cx F p p0 :=
  ⟨hF, hn, hv, fe_0 hp hc hd, by decide, by decide⟩
theorem all_0 {F : Nat} (hF : 40000 ≤ F) : allM F exD p0 1 = [rateP exD pD] := by
  have hb : bsO F exD p0 ((0 : Nat) : Int) ((0 : Nat) : Int) = some ⟨⟨0, [0, -1]⟩, 1000⟩ := by
    unfold bsO hdOp
    rw [show insert_options F exD (T_insert_option.mk (tO p0 ((0 : Nat) : Int) ((0 : Nat) : Int)) 0).tour ((0 : Nat) : Int) = insert_options F exD ⟨0, []⟩ 0 from rfl, exD_opts hF]
  have hm : mvs F exD p0 0 0 = some (rateP exD pD) := by
    unfold mvs mvR
    rw [hb]
    simp only [Option.map_some, Option.bind_some]
    rw [show moveP exD p0 ((0 : Nat) : Int) ((0 : Nat) : Int) ⟨0, [0, -1]⟩ = pD from rfl, key_D, key_0, if_pos (by decide)]
  show [] ++ ([] ++ (mvs F exD p0 0 0).toList) = _
  rw [hm]; rfl
theorem all_E {F : Nat} (hF : 40000 ≤ F) : allM F exE p0 1 = [] := by
  have hb : bsO F exE p0 ((0 : Nat) : Int) ((0 : Nat) : Int) = none := by
    unfold bsO hdOp
    rw [show insert_options F exE (T_insert_option.mk (tO p0 ((0 : Nat) : Int) ((0 : Nat) : Int)) 0).tour ((0 : Nat) : Int) = insert_options F exE ⟨0, []⟩ 0 from rfl, exE_opts hF]
  have hm : mvs F exE p0 0 0 = none := by
    unfold mvs mvR
    rw [hb]; rfl
  show [] ++ ([] ++ (mvs F exE p0 0 0).toList) = _
  rw [hm]; rfl
theorem plan_stays {F : Nat} {p : Pr} {x : Pl} (h : Cx F p x) (ha : allM F p x p.Demands.length = []) : iter (dispatch_Plan_l1 F p) F (x.Tours, x.Left) = some (x, 0) := by
  have hF := h.hF
  obtain ⟨L, h1, _, _, h4⟩ := h.both
  rw [ha] at h4
  have hL : L = [] := h4.perm.symm.eq_nil
  subst hL
  have h1' : dispatch_Moves F p (T_api_Plan.mk x.Tours x.Left) = some ([], 0) := h1
  obtain ⟨f, hf⟩ : ∃ f, F = f + 1 := ⟨F - 1, by omega⟩
  have key : ∀ n, iter (dispatch_Plan_l1 F p) (n + 1) (x.Tours, x.Left) = some (x, 0) := fun n => by
    simp only [iter, dispatch_Plan_l1, oun, h1', Option.bind_some, decide_true, Bool.not_true, cond_false, List.length_nil]
    rfl
  have := key f
  rw [← hf] at this
  exact this
theorem planAt {F : Nat} (hF : 40000 ≤ F) {p : Pr} {x : Pl} (hn : p.Road.Edges.length ≤ 600) (hv : p.Vehicles.length ≤ 30) (hp : OkP p) (hc : recyclingref22_Check p = some 0) (hx : planB F p = x) (ha : allM F p x p.Demands.length = []) : dispatch_Plan F p = some (x, 0) := by
  obtain ⟨e, h1, h2⟩ := build_both hF p hn (by omega) (by have := hp.dl; omega)
  rw [hc] at h1
  injection h1 with h1
  subst h1
  rcases h2 with ⟨h2, _⟩ | ⟨_, _, h4, _⟩
  · exact absurd rfl h2
  · subst hx
    unfold dispatch_Plan
    rw [h4]
    simp only [Option.bind_some, oun, decide_true, Bool.not_true, cond_false]
    rw [plan_stays (planB_cx hF hn hv hp hc) ha]
    rfl
theorem why_0 {F : Nat} (hF : 40000 ≤ F) {p : Pr} (hp : OkP p) (hc : recyclingref22_Check p = some 0) (hd : p.Demands.length = 1) (hn : p.Road.Edges.length ≤ 600) (hv : p.Vehicles.length = 1) {c : Int} (hr : dispatch_reason F p p0 0 0 = some c) : dispatch_Why F p p0 0 = some ([⟨0, c⟩], 0) := by
  have hcx := cx_0 hF hp hc hd hn (by omega)
  obtain ⟨R, e, h1, _, _, h4, h5⟩ := why_all hF hn (by omega) p0 (by decide) (by decide) 0
  have hf : tour_Feasible F p p0 = some 0 := by
    unfold tour_Feasible
    rw [hcx.total.1]; rfl
  have he := h5 (by simp [p0]) hf
  subst he
  rcases h4 with ⟨h4, _⟩ | ⟨_, _, n, hn2, _, _, hR⟩
  · exact absurd rfl h4
  · obtain rfl : n = 0 := by omega
    rw [h1, hR, hv]
    have : rsn F p p0 0 0 = c := by
      unfold rsn
      rw [show dispatch_reason F p p0 ((0 : Nat) : Int) ((0 : Nat) : Int) = dispatch_reason F p p0 0 0 from rfl, hr]
      rfl
    show some ([(⟨((0 : Nat) : Int), rsn F p p0 0 0⟩ : Rn)], (0 : Int)) = _
    rw [this]; rfl
theorem reason_D {F : Nat} (hF : 40000 ≤ F) : dispatch_reason F exD p0 0 0 = some 0 := by
  have hw : tour_Walk F exD ⟨0, [0, -1]⟩ = some ((walkR exD ⟨0, [0, -1]⟩).1, 0, (walkR exD ⟨0, [0, -1]⟩).2.2) := by
    rw [Walk_eq hF okPD chkD (by decide)]
    have h1 := costD
    unfold costR at h1
    unfold walkR
    cases h : tourR exD ⟨0, [0, -1]⟩ with
    | inl z => rfl
    | inr q => rw [h] at h1; injection h1 with _ h2; exact absurd h2 (tourR_err h)
  have ho : insert_Options F exD ⟨0, []⟩ 0 = some ([⟨0, [0, -1]⟩], 0) := Options_at (exD_opts hF) (by decide)
  unfold dispatch_reason
  rw [show getI exD.Vehicles 0 = some ⟨⟨#[118]⟩, 0, ⟨1000, 2000⟩, 1000, 1⟩ from rfl, show getI exD.Demands 0 = some ⟨0, 1, 0, 300, ⟨1100, 1200⟩, 30⟩ from rfl]
  simp only [Option.bind_some]
  rw [show vehicle_Carries ⟨⟨#[118]⟩, 0, ⟨1000, 2000⟩, 1000, 1⟩ 0 = some true by decide +kernel, hw, (Of_eq (x := p0) 0 (by decide)).1, show ofP p0 0 = ⟨0, []⟩ from rfl]
  simp only [Option.bind_some, oun, ho]
  rfl
theorem reason_E {F : Nat} (hF : 40000 ≤ F) : dispatch_reason F exE p0 0 0 = some 20 := by
  unfold dispatch_reason
  rw [show getI exE.Vehicles 0 = some ⟨⟨#[118]⟩, 0, ⟨1000, 2000⟩, 299, 1⟩ from rfl, show getI exE.Demands 0 = some ⟨0, 1, 0, 300, ⟨1100, 1200⟩, 30⟩ from rfl]
  simp only [Option.bind_some]
  rw [show vehicle_Carries ⟨⟨#[118]⟩, 0, ⟨1000, 2000⟩, 299, 1⟩ 0 = some true by decide +kernel]
  rfl
theorem awake25 {F : Nat} (hF : 40000 ≤ F) : recyclinglaw25_awake F = some true := by
  have h1 : dispatch_Plan F exD = some (pD, 0) := planAt hF (by decide) (by decide) okPD chkD (planB_D hF) (all_D hF)
  have h2 : dispatch_Moves F exD p0 = some ([pD], 0) := by
    obtain ⟨L, q1, _, _, q4⟩ := (cx_0 hF okPD chkD rfl (by decide) (by decide)).both
    rw [show exD.Demands.length = 1 from rfl, all_0 hF] at q4
    rw [q1, q4.perm.symm.eq_singleton]
    rfl
  have h3 : dispatch_Why F exD p0 0 = some ([⟨0, 0⟩], 0) := why_0 hF okPD chkD rfl (by decide) rfl (reason_D hF)
  have h4 : dispatch_Plan F exE = some (p0, 0) := planAt hF (by decide) (by decide) okPE chkE (planB_E hF) (all_E hF)
  have h5 : dispatch_Why F exE p0 0 = some ([⟨0, 20⟩], 0) := why_0 hF okPE chkE rfl (by decide) rfl (reason_E hF)
  have s1 : recyclingref25_Same pD pD = some true := Same25_self _ (by decide) (fun t ht => by simp [pD] at ht; subst ht; decide) (by decide)
  have s2 : recyclingref25_Same p0 p0 = some true := Same25_self _ (by decide) (fun t ht => by cases ht) (by decide)
  have r1 : recyclingref25_SameReasons [⟨0, 0⟩] [⟨0, 0⟩] = some true := by rw [(rns_eq (by decide)).1]; simp
  have r2 : recyclingref25_SameReasons [⟨0, 20⟩] [⟨0, 20⟩] = some true := by rw [(rns_eq (by decide)).1]; simp
  unfold exD at h1 h2 h3
  unfold exE at h4 h5
  unfold pD at h1 h2 s1
  unfold p0 at h2 h3 h4 h5 s2
  unfold recyclinglaw25_awake
  rw [h1]
  simp only [Option.bind_some, oun]
  rw [h2]
  simp only [Option.bind_some, oun]
  rw [h3]
  simp only [Option.bind_some, oun]
  rw [show getI [(T_api_Vehicle.mk ⟨#[118]⟩ 0 (T_api_Window.mk 1000 2000) 1000 1)] 0 = some (T_api_Vehicle.mk ⟨#[118]⟩ 0 (T_api_Window.mk 1000 2000) 1000 1) from rfl]
  simp only [Option.bind_some]
  rw [show setI [(T_api_Vehicle.mk ⟨#[118]⟩ 0 (T_api_Window.mk 1000 2000) 1000 1)] 0 (T_api_Vehicle.mk ⟨#[118]⟩ 0 (T_api_Window.mk 1000 2000) 299 1) = [(T_api_Vehicle.mk ⟨#[118]⟩ 0 (T_api_Window.mk 1000 2000) 299 1)] from rfl]
  rw [h4]
  simp only [Option.bind_some, oun]
  rw [h5]
  simp only [Option.bind_some, oun, s1, s2, r1, r2]
  rfl
end Go.Proofs.YthpgjbbjpfiniaaGreat

namespace Go.Proofs.YthpgjbbjpfiniaaGreat
open Go.RowKit
set_option linter.unusedSimpArgs false
set_option linter.unusedVariables false
theorem wo_lt {d : Int} {l : List Int} (h : d ∈ l) : (wo d l).length < l.length := by
  unfold wo
  exact List.length_filter_lt_length_iff_exists.2 ⟨d, h, by simp⟩
theorem Cx.none {F : Nat} {p : Pr} {x : Pl} (h : Cx F p x) {d v : Nat} (hd : (d : Int) ∈ x.Left) (hv : v < p.Vehicles.length) (ha : allM F p x p.Demands.length = []) : bsO F p x d v = none := by
  have hdd := h.fe.lft _ hd
  have hdl : d < p.Demands.length := by omega
  cases hb : bsO F p x d v with
  | none => rfl
  | some o =>
    exfalso
    have hm : mvR F p x d v = some (moveP p x d v o.tour) := by unfold mvR; rw [hb]; rfl
    obtain ⟨_, _, m3⟩ := h.move hdl hv
    obtain ⟨a1, _, _⟩ := m3 _ hm
    have hc1 := a1.cost h.hv
    have hc2 := h.xOk
    have hl : (moveP p x d v o.tour).Left.length < x.Left.length := by
      show (lefB p x d).length < _
      rw [← (h.fe.left_perm d).length_eq]
      exact wo_lt hd
    have hlt : rkey (rateP p (moveP p x d v o.tour)) < rkey (rateP p x) := by
      unfold rkey
      obtain ⟨q1, q2⟩ := hc1
      obtain ⟨q3, q4⟩ := hc2
      have e1 : (rateP p (moveP p x d v o.tour)).plan.Left.length = (moveP p x d v o.tour).Left.length := rfl
      have e2 : (rateP p x).plan.Left.length = x.Left.length := rfl
      rw [e1, e2]
      omega
    have hms : mvs F p x d v = some (rateP p (moveP p x d v o.tour)) := by unfold mvs; rw [hm]; simp only [Option.bind_some]; rw [if_pos hlt]
    have := allM_has hms hv hdl
    rw [ha] at this
    cases this
def codW (e : Int) : Prop := e = 21 ∨ e = 20 ∨ e = 22 ∨ e = 19
theorem stepR_cod {p : Pr} {v : Ve} {pre : List Int} {x : Vi} {s e : Int} (hs : s = -1 ∨ (0 ≤ s ∧ s < ((p.Demands.length : Nat) : Int) ∧ s ∉ pre)) (h : stepR p v pre x s = .inr e) : codW e := by
  unfold stepR at h
  split at h
  · split at h
    · injection h with h; subst h; exact .inr (.inr (.inl rfl))
    · cases h
  · have hs : 0 ≤ s ∧ s < ((p.Demands.length : Nat) : Int) ∧ s ∉ pre := by
      rcases hs with hs | hs
      · exact absurd hs (by assumption)
      · exact hs
    split at h
    · omega
    · split at h
      · exact absurd (by assumption) hs.2.2
      · split at h
        · rename_i hn
          rw [List.getElem?_eq_none_iff] at hn
          omega
        · repeat' split at h
          all_goals first | (cases h; done) | (injection h with h; subst h; unfold codW; omega)
theorem homeR_cod {p : Pr} {v : Ve} {x : Vi} {e : Int} (h : homeR p v x = .inr e) : codW e := by
  unfold homeR at h
  repeat' split at h
  all_goals first | (cases h; done) | (injection h with h; subst h; unfold codW; omega)
theorem walkE_cod {p : Pr} {d v : Nat} (hd : d < p.Demands.length) (hv : v < p.Vehicles.length) : walkE p d v = 0 ∨ codW (walkE p d v) := by
  unfold walkE walkR
  cases h : tourR p ⟨(v : Int), [(d : Int), -1]⟩ with
  | inl z => exact .inl rfl
  | inr q =>
    right
    show codW q.1
    unfold tourR at h
    rw [if_neg (by simp; omega), if_neg (by simp)] at h
    have hg : p.Vehicles[(T_api_Tour.mk (v : Int) [(d : Int), -1]).Vehicle.toNat]? = some p.Vehicles[v] := by
      show p.Vehicles[((v : Nat) : Int).toNat]? = _
      rw [Int.toNat_natCast]
      exact List.getElem?_eq_getElem hv
    rw [hg] at h
    simp only [folR] at h
    cases h1 : stepR p p.Vehicles[v] [] (x0 p.Vehicles[v]) (d : Int) with
    | inr e =>
      rw [h1] at h
      injection h with h
      subst h
      exact stepR_cod (.inr ⟨by omega, by omega, by simp⟩) h1
    | inl y =>
      rw [h1] at h
      simp only at h
      cases h2 : stepR p p.Vehicles[v] ([] ++ [(d : Int)]) y (-1) with
      | inr e =>
        rw [h2] at h
        injection h with h
        subst h
        exact stepR_cod (.inl rfl) h2
      | inl w =>
        rw [h2] at h
        simp only at h
        cases h3 : homeR p p.Vehicles[v] w with
        | inr e =>
          rw [h3] at h
          injection h with h
          subst h
          exact homeR_cod h3
        | inl u =>
          rw [h3] at h
          cases h
theorem reas_l1 {F : Nat} {p : Pr} {x : Pl} (h : Cx F p x) {d : Nat} (hd : (d : Int) ∈ x.Left) :
    iter (recyclinglaw25_DispatchReasons_l1 F p x d (rsL F p x d p.Vehicles.length)) ((((rsL F p x d p.Vehicles.length).length : Nat) : Int).toNat + 1) 0 = some (.inl ()) := by
  have hvl := h.hv
  have htl := h.tl
  have hdd := h.fe.lft _ hd
  rw [rsL_len]
  have := iter_stI (body := recyclinglaw25_DispatchReasons_l1 F p x d (rsL F p x d p.Vehicles.length)) p.Vehicles (fun _ => ()) (fun _ k => k) (fun _ _ => none) (Sum.inl ()) (by omega) (fun k y hk _ => ?_) (fun _ => by simp [recyclinglaw25_DispatchReasons_l1, rsL_len]) (((p.Vehicles.length : Nat) : Int).toNat + 1) (by simp)
  · rw [firstI_none _ _ (fun _ _ _ => rfl)] at this
    exact this
  · have h0 := lt_of_get hk
    have h1 : ((k : Int) < ((p.Vehicles.length : Nat) : Int)) := by omega
    obtain ⟨_, _, ve, de, car, L, hr⟩ := h.rsn_at hd h0
    have hwd := walkE_cod (p := p) (d := d) (v := k) (by omega) h0
    have hq := hr.eq
    simp only [recyclinglaw25_DispatchReasons_l1, rsL_len, h1, decide_true, cond_true, getI_nat, rsL_get F p x d h0, hr.hv, hr.hd, Option.bind_some, hr.hc, Walk_eq h.hF h.fe.ok h.fe.chk h.hn, (Of_eq (x := x) (k : Int) (by omega)).2, oun, hr.ops]
    have hw : (walkR p ⟨(k : Int), [(d : Int), -1]⟩).2.1 = walkE p d k := rfl
    simp only [hw]
    have hwant : (bif !car then some (21 : Int) else bif decide (ve.Grams < de.Grams) then some 20 else bif !(decide (walkE p d k = 0)) then some (walkE p d k) else bif decide ((((L.map otour).length : Nat) : Int) = 0) then some 40 else some 0) = some (rsn F p x d k) := by
      rw [hq]
      cases car with
      | false => rfl
      | true =>
        cases decide (ve.Grams < de.Grams) with
        | true => rfl
        | false =>
          cases decide (walkE p d k = 0) with
          | false => rfl
          | true => cases decide ((((L.map otour).length : Nat) : Int) = 0) <;> rfl
    rw [hwant]
    simp only [Option.bind_some, decide_true, Bool.not_true, cond_false]
    by_cases h2 : rsn F p x d k = walkE p d k
    · rcases hwd with hwd | hwd | hwd | hwd | hwd
      · simp [h2, hwd, pickO]
      · simp [h2, hwd, pickO]
      · simp [h2, hwd, pickO]
      · simp [h2, hwd, pickO]
      · simp [h2, hwd, pickO]
    · simp [h2, pickO]
theorem reasons_law {F : Nat} (hF : 40000 ≤ F) (p : Pr) (x : Pl) (d : Int) : recyclinglaw25_DispatchReasons F p x d = some true := by
  have haw := awake25 hF
  unfold recyclinglaw25_DispatchReasons
  rcases Large25 p x with hb | ⟨hb, hl⟩
  · rw [hb]; simp only [Option.bind_some, cond_true, haw]
  · rw [hb]
    simp only [Option.bind_some, cond_false]
    have hve := hl.ve
    have hto := hl.to
    obtain ⟨R, e, h1, _, _, h4, _⟩ := why_all hF hl.ed (by omega) x (by omega) hl.le d
    rw [h1]
    rcases h4 with ⟨h4, hR⟩ | ⟨h4, hc, n, hn, hm, hnl, hR⟩
    · subst hR
      simp only [Option.bind_some, oun, h4, decide_false, Bool.not_false, cond_true, List.length_nil]
      simp only [show decide (((0 : Nat) : Int) = 0) = true from rfl, cond_true, haw, Option.bind_some]
    · subst h4
      subst hn
      subst hR
      have hfe : tour_Feasible F p x = some 0 := by unfold tour_Feasible; rw [hc.total.1]; rfl
      have g1 : ¬ ((n : Int) < 0) := by omega
      have g2 : ¬ (((p.Demands.length : Nat) : Int) ≤ (n : Int)) := by omega
      simp only [Option.bind_some, oun, decide_true, Bool.not_true, cond_false, hfe, g1, g2, decide_false]
      rw [rsL_len]
      simp only [decide_true, Bool.not_true, cond_false, Option.bind_some]
      have := reas_l1 hc hm
      rw [rsL_len] at this
      rw [this]
      simp only [Option.bind_some, osum, haw]
theorem recyclinglaw25_DispatchReasons_true (p : T_api_Problem) (x : T_api_Plan) (d : Int) (hp : wf_api_Problem p) (hx : wf_api_Plan x) (hd : wfI .i64 d) : ∃ F, recyclinglaw25_DispatchReasons F p x d = some true := ⟨40000, reasons_law (Nat.le_refl _) p x d⟩
end Go.Proofs.YthpgjbbjpfiniaaGreat

namespace Go.Proofs.YthpgjbbjpfiniaaGreat
open Go.ChangeShapes Go.WideShapes Go.ChangeAt Go.RowKit
set_option linter.unusedSimpArgs false
set_option linter.unusedVariables false
theorem own_ : ownKnob Tryz.prog.godebug = none := by kernel_rfl
theorem laidOut_ : laidOutB Tryz.prog = true := by kernel_rfl
theorem opn_api_Edge {W : World} : Opn Tryz.prog W 106 r_api_Edge wf_api_Edge := by
  intro H enc spare held fuel cs x h
  obtain ⟨xs, n, _, _, hlen, hxl, hf⟩ := DataW.trod_struct Tryz.underlying106 h
  rw [show Tryz.prog.cellsOf 106 = 4 by kernel_rfl] at hlen
  have g0 : DataW.trod enc Tryz.prog W 0 spare held n 3 ((cs.drop 0).take (Tryz.prog.cellsOf 3)) = xs[0]? := hf 0 _ rfl
  rw [show Tryz.prog.cellsOf 3 = 1 by kernel_rfl, List.getElem?_eq_getElem (by rw [hxl]; decide)] at g0
  obtain ⟨d0, h0, q0⟩ := (opn_int Tryz.underlying3) H enc spare held n _ _ g0
  have g1 : DataW.trod enc Tryz.prog W 0 spare held n 3 ((cs.drop 1).take (Tryz.prog.cellsOf 3)) = xs[1]? := hf 1 _ rfl
  rw [show Tryz.prog.cellsOf 3 = 1 by kernel_rfl, List.getElem?_eq_getElem (by rw [hxl]; decide)] at g1
  obtain ⟨d1, h1, q1⟩ := (opn_int Tryz.underlying3) H enc spare held n _ _ g1
  have g2 : DataW.trod enc Tryz.prog W 0 spare held n 3 ((cs.drop 2).take (Tryz.prog.cellsOf 3)) = xs[2]? := hf 2 _ rfl
  rw [show Tryz.prog.cellsOf 3 = 1 by kernel_rfl, List.getElem?_eq_getElem (by rw [hxl]; decide)] at g2
  obtain ⟨d2, h2, q2⟩ := (opn_int Tryz.underlying3) H enc spare held n _ _ g2
  have g3 : DataW.trod enc Tryz.prog W 0 spare held n 3 ((cs.drop 3).take (Tryz.prog.cellsOf 3)) = xs[3]? := hf 3 _ rfl
  rw [show Tryz.prog.cellsOf 3 = 1 by kernel_rfl, List.getElem?_eq_getElem (by rw [hxl]; decide)] at g3
  obtain ⟨d3, h3, q3⟩ := (opn_int Tryz.underlying3) H enc spare held n _ _ g3
  have e0 : cs.drop 0 = (cs.drop 0).take 1 ++ cs.drop 1 := splitF rfl
  have e1 : cs.drop 1 = (cs.drop 1).take 1 ++ cs.drop 2 := splitF rfl
  have e2 : cs.drop 2 = (cs.drop 2).take 1 ++ cs.drop 3 := splitF rfl
  have e3 : cs.drop 3 = (cs.drop 3).take 1 ++ cs.drop 4 := splitF rfl
  have en : cs.drop 4 = [] := List.drop_of_length_le (by omega)
  have hcs : cs.drop 0 = _ := e0
  rw [e1, e2, e3, en, show (cs.drop 0).take 1 = _ from h0, show (cs.drop 1).take 1 = _ from h1, show (cs.drop 2).take 1 = _ from h2, show (cs.drop 3).take 1 = _ from h3] at hcs
  exact ⟨⟨d0, d1, d2, d3⟩, hcs, q0, q1, q2, q3⟩
theorem opn_api_Road {W : World} : Opn Tryz.prog W 24 r_api_Road wf_api_Road := by
  intro H enc spare held fuel cs x h
  obtain ⟨xs, n, _, _, hlen, hxl, hf⟩ := DataW.trod_struct Tryz.underlying24 h
  rw [show Tryz.prog.cellsOf 24 = 2 by kernel_rfl] at hlen
  have g0 : DataW.trod enc Tryz.prog W 0 spare held n 3 ((cs.drop 0).take (Tryz.prog.cellsOf 3)) = xs[0]? := hf 0 _ rfl
  rw [show Tryz.prog.cellsOf 3 = 1 by kernel_rfl, List.getElem?_eq_getElem (by rw [hxl]; decide)] at g0
  obtain ⟨d0, h0, q0⟩ := (opn_int Tryz.underlying3) H enc spare held n _ _ g0
  have g1 : DataW.trod enc Tryz.prog W 0 spare held n 22 ((cs.drop 1).take (Tryz.prog.cellsOf 22)) = xs[1]? := hf 1 _ rfl
  rw [show Tryz.prog.cellsOf 22 = 1 by kernel_rfl, List.getElem?_eq_getElem (by rw [hxl]; decide)] at g1
  obtain ⟨d1, h1, q1⟩ := (opn_slice Tryz.underlying22 (by kernel_rfl) opn_api_Edge) H enc spare held n _ _ g1
  have e0 : cs.drop 0 = (cs.drop 0).take 1 ++ cs.drop 1 := splitF rfl
  have e1 : cs.drop 1 = (cs.drop 1).take 1 ++ cs.drop 2 := splitF rfl
  have en : cs.drop 2 = [] := List.drop_of_length_le (by omega)
  obtain ⟨A0, c0, h1, hl0, hm0, ha0⟩ := h1
  have hcs : cs.drop 0 = _ := e0
  rw [e1, en, show (cs.drop 0).take 1 = _ from h0, show (cs.drop 1).take 1 = _ from h1] at hcs
  exact ⟨⟨d0, d1⟩, ⟨A0, c0, hcs, ⟨hl0, hm0⟩, ha0⟩, q0, q1⟩
theorem opn_api_Window {W : World} : Opn Tryz.prog W 59 r_api_Window wf_api_Window := by
  intro H enc spare held fuel cs x h
  obtain ⟨xs, n, _, _, hlen, hxl, hf⟩ := DataW.trod_struct Tryz.underlying59 h
  rw [show Tryz.prog.cellsOf 59 = 2 by kernel_rfl] at hlen
  have g0 : DataW.trod enc Tryz.prog W 0 spare held n 3 ((cs.drop 0).take (Tryz.prog.cellsOf 3)) = xs[0]? := hf 0 _ rfl
  rw [show Tryz.prog.cellsOf 3 = 1 by kernel_rfl, List.getElem?_eq_getElem (by rw [hxl]; decide)] at g0
  obtain ⟨d0, h0, q0⟩ := (opn_int Tryz.underlying3) H enc spare held n _ _ g0
  have g1 : DataW.trod enc Tryz.prog W 0 spare held n 3 ((cs.drop 1).take (Tryz.prog.cellsOf 3)) = xs[1]? := hf 1 _ rfl
  rw [show Tryz.prog.cellsOf 3 = 1 by kernel_rfl, List.getElem?_eq_getElem (by rw [hxl]; decide)] at g1
  obtain ⟨d1, h1, q1⟩ := (opn_int Tryz.underlying3) H enc spare held n _ _ g1
  have e0 : cs.drop 0 = (cs.drop 0).take 1 ++ cs.drop 1 := splitF rfl
  have e1 : cs.drop 1 = (cs.drop 1).take 1 ++ cs.drop 2 := splitF rfl
  have en : cs.drop 2 = [] := List.drop_of_length_le (by omega)
  have hcs : cs.drop 0 = _ := e0
  rw [e1, en, show (cs.drop 0).take 1 = _ from h0, show (cs.drop 1).take 1 = _ from h1] at hcs
  exact ⟨⟨d0, d1⟩, hcs, q0, q1⟩
theorem opn_api_Vehicle {W : World} : Opn Tryz.prog W 61 r_api_Vehicle wf_api_Vehicle := by
  intro H enc spare held fuel cs x h
  obtain ⟨xs, n, _, _, hlen, hxl, hf⟩ := DataW.trod_struct Tryz.underlying61 h
  rw [show Tryz.prog.cellsOf 61 = 6 by kernel_rfl] at hlen
  have g0 : DataW.trod enc Tryz.prog W 0 spare held n 9 ((cs.drop 0).take (Tryz.prog.cellsOf 9)) = xs[0]? := hf 0 _ rfl
  rw [show Tryz.prog.cellsOf 9 = 1 by kernel_rfl, List.getElem?_eq_getElem (by rw [hxl]; decide)] at g0
  obtain ⟨d0, h0, q0⟩ := (opn_str Tryz.underlying9) H enc spare held n _ _ g0
  have g1 : DataW.trod enc Tryz.prog W 0 spare held n 3 ((cs.drop 1).take (Tryz.prog.cellsOf 3)) = xs[1]? := hf 1 _ rfl
  rw [show Tryz.prog.cellsOf 3 = 1 by kernel_rfl, List.getElem?_eq_getElem (by rw [hxl]; decide)] at g1
  obtain ⟨d1, h1, q1⟩ := (opn_int Tryz.underlying3) H enc spare held n _ _ g1
  have g2 : DataW.trod enc Tryz.prog W 0 spare held n 59 ((cs.drop 2).take (Tryz.prog.cellsOf 59)) = xs[2]? := hf 2 _ rfl
  rw [show Tryz.prog.cellsOf 59 = 2 by kernel_rfl, List.getElem?_eq_getElem (by rw [hxl]; decide)] at g2
  obtain ⟨d2, h2, q2⟩ := opn_api_Window H enc spare held n _ _ g2
  have g3 : DataW.trod enc Tryz.prog W 0 spare held n 3 ((cs.drop 4).take (Tryz.prog.cellsOf 3)) = xs[3]? := hf 3 _ rfl
  rw [show Tryz.prog.cellsOf 3 = 1 by kernel_rfl, List.getElem?_eq_getElem (by rw [hxl]; decide)] at g3
  obtain ⟨d3, h3, q3⟩ := (opn_int Tryz.underlying3) H enc spare held n _ _ g3
  have g4 : DataW.trod enc Tryz.prog W 0 spare held n 3 ((cs.drop 5).take (Tryz.prog.cellsOf 3)) = xs[4]? := hf 4 _ rfl
  rw [show Tryz.prog.cellsOf 3 = 1 by kernel_rfl, List.getElem?_eq_getElem (by rw [hxl]; decide)] at g4
  obtain ⟨d4, h4, q4⟩ := (opn_int Tryz.underlying3) H enc spare held n _ _ g4
  have e0 : cs.drop 0 = (cs.drop 0).take 1 ++ cs.drop 1 := splitF rfl
  have e1 : cs.drop 1 = (cs.drop 1).take 1 ++ cs.drop 2 := splitF rfl
  have e2 : cs.drop 2 = (cs.drop 2).take 2 ++ cs.drop 4 := splitF rfl
  have e3 : cs.drop 4 = (cs.drop 4).take 1 ++ cs.drop 5 := splitF rfl
  have e4 : cs.drop 5 = (cs.drop 5).take 1 ++ cs.drop 6 := splitF rfl
  have en : cs.drop 6 = [] := List.drop_of_length_le (by omega)
  have hcs : cs.drop 0 = _ := e0
  rw [e1, e2, e3, e4, en, show (cs.drop 0).take 1 = _ from h0, show (cs.drop 1).take 1 = _ from h1, show (cs.drop 2).take 2 = _ from h2, show (cs.drop 4).take 1 = _ from h3, show (cs.drop 5).take 1 = _ from h4] at hcs
  exact ⟨⟨d0, d1, d2, d3, d4⟩, hcs, q0, q1, q2, q3, q4⟩
theorem opn_api_Demand {W : World} : Opn Tryz.prog W 63 r_api_Demand wf_api_Demand := by
  intro H enc spare held fuel cs x h
  obtain ⟨xs, n, _, _, hlen, hxl, hf⟩ := DataW.trod_struct Tryz.underlying63 h
  rw [show Tryz.prog.cellsOf 63 = 7 by kernel_rfl] at hlen
  have g0 : DataW.trod enc Tryz.prog W 0 spare held n 3 ((cs.drop 0).take (Tryz.prog.cellsOf 3)) = xs[0]? := hf 0 _ rfl
  rw [show Tryz.prog.cellsOf 3 = 1 by kernel_rfl, List.getElem?_eq_getElem (by rw [hxl]; decide)] at g0
  obtain ⟨d0, h0, q0⟩ := (opn_int Tryz.underlying3) H enc spare held n _ _ g0
  have g1 : DataW.trod enc Tryz.prog W 0 spare held n 3 ((cs.drop 1).take (Tryz.prog.cellsOf 3)) = xs[1]? := hf 1 _ rfl
  rw [show Tryz.prog.cellsOf 3 = 1 by kernel_rfl, List.getElem?_eq_getElem (by rw [hxl]; decide)] at g1
  obtain ⟨d1, h1, q1⟩ := (opn_int Tryz.underlying3) H enc spare held n _ _ g1
  have g2 : DataW.trod enc Tryz.prog W 0 spare held n 3 ((cs.drop 2).take (Tryz.prog.cellsOf 3)) = xs[2]? := hf 2 _ rfl
  rw [show Tryz.prog.cellsOf 3 = 1 by kernel_rfl, List.getElem?_eq_getElem (by rw [hxl]; decide)] at g2
  obtain ⟨d2, h2, q2⟩ := (opn_int Tryz.underlying3) H enc spare held n _ _ g2
  have g3 : DataW.trod enc Tryz.prog W 0 spare held n 3 ((cs.drop 3).take (Tryz.prog.cellsOf 3)) = xs[3]? := hf 3 _ rfl
  rw [show Tryz.prog.cellsOf 3 = 1 by kernel_rfl, List.getElem?_eq_getElem (by rw [hxl]; decide)] at g3
  obtain ⟨d3, h3, q3⟩ := (opn_int Tryz.underlying3) H enc spare held n _ _ g3
  have g4 : DataW.trod enc Tryz.prog W 0 spare held n 59 ((cs.drop 4).take (Tryz.prog.cellsOf 59)) = xs[4]? := hf 4 _ rfl
  rw [show Tryz.prog.cellsOf 59 = 2 by kernel_rfl, List.getElem?_eq_getElem (by rw [hxl]; decide)] at g4
  obtain ⟨d4, h4, q4⟩ := opn_api_Window H enc spare held n _ _ g4
  have g5 : DataW.trod enc Tryz.prog W 0 spare held n 3 ((cs.drop 6).take (Tryz.prog.cellsOf 3)) = xs[5]? := hf 5 _ rfl
  rw [show Tryz.prog.cellsOf 3 = 1 by kernel_rfl, List.getElem?_eq_getElem (by rw [hxl]; decide)] at g5
  obtain ⟨d5, h5, q5⟩ := (opn_int Tryz.underlying3) H enc spare held n _ _ g5
  have e0 : cs.drop 0 = (cs.drop 0).take 1 ++ cs.drop 1 := splitF rfl
  have e1 : cs.drop 1 = (cs.drop 1).take 1 ++ cs.drop 2 := splitF rfl
  have e2 : cs.drop 2 = (cs.drop 2).take 1 ++ cs.drop 3 := splitF rfl
  have e3 : cs.drop 3 = (cs.drop 3).take 1 ++ cs.drop 4 := splitF rfl
  have e4 : cs.drop 4 = (cs.drop 4).take 2 ++ cs.drop 6 := splitF rfl
  have e5 : cs.drop 6 = (cs.drop 6).take 1 ++ cs.drop 7 := splitF rfl
  have en : cs.drop 7 = [] := List.drop_of_length_le (by omega)
  have hcs : cs.drop 0 = _ := e0
  rw [e1, e2, e3, e4, e5, en, show (cs.drop 0).take 1 = _ from h0, show (cs.drop 1).take 1 = _ from h1, show (cs.drop 2).take 1 = _ from h2, show (cs.drop 3).take 1 = _ from h3, show (cs.drop 4).take 2 = _ from h4, show (cs.drop 6).take 1 = _ from h5] at hcs
  exact ⟨⟨d0, d1, d2, d3, d4, d5⟩, hcs, q0, q1, q2, q3, q4, q5⟩
theorem opn_api_Problem {W : World} : Opn Tryz.prog W 28 r_api_Problem wf_api_Problem := by
  intro H enc spare held fuel cs x h
  obtain ⟨xs, n, _, _, hlen, hxl, hf⟩ := DataW.trod_struct Tryz.underlying28 h
  rw [show Tryz.prog.cellsOf 28 = 6 by kernel_rfl] at hlen
  have g0 : DataW.trod enc Tryz.prog W 0 spare held n 24 ((cs.drop 0).take (Tryz.prog.cellsOf 24)) = xs[0]? := hf 0 _ rfl
  rw [show Tryz.prog.cellsOf 24 = 2 by kernel_rfl, List.getElem?_eq_getElem (by rw [hxl]; decide)] at g0
  obtain ⟨d0, h0, q0⟩ := opn_api_Road H enc spare held n _ _ g0
  have g1 : DataW.trod enc Tryz.prog W 0 spare held n 25 ((cs.drop 2).take (Tryz.prog.cellsOf 25)) = xs[1]? := hf 1 _ rfl
  rw [show Tryz.prog.cellsOf 25 = 1 by kernel_rfl, List.getElem?_eq_getElem (by rw [hxl]; decide)] at g1
  obtain ⟨d1, h1, q1⟩ := (opn_slice Tryz.underlying25 (by kernel_rfl) opn_api_Vehicle) H enc spare held n _ _ g1
  have g2 : DataW.trod enc Tryz.prog W 0 spare held n 26 ((cs.drop 3).take (Tryz.prog.cellsOf 26)) = xs[2]? := hf 2 _ rfl
  rw [show Tryz.prog.cellsOf 26 = 1 by kernel_rfl, List.getElem?_eq_getElem (by rw [hxl]; decide)] at g2
  obtain ⟨d2, h2, q2⟩ := (opn_slice Tryz.underlying26 (by kernel_rfl) opn_api_Demand) H enc spare held n _ _ g2
  have g3 : DataW.trod enc Tryz.prog W 0 spare held n 3 ((cs.drop 4).take (Tryz.prog.cellsOf 3)) = xs[3]? := hf 3 _ rfl
  rw [show Tryz.prog.cellsOf 3 = 1 by kernel_rfl, List.getElem?_eq_getElem (by rw [hxl]; decide)] at g3
  obtain ⟨d3, h3, q3⟩ := (opn_int Tryz.underlying3) H enc spare held n _ _ g3
  have g4 : DataW.trod enc Tryz.prog W 0 spare held n 3 ((cs.drop 5).take (Tryz.prog.cellsOf 3)) = xs[4]? := hf 4 _ rfl
  rw [show Tryz.prog.cellsOf 3 = 1 by kernel_rfl, List.getElem?_eq_getElem (by rw [hxl]; decide)] at g4
  obtain ⟨d4, h4, q4⟩ := (opn_int Tryz.underlying3) H enc spare held n _ _ g4
  have e0 : cs.drop 0 = (cs.drop 0).take 2 ++ cs.drop 2 := splitF rfl
  have e1 : cs.drop 2 = (cs.drop 2).take 1 ++ cs.drop 3 := splitF rfl
  have e2 : cs.drop 3 = (cs.drop 3).take 1 ++ cs.drop 4 := splitF rfl
  have e3 : cs.drop 4 = (cs.drop 4).take 1 ++ cs.drop 5 := splitF rfl
  have e4 : cs.drop 5 = (cs.drop 5).take 1 ++ cs.drop 6 := splitF rfl
  have en : cs.drop 6 = [] := List.drop_of_length_le (by omega)
  obtain ⟨A0, c0, h0, hl0, ha0⟩ := h0
  obtain ⟨A1, c1, h1, hl1, hm1, ha1⟩ := h1
  obtain ⟨A2, c2, h2, hl2, hm2, ha2⟩ := h2
  have hcs : cs.drop 0 = _ := e0
  rw [e1, e2, e3, e4, en, show (cs.drop 0).take 2 = _ from h0, show (cs.drop 2).take 1 = _ from h1, show (cs.drop 3).take 1 = _ from h2, show (cs.drop 4).take 1 = _ from h3, show (cs.drop 5).take 1 = _ from h4] at hcs
  exact ⟨⟨d0, d1, d2, d3, d4⟩, ⟨A0, c0, A1, c1, A2, c2, hcs, hl0, ha0, ⟨hl1, hm1⟩, ha1, ⟨hl2, hm2⟩, ha2⟩, q0, q1, q2, q3, q4⟩
theorem opn_api_Tour {W : World} : Opn Tryz.prog W 51 r_api_Tour wf_api_Tour := by
  intro H enc spare held fuel cs x h
  obtain ⟨xs, n, _, _, hlen, hxl, hf⟩ := DataW.trod_struct Tryz.underlying51 h
  rw [show Tryz.prog.cellsOf 51 = 2 by kernel_rfl] at hlen
  have g0 : DataW.trod enc Tryz.prog W 0 spare held n 3 ((cs.drop 0).take (Tryz.prog.cellsOf 3)) = xs[0]? := hf 0 _ rfl
  rw [show Tryz.prog.cellsOf 3 = 1 by kernel_rfl, List.getElem?_eq_getElem (by rw [hxl]; decide)] at g0
  obtain ⟨d0, h0, q0⟩ := (opn_int Tryz.underlying3) H enc spare held n _ _ g0
  have g1 : DataW.trod enc Tryz.prog W 0 spare held n 31 ((cs.drop 1).take (Tryz.prog.cellsOf 31)) = xs[1]? := hf 1 _ rfl
  rw [show Tryz.prog.cellsOf 31 = 1 by kernel_rfl, List.getElem?_eq_getElem (by rw [hxl]; decide)] at g1
  obtain ⟨d1, h1, q1⟩ := (opn_slice Tryz.underlying31 (by kernel_rfl) (opn_int Tryz.underlying3)) H enc spare held n _ _ g1
  have e0 : cs.drop 0 = (cs.drop 0).take 1 ++ cs.drop 1 := splitF rfl
  have e1 : cs.drop 1 = (cs.drop 1).take 1 ++ cs.drop 2 := splitF rfl
  have en : cs.drop 2 = [] := List.drop_of_length_le (by omega)
  obtain ⟨A0, c0, h1, hl0, hm0, ha0⟩ := h1
  have hcs : cs.drop 0 = _ := e0
  rw [e1, en, show (cs.drop 0).take 1 = _ from h0, show (cs.drop 1).take 1 = _ from h1] at hcs
  exact ⟨⟨d0, d1⟩, ⟨A0, c0, hcs, ⟨hl0, hm0⟩, ha0⟩, q0, q1⟩
theorem opn_api_Plan {W : World} : Opn Tryz.prog W 33 r_api_Plan wf_api_Plan := by
  intro H enc spare held fuel cs x h
  obtain ⟨xs, n, _, _, hlen, hxl, hf⟩ := DataW.trod_struct Tryz.underlying33 h
  rw [show Tryz.prog.cellsOf 33 = 2 by kernel_rfl] at hlen
  have g0 : DataW.trod enc Tryz.prog W 0 spare held n 30 ((cs.drop 0).take (Tryz.prog.cellsOf 30)) = xs[0]? := hf 0 _ rfl
  rw [show Tryz.prog.cellsOf 30 = 1 by kernel_rfl, List.getElem?_eq_getElem (by rw [hxl]; decide)] at g0
  obtain ⟨d0, h0, q0⟩ := (opn_slice Tryz.underlying30 (by kernel_rfl) opn_api_Tour) H enc spare held n _ _ g0
  have g1 : DataW.trod enc Tryz.prog W 0 spare held n 31 ((cs.drop 1).take (Tryz.prog.cellsOf 31)) = xs[1]? := hf 1 _ rfl
  rw [show Tryz.prog.cellsOf 31 = 1 by kernel_rfl, List.getElem?_eq_getElem (by rw [hxl]; decide)] at g1
  obtain ⟨d1, h1, q1⟩ := (opn_slice Tryz.underlying31 (by kernel_rfl) (opn_int Tryz.underlying3)) H enc spare held n _ _ g1
  have e0 : cs.drop 0 = (cs.drop 0).take 1 ++ cs.drop 1 := splitF rfl
  have e1 : cs.drop 1 = (cs.drop 1).take 1 ++ cs.drop 2 := splitF rfl
  have en : cs.drop 2 = [] := List.drop_of_length_le (by omega)
  obtain ⟨A0, c0, h0, hl0, hm0, ha0⟩ := h0
  obtain ⟨A1, c1, h1, hl1, hm1, ha1⟩ := h1
  have hcs : cs.drop 0 = _ := e0
  rw [e1, en, show (cs.drop 0).take 1 = _ from h0, show (cs.drop 1).take 1 = _ from h1] at hcs
  exact ⟨⟨d0, d1⟩, ⟨A0, c0, A1, c1, hcs, ⟨hl0, hm0⟩, ha0, ⟨hl1, hm1⟩, ha1⟩, q0, q1⟩
set_option maxRecDepth 100000 in
theorem dispatchReasons_lifted (os : Os) (started : os.Started) (H : Type) (enc : TypeId × Value → H) :
    ReturnsInHanded {} Tryz.checked os 7 .any (Rows.dispatchReasonsSpec.pre6 enc Tryz.prog Tryz.f7 Rows.dispatchReasonsRow.domain false) (Rows.dispatchReasonsSpec.post enc Tryz.prog Tryz.f7 false true false false) := by
  refine returnsInHanded_of_change (C := Tryz.checked) own_ started (by kernel_rfl) Tryz.func7
    (ChangeSpec.witness6 (enc := enc) (C := Tryz.checked) false ⟨#[], #[((Go.Value.agg #[(Go.Value.int Go.IntKind.i64 0), (Go.Value.slice none 0 0), (Go.Value.slice none 0 0), (Go.Value.slice none 0 0), (Go.Value.int Go.IntKind.i64 0), (Go.Value.int Go.IntKind.i64 0)])), ((Go.Value.agg #[(Go.Value.slice none 0 0), (Go.Value.slice none 0 0)])), (.int .i64 0)], []⟩ 8 (by kernel_rfl) (by kernel_rfl) (by kernel_rfl) (by kernel_rfl)) ?_
  intro W base args ds gs before hval0 hW hcnd _
  have hval : ∀ (j : Nat) t v, Tryz.f7.params[j]? = some t → args[j]? = some v → Value.okWide Tryz.prog W .any base t v := hval0
  have hW' := hW
  obtain ⟨p, q, hA0, hV, rfl, hfz, hnd⟩ := hW
  have hA : DataW.TrodAll enc Tryz.prog W 0 (fun _ => true) true Tryz.f7.params.toList args.toList ds p := hA0
  rw [Tryz.params7] at hA hval
  obtain ⟨rfl, rfl⟩ := trodVars_none hV
  clear hA0 hval0
  obtain ⟨v0, v1, v2, d0, d1, d2, p0, p1, p2, rfl, rfl, rfl, a0, a1, a2⟩ := trodAll_three hA
  obtain ⟨cs0, rfl, _⟩ := okWide_struct Tryz.underlying28 (hval 0 28 v0 rfl rfl)
  obtain ⟨fu0, ht0⟩ := a0
  obtain ⟨x0, hr0, q0⟩ := opn_api_Problem (W := W) H enc _ _ fu0 _ _ ht0
  obtain ⟨A0_0, c0_0, A0_1, c0_1, A0_2, c0_2, hcs0, hl0_0, ha0_0, hl0_1, ha0_1, hl0_2, ha0_2⟩ := hr0
  obtain rfl := toList_eq hcs0
  obtain ⟨cs1, rfl, _⟩ := okWide_struct Tryz.underlying33 (hval 1 33 v1 rfl rfl)
  obtain ⟨fu1, ht1⟩ := a1
  obtain ⟨x1, hr1, q1⟩ := opn_api_Plan (W := W) H enc _ _ fu1 _ _ ht1
  obtain ⟨A1_0, c1_0, A1_1, c1_1, hcs1, hl1_0, ha1_0, hl1_1, ha1_1⟩ := hr1
  obtain rfl := toList_eq hcs1
  obtain ⟨x2, rfl, _, _, q2⟩ := open_int (P := Tryz.prog) Tryz.underlying3 (hval 2 3 v2 rfl rfl) a2
  obtain ⟨F, hF⟩ := recyclinglaw25_DispatchReasons_true x0 x1 x2 q0 q1 q2
  refine (calls_of_fn (v := .bool true) Tryz.func7 rfl (args := [_, _, _]) (recyclinglaw25_DispatchReasons_fn hl0_0 ha0_0 hl0_1 ha0_1 hl0_2 ha0_2 hl1_0 ha1_0 hl1_1 ha1_1 hF (fun _ _ => rfl))).mono fun e W' ⟨he, hw⟩ => ?_
  exact ⟨_, he, post_true (tb := 4) hW' rfl rfl Tryz.underlying4 rfl rfl rfl laidOut_ (by decide +kernel) hw⟩
theorem dispatchReasons_holds : Rows.DispatchReasonsSaid :=
  OpenClaim.holds_of_wide 7 Tryz.f7 rfl rfl rfl rfl rfl rfl rfl ⟨rfl, rfl, rfl, rfl, rfl⟩ rfl rfl rfl rfl rfl (by kernel_rfl) Tryz.func7 (by kernel_rfl)
    (of_decide_eq_true (by kernel_rfl)) (by unfold Func.isWrapper; first | (rw [if_pos (by decide +kernel)]; kernel_rfl) | (rw [if_neg (by decide +kernel)]; exact ⟨rfl, rfl⟩))
    (fun os started H enc _ => dispatchReasons_lifted os started H enc)
end Go.Proofs.YthpgjbbjpfiniaaGreat
