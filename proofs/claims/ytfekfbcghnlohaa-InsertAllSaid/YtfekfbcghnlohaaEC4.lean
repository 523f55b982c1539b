/- InsertAll: for every input the given law returns true, and its arguments read as before. No condition. -/
import Derived.Test.YtfekfbcghnlohaaUr
import Derived.Test.YtfekfbcghnlohaaHc
import Derived.Test.YtfekfbcghnlohaaRows
import Derived.Test.YtfekfbcghnlohaaTaw8
import Derived.Test.YtfekfbcghnlohaaGo
namespace Go.Proofs.Ytfekfbcghnlohaa
open Go.RowKit
set_option linter.unusedSimpArgs false
set_option linter.unusedVariables false

/-! ### the library's sort at this program's type -/
abbrev Op := T_insert_option
theorem opt_ins (F : Nat) (d : List Op) (a b : Int) : slices_insertionSortCmpFunc_option_c38 F d a b = gIns insert_options_1 F d a b := rfl
theorem opt_rot (F : Nat) (d : List Op) (a m b : Int) : slices_rotateCmpFunc_option_c38 F d a m b = gRot F d a m b := rfl
theorem opt_symB (rec_ : List Op → Int → Int → Int → Option (List Op)) (F : Nat) (d : List Op) (a m b : Int) : slices_symMergeCmpFunc_option_c38_b rec_ F d a m b = gSymB insert_options_1 rec_ F d a m b := rfl
theorem opt_sym : ∀ F : Nat, slices_symMergeCmpFunc_option_c38 F = gSym insert_options_1 F
  | 0 => rfl
  | F + 1 => by
    funext d a m b
    show slices_symMergeCmpFunc_option_c38_b (slices_symMergeCmpFunc_option_c38 F) F d a m b = gSymB insert_options_1 (gSym insert_options_1 F) F d a m b
    rw [opt_sym F]; exact opt_symB _ _ _ _ _ _
theorem opt_l2 (F : Nat) (n s : Int) : slices_stableCmpFunc_option_c38_l2 F n s = gStL2 insert_options_1 F n s := by
  funext j
  unfold slices_stableCmpFunc_option_c38_l2 gStL2
  rw [opt_sym]
theorem opt_l3 (F : Nat) (n : Int) : slices_stableCmpFunc_option_c38_l3 F n = gStL3 insert_options_1 F n := by
  funext j
  unfold slices_stableCmpFunc_option_c38_l3 gStL3
  simp only [opt_sym, opt_l2]
theorem opt_sort (F : Nat) (d : List Op) : slices_SortStableFunc_option_c38 F d = gSort insert_options_1 F d := by
  unfold slices_SortStableFunc_option_c38 gSort slices_stableCmpFunc_option_c38 gSt
  simp only [opt_l3]
  rfl
theorem opt_cmp (x y : Op) (hx : 0 ≤ x.cost ∧ x.cost ≤ 1000000000) (hy : 0 ≤ y.cost ∧ y.cost ≤ 1000000000) : ∃ z, insert_options_1 x y = some z ∧ (z < 0 ↔ x.cost < y.cost) :=
  ⟨x.cost - y.cost, by unfold insert_options_1; rw [w64_eq (by omega) (by omega)], by omega⟩
/-- What the library's sort gives. -/
theorem opt_sorted {F : Nat} {L : List Op} (hn : L.length ≤ 1000) (hF : 40000 ≤ F) (hb : ∀ x ∈ L, 0 ≤ x.cost ∧ x.cost ≤ 1000000000) : ∃ L', slices_SortStableFunc_option_c38 F L = some L' ∧ Srt T_insert_option.cost L' ∧ Stab T_insert_option.cost L L' := by
  rw [opt_sort]
  exact gSort_eq opt_cmp (by omega) (by omega) hb

/-! ### the candidates -/
def finU (l : List Int) : List Int := if l.getLast? = some (-1) then l else l ++ [-1]
def candR (s : List Int) (d : Int) (k : Nat) (u : Bool) : List Int := finU (s.take k ++ (d :: (bif u then [-1] else [])) ++ s.drop k)
def candAt (s : List Int) (d : Int) (i : Nat) : List Int := candR s d (i / 2) (decide (i % 2 = 1))
def cands (s : List Int) (d : Int) : List (List Int) := (List.range (2 * s.length + 1)).map (candAt s d)
theorem subO_drop {α : Type} {l : List α} {k : Nat} (h : k ≤ l.length) : subO l (k : Int) ((l.length : Nat) : Int) = some (l.drop k) := by
  unfold subO
  rw [if_pos (by omega)]
  simp
theorem getI_last {α : Type} {l : List α} (h : l ≠ []) (hn : l.length ≤ 1000000) : getI l (w64 (((l.length : Nat) : Int) - 1)) = l.getLast? := by
  have : 0 < l.length := List.length_pos_iff.2 h
  have e : w64 (((l.length : Nat) : Int) - 1) = ((l.length - 1 : Nat) : Int) := by rw [w64_eq (by omega) (by omega)]; omega
  rw [e, getI_nat, List.getLast?_eq_getElem?]
theorem fin_eq {l : List Int} (h : l ≠ []) (hn : l.length ≤ 10000) : (Option.bind (getI l (w64 (((l.length : Nat) : Int) - 1))) fun x1 =>
    Option.bind (bif (!(decide (x1 = (-1)))) then Option.bind (appO l [(-1)]) fun l6 => some l6 else some l) (fun out1 => some out1)) = some (finU l) := by
  rw [getI_last h (by omega), List.getLast?_eq_some_getLast h]
  unfold finU
  rw [List.getLast?_eq_some_getLast h]
  by_cases hx : l.getLast h = -1
  · simp [hx]
  · rw [if_neg (by simpa using hx)]
    simp only [Option.bind_some, hx, decide_false, Bool.not_false, cond_true]
    rw [appO_eq (by simp; omega)]
    rfl
theorem joined_eq {s m : List Int} {k : Nat} (hk : k ≤ s.length) (hs : s.length ≤ 1000) (hm : m ≠ []) (hm2 : m.length ≤ 2) : insert_joined s (k : Int) m = some (finU (s.take k ++ m ++ s.drop k)) := by
  have hm3 : 0 < m.length := List.length_pos_iff.2 hm
  unfold insert_joined
  rw [subO_take hk, subO_drop hk]
  simp only [Option.bind_some]
  rw [appO_eq (by simp; omega)]
  simp only [Option.bind_some]
  rw [appO_eq (by simp; omega)]
  simp only [Option.bind_some]
  rw [appO_eq (by simp; omega)]
  simp only [Option.bind_some, List.nil_append]
  exact fin_eq (by intro h; have := congrArg List.length h; simp only [List.length_append, List.length_nil] at this; omega) (by simp; omega)
theorem candidate_eq {s : List Int} {d : Int} {k : Nat} {u : Bool} (hk : k ≤ s.length) (hs : s.length ≤ 1000) : recyclingref23_candidate s d (k : Int) u = some (candR s d k u) := by
  unfold recyclingref23_candidate candR
  rw [subO_take hk, subO_drop hk]
  simp only [Option.bind_some]
  rw [appO_eq (by simp; omega)]
  simp only [Option.bind_some]
  rw [appO_eq (by simp; omega)]
  simp only [Option.bind_some, List.nil_append]
  have h1 : (bif u then Option.bind (appO (s.take k ++ [d]) [(-1)]) fun l4 => some l4 else some (s.take k ++ [d])) = some (s.take k ++ (d :: (bif u then [-1] else []))) := by
    cases u
    · simp
    · rw [cond_true, appO_eq (by simp; omega)]; simp
  have hl : (bif u then [(-1 : Int)] else []).length ≤ 1 := by cases u <;> simp
  rw [h1]
  simp only [Option.bind_some]
  rw [appO_eq (by simp; omega)]
  simp only [Option.bind_some]
  exact fin_eq (by simp) (by simp; omega)
/-- The program's list of candidates. -/
def toT (v : Int) (s : List Int) : T_api_Tour := ⟨v, s⟩
def firstC (t : T_api_Tour) (d : Int) (j : Nat) : List T_api_Tour := ((List.range (min j (2 * t.Stops.length + 1))).map (candAt t.Stops d)).map (toT t.Vehicle)
theorem firstC_len (t : T_api_Tour) (d : Int) (j : Nat) : (firstC t d j).length = min j (2 * t.Stops.length + 1) := by simp [firstC]
theorem firstC_succ (t : T_api_Tour) (d : Int) {j : Nat} (h : j < 2 * t.Stops.length + 1) : firstC t d (j + 1) = firstC t d j ++ [⟨t.Vehicle, candAt t.Stops d j⟩] := by
  unfold firstC
  rw [show min (j + 1) (2 * t.Stops.length + 1) = j + 1 by omega, show min j (2 * t.Stops.length + 1) = j by omega, List.range_succ, List.map_append, List.map_append]
  rfl
theorem candidates_loop {t : T_api_Tour} {d : Int} (hs : t.Stops.length ≤ 1000) : ∀ (r k f : Nat), k + r = t.Stops.length + 1 → r < f →
    iter (insert_candidates_l1 t d) f (firstC t d (2 * k), ((t.Stops.length + 1 : Nat) : Int), (k : Int)) = some ((cands t.Stops d).map (toT t.Vehicle))
  | _, _, 0, _, h => by omega
  | 0, k, f + 1, hk, _ => by
    have h1 : ¬ ((k : Int) < ((t.Stops.length + 1 : Nat) : Int)) := by omega
    simp only [iter, insert_candidates_l1, oun, h1, decide_false, cond_false, Option.bind_some, osum]
    unfold firstC cands
    rw [show min (2 * k) (2 * t.Stops.length + 1) = 2 * t.Stops.length + 1 by omega]
  | r + 1, k, f + 1, hk, hf => by
    have h1 : ((k : Int) < ((t.Stops.length + 1 : Nat) : Int)) := by omega
    have ih := candidates_loop (t := t) (d := d) hs r (k + 1) f (by omega) (by omega)
    have e1 : w64 ((k : Int) + 1) = ((k + 1 : Nat) : Int) := by rw [w64_eq (by omega) (by omega)]; omega
    have j1 : insert_joined t.Stops (k : Int) [d] = some (candAt t.Stops d (2 * k)) := by
      rw [joined_eq (by omega) hs (by simp) (by simp)]
      unfold candAt candR
      rw [show 2 * k / 2 = k by omega, show decide (2 * k % 2 = 1) = false by simp]
      rfl
    simp only [iter, insert_candidates_l1, oun, h1, decide_true, cond_true, j1, Option.bind_some, e1]
    rw [appO_eq (by rw [firstC_len]; simp; omega), Option.bind_some, ← firstC_succ t d (by omega)]
    by_cases h2 : k < t.Stops.length
    · have h2' : (k : Int) < ((t.Stops.length : Nat) : Int) := by omega
      have j2 : insert_joined t.Stops (k : Int) [d, -1] = some (candAt t.Stops d (2 * k + 1)) := by
        rw [joined_eq (by omega) hs (by simp) (by simp)]
        unfold candAt candR
        rw [show (2 * k + 1) / 2 = k by omega, show decide ((2 * k + 1) % 2 = 1) = true by simp]
        rfl
      simp only [h2', decide_true, cond_true, j2, Option.bind_some]
      rw [appO_eq (by rw [firstC_len]; simp; omega), Option.bind_some, ← firstC_succ t d (by omega)]
      simp only [Option.bind_some, osum]
      exact ih
    · have h2' : ¬ ((k : Int) < ((t.Stops.length : Nat) : Int)) := by omega
      have e2 : firstC t d (2 * k + 1) = firstC t d (2 * (k + 1)) := by
        unfold firstC
        rw [show min (2 * k + 1) (2 * t.Stops.length + 1) = min (2 * (k + 1)) (2 * t.Stops.length + 1) by omega]
      simp only [h2', decide_false, cond_false, Option.bind_some, osum]
      rw [e2]
      exact ih
theorem candidates_eq {F : Nat} {t : T_api_Tour} {d : Int} (hs : t.Stops.length ≤ 1000) (hF : 40000 ≤ F) : insert_candidates F t d = some ((cands t.Stops d).map (toT t.Vehicle)) := by
  have e1 : w64 (((t.Stops.length : Nat) : Int) + 1) = ((t.Stops.length + 1 : Nat) : Int) := by rw [w64_eq (by omega) (by omega)]; omega
  have := candidates_loop (t := t) (d := d) hs (t.Stops.length + 1) 0 F (by omega) (by omega)
  have e2 : firstC t d (2 * 0) = [] := by simp [firstC]
  rw [e2] at this
  unfold insert_candidates
  rw [e1, show (0 : Int) = ((0 : Nat) : Int) from rfl, this]
  rfl
end Go.Proofs.Ytfekfbcghnlohaa

namespace Go.Proofs.Ytfekfbcghnlohaa
open Go.RowKit
set_option linter.unusedSimpArgs false
set_option linter.unusedVariables false

abbrev ocost : Op → Int := T_insert_option.cost
abbrev otour : Op → T_api_Tour := T_insert_option.tour
theorem costR_bound {p : Pr} (hp : OkP p) (t : T_api_Tour) : 0 ≤ (costR p t).1 ∧ (costR p t).1 ≤ 262400000 := by
  unfold costR
  cases h : tourR p t with
  | inr q => simp
  | inl u =>
    have := cost_bound hp h
    exact ⟨this.1, this.2.1⟩
/-- The tours that can be driven, with what they cost. -/
def opOf (p : Pr) (t : T_api_Tour) : Option Op := if (costR p t).2 = 0 then some ⟨t, (costR p t).1⟩ else none
def feas (p : Pr) (ts : List T_api_Tour) : List Op := ts.filterMap (opOf p)
theorem feas_snoc (p : Pr) (ts : List T_api_Tour) (t : T_api_Tour) : feas p (ts ++ [t]) = feas p ts ++ (opOf p t).toList := by
  unfold feas
  rw [List.filterMap_append]
  cases h : opOf p t <;> simp [h]
theorem feas_len (p : Pr) (ts : List T_api_Tour) : (feas p ts).length ≤ ts.length := List.length_filterMap_le _ _
theorem feas_mem {p : Pr} {ts : List T_api_Tour} {x : Op} (h : x ∈ feas p ts) : x.tour ∈ ts ∧ (costR p x.tour).2 = 0 ∧ x.cost = (costR p x.tour).1 := by
  obtain ⟨t, h1, h2⟩ := List.mem_filterMap.1 h
  unfold opOf at h2
  split at h2
  · injection h2 with h2; subst h2
    exact ⟨h1, by assumption, rfl⟩
  · cases h2
theorem feas_cost {p : Pr} (hp : OkP p) {ts : List T_api_Tour} : ∀ x ∈ feas p ts, 0 ≤ x.cost ∧ x.cost ≤ 1000000000 := fun x hx => by
  have h1 := (feas_mem hx).2.2
  have h2 := costR_bound hp x.tour
  omega
/-- The program's loop over the candidates. -/
theorem opts_loop {F : Nat} (hF : 40000 ≤ F) {p : Pr} (hp : OkP p) (hc : recyclingref22_Check p = some 0) (hn : p.Road.Edges.length ≤ 600) (L : List T_api_Tour) (hl : L.length ≤ 1000) :
    iter (insert_options_l1 F p L) (((L.length : Nat) : Int).toNat + 1) ([], 0) = some (feas p L) := by
  have := iter_stI (body := insert_options_l1 F p L) L (fun k => feas p (L.take k)) (fun m k => (m, k)) (fun _ _ => none) (feas p L) (by omega) (fun k t ht _ => ?_) (fun _ => by simp only [insert_options_l1, oun, List.take_length]; simp) (((L.length : Nat) : Int).toNat + 1) (by simp)
  · rw [firstI_none _ _ (fun _ _ _ => rfl)] at this
    exact this
  · have hk := lt_of_get ht
    have hk2 : ((k : Int) < (L.length : Nat)) := by omega
    have h1 := feas_len p (L.take k)
    rw [length_take' (Nat.le_of_lt hk)] at h1
    simp only [insert_options_l1, oun, hk2, decide_true, cond_true, getI_nat, ht, Option.bind_some, Cost_eq hF hp hc hn, pickO]
    rw [take_succ' ht, feas_snoc]
    unfold opOf
    by_cases h : (costR p t).2 = 0
    · rw [if_pos h]
      simp only [h, decide_true, cond_true]
      rw [appO_eq (by simp; omega)]
      rfl
    · rw [if_neg h]
      simp only [h, decide_false, cond_false, Option.bind_some, Option.toList_none, List.append_nil]
/-- Where the reference puts an option: behind its equals. -/
theorem place_loop (c : Int) : ∀ (n : Nat) (Z R : List Op) (f : Nat), Z.length = n → n < f → n ≤ 100000 → Srt ocost Z →
    ∃ Z1 Z2, Z = Z1 ++ Z2 ∧ iter (recyclingref23_Options_l2 ((Z ++ R).map ocost) c) f (n : Int) = some ((Z1.length : Nat) : Int) ∧ (∀ z ∈ Z1, z.cost ≤ c) ∧ ∀ z ∈ Z2, c < z.cost
  | _, _, _, 0, _, h, _, _ => by omega
  | 0, Z, R, f + 1, hZ, _, _, _ => by
    have : Z = [] := List.eq_nil_of_length_eq_zero hZ
    subst this
    exact ⟨[], [], rfl, by simp [iter, recyclingref23_Options_l2, osum], by simp, by simp⟩
  | n + 1, Z, R, f + 1, hZ, hf, hb, hs => by
    obtain ⟨Y, y, rfl⟩ : ∃ Y y, Z = Y ++ [y] := by
      have : Z ≠ [] := by intro e; rw [e] at hZ; simp at hZ
      exact ⟨Z.dropLast, Z.getLast this, (List.dropLast_concat_getLast this).symm⟩
    have hY : Y.length = n := by simpa using hZ
    have h0 : (0 : Int) < ((n + 1 : Nat) : Int) := by omega
    have e1 : w64 (((n + 1 : Nat) : Int) - 1) = (n : Int) := by rw [w64_eq (by omega) (by omega)]; omega
    have g1 : ((Y ++ [y] ++ R).map ocost)[n]? = some y.cost := by
      rw [List.getElem?_map, List.append_assoc, List.getElem?_append_right (by omega), hY]
      simp
    have hp := List.pairwise_append.1 hs
    by_cases h : c < y.cost
    · obtain ⟨Z1, Z2, k1, k2, k3, k4⟩ := place_loop c n Y (y :: R) f hY (by omega) (by omega) hp.1
      refine ⟨Z1, Z2 ++ [y], by rw [k1]; simp, ?_, k3, fun z hz => ?_⟩
      · have e2 : Y ++ [y] ++ R = Y ++ y :: R := by simp
        rw [e2] at g1 ⊢
        simp only [iter, recyclingref23_Options_l2, h0, decide_true, cond_true, e1, getI_nat, g1, Option.bind_some, h, osum, k2]
      · rcases List.mem_append.1 hz with hz | hz
        · exact k4 z hz
        · rw [List.mem_singleton.1 hz]; exact h
    · refine ⟨Y ++ [y], [], by simp, ?_, fun z hz => ?_, by simp⟩
      · simp only [iter, recyclingref23_Options_l2, h0, decide_true, cond_true, e1, getI_nat, g1, Option.bind_some, h, decide_false, cond_false, osum]
        rw [hZ]
      · rcases List.mem_append.1 hz with hz | hz
        · have := hp.2.2 z hz y (by simp)
          simp only [ocost] at this
          omega
        · rw [List.mem_singleton.1 hz]; omega
theorem map_ins (f : Op → Int) (g : Op → T_api_Tour) (Z1 Z2 : List Op) (x : Op) (hl : (Z1 ++ Z2).length ≤ 100000) : (Option.bind (subO ((Z1 ++ Z2).map g) 0 ((Z1.length : Nat) : Int)) fun l1 =>
            Option.bind (appO [] l1) fun l2 =>
            Option.bind (appO l2 [g x]) fun l3 =>
            Option.bind (subO ((Z1 ++ Z2).map g) ((Z1.length : Nat) : Int) ((((Z1 ++ Z2).map g).length : Nat) : Int)) fun l4 =>
            Option.bind (appO l3 l4) fun l5 =>
            Option.bind (subO ((Z1 ++ Z2).map f) 0 ((Z1.length : Nat) : Int)) fun l6 =>
            Option.bind (appO [] l6) fun l7 =>
            Option.bind (appO l7 [f x]) fun l8 =>
            Option.bind (subO ((Z1 ++ Z2).map f) ((Z1.length : Nat) : Int) ((((Z1 ++ Z2).map f).length : Nat) : Int)) fun l9 =>
            Option.bind (appO l8 l9) fun l10 =>
            some (l5, l10)) = some ((Z1 ++ x :: Z2).map g, (Z1 ++ x :: Z2).map f) := by
  simp only [List.length_append] at hl
  rw [subO_take (by simp), subO_drop (by simp), subO_take (by simp), subO_drop (by simp)]
  simp only [Option.bind_some]
  rw [appO_eq (by simp; omega)]
  simp only [Option.bind_some]
  rw [appO_eq (by simp; omega)]
  simp only [Option.bind_some]
  rw [appO_eq (by simp; omega)]
  simp only [Option.bind_some]
  rw [appO_eq (by simp; omega)]
  simp only [Option.bind_some]
  rw [appO_eq (by simp; omega)]
  simp only [Option.bind_some]
  rw [appO_eq (by simp; omega)]
  simp [List.map_append]
/-- The reference's loop. -/
theorem ref_opts {F : Nat} (hF : 40000 ≤ F) {p : Pr} (hp : OkP p) (hc : recyclingref22_Check p = some 0) {t : T_api_Tour} {d : Int} (hs : t.Stops.length ≤ 1000) : ∀ (r i : Nat) (L : List Op) (f : Nat), i + r = 2 * t.Stops.length + 1 → r < f → Srt ocost L → Stab ocost (feas p (firstC t d i)) L →
    ∃ L', iter (recyclingref23_Options_l3 F p t d) f (L.map otour, L.map ocost, (i : Int)) = some (L'.map otour) ∧ Srt ocost L' ∧ Stab ocost (feas p ((cands t.Stops d).map (toT t.Vehicle))) L'
  | _, _, _, 0, _, h, _, _ => by omega
  | 0, i, L, f + 1, hi, _, h1, h2 => by
    have e1 : w64 (2 * ((t.Stops.length : Nat) : Int)) = ((2 * t.Stops.length : Nat) : Int) := by rw [w64_eq (by omega) (by omega)]; omega
    have : ¬ ((i : Int) ≤ ((2 * t.Stops.length : Nat) : Int)) := by omega
    refine ⟨L, ?_, h1, ?_⟩
    · simp only [iter, recyclingref23_Options_l3, oun, e1, this, decide_false, cond_false, Option.bind_some, osum]
    · have e2 : firstC t d i = (cands t.Stops d).map (toT t.Vehicle) := by
        unfold firstC cands
        rw [show min i (2 * t.Stops.length + 1) = 2 * t.Stops.length + 1 by omega]
      rw [← e2]; exact h2
  | r + 1, i, L, f + 1, hi, hf, h1, h2 => by
    have e1 : w64 (2 * ((t.Stops.length : Nat) : Int)) = ((2 * t.Stops.length : Nat) : Int) := by rw [w64_eq (by omega) (by omega)]; omega
    have hlt : ((i : Int) ≤ ((2 * t.Stops.length : Nat) : Int)) := by omega
    have e2 : w64 ((i : Int) + 1) = ((i + 1 : Nat) : Int) := by rw [w64_eq (by omega) (by omega)]; omega
    have e3 : w64 (Int.tdiv (i : Int) 2) = ((i / 2 : Nat) : Int) := by
      rw [show Int.tdiv (i : Int) 2 = ((i / 2 : Nat) : Int) from rfl, w64_eq (by omega) (by omega)]
    have e4 : (decide (Int.tmod (i : Int) 2 = 1)) = decide (i % 2 = 1) := by
      rw [show Int.tmod (i : Int) 2 = ((i % 2 : Nat) : Int) from rfl]
      congr 1
      exact propext (by omega)
    have hcand : recyclingref23_candidate t.Stops d ((i / 2 : Nat) : Int) (decide (i % 2 = 1)) = some (candAt t.Stops d i) := candidate_eq (by omega) hs
    have hcost := ref_Cost hp hc ⟨t.Vehicle, candAt t.Stops d i⟩
    have hfs := firstC_succ t d (j := i) (by omega)
    have hlen : L.length ≤ 2001 := by
      rw [← h2.perm.length_eq]
      refine Nat.le_trans (feas_len _ _) ?_
      rw [firstC_len]; omega
    by_cases h : (costR p ⟨t.Vehicle, candAt t.Stops d i⟩).2 = 0
    · have hop : opOf p ⟨t.Vehicle, candAt t.Stops d i⟩ = some ⟨⟨t.Vehicle, candAt t.Stops d i⟩, (costR p ⟨t.Vehicle, candAt t.Stops d i⟩).1⟩ := by unfold opOf; rw [if_pos h]
      generalize hx : (⟨⟨t.Vehicle, candAt t.Stops d i⟩, (costR p ⟨t.Vehicle, candAt t.Stops d i⟩).1⟩ : Op) = x at hop
      obtain ⟨Z1, Z2, k1, k2, k3, k4⟩ := place_loop (costR p ⟨t.Vehicle, candAt t.Stops d i⟩).1 L.length L [] F rfl (by omega) (by omega) h1
      have hxc : x.cost = (costR p ⟨t.Vehicle, candAt t.Stops d i⟩).1 := by rw [← hx]
      rw [List.append_nil] at k2
      obtain ⟨j1, j2⟩ := ins_stab (k := ocost) (x := x) (by rw [← k1]; exact h1) (fun z hz => by have := k4 z hz; simp only [ocost]; omega) (fun z hz => by have := k3 z hz; simp only [ocost]; omega)
      rw [← k1] at j2
      have h3 : Stab ocost (feas p (firstC t d (i + 1))) (Z1 ++ x :: Z2) := by
        rw [hfs, feas_snoc, hop]
        exact Stab.trans (h2.append (Stab.refl _)) j2
      obtain ⟨L', q1, q2, q3⟩ := ref_opts hF hp hc hs r (i + 1) (Z1 ++ x :: Z2) f (by omega) (by omega) j1 h3
      refine ⟨L', ?_, q2, q3⟩
      have hmi := map_ins ocost otour Z1 Z2 x (by rw [← k1]; omega)
      rw [← k1] at hmi
      have hx1 : otour x = ⟨t.Vehicle, candAt t.Stops d i⟩ := by rw [← hx]
      have hx2 : ocost x = (costR p ⟨t.Vehicle, candAt t.Stops d i⟩).1 := hxc
      rw [hx1, hx2] at hmi
      simp only [iter, recyclingref23_Options_l3, oun, e1, hlt, decide_true, cond_true, e3, e4, hcand, Option.bind_some, hcost, h, Bool.not_true, cond_false, List.length_map, k2]
      rw [List.length_map, List.length_map] at hmi
      rw [hmi]
      simp only [Option.bind_some, e2, osum, q1]
    · have hop : opOf p ⟨t.Vehicle, candAt t.Stops d i⟩ = none := by unfold opOf; rw [if_neg h]
      obtain ⟨L', q1, q2, q3⟩ := ref_opts hF hp hc hs r (i + 1) L f (by omega) (by omega) h1 (by rw [hfs, feas_snoc, hop]; simpa using h2)
      refine ⟨L', ?_, q2, q3⟩
      simp only [iter, recyclingref23_Options_l3, oun, e1, hlt, decide_true, cond_true, e3, e4, hcand, Option.bind_some, hcost, h, decide_false, Bool.not_false, e2, osum, q1]
end Go.Proofs.Ytfekfbcghnlohaa

namespace Go.Proofs.Ytfekfbcghnlohaa
open Go.RowKit
set_option linter.unusedSimpArgs false
set_option linter.unusedVariables false

theorem finU_len (l : List Int) : l.length ≤ (finU l).length := by unfold finU; split <;> simp
theorem candAt_len {s : List Int} {d : Int} {i : Nat} (h : i < 2 * s.length + 1) : s.length + 1 ≤ (candAt s d i).length := by
  unfold candAt candR
  refine Nat.le_trans ?_ (finU_len _)
  simp; omega
theorem costR_long {p : Pr} {t : T_api_Tour} (h : 40 < t.Stops.length) : (costR p t).2 ≠ 0 := by
  unfold costR tourR
  split
  · rename_i z hz
    split at hz
    · cases hz
    · first | rw [if_pos h] at hz | skip
      cases hz
  · rename_i q hq
    split at hq
    · injection hq with hq; subst hq; decide
    · first | rw [if_pos h] at hq | skip
      injection hq with hq; subst hq; decide
theorem feas_long {p : Pr} {t : T_api_Tour} {d : Int} (h : 40 ≤ t.Stops.length) : feas p ((cands t.Stops d).map (toT t.Vehicle)) = [] := by
  unfold feas
  rw [List.filterMap_eq_nil_iff]
  intro u hu
  obtain ⟨s, h1, rfl⟩ := List.mem_map.1 hu
  obtain ⟨i, h2, rfl⟩ := List.mem_map.1 h1
  have := candAt_len (s := t.Stops) (d := d) (List.mem_range.1 h2)
  unfold opOf
  rw [if_neg]
  exact costR_long (by simp only [toT]; omega)
/-- What the options of a tour are. -/
structure OkO (p : Pr) (t : T_api_Tour) (d : Int) (L : List Op) : Prop where
  chk : recyclingref22_Check p = some 0
  ok : OkP p
  v0 : 0 ≤ t.Vehicle
  v1 : t.Vehicle < ((p.Vehicles.length : Nat) : Int)
  d0 : 0 ≤ d
  d1 : d < ((p.Demands.length : Nat) : Int)
  new : d ∉ t.Stops
  srt : Srt ocost L
  stab : Stab ocost (feas p ((cands t.Stops d).map (toT t.Vehicle))) L
theorem refO_l1 {t : T_api_Tour} {d : Int} (hs : t.Stops.length ≤ 1000) : iter (recyclingref23_Options_l1 t d) (((t.Stops.length : Nat) : Int).toNat + 1) 0 = some (bif decide (d ∈ t.Stops) then .inr ([], 6) else .inl ()) := by
  have := iter_firstI (body := recyclingref23_Options_l1 t d) t.Stops (fun k y => bif decide (y = d) then some (.inr ([], 6)) else none) (.inl () : Unit ⊕ (List T_api_Tour × Int)) (by omega) (fun k y hy => ?_) (by simp [recyclingref23_Options_l1]) (((t.Stops.length : Nat) : Int).toNat + 1) (by simp)
  · rw [this, anyF]
    have : (t.Stops.any fun y => decide (y = d)) = decide (d ∈ t.Stops) := by
      rw [Bool.eq_iff_iff]
      simp only [List.any_eq_true, decide_eq_true_eq]
      exact ⟨fun ⟨y, h1, h2⟩ => h2 ▸ h1, fun h => ⟨d, h, rfl⟩⟩
    rw [this]
  · have hk := lt_of_get hy
    have hk2 : ((k : Int) < (t.Stops.length : Nat)) := by omega
    simp only [recyclingref23_Options_l1, hk2, decide_true, cond_true, getI_nat, hy, Option.bind_some]
    cases decide (y = d) <;> rfl
/-- Does the call ask for a vehicle or a demand that is none? -/
def badI (p : Pr) (t : T_api_Tour) (d : Int) : Bool := decide (t.Vehicle < 0) || (decide (((p.Vehicles.length : Nat) : Int) ≤ t.Vehicle) || (decide (d < 0) || decide (((p.Demands.length : Nat) : Int) ≤ d)))
theorem options_both {F : Nat} (hF : 40000 ≤ F) (p : Pr) (hn : p.Road.Edges.length ≤ 600) (t : T_api_Tour) (hs : t.Stops.length ≤ 1000) (d : Int) :
    ∃ L e, insert_options F p t d = some (L, e) ∧ recyclingref23_Options F p t d = some (L.map otour, e) ∧ ((e ≠ 0 ∧ L = []) ∨ (e = 0 ∧ OkO p t d L)) ∧ (recyclingref22_Check p = some 0 → badI p t d = false → e = bif decide (d ∈ t.Stops) then 6 else 0) := by
  unfold insert_options recyclingref23_Options
  rw [tour_Check_eq (by omega) p hn]
  rcases Check_cases p hn with ⟨h1, h2⟩ | ⟨e, h1, h2⟩
  · rw [h1]
    simp only [Option.bind_some, decide_true, Bool.not_true, cond_false, or_some]
    have hb : (decide (t.Vehicle < 0) || (decide (((p.Vehicles.length : Nat) : Int) ≤ t.Vehicle) || (decide (d < 0) || decide (((p.Demands.length : Nat) : Int) ≤ d)))) = badI p t d := rfl
    rw [hb]
    cases hbi : badI p t d with
    | true => exact ⟨[], 7, rfl, rfl, .inl ⟨by decide, rfl⟩, fun _ h => by cases h⟩
    | false =>
      simp only [cond_false, contains_eq _ hs, Option.bind_some, refO_l1 hs]
      unfold badI at hbi
      simp only [Bool.or_eq_false_iff, decide_eq_false_iff_not] at hbi
      by_cases hd : d ∈ t.Stops
      · simp only [hd, decide_true, cond_true, osum]
        exact ⟨[], 6, rfl, rfl, .inl ⟨by decide, rfl⟩, fun _ _ => rfl⟩
      · simp only [hd, decide_false, cond_false, osum]
        obtain ⟨L', q1, q2, q3⟩ := ref_opts hF h2 h1 hs (2 * t.Stops.length + 1) 0 [] F (t := t) (d := d) (by omega) (by omega) List.Pairwise.nil (by simp [firstC, feas]; exact Stab.refl _)
        simp only [List.map_nil] at q1
        rw [show ((0 : Nat) : Int) = 0 from rfl] at q1
        rw [q1]
        by_cases hl : 40 ≤ t.Stops.length
        · have hl' : (40 : Int) ≤ ((t.Stops.length : Nat) : Int) := by omega
          have : L' = [] := by rw [feas_long hl] at q3; exact (q3.perm.symm.eq_nil)
          subst this
          exact ⟨[], 0, by simp only [hl', decide_true, cond_true], rfl, .inr ⟨rfl, h1, h2, by omega, by omega, by omega, by omega, hd, q2, q3⟩, fun _ _ => rfl⟩
        · have hl' : ¬ (40 : Int) ≤ ((t.Stops.length : Nat) : Int) := by omega
          have hcl : ((cands t.Stops d).map (toT t.Vehicle)).length ≤ 1000 := by simp [cands]; omega
          obtain ⟨L2, j1, j2, j3⟩ := opt_sorted (F := F) (L := feas p ((cands t.Stops d).map (toT t.Vehicle))) (Nat.le_trans (feas_len _ _) hcl) hF (feas_cost h2)
          have : L2 = L' := j2.unique q2 (j3.symm.trans q3)
          subst this
          refine ⟨L2, 0, ?_, rfl, .inr ⟨rfl, h1, h2, by omega, by omega, by omega, by omega, hd, q2, q3⟩, fun _ _ => rfl⟩
          simp only [hl', decide_false, cond_false, candidates_eq hs hF, Option.bind_some, opts_loop hF h2 h1 hn _ hcl, j1]
  · rw [h2]
    simp only [Option.bind_some]
    rw [show decide (e = 0) = false by simpa using h1]
    exact ⟨[], e, rfl, rfl, .inl ⟨h1, rfl⟩, fun h => by injection h with h; exact absurd h h1⟩
theorem Options_l1 (L : List Op) (hl : L.length ≤ 10000) : iter (insert_Options_l1 L) (((L.length : Nat) : Int).toNat + 1) ([], 0) = some (L.map otour) := by
  have := iter_stI (body := insert_Options_l1 L) L (fun k => (L.take k).map otour) (fun m k => (m, k)) (fun _ _ => none) (L.map otour) (by omega) (fun k x hx _ => ?_) (fun _ => by simp only [insert_Options_l1, oun, List.take_length]; simp) (((L.length : Nat) : Int).toNat + 1) (by simp)
  · rw [firstI_none _ _ (fun _ _ _ => rfl)] at this
    exact this
  · have hk := lt_of_get hx
    have hk2 : ((k : Int) < (L.length : Nat)) := by omega
    simp only [insert_Options_l1, oun, hk2, decide_true, cond_true, getI_nat, hx, Option.bind_some, pickO]
    rw [appO_eq (by simp; omega), take_succ' hx]
    simp
theorem OkO.len {p : Pr} {t : T_api_Tour} {d : Int} {L : List Op} (h : OkO p t d L) (hs : t.Stops.length ≤ 1000) : L.length ≤ 2001 := by
  rw [← h.stab.perm.length_eq]
  refine Nat.le_trans (feas_len _ _) ?_
  simp [cands]; omega
theorem Options_eq {F : Nat} (hF : 40000 ≤ F) (p : Pr) (hn : p.Road.Edges.length ≤ 600) (t : T_api_Tour) (hs : t.Stops.length ≤ 1000) (d : Int) :
    insert_Options F p t d = recyclingref23_Options F p t d ∧ insert_Best F p t d = recyclingref23_Best F p t d := by
  obtain ⟨L, e, h1, h2, h3, _⟩ := options_both hF p hn t hs d
  have hl : L.length ≤ 2001 := by
    rcases h3 with ⟨_, rfl⟩ | ⟨_, h3⟩
    · simp
    · exact h3.len hs
  constructor
  · unfold insert_Options
    rw [h1, h2]
    simp only [Option.bind_some, oun, Options_l1 L (by omega)]
  · unfold insert_Best recyclingref23_Best
    rw [h1, h2]
    simp only [Option.bind_some, oun, List.length_map]
    cases decide (e = 0) with
    | false => rfl
    | true =>
      simp only [Bool.not_true, cond_false]
      by_cases h0 : L = []
      · subst h0; rfl
      · obtain ⟨x, M, rfl⟩ := List.exists_cons_of_ne_nil h0
        have : ¬ ((((x :: M).length : Nat) : Int) = 0) := by simp; omega
        simp only [this, decide_false, cond_false, List.map_cons]
        rfl
/-- The options of a call that asks for nothing wrong. -/
theorem options_det {F : Nat} (hF : 40000 ≤ F) {p : Pr} (hn : p.Road.Edges.length ≤ 600) {t : T_api_Tour} (hs : t.Stops.length ≤ 1000) {d : Int} (hc : recyclingref22_Check p = some 0) (hb : badI p t d = false) (hd : d ∉ t.Stops) :
    ∃ L, insert_options F p t d = some (L, 0) ∧ OkO p t d L := by
  obtain ⟨L, e, h1, h2, h3, h4⟩ := options_both hF p hn t hs d
  have := h4 hc hb
  rw [show decide (d ∈ t.Stops) = false by simpa using hd] at this
  have he : e = 0 := this
  subst he
  rcases h3 with ⟨h, _⟩ | ⟨_, h3⟩
  · exact absurd rfl h
  · exact ⟨L, h1, h3⟩
theorem Options_at {F : Nat} {p : Pr} {t : T_api_Tour} {d e : Int} {L : List Op} (h : insert_options F p t d = some (L, e)) (hl : L.length ≤ 10000) : insert_Options F p t d = some (L.map otour, e) := by
  unfold insert_Options
  rw [h]
  simp only [Option.bind_some, oun, Options_l1 L hl]
/-! ### tours and lists that are the same -/
theorem Ints_self (a : List Int) (h : a.length ≤ 1000000) : recyclingref23_Ints a a = some true := by
  unfold recyclingref23_Ints
  have := iter_firstI (body := recyclingref23_Ints_l1 a a) a (fun _ _ => none) (.inl () : Unit ⊕ Bool) (by omega) (fun k y hy => ?_) (by simp [recyclingref23_Ints_l1]) (((a.length : Nat) : Int).toNat + 1) (by simp)
  · rw [this, firstI_none _ _ (fun _ _ _ => rfl)]
    simp [osum]
  · have hk := lt_of_get hy
    have hk2 : ((k : Int) < (a.length : Nat)) := by omega
    simp only [recyclingref23_Ints_l1, hk2, decide_true, cond_true, getI_nat, hy, Option.bind_some, Bool.not_true, cond_false, pickO]
theorem Tours_self (a : List T_api_Tour) (h : a.length ≤ 1000000) (h2 : ∀ x ∈ a, x.Stops.length ≤ 1000000) : recyclingref23_Same a a = some true := by
  unfold recyclingref23_Same
  have := iter_firstI (body := recyclingref23_Same_l1 a a) a (fun _ _ => none) (.inl () : Unit ⊕ Bool) (by omega) (fun k y hy => ?_) (by simp [recyclingref23_Same_l1]) (((a.length : Nat) : Int).toNat + 1) (by simp)
  · rw [this, firstI_none _ _ (fun _ _ _ => rfl)]
    simp [osum]
  · have hk := lt_of_get hy
    have hk2 : ((k : Int) < (a.length : Nat)) := by omega
    simp only [recyclingref23_Same_l1, hk2, decide_true, cond_true, getI_nat, hy, Option.bind_some, Bool.not_true, cond_false, pickO, Ints_self _ (h2 y (List.mem_of_getElem? hy))]
theorem light_some (p : Pr) (t : T_api_Tour) : ∃ b, recyclinglaw23_light p t = some b ∧ (b = true → p.Road.Edges.length ≤ 600 ∧ p.Vehicles.length ≤ 30 ∧ p.Demands.length ≤ 60 ∧ t.Stops.length ≤ 100) := by
  obtain ⟨⟨b, hb⟩, hl⟩ := Large_some p
  unfold recyclinglaw23_light
  rw [hb]
  cases b with
  | true => exact ⟨false, rfl, fun h => by cases h⟩
  | false =>
    obtain ⟨h1, h2, h3⟩ := hl hb
    refine ⟨_, rfl, fun h => ⟨h1, h2, h3, ?_⟩⟩
    have := of_decide_eq_true h
    omega
theorem feas_stops {p : Pr} {ts : List T_api_Tour} {x : Op} (h : x ∈ feas p ts) : x.tour.Stops.length ≤ 40 := by
  rcases Nat.lt_or_ge 40 x.tour.Stops.length with h1 | h1
  · exact absurd (feas_mem h).2.1 (costR_long h1)
  · exact h1
theorem OkO.stops {p : Pr} {t : T_api_Tour} {d : Int} {L : List Op} (h : OkO p t d L) : ∀ x ∈ L, x.tour.Stops.length ≤ 40 := fun x hx => feas_stops (h.stab.perm.symm.subset hx)
end Go.Proofs.Ytfekfbcghnlohaa

namespace Go.Proofs.Ytfekfbcghnlohaa
open Go.RowKit
set_option linter.unusedSimpArgs false
set_option linter.unusedVariables false

def exI : Pr := ⟨⟨2, [⟨0, 1, 500, 60⟩, ⟨1, 0, 500, 60⟩]⟩, [⟨⟨#[118]⟩, 0, ⟨1000, 2000⟩, 1000, 1⟩], [⟨0, 1, 0, 300, ⟨1100, 1200⟩, 30⟩], 0, 20⟩
def exJ : Pr := ⟨⟨2, [⟨0, 1, 500, 60⟩, ⟨1, 0, 500, 60⟩]⟩, [⟨⟨#[118]⟩, 0, ⟨1000, 1100⟩, 1000, 1⟩], [⟨0, 1, 0, 300, ⟨1100, 1200⟩, 30⟩], 0, 20⟩
theorem chkI : recyclingref22_Check exI = some 0 := by decide +kernel
theorem chkJ : recyclingref22_Check exJ = some 0 := by decide +kernel
theorem okPI : OkP exI := OkP.of (by decide) chkI
theorem okPJ : OkP exJ := OkP.of (by decide) chkJ
theorem costR_of {p : Pr} (hp : OkP p) (hc : recyclingref22_Check p = some 0) {t : T_api_Tour} {c : Int × Int} (h : recyclingref22_Cost p t = some c) : costR p t = c := by
  rw [ref_Cost hp hc t] at h
  injection h
theorem costI : costR exI ⟨0, [0, -1]⟩ = (1000, 0) := costR_of okPI chkI (by decide +kernel)
theorem costJ : costR exJ ⟨0, [0, -1]⟩ = (0, 19) := costR_of okPJ chkJ (by decide +kernel)
theorem exI_opts {F : Nat} (hF : 40000 ≤ F) : insert_options F exI ⟨0, []⟩ 0 = some ([⟨⟨0, [0, -1]⟩, 1000⟩], 0) := by
  obtain ⟨L, h1, h2⟩ := options_det hF (p := exI) (by decide) (t := ⟨0, []⟩) (by decide) (d := 0) chkI (by decide) (by decide)
  have hf : feas exI ((cands [] 0).map (toT 0)) = [⟨⟨0, [0, -1]⟩, 1000⟩] := by
    rw [show cands [] 0 = [[0, -1]] by decide]
    simp [feas, opOf, toT, costI]
  have h3 := h2.stab
  simp only at h3
  rw [hf] at h3
  have := h3.perm.symm.eq_singleton
  rw [this] at h1
  exact h1
theorem exJ_opts {F : Nat} (hF : 40000 ≤ F) : insert_options F exJ ⟨0, []⟩ 0 = some ([], 0) := by
  obtain ⟨L, h1, h2⟩ := options_det hF (p := exJ) (by decide) (t := ⟨0, []⟩) (by decide) (d := 0) chkJ (by decide) (by decide)
  have hf : feas exJ ((cands [] 0).map (toT 0)) = [] := by
    rw [show cands [] 0 = [[0, -1]] by decide]
    simp [feas, opOf, toT, costJ]
  have h3 := h2.stab
  simp only at h3
  rw [hf] at h3
  have := h3.perm.symm.eq_nil
  rw [this] at h1
  exact h1
theorem exI_twice {F : Nat} (hF : 40000 ≤ F) : insert_options F exI ⟨0, [0, -1]⟩ 0 = some ([], 6) := by
  obtain ⟨L, e, h1, _, h3, h4⟩ := options_both hF exI (by decide) ⟨0, [0, -1]⟩ (by decide) 0
  have he := h4 chkI (by decide)
  have he : e = 6 := he
  subst he
  rcases h3 with ⟨_, h⟩ | ⟨h, _⟩
  · subst h; exact h1
  · exact absurd h (by decide)
theorem exI_build {F : Nat} (hF : 40000 ≤ F) : insert_Build F exI = some (⟨[⟨0, [0, -1]⟩], []⟩, 0) := by
  unfold insert_Build
  rw [tour_Check_eq (by omega) _ (by decide), chkI]
  simp only [Option.bind_some, decide_true, Bool.not_true, cond_false]
  have e1 : makeO (T_insert_option.mk (T_api_Tour.mk 0 []) 0) ((exI.Vehicles.length : Nat) : Int) = some [⟨⟨0, []⟩, 0⟩] := by decide +kernel
  have e2 : iter (insert_Build_l1 [⟨⟨0, []⟩, 0⟩]) ((([⟨⟨0, []⟩, 0⟩] : List Op).length : Nat) : Int).toNat.succ ([⟨⟨0, []⟩, 0⟩], 0) = some [⟨⟨0, []⟩, 0⟩] := by decide +kernel
  have e3 : iter (insert_Build_l2 F exI [⟨⟨0, []⟩, 0⟩] 0) ((((([⟨⟨0, []⟩, 0⟩] : List Op).length : Nat) : Int).toNat) + 1) (0, [], 0, -1, 0) = some (0, [0, -1], 1000, 0) := by
    show iter (insert_Build_l2 F exI [⟨⟨0, []⟩, 0⟩] 0) 2 (0, [], 0, -1, 0) = _
    rw [iter]
    have : insert_Build_l2 F exI [⟨⟨0, []⟩, 0⟩] 0 (0, [], 0, -1, 0) = some (.inl (0, [0, -1], 1000, 0, 1)) := by
      unfold insert_Build_l2
      simp only [oun]
      rw [show getI ([⟨⟨0, []⟩, 0⟩] : List Op) 0 = some ⟨⟨0, []⟩, 0⟩ by decide]
      simp only [Option.bind_some, exI_opts hF]
      decide +kernel
    rw [this]
    simp only [Option.bind_some, osum, iter]
    have : insert_Build_l2 F exI [⟨⟨0, []⟩, 0⟩] 0 (0, [0, -1], 1000, 0, 1) = some (.inr (0, [0, -1], 1000, 0)) := by
      unfold insert_Build_l2
      simp only [oun]
      rw [show decide ((1 : Int) < ((([⟨⟨0, []⟩, 0⟩] : List Op).length : Nat) : Int)) = false by decide]
      rfl
    rw [this]
    rfl
  have e4 : iter (insert_Build_l3 F exI) ((((exI.Demands.length : Nat) : Int).toNat) + 1) ([⟨⟨0, []⟩, 0⟩], [], 0) = some ([⟨⟨0, [0, -1]⟩, 1000⟩], []) := by
    show iter (insert_Build_l3 F exI) 2 ([⟨⟨0, []⟩, 0⟩], [], 0) = _
    rw [iter]
    have : insert_Build_l3 F exI ([⟨⟨0, []⟩, 0⟩], [], 0) = some (.inl ([⟨⟨0, [0, -1]⟩, 1000⟩], [], 1)) := by
      unfold insert_Build_l3
      simp only [oun]
      rw [e3]
      decide +kernel
    rw [this]
    simp only [Option.bind_some, osum, iter]
    have : insert_Build_l3 F exI ([⟨⟨0, [0, -1]⟩, 1000⟩], [], 1) = some (.inr ([⟨⟨0, [0, -1]⟩, 1000⟩], [])) := by
      unfold insert_Build_l3
      simp only [oun]
      rw [show decide ((1 : Int) < ((exI.Demands.length : Nat) : Int)) = false by decide]
      rfl
    rw [this]
    rfl
  rw [e1]
  simp only [Option.bind_some]
  rw [show iter (insert_Build_l1 [⟨⟨0, []⟩, 0⟩]) (((([⟨⟨0, []⟩, 0⟩] : List Op).length : Nat) : Int).toNat + 1) ([⟨⟨0, []⟩, 0⟩], 0) = some [⟨⟨0, []⟩, 0⟩] from e2]
  simp only [Option.bind_some]
  rw [e4]
  decide +kernel
theorem awakeI {F : Nat} (hF : 40000 ≤ F) : recyclinglaw23_awake F = some true := by
  have h1 : insert_Options F exI ⟨0, []⟩ 0 = some ([⟨0, [0, -1]⟩], 0) := Options_at (exI_opts hF) (by decide)
  have h2 : insert_Options F exI ⟨0, [0, -1]⟩ 0 = some ([], 6) := Options_at (exI_twice hF) (by decide)
  have h3 := exI_build hF
  have h4 : insert_Best F exJ ⟨0, []⟩ 0 = some (⟨0, []⟩, 40) := by
    unfold insert_Best
    rw [exJ_opts hF]
    rfl
  unfold exI at h1 h2 h3
  unfold exJ at h4
  unfold recyclinglaw23_awake
  rw [h1]
  simp only [Option.bind_some, oun]
  rw [h2]
  simp only [Option.bind_some, oun]
  rw [h3]
  simp only [Option.bind_some, oun]
  rw [show getI [(T_api_Vehicle.mk ⟨#[118]⟩ 0 (T_api_Window.mk 1000 2000) 1000 1)] 0 = some (T_api_Vehicle.mk ⟨#[118]⟩ 0 (T_api_Window.mk 1000 2000) 1000 1) by decide]
  simp only [Option.bind_some]
  rw [show setI [(T_api_Vehicle.mk ⟨#[118]⟩ 0 (T_api_Window.mk 1000 2000) 1000 1)] 0 (T_api_Vehicle.mk ⟨#[118]⟩ 0 (T_api_Window.mk 1000 1100) 1000 1) = [(T_api_Vehicle.mk ⟨#[118]⟩ 0 (T_api_Window.mk 1000 1100) 1000 1)] by decide]
  rw [h4]
  decide +kernel
theorem recyclinglaw23_InsertOptions_true (p : T_api_Problem) (t : T_api_Tour) (d : Int) (hp : wf_api_Problem p) (ht : wf_api_Tour t) (hd : wfI .i64 d) : ∃ F, recyclinglaw23_InsertOptions F p t d = some true := by
  refine ⟨40000, ?_⟩
  have hF : 40000 ≤ 40000 := Nat.le_refl _
  unfold recyclinglaw23_InsertOptions
  obtain ⟨b, hb, hl⟩ := light_some p t
  rw [hb]
  cases b with
  | false => simp only [Option.bind_some, Bool.not_false, cond_true, awakeI hF]
  | true =>
    obtain ⟨h1, _, _, h4⟩ := hl rfl
    obtain ⟨q1, q2⟩ := Options_eq hF p h1 t (by omega) d
    obtain ⟨L, e, _, j1, j2, _⟩ := options_both hF p h1 t (by omega) d
    have hs : recyclingref23_Same (L.map otour) (L.map otour) = some true := by
      rcases j2 with ⟨_, rfl⟩ | ⟨_, j2⟩
      · exact Tours_self _ (by simp) (by simp)
      · have := j2.len (by omega)
        refine Tours_self _ (by simp; omega) fun x hx => ?_
        obtain ⟨y, hy, rfl⟩ := List.mem_map.1 hx
        have := j2.stops y hy
        simp only [otour]; omega
    obtain ⟨x, e2, hbest, hbl⟩ : ∃ x e2, recyclingref23_Best 40000 p t d = some (x, e2) ∧ x.Stops.length ≤ 40 := by
      unfold recyclingref23_Best
      rw [j1]
      simp only [Option.bind_some, oun]
      cases decide (e = 0) with
      | false => exact ⟨_, _, rfl, by simp⟩
      | true =>
        simp only [Bool.not_true, cond_false]
        cases L with
        | nil => exact ⟨_, _, rfl, by simp⟩
        | cons y M =>
          have : ¬ (((((y :: M).map otour).length : Nat) : Int) = 0) := by simp; omega
          simp only [this, decide_false, cond_false, List.map_cons]
          refine ⟨_, _, rfl, ?_⟩
          rcases j2 with ⟨_, h⟩ | ⟨_, j2⟩
          · cases h
          · exact j2.stops y (by simp)
    simp only [Option.bind_some, Bool.not_true, cond_false, q1, q2, j1, oun, decide_true, hs, hbest, cond_true, Ints_self _ (by omega : x.Stops.length ≤ 1000000), awakeI hF]
end Go.Proofs.Ytfekfbcghnlohaa

namespace Go.Proofs.Ytfekfbcghnlohaa
open Go.RowKit
set_option linter.unusedSimpArgs false
set_option linter.unusedVariables false

/-- A tour without stops costs nothing. -/
theorem legP_self {p : Pr} (hp : OkP p) {a : Int} (ha : 0 ≤ a ∧ a < p.Road.Nodes) : legP p a a = ⟨0, 0⟩ := by
  obtain ⟨h1, _⟩ := legsP_h hp ha
  have h2 := h1.best 0 a ⟨0, 0⟩ .nil
  have h3 := legP_bound hp ha ha
  unfold legP at h3 ⊢
  generalize lab (legsP p a) a = l at *
  have h4 := h2.2
  unfold Lg.le at h4
  cases l
  simp only at h2 h3 h4 ⊢
  congr 1 <;> omega
theorem costR_empty {p : Pr} (hp : OkP p) (v : Int) : (costR p ⟨v, []⟩).1 = 0 := by
  unfold costR
  cases h : tourR p ⟨v, []⟩ with
  | inr q => rfl
  | inl u =>
    obtain ⟨z, y, hf, _, e2⟩ := tourR_ok h
    have hv := hp.ve u.2.2 (by
      have := hf.hv
      unfold getI at this
      rw [if_pos hf.t0] at this
      exact List.mem_of_getElem? this)
    have h1 : z = (x0 u.2.2, []) := by
      have := hf.fol
      injection this with this
      exact this.symm
    have h6 : y.Node = u.2.2.Depot := by
      have hom := hf.hom
      unfold homeR at hom
      repeat' split at hom
      all_goals first | (cases hom; done) | (injection hom with hom; subst hom; rfl)
    simp only [e2, h1, List.nil_append, metR, h6, legP_self hp ⟨hv.d0, hv.d1⟩]
    rfl
/-- The cheapest addition. -/
def pickB (h : Op → Option Op) : List Op → Nat → Option (Nat × Op × Int) → Option (Nat × Op × Int)
  | [], _, s => s
  | x :: r, k, s => pickB h r (k + 1) (match h x with
    | none => s
    | some y => match s with
      | none => some (k, y, w64 (y.cost - x.cost))
      | some z => if w64 (y.cost - x.cost) < z.2.2 then some (k, y, w64 (y.cost - x.cost)) else s)
def encP (s : Option (Nat × Op × Int)) : Int × List Int × Int × Int := match s with
  | none => (0, [], 0, -1)
  | some z => (z.2.1.tour.Vehicle, z.2.1.tour.Stops, z.2.1.cost, ((z.1 : Nat) : Int))
def encR (s : Option (Nat × Op × Int)) : Int × Int × Int × List Int := match s with
  | none => (-1, 0, 0, [])
  | some z => (((z.1 : Nat) : Int), z.2.2, z.2.1.tour.Vehicle, z.2.1.tour.Stops)
/-- The head of a tour's options. -/
def hdOp (F : Nat) (p : Pr) (d : Int) (x : Op) : Option Op := match insert_options F p x.tour d with
  | some (y :: _, _) => some y
  | _ => none
/-- Each tour's options are answered, both ways. -/
def AllO (F : Nat) (p : Pr) (d : Int) (T : List Op) : Prop := ∀ x ∈ T, x.cost = (costR p x.tour).1 ∧ ∃ L e, insert_options F p x.tour d = some (L, e) ∧ recyclingref23_Options F p x.tour d = some (L.map otour, e) ∧ ((e ≠ 0 ∧ L = []) ∨ (e = 0 ∧ OkO p x.tour d L))
theorem pick_pro {F : Nat} {p : Pr} {T : List Op} {d : Int} (hT : T.length ≤ 1000) (ha : AllO F p d T) : ∀ (rest : List Op) (k : Nat) (s : Option (Nat × Op × Int)) (f : Nat), T.drop k = rest → k ≤ T.length → rest.length < f → (∀ z, s = some z → ∃ x, T[z.1]? = some x ∧ z.2.2 = w64 (z.2.1.cost - x.cost)) →
    iter (insert_Build_l2 F p T d) f ((encP s).1, (encP s).2.1, (encP s).2.2.1, (encP s).2.2.2, (k : Int)) = some (encP (pickB (hdOp F p d) rest k s))
  | [], k, s, 0, _, _, h, _ => by simp at h
  | _ :: _, k, s, 0, _, _, h, _ => by simp at h
  | [], k, s, f + 1, hd, hk, _, _ => by
    have : k = T.length := by have := congrArg List.length hd; simp at this; omega
    have h1 : ¬ ((k : Int) < ((T.length : Nat) : Int)) := by omega
    simp only [iter, insert_Build_l2, oun, h1, decide_false, cond_false, Option.bind_some, osum, pickB]
  | x :: rest, k, s, f + 1, hd, hk, hf, hs => by
    have hx : T[k]? = some x := by
      have := congrArg List.head? hd
      rwa [List.head?_drop] at this
    have hlt := lt_of_get hx
    have h1 : ((k : Int) < ((T.length : Nat) : Int)) := by omega
    have hd2 : T.drop (k + 1) = rest := by rw [← List.drop_drop, hd]; rfl
    have e1 : w64 ((k : Int) + 1) = ((k + 1 : Nat) : Int) := by rw [w64_eq (by omega) (by omega)]; omega
    obtain ⟨_, L, e, ho, _⟩ := ha x (List.mem_of_getElem? hx)
    have hh : hdOp F p d x = L.head? := by unfold hdOp; rw [ho]; cases L <;> rfl
    rw [pickB, hh]
    cases L with
    | nil =>
      have ih := pick_pro hT ha rest (k + 1) s f hd2 (by omega) (by simp at hf; omega) hs
      simp only [iter, insert_Build_l2, oun, h1, decide_true, cond_true, getI_nat, hx, Option.bind_some, ho, List.length_nil, e1, osum, List.head?_nil]
      exact ih
    | cons y M =>
      have hl : (0 : Int) < (((y :: M).length : Nat) : Int) := by simp only [List.length_cons]; omega
      have g0 : getI (y :: M) 0 = some y := rfl
      cases s with
      | none =>
        have ih := pick_pro hT ha rest (k + 1) (some (k, y, w64 (y.cost - x.cost))) f hd2 (by omega) (by simp at hf; omega) (fun z hz => by injection hz with hz; subst hz; exact ⟨x, hx, rfl⟩)
        simp only [iter, insert_Build_l2, oun, h1, decide_true, cond_true, getI_nat, hx, Option.bind_some, ho, hl, encP, g0, show decide ((-1 : Int) < 0) = true from rfl, e1, osum, List.head?_cons]
        exact ih
      | some z =>
        obtain ⟨u, hu, hz⟩ := hs z rfl
        have hz0 : ¬ (((z.1 : Nat) : Int) < 0) := by omega
        by_cases hc : w64 (y.cost - x.cost) < z.2.2
        · have ih := pick_pro hT ha rest (k + 1) (some (k, y, w64 (y.cost - x.cost))) f hd2 (by omega) (by simp at hf; omega) (fun z hz => by injection hz with hz; subst hz; exact ⟨x, hx, rfl⟩)
          have hc2 := hc
          rw [hz] at hc2
          simp only [iter, insert_Build_l2, oun, h1, decide_true, cond_true, getI_nat, hx, Option.bind_some, ho, hl, encP, g0, hz0, decide_false, cond_false, hu, hc2, e1, osum, List.head?_cons]
          rw [if_pos hc]
          exact ih
        · have ih := pick_pro hT ha rest (k + 1) (some z) f hd2 (by omega) (by simp at hf; omega) hs
          have hc2 := hc
          rw [hz] at hc2
          simp only [iter, insert_Build_l2, oun, h1, decide_true, cond_true, getI_nat, hx, Option.bind_some, ho, hl, encP, g0, hz0, decide_false, cond_false, hu, hc2, e1, osum, List.head?_cons]
          rw [if_neg hc]
          exact ih
end Go.Proofs.Ytfekfbcghnlohaa

namespace Go.Proofs.Ytfekfbcghnlohaa
open Go.RowKit
set_option linter.unusedSimpArgs false
set_option linter.unusedVariables false

/-! ### what an option is -/
theorem finU_last (l : List Int) : (finU l).getLast? = some (-1) := by
  unfold finU; split
  · assumption
  · simp
theorem finU_count (l : List Int) {e : Int} (he : 0 ≤ e) : (finU l).count e = l.count e := by
  unfold finU; split
  · rfl
  · rw [List.count_append, List.count_singleton, if_neg (by simp; omega)]; rfl
theorem candAt_last (s : List Int) (d : Int) (i : Nat) : (candAt s d i).getLast? = some (-1) := finU_last _
theorem candAt_count (s : List Int) (d : Int) (i : Nat) {e : Int} (he : 0 ≤ e) : (candAt s d i).count e = s.count e + if e = d then 1 else 0 := by
  unfold candAt candR
  rw [finU_count _ he, List.count_append, List.count_append, List.count_cons]
  have h1 : (bif decide (i % 2 = 1) then [(-1 : Int)] else []).count e = 0 := by
    cases decide (i % 2 = 1)
    · rfl
    · rw [cond_true, List.count_singleton, if_neg (by simp; omega)]
  have h2 : s.count e = (s.take (i / 2)).count e + (s.drop (i / 2)).count e := by rw [← List.count_append, List.take_append_drop]
  rw [h1, h2]
  by_cases h : e = d
  · subst h; simp; omega
  · have : ¬ (d == e) = true := by simp; exact fun h' => h h'.symm
    simp [h, this]
theorem candAt_two (s : List Int) {d : Int} (hd : 0 ≤ d) (i : Nat) : 2 ≤ (candAt s d i).length := by
  have h1 := candAt_last s d i
  have h2 := candAt_count s d i hd
  rw [if_pos rfl] at h2
  generalize candAt s d i = l at *
  match l, h1, h2 with
  | [], _, h2 => simp at h2
  | [a], h1, h2 =>
    simp at h1; subst h1
    rw [List.count_singleton, if_neg (by simp; omega)] at h2
    omega
  | _ :: _ :: _, _, _ => simp
/-- An option of a tour: a candidate that can be driven. -/
structure IsO (p : Pr) (t : T_api_Tour) (d : Int) (y : Op) : Prop where
  cand : ∃ i, i < 2 * t.Stops.length + 1 ∧ y.tour = ⟨t.Vehicle, candAt t.Stops d i⟩
  ok : (costR p y.tour).2 = 0
  cost : y.cost = (costR p y.tour).1
theorem OkO.isO {p : Pr} {t : T_api_Tour} {d : Int} {L : List Op} (h : OkO p t d L) {y : Op} (hy : y ∈ L) : IsO p t d y := by
  obtain ⟨h1, h2, h3⟩ := feas_mem (h.stab.perm.symm.subset hy)
  obtain ⟨s, g1, g2⟩ := List.mem_map.1 h1
  obtain ⟨i, g3, g4⟩ := List.mem_map.1 g1
  exact ⟨⟨i, List.mem_range.1 g3, by rw [← g2, ← g4]; rfl⟩, h2, h3⟩
theorem OkO.hasO {p : Pr} {t : T_api_Tour} {d : Int} {L : List Op} (h : OkO p t d L) {i : Nat} (hi : i < 2 * t.Stops.length + 1) (hc : (costR p ⟨t.Vehicle, candAt t.Stops d i⟩).2 = 0) : ⟨⟨t.Vehicle, candAt t.Stops d i⟩, (costR p ⟨t.Vehicle, candAt t.Stops d i⟩).1⟩ ∈ L := by
  refine h.stab.perm.subset ?_
  unfold feas
  refine List.mem_filterMap.2 ⟨⟨t.Vehicle, candAt t.Stops d i⟩, List.mem_map.2 ⟨_, List.mem_map.2 ⟨i, List.mem_range.2 hi, rfl⟩, rfl⟩, ?_⟩
  unfold opOf
  rw [if_pos hc]
/-! ### the reference's pick -/
def hdT : List Op → T_api_Tour
  | [] => ⟨0, []⟩
  | y :: _ => y.tour
theorem Best_at {F : Nat} {p : Pr} {t : T_api_Tour} {d e : Int} {L : List Op} (h : recyclingref23_Options F p t d = some (L.map otour, e)) (he : (e ≠ 0 ∧ L = []) ∨ (e = 0 ∧ OkO p t d L)) :
    ∃ e', recyclingref23_Best F p t d = some (hdT L, e') ∧ (e' = 0 ↔ L ≠ []) ∧ (e ≠ 0 → e' = e) ∧ (e = 0 → L = [] → e' = 40) := by
  unfold recyclingref23_Best
  rw [h]
  simp only [Option.bind_some, oun]
  rcases he with ⟨h1, rfl⟩ | ⟨rfl, h2⟩
  · rw [show decide (e = 0) = false by simpa using h1]
    exact ⟨e, rfl, by simpa using h1, fun _ => rfl, fun h => absurd h h1⟩
  · cases L with
    | nil => exact ⟨40, rfl, by decide, fun h => absurd rfl h, fun _ _ => rfl⟩
    | cons y M =>
      have : ¬ (((((y :: M).map otour).length : Nat) : Int) = 0) := by simp; omega
      simp only [decide_true, Bool.not_true, cond_false, this, decide_false, List.map_cons]
      exact ⟨0, rfl, by simp, fun h => absurd rfl h, fun _ h => by cases h⟩
theorem pick_ref {F : Nat} {p : Pr} {T : List Op} {d : Int} (hp : OkP p) (hc : recyclingref22_Check p = some 0) (hT : T.length ≤ 1000) (ha : AllO F p d T) : ∀ (rest : List Op) (k : Nat) (s : Option (Nat × Op × Int)) (f : Nat), T.drop k = rest → k ≤ T.length → rest.length < f →
    iter (recyclingref23_Build_l2 F p (T.map otour) d) f ((encR s).1, (encR s).2.1, (encR s).2.2.1, (encR s).2.2.2, (k : Int)) = some ((encR (pickB (hdOp F p d) rest k s)).1, (encR (pickB (hdOp F p d) rest k s)).2.2.1, (encR (pickB (hdOp F p d) rest k s)).2.2.2)
  | [], k, s, 0, _, _, h => by simp at h
  | _ :: _, k, s, 0, _, _, h => by simp at h
  | [], k, s, f + 1, hd, hk, _ => by
    have : k = T.length := by have := congrArg List.length hd; simp at this; omega
    have h1 : ¬ ((k : Int) < (((T.map otour).length : Nat) : Int)) := by simp; omega
    simp only [iter, recyclingref23_Build_l2, oun, h1, decide_false, cond_false, Option.bind_some, osum, pickB]
  | x :: rest, k, s, f + 1, hd, hk, hf => by
    have hx : T[k]? = some x := by
      have := congrArg List.head? hd
      rwa [List.head?_drop] at this
    have hlt := lt_of_get hx
    have h1 : ((k : Int) < (((T.map otour).length : Nat) : Int)) := by simp; omega
    have hd2 : T.drop (k + 1) = rest := by rw [← List.drop_drop, hd]; rfl
    have e1 : w64 ((k : Int) + 1) = ((k + 1 : Nat) : Int) := by rw [w64_eq (by omega) (by omega)]; omega
    have hx2 : (T.map otour)[k]? = some x.tour := by rw [List.getElem?_map, hx]; rfl
    obtain ⟨hcx, L, e, ho, hr, hL⟩ := ha x (List.mem_of_getElem? hx)
    have hh : hdOp F p d x = L.head? := by unfold hdOp; rw [ho]; cases L <;> rfl
    obtain ⟨e', hb, he', _⟩ := Best_at hr hL
    rw [pickB, hh]
    cases L with
    | nil =>
      have ih := pick_ref hp hc hT ha rest (k + 1) s f hd2 (by omega) (by simp at hf; omega)
      have : ¬ e' = 0 := by simpa using he'
      simp only [iter, recyclingref23_Build_l2, oun, h1, decide_true, cond_true, getI_nat, hx2, Option.bind_some, hb, hdT, this, decide_false, Bool.not_false, e1, osum, List.head?_nil]
      exact ih
    | cons y M =>
      have : e' = 0 := by simpa using he'
      subst this
      have hy : y.cost = (costR p y.tour).1 := by
        rcases hL with ⟨_, h⟩ | ⟨_, h⟩
        · cases h
        · exact (h.isO (y := y) (by simp)).cost
      have c1 : recyclingref22_Cost p ⟨y.tour.Vehicle, y.tour.Stops⟩ = some (costR p y.tour) := ref_Cost hp hc _
      have c2 : recyclingref22_Cost p x.tour = some (costR p x.tour) := ref_Cost hp hc _
      cases s with
      | none =>
        have ih := pick_ref hp hc hT ha rest (k + 1) (some (k, y, w64 (y.cost - x.cost))) f hd2 (by omega) (by simp at hf; omega)
        simp only [iter, recyclingref23_Build_l2, oun, h1, decide_true, cond_true, getI_nat, hx2, Option.bind_some, hb, hdT, decide_true, Bool.not_true, cond_false, c1, c2, encR, show decide ((-1 : Int) < 0) = true from rfl, ← hy, ← hcx, e1, osum, List.head?_cons]
        exact ih
      | some z =>
        have hz0 : ¬ (((z.1 : Nat) : Int) < 0) := by omega
        by_cases hcc : w64 (y.cost - x.cost) < z.2.2
        · have ih := pick_ref hp hc hT ha rest (k + 1) (some (k, y, w64 (y.cost - x.cost))) f hd2 (by omega) (by simp at hf; omega)
          simp only [iter, recyclingref23_Build_l2, oun, h1, decide_true, cond_true, getI_nat, hx2, Option.bind_some, hb, hdT, decide_true, Bool.not_true, cond_false, c1, c2, encR, hz0, decide_false, hcc, ← hy, ← hcx, e1, osum, List.head?_cons]
          exact ih
        · have ih := pick_ref hp hc hT ha rest (k + 1) (some z) f hd2 (by omega) (by simp at hf; omega)
          simp only [iter, recyclingref23_Build_l2, oun, h1, decide_true, cond_true, getI_nat, hx2, Option.bind_some, hb, hdT, decide_true, Bool.not_true, cond_false, c1, c2, encR, hz0, decide_false, hcc, ← hy, ← hcx, e1, osum, List.head?_cons]
          exact ih
/-! ### what the pick is -/
theorem pickB_or (h : Op → Option Op) : ∀ (rest : List Op) (k : Nat) (s : Option (Nat × Op × Int)) (z : Nat × Op × Int), pickB h rest k s = some z → s = some z ∨ ∃ i x, rest[i]? = some x ∧ z.1 = k + i ∧ h x = some z.2.1
  | [], _, _, _, hz => .inl hz
  | x :: r, k, s, z, hz => by
    rw [pickB] at hz
    rcases pickB_or h r (k + 1) _ z hz with h1 | ⟨i, y, g1, g2, g3⟩
    · cases hx : h x with
      | none => rw [hx] at h1; exact .inl h1
      | some y =>
        rw [hx] at h1
        have hn : ∀ w : Int, some (k, y, w) = some z → ∃ i x', (x :: r)[i]? = some x' ∧ z.1 = k + i ∧ h x' = some z.2.1 := fun w hw => by
          injection hw with hw; subst hw
          exact ⟨0, x, rfl, rfl, hx⟩
        cases s with
        | none => exact .inr (hn _ h1)
        | some u =>
          simp only at h1
          split at h1
          · exact .inr (hn _ h1)
          · exact .inl h1
    · exact .inr ⟨i + 1, y, by simpa using g1, by omega, g3⟩
theorem pickB_some (h : Op → Option Op) : ∀ (rest : List Op) (k : Nat) (z : Nat × Op × Int), pickB h rest k (some z) ≠ none
  | [], _, _ => by simp [pickB]
  | x :: r, k, z => by
    rw [pickB]
    cases h x with
    | none => exact pickB_some h r (k + 1) z
    | some y =>
      simp only
      split
      · exact pickB_some h r (k + 1) _
      · exact pickB_some h r (k + 1) _
theorem pickB_none (h : Op → Option Op) : ∀ (rest : List Op) (k : Nat), pickB h rest k none = none → ∀ x ∈ rest, h x = none
  | [], _, _ => by simp
  | x :: r, k, hn => by
    rw [pickB] at hn
    cases hx : h x with
    | none =>
      rw [hx] at hn
      intro y hy
      rcases List.mem_cons.1 hy with rfl | hy
      · exact hx
      · exact pickB_none h r (k + 1) hn y hy
    | some y =>
      rw [hx] at hn
      exact absurd hn (pickB_some h r (k + 1) _)
/-! ### one demand after another -/
def stepB (h : Op → Option Op) (d : Int) (s : List Op × List Int) : List Op × List Int := match pickB h s.1 0 none with
  | none => (s.1, s.2 ++ [d])
  | some z => (s.1.set z.1 z.2.1, s.2)
def startB (n : Nat) : List Op := (List.range n).map fun (i : Nat) => ⟨⟨(i : Int), []⟩, 0⟩
def runB (F : Nat) (p : Pr) : Nat → List Op × List Int
  | 0 => (startB p.Vehicles.length, [])
  | k + 1 => stepB (hdOp F p k) k (runB F p k)
/-- A tour under way. -/
structure TourB (p : Pr) (i : Nat) (x : Op) : Prop where
  veh : x.tour.Vehicle = (i : Int)
  cost : x.cost = (costR p x.tour).1
  len : x.tour.Stops.length ≤ 40
  full : x.tour.Stops ≠ [] → (costR p x.tour).2 = 0 ∧ 2 ≤ x.tour.Stops.length ∧ x.tour.Stops.getLast? = some (-1)
def cnB (T : List Op) (e : Int) : Nat := (T.map fun x => x.tour.Stops.count e).sum
structure InvB (F : Nat) (p : Pr) (k : Nat) (s : List Op × List Int) : Prop where
  len : s.1.length = p.Vehicles.length
  tour : ∀ (i : Nat) (x : Op), s.1[i]? = some x → TourB p i x
  once : ∀ e : Nat, cnB s.1 (e : Int) + s.2.count (e : Int) = if e < k then 1 else 0
  lo : ∀ e ∈ s.2, 0 ≤ e ∧ e < (k : Int)
  asc : s.2.Pairwise (· < ·)
  ll : s.2.length ≤ k
  left : ∀ e ∈ s.2, ∀ (i : Nat) (x : Op), s.1[i]? = some x → x.tour.Stops = [] → hdOp F p e x = none
theorem cnB_set : ∀ (T : List Op) (i : Nat) (x y : Op) (e : Int), T[i]? = some x → cnB (T.set i y) e + x.tour.Stops.count e = cnB T e + y.tour.Stops.count e
  | [], i, _, _, _, h => by simp at h
  | z :: T, 0, x, y, e, h => by
    simp at h; subst h
    simp [cnB]; omega
  | z :: T, i + 1, x, y, e, h => by
    have := cnB_set T i x y e (by simpa using h)
    simp [cnB] at this ⊢; omega
theorem cnB_mem {T : List Op} {i : Nat} {x : Op} {e : Int} (h : T[i]? = some x) : x.tour.Stops.count e ≤ cnB T e := by
  induction T generalizing i with
  | nil => simp at h
  | cons z T ih =>
    cases i with
    | zero => simp at h; subst h; simp [cnB]
    | succ i =>
      have := ih (i := i) (by simpa using h)
      simp [cnB] at this ⊢; omega
theorem startB_get {n i : Nat} {x : Op} (h : (startB n)[i]? = some x) : x = ⟨⟨(i : Int), []⟩, 0⟩ := by
  unfold startB at h
  rw [List.getElem?_map] at h
  cases hr : (List.range n)[i]? with
  | none => rw [hr] at h; cases h
  | some j =>
    rw [hr] at h
    have := List.getElem?_eq_some_iff.1 hr
    obtain ⟨h1, h2⟩ := this
    simp at h2; subst h2
    simp at h
    exact h.symm
theorem startB_cn (n : Nat) (e : Int) : cnB (startB n) e = 0 := by
  unfold cnB startB
  rw [List.map_map]
  induction n with
  | zero => rfl
  | succ n ih => rw [List.range_succ, List.map_append, List.sum_append, ih]; rfl
theorem start_inv {F : Nat} {p : Pr} (hp : OkP p) : InvB F p 0 (startB p.Vehicles.length, []) where
  len := by simp [startB]
  tour := fun i x hx => by
    rw [startB_get hx]
    exact ⟨rfl, (costR_empty hp _).symm, by simp, fun h => absurd rfl h⟩
  once := fun e => by simp [startB_cn]
  lo := by simp
  asc := List.Pairwise.nil
  ll := by simp
  left := by simp
/-- The pick of a demand, with what is known of it. -/
theorem hdO_is {F : Nat} {p : Pr} {d : Int} {x y : Op} (h : hdOp F p d x = some y) (ha : ∃ L e, insert_options F p x.tour d = some (L, e) ∧ ((e ≠ 0 ∧ L = []) ∨ (e = 0 ∧ OkO p x.tour d L))) : IsO p x.tour d y ∧ y.tour.Stops.length ≤ 40 := by
  obtain ⟨L, e, h1, h2⟩ := ha
  unfold hdOp at h
  rw [h1] at h
  cases L with
  | nil => cases h
  | cons z M =>
    injection h with h; subst h
    rcases h2 with ⟨_, h2⟩ | ⟨_, h2⟩
    · cases h2
    · exact ⟨h2.isO (by simp), h2.stops _ (by simp)⟩
theorem allO {F : Nat} (hF : 40000 ≤ F) {p : Pr} (hn : p.Road.Edges.length ≤ 600) {k : Nat} {s : List Op × List Int} (h : InvB F p k s) (d : Int) : AllO F p d s.1 := fun x hx => by
  obtain ⟨i, hi⟩ := List.getElem?_of_mem hx
  have h1 := h.tour i x hi
  obtain ⟨L, e, g1, g2, g3, _⟩ := options_both hF p hn x.tour (by have := h1.len; omega) d
  exact ⟨h1.cost, L, e, g1, g2, g3⟩
theorem step_inv {F : Nat} (hF : 40000 ≤ F) {p : Pr} (hn : p.Road.Edges.length ≤ 600) {k : Nat} {s : List Op × List Int} (h : InvB F p k s) : InvB F p (k + 1) (stepB (hdOp F p k) k s) := by
  have ha := allO hF hn h k
  unfold stepB
  cases hz : pickB (hdOp F p k) s.1 0 none with
  | none =>
    have hno := pickB_none _ _ _ hz
    refine ⟨h.len, h.tour, fun e => ?_, fun e he => ?_, ?_, ?_, fun e he i x hi hx => ?_⟩
    · have := h.once e
      show cnB s.1 (e : Int) + (s.2 ++ [(k : Int)]).count (e : Int) = _
      rw [List.count_append, List.count_singleton]
      by_cases hek : e = k
      · subst hek; simp at this ⊢; omega
      · have h1 : ¬ (((k : Int) == (e : Int)) = true) := by simp; omega
        rw [if_neg h1]
        by_cases h2 : e < k
        · rw [if_pos (by omega)]; rw [if_pos h2] at this; omega
        · rw [if_neg (by omega)]; rw [if_neg h2] at this; omega
    · rcases List.mem_append.1 he with h1 | h1
      · have := h.lo e h1; omega
      · rw [List.mem_singleton.1 h1]; omega
    · refine List.pairwise_append.2 ⟨h.asc, by simp, fun a ha b hb => ?_⟩
      rw [List.mem_singleton.1 hb]; exact (h.lo a ha).2
    · have := h.ll; simp; omega
    · rcases List.mem_append.1 he with h1 | h1
      · exact h.left e h1 i x hi hx
      · rw [List.mem_singleton.1 h1]; exact hno x (List.mem_of_getElem? hi)
  | some z =>
    obtain ⟨i, x, hi, hzi, hy⟩ : ∃ i x, s.1[i]? = some x ∧ z.1 = i ∧ hdOp F p k x = some z.2.1 := by
      rcases pickB_or _ _ _ _ _ hz with h1 | ⟨i, x, h1, h2, h3⟩
      · cases h1
      · exact ⟨i, x, h1, by omega, h3⟩
    obtain ⟨hcx, L, e, g1, _, g3⟩ := ha x (List.mem_of_getElem? hi)
    obtain ⟨hO, hl⟩ := hdO_is hy ⟨L, e, g1, g3⟩
    obtain ⟨j, _, hj⟩ := hO.cand
    have hx := h.tour i x hi
    have hcount : ∀ e : Nat, z.2.1.tour.Stops.count (e : Int) = x.tour.Stops.count (e : Int) + if e = k then 1 else 0 := fun e => by
      rw [hj]
      show (candAt x.tour.Stops k j).count (e : Int) = _
      rw [candAt_count _ _ _ (by omega)]
      by_cases h1 : e = k
      · subst h1; simp
      · rw [if_neg (by omega), if_neg h1]
    have htwo : 2 ≤ z.2.1.tour.Stops.length := by rw [hj]; exact candAt_two _ (by omega) _
    have hlast : z.2.1.tour.Stops.getLast? = some (-1) := by rw [hj]; exact candAt_last _ _ _
    have hg : ∀ (j : Nat) (w : Op), (s.1.set z.1 z.2.1)[j]? = some w → (j = i ∧ w = z.2.1) ∨ s.1[j]? = some w := fun j w hw => by
      rw [List.getElem?_set, hzi] at hw
      split at hw
      · rename_i h1
        split at hw
        · injection hw with hw; exact .inl ⟨h1.symm, hw.symm⟩
        · cases hw
      · exact .inr hw
    refine ⟨by show (s.1.set _ _).length = _; rw [List.length_set]; exact h.len, fun j w hw => ?_, fun e => ?_, fun e he => ?_, h.asc, by have := h.ll; show s.2.length ≤ _; omega, fun e he j w hw hws => ?_⟩
    · rcases hg j w hw with ⟨rfl, rfl⟩ | h1
      · exact ⟨by rw [hj]; exact hx.veh, hO.cost, hl, fun _ => ⟨hO.ok, htwo, hlast⟩⟩
      · exact h.tour j w h1
    · have h1 := cnB_set s.1 i x z.2.1 (e : Int) hi
      have h2 := h.once e
      rw [hcount e] at h1
      show cnB (s.1.set z.1 z.2.1) (e : Int) + s.2.count (e : Int) = _
      rw [hzi]
      by_cases hek : e = k
      · subst hek; rw [if_neg (by omega)] at h2; rw [if_pos (by omega)]; rw [if_pos rfl] at h1; omega
      · rw [if_neg hek] at h1
        by_cases h3 : e < k
        · rw [if_pos h3] at h2; rw [if_pos (by omega)]; omega
        · rw [if_neg h3] at h2; rw [if_neg (by omega)]; omega
    · have := h.lo e he; omega
    · rcases hg j w hw with ⟨_, rfl⟩ | h1
      · rw [hws] at htwo; simp at htwo
      · exact h.left e he j w h1 hws
theorem run_inv {F : Nat} (hF : 40000 ≤ F) {p : Pr} (hp : OkP p) (hn : p.Road.Edges.length ≤ 600) : ∀ k, InvB F p k (runB F p k)
  | 0 => start_inv hp
  | k + 1 => step_inv hF hn (run_inv hF hp hn k)
end Go.Proofs.Ytfekfbcghnlohaa

namespace Go.Proofs.Ytfekfbcghnlohaa
open Go.RowKit
set_option linter.unusedSimpArgs false
set_option linter.unusedVariables false

/-! ### lists that are equal -/
theorem ints_loop {a b : List Int} (hl : a.length = b.length) (hn : a.length ≤ 1000000) : ∀ (r k f : Nat), k + r = a.length → r < f → a.take k = b.take k →
    iter (recyclingref23_Ints_l1 a b) f (k : Int) = some (if a = b then .inl () else .inr false)
  | _, _, 0, _, h, _ => by omega
  | 0, k, f + 1, hk, _, ht => by
    have h1 : ¬ ((k : Int) < ((a.length : Nat) : Int)) := by omega
    have : a = b := by
      have h2 : a.take k = a := List.take_of_length_le (by omega)
      have h3 : b.take k = b := List.take_of_length_le (by omega)
      rw [h2, h3] at ht; exact ht
    simp only [iter, recyclingref23_Ints_l1, h1, decide_false, cond_false, Option.bind_some, osum]
    rw [if_pos this]
  | r + 1, k, f + 1, hk, hf, ht => by
    have h1 : ((k : Int) < ((a.length : Nat) : Int)) := by omega
    have ga : a[k]? = some a[k] := List.getElem?_eq_getElem (by omega)
    have gb : b[k]? = some b[k] := List.getElem?_eq_getElem (by omega)
    have e1 : w64 ((k : Int) + 1) = ((k + 1 : Nat) : Int) := by rw [w64_eq (by omega) (by omega)]; omega
    by_cases h : a[k] = b[k]
    · have ih := ints_loop hl hn r (k + 1) f (by omega) (by omega) (by rw [take_succ' ga, take_succ' gb, ht, h])
      simp only [iter, recyclingref23_Ints_l1, h1, decide_true, cond_true, getI_nat, ga, gb, Option.bind_some, h, Bool.not_true, cond_false, osum, e1]
      exact ih
    · have : a ≠ b := by intro e; subst e; exact h rfl
      simp only [iter, recyclingref23_Ints_l1, h1, decide_true, cond_true, getI_nat, ga, gb, Option.bind_some, h, decide_false, Bool.not_false, cond_true, osum]
      rw [if_neg this]
theorem Ints_eq {a b : List Int} (hn : a.length ≤ 1000000) (hb : b.length ≤ 1000000) : recyclingref23_Ints a b = some (decide (a = b)) := by
  unfold recyclingref23_Ints
  by_cases hl : a.length = b.length
  · have := ints_loop hl hn a.length 0 (((a.length : Nat) : Int).toNat + 1) (by omega) (by simp) (by simp)
    have hl' : (((a.length : Nat) : Int) = ((b.length : Nat) : Int)) := by omega
    simp only [hl', decide_true, Bool.not_true, cond_false]
    rw [← hl', show (0 : Int) = ((0 : Nat) : Int) from rfl, this]
    by_cases h : a = b
    · simp [h, osum]
    · simp [h, osum]
  · have hl' : ¬ (((a.length : Nat) : Int) = ((b.length : Nat) : Int)) := by omega
    have : a ≠ b := by intro e; subst e; exact hl rfl
    simp [hl', this]
/-- What the options and the best one are. -/
theorem opts_pack {F : Nat} (hF : 40000 ≤ F) (p : Pr) (hn : p.Road.Edges.length ≤ 600) (t : T_api_Tour) (hs : t.Stops.length ≤ 1000) (d : Int) :
    ∃ L e e', insert_Options F p t d = some (L.map otour, e) ∧ insert_Best F p t d = some (hdT L, e') ∧ ((e ≠ 0 ∧ L = [] ∧ e' = e) ∨ (e = 0 ∧ OkO p t d L ∧ L.length ≤ 2001 ∧ (L = [] → e' = 40) ∧ (L ≠ [] → e' = 0))) := by
  obtain ⟨q1, q2⟩ := Options_eq hF p hn t hs d
  obtain ⟨L, e, _, j1, j2, _⟩ := options_both hF p hn t hs d
  obtain ⟨e', b1, b2, b3, b4⟩ := Best_at j1 j2
  refine ⟨L, e, e', by rw [q1, j1], by rw [q2, b1], ?_⟩
  rcases j2 with ⟨h1, h2⟩ | ⟨h1, h2⟩
  · exact .inl ⟨h1, h2, b3 h1⟩
  · exact .inr ⟨h1, h2, h2.len hs, b4 h1, fun h => b2.2 h⟩
theorem hdT_len {p : Pr} {t : T_api_Tour} {d : Int} {L : List Op} (h : OkO p t d L) : (hdT L).Stops.length ≤ 40 := by
  cases L with
  | nil => simp [hdT]
  | cons y M => exact h.stops y (by simp)
theorem Cost_at {F : Nat} (hF : 40000 ≤ F) {p : Pr} {t : T_api_Tour} {d : Int} {L : List Op} (h : OkO p t d L) (hn : p.Road.Edges.length ≤ 600) (u : T_api_Tour) : tour_Cost F p u = some (costR p u) := Cost_eq hF h.ok h.chk hn u
theorem cands_nil {d : Int} (hd : 0 ≤ d) : cands [] d = [[d, -1]] := by
  have : ¬ d = -1 := by omega
  simp [cands, candAt, candR, finU, this]
theorem recyclinglaw23_InsertEmpty_true (p : T_api_Problem) (v d : Int) (hp : wf_api_Problem p) (hv : wfI .i64 v) (hd : wfI .i64 d) : ∃ F, recyclinglaw23_InsertEmpty F p v d = some true := by
  refine ⟨40000, ?_⟩
  have hF : 40000 ≤ 40000 := Nat.le_refl _
  unfold recyclinglaw23_InsertEmpty
  obtain ⟨⟨b, hb⟩, hl⟩ := Large_some p
  rw [hb]
  cases b with
  | true => simp only [Option.bind_some, cond_true, awakeI hF]
  | false =>
    obtain ⟨h1, h2, h3⟩ := hl hb
    obtain ⟨L, e, e', g1, g2, g3⟩ := opts_pack hF p h1 ⟨v, []⟩ (by simp) d
    rw [g1, g2]
    rcases g3 with ⟨he, rfl, he'⟩ | ⟨rfl, ho, hlen, k1, k2⟩
    · subst he'
      have hd0 : decide (e' = 0) = false := by simpa using he
      simp only [hd0, Option.bind_some, cond_false, oun, Bool.not_false, cond_true, List.map_nil, List.length_nil, awakeI hF]
      rfl
    · have hst := ho.stab.perm
      simp only [cands_nil ho.d0, List.map_cons, List.map_nil] at hst
      have hfe : feas p [toT v [d, -1]] = if (costR p ⟨v, [d, -1]⟩).2 = 0 then [⟨⟨v, [d, -1]⟩, (costR p ⟨v, [d, -1]⟩).1⟩] else [] := by
        unfold feas opOf toT
        by_cases h : (costR p ⟨v, [d, -1]⟩).2 = 0 <;> simp [h]
      rw [hfe] at hst
      simp only [Option.bind_some, cond_false, oun, decide_true, Bool.not_true, Cost_at hF ho h1]
      by_cases h : (costR p ⟨v, [d, -1]⟩).2 = 0
      · rw [if_pos h] at hst
        have := hst.symm.eq_singleton
        subst this
        have e0 : e' = 0 := k2 (by simp)
        subst e0
        have s1 : recyclingref23_Same [⟨v, [d, -1]⟩] [⟨v, [d, -1]⟩] = some true := Tours_self _ (by simp) (by simp)
        simp only [h, decide_true, Bool.not_true, cond_false, cond_true, List.map_cons, List.map_nil, otour, hdT, s1, Option.bind_some, awakeI hF]
      · rw [if_neg h] at hst
        have := hst.symm.eq_nil
        subst this
        have e0 : e' = 40 := k1 rfl
        subst e0
        simp only [h, decide_false, Bool.not_false, cond_true, List.map_nil, List.length_nil, Option.bind_some, decide_true, awakeI hF]
        rfl
/-! ### every candidate that can be driven is an option -/
theorem all_loop {L : List Op} {s : List Int} (hl : L.length ≤ 10000) (hs : s.length ≤ 10000) (h40 : ∀ x ∈ L, x.tour.Stops.length ≤ 40) :
    iter (recyclinglaw23_InsertAll_l1 (L.map otour) s) ((((L.map otour).length : Nat) : Int).toNat + 1) (false, 0) = some (L.any fun x => decide (x.tour.Stops = s)) := by
  have hml : (L.map otour).length = L.length := by simp
  have := iter_stI (body := recyclinglaw23_InsertAll_l1 (L.map otour) s) L (fun k => (L.take k).any fun x => decide (x.tour.Stops = s)) (fun m k => (m, k)) (fun _ _ => none) (L.any fun x => decide (x.tour.Stops = s)) (by omega) (fun k x hx _ => ?_) (fun _ => by simp only [recyclinglaw23_InsertAll_l1, oun, List.take_length, hml]; simp) (((L.length : Nat) : Int).toNat + 1) (by simp)
  · rw [firstI_none _ _ (fun _ _ _ => rfl)] at this
    rw [hml]
    simpa using this
  · have hk := lt_of_get hx
    have hk2 : ((k : Int) < (L.length : Nat)) := by omega
    have hx2 : (L.map otour)[k]? = some x.tour := by rw [List.getElem?_map, hx]; rfl
    have hxs := h40 x (List.mem_of_getElem? hx)
    simp only [recyclinglaw23_InsertAll_l1, oun, hml, hk2, decide_true, cond_true, getI_nat, hx2, Option.bind_some, pickO, Ints_eq (a := x.tour.Stops) (b := s) (by omega) (by omega)]
    rw [take_succ' hx, List.any_append]
    cases (L.take k).any fun x => decide (x.tour.Stops = s) <;> simp
theorem recyclinglaw23_InsertAll_true (p : T_api_Problem) (t : T_api_Tour) (d k : Int) (hp : wf_api_Problem p) (ht : wf_api_Tour t) (hd : wfI .i64 d) (hk : wfI .i64 k) : ∃ F, recyclinglaw23_InsertAll F p t d k = some true := by
  refine ⟨40000, ?_⟩
  have hF : 40000 ≤ 40000 := Nat.le_refl _
  unfold recyclinglaw23_InsertAll
  obtain ⟨b, hb, hl⟩ := light_some p t
  rw [hb]
  simp only [Option.bind_some]
  cases b with
  | false => simp only [Option.bind_some, Bool.not_false, cond_true, awakeI hF]
  | true =>
    obtain ⟨h1, _, _, h4⟩ := hl rfl
    simp only [Bool.not_true, cond_false]
    by_cases hk0 : k < 0
    · simp only [hk0, decide_true, cond_true, Option.bind_some, awakeI hF]
    · simp only [hk0, decide_false, cond_false, Option.bind_some]
      by_cases hk1 : ((t.Stops.length : Nat) : Int) < k
      · simp only [hk1, decide_true, cond_true, Option.bind_some, awakeI hF]
      · simp only [hk1, decide_false, cond_false]
        obtain ⟨k, rfl⟩ : ∃ j : Nat, k = j := ⟨k.toNat, by omega⟩
        have hkl : k ≤ t.Stops.length := by omega
        obtain ⟨L, e, e', g1, g2, g3⟩ := opts_pack hF p h1 t (by omega) d
        rw [g1]
        rcases g3 with ⟨he, rfl, he'⟩ | ⟨rfl, ho, hlen, k1, k2⟩
        · subst he'
          have hd0 : decide (e' = 0) = false := by simpa using he
          simp only [hd0, Option.bind_some, cond_false, oun, Bool.not_false, cond_true, awakeI hF]
        · simp only [Option.bind_some, oun, decide_true, Bool.not_true, cond_false]
          rw [subO_take hkl, subO_drop hkl]
          simp only [Option.bind_some]
          rw [appO_eq (by simp; omega)]
          simp only [Option.bind_some]
          rw [appO_eq (by simp; omega)]
          simp only [Option.bind_some]
          rw [appO_eq (by simp; omega)]
          simp only [Option.bind_some, List.nil_append]
          have hfin := fin_eq (l := t.Stops.take k ++ [d] ++ t.Stops.drop k) (by simp) (by simp; omega)
          have hca : finU (t.Stops.take k ++ [d] ++ t.Stops.drop k) = candAt t.Stops d (2 * k) := by
            unfold candAt candR
            rw [show 2 * k / 2 = k by omega, show decide (2 * k % 2 = 1) = false by simp]
            rfl
          rw [hca] at hfin
          obtain ⟨x1, hx1, hfin⟩ := Option.bind_eq_some_iff.1 hfin
          obtain ⟨s1, hs1, hfin⟩ := Option.bind_eq_some_iff.1 hfin
          injection hfin with hfin; subst hfin
          rw [hx1]
          simp only [Option.bind_some]
          rw [hs1]
          have hcl : (candAt t.Stops d (2 * k)).length ≤ 10000 := by
            have : (finU (t.Stops.take k ++ [d] ++ t.Stops.drop k)).length ≤ (t.Stops.take k ++ [d] ++ t.Stops.drop k).length + 1 := by
              unfold finU; split
              · exact Nat.le_succ _
              · rw [List.length_append]; exact Nat.le_refl _
            rw [hca] at this
            simp only [List.length_append, List.length_take, List.length_drop, List.length_cons, List.length_nil] at this
            omega
          simp only [Option.bind_some, Cost_at hF ho h1, oun]
          rw [all_loop (by omega) hcl ho.stops]
          simp only [Option.bind_some]
          by_cases hc : (costR p ⟨t.Vehicle, candAt t.Stops d (2 * k)⟩).2 = 0
          · have hm := ho.hasO (i := 2 * k) (by omega) hc
            have hany : (L.any fun x => decide (x.tour.Stops = candAt t.Stops d (2 * k))) = true := List.any_eq_true.2 ⟨_, hm, by simp⟩
            rw [hany, hc]
            simp only [decide_true, beq_self_eq_true, Bool.not_true, cond_false]
            cases L with
            | nil => cases hm
            | cons y M =>
              have hy := ho.isO (y := y) (by simp)
              have hle : y.cost ≤ (costR p ⟨t.Vehicle, candAt t.Stops d (2 * k)⟩).1 := by
                rcases List.mem_cons.1 hm with h | h
                · rw [← h]; exact Int.le_refl _
                · have := (List.pairwise_cons.1 ho.srt).1 _ h
                  simp only [ocost] at this
                  exact this
              have g0 : getI (List.map otour (y :: M)) 0 = some y.tour := rfl
              rw [hy.cost] at hle
              simp only [g0, Option.bind_some, hy.ok, decide_true, cond_true, hle, awakeI hF]
          · have hany : (L.any fun x => decide (x.tour.Stops = candAt t.Stops d (2 * k))) = false := by
              rw [List.any_eq_false]
              intro x hx
              have h := ho.isO hx
              obtain ⟨i, _, hi⟩ := h.cand
              intro hxs
              have hxs := of_decide_eq_true hxs
              apply hc
              have : x.tour = ⟨t.Vehicle, candAt t.Stops d (2 * k)⟩ := by rw [← hxs, hi]
              rw [← this]; exact h.ok
            rw [hany, show decide ((costR p ⟨t.Vehicle, candAt t.Stops d (2 * k)⟩).2 = 0) = false by simpa using hc]
            simp only [beq_self_eq_true, Bool.not_true, Bool.not_false, cond_false, cond_true, Option.bind_some, awakeI hF]
end Go.Proofs.Ytfekfbcghnlohaa

namespace Go.Proofs.Ytfekfbcghnlohaa
open Go.ChangeShapes Go.WideShapes Go.ChangeAt Go.RowKit
set_option linter.unusedSimpArgs false
set_option linter.unusedVariables false

theorem own_ : ownKnob Try.prog.godebug = none := by kernel_rfl
theorem laidOut_ : laidOutB Try.prog = true := by kernel_rfl

theorem opn_api_Edge {W : World} : Opn Try.prog W 81 r_api_Edge wf_api_Edge := by
  intro H enc spare held fuel cs x h
  obtain ⟨xs, n, _, _, hlen, hxl, hf⟩ := DataW.trod_struct Try.underlying81 h
  rw [show Try.prog.cellsOf 81 = 4 by kernel_rfl] at hlen
  have g0 : DataW.trod enc Try.prog W 0 spare held n 3 ((cs.drop 0).take (Try.prog.cellsOf 3)) = xs[0]? := hf 0 _ rfl
  rw [show Try.prog.cellsOf 3 = 1 by kernel_rfl, List.getElem?_eq_getElem (by rw [hxl]; decide)] at g0
  obtain ⟨d0, h0, q0⟩ := (opn_int Try.underlying3) H enc spare held n _ _ g0
  have g1 : DataW.trod enc Try.prog W 0 spare held n 3 ((cs.drop 1).take (Try.prog.cellsOf 3)) = xs[1]? := hf 1 _ rfl
  rw [show Try.prog.cellsOf 3 = 1 by kernel_rfl, List.getElem?_eq_getElem (by rw [hxl]; decide)] at g1
  obtain ⟨d1, h1, q1⟩ := (opn_int Try.underlying3) H enc spare held n _ _ g1
  have g2 : DataW.trod enc Try.prog W 0 spare held n 3 ((cs.drop 2).take (Try.prog.cellsOf 3)) = xs[2]? := hf 2 _ rfl
  rw [show Try.prog.cellsOf 3 = 1 by kernel_rfl, List.getElem?_eq_getElem (by rw [hxl]; decide)] at g2
  obtain ⟨d2, h2, q2⟩ := (opn_int Try.underlying3) H enc spare held n _ _ g2
  have g3 : DataW.trod enc Try.prog W 0 spare held n 3 ((cs.drop 3).take (Try.prog.cellsOf 3)) = xs[3]? := hf 3 _ rfl
  rw [show Try.prog.cellsOf 3 = 1 by kernel_rfl, List.getElem?_eq_getElem (by rw [hxl]; decide)] at g3
  obtain ⟨d3, h3, q3⟩ := (opn_int Try.underlying3) H enc spare held n _ _ g3
  have e0 : cs.drop 0 = (cs.drop 0).take 1 ++ cs.drop 1 := splitF rfl
  have e1 : cs.drop 1 = (cs.drop 1).take 1 ++ cs.drop 2 := splitF rfl
  have e2 : cs.drop 2 = (cs.drop 2).take 1 ++ cs.drop 3 := splitF rfl
  have e3 : cs.drop 3 = (cs.drop 3).take 1 ++ cs.drop 4 := splitF rfl
  have en : cs.drop 4 = [] := List.drop_of_length_le (by omega)
  have hcs : cs.drop 0 = _ := e0
  rw [e1, e2, e3, en, show (cs.drop 0).take 1 = _ from h0, show (cs.drop 1).take 1 = _ from h1, show (cs.drop 2).take 1 = _ from h2, show (cs.drop 3).take 1 = _ from h3] at hcs
  exact ⟨⟨d0, d1, d2, d3⟩, hcs, q0, q1, q2, q3⟩

theorem opn_api_Road {W : World} : Opn Try.prog W 24 r_api_Road wf_api_Road := by
  intro H enc spare held fuel cs x h
  obtain ⟨xs, n, _, _, hlen, hxl, hf⟩ := DataW.trod_struct Try.underlying24 h
  rw [show Try.prog.cellsOf 24 = 2 by kernel_rfl] at hlen
  have g0 : DataW.trod enc Try.prog W 0 spare held n 3 ((cs.drop 0).take (Try.prog.cellsOf 3)) = xs[0]? := hf 0 _ rfl
  rw [show Try.prog.cellsOf 3 = 1 by kernel_rfl, List.getElem?_eq_getElem (by rw [hxl]; decide)] at g0
  obtain ⟨d0, h0, q0⟩ := (opn_int Try.underlying3) H enc spare held n _ _ g0
  have g1 : DataW.trod enc Try.prog W 0 spare held n 22 ((cs.drop 1).take (Try.prog.cellsOf 22)) = xs[1]? := hf 1 _ rfl
  rw [show Try.prog.cellsOf 22 = 1 by kernel_rfl, List.getElem?_eq_getElem (by rw [hxl]; decide)] at g1
  obtain ⟨d1, h1, q1⟩ := (opn_slice Try.underlying22 (by kernel_rfl) opn_api_Edge) H enc spare held n _ _ g1
  have e0 : cs.drop 0 = (cs.drop 0).take 1 ++ cs.drop 1 := splitF rfl
  have e1 : cs.drop 1 = (cs.drop 1).take 1 ++ cs.drop 2 := splitF rfl
  have en : cs.drop 2 = [] := List.drop_of_length_le (by omega)
  obtain ⟨A0, c0, h1, hl0, hm0, ha0⟩ := h1
  have hcs : cs.drop 0 = _ := e0
  rw [e1, en, show (cs.drop 0).take 1 = _ from h0, show (cs.drop 1).take 1 = _ from h1] at hcs
  exact ⟨⟨d0, d1⟩, ⟨A0, c0, hcs, ⟨hl0, hm0⟩, ha0⟩, q0, q1⟩

theorem opn_api_Window {W : World} : Opn Try.prog W 53 r_api_Window wf_api_Window := by
  intro H enc spare held fuel cs x h
  obtain ⟨xs, n, _, _, hlen, hxl, hf⟩ := DataW.trod_struct Try.underlying53 h
  rw [show Try.prog.cellsOf 53 = 2 by kernel_rfl] at hlen
  have g0 : DataW.trod enc Try.prog W 0 spare held n 3 ((cs.drop 0).take (Try.prog.cellsOf 3)) = xs[0]? := hf 0 _ rfl
  rw [show Try.prog.cellsOf 3 = 1 by kernel_rfl, List.getElem?_eq_getElem (by rw [hxl]; decide)] at g0
  obtain ⟨d0, h0, q0⟩ := (opn_int Try.underlying3) H enc spare held n _ _ g0
  have g1 : DataW.trod enc Try.prog W 0 spare held n 3 ((cs.drop 1).take (Try.prog.cellsOf 3)) = xs[1]? := hf 1 _ rfl
  rw [show Try.prog.cellsOf 3 = 1 by kernel_rfl, List.getElem?_eq_getElem (by rw [hxl]; decide)] at g1
  obtain ⟨d1, h1, q1⟩ := (opn_int Try.underlying3) H enc spare held n _ _ g1
  have e0 : cs.drop 0 = (cs.drop 0).take 1 ++ cs.drop 1 := splitF rfl
  have e1 : cs.drop 1 = (cs.drop 1).take 1 ++ cs.drop 2 := splitF rfl
  have en : cs.drop 2 = [] := List.drop_of_length_le (by omega)
  have hcs : cs.drop 0 = _ := e0
  rw [e1, en, show (cs.drop 0).take 1 = _ from h0, show (cs.drop 1).take 1 = _ from h1] at hcs
  exact ⟨⟨d0, d1⟩, hcs, q0, q1⟩

theorem opn_api_Vehicle {W : World} : Opn Try.prog W 55 r_api_Vehicle wf_api_Vehicle := by
  intro H enc spare held fuel cs x h
  obtain ⟨xs, n, _, _, hlen, hxl, hf⟩ := DataW.trod_struct Try.underlying55 h
  rw [show Try.prog.cellsOf 55 = 6 by kernel_rfl] at hlen
  have g0 : DataW.trod enc Try.prog W 0 spare held n 9 ((cs.drop 0).take (Try.prog.cellsOf 9)) = xs[0]? := hf 0 _ rfl
  rw [show Try.prog.cellsOf 9 = 1 by kernel_rfl, List.getElem?_eq_getElem (by rw [hxl]; decide)] at g0
  obtain ⟨d0, h0, q0⟩ := (opn_str Try.underlying9) H enc spare held n _ _ g0
  have g1 : DataW.trod enc Try.prog W 0 spare held n 3 ((cs.drop 1).take (Try.prog.cellsOf 3)) = xs[1]? := hf 1 _ rfl
  rw [show Try.prog.cellsOf 3 = 1 by kernel_rfl, List.getElem?_eq_getElem (by rw [hxl]; decide)] at g1
  obtain ⟨d1, h1, q1⟩ := (opn_int Try.underlying3) H enc spare held n _ _ g1
  have g2 : DataW.trod enc Try.prog W 0 spare held n 53 ((cs.drop 2).take (Try.prog.cellsOf 53)) = xs[2]? := hf 2 _ rfl
  rw [show Try.prog.cellsOf 53 = 2 by kernel_rfl, List.getElem?_eq_getElem (by rw [hxl]; decide)] at g2
  obtain ⟨d2, h2, q2⟩ := opn_api_Window H enc spare held n _ _ g2
  have g3 : DataW.trod enc Try.prog W 0 spare held n 3 ((cs.drop 4).take (Try.prog.cellsOf 3)) = xs[3]? := hf 3 _ rfl
  rw [show Try.prog.cellsOf 3 = 1 by kernel_rfl, List.getElem?_eq_getElem (by rw [hxl]; decide)] at g3
  obtain ⟨d3, h3, q3⟩ := (opn_int Try.underlying3) H enc spare held n _ _ g3
  have g4 : DataW.trod enc Try.prog W 0 spare held n 3 ((cs.drop 5).take (Try.prog.cellsOf 3)) = xs[4]? := hf 4 _ rfl
  rw [show Try.prog.cellsOf 3 = 1 by kernel_rfl, List.getElem?_eq_getElem (by rw [hxl]; decide)] at g4
  obtain ⟨d4, h4, q4⟩ := (opn_int Try.underlying3) H enc spare held n _ _ g4
  have e0 : cs.drop 0 = (cs.drop 0).take 1 ++ cs.drop 1 := splitF rfl
  have e1 : cs.drop 1 = (cs.drop 1).take 1 ++ cs.drop 2 := splitF rfl
  have e2 : cs.drop 2 = (cs.drop 2).take 2 ++ cs.drop 4 := splitF rfl
  have e3 : cs.drop 4 = (cs.drop 4).take 1 ++ cs.drop 5 := splitF rfl
  have e4 : cs.drop 5 = (cs.drop 5).take 1 ++ cs.drop 6 := splitF rfl
  have en : cs.drop 6 = [] := List.drop_of_length_le (by omega)
  have hcs : cs.drop 0 = _ := e0
  rw [e1, e2, e3, e4, en, show (cs.drop 0).take 1 = _ from h0, show (cs.drop 1).take 1 = _ from h1, show (cs.drop 2).take 2 = _ from h2, show (cs.drop 4).take 1 = _ from h3, show (cs.drop 5).take 1 = _ from h4] at hcs
  exact ⟨⟨d0, d1, d2, d3, d4⟩, hcs, q0, q1, q2, q3, q4⟩

theorem opn_api_Demand {W : World} : Opn Try.prog W 83 r_api_Demand wf_api_Demand := by
  intro H enc spare held fuel cs x h
  obtain ⟨xs, n, _, _, hlen, hxl, hf⟩ := DataW.trod_struct Try.underlying83 h
  rw [show Try.prog.cellsOf 83 = 7 by kernel_rfl] at hlen
  have g0 : DataW.trod enc Try.prog W 0 spare held n 3 ((cs.drop 0).take (Try.prog.cellsOf 3)) = xs[0]? := hf 0 _ rfl
  rw [show Try.prog.cellsOf 3 = 1 by kernel_rfl, List.getElem?_eq_getElem (by rw [hxl]; decide)] at g0
  obtain ⟨d0, h0, q0⟩ := (opn_int Try.underlying3) H enc spare held n _ _ g0
  have g1 : DataW.trod enc Try.prog W 0 spare held n 3 ((cs.drop 1).take (Try.prog.cellsOf 3)) = xs[1]? := hf 1 _ rfl
  rw [show Try.prog.cellsOf 3 = 1 by kernel_rfl, List.getElem?_eq_getElem (by rw [hxl]; decide)] at g1
  obtain ⟨d1, h1, q1⟩ := (opn_int Try.underlying3) H enc spare held n _ _ g1
  have g2 : DataW.trod enc Try.prog W 0 spare held n 3 ((cs.drop 2).take (Try.prog.cellsOf 3)) = xs[2]? := hf 2 _ rfl
  rw [show Try.prog.cellsOf 3 = 1 by kernel_rfl, List.getElem?_eq_getElem (by rw [hxl]; decide)] at g2
  obtain ⟨d2, h2, q2⟩ := (opn_int Try.underlying3) H enc spare held n _ _ g2
  have g3 : DataW.trod enc Try.prog W 0 spare held n 3 ((cs.drop 3).take (Try.prog.cellsOf 3)) = xs[3]? := hf 3 _ rfl
  rw [show Try.prog.cellsOf 3 = 1 by kernel_rfl, List.getElem?_eq_getElem (by rw [hxl]; decide)] at g3
  obtain ⟨d3, h3, q3⟩ := (opn_int Try.underlying3) H enc spare held n _ _ g3
  have g4 : DataW.trod enc Try.prog W 0 spare held n 53 ((cs.drop 4).take (Try.prog.cellsOf 53)) = xs[4]? := hf 4 _ rfl
  rw [show Try.prog.cellsOf 53 = 2 by kernel_rfl, List.getElem?_eq_getElem (by rw [hxl]; decide)] at g4
  obtain ⟨d4, h4, q4⟩ := opn_api_Window H enc spare held n _ _ g4
  have g5 : DataW.trod enc Try.prog W 0 spare held n 3 ((cs.drop 6).take (Try.prog.cellsOf 3)) = xs[5]? := hf 5 _ rfl
  rw [show Try.prog.cellsOf 3 = 1 by kernel_rfl, List.getElem?_eq_getElem (by rw [hxl]; decide)] at g5
  obtain ⟨d5, h5, q5⟩ := (opn_int Try.underlying3) H enc spare held n _ _ g5
  have e0 : cs.drop 0 = (cs.drop 0).take 1 ++ cs.drop 1 := splitF rfl
  have e1 : cs.drop 1 = (cs.drop 1).take 1 ++ cs.drop 2 := splitF rfl
  have e2 : cs.drop 2 = (cs.drop 2).take 1 ++ cs.drop 3 := splitF rfl
  have e3 : cs.drop 3 = (cs.drop 3).take 1 ++ cs.drop 4 := splitF rfl
  have e4 : cs.drop 4 = (cs.drop 4).take 2 ++ cs.drop 6 := splitF rfl
  have e5 : cs.drop 6 = (cs.drop 6).take 1 ++ cs.drop 7 := splitF rfl
  have en : cs.drop 7 = [] := List.drop_of_length_le (by omega)
  have hcs : cs.drop 0 = _ := e0
  rw [e1, e2, e3, e4, e5, en, show (cs.drop 0).take 1 = _ from h0, show (cs.drop 1).take 1 = _ from h1, show (cs.drop 2).take 1 = _ from h2, show (cs.drop 3).take 1 = _ from h3, show (cs.drop 4).take 2 = _ from h4, show (cs.drop 6).take 1 = _ from h5] at hcs
  exact ⟨⟨d0, d1, d2, d3, d4, d5⟩, hcs, q0, q1, q2, q3, q4, q5⟩

theorem opn_api_Problem {W : World} : Opn Try.prog W 28 r_api_Problem wf_api_Problem := by
  intro H enc spare held fuel cs x h
  obtain ⟨xs, n, _, _, hlen, hxl, hf⟩ := DataW.trod_struct Try.underlying28 h
  rw [show Try.prog.cellsOf 28 = 6 by kernel_rfl] at hlen
  have g0 : DataW.trod enc Try.prog W 0 spare held n 24 ((cs.drop 0).take (Try.prog.cellsOf 24)) = xs[0]? := hf 0 _ rfl
  rw [show Try.prog.cellsOf 24 = 2 by kernel_rfl, List.getElem?_eq_getElem (by rw [hxl]; decide)] at g0
  obtain ⟨d0, h0, q0⟩ := opn_api_Road H enc spare held n _ _ g0
  have g1 : DataW.trod enc Try.prog W 0 spare held n 25 ((cs.drop 2).take (Try.prog.cellsOf 25)) = xs[1]? := hf 1 _ rfl
  rw [show Try.prog.cellsOf 25 = 1 by kernel_rfl, List.getElem?_eq_getElem (by rw [hxl]; decide)] at g1
  obtain ⟨d1, h1, q1⟩ := (opn_slice Try.underlying25 (by kernel_rfl) opn_api_Vehicle) H enc spare held n _ _ g1
  have g2 : DataW.trod enc Try.prog W 0 spare held n 26 ((cs.drop 3).take (Try.prog.cellsOf 26)) = xs[2]? := hf 2 _ rfl
  rw [show Try.prog.cellsOf 26 = 1 by kernel_rfl, List.getElem?_eq_getElem (by rw [hxl]; decide)] at g2
  obtain ⟨d2, h2, q2⟩ := (opn_slice Try.underlying26 (by kernel_rfl) opn_api_Demand) H enc spare held n _ _ g2
  have g3 : DataW.trod enc Try.prog W 0 spare held n 3 ((cs.drop 4).take (Try.prog.cellsOf 3)) = xs[3]? := hf 3 _ rfl
  rw [show Try.prog.cellsOf 3 = 1 by kernel_rfl, List.getElem?_eq_getElem (by rw [hxl]; decide)] at g3
  obtain ⟨d3, h3, q3⟩ := (opn_int Try.underlying3) H enc spare held n _ _ g3
  have g4 : DataW.trod enc Try.prog W 0 spare held n 3 ((cs.drop 5).take (Try.prog.cellsOf 3)) = xs[4]? := hf 4 _ rfl
  rw [show Try.prog.cellsOf 3 = 1 by kernel_rfl, List.getElem?_eq_getElem (by rw [hxl]; decide)] at g4
  obtain ⟨d4, h4, q4⟩ := (opn_int Try.underlying3) H enc spare held n _ _ g4
  have e0 : cs.drop 0 = (cs.drop 0).take 2 ++ cs.drop 2 := splitF rfl
  have e1 : cs.drop 2 = (cs.drop 2).take 1 ++ cs.drop 3 := splitF rfl
  have e2 : cs.drop 3 = (cs.drop 3).take 1 ++ cs.drop 4 := splitF rfl
  have e3 : cs.drop 4 = (cs.drop 4).take 1 ++ cs.drop 5 := splitF rfl
  have e4 : cs.drop 5 = (cs.drop 5).take 1 ++ cs.drop 6 := splitF rfl
  have en : cs.drop 6 = [] := List.drop_of_length_le (by omega)
  obtain ⟨A0, c0, h0, hl0, ha0⟩ := h0
  obtain ⟨A1, c1, h1, hl1, hm1, ha1⟩ := h1
  obtain ⟨A2, c2, h2, hl2, hm2, ha2⟩ := h2
  have hcs : cs.drop 0 = _ := e0
  rw [e1, e2, e3, e4, en, show (cs.drop 0).take 2 = _ from h0, show (cs.drop 2).take 1 = _ from h1, show (cs.drop 3).take 1 = _ from h2, show (cs.drop 4).take 1 = _ from h3, show (cs.drop 5).take 1 = _ from h4] at hcs
  exact ⟨⟨d0, d1, d2, d3, d4⟩, ⟨A0, c0, A1, c1, A2, c2, hcs, hl0, ha0, ⟨hl1, hm1⟩, ha1, ⟨hl2, hm2⟩, ha2⟩, q0, q1, q2, q3, q4⟩

theorem opn_api_Tour {W : World} : Opn Try.prog W 31 r_api_Tour wf_api_Tour := by
  intro H enc spare held fuel cs x h
  obtain ⟨xs, n, _, _, hlen, hxl, hf⟩ := DataW.trod_struct Try.underlying31 h
  rw [show Try.prog.cellsOf 31 = 2 by kernel_rfl] at hlen
  have g0 : DataW.trod enc Try.prog W 0 spare held n 3 ((cs.drop 0).take (Try.prog.cellsOf 3)) = xs[0]? := hf 0 _ rfl
  rw [show Try.prog.cellsOf 3 = 1 by kernel_rfl, List.getElem?_eq_getElem (by rw [hxl]; decide)] at g0
  obtain ⟨d0, h0, q0⟩ := (opn_int Try.underlying3) H enc spare held n _ _ g0
  have g1 : DataW.trod enc Try.prog W 0 spare held n 29 ((cs.drop 1).take (Try.prog.cellsOf 29)) = xs[1]? := hf 1 _ rfl
  rw [show Try.prog.cellsOf 29 = 1 by kernel_rfl, List.getElem?_eq_getElem (by rw [hxl]; decide)] at g1
  obtain ⟨d1, h1, q1⟩ := (opn_slice Try.underlying29 (by kernel_rfl) (opn_int Try.underlying3)) H enc spare held n _ _ g1
  have e0 : cs.drop 0 = (cs.drop 0).take 1 ++ cs.drop 1 := splitF rfl
  have e1 : cs.drop 1 = (cs.drop 1).take 1 ++ cs.drop 2 := splitF rfl
  have en : cs.drop 2 = [] := List.drop_of_length_le (by omega)
  obtain ⟨A0, c0, h1, hl0, hm0, ha0⟩ := h1
  have hcs : cs.drop 0 = _ := e0
  rw [e1, en, show (cs.drop 0).take 1 = _ from h0, show (cs.drop 1).take 1 = _ from h1] at hcs
  exact ⟨⟨d0, d1⟩, ⟨A0, c0, hcs, ⟨hl0, hm0⟩, ha0⟩, q0, q1⟩

set_option maxRecDepth 100000 in
theorem insertAll_lifted (os : Os) (started : os.Started) (H : Type) (enc : TypeId × Value → H) :
    ReturnsInHanded {} Try.checked os 6 .any (Rows.insertAllSpec.pre6 enc Try.prog Try.f6 Rows.insertAllRow.domain false) (Rows.insertAllSpec.post enc Try.prog Try.f6 false true false false) := by
  refine returnsInHanded_of_change (C := Try.checked) own_ started (by kernel_rfl) Try.func6
    (ChangeSpec.witness6 (enc := enc) (C := Try.checked) false ⟨#[], #[((Go.Value.agg #[(Go.Value.int Go.IntKind.i64 0), (Go.Value.slice none 0 0), (Go.Value.slice none 0 0), (Go.Value.slice none 0 0), (Go.Value.int Go.IntKind.i64 0), (Go.Value.int Go.IntKind.i64 0)])), ((Go.Value.agg #[(Go.Value.int Go.IntKind.i64 0), (Go.Value.slice none 0 0)])), (.int .i64 0), (.int .i64 0)], []⟩ 8 (by kernel_rfl) (by kernel_rfl) (by kernel_rfl) (by kernel_rfl)) ?_
  intro W base args ds gs before hval0 hW hcnd _
  have hval : ∀ (j : Nat) t v, Try.f6.params[j]? = some t → args[j]? = some v → Value.okWide Try.prog W .any base t v := hval0
  have hW' := hW
  obtain ⟨p, q, hA0, hV, rfl, hfz, hnd⟩ := hW
  have hA : DataW.TrodAll enc Try.prog W 0 (fun _ => true) true Try.f6.params.toList args.toList ds p := hA0
  rw [Try.params6] at hA hval
  obtain ⟨rfl, rfl⟩ := trodVars_none hV
  clear hA0 hval0
  obtain ⟨v0, v1, v2, v3, d0, d1, d2, d3, p0, p1, p2, p3, rfl, rfl, rfl, a0, a1, a2, a3⟩ := trodAll_four hA
  obtain ⟨cs0, rfl, _⟩ := okWide_struct Try.underlying28 (hval 0 28 v0 rfl rfl)
  obtain ⟨fu0, ht0⟩ := a0
  obtain ⟨x0, hr0, q0⟩ := opn_api_Problem (W := W) H enc _ _ fu0 _ _ ht0
  obtain ⟨A0_0, c0_0, A0_1, c0_1, A0_2, c0_2, hcs0, hl0_0, ha0_0, hl0_1, ha0_1, hl0_2, ha0_2⟩ := hr0
  obtain rfl := toList_eq hcs0
  obtain ⟨cs1, rfl, _⟩ := okWide_struct Try.underlying31 (hval 1 31 v1 rfl rfl)
  obtain ⟨fu1, ht1⟩ := a1
  obtain ⟨x1, hr1, q1⟩ := opn_api_Tour (W := W) H enc _ _ fu1 _ _ ht1
  obtain ⟨A1_0, c1_0, hcs1, hl1_0, ha1_0⟩ := hr1
  obtain rfl := toList_eq hcs1
  obtain ⟨x2, rfl, _, _, q2⟩ := open_int (P := Try.prog) Try.underlying3 (hval 2 3 v2 rfl rfl) a2
  obtain ⟨x3, rfl, _, _, q3⟩ := open_int (P := Try.prog) Try.underlying3 (hval 3 3 v3 rfl rfl) a3
  obtain ⟨F, hF⟩ := recyclinglaw23_InsertAll_true x0 x1 x2 x3 q0 q1 q2 q3
  refine (calls_of_fn (v := .bool true) Try.func6 rfl (args := [_, _, _, _]) (recyclinglaw23_InsertAll_fn hl0_0 ha0_0 hl0_1 ha0_1 hl0_2 ha0_2 hl1_0 ha1_0 hF (fun _ _ => rfl))).mono fun e W' ⟨he, hw⟩ => ?_
  exact ⟨_, he, post_true (tb := 4) hW' rfl rfl Try.underlying4 rfl rfl rfl laidOut_ (by decide +kernel) hw⟩

theorem insertAll_holds : Rows.InsertAllSaid :=
  OpenClaim.holds_of_wide 6 Try.f6 rfl rfl rfl rfl rfl rfl rfl ⟨rfl, rfl, rfl, rfl, rfl⟩ rfl rfl rfl rfl rfl (by kernel_rfl) Try.func6 (by kernel_rfl)
    (of_decide_eq_true (by kernel_rfl)) (by unfold Func.isWrapper; first | (rw [if_pos (by decide +kernel)]; kernel_rfl) | (rw [if_neg (by decide +kernel)]; exact ⟨rfl, rfl⟩))
    (fun os started H enc _ => insertAll_lifted os started H enc)

end Go.Proofs.Ytfekfbcghnlohaa
