/- The plain laws of Insert: the sort, the candidates. -/
import Derived.Test.YtfekfbcghnlohaaUr
import Derived.Test.YtfekfbcghnlohaaHc
namespace Go.Proofs.Ytfekfbcghnlohaa
open Go.RowKit
set_option linter.unusedSimpArgs false
set_option linter.unusedVariables false

/-! ### the library's sort at this program's type -/
abbrev Op := T_insert_option
theorem opt_ins (F : Nat) (d : List Op) (a b : Int) : slices_insertionSortCmpFunc_option_c38 F d a b = gIns insert_options_1 F d a b := rfl
theorem opt_rot (F : Nat) (d : List Op) (a m b : Int) : slices_rotateCmpFunc_option_c38 F d a m b = gRot F d a m b := rfl
theorem opt_symB (rec_ : List Op → Int → Int → Int → Option (List Op)) (F : Nat) (d : List Op) (a m b : Int) : slices_symMergeCmpFunc_option_c38_b rec_ F d a m b = gSymB insert_options_1 rec_ F d a m b := rfl
theorem opt_sym : ∀ F : Nat, slices_symMergeCmpFunc_option_c38 F = gSym insert_options_1 F
  | 0 => rfl
  | F + 1 => by
    funext d a m b
    show slices_symMergeCmpFunc_option_c38_b (slices_symMergeCmpFunc_option_c38 F) F d a m b = gSymB insert_options_1 (gSym insert_options_1 F) F d a m b
    rw [opt_sym F]; exact opt_symB _ _ _ _ _ _
theorem opt_l2 (F : Nat) (n s : Int) : slices_stableCmpFunc_option_c38_l2 F n s = gStL2 insert_options_1 F n s := by
  funext j
  unfold slices_stableCmpFunc_option_c38_l2 gStL2
  rw [opt_sym]
theorem opt_l3 (F : Nat) (n : Int) : slices_stableCmpFunc_option_c38_l3 F n = gStL3 insert_options_1 F n := by
  funext j
  unfold slices_stableCmpFunc_option_c38_l3 gStL3
  simp only [opt_sym, opt_l2]
theorem opt_sort (F : Nat) (d : List Op) : slices_SortStableFunc_option_c38 F d = gSort insert_options_1 F d := by
  unfold slices_SortStableFunc_option_c38 gSort slices_stableCmpFunc_option_c38 gSt
  simp only [opt_l3]
  rfl
theorem opt_cmp (x y : Op) (hx : 0 ≤ x.cost ∧ x.cost ≤ 1000000000) (hy : 0 ≤ y.cost ∧ y.cost ≤ 1000000000) : ∃ z, insert_options_1 x y = some z ∧ (z < 0 ↔ x.cost < y.cost) :=
  ⟨x.cost - y.cost, by unfold insert_options_1; rw [w64_eq (by omega) (by omega)], by omega⟩
/-- What the library's sort gives. -/
theorem opt_sorted {F : Nat} {L : List Op} (hn : L.length ≤ 1000) (hF : 40000 ≤ F) (hb : ∀ x ∈ L, 0 ≤ x.cost ∧ x.cost ≤ 1000000000) : ∃ L', slices_SortStableFunc_option_c38 F L = some L' ∧ Srt T_insert_option.cost L' ∧ Stab T_insert_option.cost L L' := by
  rw [opt_sort]
  exact gSort_eq opt_cmp (by omega) (by omega) hb

/-! ### the candidates -/
def finU (l : List Int) : List Int := if l.getLast? = some (-1) then l else l ++ [-1]
def candR (s : List Int) (d : Int) (k : Nat) (u : Bool) : List Int := finU (s.take k ++ (d :: (bif u then [-1] else [])) ++ s.drop k)
def candAt (s : List Int) (d : Int) (i : Nat) : List Int := candR s d (i / 2) (decide (i % 2 = 1))
def cands (s : List Int) (d : Int) : List (List Int) := (List.range (2 * s.length + 1)).map (candAt s d)
theorem subO_drop {α : Type} {l : List α} {k : Nat} (h : k ≤ l.length) : subO l (k : Int) ((l.length : Nat) : Int) = some (l.drop k) := by
  unfold subO
  rw [if_pos (by omega)]
  simp
theorem getI_last {α : Type} {l : List α} (h : l ≠ []) (hn : l.length ≤ 1000000) : getI l (w64 (((l.length : Nat) : Int) - 1)) = l.getLast? := by
  have : 0 < l.length := List.length_pos_iff.2 h
  have e : w64 (((l.length : Nat) : Int) - 1) = ((l.length - 1 : Nat) : Int) := by rw [w64_eq (by omega) (by omega)]; omega
  rw [e, getI_nat, List.getLast?_eq_getElem?]
theorem fin_eq {l : List Int} (h : l ≠ []) (hn : l.length ≤ 10000) : (Option.bind (getI l (w64 (((l.length : Nat) : Int) - 1))) fun x1 =>
    Option.bind (bif (!(decide (x1 = (-1)))) then Option.bind (appO l [(-1)]) fun l6 => some l6 else some l) (fun out1 => some out1)) = some (finU l) := by
  rw [getI_last h (by omega), List.getLast?_eq_some_getLast h]
  unfold finU
  rw [List.getLast?_eq_some_getLast h]
  by_cases hx : l.getLast h = -1
  · simp [hx]
  · rw [if_neg (by simpa using hx)]
    simp only [Option.bind_some, hx, decide_false, Bool.not_false, cond_true]
    rw [appO_eq (by simp; omega)]
    rfl
theorem joined_eq {s m : List Int} {k : Nat} (hk : k ≤ s.length) (hs : s.length ≤ 1000) (hm : m ≠ []) (hm2 : m.length ≤ 2) : insert_joined s (k : Int) m = some (finU (s.take k ++ m ++ s.drop k)) := by
  have hm3 : 0 < m.length := List.length_pos_iff.2 hm
  unfold insert_joined
  rw [subO_take hk, subO_drop hk]
  simp only [Option.bind_some]
  rw [appO_eq (by simp; omega)]
  simp only [Option.bind_some]
  rw [appO_eq (by simp; omega)]
  simp only [Option.bind_some]
  rw [appO_eq (by simp; omega)]
  simp only [Option.bind_some, List.nil_append]
  exact fin_eq (by intro h; have := congrArg List.length h; simp only [List.length_append, List.length_nil] at this; omega) (by simp; omega)
theorem candidate_eq {s : List Int} {d : Int} {k : Nat} {u : Bool} (hk : k ≤ s.length) (hs : s.length ≤ 1000) : recyclingref23_candidate s d (k : Int) u = some (candR s d k u) := by
  unfold recyclingref23_candidate candR
  rw [subO_take hk, subO_drop hk]
  simp only [Option.bind_some]
  rw [appO_eq (by simp; omega)]
  simp only [Option.bind_some]
  rw [appO_eq (by simp; omega)]
  simp only [Option.bind_some, List.nil_append]
  have h1 : (bif u then Option.bind (appO (s.take k ++ [d]) [(-1)]) fun l4 => some l4 else some (s.take k ++ [d])) = some (s.take k ++ (d :: (bif u then [-1] else []))) := by
    cases u
    · simp
    · rw [cond_true, appO_eq (by simp; omega)]; simp
  have hl : (bif u then [(-1 : Int)] else []).length ≤ 1 := by cases u <;> simp
  rw [h1]
  simp only [Option.bind_some]
  rw [appO_eq (by simp; omega)]
  simp only [Option.bind_some]
  exact fin_eq (by simp) (by simp; omega)
/-- The program's list of candidates. -/
def toT (v : Int) (s : List Int) : T_api_Tour := ⟨v, s⟩
def firstC (t : T_api_Tour) (d : Int) (j : Nat) : List T_api_Tour := ((List.range (min j (2 * t.Stops.length + 1))).map (candAt t.Stops d)).map (toT t.Vehicle)
theorem firstC_len (t : T_api_Tour) (d : Int) (j : Nat) : (firstC t d j).length = min j (2 * t.Stops.length + 1) := by simp [firstC]
theorem firstC_succ (t : T_api_Tour) (d : Int) {j : Nat} (h : j < 2 * t.Stops.length + 1) : firstC t d (j + 1) = firstC t d j ++ [⟨t.Vehicle, candAt t.Stops d j⟩] := by
  unfold firstC
  rw [show min (j + 1) (2 * t.Stops.length + 1) = j + 1 by omega, show min j (2 * t.Stops.length + 1) = j by omega, List.range_succ, List.map_append, List.map_append]
  rfl
theorem candidates_loop {t : T_api_Tour} {d : Int} (hs : t.Stops.length ≤ 1000) : ∀ (r k f : Nat), k + r = t.Stops.length + 1 → r < f →
    iter (insert_candidates_l1 t d) f (firstC t d (2 * k), ((t.Stops.length + 1 : Nat) : Int), (k : Int)) = some ((cands t.Stops d).map (toT t.Vehicle))
  | _, _, 0, _, h => by omega
  | 0, k, f + 1, hk, _ => by
    have h1 : ¬ ((k : Int) < ((t.Stops.length + 1 : Nat) : Int)) := by omega
    simp only [iter, insert_candidates_l1, oun, h1, decide_false, cond_false, Option.bind_some, osum]
    unfold firstC cands
    rw [show min (2 * k) (2 * t.Stops.length + 1) = 2 * t.Stops.length + 1 by omega]
  | r + 1, k, f + 1, hk, hf => by
    have h1 : ((k : Int) < ((t.Stops.length + 1 : Nat) : Int)) := by omega
    have ih := candidates_loop (t := t) (d := d) hs r (k + 1) f (by omega) (by omega)
    have e1 : w64 ((k : Int) + 1) = ((k + 1 : Nat) : Int) := by rw [w64_eq (by omega) (by omega)]; omega
    have j1 : insert_joined t.Stops (k : Int) [d] = some (candAt t.Stops d (2 * k)) := by
      rw [joined_eq (by omega) hs (by simp) (by simp)]
      unfold candAt candR
      rw [show 2 * k / 2 = k by omega, show decide (2 * k % 2 = 1) = false by simp]
      rfl
    simp only [iter, insert_candidates_l1, oun, h1, decide_true, cond_true, j1, Option.bind_some, e1]
    rw [appO_eq (by rw [firstC_len]; simp; omega), Option.bind_some, ← firstC_succ t d (by omega)]
    by_cases h2 : k < t.Stops.length
    · have h2' : (k : Int) < ((t.Stops.length : Nat) : Int) := by omega
      have j2 : insert_joined t.Stops (k : Int) [d, -1] = some (candAt t.Stops d (2 * k + 1)) := by
        rw [joined_eq (by omega) hs (by simp) (by simp)]
        unfold candAt candR
        rw [show (2 * k + 1) / 2 = k by omega, show decide ((2 * k + 1) % 2 = 1) = true by simp]
        rfl
      simp only [h2', decide_true, cond_true, j2, Option.bind_some]
      rw [appO_eq (by rw [firstC_len]; simp; omega), Option.bind_some, ← firstC_succ t d (by omega)]
      simp only [Option.bind_some, osum]
      exact ih
    · have h2' : ¬ ((k : Int) < ((t.Stops.length : Nat) : Int)) := by omega
      have e2 : firstC t d (2 * k + 1) = firstC t d (2 * (k + 1)) := by
        unfold firstC
        rw [show min (2 * k + 1) (2 * t.Stops.length + 1) = min (2 * (k + 1)) (2 * t.Stops.length + 1) by omega]
      simp only [h2', decide_false, cond_false, Option.bind_some, osum]
      rw [e2]
      exact ih
theorem candidates_eq {F : Nat} {t : T_api_Tour} {d : Int} (hs : t.Stops.length ≤ 1000) (hF : 40000 ≤ F) : insert_candidates F t d = some ((cands t.Stops d).map (toT t.Vehicle)) := by
  have e1 : w64 (((t.Stops.length : Nat) : Int) + 1) = ((t.Stops.length + 1 : Nat) : Int) := by rw [w64_eq (by omega) (by omega)]; omega
  have := candidates_loop (t := t) (d := d) hs (t.Stops.length + 1) 0 F (by omega) (by omega)
  have e2 : firstC t d (2 * 0) = [] := by simp [firstC]
  rw [e2] at this
  unfold insert_candidates
  rw [e1, show (0 : Int) = ((0 : Nat) : Int) from rfl, this]
  rfl
end Go.Proofs.Ytfekfbcghnlohaa
