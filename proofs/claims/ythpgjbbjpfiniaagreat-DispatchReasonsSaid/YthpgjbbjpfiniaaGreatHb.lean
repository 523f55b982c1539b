/- The stable sort of Go's library: the merge in place, and the whole. Nothing of the program is named here. -/
import Derived.Test.YthpgjbbjpfiniaaGreatHa
namespace Go.Proofs.YthpgjbbjpfiniaaGreat
set_option linter.unusedSimpArgs false
set_option linter.unusedVariables false
set_option maxHeartbeats 1000000
section
variable {α : Type} {k : α → Int} {cmp : α → α → Option Int} {Pv : α → Prop}
theorem gSym_last (hc : ∀ x y, Pv x → Pv y → ∃ z, cmp x y = some z ∧ (z < 0 ↔ k x < k y)) {a m F : Nat} {A U B : List α} {y : α} (hA : A.length = a) (hU : a + U.length = m) (h2 : 2 ≤ U.length) (hb : m + 1 ≤ 1000000000) (hF : m + 1 - a < F) (hs : Srt k U) (hy : Pv y) (hp : ∀ z ∈ U, Pv z) (rec_ : List α → Int → Int → Int → Option (List α)) :
    ∃ M, gSymB cmp rec_ F (A ++ (U ++ ([y] ++ B))) a m ((m + 1 : Nat) : Int) = some (A ++ (M ++ B)) ∧ Srt k M ∧ Stab k (U ++ [y]) M := by
  have hd1 : ¬ w64 ((m : Int) - (a : Int)) = 1 := by rw [wsub (by omega) (by omega)]; omega
  have hd : w64 (((m + 1 : Nat) : Int) - (m : Int)) = 1 := by rw [wsub (by omega) (by omega)]; omega
  have gy : (A ++ (U ++ ([y] ++ B)))[m]? = some y := by
    have : A ++ (U ++ ([y] ++ B)) = (A ++ U) ++ y :: B := by simp
    rw [this]; exact get_mid (by simp [hA, hU])
  have gu : ∀ t, a ≤ t → t < m → ∃ v, (A ++ (U ++ ([y] ++ B)))[t]? = some v ∧ U[t - a]? = some v := by
    intro t h1 h2
    obtain ⟨v, hv⟩ := get_of_lt (L := U) (i := t - a) (by omega)
    exact ⟨v, by rw [get_seg hA h1 (by omega)]; exact hv, hv⟩
  obtain ⟨r, k1, k2, k3, k4, k5⟩ := bisect (body := gSymL3 cmp (A ++ (U ++ ([y] ++ B))) (m : Int)) (mk := fun i j => ((i : Int), (j : Int))) (test := fun h => match (A ++ (U ++ ([y] ++ B)))[h]? with | some v => decide (¬ k y < k v) | none => false) (i0 := a) (j0 := m) (fun i j h0 hij hj => by
      obtain ⟨v, g1, g2⟩ := gu ((i + j) / 2) (by omega) (by omega)
      obtain ⟨z, hz, hz2⟩ := hc y v hy (hp v (List.mem_of_getElem? g2))
      have hlt : (i : Int) < (j : Int) := by omega
      have hw := whalf (i := i) (j := j) (by omega)
      have hw1 : w64 (((((i + j) / 2 : Nat) : Int)) + 1) = (((i + j) / 2 + 1 : Nat) : Int) := wadd1 (by omega)
      have hg : guardO (0 ≤ 1 ∧ 1 ≤ 64) = some () := guardO_eq (by decide)
      by_cases hk : k y < k v
      · have hz0 := hz2.2 hk
        simp only [gSymL3, oun, hlt, decide_true, cond_true, hg, Option.bind_some, hw, getI_nat, g1, gy, hz, hz0, hk, hw1, Bool.not_true, cond_false, not_true_eq_false, decide_false]
      · have hz0 : ¬ z < 0 := fun h => hk (hz2.1 h)
        simp only [gSymL3, oun, hlt, decide_true, cond_true, hg, Option.bind_some, hw, getI_nat, g1, gy, hz, hz0, hk, decide_false, cond_false, Bool.not_false, not_false_eq_true, hw1])
    (fun i h0 hj => by simp only [gSymL3, oun, Int.lt_irrefl, decide_false, cond_false])
    (fun s t h1 h2 h3 ht => by
      obtain ⟨v, g1, g2⟩ := gu s h1 (by omega)
      obtain ⟨w, q1, q2⟩ := gu t (by omega) h3
      simp only [q1, g1, decide_eq_true_eq] at ht ⊢
      have := srt_get hs (by omega : s - a ≤ t - a) g2 q2
      omega) (m - a) a m F (Nat.le_refl _) (by omega) (Nat.le_refl _) (by omega) (Nat.le_refl _) (fun t h1 h2 => by omega) (fun t h1 h2 => by omega)
  have hl : (U.take (r - a)).length = r - a := by simp; omega
  have h1 : ∀ z ∈ U.take (r - a), k z ≤ k y := by
    intro z hz
    obtain ⟨i, hi, hz⟩ := mem_take hz
    have h2 := k4 (a + i) (by omega) (by omega)
    obtain ⟨v, g1, g2⟩ := gu (a + i) (by omega) (by omega)
    simp only [g1, decide_eq_true_eq] at h2
    rw [show a + i - a = i by omega, hz] at g2
    injection g2 with g2; subst g2; omega
  have h2 : ∀ z ∈ U.drop (r - a), k y < k z := by
    intro z hz
    obtain ⟨i, hi, hz⟩ := mem_drop hz
    have hlt := lt_of_get hz
    have h2 := k5 (a + i) (by omega) (by omega)
    obtain ⟨v, g1, g2⟩ := gu (a + i) (by omega) (by omega)
    simp only [g1, decide_eq_false_iff_not, Classical.not_not] at h2
    rw [show a + i - a = i by omega, hz] at g2
    injection g2 with g2; subst g2; exact h2
  have hus : U = U.take (r - a) ++ U.drop (r - a) := (List.take_append_drop _ _).symm
  obtain ⟨j1, j2⟩ := ins_stab (x := y) (by rw [← hus]; exact hs) h2 h1
  refine ⟨U.take (r - a) ++ y :: U.drop (r - a), ?_, j1, by rw [← hus] at j2; exact j2⟩
  have key := gSym_left (cmp := cmp) (e := r) (A := A ++ U.take (r - a)) (B := B) (x := y) (by simp [hA]; omega) (U.drop (r - a)).length (U.drop (r - a)) [] F rfl (by simp; omega) (by simp; omega)
  have e1 : A ++ (U ++ ([y] ++ B)) = A ++ U.take (r - a) ++ U.drop (r - a) ++ y :: ([] ++ B) := by
    rw [List.append_assoc A, ← hus]; simp
  have e2 : ((m : Nat) : Int) = ((r + (U.drop (r - a)).length : Nat) : Int) := by simp; omega
  unfold gSymB
  simp only [hd1, hd, decide_false, cond_false, decide_true, cond_true, k1, Option.bind_some]
  rw [e1]
  conv => lhs; rw [e2]
  rw [key]
  simp
theorem sym_part {s a m b : Nat} {rec_ : List α → Int → Int → Int → Option (List α)} (hr : ∀ (A U V B : List α) (a m b : Nat), A.length = a → a + U.length = m → m + V.length = b → 1 ≤ U.length → 1 ≤ V.length → b ≤ 1000000000 → (A ++ (U ++ (V ++ B))).length ≤ 1000000000000 → b - a ≤ s → Srt k U → Srt k V → (∀ z ∈ U, Pv z) → (∀ z ∈ V, Pv z) → ∃ M, rec_ (A ++ (U ++ (V ++ B))) a m b = some (A ++ (M ++ B)) ∧ Srt k M ∧ Stab k (U ++ V) M) {A U V B : List α} (hA : A.length = a) (hU : a + U.length = m) (hV : m + V.length = b) (hb : b ≤ 1000000000) (hl : (A ++ (U ++ (V ++ B))).length ≤ 1000000000000) (hs : b - a ≤ s) (su : Srt k U) (sv : Srt k V) (pu : ∀ z ∈ U, Pv z) (pv : ∀ z ∈ V, Pv z) :
    ∃ v M, (bif (decide ((a : Int) < (m : Int))) then some (decide ((m : Int) < (b : Int))) else some false) = some v ∧ (bif v then Option.bind (rec_ (A ++ (U ++ (V ++ B))) a m b) fun r => some r else some (A ++ (U ++ (V ++ B)))) = some (A ++ (M ++ B)) ∧ Srt k M ∧ Stab k (U ++ V) M := by
  by_cases h1 : a < m
  · have h1' : (a : Int) < (m : Int) := by omega
    by_cases h2 : m < b
    · have h2' : (m : Int) < (b : Int) := by omega
      obtain ⟨M, k1, k2, k3⟩ := hr A U V B a m b hA hU hV (by omega) (by omega) hb hl hs su sv pu pv
      refine ⟨true, M, ?_, ?_, k2, k3⟩
      · simp only [h1', h2', decide_true, cond_true]
      · simp only [cond_true, k1, Option.bind_some]
    · have h2' : ¬ (m : Int) < (b : Int) := by omega
      have : V = [] := List.eq_nil_of_length_eq_zero (by omega)
      subst this
      refine ⟨false, U, ?_, ?_, su, by rw [List.append_nil]; exact Stab.refl U⟩
      · simp only [h1', h2', decide_true, cond_true, decide_false]
      · simp only [cond_false, List.nil_append]
  · have h1' : ¬ (a : Int) < (m : Int) := by omega
    have : U = [] := List.eq_nil_of_length_eq_zero (by omega)
    subst this
    refine ⟨false, V, ?_, ?_, sv, Stab.refl V⟩
    · simp only [h1', decide_false, cond_false]
    · simp only [cond_false, List.nil_append]
theorem srt_take {l : List α} (h : Srt k l) (n : Nat) : Srt k (l.take n) := List.Pairwise.sublist (List.take_sublist n l) h
theorem srt_drop {l : List α} (h : Srt k l) (n : Nat) : Srt k (l.drop n) := List.Pairwise.sublist (List.drop_sublist n l) h
theorem srt_td {l : List α} (h : Srt k l) {n : Nat} {x y : α} (hx : x ∈ l.take n) (hy : y ∈ l.drop n) : k x ≤ k y := by
  obtain ⟨i, hi, hx⟩ := mem_take hx
  obtain ⟨j, hj, hy⟩ := mem_drop hy
  exact srt_get h (by omega) hx hy
theorem sym_cut (hc : ∀ x y, Pv x → Pv y → ∃ z, cmp x y = some z ∧ (z < 0 ↔ k x < k y)) {F a m b : Nat}
    {A U V B : List α} (hA : A.length = a) (hU : a + U.length = m) (hV : m + V.length = b) (hu : 2 ≤ U.length) (hv : 2 ≤ V.length) (hb : b ≤ 1000000000) (hF : b - a < F) (su : Srt k U) (sv : Srt k V) (pu : ∀ z ∈ U, Pv z) (pv : ∀ z ∈ V, Pv z) :
    ∃ st r0 r e : Nat, (bif (decide ((((a + b) / 2 : Nat) : Int) < (m : Int))) then some ((((a + b) / 2 : Nat) : Int), (((a + b) / 2 + m : Nat) : Int), w64 ((((a + b) / 2 + m : Nat) : Int) - (b : Int)), (((a + b) / 2 : Nat) : Int)) else some ((((a + b) / 2 : Nat) : Int), (((a + b) / 2 + m : Nat) : Int), (a : Int), (m : Int))) = some ((((a + b) / 2 : Nat) : Int), (((a + b) / 2 + m : Nat) : Int), (st : Int), (r0 : Int)) ∧
      iter (gSymL5 cmp (A ++ (U ++ (V ++ B)))) F ((st : Int), (r0 : Int), (((a + b) / 2 + m - 1 : Nat) : Int)) = some (r : Int) ∧ a ≤ r ∧ r ≤ m ∧ e + r = (a + b) / 2 + m ∧ m ≤ e ∧ e ≤ b ∧ a < (a + b) / 2 ∧ (a + b) / 2 < b ∧ (∀ x ∈ U.take (r - a), ∀ y ∈ V.drop (e - m), k x ≤ k y) ∧ (∀ x ∈ U.drop (r - a), ∀ y ∈ V.take (e - m), k y < k x) := by
  have hg : guardO (0 ≤ 1 ∧ 1 ≤ 64) = some () := guardO_eq (by decide)
  generalize hm : (a + b) / 2 = mid
  obtain ⟨st, r0, hst, hst1, hst2, hst3⟩ : ∃ st r0 : Nat, (bif (decide ((mid : Int) < (m : Int))) then some ((mid : Int), ((mid + m : Nat) : Int), w64 (((mid + m : Nat) : Int) - (b : Int)), (mid : Int)) else some ((mid : Int), ((mid + m : Nat) : Int), (a : Int), (m : Int))) = some ((mid : Int), ((mid + m : Nat) : Int), (st : Int), (r0 : Int)) ∧ a ≤ st ∧ st ≤ r0 ∧ ((mid < m ∧ st + b = mid + m ∧ r0 = mid) ∨ (m ≤ mid ∧ st = a ∧ r0 = m)) := by
    by_cases h : mid < m
    · have h' : (mid : Int) < (m : Int) := by omega
      refine ⟨mid + m - b, mid, ?_, by omega, by omega, .inl ⟨h, by omega, rfl⟩⟩
      simp only [h', decide_true, cond_true, wsub (by omega : b ≤ mid + m) (by omega)]
    · have h' : ¬ (mid : Int) < (m : Int) := by omega
      refine ⟨a, m, ?_, Nat.le_refl _, by omega, .inr ⟨by omega, rfl, rfl⟩⟩
      simp only [h', decide_false, cond_false]
  have gu : ∀ t, a ≤ t → t < m → ∃ v, (A ++ (U ++ (V ++ B)))[t]? = some v ∧ U[t - a]? = some v := by
    intro t h1 h2
    obtain ⟨v, hv⟩ := get_of_lt (L := U) (i := t - a) (by omega)
    exact ⟨v, by rw [get_seg hA h1 (by omega)]; exact hv, hv⟩
  have gv : ∀ t, m ≤ t → t < b → ∃ v, (A ++ (U ++ (V ++ B)))[t]? = some v ∧ V[t - m]? = some v := by
    intro t h1 h2
    obtain ⟨v, hv⟩ := get_of_lt (L := V) (i := t - m) (by omega)
    have e : A ++ (U ++ (V ++ B)) = (A ++ U) ++ (V ++ B) := by simp
    exact ⟨v, by rw [e, get_seg (a := m) (by simp [hA, hU]) h1 (by omega)]; exact hv, hv⟩
  obtain ⟨r, k1, k2, k3, k4, k5⟩ := bisect (body := gSymL5 cmp (A ++ (U ++ (V ++ B)))) (mk := fun i j => ((i : Int), (j : Int), ((mid + m - 1 : Nat) : Int))) (test := fun h => match (A ++ (U ++ (V ++ B)))[mid + m - 1 - h]?, (A ++ (U ++ (V ++ B)))[h]? with | some v, some u => decide (¬ k v < k u) | _, _ => false) (i0 := st) (j0 := r0) (fun i j h0 hij hj => by
      obtain ⟨u, u1, u2⟩ := gu ((i + j) / 2) (by omega) (by omega)
      obtain ⟨v, v1, v2⟩ := gv (mid + m - 1 - (i + j) / 2) (by omega) (by omega)
      obtain ⟨z, hz, hz2⟩ := hc v u (pv v (List.mem_of_getElem? v2)) (pu u (List.mem_of_getElem? u2))
      have hlt : (i : Int) < (j : Int) := by omega
      have hw := whalf (i := i) (j := j) (by omega)
      have hw1 : w64 (((((i + j) / 2 : Nat) : Int)) + 1) = (((i + j) / 2 + 1 : Nat) : Int) := wadd1 (by omega)
      have hw2 : w64 (((mid + m - 1 : Nat) : Int) - (((i + j) / 2 : Nat) : Int)) = ((mid + m - 1 - (i + j) / 2 : Nat) : Int) := wsub (by omega) (by omega)
      by_cases hk : k v < k u
      · have hz0 := hz2.2 hk
        simp only [gSymL5, oun, hlt, decide_true, cond_true, hg, Option.bind_some, hw, hw2, getI_nat, u1, v1, hz, hz0, hk, hw1, Bool.not_true, cond_false, not_true_eq_false, decide_false]
      · have hz0 : ¬ z < 0 := fun h => hk (hz2.1 h)
        simp only [gSymL5, oun, hlt, decide_true, cond_true, hg, Option.bind_some, hw, hw2, getI_nat, u1, v1, hz, hz0, hk, decide_false, cond_false, Bool.not_false, not_false_eq_true, hw1])
    (fun i h0 hj => by simp only [gSymL5, oun, Int.lt_irrefl, decide_false, cond_false])
    (fun s t h1 h2 h3 ht => by
      obtain ⟨u, u1, u2⟩ := gu s (by omega) (by omega)
      obtain ⟨v, v1, v2⟩ := gv (mid + m - 1 - s) (by omega) (by omega)
      obtain ⟨u', u1', u2'⟩ := gu t (by omega) (by omega)
      obtain ⟨v', v1', v2'⟩ := gv (mid + m - 1 - t) (by omega) (by omega)
      simp only [u1, v1, u1', v1', decide_eq_true_eq] at ht ⊢
      have h4 := srt_get su (by omega : s - a ≤ t - a) u2 u2'
      have h5 := srt_get sv (by omega : mid + m - 1 - t - m ≤ mid + m - 1 - s - m) v2' v2
      omega) (r0 - st) st r0 F (Nat.le_refl _) (by omega) (Nat.le_refl _) (by omega) (Nat.le_refl _) (fun t h1 h2 => by omega) (fun t h1 h2 => by omega)
  generalize he : mid + m - r = e
  have hme : m ≤ e := by omega
  have heb : e ≤ b := by omega
  have hi : ∀ x ∈ U.take (r - a), ∀ y ∈ V.drop (e - m), k x ≤ k y := by
    intro x hx y hy
    obtain ⟨i, hi, hx⟩ := mem_take hx
    obtain ⟨j, hj, hy⟩ := mem_drop hy
    have hj2 := lt_of_get hy
    by_cases hrs : r = st
    · omega
    · have ht := k4 (r - 1) (by omega) (by omega)
      obtain ⟨u, u1, u2⟩ := gu (r - 1) (by omega) (by omega)
      obtain ⟨v, v1, v2⟩ := gv (mid + m - 1 - (r - 1)) (by omega) (by omega)
      simp only [u1, v1, decide_eq_true_eq] at ht
      have h4 := srt_get su (by omega : i ≤ r - 1 - a) hx u2
      have h5 := srt_get sv (by omega : mid + m - 1 - (r - 1) - m ≤ j) v2 hy
      omega
  have hii : ∀ x ∈ U.drop (r - a), ∀ y ∈ V.take (e - m), k y < k x := by
    intro x hx y hy
    obtain ⟨i, hi, hx⟩ := mem_drop hx
    obtain ⟨j, hj, hy⟩ := mem_take hy
    have hi2 := lt_of_get hx
    by_cases hrs : r = r0
    · omega
    · have ht := k5 r (by omega) (by omega)
      obtain ⟨u, u1, u2⟩ := gu r (by omega) (by omega)
      obtain ⟨v, v1, v2⟩ := gv (mid + m - 1 - r) (by omega) (by omega)
      simp only [u1, v1, decide_eq_false_iff_not, Classical.not_not] at ht
      have h4 := srt_get su (by omega : r - a ≤ i) u2 hx
      have h5 := srt_get sv (by omega : j ≤ mid + m - 1 - r - m) hy v2
      omega
  exact ⟨st, r0, r, e, hst, k1, by omega, by omega, by omega, hme, heb, by omega, by omega, hi, hii⟩
theorem gSym_main (hc : ∀ x y, Pv x → Pv y → ∃ z, cmp x y = some z ∧ (z < 0 ↔ k x < k y)) {s F a m b : Nat} {rec_ : List α → Int → Int → Int → Option (List α)} (hr : ∀ (A U V B : List α) (a m b : Nat), A.length = a → a + U.length = m → m + V.length = b → 1 ≤ U.length → 1 ≤ V.length → b ≤ 1000000000 → (A ++ (U ++ (V ++ B))).length ≤ 1000000000000 → b - a ≤ s → Srt k U → Srt k V → (∀ z ∈ U, Pv z) → (∀ z ∈ V, Pv z) → ∃ M, rec_ (A ++ (U ++ (V ++ B))) a m b = some (A ++ (M ++ B)) ∧ Srt k M ∧ Stab k (U ++ V) M)
    {A U V B : List α} (hA : A.length = a) (hU : a + U.length = m) (hV : m + V.length = b) (hu : 2 ≤ U.length) (hv : 2 ≤ V.length) (hb : b ≤ 1000000000) (hl : (A ++ (U ++ (V ++ B))).length ≤ 1000000000000) (hs : b - a ≤ s + 1) (hF : b - a < F) (su : Srt k U) (sv : Srt k V) (pu : ∀ z ∈ U, Pv z) (pv : ∀ z ∈ V, Pv z) :
    ∃ M, gSymB cmp rec_ F (A ++ (U ++ (V ++ B))) a m b = some (A ++ (M ++ B)) ∧ Srt k M ∧ Stab k (U ++ V) M := by
  have hd1 : ¬ w64 ((m : Int) - (a : Int)) = 1 := by rw [wsub (by omega) (by omega)]; omega
  have hd2 : ¬ w64 ((b : Int) - (m : Int)) = 1 := by rw [wsub (by omega) (by omega)]; omega
  have hg : guardO (0 ≤ 1 ∧ 1 ≤ 64) = some () := guardO_eq (by decide)
  obtain ⟨st, r0, r, e, hst, k1, r1, r2, he, hme, heb, hm1, hm2, hi, hii⟩ := sym_cut (B := B) hc hA hU hV hu hv hb hF su sv pu pv
  generalize hm : (a + b) / 2 = mid at *
  have hw : w64 ((IntKind.u64.wrap (w64 ((a : Int) + (b : Int)))) / 2 ^ (1 : Int).toNat) = (mid : Int) := by rw [whalf (by omega), hm]
  have hn : w64 ((mid : Int) + (m : Int)) = ((mid + m : Nat) : Int) := wadd (by omega)
  have hp : w64 (((mid + m : Nat) : Int) - 1) = ((mid + m - 1 : Nat) : Int) := wsub1 (by omega) (by omega)
  have hend : w64 (((mid + m : Nat) : Int) - (r : Int)) = (e : Int) := by rw [wsub (by omega) (by omega)]; omega
  have l1 : (U.take (r - a)).length = r - a := by simp; omega
  have l2 : (U.drop (r - a)).length = m - r := by simp; omega
  have l3 : (V.take (e - m)).length = e - m := by simp; omega
  have l4 : (V.drop (e - m)).length = b - e := by simp; omega
  have hus : U.take (r - a) ++ U.drop (r - a) = U := List.take_append_drop _ _
  have hvs : V.take (e - m) ++ V.drop (e - m) = V := List.take_append_drop _ _
  generalize hU1 : U.take (r - a) = U1 at *
  generalize hU2 : U.drop (r - a) = U2 at *
  generalize hV1 : V.take (e - m) = V1 at *
  generalize hV2 : V.drop (e - m) = V2 at *
  have s1 : Srt k U1 := by rw [← hU1]; exact srt_take su _
  have s2 : Srt k U2 := by rw [← hU2]; exact srt_drop su _
  have s3 : Srt k V1 := by rw [← hV1]; exact srt_take sv _
  have s4 : Srt k V2 := by rw [← hV2]; exact srt_drop sv _
  have c1 : ∀ x ∈ U1, ∀ y ∈ U2, k x ≤ k y := fun x hx y hy => by rw [← hU1] at hx; rw [← hU2] at hy; exact srt_td su hx hy
  have c2 : ∀ x ∈ V1, ∀ y ∈ V2, k x ≤ k y := fun x hx y hy => by rw [← hV1] at hx; rw [← hV2] at hy; exact srt_td sv hx hy
  have p1 : ∀ z ∈ U1, Pv z := fun z hz => pu z (by rw [← hus]; simp [hz])
  have p2 : ∀ z ∈ U2, Pv z := fun z hz => pu z (by rw [← hus]; simp [hz])
  have p3 : ∀ z ∈ V1, Pv z := fun z hz => pv z (by rw [← hvs]; simp [hz])
  have p4 : ∀ z ∈ V2, Pv z := fun z hz => pv z (by rw [← hvs]; simp [hz])
  have hmid : a + U1.length + V1.length = mid := by omega
  obtain ⟨w0, hr1, hr2⟩ : ∃ v, (bif (decide ((r : Int) < (m : Int))) then some ((e : Int), (decide ((m : Int) < (e : Int)))) else some ((e : Int), false)) = some ((e : Int), v) ∧
      (bif v then Option.bind (gRot F (A ++ (U ++ (V ++ B))) r m e) fun r6 => some r6 else some (A ++ (U ++ (V ++ B)))) = some (A ++ (U1 ++ (V1 ++ (U2 ++ (V2 ++ B))))) := by
    by_cases h1 : r < m
    · have h1' : (r : Int) < (m : Int) := by omega
      by_cases h2 : m < e
      · have h2' : (m : Int) < (e : Int) := by omega
        obtain ⟨L', q1, q2, q3⟩ := gRot_eq (L := A ++ (U ++ (V ++ B))) (a := r) (m := m) (b := e) (F := F) h1 h2 (by simp; omega) hl (by omega)
        have e0 : A ++ (U ++ (V ++ B)) = (A ++ U1) ++ (U2 ++ (V1 ++ (V2 ++ B))) := by rw [← hus, ← hvs]; simp
        have := rot_app (A := A ++ U1) (U := U2) (V := V1) (B := V2 ++ B) (L' := L') (m := m) (by simp; omega) (fun t => by rw [q3 t, e0, l2, l3])
        refine ⟨true, by simp only [h1', h2', decide_true, cond_true], ?_⟩
        simp only [cond_true, Option.bind_some, q1, this]
        simp
      · have h2' : ¬ (m : Int) < (e : Int) := by omega
        have : V1 = [] := List.eq_nil_of_length_eq_zero (by omega)
        refine ⟨false, by simp only [h1', h2', decide_true, cond_true, decide_false], ?_⟩
        rw [cond_false, ← hus, ← hvs, this]; simp
    · have h1' : ¬ (r : Int) < (m : Int) := by omega
      have : U2 = [] := List.eq_nil_of_length_eq_zero (by omega)
      refine ⟨false, by simp only [h1', decide_false, cond_false], ?_⟩
      rw [cond_false, ← hus, ← hvs, this]; simp
  obtain ⟨w1, M1, a1, a2, a3, a4⟩ := sym_part hr (A := A) (U := U1) (V := V1) (B := U2 ++ (V2 ++ B)) (a := a) (m := r) (b := mid) hA (by omega) (by omega) (by omega) (by rw [← hus, ← hvs] at hl; simp at hl ⊢; omega) (by omega) s1 s3 p1 p3
  have lM : M1.length = U1.length + V1.length := by rw [← a4.perm.length_eq]; simp
  obtain ⟨w2, M2, b1, b2, b3, b4⟩ := sym_part hr (A := A ++ M1) (U := U2) (V := V2) (B := B) (a := mid) (m := e) (b := b) (by simp; omega) (by omega) (by omega) (by omega) (by rw [← hus, ← hvs] at hl; simp at hl ⊢; omega) (by omega) s2 s4 p2 p4
  refine ⟨M1 ++ M2, ?_, ?_, ?_⟩
  · have e1 : A ++ (M1 ++ (U2 ++ (V2 ++ B))) = (A ++ M1) ++ (U2 ++ (V2 ++ B)) := by simp
    unfold gSymB
    simp only [hd1, hd2, decide_false, cond_false, hg, Option.bind_some, hw, hn, hst, oun, hp, k1, hend, hr1, hr2, a1, a2, b1]
    rw [e1]
    simp only [b2, Option.bind_some]
    simp
  · refine List.pairwise_append.2 ⟨a3, b3, fun x hx y hy => ?_⟩
    have hx := a4.perm.symm.subset hx
    have hy := b4.perm.symm.subset hy
    rcases List.mem_append.1 hx with hx | hx <;> rcases List.mem_append.1 hy with hy | hy
    · exact c1 x hx y hy
    · exact hi x hx y hy
    · have := hii y hy x hx; omega
    · exact c2 x hx y hy
  · rw [← hus, ← hvs]
    have e1 : U1 ++ U2 ++ (V1 ++ V2) = U1 ++ (U2 ++ V1) ++ V2 := by simp
    have e2 : U1 ++ (V1 ++ U2) ++ V2 = (U1 ++ V1) ++ (U2 ++ V2) := by simp
    rw [e1]
    refine Stab.trans (b := (U1 ++ V1) ++ (U2 ++ V2)) ?_ (a4.append b4)
    rw [← e2]
    exact ((Stab.refl U1).append (Stab.swap hii)).append (Stab.refl V2)
theorem gSym_eq (hc : ∀ x y, Pv x → Pv y → ∃ z, cmp x y = some z ∧ (z < 0 ↔ k x < k y)) : ∀ (F : Nat) (A U V B : List α) (a m b : Nat), A.length = a → a + U.length = m → m + V.length = b → 1 ≤ U.length → 1 ≤ V.length → b ≤ 1000000000 → (A ++ (U ++ (V ++ B))).length ≤ 1000000000000 → 2 * (b - a) + 4 ≤ F → Srt k U → Srt k V → (∀ z ∈ U, Pv z) → (∀ z ∈ V, Pv z) →
    ∃ M, gSym cmp F (A ++ (U ++ (V ++ B))) a m b = some (A ++ (M ++ B)) ∧ Srt k M ∧ Stab k (U ++ V) M
  | 0, _, _, _, _, _, _, _, _, _, _, _, _, _, _, h, _, _, _, _ => by omega
  | F + 1, A, U, V, B, a, m, b, hA, hU, hV, hu, hv, hb, hl, hF, su, sv, pu, pv => by
    by_cases h1 : U.length = 1
    · obtain ⟨x, rfl⟩ := List.length_eq_one_iff.1 h1
      have : m = a + 1 := by simp at hU; omega
      subst this
      exact gSym_one hc hA (by omega) hb (by omega) sv (pu x (by simp)) pv _
    · by_cases h2 : V.length = 1
      · obtain ⟨y, rfl⟩ := List.length_eq_one_iff.1 h2
        have : b = m + 1 := by simp at hV; omega
        subst this
        exact gSym_last hc hA hU (by omega) hb (by omega) su (pv y (by simp)) pu _
      · exact gSym_main (s := b - a - 1) hc (fun A U V B a m b hA hU hV hu hv hb hl hs su sv pu pv => gSym_eq hc F A U V B a m b hA hU hV hu hv hb hl (by omega) su sv pu pv) hA hU hV (by omega) (by omega) hb hl (by omega) (by omega) su sv pu pv
end
end Go.Proofs.YthpgjbbjpfiniaaGreat
