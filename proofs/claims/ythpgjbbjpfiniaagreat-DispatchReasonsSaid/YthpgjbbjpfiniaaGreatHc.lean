/- The stable sort of Go's library: the whole. Nothing of the program is named here. -/
import Derived.Test.YthpgjbbjpfiniaaGreatHb
namespace Go.Proofs.YthpgjbbjpfiniaaGreat
set_option linter.unusedSimpArgs false
set_option linter.unusedVariables false
set_option maxHeartbeats 1000000
section
variable {α : Type} {k : α → Int} {cmp : α → α → Option Int} {Pv : α → Prop}
def Blk (k : α → Int) (s : Nat) (l : List α) : Prop := ∀ i, Srt k ((l.drop (i * s)).take s)
theorem Blk.nil (s : Nat) : Blk k s [] := fun i => by simp [Srt]
theorem Blk.append {s q : Nat} {D M : List α} (h : Blk k s D) (hd : D.length = q * s) (hm : Srt k M) (hl : M.length ≤ s) : Blk k s (D ++ M) := fun i => by
  by_cases hi : i < q
  · have h1 : i * s + s ≤ q * s := by rw [← Nat.succ_mul]; exact Nat.mul_le_mul_right s hi
    rw [List.drop_append_of_le_length (by omega), List.take_append_of_le_length (by simp; omega)]
    exact h i
  · have h1 : q * s ≤ i * s := Nat.mul_le_mul_right s (by omega)
    have : (D ++ M).drop (i * s) = M.drop (i * s - D.length) := by rw [List.drop_append, List.drop_eq_nil_of_le (by omega), List.nil_append]
    rw [this]
    exact srt_take (srt_drop hm _) _
theorem Blk.drop {s : Nat} {R : List α} (h : Blk k s R) (j : Nat) : Blk k s (R.drop (j * s)) := fun i => by
  rw [List.drop_drop, ← Nat.add_mul]
  exact h _
theorem Blk.all {s : Nat} {R : List α} (h : Blk k s R) (hl : R.length ≤ s) : Srt k R := by
  have := h 0
  rwa [Nat.zero_mul, List.drop_zero, List.take_of_length_le hl] at this
theorem Stab.mem {l l' : List α} (h : Stab k l l') (hp : ∀ z ∈ l, Pv z) : ∀ z ∈ l', Pv z := fun z hz => hp z (h.perm.symm.subset hz)
theorem gSt_l1 (hc : ∀ x y, Pv x → Pv y → ∃ z, cmp x y = some z ∧ (z < 0 ↔ k x < k y)) {n F : Nat} (hn : n ≤ 100000000) (hF : n + 1 < F) : ∀ (r q : Nat) (D R : List α) (f : Nat), R.length < r → r < f → D.length = q * 20 → D.length + R.length = n → Blk k 20 D → (∀ z ∈ R, Pv z) →
    ∃ D' R' q', iter (gStL1 cmp F (n : Int)) f (D ++ R, (D.length : Int), ((D.length + 20 : Nat) : Int)) = some (D' ++ R', (D'.length : Int)) ∧ R'.length < 20 ∧ D'.length = q' * 20 ∧ D'.length + R'.length = n ∧ Blk k 20 D' ∧ (∀ z ∈ R', Pv z) ∧ Stab k (D ++ R) (D' ++ R')
  | _, _, _, _, 0, _, h, _, _, _, _ => by omega
  | 0, _, _, _, _, h, _, _, _, _, _ => by omega
  | r + 1, q, D, R, f + 1, hR, hf, hq, hl, hb, hp => by
    by_cases h : D.length + 20 ≤ n
    · have h' : ((D.length + 20 : Nat) : Int) ≤ (n : Int) := by omega
      have l1 : (R.take 20).length = 20 := by simp; omega
      obtain ⟨M, m1, m2, m3⟩ := gIns_eq (k := k) (B := R.drop 20) hc (a := D.length) (b := D.length + 20) (F := F) (A := D) (M := R.take 20) rfl (by omega) (by omega) (by omega) (fun z hz => hp z (List.mem_of_mem_take hz))
      have lM : M.length = 20 := by rw [← m3.perm.length_eq]; exact l1
      have e0 : D ++ R = D ++ R.take 20 ++ R.drop 20 := by simp
      have lD : (D ++ M).length = D.length + 20 := by simp; omega
      obtain ⟨D', R', q', k1, k2, k3, k4, k5, k6, k7⟩ := gSt_l1 hc hn hF r (q + 1) (D ++ M) (R.drop 20) f (by simp; omega) (by omega) (by omega) (by simp; omega) (hb.append hq m2 (by omega)) (fun z hz => hp z (List.mem_of_mem_drop hz))
      refine ⟨D', R', q', ?_, k2, k3, k4, k5, k6, Stab.trans ?_ k7⟩
      · have e1 : w64 (((D.length + 20 : Nat) : Int) + 20) = (((D ++ M).length + 20 : Nat) : Int) := by rw [lD]; exact wadd (b := 20) (by omega)
        rw [lD] at k1 e1
        rw [e0]
        simp only [iter, gStL1, oun, h', decide_true, cond_true, m1, Option.bind_some, osum, e1, k1]
      · conv => lhs; rw [e0]
        exact ((Stab.refl D).append m3).append (Stab.refl _)
    · have h' : ¬ ((D.length + 20 : Nat) : Int) ≤ (n : Int) := by omega
      refine ⟨D, R, q, ?_, by omega, hq, hl, hb, hp, Stab.refl _⟩
      simp only [iter, gStL1, oun, h', decide_false, cond_false, Option.bind_some, osum]
theorem gSt_l2 (hc : ∀ x y, Pv x → Pv y → ∃ z, cmp x y = some z ∧ (z < 0 ↔ k x < k y)) {n F s : Nat} (hn : n ≤ 100000000) (hF : 2 * n + 4 ≤ F) (hs : 1 ≤ s) (hs2 : s ≤ n) : ∀ (r q : Nat) (D R : List α) (f : Nat), R.length < r → r < f → D.length = q * (2 * s) → D.length + R.length = n → Blk k (2 * s) D → Blk k s R → (∀ z ∈ R, Pv z) →
    ∃ D' R' q', iter (gStL2 cmp F (n : Int) (s : Int)) f (D ++ R, (D.length : Int), ((D.length + 2 * s : Nat) : Int)) = some (D' ++ R', (D'.length : Int)) ∧ R'.length < 2 * s ∧ D'.length = q' * (2 * s) ∧ D'.length + R'.length = n ∧ Blk k (2 * s) D' ∧ Blk k s R' ∧ (∀ z ∈ R', Pv z) ∧ Stab k (D ++ R) (D' ++ R')
  | _, _, _, _, 0, _, h, _, _, _, _, _ => by omega
  | 0, _, _, _, _, h, _, _, _, _, _, _ => by omega
  | r + 1, q, D, R, f + 1, hR, hf, hq, hl, hb, hb2, hp => by
    have e2 : w64 (2 * (s : Int)) = ((2 * s : Nat) : Int) := by rw [w64_eq (by omega) (by omega)]; omega
    by_cases h : D.length + 2 * s ≤ n
    · have h' : ((D.length + 2 * s : Nat) : Int) ≤ (n : Int) := by omega
      have l1 : (R.take s).length = s := by simp; omega
      have l2 : ((R.drop s).take s).length = s := by simp; omega
      have e0 : R = R.take s ++ ((R.drop s).take s ++ R.drop (2 * s)) := by
        rw [show 2 * s = s + s by omega, ← List.drop_drop, List.take_append_drop, List.take_append_drop]
      have s1 : Srt k (R.take s) := by have := hb2 0; rwa [Nat.zero_mul, List.drop_zero] at this
      have s2 : Srt k ((R.drop s).take s) := by have := hb2 1; rwa [Nat.one_mul] at this
      obtain ⟨M, m1, m2, m3⟩ := gSym_eq (k := k) hc F D (R.take s) ((R.drop s).take s) (R.drop (2 * s)) D.length (D.length + s) (D.length + 2 * s) rfl (by omega) (by omega) (by omega) (by omega) (by omega) (by simp; omega) (by omega) s1 s2 (fun z hz => hp z (List.mem_of_mem_take hz)) (fun z hz => hp z (List.mem_of_mem_drop (List.mem_of_mem_take hz)))
      rw [← e0] at m1
      have lM : M.length = 2 * s := by rw [← m3.perm.length_eq]; simp; omega
      have lD : (D ++ M).length = D.length + 2 * s := by simp; omega
      obtain ⟨D', R', q', k1, k2, k3, k4, k5, k6, k7, k8⟩ := gSt_l2 hc hn hF hs hs2 r (q + 1) (D ++ M) (R.drop (2 * s)) f (by simp; omega) (by omega) (by rw [lD, Nat.add_mul q 1 (2 * s), Nat.one_mul]; omega) (by simp; omega) (hb.append hq m2 (by omega)) (hb2.drop 2) (fun z hz => hp z (List.mem_of_mem_drop hz))
      refine ⟨D', R', q', ?_, k2, k3, k4, k5, k6, k7, Stab.trans ?_ k8⟩
      · have e1 : w64 (((D.length + 2 * s : Nat) : Int) + ((2 * s : Nat) : Int)) = (((D.length + 2 * s) + 2 * s : Nat) : Int) := wadd (by omega)
        have e3 : w64 ((D.length : Int) + (s : Int)) = ((D.length + s : Nat) : Int) := wadd (by omega)
        rw [lD, List.append_assoc] at k1
        simp only [iter, gStL2, oun, h', decide_true, cond_true, e3, m1, Option.bind_some, osum, e2, e1, k1]
      · conv => lhs; rw [e0]
        rw [List.append_assoc, ← List.append_assoc (R.take s)]
        exact (Stab.refl D).append (m3.append (Stab.refl _))
    · have h' : ¬ ((D.length + 2 * s : Nat) : Int) ≤ (n : Int) := by omega
      refine ⟨D, R, q, ?_, by omega, hq, hl, hb, hb2, hp, Stab.refl _⟩
      simp only [iter, gStL2, oun, h', decide_false, cond_false, Option.bind_some, osum]
theorem gSt_l3 (hc : ∀ x y, Pv x → Pv y → ∃ z, cmp x y = some z ∧ (z < 0 ↔ k x < k y)) {n F : Nat} (hn : n ≤ 100000000) (hF : 2 * n + 4 ≤ F) : ∀ (r s : Nat) (L : List α) (f : Nat), n < s + r → r < f → 1 ≤ s → s ≤ 2 * n + 20 → L.length = n → Blk k s L → (∀ z ∈ L, Pv z) →
    ∃ L', iter (gStL3 cmp F (n : Int)) f (L, (s : Int)) = some L' ∧ Srt k L' ∧ Stab k L L'
  | _, _, _, 0, _, h, _, _, _, _, _ => by omega
  | r, s, L, f + 1, hr, hf, hs, hs2, hl, hb, hp => by
    by_cases h : s < n
    · cases r with
      | zero => omega
      | succ r =>
      have h' : (s : Int) < (n : Int) := by omega
      obtain ⟨D, R, q, k1, k2, k3, k4, k5, k6, k7, k8⟩ := gSt_l2 (k := k) hc hn hF hs (by omega) (L.length + 1) 0 [] L F (by omega) (by omega) (by simp) (by simpa using hl) (Blk.nil _) hb hp
      simp only [List.nil_append, List.length_nil, Nat.zero_add] at k1 k8
      rw [show ((0 : Nat) : Int) = 0 from rfl] at k1
      have e2 : w64 (2 * (s : Int)) = ((2 * s : Nat) : Int) := by rw [w64_eq (by omega) (by omega)]; omega
      have e3 : w64 ((D.length : Int) + (s : Int)) = ((D.length + s : Nat) : Int) := wadd (by omega)
      have e4 : w64 ((s : Int) * 2) = ((2 * s : Nat) : Int) := by rw [w64_eq (by omega) (by omega)]; omega
      obtain ⟨M, m1, m2, m3⟩ : ∃ M, (bif (decide (((D.length + s : Nat) : Int) < (n : Int))) then
          Option.bind (gSym cmp F (D ++ R) D.length ((D.length + s : Nat) : Int) n) fun r4 => some r4 else some (D ++ R)) = some (D ++ M) ∧ Srt k M ∧ Stab k R M := by
        by_cases h2 : D.length + s < n
        · have h2' : ((D.length + s : Nat) : Int) < (n : Int) := by omega
          have e0 : R = R.take s ++ (R.drop s ++ []) := by simp
          have s1 : Srt k (R.take s) := by have := k6 0; rwa [Nat.zero_mul, List.drop_zero] at this
          have s2 : Srt k (R.drop s) := Blk.all (s := s) (by have h := k6.drop 1; rw [Nat.one_mul] at h; exact h) (by simp; omega)
          obtain ⟨M, m1, m2, m3⟩ := gSym_eq (k := k) hc F D (R.take s) (R.drop s) [] D.length (D.length + s) n rfl (by simp; omega) (by simp; omega) (by simp; omega) (by simp; omega) (by omega) (by simp; omega) (by omega) s1 s2 (fun z hz => k7 z (List.mem_of_mem_take hz)) (fun z hz => k7 z (List.mem_of_mem_drop hz))
          rw [← e0, List.append_nil] at m1
          refine ⟨M, ?_, m2, by rw [List.take_append_drop] at m3; exact m3⟩
          simp only [h2', decide_true, cond_true, m1, Option.bind_some]
        · have h2' : ¬ ((D.length + s : Nat) : Int) < (n : Int) := by omega
          exact ⟨R, by simp only [h2', decide_false, cond_false], k6.all (by omega), Stab.refl _⟩
      have st : Stab k L (D ++ M) := k8.trans ((Stab.refl D).append m3)
      have lM : M.length = R.length := m3.perm.length_eq.symm
      obtain ⟨L', j1, j2, j3⟩ := gSt_l3 hc hn hF r (2 * s) (D ++ M) f (by omega) (by omega) (by omega) (by omega) (by simp; omega) (k5.append k3 m2 (by omega)) (st.mem hp)
      refine ⟨L', ?_, j2, st.trans j3⟩
      simp only [iter, gStL3, oun, h', decide_true, cond_true, e2, k1, Option.bind_some, e3, m1, osum, e4, j1]
    · have h' : ¬ (s : Int) < (n : Int) := by omega
      refine ⟨L, ?_, hb.all (by omega), Stab.refl _⟩
      simp only [iter, gStL3, oun, h', decide_false, cond_false, Option.bind_some, osum]
theorem gSort_eq (hc : ∀ x y, Pv x → Pv y → ∃ z, cmp x y = some z ∧ (z < 0 ↔ k x < k y)) {F : Nat} {L : List α} (hn : L.length ≤ 100000000) (hF : 2 * L.length + 30 ≤ F) (hp : ∀ z ∈ L, Pv z) :
    ∃ L', gSort cmp F L = some L' ∧ Srt k L' ∧ Stab k L L' := by
  obtain ⟨D, R, q, k1, k2, k3, k4, k5, k6, k7⟩ := gSt_l1 (k := k) hc (n := L.length) (F := F) hn (by omega) (L.length + 1) 0 [] L F (by omega) (by omega) (by simp) (by simp) (Blk.nil _) hp
  simp only [List.nil_append, List.length_nil, Nat.zero_add] at k1 k7
  obtain ⟨M, m1, m2, m3⟩ := gIns_eq (k := k) (B := []) hc (a := D.length) (b := L.length) (F := F) (A := D) (M := R) rfl (by omega) (by omega) (by omega) k6
  rw [List.append_nil, List.append_nil] at m1
  have st : Stab k L (D ++ M) := k7.trans ((Stab.refl D).append m3)
  have lM : M.length = R.length := m3.perm.length_eq.symm
  obtain ⟨L', j1, j2, j3⟩ := gSt_l3 (k := k) hc (n := L.length) (F := F) hn (by omega) (L.length + 1) 20 (D ++ M) F (by omega) (by omega) (by omega) (by omega) (by simp; omega) (k5.append k3 m2 (by omega)) (st.mem hp)
  refine ⟨L', ?_, j2, st.trans j3⟩
  have z1 : ((0 : Nat) : Int) = 0 := rfl
  have z2 : ((20 : Nat) : Int) = 20 := rfl
  rw [z1, z2] at k1
  rw [z2] at j1
  unfold gSort gSt
  simp only [k1, oun, Option.bind_some, m1, j1]
end
end Go.Proofs.YthpgjbbjpfiniaaGreat
