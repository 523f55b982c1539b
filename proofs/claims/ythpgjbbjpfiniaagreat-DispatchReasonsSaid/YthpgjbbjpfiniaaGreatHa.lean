/- The stable sort of Go's library, as it is printed for any type: what it computes. Nothing of the program is named here. -/
import Derived.Test.YthpgjbbjpfiniaaGreatGq
namespace Go.Proofs.YthpgjbbjpfiniaaGreat
set_option linter.unusedSimpArgs false
set_option linter.unusedVariables false
section
variable {α : Type}
def gInsL1 (cmp : α → α → Option Int) (a1 : Int) (j_ : (List α) × Int) : Option (((List α) × Int) ⊕ ((List α))) :=
  oun j_ fun data3 j1 =>
  Option.bind (
    bif (decide (a1 < j1)) then
      Option.bind (getI data3 j1) fun x1 =>
      Option.bind (getI data3 (w64 (j1 - 1))) fun x2 =>
      Option.bind (cmp x1 x2) fun r1 =>
      some (decide (r1 < 0))
    else
      some false) (fun v1 =>
    bif v1 then
      Option.bind (
        Option.bind (getI data3 (w64 (j1 - 1))) fun x3 =>
        Option.bind (getI data3 j1) fun x4 =>
        Option.bind (getI data3 j1) fun x5 =>
        Option.bind (getI (setI data3 j1 x3) (w64 (j1 - 1))) fun x6 =>
        some (setI (setI data3 j1 x3) (w64 (j1 - 1)) x4)) (fun data4 =>
        some (.inl (data4, w64 (j1 - 1))))
    else
      some (.inr data3))
def gInsL2 (cmp : α → α → Option Int) (F : Nat) (a1 : Int) (b1 : Int) (j_ : (List α) × Int) : Option (((List α) × Int) ⊕ ((List α))) :=
  oun j_ fun data2 i1 =>
  bif (decide (i1 < b1)) then
    Option.bind (
      Option.bind (
        iter (gInsL1 cmp a1) F (data2, i1)) (fun data5 =>
        some data5)) (fun data6 =>
      some (.inl (data6, w64 (i1 + 1))))
  else
    some (.inr data2)
def gIns (cmp : α → α → Option Int) (F : Nat) (data1 : (List α)) (a1 : Int) (b1 : Int) : Option ((List α)) :=
  Option.bind (
    iter (gInsL2 cmp F a1 b1) F (data1, w64 (a1 + 1))) (fun data7 =>
    some data7)
def gSwL1 (a1 : Int) (b1 : Int) (n2 : Int) (j_ : (List α) × Int) : Option (((List α) × Int) ⊕ ((List α))) :=
  oun j_ fun data2 i1 =>
  bif (decide (i1 < n2)) then
    Option.bind (
      Option.bind (getI data2 (w64 (b1 + i1))) fun x1 =>
      Option.bind (getI data2 (w64 (a1 + i1))) fun x2 =>
      Option.bind (getI data2 (w64 (a1 + i1))) fun x3 =>
      Option.bind (getI (setI data2 (w64 (a1 + i1)) x1) (w64 (b1 + i1))) fun x4 =>
      some (setI (setI data2 (w64 (a1 + i1)) x1) (w64 (b1 + i1)) x2)) (fun data3 =>
      some (.inl (data3, w64 (i1 + 1))))
  else
    some (.inr data2)
def gSw (data1 : (List α)) (a1 : Int) (b1 : Int) (n2 : Int) : Option ((List α)) :=
  Option.bind (
    iter (gSwL1 a1 b1 n2) (n2.toNat + 1) (data1, 0)) (fun data4 =>
    some data4)
def gRotL1 (m1 : Int) (j_ : (List α) × Int × Int) : Option (((List α) × Int × Int) ⊕ (((List α) × Int))) :=
  oun j_ fun data2 j_ => oun j_ fun i1 j1 =>
  bif (!(decide (i1 = j1))) then
    bif (decide (j1 < i1)) then
      Option.bind (gSw data2 (w64 (m1 - i1)) m1 j1) fun r1 =>
      some (.inl (r1, w64 (i1 - j1), j1))
    else
      Option.bind (gSw data2 (w64 (m1 - i1)) (w64 ((w64 (m1 + j1)) - i1)) i1) fun r2 =>
      some (.inl (r2, i1, w64 (j1 - i1)))
  else
    some (.inr (data2, i1))
def gRot (F : Nat) (data1 : (List α)) (a1 : Int) (m1 : Int) (b1 : Int) : Option ((List α)) :=
  Option.bind (
    iter (gRotL1 m1) F (data1, w64 (m1 - a1), w64 (b1 - m1))) (fun j_ => oun j_ fun data3 i2 =>
    Option.bind (gSw data3 (w64 (m1 - i2)) m1 i2) fun r3 =>
    some r3)
def gSymL1 (cmp : α → α → Option Int) (data1 : (List α)) (a1 : Int) (j_ : Int × Int) : Option ((Int × Int) ⊕ (Int)) :=
  oun j_ fun i1 j1 =>
  bif (decide (i1 < j1)) then
    Option.bind (guardO (0 ≤ 1 ∧ 1 ≤ 64)) fun _ =>
    Option.bind (getI data1 (w64 ((IntKind.u64.wrap (w64 (i1 + j1))) / 2 ^ (1 : Int).toNat))) fun x1 =>
    Option.bind (getI data1 a1) fun x2 =>
    Option.bind (cmp x1 x2) fun r1 =>
    bif (decide (r1 < 0)) then
      some (.inl (w64 ((w64 ((IntKind.u64.wrap (w64 (i1 + j1))) / 2 ^ (1 : Int).toNat)) + 1), j1))
    else
      some (.inl (i1, w64 ((IntKind.u64.wrap (w64 (i1 + j1))) / 2 ^ (1 : Int).toNat)))
  else
    some (.inr i1)
def gSymL2 (cmp : α → α → Option Int) (i2 : Int) (j_ : (List α) × Int) : Option (((List α) × Int) ⊕ ((List α))) :=
  oun j_ fun data2 k1 =>
  bif (decide (k1 < (w64 (i2 - 1)))) then
    Option.bind (
      Option.bind (getI data2 (w64 (k1 + 1))) fun x3 =>
      Option.bind (getI data2 k1) fun x4 =>
      Option.bind (getI data2 k1) fun x5 =>
      Option.bind (getI (setI data2 k1 x3) (w64 (k1 + 1))) fun x6 =>
      some (setI (setI data2 k1 x3) (w64 (k1 + 1)) x4)) (fun data3 =>
      some (.inl (data3, w64 (k1 + 1))))
  else
    some (.inr data2)
def gSymL3 (cmp : α → α → Option Int) (data1 : (List α)) (m1 : Int) (j_ : Int × Int) : Option ((Int × Int) ⊕ (Int)) :=
  oun j_ fun i3 j2 =>
  bif (decide (i3 < j2)) then
    Option.bind (guardO (0 ≤ 1 ∧ 1 ≤ 64)) fun _ =>
    Option.bind (getI data1 m1) fun x7 =>
    Option.bind (getI data1 (w64 ((IntKind.u64.wrap (w64 (i3 + j2))) / 2 ^ (1 : Int).toNat))) fun x8 =>
    Option.bind (cmp x7 x8) fun r2 =>
    bif (!(decide (r2 < 0))) then
      some (.inl (w64 ((w64 ((IntKind.u64.wrap (w64 (i3 + j2))) / 2 ^ (1 : Int).toNat)) + 1), j2))
    else
      some (.inl (i3, w64 ((IntKind.u64.wrap (w64 (i3 + j2))) / 2 ^ (1 : Int).toNat)))
  else
    some (.inr i3)
def gSymL4 (cmp : α → α → Option Int) (i4 : Int) (j_ : (List α) × Int) : Option (((List α) × Int) ⊕ ((List α))) :=
  oun j_ fun data5 k2 =>
  bif (decide (i4 < k2)) then
    Option.bind (
      Option.bind (getI data5 (w64 (k2 - 1))) fun x9 =>
      Option.bind (getI data5 k2) fun x10 =>
      Option.bind (getI data5 k2) fun x11 =>
      Option.bind (getI (setI data5 k2 x9) (w64 (k2 - 1))) fun x12 =>
      some (setI (setI data5 k2 x9) (w64 (k2 - 1)) x10)) (fun data6 =>
      some (.inl (data6, w64 (k2 - 1))))
  else
    some (.inr data5)
def gSymL5 (cmp : α → α → Option Int) (data1 : (List α)) (j_ : Int × Int × Int) : Option ((Int × Int × Int) ⊕ (Int)) :=
  oun j_ fun start2 j_ => oun j_ fun r4 p1 =>
  bif (decide (start2 < r4)) then
    Option.bind (guardO (0 ≤ 1 ∧ 1 ≤ 64)) fun _ =>
    Option.bind (getI data1 (w64 (p1 - (w64 ((IntKind.u64.wrap (w64 (start2 + r4))) / 2 ^ (1 : Int).toNat))))) fun x13 =>
    Option.bind (getI data1 (w64 ((IntKind.u64.wrap (w64 (start2 + r4))) / 2 ^ (1 : Int).toNat))) fun x14 =>
    Option.bind (cmp x13 x14) fun r5 =>
    bif (!(decide (r5 < 0))) then
      some (.inl (w64 ((w64 ((IntKind.u64.wrap (w64 (start2 + r4))) / 2 ^ (1 : Int).toNat)) + 1), r4, p1))
    else
      some (.inl (start2, w64 ((IntKind.u64.wrap (w64 (start2 + r4))) / 2 ^ (1 : Int).toNat), p1))
  else
    some (.inr start2)
def gSymB (cmp : α → α → Option Int) (rec_ : (List α) → Int → Int → Int → Option ((List α))) (F : Nat) (data1 : (List α)) (a1 : Int) (m1 : Int) (b1 : Int) : Option ((List α)) :=
  bif (decide ((w64 (m1 - a1)) = 1)) then
    Option.bind (
      iter (gSymL1 cmp data1 a1) F (m1, b1)) (fun i2 =>
      Option.bind (
        iter (gSymL2 cmp i2) F (data1, a1)) (fun data4 =>
        some data4))
  else
    bif (decide ((w64 (b1 - m1)) = 1)) then
      Option.bind (
        iter (gSymL3 cmp data1 m1) F (a1, m1)) (fun i4 =>
        Option.bind (
          iter (gSymL4 cmp i4) F (data1, m1)) (fun data7 =>
          some data7))
    else
      Option.bind (guardO (0 ≤ 1 ∧ 1 ≤ 64)) fun _ =>
      Option.bind (
        bif (decide ((w64 ((IntKind.u64.wrap (w64 (a1 + b1))) / 2 ^ (1 : Int).toNat)) < m1)) then
          some (w64 ((IntKind.u64.wrap (w64 (a1 + b1))) / 2 ^ (1 : Int).toNat), w64 ((w64 ((IntKind.u64.wrap (w64 (a1 + b1))) / 2 ^ (1 : Int).toNat)) + m1), w64 ((w64 ((w64 ((IntKind.u64.wrap (w64 (a1 + b1))) / 2 ^ (1 : Int).toNat)) + m1)) - b1), w64 ((IntKind.u64.wrap (w64 (a1 + b1))) / 2 ^ (1 : Int).toNat))
        else
          some (w64 ((IntKind.u64.wrap (w64 (a1 + b1))) / 2 ^ (1 : Int).toNat), w64 ((w64 ((IntKind.u64.wrap (w64 (a1 + b1))) / 2 ^ (1 : Int).toNat)) + m1), a1, m1)) (fun j_ => oun j_ fun mid1 j_ => oun j_ fun n2 j_ => oun j_ fun start1 r3 =>
        Option.bind (
          iter (gSymL5 cmp data1) F (start1, r3, w64 (n2 - 1))) (fun start3 =>
          Option.bind (
            bif (decide (start3 < m1)) then
              some (w64 (n2 - start3), (decide (m1 < (w64 (n2 - start3)))))
            else
              some (w64 (n2 - start3), false)) (fun j_ => oun j_ fun f_end1 v1 =>
            Option.bind (
              bif v1 then
                Option.bind (gRot F data1 start3 m1 f_end1) fun r6 =>
                some r6
              else
                some data1) (fun data8 =>
              Option.bind (
                bif (decide (a1 < start3)) then
                  some (decide (start3 < mid1))
                else
                  some false) (fun v2 =>
                Option.bind (
                  bif v2 then
                    Option.bind (rec_ data8 a1 start3 mid1) fun r7 =>
                    some r7
                  else
                    some data8) (fun data9 =>
                  Option.bind (
                    bif (decide (mid1 < f_end1)) then
                      some (decide (f_end1 < b1))
                    else
                      some false) (fun v3 =>
                    Option.bind (
                      bif v3 then
                        Option.bind (rec_ data9 mid1 f_end1 b1) fun r8 =>
                        some r8
                      else
                        some data9) (fun data10 =>
                      some data10))))))))
def gSym (cmp : α → α → Option Int) : Nat → (List α) → Int → Int → Int → Option ((List α))
  | 0, _, _, _, _ => none
  | F + 1, data1, a1, m1, b1 => gSymB cmp (gSym cmp F) F data1 a1 m1 b1
def gStL1 (cmp : α → α → Option Int) (F : Nat) (n2 : Int) (j_ : (List α) × Int × Int) : Option (((List α) × Int × Int) ⊕ (((List α) × Int))) :=
  oun j_ fun data2 j_ => oun j_ fun a1 b1 =>
  bif (decide (b1 ≤ n2)) then
    Option.bind (gIns cmp F data2 a1 b1) fun r1 =>
    some (.inl (r1, b1, w64 (b1 + 20)))
  else
    some (.inr (data2, a1))
def gStL2 (cmp : α → α → Option Int) (F : Nat) (n2 : Int) (blockSize1 : Int) (j_ : (List α) × Int × Int) : Option (((List α) × Int × Int) ⊕ (((List α) × Int))) :=
  oun j_ fun data5 j_ => oun j_ fun a3 b2 =>
  bif (decide (b2 ≤ n2)) then
    Option.bind (gSym cmp F data5 a3 (w64 (a3 + blockSize1)) b2) fun r3 =>
    some (.inl (r3, b2, w64 (b2 + (w64 (2 * blockSize1)))))
  else
    some (.inr (data5, a3))
def gStL3 (cmp : α → α → Option Int) (F : Nat) (n2 : Int) (j_ : (List α) × Int) : Option (((List α) × Int) ⊕ ((List α))) :=
  oun j_ fun data4 blockSize1 =>
  bif (decide (blockSize1 < n2)) then
    Option.bind (
      iter (gStL2 cmp F n2 blockSize1) F (data4, 0, w64 (2 * blockSize1))) (fun j_ => oun j_ fun data6 a4 =>
      Option.bind (
        bif (decide ((w64 (a4 + blockSize1)) < n2)) then
          Option.bind (gSym cmp F data6 a4 (w64 (a4 + blockSize1)) n2) fun r4 =>
          some r4
        else
          some data6) (fun data7 =>
        some (.inl (data7, w64 (blockSize1 * 2)))))
  else
    some (.inr data4)
def gSt (cmp : α → α → Option Int) (F : Nat) (data1 : (List α)) (n2 : Int) : Option ((List α)) :=
  Option.bind (
    iter (gStL1 cmp F n2) F (data1, 0, 20)) (fun j_ => oun j_ fun data3 a2 =>
    Option.bind (gIns cmp F data3 a2 n2) fun r2 =>
    Option.bind (
      iter (gStL3 cmp F n2) F (r2, 20)) (fun data8 =>
      some data8))
def gSort (cmp : α → α → Option Int) (F : Nat) (x1 : (List α)) : Option ((List α)) :=
  Option.bind (gSt cmp F x1 ((x1.length : Nat) : Int)) fun r1 =>
  some r1
theorem wadd {a b : Nat} (h : a + b ≤ 1000000000000000) : w64 ((a : Int) + (b : Int)) = ((a + b : Nat) : Int) := by rw [w64_eq (by omega) (by omega)]; omega
theorem wsub {a b : Nat} (h : b ≤ a) (h2 : a ≤ 1000000000000000) : w64 ((a : Int) - (b : Int)) = ((a - b : Nat) : Int) := by rw [w64_eq (by omega) (by omega)]; omega
theorem wsub1 {a : Nat} (h : 1 ≤ a) (h2 : a ≤ 1000000000000000) : w64 ((a : Int) - 1) = ((a - 1 : Nat) : Int) := wsub (b := 1) h h2
theorem wadd1 {a : Nat} (h2 : a ≤ 1000000000000) : w64 ((a : Int) + 1) = ((a + 1 : Nat) : Int) := wadd (b := 1) (by omega)
theorem whalf {i j : Nat} (h : i + j ≤ 1000000000000000) : w64 ((IntKind.u64.wrap (w64 ((i : Int) + (j : Int)))) / 2 ^ (1 : Int).toNat) = (((i + j) / 2 : Nat) : Int) := by
  rw [wadd h]
  have h1 : IntKind.u64.wrap ((i + j : Nat) : Int) = ((i + j : Nat) : Int) := by simp [IntKind.wrap, IntKind.bits, IntKind.signed]; omega
  rw [h1]
  have h2 : (2 : Int) ^ (1 : Int).toNat = 2 := rfl
  rw [h2, w64_eq (by omega) (by omega)]
  omega
theorem get_of_lt {L : List α} {i : Nat} (h : i < L.length) : ∃ x, L[i]? = some x := ⟨L[i], by simp [h]⟩
theorem setI_nat (L : List α) (i : Nat) (x : α) : setI L (i : Int) x = L.set i x := by simp [setI]
theorem swap_get {L : List α} {i j : Nat} {x y : α} (hx : L[i]? = some x) (hy : L[j]? = some y) (t : Nat) : ((L.set i y).set j x)[t]? = if t = j then L[i]? else if t = i then L[j]? else L[t]? := by
  have hi := lt_of_get hx
  have hj := lt_of_get hy
  by_cases h1 : t = j
  · subst h1; rw [if_pos rfl]; simp [hj, hx]
  · by_cases h2 : t = i
    · subst h2; rw [if_neg h1, if_pos rfl, List.getElem?_set_ne (fun h => h1 h.symm), hy]; simp [hi]
    · rw [if_neg h1, if_neg h2, List.getElem?_set_ne (fun h => h1 h.symm), List.getElem?_set_ne (fun h => h2 h.symm)]
def swF (L : List α) (a b n t : Nat) : Option α := if a ≤ t ∧ t < a + n then L[t - a + b]? else if b ≤ t ∧ t < b + n then L[t - b + a]? else L[t]?
theorem gSw_loop {L : List α} {a b n : Nat} (h1 : a + n ≤ b) (h2 : b + n ≤ L.length) (hs : L.length ≤ 1000000000000) : ∀ (r i : Nat) (M : List α) (f : Nat), i + r = n → r < f → M.length = L.length → (∀ t, M[t]? = swF L a b i t) →
    ∃ L', iter (gSwL1 (α := α) a b n) f (M, (i : Int)) = some L' ∧ L'.length = L.length ∧ ∀ t, L'[t]? = swF L a b n t
  | _, _, _, 0, _, h, _, _ => by omega
  | 0, i, M, f + 1, hi, _, hl, hM => by
    have : i = n := by omega
    subst this
    refine ⟨M, ?_, hl, hM⟩
    simp only [iter, gSwL1, oun, Int.lt_irrefl, decide_false, cond_false, Option.bind_some, osum]
  | r + 1, i, M, f + 1, hi, hf, hl, hM => by
    obtain ⟨x, hx⟩ := get_of_lt (L := M) (i := b + i) (by omega)
    obtain ⟨y, hy⟩ := get_of_lt (L := M) (i := a + i) (by omega)
    have hlt : ((i : Nat) : Int) < (n : Nat) := by omega
    have e1 : w64 ((b : Int) + (i : Int)) = ((b + i : Nat) : Int) := wadd (by omega)
    have e2 : w64 ((a : Int) + (i : Int)) = ((a + i : Nat) : Int) := wadd (by omega)
    have e3 : w64 ((i : Int) + 1) = ((i + 1 : Nat) : Int) := wadd1 (by omega)
    have e4 : (M.set (a + i) x)[b + i]? = some x := by rw [List.getElem?_set, if_neg (by omega)]; exact hx
    have key := gSw_loop h1 h2 hs r (i + 1) ((M.set (a + i) x).set (b + i) y) f (by omega) (by omega) (by simpa using hl) (fun t => by
      rw [swap_get hy hx t, hM t, hM (a + i), hM (b + i)]
      unfold swF
      repeat' split
      all_goals first | omega | rfl | (congr 1; omega))
    obtain ⟨L', k1, k2, k3⟩ := key
    refine ⟨L', ?_, k2, k3⟩
    rw [← k1]
    simp only [iter, gSwL1, oun, hlt, decide_true, cond_true, e1, e2, e3, getI_nat, setI_nat, hx, hy, e4, Option.bind_some, osum]
theorem gSw_eq {L : List α} {a b n : Nat} (h1 : a + n ≤ b) (h2 : b + n ≤ L.length) (hs : L.length ≤ 1000000000000) : ∃ L', gSw L a b n = some L' ∧ L'.length = L.length ∧ ∀ t, L'[t]? = swF L a b n t := by
  obtain ⟨L', k1, k2, k3⟩ := gSw_loop h1 h2 hs n 0 L ((n : Int).toNat + 1) (by omega) (by omega) rfl (fun t => by unfold swF; rw [if_neg (by omega), if_neg (by omega)])
  refine ⟨L', ?_, k2, k3⟩
  unfold gSw
  rw [show ((0 : Nat) : Int) = 0 from rfl] at k1
  rw [k1]; rfl
def rotF (L : List α) (m i j t : Nat) : Option α := if m - i ≤ t ∧ t < m + j then (if t < m - i + j then L[t + i]? else L[t - j]?) else L[t]?
theorem gRot_loop {m : Nat} : ∀ (s i j : Nat) (L : List α) (f : Nat), i + j ≤ s → s < f → 1 ≤ i → 1 ≤ j → i ≤ m → m + j ≤ L.length → L.length ≤ 1000000000000 →
    ∃ (M : List α) (d : Nat), iter (gRotL1 (α := α) m) f (L, (i : Int), (j : Int)) = some (M, (d : Int)) ∧ M.length = L.length ∧ 1 ≤ d ∧ d ≤ i ∧ d ≤ j ∧ ∀ (L' : List α), L'.length = L.length → (∀ t, L'[t]? = swF M (m - d) m d t) → ∀ t, L'[t]? = rotF L m i j t
  | _, _, _, _, 0, _, h, _, _, _, _, _ => by omega
  | 0, i, j, _, _, h, _, _, _, _, _, _ => by omega
  | s + 1, i, j, L, f + 1, hs, hf, hi, hj, him, hjl, hl => by
    by_cases hij : i = j
    · subst hij
      refine ⟨L, i, ?_, rfl, hi, Nat.le_refl _, Nat.le_refl _, fun L' _ h t => ?_⟩
      · simp only [iter, gRotL1, oun, decide_true, Bool.not_true, cond_false, Option.bind_some, osum]
      · rw [h t]
        unfold swF rotF
        repeat' split
        all_goals first | omega | rfl | (congr 1; omega)
    · have hne : ¬ ((i : Int) = (j : Int)) := by omega
      by_cases hlt : j < i
      · have hlt' : ((j : Nat) : Int) < (i : Nat) := by omega
        obtain ⟨L1, k1, k2, k3⟩ := gSw_eq (L := L) (a := m - i) (b := m) (n := j) (by omega) (by omega) hl
        obtain ⟨M, d, q1, q2, q3, q4, q5, q6⟩ := gRot_loop (m := m) s (i - j) j L1 f (by omega) (by omega) (by omega) hj (by omega) (by omega) (by omega)
        refine ⟨M, d, ?_, by omega, q3, by omega, q5, fun L' hL' h t => ?_⟩
        · rw [← q1]
          simp only [iter, gRotL1, oun, hne, hlt', decide_false, decide_true, Bool.not_false, cond_true, wsub him (by omega : m ≤ 1000000000000000), k1, wsub (Nat.le_of_lt hlt) (by omega : i ≤ 1000000000000000), Option.bind_some, osum]
        · rw [q6 L' (by omega) h t]
          unfold rotF
          simp only [k3]
          unfold swF
          repeat' split
          all_goals first | omega | rfl | (congr 1; omega)
      · have hlt' : ¬ (((j : Nat) : Int) < (i : Nat)) := by omega
        obtain ⟨L1, k1, k2, k3⟩ := gSw_eq (L := L) (a := m - i) (b := m + j - i) (n := i) (by omega) (by omega) hl
        obtain ⟨M, d, q1, q2, q3, q4, q5, q6⟩ := gRot_loop (m := m) s i (j - i) L1 f (by omega) (by omega) hi (by omega) him (by omega) (by omega)
        refine ⟨M, d, ?_, by omega, q3, q4, by omega, fun L' hL' h t => ?_⟩
        · rw [← q1]
          simp only [iter, gRotL1, oun, hne, hlt', decide_false, decide_true, Bool.not_false, cond_true, cond_false, wsub him (by omega : m ≤ 1000000000000000), wadd (by omega : m + j ≤ 1000000000000000), wsub (by omega : i ≤ m + j) (by omega : m + j ≤ 1000000000000000), k1, wsub (by omega : i ≤ j) (by omega : j ≤ 1000000000000000), Option.bind_some, osum]
        · rw [q6 L' (by omega) h t]
          unfold rotF
          simp only [k3]
          unfold swF
          repeat' split
          all_goals first | omega | rfl | (congr 1; omega)
theorem gRot_eq {L : List α} {a m b F : Nat} (h1 : a < m) (h2 : m < b) (h3 : b ≤ L.length) (hs : L.length ≤ 1000000000000) (hF : b - a < F) : ∃ L', gRot F L a m b = some L' ∧ L'.length = L.length ∧ ∀ t, L'[t]? = rotF L m (m - a) (b - m) t := by
  obtain ⟨M, d, q1, q2, q3, q4, q5, q6⟩ := gRot_loop (m := m) (b - a) (m - a) (b - m) L F (by omega) hF (by omega) (by omega) (by omega) (by omega) hs
  obtain ⟨L', k1, k2, k3⟩ := gSw_eq (L := M) (a := m - d) (b := m) (n := d) (by omega) (by omega) (by omega)
  refine ⟨L', ?_, by omega, q6 L' (by omega) k3⟩
  unfold gRot
  simp only [wsub (Nat.le_of_lt h1) (by omega : m ≤ 1000000000000000), wsub (Nat.le_of_lt h2) (by omega : b ≤ 1000000000000000), q1, Option.bind_some, oun, wsub (by omega : d ≤ m) (by omega : m ≤ 1000000000000000), k1]
variable {k : α → Int}
def Srt (k : α → Int) (l : List α) : Prop := l.Pairwise fun x y => k x ≤ k y
structure Stab (k : α → Int) (l l' : List α) : Prop where
  perm : l.Perm l'
  fil : ∀ c, l.filter (fun x => decide (k x = c)) = l'.filter (fun x => decide (k x = c))
theorem Stab.refl (l : List α) : Stab k l l := ⟨List.Perm.refl _, fun _ => rfl⟩
theorem Stab.trans {a b c : List α} (h : Stab k a b) (h2 : Stab k b c) : Stab k a c := ⟨h.perm.trans h2.perm, fun q => (h.fil q).trans (h2.fil q)⟩
theorem Stab.symm {a b : List α} (h : Stab k a b) : Stab k b a := ⟨h.perm.symm, fun q => (h.fil q).symm⟩
theorem Stab.append {a b c d : List α} (h : Stab k a b) (h2 : Stab k c d) : Stab k (a ++ c) (b ++ d) := ⟨h.perm.append h2.perm, fun q => by rw [List.filter_append, List.filter_append, h.fil q, h2.fil q]⟩
theorem Stab.swap {u v : List α} (h : ∀ x ∈ u, ∀ y ∈ v, k y < k x) : Stab k (u ++ v) (v ++ u) := by
  refine ⟨List.perm_append_comm, fun c => ?_⟩
  rw [List.filter_append, List.filter_append]
  by_cases hu : u.filter (fun x => decide (k x = c)) = []
  · rw [hu]; simp
  · have hv : v.filter (fun x => decide (k x = c)) = [] := by
      rw [List.filter_eq_nil_iff]
      intro y hy hyc
      obtain ⟨x, hx⟩ := List.exists_mem_of_ne_nil _ hu
      have hx' := List.mem_filter.1 hx
      have := h x hx'.1 y hy
      have e1 := of_decide_eq_true hx'.2
      have e2 := of_decide_eq_true hyc
      omega
    rw [hv]; simp
theorem Srt.unique : ∀ {l l' : List α}, Srt k l → Srt k l' → Stab k l l' → l = l'
  | [], l', _, _, h => (h.perm.symm.eq_nil).symm
  | x :: r, [], _, _, h => by have := h.perm.eq_nil; cases this
  | x :: r, y :: r', h1, h2, h => by
    have hx : ∀ z ∈ x :: r, k x ≤ k z := fun z hz => by
      rcases List.mem_cons.1 hz with rfl | hz
      · exact Int.le_refl _
      · exact (List.pairwise_cons.1 h1).1 z hz
    have hy : ∀ z ∈ y :: r', k y ≤ k z := fun z hz => by
      rcases List.mem_cons.1 hz with rfl | hz
      · exact Int.le_refl _
      · exact (List.pairwise_cons.1 h2).1 z hz
    have e1 := hx y (h.perm.mem_iff.2 List.mem_cons_self)
    have e2 := hy x (h.perm.mem_iff.1 List.mem_cons_self)
    have e3 : k x = k y := by omega
    have f1 := h.fil (k x)
    rw [List.filter_cons_of_pos (by simp), List.filter_cons_of_pos (by simp [e3])] at f1
    injection f1 with f1 f2
    subst f1
    have : Stab k r r' := ⟨(List.perm_cons x).1 h.perm, fun c => by
      by_cases hc : k x = c
      · subst hc; exact f2
      · have f3 := h.fil c
        rw [List.filter_cons_of_neg (by simp [hc]), List.filter_cons_of_neg (by simp [hc])] at f3
        exact f3⟩
    rw [Srt.unique (List.pairwise_cons.1 h1).2 (List.pairwise_cons.1 h2).2 this]
theorem rot_app {A U V B L' : List α} {m : Nat} (hm : A.length + U.length = m) (h : ∀ t, L'[t]? = rotF (A ++ (U ++ (V ++ B))) m U.length V.length t) : L' = A ++ (V ++ (U ++ B)) := by
  refine List.ext_getElem? fun t => ?_
  rw [h t]
  unfold rotF
  simp only [List.getElem?_append]
  repeat' split
  all_goals first | omega | rfl | (congr 1; omega)
variable {cmp : α → α → Option Int} {Pv : α → Prop}
theorem get_mid {A B : List α} {x : α} {i : Nat} (h : A.length = i) : (A ++ x :: B)[i]? = some x := by subst h; simp
theorem swap_mid {A B : List α} {x z : α} {i : Nat} (h : A.length = i) : ((A ++ z :: x :: B).set (i + 1) z).set i x = A ++ x :: z :: B := by
  subst h
  rw [List.set_append_right _ _ (by omega), List.set_append_right _ _ (by omega)]
  simp
theorem gIns_inner (hc : ∀ x y, Pv x → Pv y → ∃ z, cmp x y = some z ∧ (z < 0 ↔ k x < k y)) {a : Nat} {A : List α} (hA : A.length = a) {x : α} (hx : Pv x) : ∀ (n : Nat) (Z B : List α) (f : Nat), Z.length = n → n < f → Srt k Z → (∀ z ∈ Z, Pv z) → a + n ≤ 1000000000000 →
    ∃ Z1 Z2, Z = Z1 ++ Z2 ∧ iter (gInsL1 cmp a) f (A ++ Z ++ x :: B, ((a + n : Nat) : Int)) = some (A ++ Z1 ++ x :: (Z2 ++ B)) ∧ (∀ z ∈ Z2, k x < k z) ∧ ∀ z ∈ Z1, k z ≤ k x
  | _, _, _, 0, _, h, _, _, _ => by omega
  | 0, Z, B, f + 1, hZ, _, _, _, _ => by
    have : Z = [] := List.eq_nil_of_length_eq_zero hZ
    subst this
    refine ⟨[], [], rfl, ?_, by simp, by simp⟩
    have : ¬ ((a : Int) < ((a + 0 : Nat) : Int)) := by omega
    simp only [iter, gInsL1, oun, this, decide_false, cond_false, Option.bind_some, osum, List.append_nil, List.nil_append]
  | n + 1, Z, B, f + 1, hZ, hf, hs, hp, hb => by
    obtain ⟨Z', z, rfl⟩ : ∃ Z' z, Z = Z' ++ [z] := by
      have : Z ≠ [] := by intro e; rw [e] at hZ; simp at hZ
      exact ⟨Z.dropLast, Z.getLast this, (List.dropLast_concat_getLast this).symm⟩
    have hl : Z'.length = n := by simpa using hZ
    have hz : Pv z := hp z (by simp)
    have hlt : (a : Int) < ((a + (n + 1) : Nat) : Int) := by omega
    have e0 : A ++ (Z' ++ [z]) ++ x :: B = (A ++ Z') ++ z :: x :: B := by simp
    have g1 : (A ++ (Z' ++ [z]) ++ x :: B)[a + (n + 1)]? = some x := get_mid (by simp [hA, hl])
    have g2 : (A ++ (Z' ++ [z]) ++ x :: B)[a + (n + 1) - 1]? = some z := by rw [e0]; exact get_mid (by simp [hA, hl])
    have e1 : w64 (((a + (n + 1) : Nat) : Int) - 1) = ((a + (n + 1) - 1 : Nat) : Int) := wsub1 (by omega) (by omega)
    obtain ⟨q, hq, hqk⟩ := hc x z hx hz
    by_cases hk : k x < k z
    · have hq0 := hqk.2 hk
      obtain ⟨Z1, Z2, k1, k2, k3, k4⟩ := gIns_inner hc hA hx n Z' (z :: B) f hl (by omega) (List.pairwise_append.1 hs).1 (fun y hy => hp y (by simp [hy])) (by omega)
      refine ⟨Z1, Z2 ++ [z], by rw [k1]; simp, ?_, ?_, k4⟩
      · have e2 : ((A ++ (Z' ++ [z]) ++ x :: B).set (a + (n + 1)) z).set (a + (n + 1) - 1) x = A ++ Z' ++ x :: (z :: B) := by
          rw [e0]
          have : a + (n + 1) - 1 = a + n := by omega
          rw [this]
          have e3 : a + (n + 1) = (a + n) + 1 := by omega
          rw [e3]
          exact swap_mid (by simp [hA, hl])
        have g3 : ((A ++ (Z' ++ [z]) ++ x :: B).set (a + (n + 1)) z)[a + (n + 1) - 1]? = some z := by
          rw [List.getElem?_set_ne (by omega)]; exact g2
        have e4 : ((a + (n + 1) - 1 : Nat) : Int) = ((a + n : Nat) : Int) := by omega
        simp only [iter, gInsL1, oun, hlt, decide_true, cond_true, getI_nat, setI_nat, e1, g1, g2, g3, hq, hq0, Option.bind_some, osum, e2]
        rw [e4, k2]
        simp
      · intro y hy
        rcases List.mem_append.1 hy with hy | hy
        · exact k3 y hy
        · simp only [List.mem_singleton] at hy; subst hy; exact hk
    · have hq0 : ¬ q < 0 := fun h => hk (hqk.1 h)
      refine ⟨Z' ++ [z], [], by simp, ?_, by simp, ?_⟩
      · simp only [iter, gInsL1, oun, hlt, decide_true, cond_true, getI_nat, e1, g1, g2, hq, hq0, decide_false, cond_false, Option.bind_some, osum, List.nil_append]
      · intro y hy
        rcases List.mem_append.1 hy with hy | hy
        · have := (List.pairwise_append.1 hs).2.2 y hy z (by simp)
          omega
        · simp only [List.mem_singleton] at hy; subst hy; omega
theorem ins_stab {Z1 Z2 : List α} {x : α} (hs : Srt k (Z1 ++ Z2)) (h2 : ∀ z ∈ Z2, k x < k z) (h1 : ∀ z ∈ Z1, k z ≤ k x) : Srt k (Z1 ++ x :: Z2) ∧ Stab k (Z1 ++ Z2 ++ [x]) (Z1 ++ x :: Z2) := by
  have hp := List.pairwise_append.1 hs
  refine ⟨List.pairwise_append.2 ⟨hp.1, List.pairwise_cons.2 ⟨fun z hz => by have := h2 z hz; omega, hp.2.1⟩, fun y hy z hz => ?_⟩, ?_⟩
  · rcases List.mem_cons.1 hz with rfl | hz
    · exact h1 y hy
    · exact hp.2.2 y hy z hz
  · rw [List.append_assoc]
    refine (Stab.refl Z1).append (?_ : Stab k (Z2 ++ [x]) ([x] ++ Z2))
    exact Stab.swap fun z hz y hy => by simp only [List.mem_singleton] at hy; subst hy; exact h2 z hz
theorem gIns_outer (hc : ∀ x y, Pv x → Pv y → ∃ z, cmp x y = some z ∧ (z < 0 ↔ k x < k y)) {a b F : Nat} {A B : List α} (hA : A.length = a) (hb : b ≤ 1000000000) (hF : b < F) : ∀ (r : Nat) (Z R : List α) (f : Nat), R.length = r → r < f → a + Z.length + r = b → Srt k Z → (∀ z ∈ Z, Pv z) → (∀ z ∈ R, Pv z) →
    ∃ M, iter (gInsL2 cmp F a b) f (A ++ Z ++ (R ++ B), ((a + Z.length : Nat) : Int)) = some (A ++ M ++ B) ∧ Srt k M ∧ Stab k (Z ++ R) M
  | _, _, _, 0, _, h, _, _, _, _ => by omega
  | 0, Z, R, f + 1, hR, _, hab, hs, _, _ => by
    have : R = [] := List.eq_nil_of_length_eq_zero hR
    subst this
    refine ⟨Z, ?_, hs, by rw [List.append_nil]; exact Stab.refl _⟩
    have : ¬ (((a + Z.length : Nat) : Int) < (b : Int)) := by omega
    simp only [iter, gInsL2, oun, this, decide_false, cond_false, Option.bind_some, osum, List.nil_append]
  | r + 1, Z, [], f + 1, hR, _, _, _, _, _ => by simp at hR
  | r + 1, Z, x :: R, f + 1, hR, hf, hab, hs, hp, hq => by
    have hlt : ((a + Z.length : Nat) : Int) < (b : Int) := by omega
    obtain ⟨Z1, Z2, k1, k2, k3, k4⟩ := gIns_inner hc hA (hq x (by simp)) Z.length Z (R ++ B) F rfl (by omega) hs hp (by omega)
    subst k1
    obtain ⟨j1, j2⟩ := ins_stab hs k3 k4
    have hl : (Z1 ++ x :: Z2).length = (Z1 ++ Z2).length + 1 := by simp; omega
    obtain ⟨M, m1, m2, m3⟩ := gIns_outer (B := B) hc hA hb hF r (Z1 ++ x :: Z2) R f (by simpa using hR) (by omega) (by rw [hl]; omega) j1 (fun z hz => by
      rcases List.mem_append.1 hz with hz | hz
      · exact hp z (by simp [hz])
      · rcases List.mem_cons.1 hz with rfl | hz
        · exact hq z (by simp)
        · exact hp z (by simp [hz])) (fun z hz => hq z (by simp [hz]))
    refine ⟨M, ?_, m2, ?_⟩
    · have e1 : w64 (((a + (Z1 ++ Z2).length : Nat) : Int) + 1) = ((a + (Z1 ++ x :: Z2).length : Nat) : Int) := by rw [wadd1 (by omega), hl]; rfl
      have e2 : A ++ Z1 ++ x :: (Z2 ++ (R ++ B)) = A ++ (Z1 ++ x :: Z2) ++ (R ++ B) := by simp
      simp only [iter, gInsL2, oun, hlt, decide_true, cond_true, List.cons_append, k2, Option.bind_some, osum, e1, e2, m1]
    · refine Stab.trans (b := (Z1 ++ x :: Z2) ++ R) ?_ m3
      have : Z1 ++ Z2 ++ x :: R = (Z1 ++ Z2 ++ [x]) ++ R := by simp
      rw [this]
      exact j2.append (Stab.refl R)
theorem gIns_eq (hc : ∀ x y, Pv x → Pv y → ∃ z, cmp x y = some z ∧ (z < 0 ↔ k x < k y)) {a b F : Nat} {A M B : List α} (hA : A.length = a) (hM : a + M.length = b) (hb : b ≤ 1000000000) (hF : b + 1 < F) (hp : ∀ z ∈ M, Pv z) :
    ∃ M', gIns cmp F (A ++ M ++ B) a b = some (A ++ M' ++ B) ∧ Srt k M' ∧ Stab k M M' := by
  cases M with
  | nil =>
    refine ⟨[], ?_, List.Pairwise.nil, Stab.refl _⟩
    cases F with
    | zero => omega
    | succ F =>
      have e1 : w64 ((a : Int) + 1) = ((a + 1 : Nat) : Int) := wadd1 (by simp at hM; omega)
      have : ¬ (((a + 1 : Nat) : Int) < (b : Int)) := by simp at hM; omega
      unfold gIns
      simp only [e1, iter, gInsL2, oun, this, decide_false, cond_false, Option.bind_some, osum]
  | cons x R =>
    obtain ⟨M', m1, m2, m3⟩ := gIns_outer (B := B) hc hA hb (by omega : b < F) R.length [x] R F rfl (by simp at hM; omega) (by simp at hM ⊢; omega) (List.pairwise_singleton _ _) (fun z hz => hp z (by simp at hz; simp [hz])) (fun z hz => hp z (by simp [hz]))
    refine ⟨M', ?_, m2, m3⟩
    have e1 : w64 ((a : Int) + 1) = ((a + [x].length : Nat) : Int) := by rw [wadd1 (by simp at hM; omega)]; rfl
    have e2 : A ++ x :: R ++ B = A ++ [x] ++ (R ++ B) := by simp
    unfold gIns
    rw [e1, e2, m1]; rfl
theorem bisect {τ : Type} {body : τ → Option (τ ⊕ Int)} {mk : Nat → Nat → τ} {test : Nat → Bool} {i0 j0 : Nat} (hb : ∀ i j, i0 ≤ i → i < j → j ≤ j0 → body (mk i j) = some (.inl (bif test ((i + j) / 2) then mk ((i + j) / 2 + 1) j else mk i ((i + j) / 2)))) (he : ∀ i, i0 ≤ i → i ≤ j0 → body (mk i i) = some (.inr (i : Int)))
    (hm : ∀ s t, i0 ≤ s → s ≤ t → t < j0 → test t = true → test s = true) : ∀ (n i j f : Nat), j - i ≤ n → n < f → i0 ≤ i → i ≤ j → j ≤ j0 → (∀ t, i0 ≤ t → t < i → test t = true) → (∀ t, j ≤ t → t < j0 → test t = false) →
    ∃ r : Nat, iter body f (mk i j) = some (r : Int) ∧ i ≤ r ∧ r ≤ j ∧ (∀ t, i0 ≤ t → t < r → test t = true) ∧ ∀ t, r ≤ t → t < j0 → test t = false
  | _, _, _, 0, _, h, _, _, _, _, _ => by omega
  | n, i, j, f + 1, hn, hf, h0, hij, hj, ht, hfa => by
    by_cases hlt : i < j
    · cases n with
      | zero => omega
      | succ n =>
        have h1 := hb i j h0 hlt hj
        cases hq : test ((i + j) / 2) with
        | true =>
          rw [hq] at h1
          obtain ⟨r, k1, k2, k3, k4, k5⟩ := bisect hb he hm n ((i + j) / 2 + 1) j f (by omega) (by omega) (by omega) (by omega) hj (fun t h2 h3 => hm t ((i + j) / 2) h2 (by omega) (by omega) hq) hfa
          refine ⟨r, ?_, by omega, k3, k4, k5⟩
          rw [iter, h1]
          exact k1
        | false =>
          rw [hq] at h1
          obtain ⟨r, k1, k2, k3, k4, k5⟩ := bisect hb he hm n i ((i + j) / 2) f (by omega) (by omega) h0 (by omega) (by omega) ht (fun t h2 h3 => by
            cases hq2 : test t with
            | false => rfl
            | true => have := hm ((i + j) / 2) t (by omega) h2 h3 hq2; rw [hq] at this; cases this)
          refine ⟨r, ?_, k2, by omega, k4, k5⟩
          rw [iter, h1]
          exact k1
    · have : i = j := by omega
      subst this
      exact ⟨i, by rw [iter, he i h0 hj]; rfl, Nat.le_refl _, Nat.le_refl _, ht, hfa⟩
theorem gSym_right {a e : Nat} {A B : List α} {x : α} : ∀ (n : Nat) (W V : List α) (f : Nat), V.length = n → n < f → A.length + W.length + n + 1 = e → e ≤ 1000000000 →
    iter (gSymL2 (α := α) cmp (e : Int)) f (A ++ W ++ x :: (V ++ B), ((A.length + W.length : Nat) : Int)) = some (A ++ W ++ V ++ x :: B)
  | _, _, _, 0, _, h, _, _ => by omega
  | 0, W, V, f + 1, hV, _, he, hb => by
    have : V = [] := List.eq_nil_of_length_eq_zero hV
    subst this
    have e1 : w64 ((e : Int) - 1) = ((e - 1 : Nat) : Int) := wsub1 (by omega) (by omega)
    have : ¬ (((A.length + W.length : Nat) : Int) < ((e - 1 : Nat) : Int)) := by omega
    simp only [iter, gSymL2, oun, e1, this, decide_false, cond_false, Option.bind_some, osum, List.append_nil, List.nil_append]
  | n + 1, W, [], f + 1, hV, _, _, _ => by simp at hV
  | n + 1, W, v :: V, f + 1, hV, hf, he, hb => by
    have e1 : w64 ((e : Int) - 1) = ((e - 1 : Nat) : Int) := wsub1 (by omega) (by omega)
    have hlt : ((A.length + W.length : Nat) : Int) < ((e - 1 : Nat) : Int) := by omega
    have e2 : w64 (((A.length + W.length : Nat) : Int) + 1) = ((A.length + W.length + 1 : Nat) : Int) := wadd1 (by omega)
    have g1 : (A ++ W ++ x :: (v :: V ++ B))[A.length + W.length]? = some x := get_mid (by simp)
    have g2 : (A ++ W ++ x :: (v :: V ++ B))[A.length + W.length + 1]? = some v := by
      have : A ++ W ++ x :: (v :: V ++ B) = (A ++ W ++ [x]) ++ v :: (V ++ B) := by simp
      rw [this]; exact get_mid (by simp; omega)
    have e3 : ((A ++ W ++ x :: (v :: V ++ B)).set (A.length + W.length) v).set (A.length + W.length + 1) x = A ++ (W ++ [v]) ++ x :: (V ++ B) := by
      rw [List.set_append_right _ _ (by simp), List.set_append_right _ _ (by simp)]
      simp
    have g3 : ((A ++ W ++ x :: (v :: V ++ B)).set (A.length + W.length) v)[A.length + W.length + 1]? = some v := by
      rw [List.getElem?_set_ne (by omega)]; exact g2
    have ih := gSym_right (a := a) (e := e) (A := A) (B := B) (x := x) n (W ++ [v]) V f (by simpa using hV) (by omega) (by simp; omega) hb
    have e4 : ((A.length + W.length + 1 : Nat) : Int) = ((A.length + (W ++ [v]).length : Nat) : Int) := by simp; omega
    simp only [iter, gSymL2, oun, e1, hlt, decide_true, cond_true, e2, getI_nat, setI_nat, g1, g2, g3, e3, Option.bind_some, osum]
    rw [e4, ih]
    simp
theorem gSym_left {e : Nat} {A B : List α} {x : α} (hA : A.length = e) : ∀ (n : Nat) (U W : List α) (f : Nat), U.length = n → n < f → e + n ≤ 1000000000 →
    iter (gSymL4 (α := α) cmp (e : Int)) f (A ++ U ++ x :: (W ++ B), ((e + n : Nat) : Int)) = some (A ++ x :: (U ++ W ++ B))
  | _, _, _, 0, _, h, _ => by omega
  | 0, U, W, f + 1, hU, _, hb => by
    have : U = [] := List.eq_nil_of_length_eq_zero hU
    subst this
    have : ¬ ((e : Int) < ((e + 0 : Nat) : Int)) := by omega
    simp only [iter, gSymL4, oun, this, decide_false, cond_false, Option.bind_some, osum, List.append_nil, List.nil_append]
  | n + 1, U, W, f + 1, hU, hf, hb => by
    obtain ⟨U', u, rfl⟩ : ∃ U' u, U = U' ++ [u] := by
      have : U ≠ [] := by intro e; rw [e] at hU; simp at hU
      exact ⟨U.dropLast, U.getLast this, (List.dropLast_concat_getLast this).symm⟩
    have hl : U'.length = n := by simpa using hU
    have e1 : w64 (((e + (n + 1) : Nat) : Int) - 1) = ((e + n : Nat) : Int) := wsub1 (by omega) (by omega)
    have hlt : (e : Int) < ((e + (n + 1) : Nat) : Int) := by omega
    have e0 : A ++ (U' ++ [u]) ++ x :: (W ++ B) = (A ++ U') ++ u :: x :: (W ++ B) := by simp
    have g1 : (A ++ (U' ++ [u]) ++ x :: (W ++ B))[e + (n + 1)]? = some x := get_mid (by simp [hA, hl])
    have g2 : (A ++ (U' ++ [u]) ++ x :: (W ++ B))[e + n]? = some u := by rw [e0]; exact get_mid (by simp [hA, hl])
    have e2 : ((A ++ (U' ++ [u]) ++ x :: (W ++ B)).set (e + (n + 1)) u).set (e + n) x = A ++ U' ++ x :: ((u :: W) ++ B) := by
      rw [e0]
      exact swap_mid (by simp [hA, hl])
    have g3 : ((A ++ (U' ++ [u]) ++ x :: (W ++ B)).set (e + (n + 1)) u)[e + n]? = some u := by
      rw [List.getElem?_set_ne (by omega)]; exact g2
    have ih := gSym_left (B := B) (x := x) hA n U' (u :: W) f hl (by omega) (by omega)
    simp only [iter, gSymL4, oun, hlt, decide_true, cond_true, e1, getI_nat, setI_nat, g1, g2, g3, e2, Option.bind_some, osum]
    rw [ih]
    simp
theorem get_seg {A U B : List α} {a t : Nat} (hA : A.length = a) (h1 : a ≤ t) (h2 : t < a + U.length) : (A ++ (U ++ B))[t]? = U[t - a]? := by
  rw [List.getElem?_append_right (by omega), hA, List.getElem?_append_left (by omega)]
theorem srt_get {l : List α} (h : Srt k l) {i j : Nat} {x y : α} (hij : i ≤ j) (hx : l[i]? = some x) (hy : l[j]? = some y) : k x ≤ k y := by
  rcases Nat.lt_or_ge i j with h1 | h1
  · have hj := lt_of_get hy
    have := List.pairwise_iff_getElem.1 h i j (by omega) hj h1
    rw [List.getElem?_eq_getElem (by omega)] at hx hy
    injection hx with hx; injection hy with hy
    rw [← hx, ← hy]; exact this
  · have : i = j := by omega
    subst this
    rw [hx] at hy; injection hy with hy
    subst hy; exact Int.le_refl _
theorem mem_take {l : List α} {n : Nat} {x : α} (h : x ∈ l.take n) : ∃ i, i < n ∧ l[i]? = some x := by
  obtain ⟨i, hi⟩ := List.getElem?_of_mem h
  rw [List.getElem?_take] at hi
  split at hi
  · exact ⟨i, by assumption, hi⟩
  · cases hi
theorem mem_drop {l : List α} {n : Nat} {x : α} (h : x ∈ l.drop n) : ∃ i, n ≤ i ∧ l[i]? = some x := by
  obtain ⟨i, hi⟩ := List.getElem?_of_mem h
  rw [List.getElem?_drop] at hi
  exact ⟨n + i, by omega, hi⟩
theorem gSym_one (hc : ∀ x y, Pv x → Pv y → ∃ z, cmp x y = some z ∧ (z < 0 ↔ k x < k y)) {a b F : Nat} {A V B : List α} {x : α} (hA : A.length = a) (hV : a + 1 + V.length = b) (hb : b ≤ 1000000000) (hF : b - a < F) (hs : Srt k V) (hx : Pv x) (hp : ∀ z ∈ V, Pv z) (rec_ : List α → Int → Int → Int → Option (List α)) :
    ∃ M, gSymB cmp rec_ F (A ++ ([x] ++ (V ++ B))) a ((a + 1 : Nat) : Int) b = some (A ++ (M ++ B)) ∧ Srt k M ∧ Stab k ([x] ++ V) M := by
  have hd : w64 (((a + 1 : Nat) : Int) - (a : Int)) = 1 := by rw [wsub (by omega) (by omega)]; omega
  have gx : (A ++ ([x] ++ (V ++ B)))[a]? = some x := get_mid hA
  have gv : ∀ t, a + 1 ≤ t → t < b → ∃ v, (A ++ ([x] ++ (V ++ B)))[t]? = some v ∧ V[t - (a + 1)]? = some v := by
    intro t h1 h2
    have e : A ++ ([x] ++ (V ++ B)) = (A ++ [x]) ++ (V ++ B) := by simp
    obtain ⟨v, hv⟩ := get_of_lt (L := V) (i := t - (a + 1)) (by omega)
    exact ⟨v, by rw [e, get_seg (a := a + 1) (by simp [hA]) h1 (by omega)]; exact hv, hv⟩
  obtain ⟨r, k1, k2, k3, k4, k5⟩ := bisect (body := gSymL1 cmp (A ++ ([x] ++ (V ++ B))) (a : Int)) (mk := fun i j => ((i : Int), (j : Int))) (test := fun h => match (A ++ ([x] ++ (V ++ B)))[h]? with | some v => decide (k v < k x) | none => false) (i0 := a + 1) (j0 := b) (fun i j h0 hij hj => by
      obtain ⟨v, g1, g2⟩ := gv ((i + j) / 2) (by omega) (by omega)
      obtain ⟨z, hz, hz2⟩ := hc v x (hp v (List.mem_of_getElem? g2)) hx
      have hlt : (i : Int) < (j : Int) := by omega
      have hw := whalf (i := i) (j := j) (by omega)
      have hw1 : w64 (((((i + j) / 2 : Nat) : Int)) + 1) = (((i + j) / 2 + 1 : Nat) : Int) := wadd1 (by omega)
      have hg : guardO (0 ≤ 1 ∧ 1 ≤ 64) = some () := guardO_eq (by decide)
      by_cases hk : k v < k x
      · have hz0 := hz2.2 hk
        simp only [gSymL1, oun, hlt, decide_true, cond_true, hg, Option.bind_some, hw, getI_nat, g1, gx, hz, hz0, hk, hw1]
      · have hz0 : ¬ z < 0 := fun h => hk (hz2.1 h)
        simp only [gSymL1, oun, hlt, decide_true, cond_true, hg, Option.bind_some, hw, getI_nat, g1, gx, hz, hz0, hk, decide_false, cond_false])
    (fun i h0 hj => by simp only [gSymL1, oun, Int.lt_irrefl, decide_false, cond_false])
    (fun s t h1 h2 h3 ht => by
      obtain ⟨v, g1, g2⟩ := gv s h1 (by omega)
      obtain ⟨w, q1, q2⟩ := gv t (by omega) h3
      simp only [q1, g1, decide_eq_true_eq] at ht ⊢
      have := srt_get hs (by omega : s - (a + 1) ≤ t - (a + 1)) g2 q2
      omega) (b - (a + 1)) (a + 1) b F (Nat.le_refl _) (by omega) (Nat.le_refl _) (by omega) (Nat.le_refl _) (fun t h1 h2 => by omega) (fun t h1 h2 => by omega)
  have hl : (V.take (r - (a + 1))).length = r - (a + 1) := by simp; omega
  have h1 : ∀ z ∈ V.take (r - (a + 1)), k z < k x := by
    intro z hz
    obtain ⟨i, hi, hz⟩ := mem_take hz
    have h2 := k4 (a + 1 + i) (by omega) (by omega)
    obtain ⟨v, g1, g2⟩ := gv (a + 1 + i) (by omega) (by omega)
    simp only [g1, decide_eq_true_eq] at h2
    rw [show a + 1 + i - (a + 1) = i by omega, hz] at g2
    injection g2 with g2; subst g2; exact h2
  have h2 : ∀ z ∈ V.drop (r - (a + 1)), k x ≤ k z := by
    intro z hz
    obtain ⟨i, hi, hz⟩ := mem_drop hz
    have hlt := lt_of_get hz
    have h2 := k5 (a + 1 + i) (by omega) (by omega)
    obtain ⟨v, g1, g2⟩ := gv (a + 1 + i) (by omega) (by omega)
    simp only [g1, decide_eq_false_iff_not] at h2
    rw [show a + 1 + i - (a + 1) = i by omega, hz] at g2
    injection g2 with g2; subst g2; omega
  have hvs : V = V.take (r - (a + 1)) ++ V.drop (r - (a + 1)) := (List.take_append_drop _ _).symm
  refine ⟨V.take (r - (a + 1)) ++ x :: V.drop (r - (a + 1)), ?_, ?_, ?_⟩
  · have key := gSym_right (cmp := cmp) (a := a) (e := r) (A := A) (B := V.drop (r - (a + 1)) ++ B) (x := x) (r - (a + 1)) [] (V.take (r - (a + 1))) F hl (by omega) (by simp; omega) (by omega)
    have e1 : A ++ ([x] ++ (V ++ B)) = A ++ [] ++ x :: (V.take (r - (a + 1)) ++ (V.drop (r - (a + 1)) ++ B)) := by
      rw [← List.append_assoc (V.take _), ← hvs]; simp
    have e2 : ((a : Nat) : Int) = ((A.length + ([] : List α).length : Nat) : Int) := by simp [hA]
    unfold gSymB
    simp only [hd, decide_true, cond_true, k1, Option.bind_some]
    rw [e1]
    conv => lhs; rw [e2]
    rw [key]
    simp
  · have := hs
    rw [hvs] at this
    have hp2 := List.pairwise_append.1 this
    refine List.pairwise_append.2 ⟨hp2.1, List.pairwise_cons.2 ⟨h2, hp2.2.1⟩, fun y hy z hz => ?_⟩
    have := h1 y hy
    rcases List.mem_cons.1 hz with rfl | hz
    · omega
    · have := h2 z hz; omega
  · conv => lhs; rw [hvs, ← List.append_assoc]
    have : V.take (r - (a + 1)) ++ x :: V.drop (r - (a + 1)) = (V.take (r - (a + 1)) ++ [x]) ++ V.drop (r - (a + 1)) := by simp
    rw [this]
    refine Stab.append (Stab.swap fun u hu v hv => ?_) (Stab.refl _)
    simp only [List.mem_singleton] at hu; subst hu; exact h1 v hv
end
end Go.Proofs.YthpgjbbjpfiniaaGreat
