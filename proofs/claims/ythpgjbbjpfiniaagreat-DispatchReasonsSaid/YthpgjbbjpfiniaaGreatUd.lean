/- The plain laws of the tours: the heap. -/
import Derived.Test.YthpgjbbjpfiniaaGreatUc
namespace Go.Proofs.YthpgjbbjpfiniaaGreat
open Go.RowKit
set_option linter.unusedSimpArgs false
set_option linter.unusedVariables false
abbrev kle (x y : It) : Prop := Lg.le x.value.leg y.value.leg
def okH (h : List It) : Prop := ∀ x ∈ h, okI x
theorem okH.get {h : List It} (ho : okH h) {k : Nat} {x : It} (hx : h[k]? = some x) : okI x := ho x (List.mem_of_getElem? hx)
theorem okH.perm {h h' : List It} (ho : okH h) (hp : h'.Perm h) : okH h' := fun x hx => ho x (hp.mem_iff.1 hx)
def Hp (h : List It) : Prop := ∀ (k : Nat) (x y : It), 1 ≤ k → h[k]? = some x → h[(k - 1) / 2]? = some y → kle y x
theorem Hp.root {h : List It} (hh : Hp h) {r : It} (hr : h[0]? = some r) : ∀ (k : Nat) (x : It), h[k]? = some x → kle r x := by
  intro k
  induction k using Nat.strongRecOn with
  | ind k ih =>
    intro x hx
    rcases Nat.eq_zero_or_pos k with rfl | hk
    · rw [hr] at hx; injection hx with hx; subst hx; exact Lg.le_refl _
    · have hlt := lt_of_get hx
      have hy : h[(k - 1) / 2]? = some h[(k - 1) / 2] := List.getElem?_eq_getElem (by omega)
      exact Lg.le_trans (ih _ (by omega) _ hy) (hh k x _ hk hx hy)
def HpU (h : List It) (i : Nat) : Prop := (∀ (k : Nat) (x y : It), 1 ≤ k → k ≠ i → h[k]? = some x → h[(k - 1) / 2]? = some y → kle y x) ∧
  ∀ (c : Nat) (x y : It), 1 ≤ i → 1 ≤ c → (c - 1) / 2 = i → h[c]? = some x → h[(i - 1) / 2]? = some y → kle y x
def HpD (h : List It) (i : Nat) : Prop := (∀ (k : Nat) (x y : It), 1 ≤ k → (k - 1) / 2 ≠ i → h[k]? = some x → h[(k - 1) / 2]? = some y → kle y x) ∧
  ∀ (c : Nat) (x y : It), 1 ≤ i → 1 ≤ c → (c - 1) / 2 = i → h[c]? = some x → h[(i - 1) / 2]? = some y → kle y x
theorem HpU.step {h : List It} {i : Nat} (hi : 1 ≤ i) (hl : i < h.length) (hu : HpU h i) {x y : It} (hx : h[i]? = some x) (hy : h[(i - 1) / 2]? = some y) (hle : kle x y) : HpU (swp h i ((i - 1) / 2)) ((i - 1) / 2) := by
  have hp : (i - 1) / 2 < h.length := by omega
  generalize hpe : (i - 1) / 2 = p at *
  refine ⟨fun k a b hk hkp ha hb => ?_, fun c a b h1 hc hcp ha hb => ?_⟩
  · rw [swp_get hl hp] at ha hb
    rw [if_neg hkp] at ha
    by_cases hki : k = i
    · subst hki
      rw [if_pos rfl] at ha
      rw [hpe, if_pos rfl] at hb
      rw [hy] at ha; rw [hx] at hb
      injection ha with ha; injection hb with hb
      subst ha; subst hb
      exact hle
    · rw [if_neg hki] at ha
      by_cases h2 : (k - 1) / 2 = p
      · rw [if_pos h2, hx] at hb
        injection hb with hb; subst hb
        exact Lg.le_trans hle (hu.1 k a y hk hki ha (by rw [h2]; exact hy))
      · rw [if_neg h2] at hb
        by_cases h3 : (k - 1) / 2 = i
        · rw [if_pos h3] at hb
          exact hu.2 k a b hi hk h3 ha (by rw [hpe]; exact hb)
        · rw [if_neg h3] at hb
          exact hu.1 k a b hk hki ha hb
  · rw [swp_get hl hp] at ha hb
    rw [if_neg (by omega), if_neg (by omega)] at hb
    have hpp : kle b y := hu.1 p y b h1 (by omega) hy hb
    by_cases hci : c = i
    · subst hci
      rw [if_neg (by omega), if_pos rfl, hy] at ha
      injection ha with ha; subst ha
      exact hpp
    · rw [if_neg (by omega), if_neg hci] at ha
      exact Lg.le_trans hpp (hu.1 c a y hc hci ha (by rw [hcp]; exact hy))
theorem HpU.zero {h : List It} (hu : HpU h 0) : Hp h := fun k x y hk hx hy => hu.1 k x y hk (by omega) hx hy
theorem HpU.stop {h : List It} {i : Nat} (hu : HpU h i) {x y : It} (hx : h[i]? = some x) (hy : h[(i - 1) / 2]? = some y) (hle : kle y x) : Hp h := by
  intro k a b hk ha hb
  by_cases hki : k = i
  · subst hki
    rw [hx] at ha; rw [hy] at hb
    injection ha with ha; injection hb with hb
    subst ha; subst hb
    exact hle
  · exact hu.1 k a b hk hki ha hb
theorem HpD.step {h : List It} {i n : Nat} (hl : n < h.length) (hn : n = 2 * i + 1 ∨ n = 2 * i + 2) (hd : HpD h i) {x y : It} (hx : h[n]? = some x) (hy : h[i]? = some y) (hmin : ∀ (j : Nat) (z : It), (j = i ∨ j = 2 * i + 1 ∨ j = 2 * i + 2) → h[j]? = some z → kle x z) : HpD (swp h i n) n := by
  have hi : i < h.length := by omega
  refine ⟨fun k a b hk hkp ha hb => ?_, fun c a b h1 hc hcp ha hb => ?_⟩
  · rw [swp_get hi hl] at ha hb
    rw [if_neg hkp] at hb
    by_cases h2 : (k - 1) / 2 = i
    · rw [if_pos h2, hx] at hb
      injection hb with hb; subst hb
      by_cases hkn : k = n
      · rw [if_pos hkn] at ha
        exact hmin i a (.inl rfl) ha
      · rw [if_neg hkn, if_neg (by omega)] at ha
        exact hmin k a (by omega) ha
    · rw [if_neg h2] at hb
      by_cases hki : k = i
      · subst hki
        rw [if_neg (by omega), if_pos rfl] at ha
        exact hd.2 n a b hk (by omega) (by omega) ha hb
      · rw [if_neg (by omega), if_neg hki] at ha
        exact hd.1 k a b hk h2 ha hb
  · rw [swp_get hi hl] at ha hb
    have h3 : (n - 1) / 2 = i := by omega
    rw [h3, if_neg (by omega), if_pos rfl, hx] at hb
    injection hb with hb; subst hb
    rw [if_neg (by omega), if_neg (by omega)] at ha
    exact hd.1 c a x hc (by omega) ha (by rw [hcp]; exact hx)
theorem HpD.stop {h : List It} {i : Nat} (hd : HpD h i) {y : It} (hy : h[i]? = some y) (hmin : ∀ (j : Nat) (z : It), (j = i ∨ j = 2 * i + 1 ∨ j = 2 * i + 2) → h[j]? = some z → kle y z) : Hp h := by
  intro k a b hk ha hb
  by_cases h2 : (k - 1) / 2 = i
  · rw [h2, hy] at hb
    injection hb with hb; subst hb
    exact hmin k a (by omega) ha
  · exact hd.1 k a b hk h2 ha hb
theorem par_eq {i : Nat} (h1 : 1 ≤ i) (h2 : i < 1000000000) : w64 (Int.tdiv (w64 ((i : Int) - 1)) 2) = (((i - 1) / 2 : Nat) : Int) := by
  rw [w64_eq (n := (i : Int) - 1) (by omega) (by omega), Int.tdiv_eq_ediv_of_nonneg (by omega), w64_eq (by omega) (by omega)]
  omega
theorem Push_loop : ∀ (i : Nat) (F : Nat) (h : List It) (c : Int), i < F → i < h.length → h.length < 1000000000 → okH h → HpU h i →
    ∃ h', (iter pqueue_Queue_stop_Push_l1 F (⟨h, c⟩, (i : Int)) = some (.inl ⟨h', c⟩) ∨ iter pqueue_Queue_stop_Push_l1 F (⟨h, c⟩, (i : Int)) = some (.inr ⟨h', c⟩)) ∧ h'.Perm h ∧ Hp h' := by
  intro i
  induction i using Nat.strongRecOn with
  | ind i ih =>
    intro F h c hF hl hb ho hu
    obtain ⟨F, rfl⟩ : ∃ f, F = f + 1 := ⟨F - 1, by omega⟩
    rcases Nat.eq_zero_or_pos i with rfl | hi
    · exact ⟨h, .inl (by rw [iter]; rfl), .refl _, hu.zero⟩
    · have hx : h[i]? = some h[i] := List.getElem?_eq_getElem hl
      have hp : (i - 1) / 2 < h.length := by omega
      have hy : h[(i - 1) / 2]? = some h[(i - 1) / 2] := List.getElem?_eq_getElem hp
      generalize h[i] = x at hx
      generalize h[(i - 1) / 2] = y at hy
      have hbody : pqueue_Queue_stop_Push_l1 (⟨h, c⟩, (i : Int)) = if bef x y = true then some (.inl (⟨swp h i ((i - 1) / 2), c⟩, (((i - 1) / 2 : Nat) : Int))) else some (.inr (.inr ⟨h, c⟩)) := by
        simp only [pqueue_Queue_stop_Push_l1, oun]
        rw [show decide ((0 : Int) < (i : Int)) = true by simp; omega]
        simp only [cond_true, par_eq hi (by omega)]
        rw [before_eq hx hy (ho.get hx) (ho.get hy)]
        simp only [Option.bind_some]
        cases bef x y with
        | false => rfl
        | true =>
          simp only [Bool.not_true, cond_false]
          rw [swap_eq hl hp]
          rfl
      rw [iter, hbody]
      cases hbe : bef x y with
      | false => exact ⟨h, .inr rfl, .refl _, hu.stop hx hy (bef_not hbe)⟩
      | true =>
        have hpm := swp_perm hl hp
        obtain ⟨h', h1, h2, h3⟩ := ih ((i - 1) / 2) (by omega) F (swp h i ((i - 1) / 2)) c (by omega) (by rw [swp_length]; exact hp) (by rw [swp_length]; exact hb) (ho.perm hpm) (hu.step hi hl hx hy (bef_le hbe))
        exact ⟨h', h1, h2.trans hpm, h3⟩
theorem Push_eq {F : Nat} {q : Qu} (x : T_road_stop) (hF : q.heap.length < F) (hl : q.heap.length < 1000000) (ho : okH q.heap) (hx : 0 ≤ x.leg.Secs) (hh : Hp q.heap) :
    ∃ q', pqueue_Queue_stop_Push F q x = some q' ∧ q'.heap.Perm (q.heap ++ [⟨x, q.count⟩]) ∧ Hp q'.heap := by
  unfold pqueue_Queue_stop_Push
  rw [appO_eq (by simp; omega)]
  simp only [Option.bind_some]
  have e1 : w64 (((((q.heap ++ [⟨x, q.count⟩] : List It).length : Nat) : Int)) - 1) = ((q.heap.length : Nat) : Int) := by
    rw [List.length_append, List.length_singleton, w64_eq (by omega) (by omega)]; omega
  rw [e1]
  obtain ⟨h', h1, h2, h3⟩ := Push_loop q.heap.length F (q.heap ++ [⟨x, q.count⟩]) (w64 (q.count + 1)) hF (by simp) (by simp; omega) (by
      intro y hy
      rcases List.mem_append.1 hy with hy | hy
      · exact ho y hy
      · rw [List.mem_singleton.1 hy]; exact hx) ⟨fun k a b hk hkn ha hb => by
      have hka := lt_of_get ha
      rw [List.length_append, List.length_singleton] at hka
      rw [List.getElem?_append_left (by omega)] at ha hb
      exact hh k a b hk ha hb, fun c a b _ hc hcp ha _ => by
      have hka := lt_of_get ha
      rw [List.length_append, List.length_singleton] at hka
      omega⟩
  rcases h1 with h1 | h1
  · exact ⟨⟨h', _⟩, by rw [h1]; rfl, h2, h3⟩
  · exact ⟨⟨h', _⟩, by rw [h1]; rfl, h2, h3⟩
theorem sink_body {h : List It} {c : Int} {i n k : Nat} (hb : h.length < 1000000000) (hi : i < h.length) (ho : okH h) {y : It} (hy : h[n]? = some y) :
    pqueue_Queue_stop_sink_l1 (i : Int) (h, c, (n : Int), (k : Int)) = match h[k]? with
      | some x => if k ≤ 2 * i + 2 then some (.inl (h, c, ((if bef x y = true then k else n : Nat) : Int), w64 ((k : Int) + 1))) else some (.inr (h, c, (n : Int)))
      | none => some (.inr (h, c, (n : Int))) := by
  simp only [pqueue_Queue_stop_sink_l1, oun]
  have e1 : w64 (w64 (2 * (i : Int)) + 2) = ((2 * i + 2 : Nat) : Int) := by
    rw [w64_eq (n := 2 * (i : Int)) (by omega) (by omega), w64_eq (by omega) (by omega)]; omega
  rw [e1]
  cases hx : h[k]? with
  | none =>
    have hk : h.length ≤ k := List.getElem?_eq_none_iff.1 hx
    rw [show decide ((k : Int) < ((h.length : Nat) : Int)) = false by simp; omega]
    cases decide ((k : Int) ≤ ((2 * i + 2 : Nat) : Int)) <;> rfl
  | some x =>
    have hk := lt_of_get hx
    rw [show decide ((k : Int) < ((h.length : Nat) : Int)) = true by simp; omega]
    by_cases h2 : k ≤ 2 * i + 2
    · rw [show decide ((k : Int) ≤ ((2 * i + 2 : Nat) : Int)) = true by simp only [decide_eq_true_eq]; omega]
      simp only [cond_true, Option.bind_some, if_pos h2]
      rw [before_eq (q := ⟨h, c⟩) hx hy (ho.get hx) (ho.get hy)]
      simp only [Option.bind_some]
      cases bef x y <;> rfl
    · rw [show decide ((k : Int) ≤ ((2 * i + 2 : Nat) : Int)) = false by simp only [decide_eq_false_iff_not]; omega]
      simp only [cond_false, Option.bind_some, if_neg h2]
theorem sink_next {F : Nat} {h : List It} {c : Int} {i : Nat} (hF : 3 ≤ F) (hb : h.length < 1000000000) (hi : i < h.length) (ho : okH h) :
    ∃ (n : Nat) (x : It), iter (pqueue_Queue_stop_sink_l1 (i : Int)) F (h, c, (i : Int), w64 (w64 (2 * (i : Int)) + 1)) = some (h, c, (n : Int)) ∧ (n = i ∨ n = 2 * i + 1 ∨ n = 2 * i + 2) ∧ h[n]? = some x ∧
      ∀ (j : Nat) (z : It), (j = i ∨ j = 2 * i + 1 ∨ j = 2 * i + 2) → h[j]? = some z → kle x z := by
  obtain ⟨F, rfl⟩ : ∃ f, F = f + 3 := ⟨F - 3, by omega⟩
  have e1 : w64 (w64 (2 * (i : Int)) + 1) = ((2 * i + 1 : Nat) : Int) := by
    rw [w64_eq (n := 2 * (i : Int)) (by omega) (by omega), w64_eq (by omega) (by omega)]; omega
  have hy : h[i]? = some h[i] := List.getElem?_eq_getElem hi
  generalize h[i] = y at hy
  rw [e1, iter, sink_body hb hi ho hy]
  cases hx : h[2 * i + 1]? with
  | none =>
    have hk : h.length ≤ 2 * i + 1 := List.getElem?_eq_none_iff.1 hx
    refine ⟨i, y, rfl, .inl rfl, hy, fun j z hj hz => ?_⟩
    have := lt_of_get hz
    obtain rfl : j = i := by omega
    rw [hy] at hz; injection hz with hz; subst hz; exact Lg.le_refl _
  | some x =>
    simp only [show 2 * i + 1 ≤ 2 * i + 2 by omega, if_true, Option.bind_some, osum]
    rw [w64_nat (by omega)]
    obtain ⟨n1, x1, hn1, hx1, hle1, hle2, hin⟩ : ∃ (n1 : Nat) (x1 : It), (if bef x y = true then 2 * i + 1 else i) = n1 ∧ h[n1]? = some x1 ∧ kle x1 y ∧ kle x1 x ∧ (n1 = i ∨ n1 = 2 * i + 1) := by
      cases hbe : bef x y with
      | true => exact ⟨2 * i + 1, x, rfl, hx, bef_le hbe, Lg.le_refl _, .inr rfl⟩
      | false => exact ⟨i, y, rfl, hy, Lg.le_refl _, bef_not hbe, .inl rfl⟩
    rw [hn1, iter, sink_body hb hi ho hx1]
    cases hx2 : h[2 * i + 1 + 1]? with
    | none =>
      have hk : h.length ≤ 2 * i + 2 := List.getElem?_eq_none_iff.1 hx2
      refine ⟨n1, x1, rfl, by omega, hx1, fun j z hj hz => ?_⟩
      have := lt_of_get hz
      rcases hj with rfl | rfl | rfl
      · rw [hy] at hz; injection hz with hz; subst hz; exact hle1
      · rw [hx] at hz; injection hz with hz; subst hz; exact hle2
      · omega
    | some x2 =>
      simp only [show 2 * i + 1 + 1 ≤ 2 * i + 2 by omega, if_true, Option.bind_some, osum]
      rw [w64_nat (by omega)]
      obtain ⟨n2, z2, hn2, hz2, hle3, hle4, hin2⟩ : ∃ (n2 : Nat) (z2 : It), (if bef x2 x1 = true then 2 * i + 1 + 1 else n1) = n2 ∧ h[n2]? = some z2 ∧ kle z2 x1 ∧ kle z2 x2 ∧ (n2 = n1 ∨ n2 = 2 * i + 2) := by
        cases hbe : bef x2 x1 with
        | true => exact ⟨2 * i + 2, x2, rfl, hx2, bef_le hbe, Lg.le_refl _, .inr rfl⟩
        | false => exact ⟨n1, x1, rfl, hx1, Lg.le_refl _, bef_not hbe, .inl rfl⟩
      rw [hn2, iter, sink_body hb hi ho hz2]
      have hfin : (match h[2 * i + 1 + 1 + 1]? with
          | some x => if 2 * i + 1 + 1 + 1 ≤ 2 * i + 2 then some (.inl (h, c, ((if bef x z2 = true then 2 * i + 1 + 1 + 1 else n2 : Nat) : Int), w64 (((2 * i + 1 + 1 + 1 : Nat) : Int) + 1))) else some (.inr (h, c, (n2 : Int)))
          | none => some (.inr (h, c, (n2 : Int))) : Option ((List It × Int × Int × Int) ⊕ (List It × Int × Int))) = some (.inr (h, c, (n2 : Int))) := by
        cases h[2 * i + 1 + 1 + 1]? with
        | none => rfl
        | some w => simp only []; rw [if_neg (by omega)]
      rw [hfin]
      refine ⟨n2, z2, rfl, by omega, hz2, fun j z hj hz => ?_⟩
      rcases hj with rfl | rfl | rfl
      · rw [hy] at hz; injection hz with hz; subst hz; exact Lg.le_trans hle3 hle1
      · rw [hx] at hz; injection hz with hz; subst hz; exact Lg.le_trans hle3 hle2
      · rw [hx2] at hz; injection hz with hz; subst hz; exact hle4
theorem sink_loop {F : Nat} (hF3 : 3 ≤ F) : ∀ (d : Nat) (i : Nat) (n : Nat) (h : List It) (c : Int), h.length - i ≤ d → d < n → i < h.length → h.length < 1000000000 → okH h → HpD h i →
    ∃ h', iter (pqueue_Queue_stop_sink_l2 F) n (h, c, (i : Int)) = some ⟨h', c⟩ ∧ h'.Perm h ∧ Hp h' := by
  intro d
  induction d with
  | zero => intro i n h c hd _ hl; omega
  | succ d ih =>
    intro i n h c hd hn hl hb ho hh
    obtain ⟨n, rfl⟩ : ∃ f, n = f + 1 := ⟨n - 1, by omega⟩
    obtain ⟨m, x, h1, h2, h3, h4⟩ := sink_next (c := c) hF3 hb hl ho
    have hml := lt_of_get h3
    have hy : h[i]? = some h[i] := List.getElem?_eq_getElem hl
    generalize h[i] = y at hy
    by_cases hmi : m = i
    · subst hmi
      refine ⟨h, ?_, .refl _, hh.stop h3 h4⟩
      rw [iter]
      simp only [pqueue_Queue_stop_sink_l2, oun, h1, Option.bind_some, decide_true, cond_true, osum]
    · have hpm := swp_perm hl hml
      obtain ⟨h', g1, g2, g3⟩ := ih m n (swp h i m) c (by rw [swp_length]; omega) (by omega) (by rw [swp_length]; exact hml) (by rw [swp_length]; exact hb) (ho.perm hpm) (hh.step hml (by omega) h3 hy h4)
      refine ⟨h', ?_, g2.trans hpm, g3⟩
      rw [iter]
      simp only [pqueue_Queue_stop_sink_l2, oun, h1, Option.bind_some]
      rw [show decide (((m : Nat) : Int) = ((i : Nat) : Int)) = false by simp only [decide_eq_false_iff_not]; omega]
      simp only [cond_false]
      rw [swap_eq (q := ⟨h, c⟩) hl hml]
      simp only [Option.bind_some, osum]
      exact g1
theorem sink_empty {F : Nat} (hF : 3 ≤ F) (c : Int) : pqueue_Queue_stop_sink F ⟨[], c⟩ = some ⟨[], c⟩ := by
  obtain ⟨F, rfl⟩ : ∃ f, F = f + 3 := ⟨F - 3, by omega⟩
  unfold pqueue_Queue_stop_sink
  rw [iter]
  simp only [pqueue_Queue_stop_sink_l2, oun]
  rw [iter]
  rfl
theorem Pop_nil (F : Nat) (q : Qu) (h : q.heap = []) : pqueue_Queue_stop_Pop F q = some (⟨0, ⟨0, 0⟩⟩, false, q) := by
  unfold pqueue_Queue_stop_Pop pqueue_Queue_stop_Peek pqueue_Queue_stop_Len
  rw [h]
  rfl
theorem Pop_eq {F : Nat} {q : Qu} (hF : q.heap.length + 3 ≤ F) (hb : q.heap.length < 1000000000) (ho : okH q.heap) (hh : Hp q.heap) (hne : q.heap ≠ []) :
    ∃ (x : It) (q' : Qu), pqueue_Queue_stop_Pop F q = some (x.value, true, q') ∧ (x :: q'.heap).Perm q.heap ∧ Hp q'.heap ∧ ∀ y ∈ q.heap, kle x y := by
  have hpos : 0 < q.heap.length := List.length_pos_iff.2 hne
  have hx : q.heap[0]? = some q.heap[0] := List.getElem?_eq_getElem hpos
  generalize q.heap[0] = x at hx
  have hmin : ∀ y ∈ q.heap, kle x y := fun y hy => by
    obtain ⟨k, hk⟩ := List.getElem?_of_mem hy
    exact hh.root hx k y hk
  have hx' : getI q.heap 0 = some x := by simpa [getI] using hx
  have e0 : w64 (((q.heap.length : Nat) : Int) - 1) = ((q.heap.length - 1 : Nat) : Int) := by rw [w64_eq (by omega) (by omega)]; omega
  have hlast : q.heap.length - 1 < q.heap.length := by omega
  obtain ⟨s, hs⟩ : ∃ s, swp q.heap 0 (q.heap.length - 1) = s := ⟨_, rfl⟩
  have hsl : s.length = q.heap.length := by rw [← hs, swp_length]
  have hsp : s.Perm q.heap := by rw [← hs]; exact swp_perm hpos hlast
  have hsx : s[q.heap.length - 1]? = some x := by rw [← hs, swp_get hpos hlast, if_pos rfl]; exact hx
  have htake : s = s.take (q.heap.length - 1) ++ [x] := by
    conv => lhs; rw [← List.take_append_drop (q.heap.length - 1) s]
    congr 1
    rw [List.drop_eq_getElem_cons (by omega)]
    rw [List.getElem?_eq_getElem (by omega)] at hsx
    injection hsx with hsx
    rw [hsx, List.drop_of_length_le (by omega)]
  have hperm : (x :: s.take (q.heap.length - 1)).Perm q.heap := by
    refine List.Perm.trans ?_ hsp
    conv => rhs; rw [htake]
    exact (List.perm_append_comm (l₁ := [x]) (l₂ := s.take (q.heap.length - 1)))
  have hclr : ∀ z : It, subO (clrO s ((q.heap.length - 1 : Nat) : Int) z) 0 ((q.heap.length - 1 : Nat) : Int) = some (s.take (q.heap.length - 1)) := by
    intro z
    rw [subO_take (by rw [length_clrO]; omega)]
    unfold clrO
    rw [Int.toNat_natCast, List.take_append_of_le_length (by simp; omega), List.take_take, Nat.min_self]
  have hsub : ∃ l, subO s ((q.heap.length - 1 : Nat) : Int) ((s.length : Nat) : Int) = some l := by
    unfold subO
    exact ⟨_, if_pos ⟨by omega, by omega, by omega⟩⟩
  obtain ⟨l, hl⟩ := hsub
  have hsw := swap_eq (q := q) hpos hlast
  rw [hs] at hsw
  have main : ∃ h', pqueue_Queue_stop_sink F ⟨s.take (q.heap.length - 1), q.count⟩ = some ⟨h', q.count⟩ ∧ h'.Perm (s.take (q.heap.length - 1)) ∧ Hp h' := by
    by_cases h1 : q.heap.length = 1
    · rw [show s.take (q.heap.length - 1) = [] by rw [h1]; rfl]
      exact ⟨[], sink_empty (by omega) _, .refl _, fun k a b _ ha => by simp at ha⟩
    · have htl : (s.take (q.heap.length - 1)).length = q.heap.length - 1 := by rw [List.length_take]; omega
      have ho2 : okH (s.take (q.heap.length - 1)) := fun y hy => ho y (hperm.mem_iff.1 (List.mem_cons_of_mem _ hy))
      obtain ⟨h', g1, g2, g3⟩ := sink_loop (F := F) (by omega) (q.heap.length) 0 F (s.take (q.heap.length - 1)) q.count (by omega) (by omega) (by omega) (by omega) ho2 ⟨fun k a b hk hkp ha hb => by
        have hk2 := lt_of_get ha
        rw [htl] at hk2
        rw [List.getElem?_take, if_pos hk2, ← hs, swp_get hpos hlast, if_neg (by omega), if_neg (by omega)] at ha
        rw [List.getElem?_take, if_pos (by omega), ← hs, swp_get hpos hlast, if_neg (by omega), if_neg (by omega)] at hb
        exact hh k a b hk ha hb, fun _ _ _ h0 => by omega⟩
      refine ⟨h', ?_, g2, g3⟩
      unfold pqueue_Queue_stop_sink
      rw [show (0 : Int) = ((0 : Nat) : Int) from rfl, g1]
      rfl
  obtain ⟨h', g1, g2, g3⟩ := main
  refine ⟨x, ⟨h', q.count⟩, ?_, (List.Perm.cons x g2).trans hperm, g3, hmin⟩
  unfold pqueue_Queue_stop_Pop pqueue_Queue_stop_Peek pqueue_Queue_stop_Len
  simp only [Option.bind_some]
  rw [show decide (((q.heap.length : Nat) : Int) = 0) = false by simp only [decide_eq_false_iff_not]; omega]
  simp only [cond_false, hx', Option.bind_some, oun, Bool.not_true, e0]
  rw [show (0 : Int) = ((0 : Nat) : Int) from rfl, hsw]
  simp only [Option.bind_some, hl]
  rw [show ((0 : Nat) : Int) = (0 : Int) from rfl, hclr]
  simp only [Option.bind_some, g1]
end Go.Proofs.YthpgjbbjpfiniaaGreat
