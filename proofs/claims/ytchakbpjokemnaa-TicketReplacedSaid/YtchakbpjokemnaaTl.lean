/- Tickets: every ticket is in the chain of one active ticket. -/
import Derived.Test.YtchakbpjokemnaaTk
namespace Go.Proofs.Ytchakbpjokemnaa
set_option linter.unusedSimpArgs false
set_option linter.unusedVariables false

theorem Path.le {l : List Tk} {i : Nat} {p : List Int} (h : Path l i p) : ∀ a ∈ p, 0 ≤ a ∧ a ≤ (i : Int) := by
  induction h with
  | stop _ _ => intro a ha; simp at ha; omega
  | more _ _ h1 _ _ _ _ _ ih =>
    intro a ha
    rcases List.mem_cons.1 ha with h | h
    · omega
    · have := ih a h; omega
/-- A replaced ticket is in a chain just as often as the one that replaces it. -/
theorem Path.count_child {l : List Tk} (v : Vl l) {j k : Nat} {y z : Tk} (hj : l[j]? = some y) (hk : l[k]? = some z) (hr : z.Replaces = y.ID) (hjk : j < k) {i : Nat} {p : List Int} (h : Path l i p) (hij : i ≠ j) :
    p.count (j : Int) = p.count (k : Int) := by
  have hz : z.Replaces ≠ 0 := by have := v.ids j y hj; omega
  induction h with
  | @stop i x hx hr0 =>
    have hik : i ≠ k := by rintro rfl; rw [hx] at hk; injection hk with hk; rw [hk] at hr0; exact hz hr0
    rw [List.count_singleton, List.count_singleton]
    have e1 : ((i : Int) == (j : Int)) = false := by simp; omega
    have e2 : ((i : Int) == (k : Int)) = false := by simp; omega
    simp [e1, e2]
  | @more i j' x y' p hx hr0 hji hy he e1 e2 hp ih =>
    rw [List.count_cons, List.count_cons]
    have g1 : ((i : Int) == (j : Int)) = false := by simp; omega
    by_cases hik : i = k
    · have hxz : x = z := by rw [hik, hk] at hx; injection hx with hx; exact hx.symm
      subst hxz
      have hjj : j' = j := v.uniq j' j y' y hy hj (by rw [he, hr])
      subst hjj
      obtain ⟨q, hq⟩ := hp.head
      have hq2 : q.count (j' : Int) = 0 := by
        subst hq
        cases hp with
        | stop _ _ => rfl
        | @more _ j2 x2 y2 q2 hx2 _ hlt _ _ _ _ hp2 =>
          rw [List.count_eq_zero]
          intro hm
          have := hp2.le _ hm
          omega
      have hk2 : p.count (k : Int) = 0 := by
        rw [List.count_eq_zero]
        intro hm
        have := hp.le _ hm
        omega
      have g2 : ((i : Int) == (k : Int)) = true := by simp; omega
      rw [hk2, g1, g2, hq, List.count_cons, hq2]
      simp
    · have hjj : j' ≠ j := by
        rintro rfl
        rw [hj] at hy; injection hy with hy
        subst hy
        exact hik (v.once i k x z hx hk hr0 (by rw [← he, hr]))
      have g2 : ((i : Int) == (k : Int)) = false := by simp; omega
      rw [ih hjj, g1, g2]
theorem Path.count_active {l : List Tk} (v : Vl l) {j : Nat} {y : Tk} (hj : l[j]? = some y) (hr : rpl l y.ID = false) {i : Nat} {p : List Int} (h : Path l i p) : p.count (j : Int) = if i = j then 1 else 0 := by
  have key : ∀ {i : Nat} {p : List Int}, Path l i p → i ≠ j → p.count (j : Int) = 0 := by
    intro i p h
    induction h with
    | @stop i x hx _ =>
      intro hij
      rw [List.count_singleton]
      have e1 : ((i : Int) == (j : Int)) = false := by simp; omega
      simp [e1]
    | @more i j' x y' p hx hr0 hji hy he e1 e2 hp ih =>
      intro hij
      have e1 : ((i : Int) == (j : Int)) = false := by simp; omega
      rw [List.count_cons, e1, ih ?_]
      · rfl
      · rintro rfl
        rw [hj] at hy; injection hy with hy
        subst hy
        unfold rpl at hr
        rw [List.any_eq_false] at hr
        exact hr x (List.mem_of_getElem? hx) (by simp [he])
  by_cases hij : i = j
  · subst hij
    rw [if_pos rfl]
    cases h with
    | stop _ _ => simp
    | @more _ j' x y' q hx _ hlt _ _ _ _ hp =>
      rw [List.count_cons]
      have : q.count (i : Int) = 0 := by
        rw [List.count_eq_zero]
        intro hm
        have := hp.le _ hm
        omega
      simp [this]
  · rw [if_neg hij]; exact key h hij
theorem count_flat {f : Int → List Int} (a : Int) : ∀ (l : List Int), (l.flatMap f).count a = (l.map fun i => (f i).count a).sum
  | [] => rfl
  | x :: l => by simp [List.flatMap_cons, List.count_append, count_flat a l]
def cof (l : List Tk) (i : Int) : List Int := (pf l l.length i.toNat).reverse
theorem act_nodup (l : List Tk) : (act l).Nodup := by
  unfold act
  rw [List.nodup_iff_pairwise_ne, List.pairwise_map]
  exact ((mp_sorted l 0).sublist List.filter_sublist).imp fun h => by omega
theorem act_mem {l : List Tk} {j : Nat} {y : Tk} (hj : l[j]? = some y) (hr : rpl l y.ID = false) : (j : Int) ∈ act l := by
  unfold act
  refine List.mem_map.2 ⟨(y.ID, (j : Int)), List.mem_filter.2 ⟨?_, by simp [hr]⟩, rfl⟩
  have : ∀ (l : List Tk) (k j : Nat) (y : Tk), l[j]? = some y → (y.ID, ((k + j : Nat) : Int)) ∈ mp k l := by
    intro l
    induction l with
    | nil => intro k j y h; simp at h
    | cons x l ih =>
      intro k j y h
      cases j with
      | zero => simp at h; subst h; simp [mp]
      | succ j =>
        have := ih (k + 1) j y (by simpa using h)
        rw [show k + 1 + j = k + (j + 1) by omega] at this
        exact List.mem_cons_of_mem _ this
  have := this l 0 j y hj
  rwa [Nat.zero_add] at this
theorem sum_zeros : ∀ (a : List Int), (a.map fun _ => (0 : Nat)).sum = 0
  | [] => rfl
  | x :: a => by simpa using sum_zeros a
theorem sum_ones {j : Nat} : ∀ (a : List Int), a.Nodup → (∀ i ∈ a, 0 ≤ i) → (j : Int) ∈ a → (a.map fun i => if i.toNat = j then 1 else 0).sum = 1
  | [], _, _, h => by cases h
  | x :: a, hn, h0, h => by
    rw [List.nodup_cons] at hn
    have hx0 := h0 x (by simp)
    rw [List.map_cons, List.sum_cons]
    rcases List.mem_cons.1 h with h | h
    · have : (a.map fun i => if i.toNat = j then 1 else 0).sum = 0 := by
        have : a.map (fun i => if i.toNat = j then 1 else 0) = a.map fun _ => 0 := by
          refine List.map_congr_left fun i hi => ?_
          rw [if_neg]
          intro he
          have := h0 i (by simp [hi])
          exact hn.1 (by rw [← h, show (j : Int) = i by omega]; exact hi)
        rw [this]
        exact sum_zeros a
      rw [this, if_pos (by omega)]
    · have hne : ¬ x.toNat = j := by
        intro he
        exact hn.1 (by rw [show x = (j : Int) by omega]; exact h)
      rw [if_neg hne, sum_ones a hn.2 (fun i hi => h0 i (by simp [hi])) h]
theorem count_all {l : List Tk} (v : Vl l) : ∀ (n j : Nat) (y : Tk), l.length - j ≤ n → l[j]? = some y → ((act l).flatMap (cof l)).count (j : Int) = 1
  | 0, j, y, hn, hj => by have := lt_of_get hj; omega
  | n + 1, j, y, hn, hj => by
    have hlt := lt_of_get hj
    rw [count_flat]
    have path : ∀ i ∈ act l, Path l i.toNat (pf l l.length i.toNat) := by
      intro i hi
      obtain ⟨k, x, rfl, hx, _⟩ := mem_act hi
      exact path_pf v l.length k x hx (Nat.le_of_lt (lt_of_get hx))
    cases hr : rpl l y.ID with
    | false =>
      have : (act l).map (fun i => (cof l i).count (j : Int)) = (act l).map fun i => if i.toNat = j then 1 else 0 := by
        refine List.map_congr_left fun i hi => ?_
        unfold cof
        rw [List.count_reverse]
        exact (path i hi).count_active v hj hr
      rw [this]
      refine sum_ones _ (act_nodup l) (fun i hi => ?_) (act_mem hj hr)
      obtain ⟨k, x, rfl, _⟩ := mem_act hi
      omega
    | true =>
      unfold rpl at hr
      obtain ⟨z, hz, he⟩ := List.any_eq_true.1 hr
      obtain ⟨k, hk⟩ := List.getElem?_of_mem hz
      have he : z.Replaces = y.ID := by simpa using he
      have hid := v.ids j y hj
      obtain ⟨j', y', h1, h2, h3⟩ := v.par k z hk (by omega)
      have hjj : j' = j := v.uniq j' j y' y h2 hj (by rw [h3, he])
      subst hjj
      have ih := count_all v n k z (by have := lt_of_get hk; omega) hk
      rw [count_flat] at ih
      rw [← ih]
      congr 1
      refine List.map_congr_left fun i hi => ?_
      unfold cof
      rw [List.count_reverse, List.count_reverse]
      refine (path i hi).count_child v hj hk he h1 ?_
      obtain ⟨i', x', rfl, hx', hra⟩ := mem_act hi
      simp only [Int.toNat_natCast]
      rintro rfl
      rw [hj] at hx'; injection hx' with hx'
      subst hx'
      unfold rpl at hra
      rw [hra] at hr
      cases hr

/-! the law's tally -/
def tally (n : Nat) (ps : List Int) : List Int := (List.range n).map fun (j : Nat) => (((ps.count (j : Int)) : Nat) : Int)
theorem length_tally (n : Nat) (ps : List Int) : (tally n ps).length = n := by simp [tally]
theorem tally_get {n j : Nat} (ps : List Int) (h : j < n) : (tally n ps)[j]? = some (((ps.count (j : Int)) : Nat) : Int) := by simp [tally, h]
theorem tally_set {n j : Nat} {ps : List Int} (h : j < n) : (tally n ps).set j ((((ps.count (j : Int)) : Nat) : Int) + 1) = tally n (ps ++ [(j : Int)]) := by
  refine List.ext_getElem? fun i => ?_
  rw [List.getElem?_set]
  by_cases hi : i < n
  · rw [tally_get _ hi, tally_get _ hi]
    by_cases hij : j = i
    · subst hij
      simp [length_tally, h, List.count_append]
    · have : ((j : Int) == (i : Int)) = false := by simp; omega
      rw [if_neg hij, List.count_append, List.count_singleton, this]
      simp
  · rw [List.getElem?_eq_none (by rw [length_tally]; omega), List.getElem?_eq_none (by rw [length_tally]; omega)]
    have : ¬ j = i := by omega
    simp [this]
theorem zero_tally (n : Nat) : List.replicate n (0 : Int) = tally n [] := by
  refine List.ext_getElem? fun i => ?_
  by_cases hi : i < n
  · rw [tally_get _ hi]; simp [hi]
  · rw [List.getElem?_eq_none (by simp; omega), List.getElem?_eq_none (by rw [length_tally]; omega)]
/-- What a chain is, from its first ticket on. -/
structure Chn (l : List Tk) (c : List Int) : Prop where
  at_ : ∀ (k : Nat) (a : Int), c[k]? = some a → ∃ (j : Nat) (x : Tk), a = (j : Int) ∧ l[j]? = some x ∧ (k = 0 → x.Replaces = 0) ∧ (∀ b, 0 < k → c[k - 1]? = some b → ∃ (i : Nat) (y : Tk), b = (i : Int) ∧ l[i]? = some y ∧ x.Replaces = y.ID)
theorem Path.chn {l : List Tk} {i : Nat} {p : List Int} (h : Path l i p) : Chn l p.reverse := by
  induction h with
  | @stop i x hx hr =>
    refine ⟨fun k a ha => ?_⟩
    cases k with
    | zero => simp at ha; exact ⟨i, x, ha.symm, hx, fun _ => hr, fun b hk => absurd hk (by omega)⟩
    | succ k => simp at ha
  | @more i j x y p hx hr hji hy he e1 e2 hp ih =>
    refine ⟨fun k a ha => ?_⟩
    rw [List.reverse_cons] at ha ⊢
    rcases Nat.lt_or_ge k p.reverse.length with hk | hk
    · rw [List.getElem?_append_left hk] at ha
      obtain ⟨j', x', h1, h2, h3, h4⟩ := ih.at_ k a ha
      refine ⟨j', x', h1, h2, h3, fun b hk0 hb => ?_⟩
      rw [List.getElem?_append_left (by omega)] at hb
      exact h4 b hk0 hb
    · rw [List.getElem?_append_right hk] at ha
      have hk1 : k = p.reverse.length := by
        rcases Nat.lt_or_ge (k - p.reverse.length) 1 with h | h
        · omega
        · rw [List.getElem?_eq_none (by simp only [List.length_singleton]; omega)] at ha; cases ha
      obtain ⟨q, hq⟩ := hp.head
      have hl : 0 < p.reverse.length := by rw [hq]; simp
      rw [hk1, Nat.sub_self] at ha
      simp at ha
      refine ⟨i, x, ha.symm, hx, fun h0 => by omega, fun b _ hb => ?_⟩
      rw [List.getElem?_append_left (by omega), hk1] at hb
      have : p.reverse[p.reverse.length - 1]? = some (j : Int) := by rw [hq]; simp
      rw [this] at hb; injection hb with hb
      exact ⟨j, y, hb.symm, hy, he.symm⟩
theorem chain_tally {l : List Tk} (hl : l.length ≤ 62) {c : List Int} (h : Chn l c) (hc : c.length ≤ 62) (ps : List Int) (hps : ps.length ≤ 10000) : iter (recyclinglaw27_TicketChains_l1 l c) (((c.length : Nat) : Int).toNat + 1) (tally l.length ps, 0) = some (.inl (tally l.length (ps ++ c))) := by
  have := iter_stI (body := recyclinglaw27_TicketChains_l1 l c) c (fun k => tally l.length (ps ++ c.take k)) (fun m k => (m, k)) (fun _ _ => none) (.inl (tally l.length (ps ++ c))) (by omega) (fun k a ha _ => ?_) (fun _ => by simp [recyclinglaw27_TicketChains_l1, oun]) (((c.length : Nat) : Int).toNat + 1) (by simp)
  · rw [firstI_none c 0 fun _ _ _ => rfl] at this
    simpa using this
  · have hk := lt_of_get ha
    have hk2 : ((k : Int) < (c.length : Nat)) := by omega
    obtain ⟨j, x, rfl, hx, h0, h1⟩ := h.at_ k a ha
    have hjl := lt_of_get hx
    have hcnt : (ps ++ c.take k).count (j : Int) ≤ 20000 := by
      refine Nat.le_trans List.count_le_length ?_
      simp
      omega
    have hfin : setI (tally l.length (ps ++ c.take k)) (j : Int) (w64 ((((ps ++ c.take k).count (j : Int) : Nat) : Int) + 1)) = tally l.length (ps ++ c.take (k + 1)) := by
      unfold setI
      rw [w64_eq (by omega) (by omega), Int.toNat_natCast, tally_set hjl, take_succ' ha, List.append_assoc]
    simp only [recyclinglaw27_TicketChains_l1, oun, hk2, decide_true, cond_true, getI_nat, ha, hx, Option.bind_some, pickO_none, tally_get _ hjl, show ¬ (j : Int) < 0 by omega, show ¬ ((l.length : Nat) : Int) ≤ (j : Int) by omega, decide_false, cond_false, hfin]
    by_cases hk0 : k = 0
    · subst hk0
      simp [h0 rfl]
    · have hk3 : w64 ((k : Int) - 1) = ((k - 1 : Nat) : Int) := by rw [w64_eq (by omega) (by omega)]; omega
      have hb : c[k - 1]? = some c[k - 1] := List.getElem?_eq_getElem (by omega)
      obtain ⟨i, y, hi, hy, hr⟩ := h1 _ (by omega) hb
      rw [hi] at hb
      simp only [show ¬ (k : Int) = 0 by omega, decide_false, cond_false, show (0 : Int) < (k : Int) by omega, decide_true, cond_true, hk3, getI_nat, hb, hy, hr, Option.bind_some, Bool.not_true]
theorem recyclinglaw27_TicketChains_true (l : List Tk) (_ : ∀ y ∈ l, wf_api_Ticket y) : ∃ F, recyclinglaw27_TicketChains F l = some true := by
  refine ⟨64, ?_⟩
  unfold recyclinglaw27_TicketChains
  by_cases hl : 60 < l.length
  · simp [show (60 : Int) < (l.length : Nat) by omega, awake_true]
  · simp only [show ¬ (60 : Int) < (l.length : Nat) by omega, decide_false, cond_false, Active_eq l (show l.length ≤ 512 by omega), Option.bind_some, oun]
    by_cases h : listR l = 0
    · have v := (listR_zero l).1 h
      have hact := length_act l
      have cof_len : ∀ i ∈ act l, (cof l i).length ≤ 61 := by
        intro i hi
        obtain ⟨k, x, rfl, hx, _⟩ := mem_act hi
        have := (path_pf v l.length k x hx (Nat.le_of_lt (lt_of_get hx))).len
        have := lt_of_get hx
        unfold cof
        simp only [List.length_reverse, Int.toNat_natCast]
        omega
      have flat_len : ∀ (a : List Int), (∀ i ∈ a, i ∈ act l) → (a.flatMap (cof l)).length ≤ a.length * 61 := by
        intro a
        induction a with
        | nil => intro _; simp
        | cons x a ih =>
          intro hm
          have := ih fun i hi => hm i (by simp [hi])
          have := cof_len x (hm x (by simp))
          simp only [List.flatMap_cons, List.length_append, List.length_cons]
          omega
      have hmk : makeO (0 : Int) ((l.length : Nat) : Int) = some (tally l.length []) := by
        unfold makeO
        rw [if_pos (by omega), ← zero_tally]
        simp
      have hloop := iter_stI (body := recyclinglaw27_TicketChains_l2 64 l (act l)) (act l) (fun k => tally l.length (((act l).take k).flatMap (cof l))) (fun m k => (m, k)) (fun _ _ => none) (.inl (tally l.length ((act l).flatMap (cof l)))) (by omega) (fun k a ha _ => by
        have hk := lt_of_get ha
        have hk2 : ((k : Int) < ((act l).length : Nat)) := by omega
        have hm := List.mem_of_getElem? ha
        obtain ⟨j, x, rfl, hx, _⟩ := mem_act hm
        have hjl := lt_of_get hx
        have hpath := path_pf v l.length j x hx (Nat.le_of_lt hjl)
        obtain ⟨c, e, g1, _, g3⟩ := Chain_both l (by omega) x.ID (F := 64) (by omega)
        obtain ⟨he, hc⟩ := g3 v j x hx rfl
        have hcc : cof l (j : Int) = c := by rw [hc]; simp [cof]
        obtain ⟨q, hq⟩ := hpath.head
        have hcl := cof_len _ hm
        rw [hcc] at hcl
        have hlast : c[c.length - 1]? = some (j : Int) := by rw [hc, hq]; simp
        have hpos : 0 < c.length := by rw [hc, hq]; simp
        have hc1 : w64 (((c.length : Nat) : Int) - 1) = ((c.length - 1 : Nat) : Int) := by rw [w64_eq (by omega) (by omega)]; omega
        have htl := chain_tally (by omega) (hc ▸ hpath.chn) (by omega) (((act l).take k).flatMap (cof l)) (by
          have := flat_len ((act l).take k) fun i hi => List.mem_of_mem_take hi
          rw [length_take' (Nat.le_of_lt hk)] at this
          omega)
        have hst : ((act l).take (k + 1)).flatMap (cof l) = ((act l).take k).flatMap (cof l) ++ c := by rw [take_succ' ha, List.flatMap_append]; simp [hcc]
        simp only [recyclinglaw27_TicketChains_l2, oun, hk2, decide_true, cond_true, getI_nat, ha, hx, Option.bind_some, pickO_none, show ¬ (j : Int) < 0 by omega, show ¬ ((l.length : Nat) : Int) ≤ (j : Int) by omega, decide_false, cond_false, g1, he, Bool.not_true,
          show ¬ ((c.length : Nat) : Int) = 0 by omega, hc1, hlast, htl, osum, hst]) (fun _ => by simp [recyclinglaw27_TicketChains_l2, oun]) ((((act l).length : Nat) : Int).toNat + 1) (by simp)
      rw [firstI_none (act l) 0 fun _ _ _ => rfl] at hloop
      have h0 : ((act l).take 0).flatMap (cof l) = [] := rfl
      simp only [h0] at hloop
      have hone := iter_firstI (tally l.length ((act l).flatMap (cof l))) (body := recyclinglaw27_TicketChains_l3 (tally l.length ((act l).flatMap (cof l)))) (fun _ _ => none) (.inl () : Unit ⊕ Bool) (by rw [length_tally]; omega) (fun k x hx => by
        have hk := lt_of_get hx
        have hk2 : ((k : Int) < ((tally l.length ((act l).flatMap (cof l))).length : Nat)) := by omega
        rw [length_tally] at hk
        have hx2 := hx
        rw [tally_get _ hk, count_all v l.length k _ (by omega) (List.getElem?_eq_getElem hk)] at hx2
        injection hx2 with hx2
        simp only [recyclinglaw27_TicketChains_l3, hk2, decide_true, cond_true, getI_nat, hx, Option.bind_some, ← hx2]
        simp) (by simp [recyclinglaw27_TicketChains_l3]) ((((tally l.length ((act l).flatMap (cof l))).length : Nat) : Int).toNat + 1) (by simp)
      rw [firstI_none _ 0 fun _ _ _ => rfl] at hone
      simp only [h, if_true, decide_true, Bool.not_true, cond_false, hmk, Option.bind_some, hloop, osum, hone, awake_true]
    · simp [h, awake_true]

end Go.Proofs.Ytchakbpjokemnaa
