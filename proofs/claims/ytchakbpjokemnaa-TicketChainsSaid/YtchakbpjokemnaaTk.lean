/- Tickets: totals. -/
import Derived.Test.YtchakbpjokemnaaTj
namespace Go.Proofs.Ytchakbpjokemnaa
set_option linter.unusedSimpArgs false
set_option linter.unusedVariables false

abbrev Sp := T_api_Span
def inW (w : T_api_Window) (x : Tk) : Bool := decide (w.From ≤ x.At ∧ x.At < w.To)
def net (s : List Sc) (x : Tk) : Sp := match ticket_Net 64 s x with
  | some p => p.1
  | none => ⟨0, 0⟩
def keep (l : List Tk) (w : T_api_Window) (x : Tk) : Bool := !rpl l x.ID && inW w x
def sumBy {α : Type} (f : α → Int) (l : List α) : Int := (l.map f).sum
@[simp] theorem sumBy_nil {α : Type} (f : α → Int) : sumBy f [] = 0 := rfl
@[simp] theorem sumBy_cons {α : Type} (f : α → Int) (x : α) (l : List α) : sumBy f (x :: l) = f x + sumBy f l := by simp [sumBy]
theorem sumBy_append {α : Type} (f : α → Int) : ∀ (a b : List α), sumBy f (a ++ b) = sumBy f a + sumBy f b
  | [], b => by simp
  | x :: a, b => by simp only [List.cons_append, sumBy_cons, sumBy_append f a b]; omega
theorem sumBy_bound {α : Type} {f : α → Int} {B : Int} : ∀ {l : List α}, (∀ x ∈ l, 0 ≤ f x ∧ f x ≤ B) → 0 ≤ sumBy f l ∧ sumBy f l ≤ l.length * B
  | [], _ => by simp
  | x :: l, h => by
    have h1 := h x (by simp)
    have h2 := sumBy_bound (l := l) fun y hy => h y (by simp [hy])
    rw [sumBy_cons, List.length_cons]
    have : ((l.length + 1 : Nat) : Int) * B = l.length * B + B := by rw [Int.natCast_add, Int.add_mul]; simp
    rw [this]
    omega
theorem sumBy_le {α : Type} {f g : α → Int} : ∀ {l : List α}, (∀ x ∈ l, f x ≤ g x) → sumBy f l ≤ sumBy g l
  | [], _ => by simp
  | x :: l, h => by
    have h1 := h x (by simp)
    have h2 := sumBy_le (l := l) fun y hy => h y (by simp [hy])
    rw [sumBy_cons, sumBy_cons]
    omega
theorem Net_zero {s : List Sc} (hs : s.length ≤ 20) {x : Tk} (hc : scR s = 0) (hf : recyclingref27_fault 64 s x = some 0) :
    ticket_Net 64 s x = some (net s x, 0) ∧ recyclingref27_Net 64 s x = some (net s x, 0) ∧ 0 ≤ (net s x).Lo ∧ (net s x).Lo ≤ (net s x).Hi ∧ (net s x).Hi ≤ 1073741824 := by
  obtain ⟨h1, _⟩ := scales_eq s hs
  obtain ⟨a, b, e, w1, w2, _⟩ := weigh_eq s x (F := 64) (by omega)
  obtain ⟨p, g1, g2⟩ := Net_eq s hs x (F := 64) (by omega)
  rw [hf] at w2
  injection w2 with w2
  have g3 : ∃ q, ticket_Net 64 s x = some (q, 0) := by
    unfold ticket_Net
    rw [h1, w1]
    simp [hc, ← w2, oun]
  obtain ⟨q, g3⟩ := g3
  have g4 : p = (q, 0) := by rw [g3] at g1; injection g1 with g1; exact g1.symm
  have hn : net s x = q := by unfold net; rw [g3]
  obtain ⟨_, n2⟩ := Net_spec s hs x (F := 64) (by omega) g3
  obtain ⟨sc, a', b', _, _, _, _, hp, q1, q2, q3, q4, q5, q6, _⟩ := n2 rfl
  rw [hn, g3, g2, g4]
  refine ⟨rfl, rfl, ?_⟩
  rw [hp]
  simp only
  omega
structure Good (s : List Sc) (l : List Tk) : Prop where
  sc : scR s = 0
  ok : ∀ x ∈ l, recyclingref27_fault 64 s x = some 0
  v : Vl l
theorem chk_good {s : List Sc} {l : List Tk} : chkR 64 s l = 0 ↔ Good s l := by
  have fz : ∀ (l : List Tk), ferr 64 s l = 0 ↔ ∀ x ∈ l, recyclingref27_fault 64 s x = some 0 := by
    intro l
    induction l with
    | nil => simp [first, ferr]
    | cons x l ih =>
      obtain ⟨_, _, e, _, w2, _⟩ := weigh_eq s x (F := 64) (by omega)
      unfold ferr at ih ⊢
      by_cases h : e = 0
      · simp only [first, w2, h, if_true, List.mem_cons, forall_eq_or_imp, true_and, Option.bind_some]
        exact ih
      · simp [first, w2, h]
  unfold chkR
  constructor
  · intro h
    by_cases h1 : scR s = 0
    · simp only [h1, ne_eq, not_true_eq_false, if_false] at h
      by_cases h2 : ferr 64 s l = 0
      · simp only [h2, ne_eq, not_true_eq_false, if_false] at h
        exact ⟨h1, (fz l).1 h2, (listR_zero l).1 h⟩
      · simp only [h2, ne_eq, not_false_eq_true, if_true] at h
    · simp only [h1, ne_eq, not_false_eq_true, if_true] at h
  · intro g
    simp [g.sc, (fz l).2 g.ok, (listR_zero l).2 g.v]

/-! the sum of spans -/
theorem Valid_eq {p : Sp} (h1 : -70368744177664 ≤ p.Lo) (h2 : p.Lo ≤ p.Hi) (h3 : p.Hi ≤ 70368744177664) : span_Valid p = some true := by
  unfold span_Valid
  simp [h1, h2, h3]
theorem Sum_eq (M : List Sp) (hl : M.length ≤ 1000) (h : ∀ p ∈ M, 0 ≤ p.Lo ∧ p.Lo ≤ p.Hi ∧ p.Hi ≤ 1073741824) : span_Sum M = some (⟨sumBy (·.Lo) M, sumBy (·.Hi) M⟩, 0) := by
  have lo : ∀ (K : List Sp), K.length ≤ 1000 → (∀ p ∈ K, p ∈ M) → 0 ≤ sumBy (·.Lo) K ∧ sumBy (·.Lo) K ≤ sumBy (·.Hi) K ∧ sumBy (·.Hi) K ≤ 1073741824000 := by
    intro K hK hM
    have b1 := (sumBy_bound (f := fun p : Sp => p.Lo) (B := 1073741824) (l := K) fun p hp => by have := h p (hM p hp); omega).1
    have b2 := (sumBy_bound (f := fun p : Sp => p.Hi) (B := 1073741824) (l := K) fun p hp => by have := h p (hM p hp); omega).2
    have b3 := sumBy_le (f := fun p : Sp => p.Lo) (g := fun p : Sp => p.Hi) (l := K) fun p hp => (h p (hM p hp)).2.1
    refine ⟨b1, b3, ?_⟩
    have : (K.length : Int) * 1073741824 ≤ 1000 * 1073741824 := Int.mul_le_mul_of_nonneg_right (by omega) (by omega)
    omega
  have hv : span_valid M = some true := by
    have := iter_firstI M (body := span_valid_l1 M) (fun _ _ => none) (.inl () : Unit ⊕ Bool) (by omega) (fun k x hx => by
      have hk := lt_of_get hx
      have hk2 : ((k : Int) < (M.length : Nat)) := by omega
      have hx2 := h x (List.mem_of_getElem? hx)
      simp [span_valid_l1, hk2, getI_nat, hx, Valid_eq (p := x) (by omega) (by omega) (by omega)]) (by simp [span_valid_l1]) (((M.length : Nat) : Int).toNat + 1) (by simp)
    unfold span_valid
    rw [this, firstI_none M 0 fun _ _ _ => rfl]
    rfl
  have he : span_ends_c54_c54 ⟨0, 0⟩ M = some ⟨sumBy (·.Lo) M, sumBy (·.Hi) M⟩ := by
    have := iter_stI (body := span_ends_c54_c54_l1 M) M (fun k => (sumBy (·.Lo) (M.take k), sumBy (·.Hi) (M.take k))) (fun m k => (m.1, m.2, k)) (fun _ _ => none) (sumBy (·.Lo) M, sumBy (·.Hi) M) (by omega) (fun k x hx _ => by
      have hk := lt_of_get hx
      have hk2 : ((k : Int) < (M.length : Nat)) := by omega
      have b1 := lo (M.take k) (by simp; omega) (fun p hp => List.mem_of_mem_take hp)
      have b2 := h x (List.mem_of_getElem? hx)
      simp only [span_ends_c54_c54_l1, oun, hk2, decide_true, cond_true, getI_nat, hx, Option.bind_some, span_sum, pickO_none, take_succ' hx, sumBy_append, sumBy_cons, sumBy_nil, Int.add_zero]
      rw [w64_eq (n := sumBy (·.Lo) (M.take k) + x.Lo) (by omega) (by omega), w64_eq (n := sumBy (·.Hi) (M.take k) + x.Hi) (by omega) (by omega)]) (fun _ => by simp [span_ends_c54_c54_l1, oun]) (((M.length : Nat) : Int).toNat + 1) (by simp)
    rw [firstI_none M 0 fun _ _ _ => rfl] at this
    have this : iter (span_ends_c54_c54_l1 M) (((M.length : Nat) : Int).toNat + 1) (0, 0, 0) = some (sumBy (·.Lo) M, sumBy (·.Hi) M) := this
    unfold span_ends_c54_c54
    simp only
    rw [this]
    rfl
  obtain ⟨b1, b2, b3⟩ := lo M hl fun p hp => hp
  unfold span_Sum span_result
  rw [hv, he]
  simp [show ¬ (65536 : Int) < (M.length : Nat) by omega, Valid_eq (p := ⟨sumBy (·.Lo) M, sumBy (·.Hi) M⟩) (by simp only; omega) b2 (by simp only; omega), oun]

/-! the masses of the active tickets in a window -/
def inWi (l : List Tk) (w : T_api_Window) (i : Int) : Bool := match getI l i with
  | some x => inW w x
  | none => false
def neti (s : List Sc) (l : List Tk) (i : Int) : Sp := match getI l i with
  | some x => net s x
  | none => ⟨0, 0⟩
theorem masses_list (s : List Sc) (l : List Tk) (w : T_api_Window) (q : Int → Bool) : ∀ (r : List Tk) (k : Nat), (∀ (i : Nat) (x : Tk), r[i]? = some x → getI l ((k + i : Nat) : Int) = some x) →
    ((((mp k r).filter fun p => q p.1).map Prod.snd).filter (inWi l w)).map (neti s l) = (r.filter fun x => q x.ID && inW w x).map (net s)
  | [], k, _ => rfl
  | x :: r, k, h => by
    have h0 := h 0 x rfl
    rw [Nat.add_zero] at h0
    have ih := masses_list s l w q r (k + 1) fun i y hy => by
      have := h (i + 1) y (by simpa using hy)
      rwa [show k + (i + 1) = k + 1 + i by omega] at this
    have g1 : inWi l w (k : Int) = inW w x := by unfold inWi; rw [h0]
    have g2 : neti s l (k : Int) = net s x := by unfold neti; rw [h0]
    cases hq : q x.ID with
    | false => simpa [mp, List.filter_cons, hq] using ih
    | true =>
      cases hw : inW w x with
      | false => simpa [mp, List.filter_cons, hq, g1, hw] using ih
      | true => simpa [mp, List.filter_cons, hq, g1, hw, g2] using ih
theorem mem_act {l : List Tk} {i : Int} (h : i ∈ act l) : ∃ (j : Nat) (x : Tk), i = (j : Int) ∧ l[j]? = some x ∧ rpl l x.ID = false := by
  unfold act at h
  obtain ⟨p, hp, rfl⟩ := List.mem_map.1 h
  rw [List.mem_filter] at hp
  obtain ⟨j, x, hx, rfl⟩ := mem_mp hp.1
  exact ⟨j, x, by simp, hx, by simpa using hp.2⟩
def totR (s : List Sc) (l : List Tk) (w : T_api_Window) : Sp × Int :=
  if chkR 64 s l ≠ 0 then (⟨0, 0⟩, chkR 64 s l) else if w.From < 0 ∨ w.To < w.From ∨ 3155760000 < w.To then (⟨0, 0⟩, 1)
  else (⟨sumBy (fun x => (net s x).Lo) (l.filter (keep l w)), sumBy (fun x => (net s x).Hi) (l.filter (keep l w))⟩, 0)
theorem bad_eq (w : T_api_Window) : (bif (decide (w.From < 0)) then some true else bif (decide (w.To < w.From)) then some true else some (decide (3155760000 < w.To))) = some (decide (w.From < 0 ∨ w.To < w.From ∨ 3155760000 < w.To)) := by
  by_cases h1 : w.From < 0
  · simp [h1]
  · by_cases h2 : w.To < w.From
    · simp [h1, h2]
    · simp [h1, h2]
theorem Total_both (s : List Sc) (hs : s.length ≤ 20) (l : List Tk) (hl : l.length ≤ 62) (w : T_api_Window) : ticket_Total 64 s l w = some (totR s l w) ∧ recyclingref27_Total 64 s l w = some (totR s l w) := by
  obtain ⟨c1, c2⟩ := TCheck_eq s hs l (by omega) (F := 64) (by omega)
  unfold ticket_Total recyclingref27_Total totR
  rw [c1, c2]
  by_cases hc : chkR 64 s l = 0
  · have g := chk_good.1 hc
    simp only [hc, Option.bind_some, decide_true, Bool.not_true, cond_false, bad_eq, ne_eq, not_true_eq_false, if_false]
    by_cases hw : w.From < 0 ∨ w.To < w.From ∨ 3155760000 < w.To
    · simp [hw]
    · simp only [hw, decide_false, cond_false, if_false, Active_eq l (show l.length ≤ 512 by omega), Option.bind_some, oun, (listR_zero l).2 g.v, if_true, decide_true, Bool.not_true]
      have hact := length_act l
      have nb : ∀ x ∈ l, 0 ≤ (net s x).Lo ∧ (net s x).Lo ≤ (net s x).Hi ∧ (net s x).Hi ≤ 1073741824 := fun x hx => (Net_zero hs g.sc (g.ok x hx)).2.2
      constructor
      · have := iter_stI (body := ticket_Total_l1 64 s l w (act l)) (act l) (fun k => (((act l).take k).filter (inWi l w)).map (neti s l)) (fun m k => (m, k)) (fun _ _ => none) (.inl (((act l).filter (inWi l w)).map (neti s l))) (by omega) (fun k i hi _ => by
          have hk := lt_of_get hi
          have hk2 : ((k : Int) < ((act l).length : Nat)) := by omega
          obtain ⟨j, x, rfl, hx, _⟩ := mem_act (List.mem_of_getElem? hi)
          have hn := (Net_zero hs g.sc (g.ok x (List.mem_of_getElem? hx))).1
          have e1 : inWi l w (j : Int) = inW w x := by unfold inWi; rw [getI_nat, hx]
          have e2 : neti s l (j : Int) = net s x := by unfold neti; rw [getI_nat, hx]
          have hlen := List.length_filter_le (inWi l w) ((act l).take k)
          rw [length_take' (Nat.le_of_lt hk)] at hlen
          simp only [ticket_Total_l1, oun, hk2, decide_true, cond_true, getI_nat, hi, hx, Option.bind_some, pickO_none, take_succ' hi, List.filter_append, List.map_append, hn]
          by_cases a1 : x.At < w.From
          · have : inW w x = false := by unfold inW; rw [decide_eq_false_iff_not]; omega
            simp [a1, osum, e1, this]
          · by_cases a2 : w.To ≤ x.At
            · have : inW w x = false := by unfold inW; rw [decide_eq_false_iff_not]; omega
              simp [a1, a2, osum, e1, this]
            · have : inW w x = true := by unfold inW; rw [decide_eq_true_iff]; omega
              rw [appO_eq (by simp only [List.length_map, List.length_singleton]; omega)]
              simp [a1, a2, osum, e1, this, e2]) (fun _ => by simp [ticket_Total_l1, oun]) ((((act l).length : Nat) : Int).toNat + 1) (by simp)
        rw [firstI_none (act l) 0 fun _ _ _ => rfl] at this
        have h0 : (((act l).take 0).filter (inWi l w)).map (neti s l) = [] := rfl
        simp only [h0] at this
        rw [this]
        have hm : ((act l).filter (inWi l w)).map (neti s l) = (l.filter (keep l w)).map (net s) := masses_list s l w (fun id => !rpl l id) l 0 fun i x hx => by rw [Nat.zero_add, getI_nat]; exact hx
        have hfl := List.length_filter_le (keep l w) l
        simp only [Option.bind_some, osum, hm]
        rw [Sum_eq _ (by simp only [List.length_map]; omega) (fun p hp => by
          obtain ⟨x, hx, rfl⟩ := List.mem_map.1 hp
          exact nb x (List.mem_filter.1 hx).1)]
        simp [sumBy, List.map_map, Function.comp_def]
      · have lo : ∀ (k : Nat), 0 ≤ sumBy (fun x => (net s x).Lo) ((l.take k).filter (keep l w)) ∧ sumBy (fun x => (net s x).Lo) ((l.take k).filter (keep l w)) ≤ 70000000000 ∧ 0 ≤ sumBy (fun x => (net s x).Hi) ((l.take k).filter (keep l w)) ∧ sumBy (fun x => (net s x).Hi) ((l.take k).filter (keep l w)) ≤ 70000000000 := by
          intro k
          have hlen := List.length_filter_le (keep l w) (l.take k)
          have hlen2 : (l.take k).length ≤ l.length := by rw [List.length_take]; omega
          have hb : ((((l.take k).filter (keep l w)).length : Nat) : Int) * 1073741824 ≤ 62 * 1073741824 := Int.mul_le_mul_of_nonneg_right (by omega) (by omega)
          have b1 := sumBy_bound (f := fun x : Tk => (net s x).Lo) (B := 1073741824) (l := (l.take k).filter (keep l w)) fun x hx => by have := nb x (List.mem_of_mem_take (List.mem_filter.1 hx).1); omega
          have b2 := sumBy_bound (f := fun x : Tk => (net s x).Hi) (B := 1073741824) (l := (l.take k).filter (keep l w)) fun x hx => by have := nb x (List.mem_of_mem_take (List.mem_filter.1 hx).1); omega
          omega
        have := iter_stI (body := recyclingref27_Total_l1 64 s l w) l (fun k => (sumBy (fun x => (net s x).Lo) ((l.take k).filter (keep l w)), sumBy (fun x => (net s x).Hi) ((l.take k).filter (keep l w)))) (fun m k => (m.1, m.2, k)) (fun _ _ => none)
          (sumBy (fun x => (net s x).Lo) (l.filter (keep l w)), sumBy (fun x => (net s x).Hi) (l.filter (keep l w))) (by omega) (fun k x hx _ => by
          have hk := lt_of_get hx
          have hk2 : ((k : Int) < (l.length : Nat)) := by omega
          have hn := (Net_zero hs g.sc (g.ok x (List.mem_of_getElem? hx))).2.1
          have hb := lo k
          have hb2 := nb x (List.mem_of_getElem? hx)
          simp only [recyclingref27_Total_l1, oun, hk2, decide_true, cond_true, getI_nat, hx, Option.bind_some, pickO_none, take_succ' hx, List.filter_append, sumBy_append, hn, replaced_eq (show l.length ≤ 1000 by omega) hx]
          cases hr : rpl l x.ID with
          | true =>
            have : keep l w x = false := by simp [keep, hr]
            simp [this]
          | false =>
            by_cases a1 : x.At < w.From
            · have : keep l w x = false := by have : inW w x = false := (by unfold inW; rw [decide_eq_false_iff_not]; omega); simp [keep, this]
              simp [a1, this]
            · by_cases a2 : w.To ≤ x.At
              · have : keep l w x = false := by have : inW w x = false := (by unfold inW; rw [decide_eq_false_iff_not]; omega); simp [keep, this]
                simp [a1, a2, this]
              · have : keep l w x = true := by have : inW w x = true := (by unfold inW; rw [decide_eq_true_iff]; omega); simp [keep, hr, this]
                rw [w64_eq (n := _ + (net s x).Lo) (by omega) (by omega), w64_eq (n := _ + (net s x).Hi) (by omega) (by omega)]
                simp [a1, a2, this]) (fun _ => by simp [recyclingref27_Total_l1, oun]) (((l.length : Nat) : Int).toNat + 1) (by simp)
        rw [firstI_none l 0 fun _ _ _ => rfl] at this
        have this : iter (recyclingref27_Total_l1 64 s l w) (((l.length : Nat) : Int).toNat + 1) (0, 0, 0) = some (sumBy (fun x => (net s x).Lo) (l.filter (keep l w)), sumBy (fun x => (net s x).Hi) (l.filter (keep l w))) := this
        rw [this]
        rfl
  · simp [hc]
theorem recyclinglaw27_TicketTotals_true (s : List Sc) (l : List Tk) (w : T_api_Window) (_ : ∀ y ∈ s, wf_api_Scale y) (_ : ∀ y ∈ l, wf_api_Ticket y) (_ : wf_api_Window w) : ∃ F, recyclinglaw27_TicketTotals F s l w = some true := by
  refine ⟨64, ?_⟩
  unfold recyclinglaw27_TicketTotals
  rw [great_eq]
  by_cases h : 20 < s.length ∨ 60 < l.length
  · simp [h, awake_true]
  · obtain ⟨h1, h2⟩ := Total_both s (by omega) l (by omega) w
    simp [h, h1, h2, oun, awake_true]
theorem keep_split (s : List Sc) (f : Tk → Int) (q : Tk → Bool) {a b c : Int} (hab : a ≤ b) (hbc : b ≤ c) : ∀ (l : List Tk), sumBy f (l.filter fun x => q x && inW ⟨a, c⟩ x) = sumBy f (l.filter fun x => q x && inW ⟨a, b⟩ x) + sumBy f (l.filter fun x => q x && inW ⟨b, c⟩ x)
  | [] => rfl
  | x :: l => by
    have ih := keep_split s f q hab hbc l
    simp only [List.filter_cons]
    cases q x with
    | false => simpa using ih
    | true =>
      simp only [Bool.true_and]
      by_cases h1 : a ≤ x.At ∧ x.At < b
      · have e1 : inW ⟨a, c⟩ x = true := by unfold inW; rw [decide_eq_true_iff]; simp only; omega
        have e2 : inW ⟨a, b⟩ x = true := by unfold inW; rw [decide_eq_true_iff]; simp only; omega
        have e3 : inW ⟨b, c⟩ x = false := by unfold inW; rw [decide_eq_false_iff_not]; simp only; omega
        simp only [e1, e2, e3, if_true, sumBy_cons, Bool.false_eq_true, if_false]
        omega
      · by_cases h2 : b ≤ x.At ∧ x.At < c
        · have e1 : inW ⟨a, c⟩ x = true := by unfold inW; rw [decide_eq_true_iff]; simp only; omega
          have e2 : inW ⟨a, b⟩ x = false := by unfold inW; rw [decide_eq_false_iff_not]; simp only; omega
          have e3 : inW ⟨b, c⟩ x = true := by unfold inW; rw [decide_eq_true_iff]; simp only; omega
          simp only [e1, e2, e3, if_true, sumBy_cons, Bool.false_eq_true, if_false]
          omega
        · have e1 : inW ⟨a, c⟩ x = false := by unfold inW; rw [decide_eq_false_iff_not]; simp only; omega
          have e2 : inW ⟨a, b⟩ x = false := by unfold inW; rw [decide_eq_false_iff_not]; simp only; omega
          have e3 : inW ⟨b, c⟩ x = false := by unfold inW; rw [decide_eq_false_iff_not]; simp only; omega
          simp only [e1, e2, e3, Bool.false_eq_true, if_false]
          exact ih
theorem tot_bound {s : List Sc} (hs : s.length ≤ 20) {l : List Tk} (hl : l.length ≤ 62) (g : Good s l) (q : Tk → Bool) : 0 ≤ sumBy (fun x => (net s x).Lo) (l.filter q) ∧ sumBy (fun x => (net s x).Lo) (l.filter q) ≤ 70000000000 ∧ 0 ≤ sumBy (fun x => (net s x).Hi) (l.filter q) ∧ sumBy (fun x => (net s x).Hi) (l.filter q) ≤ 70000000000 := by
  have nb : ∀ x ∈ l, 0 ≤ (net s x).Lo ∧ (net s x).Lo ≤ (net s x).Hi ∧ (net s x).Hi ≤ 1073741824 := fun x hx => (Net_zero hs g.sc (g.ok x hx)).2.2
  have hlen := List.length_filter_le q l
  have hb : (((l.filter q).length : Nat) : Int) * 1073741824 ≤ 62 * 1073741824 := Int.mul_le_mul_of_nonneg_right (by omega) (by omega)
  have b1 := sumBy_bound (f := fun x : Tk => (net s x).Lo) (B := 1073741824) (l := l.filter q) fun x hx => by have := nb x (List.mem_filter.1 hx).1; omega
  have b2 := sumBy_bound (f := fun x : Tk => (net s x).Hi) (B := 1073741824) (l := l.filter q) fun x hx => by have := nb x (List.mem_filter.1 hx).1; omega
  omega
theorem recyclinglaw27_TicketWindows_true (s : List Sc) (l : List Tk) (x : T_arr3_3) (_ : ∀ y ∈ s, wf_api_Scale y) (_ : ∀ y ∈ l, wf_api_Ticket y) (_ : wf_arr3_3 x) : ∃ F, recyclinglaw27_TicketWindows F s l x = some true := by
  refine ⟨64, ?_⟩
  unfold recyclinglaw27_TicketWindows
  rw [great_eq]
  by_cases h : 20 < s.length ∨ 60 < l.length
  · simp [h, awake_true]
  · by_cases h1 : x.e1 < x.e0
    · simp [h, h1, awake_true]
    · by_cases h2 : x.e2 < x.e1
      · simp [h, h1, h2, awake_true]
      · obtain ⟨t1, _⟩ := Total_both s (by omega) l (by omega) ⟨x.e0, x.e2⟩
        obtain ⟨t2, _⟩ := Total_both s (by omega) l (by omega) ⟨x.e0, x.e1⟩
        obtain ⟨t3, _⟩ := Total_both s (by omega) l (by omega) ⟨x.e1, x.e2⟩
        simp only [h, h1, h2, decide_false, cond_false, Option.bind_some, t1, t2, t3, oun]
        by_cases hc : chkR 64 s l = 0
        · have g := chk_good.1 hc
          by_cases hw : x.e0 < 0 ∨ x.e2 < x.e0 ∨ 3155760000 < x.e2
          · have e1 : totR s l ⟨x.e0, x.e2⟩ = (⟨0, 0⟩, 1) := by unfold totR; rw [if_neg (by simp [hc]), if_pos hw]
            rw [e1]
            simp [awake_true]
          · have e1 : totR s l ⟨x.e0, x.e2⟩ = (⟨sumBy (fun x => (net s x).Lo) (l.filter (keep l ⟨x.e0, x.e2⟩)), sumBy (fun x => (net s x).Hi) (l.filter (keep l ⟨x.e0, x.e2⟩))⟩, 0) := by unfold totR; rw [if_neg (by simp [hc]), if_neg hw]
            have e2 : totR s l ⟨x.e0, x.e1⟩ = (⟨sumBy (fun x => (net s x).Lo) (l.filter (keep l ⟨x.e0, x.e1⟩)), sumBy (fun x => (net s x).Hi) (l.filter (keep l ⟨x.e0, x.e1⟩))⟩, 0) := by unfold totR; rw [if_neg (by simp [hc]), if_neg (by simp only; omega)]
            have e3 : totR s l ⟨x.e1, x.e2⟩ = (⟨sumBy (fun x => (net s x).Lo) (l.filter (keep l ⟨x.e1, x.e2⟩)), sumBy (fun x => (net s x).Hi) (l.filter (keep l ⟨x.e1, x.e2⟩))⟩, 0) := by unfold totR; rw [if_neg (by simp [hc]), if_neg (by simp only; omega)]
            have s1 := keep_split s (fun x => (net s x).Lo) (fun x => !rpl l x.ID) (a := x.e0) (b := x.e1) (c := x.e2) (by omega) (by omega) l
            have s2 := keep_split s (fun x => (net s x).Hi) (fun x => !rpl l x.ID) (a := x.e0) (b := x.e1) (c := x.e2) (by omega) (by omega) l
            have b1 := tot_bound (by omega) (by omega) g (keep l ⟨x.e0, x.e1⟩)
            have b2 := tot_bound (by omega) (by omega) g (keep l ⟨x.e1, x.e2⟩)
            have u1 : w64 (sumBy (fun x => (net s x).Lo) (l.filter (keep l ⟨x.e0, x.e1⟩)) + sumBy (fun x => (net s x).Lo) (l.filter (keep l ⟨x.e1, x.e2⟩))) = sumBy (fun x => (net s x).Lo) (l.filter (keep l ⟨x.e0, x.e2⟩)) := by
              rw [w64_eq (by omega) (by omega)]; exact s1.symm
            have u2 : w64 (sumBy (fun x => (net s x).Hi) (l.filter (keep l ⟨x.e0, x.e1⟩)) + sumBy (fun x => (net s x).Hi) (l.filter (keep l ⟨x.e1, x.e2⟩))) = sumBy (fun x => (net s x).Hi) (l.filter (keep l ⟨x.e0, x.e2⟩)) := by
              rw [w64_eq (by omega) (by omega)]; exact s2.symm
            rw [e1, e2, e3]
            simp [u1, u2, awake_true]
        · have e1 : totR s l ⟨x.e0, x.e2⟩ = (⟨0, 0⟩, chkR 64 s l) := by unfold totR; rw [if_pos hc]
          rw [e1]
          simp [hc, awake_true]

end Go.Proofs.Ytchakbpjokemnaa
