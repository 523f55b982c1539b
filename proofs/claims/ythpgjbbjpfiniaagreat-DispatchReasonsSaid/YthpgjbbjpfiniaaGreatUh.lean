/- The plain laws of the tours: what a valid problem is; legs, and what a vehicle carries. -/
import Derived.Test.YthpgjbbjpfiniaaGreatUg
namespace Go.Proofs.YthpgjbbjpfiniaaGreat
open Go.RowKit
set_option linter.unusedSimpArgs false
set_option linter.unusedVariables false
abbrev Pr := T_api_Problem
abbrev Ve := T_api_Vehicle
abbrev De := T_api_Demand
abbrev Vi := T_api_Visit
structure OkV (n : Int) (v : Ve) : Prop where
  d0 : 0 ≤ v.Depot
  d1 : v.Depot < n
  s0 : 0 ≤ v.Shift.From
  s1 : v.Shift.From < v.Shift.To
  s2 : v.Shift.To ≤ 86400
  g0 : 1 ≤ v.Grams
  g1 : v.Grams ≤ 1073741824
  k0 : 1 ≤ v.Kinds
  k1 : v.Kinds < 65536
structure OkD (n : Int) (d : De) : Prop where
  n0 : 0 ≤ d.Node
  n1 : d.Node < n
  k0 : 0 ≤ d.Kind
  k1 : d.Kind < 16
  g0 : 0 ≤ d.Grams
  g1 : d.Grams ≤ 1073741824
  w0 : 0 ≤ d.When.From
  w1 : d.When.From ≤ d.When.To
  w2 : d.When.To ≤ 86400
  s0 : 0 ≤ d.Service
  s1 : d.Service ≤ 3600
structure OkP (p : Pr) : Prop where
  road : roadE p.Road = 0
  ve : ∀ v ∈ p.Vehicles, OkV p.Road.Nodes v
  de : ∀ d ∈ p.Demands, OkD p.Road.Nodes d
  dl : p.Demands.length ≤ 32
  u0 : 0 ≤ p.Unload
  u1 : p.Unload < p.Road.Nodes
  us0 : 0 ≤ p.UnloadSecs
  us1 : p.UnloadSecs ≤ 7200
theorem one_zero {v : Ve} {n : Int} (h : recyclingref20_one v n 16 = some 0) : OkV n v := by
  unfold recyclingref20_one at h
  obtain ⟨b, hb, h⟩ := obind h
  simp only [or_some, Option.bind_some, guardO_eq (show (0 : Int) ≤ 16 ∧ (16 : Int) ≤ 64 by decide)] at h
  rw [show w64 (1 * 2 ^ (16 : Int).toNat) = 65536 by decide] at h
  cases b with
  | false => cases h
  | true =>
    simp only [Bool.not_true, cond_false] at h
    cases h1 : (decide (v.Depot < 0) || decide (n ≤ v.Depot)) <;> rw [h1] at h
    · cases h2 : (decide (v.Shift.From < 0) || (decide (v.Shift.To ≤ v.Shift.From) || decide (86400 < v.Shift.To))) <;> rw [h2] at h
      · cases h3 : (decide (v.Grams < 1) || decide (1073741824 < v.Grams)) <;> rw [h3] at h
        · cases h4 : (decide (v.Kinds < 1) || decide (65536 ≤ v.Kinds)) <;> rw [h4] at h
          · simp only [Bool.or_eq_false_iff, decide_eq_false_iff_not] at h1 h2 h3 h4
            exact ⟨by omega, by omega, by omega, by omega, by omega, by omega, by omega, by omega, by omega⟩
          · cases h
        · cases h
      · cases h
    · cases h
theorem ref20_zero {l : List Ve} {n : Int} (h : recyclingref20_Check l n 16 = some 0) : ∀ v ∈ l, OkV n v := by
  by_cases hl : (16 : Int) < ((l.length : Nat) : Int)
  · unfold recyclingref20_Check at h
    simp only [or_some, Option.bind_some, hl, decide_true, cond_true] at h
    cases h1 : (decide (n < 1) || (decide (64 < n) || (decide ((16 : Int) < 1) || decide ((16 : Int) < 16)))) <;> rw [h1] at h
    · rw [show decide (((l.length : Nat) : Int) = 0) = false by simp; intro e; rw [e] at hl; exact absurd hl (by decide)] at h
      cases h
    · cases h
  · have e1 := iter_firstI (body := recyclingref20_Check_l1 l n 16) l (fun _ x => bif decide ((recyclingref20_one x n 16).getD 0 = 0) then none else some (.inr ((recyclingref20_one x n 16).getD 0))) (.inl () : Unit ⊕ Int) (by omega) (fun k x hx => by
      have hk := lt_of_get hx
      obtain ⟨e, he⟩ := one_some x n
      have hk2 : ((k : Int) < ((l.length : Nat) : Int)) := by omega
      simp only [recyclingref20_Check_l1, hk2, decide_true, cond_true, getI_nat, hx, Option.bind_some, he, Option.getD_some]
      cases decide (e = 0) <;> rfl) (by simp [recyclingref20_Check_l1]) (((l.length : Nat) : Int).toNat + 1) (by simp)
    unfold recyclingref20_Check at h
    rw [e1] at h
    rcases firstI_cases (step := fun (_ : Nat) (x : Ve) => bif decide ((recyclingref20_one x n 16).getD 0 = 0) then none else some (.inr ((recyclingref20_one x n 16).getD 0) : Unit ⊕ Int)) (fin := .inl ()) l 0 with ⟨h1, _⟩ | ⟨i, x, o, h1, h2, h3, _⟩
    · intro v hv
      obtain ⟨i, hi⟩ := List.getElem?_of_mem hv
      have := h1 i v hi
      obtain ⟨e, he⟩ := one_some v n
      rw [he, Option.getD_some] at this
      by_cases h0 : e = 0
      · subst h0; exact one_zero he
      · rw [show decide (e = 0) = false by simpa using h0] at this; cases this
    · rw [h3] at h
      obtain ⟨e, he⟩ := one_some x n
      rw [he, Option.getD_some] at h2
      by_cases h0 : e = 0
      · subst h0; cases h2
      · rw [show decide (e = 0) = false by simpa using h0] at h2
        injection h2 with h2
        subst h2
        simp only [or_some, Option.bind_some, osum] at h
        generalize (decide (n < 1) || _) = a at h
        generalize decide (((l.length : Nat) : Int) = 0) = b at h
        generalize decide ((16 : Int) < ((l.length : Nat) : Int)) = c at h
        cases a <;> cases b <;> cases c <;> simp at h <;> exact absurd h h0
theorem ref21_zero {l : List De} {n : Int} (h : recyclingref21_Check l n 16 = some 0) : (∀ d ∈ l, OkD n d) ∧ l.length ≤ 32 := by
  unfold recyclingref21_Check at h
  by_cases hl : (32 : Int) < ((l.length : Nat) : Int)
  · simp only [hl, decide_true, cond_true] at h
    cases h
  · refine ⟨?_, by omega⟩
    have e1 := iter_firstI (body := recyclingref21_Check_l1 l n 16) l (fun _ x => bif (decide (x.Container < 0) || (decide (256 ≤ x.Container) || (decide (x.Node < 0) || (decide (n ≤ x.Node) || (decide (x.Kind < 0) || decide (16 ≤ x.Kind)))))) then some (.inr 7) else
        bif (decide (x.Grams < 0) || (decide (1073741824 < x.Grams) || (decide (x.When.From < 0) || (decide (x.When.To < x.When.From) || (decide (86400 < x.When.To) || (decide (x.Service < 0) || decide (3600 < x.Service))))))) then some (.inr 1) else none) (.inl () : Unit ⊕ Int) (by omega) (fun k x hx => by
      have hk := lt_of_get hx
      have hk2 : ((k : Int) < ((l.length : Nat) : Int)) := by omega
      simp only [recyclingref21_Check_l1, hk2, decide_true, cond_true, getI_nat, hx, Option.bind_some, or_some]
      generalize (decide (x.Container < 0) || _) = a
      generalize (decide (x.Grams < 0) || _) = b
      cases a <;> cases b <;> rfl) (by simp [recyclingref21_Check_l1]) (((l.length : Nat) : Int).toNat + 1) (by simp)
    rw [e1] at h
    rcases firstI_cases (step := fun (_ : Nat) (x : De) => bif (decide (x.Container < 0) || (decide (256 ≤ x.Container) || (decide (x.Node < 0) || (decide (n ≤ x.Node) || (decide (x.Kind < 0) || decide (16 ≤ x.Kind)))))) then some (.inr 7 : Unit ⊕ Int) else
        bif (decide (x.Grams < 0) || (decide (1073741824 < x.Grams) || (decide (x.When.From < 0) || (decide (x.When.To < x.When.From) || (decide (86400 < x.When.To) || (decide (x.Service < 0) || decide (3600 < x.Service))))))) then some (.inr 1) else none) (fin := .inl ()) l 0 with ⟨h1, _⟩ | ⟨i, x, o, h1, h2, h3, _⟩
    · intro v hv
      obtain ⟨i, hi⟩ := List.getElem?_of_mem hv
      have := h1 i v hi
      simp only [cond_eq_ite, Bool.or_eq_true, decide_eq_true_eq] at this
      split at this
      · cases this
      · split at this
        · cases this
        · exact ⟨by omega, by omega, by omega, by omega, by omega, by omega, by omega, by omega, by omega, by omega, by omega⟩
    · rw [h3] at h
      simp only [cond_eq_ite] at h2
      split at h2
      · injection h2 with h2; subst h2
        simp only [hl, decide_false, cond_false, Option.bind_some, osum] at h
        cases h
      · split at h2
        · injection h2 with h2; subst h2
          simp only [hl, decide_false, cond_false, Option.bind_some, osum] at h
          cases h
        · cases h2
theorem OkP.of {p : Pr} (hn : p.Road.Edges.length ≤ 600) (h : recyclingref22_Check p = some 0) : OkP p := by
  unfold recyclingref22_Check at h
  rw [ref19_Check_eq _ hn] at h
  simp only [Option.bind_some, or_some] at h
  by_cases h1 : roadE p.Road = 0
  · simp only [h1, decide_true, Bool.not_true, cond_false] at h
    obtain ⟨e2, he2, h⟩ := obind h
    by_cases h2 : e2 = 0
    · subst h2
      simp only [decide_true, Bool.not_true, cond_false] at h
      obtain ⟨e3, he3, h⟩ := obind h
      by_cases h3 : e3 = 0
      · subst h3
        simp only [decide_true, Bool.not_true, cond_false] at h
        obtain ⟨g1, g2⟩ := ref21_zero he3
        cases h4 : (decide (p.Unload < 0) || decide (p.Road.Nodes ≤ p.Unload)) <;> rw [h4] at h
        · cases h5 : (decide (p.UnloadSecs < 0) || decide (7200 < p.UnloadSecs)) <;> rw [h5] at h
          · simp only [Bool.or_eq_false_iff, decide_eq_false_iff_not] at h4 h5
            exact ⟨h1, ref20_zero he2, g1, g2, by omega, by omega, by omega, by omega⟩
          · cases h
        · cases h
      · rw [show decide (e3 = 0) = false by simpa using h3] at h
        simp only [Bool.not_false, cond_true, Option.some.injEq] at h
        exact absurd h h3
    · rw [show decide (e2 = 0) = false by simpa using h2] at h
      simp only [Bool.not_false, cond_true, Option.some.injEq] at h
      exact absurd h h2
  · rw [show decide (roadE p.Road = 0) = false by simpa using h1] at h
    simp only [Bool.not_false, cond_true, Option.some.injEq] at h
    exact absurd h h1
def legsP (p : Pr) (a : Int) : List Lg := match recyclingref19_Legs p.Road a with | some (L, _) => L | none => []
def legP (p : Pr) (a b : Int) : Lg := lab (legsP p a) b
theorem legsP_h {p : Pr} (hp : OkP p) {a : Int} (ha : 0 ≤ a ∧ a < p.Road.Nodes) : IsL p.Road a (legsP p a) ∧ recyclingref19_Legs p.Road a = some (legsP p a, 0) ∧ ∀ F, 40000 ≤ F → road_Legs F p.Road a = some (legsP p a, 0) := by
  obtain ⟨L, h1, h2, h3⟩ := legs_both hp.road ha
  have : legsP p a = L := by unfold legsP; rw [h3]
  rw [this]
  exact ⟨h1, h3, h2⟩
theorem legP_bound {p : Pr} (hp : OkP p) {a b : Int} (ha : 0 ≤ a ∧ a < p.Road.Nodes) (hb : 0 ≤ b ∧ b < p.Road.Nodes) : (legP p a b = noL ∨ 0 ≤ (legP p a b).Secs) ∧ -1 ≤ (legP p a b).Secs ∧ (legP p a b).Secs ≤ 6400000 ∧ 0 ≤ (legP p a b).Meters ∧ (legP p a b).Meters ≤ 6400000 := by
  obtain ⟨h1, _⟩ := legsP_h hp ha
  have hr := OkR.of hp.road
  have h2 := hr.n2
  have h3 := h1.len
  rcases h1.lb b hb.1 hb.2 with h4 | ⟨k, h4, h5⟩
  · unfold legP
    rw [h4]
    exact ⟨.inl rfl, by decide, by decide, by decide, by decide⟩
  · have h6 := h5.bound hr
    unfold legP
    exact ⟨.inr (by omega), by omega, by omega, by omega, by omega⟩
theorem rLeg_eq {p : Pr} (hp : OkP p) {a b : Int} (ha : 0 ≤ a ∧ a < p.Road.Nodes) (hb : 0 ≤ b ∧ b < p.Road.Nodes) : recyclingref22_Leg p a b = some (legP p a b) := by
  obtain ⟨h1, h2, _⟩ := legsP_h hp ha
  have h3 := h1.len
  unfold recyclingref22_Leg
  rw [h2]
  simp only [Option.bind_some, oun, or_some, decide_true, Bool.not_true, Bool.false_or]
  rw [show (decide (b < 0) || decide ((((legsP p a).length : Nat) : Int) ≤ b)) = false by simp; omega]
  simp only [cond_false]
  rw [lab_get hb.1 (by omega)]
  rfl
def okC (p : Pr) (m : List (Int × List Lg)) : Prop := ∀ n L, mget n m = some L → L = legsP p n
theorem leg_eq {F : Nat} (hF : 40000 ≤ F) {w : T_tour_walk} (hp : OkP w.p) (hc : okC w.p w.legs) {b : Int} (ha : 0 ≤ w.place.node ∧ w.place.node < w.p.Road.Nodes) (hb : 0 ≤ b ∧ b < w.p.Road.Nodes) :
    ∃ m, tour_walk_leg F w b = some (legP w.p w.place.node b, decide (0 ≤ (legP w.p w.place.node b).Secs), ⟨w.place, w.p, w.v, m, w.visits⟩) ∧ okC w.p m := by
  obtain ⟨h1, _, h2⟩ := legsP_h hp ha
  have h3 := h1.len
  have hg : getI (legsP w.p w.place.node) b = some (legP w.p w.place.node b) := lab_get hb.1 (by omega)
  unfold tour_walk_leg
  cases hm : mget w.place.node w.legs with
  | none =>
    refine ⟨mput w.place.node (legsP w.p w.place.node) w.legs, ?_, fun n L hL => ?_⟩
    · simp only [Option.isSome_none, Bool.not_false, cond_true, h2 F hF, Option.bind_some, oun, hg]
    · by_cases hn : n = w.place.node
      · subst hn
        rw [mget_mput_same] at hL
        injection hL with hL; exact hL.symm
      · rw [mget_mput_ne hn] at hL
        exact hc n L hL
  | some L =>
    have := hc _ _ hm
    subst this
    refine ⟨w.legs, ?_, hc⟩
    simp only [Option.isSome_some, Bool.not_true, cond_false, Option.bind_some, oun, Option.getD_some, hg]
def carB (v : Ve) (k : Int) : Bool := decide ((v.Kinds / 2 ^ k.toNat) % 2 = 1)
theorem and1 {x : Int} (h0 : 0 ≤ x) (h1 : x < 65536) : andI .i64 x 1 = x % 2 := by
  obtain ⟨n, rfl⟩ : ∃ n : Nat, x = n := ⟨x.toNat, by omega⟩
  unfold andI
  have e1 : (BitVec.ofInt IntKind.i64.bits (n : Int) &&& BitVec.ofInt IntKind.i64.bits 1).toNat = n % 2 := by
    rw [BitVec.toNat_and]
    have e2 : (BitVec.ofInt IntKind.i64.bits (n : Int)).toNat = n := by
      rw [BitVec.toNat_ofInt]
      show (((n : Int) % ((2 ^ 64 : Nat) : Int)).toNat) = n
      omega
    have e3 : (BitVec.ofInt IntKind.i64.bits 1).toNat = 1 := by decide
    rw [e2, e3, Nat.and_one_is_mod]
  rw [e1]
  have : IntKind.i64.wrap ((n % 2 : Nat) : Int) = w64 ((n % 2 : Nat) : Int) := rfl
  rw [this, w64_eq (by omega) (by omega)]
  omega
theorem kdiv {v : Ve} {n : Int} (hv : OkV n v) (k : Nat) : 0 ≤ v.Kinds / 2 ^ k ∧ v.Kinds / 2 ^ k < 65536 := by
  have h0 := hv.k0
  have h1 := hv.k1
  have h2 : (0 : Int) < 2 ^ k := Int.pow_pos (by decide)
  refine ⟨Int.ediv_nonneg (by omega) (by omega), ?_⟩
  have : v.Kinds / 2 ^ k ≤ v.Kinds := Int.ediv_le_self _ (by omega)
  omega
theorem Carries_eq {v : Ve} {n : Int} (hv : OkV n v) {k : Int} (h0 : 0 ≤ k) (h1 : k < 16) : vehicle_Carries v k = some (carB v k) ∧ recyclingref20_Carries v k = some (carB v k) := by
  have h2 := kdiv hv k.toNat
  have h3 := hv.k0
  have h4 := hv.k1
  constructor
  · unfold vehicle_Carries carB
    rw [show decide (0 ≤ k) = true by simpa using h0, show decide (k < 16) = true by simpa using h1]
    simp only [cond_true, guardO_eq (show 0 ≤ k ∧ k ≤ 64 by omega), Option.bind_some, and1 h2.1 h2.2]
  · unfold recyclingref20_Carries carB
    simp only [or_some, Option.bind_some]
    rw [show (decide (k < 0) || decide (16 ≤ k)) = false by simp; omega]
    simp only [cond_false, guardO_eq (show 0 ≤ k ∧ k ≤ 64 by omega), Option.bind_some]
    have e1 : IntKind.u64.wrap v.Kinds = v.Kinds := by
      show v.Kinds % 18446744073709551616 = v.Kinds
      omega
    rw [e1, Int.tmod_eq_emod_of_nonneg h2.1]
end Go.Proofs.YthpgjbbjpfiniaaGreat
