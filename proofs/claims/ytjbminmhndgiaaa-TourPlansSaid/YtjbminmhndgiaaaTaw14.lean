/- Printed by gen2.py of this repo: the walks that tie the functions to their specifications. -/
import Derived.Test.YtjbminmhndgiaaaTt
import Derived.Test.YtjbminmhndgiaaaTas
import Derived.Test.YtjbminmhndgiaaaTaw1
import Derived.Test.YtjbminmhndgiaaaTaw2
import Derived.Test.YtjbminmhndgiaaaTaw3
import Derived.Test.YtjbminmhndgiaaaTaw5
import Derived.Test.YtjbminmhndgiaaaTaw6
import Derived.Test.YtjbminmhndgiaaaTaw7
namespace Go.Proofs.Ytjbminmhndgiaaa
open Go.RowKit
set_option linter.unusedSimpArgs false
set_option linter.unusedVariables false
set_option maxRecDepth 4000
attribute [local irreducible] WP SemOk SemU Fn AN Upd vcR vcO vcOps vcPlan putK fillK resK inBlk forkOne Cell StAt Kept KS

variable {μ : Gh} {L : List Seg} {R : Value → Gh → List Seg → Prop}
theorem recyclingref22_LargePlan_fn  {x1 : T_api_Plan} {A1 : Option Addr} {c1 : Nat} {A2 : Option Addr} {c2 : Nat} {res1 : Bool}
    (hl1 : x1.Tours.length ≤ c1 ∧ c1 ≤ maxLen) (hA1 : ArrR r_api_Tour μ A1 x1.Tours) (hl2 : x1.Left.length ≤ c2 ∧ c2 ≤ maxLen) (hA2 : ArrR rInt μ A2 x1.Left) (h : recyclingref22_LargePlan x1 = some res1)
    (hR : R (.bool res1) μ (L)) :
    Fn Try.prog 22 [.agg #[.slice A1 x1.Tours.length c1, .slice A2 x1.Left.length c2]] μ (L) R := by
  unfold recyclingref22_LargePlan at h
  refine FnS Try.func22 (by kernel_rfl) E Try.ntmps22 E E ?_
  refine G2 2 [] [11] [] E (Al E fun _ => Q0 4 E ?_)
  refine Cut h (fun f l o_ f_ μ_ l_ => ∃ (v1 : Bool), v1 = o_ ∧ SubFr ((14, .bool v1) :: keepF [1] f) f_ ∧ SegSub l l_ ∧ μ = μ_) ?_ ?_
  · intro _ h6152 h
    refine G1 6 [0] E ?_
    refine Br h6152 9 E E (fun hc1 h6152 => ?_) (fun hc1 h6152 => ?_)
    · refine G2 6 [9] [] [] E ?_
      cases h6152
      exact Ce E ⟨_, rfl, fE E, sE [some 0] 1 E, rfl⟩
    refine G2 6 [] [9] [0] E ?_
    cases h6152
    exact Ce E ⟨_, rfl, fE E, sE [some 0] 1 E, rfl⟩
  rintro _ _ _ _ h _ ⟨v1, rfl, hF6152, hS6152, rfl⟩
  refine Atn 1 hF6152 hS6152 E E ?_
  refine Br h 14 E E (fun hc2 h => ?_) (fun hc2 h => ?_)
  · refine G2 5 [14] [] [] E ?_
    cases h
    exact Rt [] E E (Ug [] 1 hR)
  refine G2 10 [] [14] [0] E ?_
  refine Cut h (fun f l o_ f_ μ_ l_ => (.inl ()) = o_ ∧ SubFr ([]) f_ ∧ SegSub (selS [] 1 l) l_ ∧ μ = μ_) ?_ ?_
  · intro _ h6155 h
    refine Lp h6155 (fun f l (v2 : Int) f_ μ_ l_ => SubFr ((18, .int .i64 v2) :: keepF [16, 17] f) f_ ∧ SegSub (selS [] 1 l) l_ ∧ μ = μ_) ⟨fE E, sE [] 1 E, E⟩ ?_
    rintro v2 _ _ _ _ _ ⟨hF6162, hS6162, rfl⟩ hb6162 hq6162
    unfold recyclingref22_LargePlan_l1 at hb6162
    refine Atn 0 hF6162 hS6162 E E (G0 5 E ?_)
    refine Br hb6162 19 E E (fun hc3 hb6162 => ?_) (fun hc3 hb6162 => ?_)
    · refine G2 6 [19] [] [] E (Ix hb6162 (ArrR.rds hA1 L) E E fun _ _ _ _ hr1 hc4 _ hb6162 => ?_)
      obtain ⟨_, _, rfl, _, _⟩ := hr1
      refine Q3 1 [] [] [64] (Z1 hc4) E (Al E fun _ => Q1 9 [0, 0] E ?_)
      refine Br hb6162 25 E E (fun hc5 hb6162 => ?_) (fun hc5 hb6162 => ?_)
      · refine G2 5 [25] [] [] E ?_
        cases hb6162
        have hq_ := hq6162 _ E
        subst hq_
        replace h := osum_r h
        cases h
        exact Rt [] E E (Ug [] 1 hR)
      refine G2 7 [] [25] [] E ?_
      cases hb6162
      exact Ce E ⟨_, rfl, fE E, sE [] 1 E, rfl⟩
    refine G2 2 [] [19] [] E ?_
    cases hb6162
    have hq_ := hq6162 _ E
    subst hq_
    exact Ce E ⟨rfl, fE E, sE [] 0 E, rfl⟩
  rintro _ _ _ _ h _ ⟨rfl, hF6155, hS6155, rfl⟩
  replace h := osum_l h
  refine Atn 0 hF6155 hS6155 E E (G0 4 E ?_)
  cases h
  exact Rt [] E E (Ug [] 0 hR)

theorem recyclingref22_counts_fn  {p1 : T_api_Problem} {x1 : T_api_Plan} {A1 : Option Addr} {c1 : Nat} {A2 : Option Addr} {c2 : Nat} {A3 : Option Addr} {c3 : Nat} {A4 : Option Addr} {c4 : Nat} {A5 : Option Addr} {c5 : Nat} {res1 : (List Int)} {res2 : Int}
    (hl1 : p1.Road.Edges.length ≤ c1 ∧ c1 ≤ maxLen) (hA1 : ArrR r_api_Edge μ A1 p1.Road.Edges) (hl2 : p1.Vehicles.length ≤ c2 ∧ c2 ≤ maxLen) (hA2 : ArrR r_api_Vehicle μ A2 p1.Vehicles) (hl3 : p1.Demands.length ≤ c3 ∧ c3 ≤ maxLen) (hA3 : ArrR r_api_Demand μ A3 p1.Demands) (hl4 : x1.Tours.length ≤ c4 ∧ c4 ≤ maxLen) (hA4 : ArrR r_api_Tour μ A4 x1.Tours) (hl5 : x1.Left.length ≤ c5 ∧ c5 ≤ maxLen) (hA5 : ArrR rInt μ A5 x1.Left) (h : recyclingref22_counts p1 x1 = some (res1, res2))
    (hR : ∀ (A0 : Option Addr) (c0 : Nat) (ch0 : Seg), Own rInt 3 μ (.slice A0 res1.length c0) res1 ch0 → R (.tuple #[.slice A0 res1.length c0, .int .i64 res2]) μ (ch0 :: L)) :
    Fn Try.prog 40 [.agg #[.int .i64 p1.Road.Nodes, .slice A1 p1.Road.Edges.length c1, .slice A2 p1.Vehicles.length c2, .slice A3 p1.Demands.length c3, .int .i64 p1.Unload, .int .i64 p1.UnloadSecs], .agg #[.slice A4 x1.Tours.length c4, .slice A5 x1.Left.length c5]] μ (L) R := by
  unfold recyclingref22_counts at h
  refine FnS Try.func40 (by kernel_rfl) E Try.ntmps40 E E ?_
  refine G0 2 E (Al E fun _ => Q0 0 E (Al E fun g2 => Q1 8 [1] E (So E (O_mksl E E ?_))))
  obtain ⟨_, hn1, h⟩ := obind h
  refine sem_mkO (r := rInt) (z := 0) (zc := [.int .i64 0]) Tt_ok E E E E E (E) E hn1 fun A6 c6 ch1 hO1 => Q1 10 [1] E ?_
  refine Cut h (fun f l o_ f_ μ_ l_ => ∃ (out6 : (List Int)) (A13 : Option Addr) (c13 : Nat) (ch8 : Seg), out6 = o_ ∧ SubFr ((6, .slice A13 out6.length c13) :: keepF [3] f) f_ ∧ SegSub ([(g2, .cells #[.slice A4 x1.Tours.length c4, .slice A5 x1.Left.length c5] 56 (0, 0))] :: ch8 :: selS [] 3 l) l_ ∧ Own rInt 3 μ_ (.slice A13 out6.length c13) out6 ch8 ∧ μ = μ_) ?_ ?_
  · intro _ h6327 h
    refine Lp h6327 (fun f l (j_ : (List Int) × Int) f_ μ_ l_ => ounP j_ fun out1 v1 => ∃ (A7 : Option Addr) (c7 : Nat) (ch2 : Seg), SubFr ((6, .slice A7 out1.length c7) :: (20, .int .i64 v1) :: keepF [3, 18, 19] f) f_ ∧ SegSub ([(g2, .cells #[.slice A4 x1.Tours.length c4, .slice A5 x1.Left.length c5] 56 (0, 0))] :: ch2 :: selS [] 3 l) l_ ∧ Own rInt 3 μ_ (.slice A7 out1.length c7) out1 ch2 ∧ μ = μ_) ⟨A6, c6, ch1, fE E, sE [some 1, some 0] 3 E, (hO1), E⟩ ?_
    rintro ⟨out1, v1⟩ _ _ _ _ _ ⟨A7, c7, ch2, hF6368, hS6368, hO2, rfl⟩ hb6368 hq6368
    unfold recyclingref22_counts_l2 at hb6368
    replace hb6368 := oun_mk hb6368
    refine Atn 2 hF6368 hS6368 E E (G0 5 E ?_)
    refine Br hb6368 21 E E (fun hc1 hb6368 => ?_) (fun hc1 hb6368 => ?_)
    · refine G2 3 [21] [] [] E ?_
      refine Cut hb6368 (fun f l o_ f_ μ_ l_ => ∃ (out5 : (List Int)) (A12 : Option Addr) (c12 : Nat) (ch7 : Seg), out5 = o_ ∧ SubFr ((6, .slice A12 out5.length c12) :: keepF [3, 18, 19, 20] f) f_ ∧ SegSub ([(g2, .cells #[.slice A4 x1.Tours.length c4, .slice A5 x1.Left.length c5] 56 (0, 0))] :: ch7 :: selS [] 2 l) l_ ∧ Own rInt 3 μ_ (.slice A12 out5.length c12) out5 ch7 ∧ μ = μ_) ?_ ?_
      · intro _ h6374 hb6368
        refine G0 3 E (Ix h6374 (ArrR.rds hA4 L) E E fun _ _ _ _ hr1 hc2 _ h6374 => ?_)
        obtain ⟨_, _, rfl, _, hA7⟩ := hr1
        refine Q3 1 [] [] [64] (Z1 (hc2.push.push)) E (Al E fun _ => Q1 9 [0, 0] E ?_)
        refine Cut h6374 (fun f l o_ f_ μ_ l_ => ∃ (out4 : (List Int)) (A11 : Option Addr) (c11 : Nat) (ch6 : Seg), out4 = o_ ∧ SubFr ((6, .slice A11 out4.length c11) :: keepF [3, 18, 19, 20] f) f_ ∧ SegSub ([(g2, .cells #[.slice A4 x1.Tours.length c4, .slice A5 x1.Left.length c5] 56 (0, 0))] :: ch6 :: selS [] 3 l) l_ ∧ Own rInt 3 μ_ (.slice A11 out4.length c11) out4 ch6 ∧ μ = μ_) ?_ ?_
        · intro _ h6379 h6374
          refine Lp h6379 (fun f l (j_ : (List Int) × Int) f_ μ_ l_ => ounP j_ fun out2 v2 => ∃ (A9 : Option Addr) (c9 : Nat) (ch3 : Seg), SubFr ((6, .slice A9 out2.length c9) :: (27, .int .i64 v2) :: keepF [3, 18, 19, 20, 25, 26] f) f_ ∧ SegSub ([(g2, .cells #[.slice A4 x1.Tours.length c4, .slice A5 x1.Left.length c5] 56 (0, 0))] :: ch3 :: selS [] 3 l) l_ ∧ Own rInt 3 μ_ (.slice A9 out2.length c9) out2 ch3 ∧ μ = μ_) ⟨A7, c7, ch2, fE E, sE [some 1, some 2] 3 E, (hO2), E⟩ ?_
          rintro ⟨out2, v2⟩ _ _ _ _ _ ⟨A9, c9, ch3, hF6391, hS6391, hO3, rfl⟩ hb6391 hq6391
          unfold recyclingref22_counts_l1 at hb6391
          replace hb6391 := oun_mk hb6391
          refine Atn 2 hF6391 hS6391 E E (G0 5 E ?_)
          refine Br hb6391 28 E E (fun hc3 hb6391 => ?_) (fun hc3 hb6391 => ?_)
          · refine G2 3 [28] [] [] E ?_
            refine Cut hb6391 (fun f l o_ f_ μ_ l_ => ∃ (out3 : (List Int)) (A10 : Option Addr) (c10 : Nat) (ch5 : Seg), out3 = o_ ∧ SubFr ((6, .slice A10 out3.length c10) :: keepF [3, 18, 19, 20, 25, 26, 27] f) f_ ∧ SegSub ([(g2, .cells #[.slice A4 x1.Tours.length c4, .slice A5 x1.Left.length c5] 56 (0, 0))] :: ch5 :: selS [] 2 l) l_ ∧ Own rInt 3 μ_ (.slice A10 out3.length c10) out3 ch5 ∧ μ = μ_) ?_ ?_
            · intro _ h6397 hb6391
              refine G0 3 E (Ix h6397 (ArrR.rds hA7 L) E E fun x3 _ _ _ hr2 hc4 _ h6397 => ?_)
              obtain rfl := hr2
              refine Q3 8 [] [] [64] (Z1 (hc4.push.push)) E ?_
              refine Br h6397 32 E E (fun hc5 h6397 => ?_) (fun hc5 h6397 => ?_)
              · refine G2 4 [32] [] [] E (IxA h6397 (Own.rds hO3 1 E) E E fun x4 _ _ _ hr3 hc6 _ h6397 => ?_)
                obtain rfl := hr3
                refine Q3 2 [] [] [64] (Z1 hc6) E (IxA h6397 (Own.rds hO3 1 E) E E fun _ a4 _ hx4 hr4 _ hA10 h6397 => ?_)
                obtain rfl := hr4
                refine Q0 0 E (So E (O_store (vs := [.int .i64 (w64 (x4 + 1))]) E E E E E E ?_))
                rw [← Addr.add_zero' ((a4.add (x3.toNat * 1)))]
                refine Own.store (r := rInt) (x' := w64 (x4 + 1)) (o := 0) (sz := 1) 1 rfl hO3 hA10 hx4 rfl rfl (by rintro _ rfl; rfl) fun ch4 hO4 => ?_
                rw [← length_setI out2 x3 (w64 (x4 + 1))] at hO4 ⊢
                refine Q0 2 E ?_
                cases h6397
                exact Ce E ⟨_, A9, c9, ch4, rfl, fE E, sE [some 0, some 1] 2 E, (hO4), rfl⟩
              refine G2 3 [] [32] [] E ?_
              cases h6397
              exact Ce E ⟨_, A9, c9, ch3, rfl, fE E, sE [some 0, some 1] 2 E, (hO3), rfl⟩
            rintro _ _ _ _ hb6391 _ ⟨out3, A10, c10, ch5, rfl, hF6397, hS6397, hO5, rfl⟩
            refine Atn 2 hF6397 hS6397 E E (G0 4 E ?_)
            cases hb6391
            exact Ce E ⟨_, rfl, A10, c10, ch5, fE E, sE [some 0, some 1] 2 E, (hO5), rfl⟩
          refine G2 2 [] [28] [] E ?_
          cases hb6391
          have hq_ := hq6391 _ E
          subst hq_
          exact Ce E ⟨_, A9, c9, ch3, rfl, fE E, sE [some 0, some 1] 2 E, (hO3), rfl⟩
        rintro _ _ _ _ h6374 _ ⟨out4, A11, c11, ch6, rfl, hF6379, hS6379, hO6, rfl⟩
        refine G0 1 E ?_
        cases h6374
        exact Ce E ⟨_, A11, c11, ch6, rfl, hF6379.tr E, hS6379.tr (sE [some 0, some 1] 2 E), (hO6), rfl⟩
      rintro _ _ _ _ hb6368 _ ⟨out5, A12, c12, ch7, rfl, hF6374, hS6374, hO7, rfl⟩
      refine Atn 2 hF6374 hS6374 E E (G0 4 E ?_)
      cases hb6368
      exact Ce E ⟨_, rfl, A12, c12, ch7, fE E, sE [some 0, some 1] 2 E, (hO7), rfl⟩
    refine G2 2 [] [21] [] E ?_
    cases hb6368
    have hq_ := hq6368 _ E
    subst hq_
    exact Ce E ⟨_, A7, c7, ch2, rfl, fE E, sE [some 0, some 1] 2 E, (hO2), rfl⟩
  rintro _ _ _ _ h _ ⟨out6, A13, c13, ch8, rfl, hF6327, hS6327, hO8, rfl⟩
  refine Atn 2 hF6327 hS6327 E E (G1 8 [0] E ?_)
  refine Cut h (fun f l o_ f_ μ_ l_ => ∃ (out8 : (List Int)) (A15 : Option Addr) (c15 : Nat) (ch11 : Seg), (.inl out8) = o_ ∧ SubFr ((6, .slice A15 out8.length c15) :: []) f_ ∧ SegSub (ch11 :: selS [] 2 l) l_ ∧ Own rInt 3 μ_ (.slice A15 out8.length c15) out8 ch11 ∧ μ = μ_) ?_ ?_
  · intro _ h6412 h
    refine Lp h6412 (fun f l (j_ : (List Int) × Int) f_ μ_ l_ => ounP j_ fun out7 v3 => ∃ (A14 : Option Addr) (c14 : Nat) (ch9 : Seg), SubFr ((6, .slice A14 out7.length c14) :: (44, .int .i64 v3) :: keepF [42, 43] f) f_ ∧ SegSub (ch9 :: selS [] 2 l) l_ ∧ Own rInt 3 μ_ (.slice A14 out7.length c14) out7 ch9 ∧ μ = μ_) ⟨A13, c13, ch8, fE E, sE [some 1] 2 E, (hO8), E⟩ ?_
    rintro ⟨out7, v3⟩ _ _ _ _ _ ⟨A14, c14, ch9, hF6419, hS6419, hO9, rfl⟩ hb6419 hq6419
    unfold recyclingref22_counts_l3 at hb6419
    replace hb6419 := oun_mk hb6419
    refine Atn 1 hF6419 hS6419 E E (G0 5 E ?_)
    refine Br hb6419 45 E E (fun hc8 hb6419 => ?_) (fun hc8 hb6419 => ?_)
    · refine G2 6 [45] [] [] E (Ix hb6419 (ArrR.rds hA5 L) E E fun x6 _ _ _ hr5 hc9 _ hb6419 => ?_)
      obtain rfl := hr5
      refine Q3 5 [] [] [64] (Z1 (hc9.push)) E ?_
      refine Cut hb6419 (fun f l o_ f_ μ_ l_ => ∃ (v4 : Bool), v4 = o_ ∧ SubFr ((55, .bool v4) :: keepF [6, 12, 42, 43, 44] f) f_ ∧ SegSub l l_ ∧ μ = μ_) ?_ ?_
      · intro _ h6422 hb6419
        refine G0 4 E ?_
        refine Br h6422 50 E E (fun hc10 h6422 => ?_) (fun hc10 h6422 => ?_)
        · refine G2 6 [50] [] [] E ?_
          cases h6422
          exact Ce E ⟨_, rfl, fE E, sE [some 0] 1 E, rfl⟩
        refine G2 6 [] [50] [] E ?_
        cases h6422
        exact Ce E ⟨_, rfl, fE E, sE [some 0] 1 E, rfl⟩
      rintro _ _ _ _ hb6419 _ ⟨v4, rfl, hF6422, hS6422, rfl⟩
      refine Atn 1 hF6422 hS6422 E E ?_
      refine Br hb6419 55 E E (fun hc11 hb6419 => ?_) (fun hc11 hb6419 => ?_)
      · refine G2 6 [55] [] [] E ?_
        cases hb6419
        have hq_ := hq6419 _ E
        subst hq_
        replace h := osum_r h
        cases h
        exact Rt [] E E (Ug [[]] 1 (hR none 0 [] Own.nil))
      refine G2 5 [] [55] [] E (IxA hb6419 (Own.rds hO9 0 E) E E fun x7 _ _ _ hr6 hc12 _ hb6419 => ?_)
      obtain rfl := hr6
      refine Q3 2 [] [] [64] (Z1 hc12) E (IxA hb6419 (Own.rds hO9 0 E) E E fun _ a7 _ hx7 hr7 _ hA13 hb6419 => ?_)
      obtain rfl := hr7
      refine Q0 0 E (So E (O_store (vs := [.int .i64 (w64 (x7 + 1))]) E E E E E E ?_))
      rw [← Addr.add_zero' ((a7.add (x6.toNat * 1)))]
      refine Own.store (r := rInt) (x' := w64 (x7 + 1)) (o := 0) (sz := 1) 0 rfl hO9 hA13 hx7 rfl rfl (by rintro _ rfl; rfl) fun ch10 hO10 => ?_
      rw [← length_setI out7 x6 (w64 (x7 + 1))] at hO10 ⊢
      refine Q0 6 E ?_
      cases hb6419
      exact Ce E ⟨_, rfl, A14, c14, ch10, fE E, sE [some 0] 1 E, (hO10), rfl⟩
    refine G2 2 [] [45] [] E ?_
    cases hb6419
    have hq_ := hq6419 _ E
    subst hq_
    exact Ce E ⟨_, A14, c14, ch9, rfl, fE E, sE [some 0] 1 E, (hO9), rfl⟩
  rintro _ _ _ _ h _ ⟨out8, A15, c15, ch11, rfl, hF6412, hS6412, hO11, rfl⟩
  replace h := osum_l h
  refine Atn 1 hF6412 hS6412 E E (G0 6 E ?_)
  cases h
  exact Rt [] E E (Ug [[0]] 1 (hR A15 c15 ch11 hO11))

theorem recyclingref22_Feasible_fn  {p1 : T_api_Problem} {x1 : T_api_Plan} {A1 : Option Addr} {c1 : Nat} {A2 : Option Addr} {c2 : Nat} {A3 : Option Addr} {c3 : Nat} {A4 : Option Addr} {c4 : Nat} {A5 : Option Addr} {c5 : Nat} {res1 : Int}
    (hl1 : p1.Road.Edges.length ≤ c1 ∧ c1 ≤ maxLen) (hA1 : ArrR r_api_Edge μ A1 p1.Road.Edges) (hl2 : p1.Vehicles.length ≤ c2 ∧ c2 ≤ maxLen) (hA2 : ArrR r_api_Vehicle μ A2 p1.Vehicles) (hl3 : p1.Demands.length ≤ c3 ∧ c3 ≤ maxLen) (hA3 : ArrR r_api_Demand μ A3 p1.Demands) (hl4 : x1.Tours.length ≤ c4 ∧ c4 ≤ maxLen) (hA4 : ArrR r_api_Tour μ A4 x1.Tours) (hl5 : x1.Left.length ≤ c5 ∧ c5 ≤ maxLen) (hA5 : ArrR rInt μ A5 x1.Left) (h : recyclingref22_Feasible p1 x1 = some res1)
    (hR : R (.int .i64 res1) μ (L)) :
    Fn Try.prog 26 [.agg #[.int .i64 p1.Road.Nodes, .slice A1 p1.Road.Edges.length c1, .slice A2 p1.Vehicles.length c2, .slice A3 p1.Demands.length c3, .int .i64 p1.Unload, .int .i64 p1.UnloadSecs], .agg #[.slice A4 x1.Tours.length c4, .slice A5 x1.Left.length c5]] μ (L) R := by
  unfold recyclingref22_Feasible at h
  refine FnS Try.func26 (by kernel_rfl) E Try.ntmps26 E E ?_
  refine G0 2 E (Al E fun _ => Q0 0 E (Al E fun _ => Q1 6 [1] E (Cl E ?_)))
  obtain ⟨_, hx1, h⟩ := obind h
  refine recyclingref22_Check_fn hl1 hA1 hl2 hA2 hl3 hA3 hx1 ((Q0 7 E ?_))
  refine Br h 20 E E (fun hc1 h => ?_) (fun hc1 h => ?_)
  · refine G2 6 [20] [] [] E ?_
    cases h
    exact Rt [] E E (Ug [] 2 hR)
  refine G2 10 [] [20] [0] E ?_
  refine Cut h (fun f l o_ f_ μ_ l_ => (.inl ()) = o_ ∧ SubFr (keepF [2, 3] f) f_ ∧ SegSub (selS [some 1, some 0] 2 l) l_ ∧ μ = μ_) ?_ ?_
  · intro _ h6200 h
    refine Lp h6200 (fun f l (v1 : Int) f_ μ_ l_ => SubFr ((25, .int .i64 v1) :: keepF [2, 3, 23, 24] f) f_ ∧ SegSub (selS [some 1, some 0] 2 l) l_ ∧ μ = μ_) ⟨fE E, sE [some 1, some 0] 2 E, E⟩ ?_
    rintro v1 _ _ _ _ _ ⟨hF6257, hS6257, rfl⟩ hb6257 hq6257
    unfold recyclingref22_Feasible_l2 at hb6257
    refine Atn 2 hF6257 hS6257 E E (G0 5 E ?_)
    refine Br hb6257 26 E E (fun hc2 hb6257 => ?_) (fun hc2 hb6257 => ?_)
    · refine G2 3 [26] [] [] E ?_
      refine Cut hb6257 (fun f l o_ f_ μ_ l_ => (.inl ()) = o_ ∧ SubFr (keepF [2, 3, 23, 24, 25] f) f_ ∧ SegSub l l_ ∧ μ = μ_) ?_ ?_
      · intro _ h6264 hb6257
        refine G0 4 E (Ix h6264 (ArrR.rds hA4 L) E E fun _ _ _ _ hr1 hc3 _ h6264 => ?_)
        obtain ⟨_, _, rfl, hl6, hA7⟩ := hr1
        refine Q3 1 [] [] [64] (Z1 (hc3.push.push)) E (Al E fun _ => Q1 8 [0] E ?_)
        refine Cut h6264 (fun f l o_ f_ μ_ l_ => (.inl ()) = o_ ∧ SubFr (keepF [2, 3, 7, 23, 24, 25] f) f_ ∧ SegSub (selS [some 1, some 2, some 0] 3 l) l_ ∧ μ = μ_) ?_ ?_
        · intro _ h6269 h6264
          refine Lp h6269 (fun f l (k1 : Int) f_ μ_ l_ => SubFr ((8, .int .i64 k1) :: keepF [2, 3, 6, 7, 23, 24, 25] f) f_ ∧ SegSub (selS [some 1, some 2, some 0] 3 l) l_ ∧ μ = μ_) ⟨fE E, sE [some 1, some 2, some 0] 3 E, E⟩ ?_
          rintro k1 _ _ _ _ _ ⟨hF6286, hS6286, rfl⟩ hb6286 hq6286
          unfold recyclingref22_Feasible_l1 at hb6286
          refine Atn 3 hF6286 hS6286 E E (G0 7 E ?_)
          refine Br hb6286 32 E E (fun hc4 hb6286 => ?_) (fun hc4 hb6286 => ?_)
          · refine G2 5 [32] [] [] E (Dr _ Kept.refl [(true, 0), (true, 1), (true, 2), (true, 3), (true, 4), (true, 5), (true, 6), (true, 7), (true, 8)] (by kernel_rfl) (G1 3 [1] E (Ix hb6286 (ArrR.rds hA4 L) E E fun _ _ _ _ hr2 hc5 _ hb6286 => ?_)))
            obtain ⟨_, _, rfl, _, _⟩ := hr2
            refine Q3 6 [] [] [64, 2] (Z1 (hc5.push.push.push)) E ?_
            refine Br hb6286 43 E E (fun hc6 hb6286 => ?_) (fun hc6 hb6286 => ?_)
            · refine G2 5 [43] [] [] E ?_
              cases hb6286
              have hq_ := hq6286 _ E
              subst hq_
              replace h6264 := osum_r h6264
              cases h6264
              replace hb6257 := osum_r hb6257
              cases hb6257
              have hq_ := hq6257 _ E
              subst hq_
              replace h := osum_r h
              cases h
              exact Rt [] E E (Ug [] 3 hR)
            refine G2 8 [] [43] [] E ?_
            cases hb6286
            exact Ce E ⟨_, rfl, fE E, sE [some 0, some 1, some 2] 3 E, rfl⟩
          refine G2 2 [] [32] [] E ?_
          cases hb6286
          have hq_ := hq6286 _ E
          subst hq_
          exact Ce E ⟨rfl, fE E, sE [some 0, some 1, some 2] 3 E, rfl⟩
        rintro _ _ _ _ h6264 _ ⟨rfl, hF6269, hS6269, rfl⟩
        replace h6264 := osum_l h6264
        refine Atn 3 hF6269 hS6269 E E (G1 4 [0, 2] E (Cl E ?_))
        obtain ⟨⟨_, _, _⟩, hx4, h6264⟩ := obind h6264
        replace h6264 := oun_mk h6264
        replace h6264 := oun_mk h6264
        refine recyclingref22_Walk_fn hl1 hA1 hl2 hA2 hl3 hA3 hl6 hA7 hx4 (fun _ _ _ _ => Q0 13 E ?_)
        refine Br h6264 52 E E (fun hc7 h6264 => ?_) (fun hc7 h6264 => ?_)
        · refine G2 6 [52] [] [] E ?_
          cases h6264
          replace hb6257 := osum_r hb6257
          cases hb6257
          have hq_ := hq6257 _ E
          subst hq_
          replace h := osum_r h
          cases h
          exact Rt [] E E (Ug [] 4 hR)
        refine G2 3 [] [52] [] E ?_
        cases h6264
        exact Ce E ⟨rfl, fE E, sE [some 1, some 2] 4 E, rfl⟩
      rintro _ _ _ _ hb6257 _ ⟨rfl, hF6264, hS6264, rfl⟩
      replace hb6257 := osum_l hb6257
      refine Atn 2 hF6264 hS6264 E E (G0 4 E ?_)
      cases hb6257
      exact Ce E ⟨_, rfl, fE E, sE [some 0, some 1] 2 E, rfl⟩
    refine G2 2 [] [26] [] E ?_
    cases hb6257
    have hq_ := hq6257 _ E
    subst hq_
    exact Ce E ⟨rfl, fE E, sE [some 0, some 1] 2 E, rfl⟩
  rintro _ _ _ _ h _ ⟨rfl, hF6200, hS6200, rfl⟩
  replace h := osum_l h
  refine Atn 2 hF6200 hS6200 E E (G1 4 [0, 1] E (Cl E ?_))
  obtain ⟨⟨_, _⟩, hx5, h⟩ := obind h
  replace h := oun_mk h
  refine recyclingref22_counts_fn hl1 hA1 hl2 hA2 hl3 hA3 hl4 hA4 hl5 hA5 hx5 (fun _ _ _ hO2 => Q0 12 E ?_)
  refine Br h 62 E E (fun hc8 h => ?_) (fun hc8 h => ?_)
  · refine G2 6 [62] [] [] E ?_
    cases h
    exact Rt [] E E (Ug [] 3 hR)
  refine G2 13 [] [62] [] E ?_
  refine Cut h (fun f l o_ f_ μ_ l_ => ∃ (missing3 : Bool), (.inl missing3) = o_ ∧ SubFr ((14, .bool missing3) :: []) f_ ∧ SegSub (selS [] 3 l) l_ ∧ μ = μ_) ?_ ?_
  · intro _ h6428 h
    refine Lp h6428 (fun f l (j_ : Bool × Int) f_ μ_ l_ => ounP j_ fun missing1 v2 => SubFr ((14, .bool missing1) :: (66, .int .i64 v2) :: keepF [64, 65] f) f_ ∧ SegSub (selS [some 0] 3 l) l_ ∧ μ = μ_) ⟨fE E, sE [some 0] 3 E, E⟩ ?_
    rintro ⟨missing1, v2⟩ _ _ _ _ _ ⟨hF6433, hS6433, rfl⟩ hb6433 hq6433
    unfold recyclingref22_Feasible_l3 at hb6433
    replace hb6433 := oun_mk hb6433
    refine Atn 1 hF6433 hS6433 E E (G0 5 E ?_)
    refine Br hb6433 67 E E (fun hc9 hb6433 => ?_) (fun hc9 hb6433 => ?_)
    · refine G2 3 [67] [] [] E ?_
      refine Cut hb6433 (fun f l o_ f_ μ_ l_ => ∃ (missing2 : Bool), (.inl missing2) = o_ ∧ SubFr ((14, .bool missing2) :: keepF [64, 65, 66] f) f_ ∧ SegSub l l_ ∧ μ = μ_) ?_ ?_
      · intro _ h6436 hb6433
        refine G0 3 E (IxA h6436 (Own.rds hO2 0 E) E E fun _ _ _ _ hr3 hc10 _ h6436 => ?_)
        obtain rfl := hr3
        refine Q3 9 [] [] [64] (Z1 hc10) E ?_
        refine Br h6436 71 E E (fun hc11 h6436 => ?_) (fun hc11 h6436 => ?_)
        · refine G2 5 [71] [] [] E ?_
          cases h6436
          replace hb6433 := osum_r hb6433
          cases hb6433
          have hq_ := hq6433 _ E
          subst hq_
          replace h := osum_r h
          cases h
          exact Rt [] E E (Ug [] 1 hR)
        refine G2 5 [] [71] [] E ?_
        refine Br h6436 73 E E (fun hc12 h6436 => ?_) (fun hc12 h6436 => ?_)
        · refine G2 6 [73] [] [] E ?_
          cases h6436
          exact Ce E ⟨_, rfl, fE E, sE [some 0] 1 E, rfl⟩
        refine G2 6 [] [73] [] E ?_
        cases h6436
        exact Ce E ⟨_, rfl, fE E, sE [some 0] 1 E, rfl⟩
      rintro _ _ _ _ hb6433 _ ⟨missing2, rfl, hF6436, hS6436, rfl⟩
      replace hb6433 := osum_l hb6433
      refine Atn 1 hF6436 hS6436 E E (G0 4 E ?_)
      cases hb6433
      exact Ce E ⟨_, rfl, fE E, sE [some 0] 1 E, rfl⟩
    refine G2 2 [] [67] [] E ?_
    cases hb6433
    have hq_ := hq6433 _ E
    subst hq_
    exact Ce E ⟨_, rfl, fE E, sE [] 1 E, rfl⟩
  rintro _ _ _ _ h _ ⟨missing3, rfl, hF6428, hS6428, rfl⟩
  replace h := osum_l h
  refine Atn 0 hF6428 hS6428 E E (G0 5 E ?_)
  refine Br h 78 E E (fun hc13 h => ?_) (fun hc13 h => ?_)
  · refine G2 5 [78] [] [] E ?_
    cases h
    exact Rt [] E E (Ug [] 0 hR)
  refine G2 6 [] [78] [] E ?_
  cases h
  exact Rt [] E E (Ug [] 0 hR)

theorem recyclingref22_Total_fn  {p1 : T_api_Problem} {x1 : T_api_Plan} {A1 : Option Addr} {c1 : Nat} {A2 : Option Addr} {c2 : Nat} {A3 : Option Addr} {c3 : Nat} {A4 : Option Addr} {c4 : Nat} {A5 : Option Addr} {c5 : Nat} {res1 : Int} {res2 : Int}
    (hl1 : p1.Road.Edges.length ≤ c1 ∧ c1 ≤ maxLen) (hA1 : ArrR r_api_Edge μ A1 p1.Road.Edges) (hl2 : p1.Vehicles.length ≤ c2 ∧ c2 ≤ maxLen) (hA2 : ArrR r_api_Vehicle μ A2 p1.Vehicles) (hl3 : p1.Demands.length ≤ c3 ∧ c3 ≤ maxLen) (hA3 : ArrR r_api_Demand μ A3 p1.Demands) (hl4 : x1.Tours.length ≤ c4 ∧ c4 ≤ maxLen) (hA4 : ArrR r_api_Tour μ A4 x1.Tours) (hl5 : x1.Left.length ≤ c5 ∧ c5 ≤ maxLen) (hA5 : ArrR rInt μ A5 x1.Left) (h : recyclingref22_Total p1 x1 = some (res1, res2))
    (hR : R (.tuple #[.int .i64 res1, .int .i64 res2]) μ (L)) :
    Fn Try.prog 24 [.agg #[.int .i64 p1.Road.Nodes, .slice A1 p1.Road.Edges.length c1, .slice A2 p1.Vehicles.length c2, .slice A3 p1.Demands.length c3, .int .i64 p1.Unload, .int .i64 p1.UnloadSecs], .agg #[.slice A4 x1.Tours.length c4, .slice A5 x1.Left.length c5]] μ (L) R := by
  unfold recyclingref22_Total at h
  refine FnS Try.func24 (by kernel_rfl) E Try.ntmps24 E E ?_
  refine G0 2 E (Al E fun _ => Q0 0 E (Al E fun _ => Q1 8 [1, 0] E (Cl E ?_)))
  obtain ⟨_, hx1, h⟩ := obind h
  refine recyclingref22_Feasible_fn hl1 hA1 hl2 hA2 hl3 hA3 hl4 hA4 hl5 hA5 hx1 ((Q0 7 E ?_))
  refine Br h 16 E E (fun hc1 h => ?_) (fun hc1 h => ?_)
  · refine G2 7 [16] [] [] E ?_
    cases h
    exact Rt [] E E (Ug [] 2 hR)
  refine G2 14 [] [16] [0] E ?_
  refine Cut h (fun f l o_ f_ μ_ l_ => ∃ (sum2 : Int), sum2 = o_ ∧ SubFr ((7, .int .i64 sum2) :: []) f_ ∧ SegSub (selS [] 2 l) l_ ∧ μ = μ_) ?_ ?_
  · intro _ h6437 h
    refine Lp h6437 (fun f l (j_ : Int × Int) f_ μ_ l_ => ounP j_ fun sum1 v1 => SubFr ((7, .int .i64 sum1) :: (21, .int .i64 v1) :: keepF [2, 19, 20] f) f_ ∧ SegSub (selS [] 1 l) l_ ∧ μ = μ_) ⟨fE E, sE [some 1] 2 E, E⟩ ?_
    rintro ⟨sum1, v1⟩ _ _ _ _ _ ⟨hF6447, hS6447, rfl⟩ hb6447 hq6447
    unfold recyclingref22_Total_l1 at hb6447
    replace hb6447 := oun_mk hb6447
    refine Atn 1 hF6447 hS6447 E E (G0 5 E ?_)
    refine Br hb6447 22 E E (fun hc2 hb6447 => ?_) (fun hc2 hb6447 => ?_)
    · refine G2 6 [22] [] [] E (Ix hb6447 (ArrR.rds hA4 L) E E fun _ _ _ _ hr1 hc3 _ hb6447 => ?_)
      obtain ⟨_, _, rfl, hl6, hA7⟩ := hr1
      refine Q3 1 [] [] [64] (Z1 (hc3.push)) E (Al E fun _ => Q1 6 [0, 1, 0] E (Cl E ?_))
      obtain ⟨⟨_, _⟩, hx3, hb6447⟩ := obind hb6447
      replace hb6447 := oun_mk hb6447
      refine recyclingref22_Cost_fn hl1 hA1 hl2 hA2 hl3 hA3 hl6 hA7 hx3 ((Q0 17 E ?_))
      cases hb6447
      exact Ce E ⟨_, rfl, fE E, sE [some 1] 2 E, rfl⟩
    refine G2 2 [] [22] [] E ?_
    cases hb6447
    have hq_ := hq6447 _ E
    subst hq_
    exact Ce E ⟨_, rfl, fE E, sE [] 1 E, rfl⟩
  rintro _ _ _ _ h _ ⟨sum2, rfl, hF6437, hS6437, rfl⟩
  refine Atn 0 hF6437 hS6437 E E (G0 6 E ?_)
  cases h
  exact Rt [] E E (Ug [] 0 hR)

theorem recyclinglaw22_TourPlans_fn {F : Nat} {p1 : T_api_Problem} {x1 : T_api_Plan} {A1 : Option Addr} {c1 : Nat} {A2 : Option Addr} {c2 : Nat} {A3 : Option Addr} {c3 : Nat} {A4 : Option Addr} {c4 : Nat} {A5 : Option Addr} {c5 : Nat} {res1 : Bool}
    (hl1 : p1.Road.Edges.length ≤ c1 ∧ c1 ≤ maxLen) (hA1 : ArrR r_api_Edge μ A1 p1.Road.Edges) (hl2 : p1.Vehicles.length ≤ c2 ∧ c2 ≤ maxLen) (hA2 : ArrR r_api_Vehicle μ A2 p1.Vehicles) (hl3 : p1.Demands.length ≤ c3 ∧ c3 ≤ maxLen) (hA3 : ArrR r_api_Demand μ A3 p1.Demands) (hl4 : x1.Tours.length ≤ c4 ∧ c4 ≤ maxLen) (hA4 : ArrR r_api_Tour μ A4 x1.Tours) (hl5 : x1.Left.length ≤ c5 ∧ c5 ≤ maxLen) (hA5 : ArrR rInt μ A5 x1.Left) (h : recyclinglaw22_TourPlans F p1 x1 = some res1)
    (hR : ∀ (μ' : Gh) , μ.le μ' → R (.bool res1) μ' (L)) :
    Fn Try.prog 9 [.agg #[.int .i64 p1.Road.Nodes, .slice A1 p1.Road.Edges.length c1, .slice A2 p1.Vehicles.length c2, .slice A3 p1.Demands.length c3, .int .i64 p1.Unload, .int .i64 p1.UnloadSecs], .agg #[.slice A4 x1.Tours.length c4, .slice A5 x1.Left.length c5]] μ (L) R := by
  unfold recyclinglaw22_TourPlans at h
  refine FnS Try.func9 (by kernel_rfl) E Try.ntmps9 E E ?_
  refine G0 2 E (Al E fun _ => Q0 0 E (Al E fun _ => Q0 4 E ?_))
  refine Cut h (fun f l o_ f_ μ_ l_ => ∃ (v1 : Bool), v1 = o_ ∧ SubFr ((14, .bool v1) :: keepF [2, 3] f) f_ ∧ SegSub (selS [some 1, some 0] 2 l) l_) ?_ ?_
  · intro _ h6464 h
    refine G1 2 [1] E (Cl E ?_)
    obtain ⟨_, hx1, h6464⟩ := obind h6464
    refine recyclingref22_Large_fn hl1 hA1 hl2 hA2 hl3 hA3 hx1 ((Q0 1 E ?_))
    refine Br h6464 11 E E (fun hc1 h6464 => ?_) (fun hc1 h6464 => ?_)
    · refine G2 4 [11] [] [] E ?_
      cases h6464
      exact Ce E ⟨_, rfl, fE E, sE [some 1, some 0] 2 E⟩
    refine G2 1 [] [11] [0] E (Cl E ?_)
    obtain ⟨_, hx2, h6464⟩ := obind h6464
    refine recyclingref22_LargePlan_fn hl4 hA4 hl5 hA5 hx2 ((Q2 2 [] [11] [] E ?_))
    cases h6464
    exact Ce E ⟨_, rfl, fE E, sE [some 1, some 0] 2 E⟩
  rintro _ _ _ _ h hm6464 ⟨v1, rfl, hF6464, hS6464⟩
  replace hA1 := hA1.mono hm6464
  replace hA2 := hA2.mono hm6464
  replace hA3 := hA3.mono hm6464
  replace hA4 := hA4.mono hm6464
  replace hA5 := hA5.mono hm6464
  refine Atn 2 hF6464 hS6464 E E ?_
  refine Br h 14 E E (fun hc2 h => ?_) (fun hc2 h => ?_)
  · refine G2 3 [14] [] [] E (Cl E ?_)
    obtain ⟨_, hx3, h⟩ := obind h
    refine recyclinglaw22_awake_fn  hx3 (fun _ hm_1 => ?_)
    replace hA1 := hA1.mono hm_1
    replace hA2 := hA2.mono hm_1
    replace hA3 := hA3.mono hm_1
    replace hA4 := hA4.mono hm_1
    replace hA5 := hA5.mono hm_1
    refine Q0 2 E ?_
    cases h
    exact Rt [] E E (Ug [] 2 (hR _ (hm6464.trans hm_1)))
  refine G2 6 [] [14] [0, 1] E (Cl E ?_)
  obtain ⟨⟨_, _⟩, hx4, h⟩ := obind h
  replace h := oun_mk h
  refine tour_Total_fn hl1 hA1 hl2 hA2 hl3 hA3 hl4 hA4 hl5 hA5 hx4 (fun _ hm_2 => ?_)
  replace hA1 := hA1.mono hm_2
  replace hA2 := hA2.mono hm_2
  replace hA3 := hA3.mono hm_2
  replace hA4 := hA4.mono hm_2
  replace hA5 := hA5.mono hm_2
  refine Q1 10 [0, 1] E (Cl E ?_)
  obtain ⟨⟨_, _⟩, hx5, h⟩ := obind h
  replace h := oun_mk h
  refine recyclingref22_Total_fn hl1 hA1 hl2 hA2 hl3 hA3 hl4 hA4 hl5 hA5 hx5 ((Q0 7 E ?_))
  refine Cut h (fun f l o_ f_ μ_ l_ => ∃ (v6 : Bool), v6 = o_ ∧ SubFr ((4, .bool v6) :: []) f_ ∧ SegSub (selS [] 2 l) l_) ?_ ?_
  · intro _ h6469 h
    refine Dr _ Kept.refl [(true, 0), (true, 1), (true, 3), (true, 4), (false, 2), (false, 5), (true, 6), (true, 7), (true, 8), (true, 9), (true, 10), (true, 11), (true, 12), (true, 13), (true, 14), (true, 15), (true, 16), (true, 17), (false, 18), (true, 19), (true, 20)] (by kernel_rfl) (G1 4 [0, 1, 0, 1] E (Cl E ?_))
    obtain ⟨_, hx6, h6469⟩ := obind h6469
    refine tour_Feasible_fn hl1 hA1 hl2 hA2 hl3 hA3 hl4 hA4 hl5 hA5 hx6 (fun _ hm_3 => ?_)
    replace hA1 := hA1.mono hm_3
    replace hA2 := hA2.mono hm_3
    replace hA3 := hA3.mono hm_3
    replace hA4 := hA4.mono hm_3
    replace hA5 := hA5.mono hm_3
    refine ⟨Kept.refl, ?_⟩
    refine Q0 0 E (Cl E ?_)
    obtain ⟨_, hx7, h6469⟩ := obind h6469
    refine recyclingref22_Feasible_fn hl1 hA1 hl2 hA2 hl3 hA3 hl4 hA4 hl5 hA5 hx7 (?_)
    refine ⟨Kept.refl, ?_⟩
    refine Q0 2 E ?_
    refine Br h6469 35 E E (fun hc3 h6469 => ?_) (fun hc3 h6469 => ?_)
    · refine G2 5 [35] [] [] E ?_
      refine Br h6469 40 E E (fun hc4 h6469 => ?_) (fun hc4 h6469 => ?_)
      · refine G2 5 [40] [] [] E ?_
        refine Br h6469 45 E E (fun hc5 h6469 => ?_) (fun hc5 h6469 => ?_)
        · refine Cl E ?_
          obtain ⟨_, hx8, h6469⟩ := obind h6469
          refine recyclinglaw22_awake_fn  hx8 (fun _ _ => ?_)
          refine ⟨Kept.refl, ?_⟩
          refine Q2 3 [45] [] [] E ?_
          cases h6469
          exact Ce E ⟨_, rfl, fE E, sE [] 2 E⟩
        refine G2 4 [] [45] [] E ?_
        cases h6469
        exact Ce E ⟨_, rfl, fE E, sE [] 2 E⟩
      refine G2 9 [] [40, 45] [] E ?_
      cases h6469
      exact Ce E ⟨_, rfl, fE E, sE [] 2 E⟩
    refine G2 14 [] [35, 40, 45] [] E ?_
    cases h6469
    exact Ce E ⟨_, rfl, fE E, sE [] 2 E⟩
  rintro _ _ _ _ h hm6469 ⟨v6, rfl, hF6469, hS6469⟩
  refine Atn 0 hF6469 hS6469 E E ?_
  cases h
  exact Rt [] E E (Ug [] 0 (hR _ (hm6464.trans (hm_2.trans hm6469))))

end Go.Proofs.Ytjbminmhndgiaaa
