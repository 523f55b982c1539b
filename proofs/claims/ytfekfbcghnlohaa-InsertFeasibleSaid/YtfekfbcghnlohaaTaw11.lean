/- Printed by gen2.py of this repo: the walks that tie the functions to their specifications. -/
import Derived.Test.YtfekfbcghnlohaaTt
import Derived.Test.YtfekfbcghnlohaaTas
import Derived.Test.YtfekfbcghnlohaaTaw1
import Derived.Test.YtfekfbcghnlohaaTaw2
namespace Go.Proofs.Ytfekfbcghnlohaa
open Go.RowKit
set_option linter.unusedSimpArgs false
set_option linter.unusedVariables false
set_option maxHeartbeats 2000000
set_option maxRecDepth 4000
attribute [local irreducible] WP SemOk SemU Fn AN Upd vcR vcO vcOps vcPlan putK fillK resK inBlk forkOne Cell StAt Kept KS

variable {μ : Gh} {L : List Seg} {R : Value → Gh → List Seg → Prop}
theorem tour_plan_1_fn  {u1 : T_api_Tour} {b1 : T_api_Tour} {A1 : Option Addr} {c1 : Nat} {g1 : Nat} {A2 : Option Addr} {c2 : Nat} {res1 : Bool}
    (hl1 : u1.Stops.length ≤ c1 ∧ c1 ≤ maxLen) (hA1 : ArrR rInt μ A1 u1.Stops) (hl2 : b1.Stops.length ≤ c2 ∧ c2 ≤ maxLen) (hA2 : ArrR rInt μ A2 b1.Stops) (h : tour_plan_1 u1 b1 = some res1)
    (hR : R (.bool res1) μ ([(g1, .cells #[.int .i64 b1.Vehicle, .slice A2 b1.Stops.length c2] 31 (0, 0))] :: L)) :
    Fn Try.prog 53 [.agg #[.int .i64 u1.Vehicle, .slice A1 u1.Stops.length c1], .pointer (some ⟨g1, 0, none⟩)] μ ([(g1, .cells #[.int .i64 b1.Vehicle, .slice A2 b1.Stops.length c2] 31 (0, 0))] :: L) R := by
  unfold tour_plan_1 at h
  refine FnS Try.func53 (by kernel_rfl) E Try.ntmps53 E E ?_
  refine G0 2 E (Al E fun _ => Q1 11 [0, 1] E ?_)
  cases h
  exact Rt [] E E (Ug [[1]] 2 hR)

theorem slices_IndexFunc_Tour_c53_fn  {s1 : (List T_api_Tour)} {b1 : T_api_Tour} {A1 : Option Addr} {c1 : Nat} {g1 : Nat} {A2 : Option Addr} {c2 : Nat} {res1 : Int}
    (hl1 : s1.length ≤ c1 ∧ c1 ≤ maxLen) (hA1 : Rds r_api_Tour μ L A1 s1) (hl2 : b1.Stops.length ≤ c2 ∧ c2 ≤ maxLen) (hA2 : ArrR rInt μ A2 b1.Stops) (h : slices_IndexFunc_Tour_c53 s1 b1 = some res1)
    (hR : R (.int .i64 res1) μ ([(g1, .cells #[.int .i64 b1.Vehicle, .slice A2 b1.Stops.length c2] 31 (0, 0))] :: L)) :
    Fn Try.prog 71 [.slice A1 s1.length c1, .func (.func 53) #[] #[.pointer (some ⟨g1, 0, none⟩)]] μ ([(g1, .cells #[.int .i64 b1.Vehicle, .slice A2 b1.Stops.length c2] 31 (0, 0))] :: L) R := by
  unfold slices_IndexFunc_Tour_c53 at h
  refine FnS Try.func71 (by kernel_rfl) E Try.ntmps71 E E ?_
  refine G0 11 E ?_
  refine Cut h (fun f l o_ f_ μ_ l_ => (.inl ()) = o_ ∧ SubFr ([]) f_ ∧ SegSub l l_ ∧ μ = μ_) ?_ ?_
  · intro _ h18765 h
    refine Lp h18765 (fun f l (v1 : Int) f_ μ_ l_ => SubFr ((8, .int .i64 v1) :: keepF [0, 1, 7] f) f_ ∧ SegSub l l_ ∧ μ = μ_) ⟨fE E, sE [some 0] 1 E, E⟩ ?_
    rintro v1 _ _ _ _ _ ⟨hF18776, hS18776, rfl⟩ hb18776 hq18776
    unfold slices_IndexFunc_Tour_c53_l1 at hb18776
    refine Atn 1 hF18776 hS18776 E E (G0 5 E ?_)
    refine Br hb18776 9 E E (fun hc1 hb18776 => ?_) (fun hc1 hb18776 => ?_)
    · refine G2 14 [9] [] [] E (Ix hb18776 hA1 E E fun _ _ _ _ hr1 hc2 _ hb18776 => ?_)
      obtain ⟨_, _, rfl, hl3, hA4⟩ := hr1
      refine Q3 1 [] [] [64] (Z1 (hc2.push)) E (Cl E ?_)
      obtain ⟨_, hx2, hb18776⟩ := obind hb18776
      refine tour_plan_1_fn hl3 hA4 hl2 hA2 hx2 ((Q0 1 E ?_))
      refine Br hb18776 16 E E (fun hc3 hb18776 => ?_) (fun hc3 hb18776 => ?_)
      · refine G2 6 [16] [] [] E ?_
        cases hb18776
        have hq_ := hq18776 _ E
        subst hq_
        replace h := osum_r h
        cases h
        exact Rt [] E E (Ug [[0]] 1 hR)
      refine G2 7 [] [16] [] E ?_
      cases hb18776
      exact Ce E ⟨_, rfl, fE E, sE [some 0] 1 E, rfl⟩
    refine G2 2 [] [9] [] E ?_
    cases hb18776
    have hq_ := hq18776 _ E
    subst hq_
    exact Ce E ⟨rfl, fE E, sE [some 0] 1 E, rfl⟩
  rintro _ _ _ _ h _ ⟨rfl, hF18765, hS18765, rfl⟩
  replace h := osum_l h
  refine Atn 1 hF18765 hS18765 E E (G0 4 E ?_)
  cases h
  exact Rt [] E E (Ug [[0]] 1 hR)

theorem slices_ContainsFunc_Tour_c53_fn  {s1 : (List T_api_Tour)} {b1 : T_api_Tour} {A1 : Option Addr} {c1 : Nat} {g1 : Nat} {A2 : Option Addr} {c2 : Nat} {res1 : Bool}
    (hl1 : s1.length ≤ c1 ∧ c1 ≤ maxLen) (hA1 : Rds r_api_Tour μ L A1 s1) (hl2 : b1.Stops.length ≤ c2 ∧ c2 ≤ maxLen) (hA2 : ArrR rInt μ A2 b1.Stops) (h : slices_ContainsFunc_Tour_c53 s1 b1 = some res1)
    (hR : R (.bool res1) μ ([(g1, .cells #[.int .i64 b1.Vehicle, .slice A2 b1.Stops.length c2] 31 (0, 0))] :: L)) :
    Fn Try.prog 52 [.slice A1 s1.length c1, .func (.func 53) #[] #[.pointer (some ⟨g1, 0, none⟩)]] μ ([(g1, .cells #[.int .i64 b1.Vehicle, .slice A2 b1.Stops.length c2] 31 (0, 0))] :: L) R := by
  unfold slices_ContainsFunc_Tour_c53 at h
  refine FnS Try.func52 (by kernel_rfl) E Try.ntmps52 E E ?_
  refine G0 8 E (Cl E ?_)
  obtain ⟨_, hx1, h⟩ := obind h
  refine slices_IndexFunc_Tour_c53_fn hl1 hA1 hl2 hA2 hx1 ((Q0 3 E ?_))
  cases h
  exact Rt [] E E (Ug [[0]] 1 hR)

theorem tour_plan_2_fn  {n1 : Int}  {res1 : Bool}
     (h : tour_plan_2 n1 = some res1)
    (hR : R (.bool res1) μ (L)) :
    Fn Try.prog 55 [.int .i64 n1] μ (L) R := by
  unfold tour_plan_2 at h
  refine FnS Try.func55 (by kernel_rfl) E Try.ntmps55 E E ?_
  refine G0 10 E ?_
  cases h
  exact Rt [] E E (Ug [] 0 hR)

theorem slices_IndexFunc_int_c55_fn  {s1 : (List Int)} {A1 : Option Addr} {c1 : Nat} {res1 : Int}
    (hl1 : s1.length ≤ c1 ∧ c1 ≤ maxLen) (hA1 : Rds rInt μ L A1 s1) (h : slices_IndexFunc_int_c55 s1 = some res1)
    (hR : R (.int .i64 res1) μ (L)) :
    Fn Try.prog 72 [.slice A1 s1.length c1, .func (.func 55) #[] #[]] μ (L) R := by
  unfold slices_IndexFunc_int_c55 at h
  refine FnS Try.func72 (by kernel_rfl) E Try.ntmps72 E E ?_
  refine G0 11 E ?_
  refine Cut h (fun f l o_ f_ μ_ l_ => (.inl ()) = o_ ∧ SubFr ([]) f_ ∧ SegSub l l_ ∧ μ = μ_) ?_ ?_
  · intro _ h18910 h
    refine Lp h18910 (fun f l (v1 : Int) f_ μ_ l_ => SubFr ((8, .int .i64 v1) :: keepF [0, 1, 7] f) f_ ∧ SegSub l l_ ∧ μ = μ_) ⟨fE E, sE [] 0 E, E⟩ ?_
    rintro v1 _ _ _ _ _ ⟨hF18912, hS18912, rfl⟩ hb18912 hq18912
    unfold slices_IndexFunc_int_c55_l1 at hb18912
    refine Atn 0 hF18912 hS18912 E E (G0 5 E ?_)
    refine Br hb18912 9 E E (fun hc1 hb18912 => ?_) (fun hc1 hb18912 => ?_)
    · refine G2 14 [9] [] [] E (Ix hb18912 hA1 E E fun _ _ _ _ hr1 hc2 _ hb18912 => ?_)
      obtain rfl := hr1
      refine Q3 1 [] [] [64] (Z1 hc2) E (Cl E ?_)
      obtain ⟨_, hx2, hb18912⟩ := obind hb18912
      refine tour_plan_2_fn  hx2 ((Q0 1 E ?_))
      refine Br hb18912 16 E E (fun hc3 hb18912 => ?_) (fun hc3 hb18912 => ?_)
      · refine G2 6 [16] [] [] E ?_
        cases hb18912
        have hq_ := hq18912 _ E
        subst hq_
        replace h := osum_r h
        cases h
        exact Rt [] E E (Ug [] 0 hR)
      refine G2 7 [] [16] [] E ?_
      cases hb18912
      exact Ce E ⟨_, rfl, fE E, sE [] 0 E, rfl⟩
    refine G2 2 [] [9] [] E ?_
    cases hb18912
    have hq_ := hq18912 _ E
    subst hq_
    exact Ce E ⟨rfl, fE E, sE [] 0 E, rfl⟩
  rintro _ _ _ _ h _ ⟨rfl, hF18910, hS18910, rfl⟩
  replace h := osum_l h
  refine Atn 0 hF18910 hS18910 E E (G0 4 E ?_)
  cases h
  exact Rt [] E E (Ug [] 0 hR)

theorem slices_ContainsFunc_int_c55_fn  {s1 : (List Int)} {A1 : Option Addr} {c1 : Nat} {res1 : Bool}
    (hl1 : s1.length ≤ c1 ∧ c1 ≤ maxLen) (hA1 : Rds rInt μ L A1 s1) (h : slices_ContainsFunc_int_c55 s1 = some res1)
    (hR : R (.bool res1) μ (L)) :
    Fn Try.prog 54 [.slice A1 s1.length c1, .func (.func 55) #[] #[]] μ (L) R := by
  unfold slices_ContainsFunc_int_c55 at h
  refine FnS Try.func54 (by kernel_rfl) E Try.ntmps54 E E ?_
  refine G0 8 E (Cl E ?_)
  obtain ⟨_, hx1, h⟩ := obind h
  refine slices_IndexFunc_int_c55_fn hl1 hA1 hx1 ((Q0 3 E ?_))
  cases h
  exact Rt [] E E (Ug [] 0 hR)

theorem tour_plan_fn {F : Nat} {p1 : T_api_Problem} {x1 : T_api_Plan} {A1 : Option Addr} {c1 : Nat} {A2 : Option Addr} {c2 : Nat} {A3 : Option Addr} {c3 : Nat} {A4 : Option Addr} {c4 : Nat} {A5 : Option Addr} {c5 : Nat} {res1 : Int} {res2 : Int}
    (hl1 : p1.Road.Edges.length ≤ c1 ∧ c1 ≤ maxLen) (hA1 : ArrR r_api_Edge μ A1 p1.Road.Edges) (hl2 : p1.Vehicles.length ≤ c2 ∧ c2 ≤ maxLen) (hA2 : ArrR r_api_Vehicle μ A2 p1.Vehicles) (hl3 : p1.Demands.length ≤ c3 ∧ c3 ≤ maxLen) (hA3 : ArrR r_api_Demand μ A3 p1.Demands) (hl4 : x1.Tours.length ≤ c4 ∧ c4 ≤ maxLen) (hA4 : ArrR r_api_Tour μ A4 x1.Tours) (hl5 : x1.Left.length ≤ c5 ∧ c5 ≤ maxLen) (hA5 : ArrR rInt μ A5 x1.Left) (h : tour_plan F p1 x1 = some (res1, res2))
    (hR : ∀ (μ' : Gh) , μ.le μ' → R (.tuple #[.int .i64 res1, .int .i64 res2]) μ' (L)) :
    Fn Try.prog 34 [.agg #[.int .i64 p1.Road.Nodes, .slice A1 p1.Road.Edges.length c1, .slice A2 p1.Vehicles.length c2, .slice A3 p1.Demands.length c3, .int .i64 p1.Unload, .int .i64 p1.UnloadSecs], .agg #[.slice A4 x1.Tours.length c4, .slice A5 x1.Left.length c5]] μ (L) R := by
  unfold tour_plan at h
  refine FnS Try.func34 (by kernel_rfl) E Try.ntmps34 E E ?_
  refine G0 2 E (Al E fun _ => Q0 0 E (Al E fun g2 => Q1 7 [1] E (Cl E ?_)))
  obtain ⟨_, hx1, h⟩ := obind h
  refine tour_Check_fn hl1 hA1 hl2 hA2 hl3 hA3 hx1 (fun _ hm_1 => ?_)
  replace hA1 := hA1.mono hm_1
  replace hA2 := hA2.mono hm_1
  replace hA3 := hA3.mono hm_1
  replace hA4 := hA4.mono hm_1
  replace hA5 := hA5.mono hm_1
  refine Q0 7 E ?_
  refine Br h 23 E E (fun hc1 h => ?_) (fun hc1 h => ?_)
  · refine G2 7 [23] [] [] E ?_
    cases h
    exact Rt [] E E (Ug [] 2 (hR _ hm_1))
  refine G2 14 [] [23] [0] E ?_
  refine Cut h (fun f l o_ f_ μ_ l_ => ∃ (sum2 : Int), (.inl sum2) = o_ ∧ SubFr ((7, .int .i64 sum2) :: keepF [2, 3] f) f_ ∧ SegSub (selS [some 1, some 0] 2 l) l_) ?_ ?_
  · intro _ h18920 h
    refine Lp h18920 (fun f l (j_ : Int × Int) f_ μ_ l_ => ounP j_ fun sum1 v2 => SubFr ((7, .int .i64 sum1) :: (28, .int .i64 v2) :: keepF [2, 3, 26, 27] f) f_ ∧ SegSub (selS [some 1, some 0] 2 l) l_) ⟨fE E, sE [some 1, some 0] 2 E⟩ ?_
    rintro ⟨sum1, v2⟩ _ _ _ _ hm18951 ⟨hF18951, hS18951⟩ hb18951 hq18951
    unfold tour_plan_l1 at hb18951
    replace hb18951 := oun_mk hb18951
    replace hA1 := hA1.mono hm18951
    replace hA2 := hA2.mono hm18951
    replace hA3 := hA3.mono hm18951
    replace hA4 := hA4.mono hm18951
    replace hA5 := hA5.mono hm18951
    refine Atn 2 hF18951 hS18951 E E (G0 5 E ?_)
    refine Br hb18951 29 E E (fun hc2 hb18951 => ?_) (fun hc2 hb18951 => ?_)
    · refine G2 7 [29] [] [] E (Ix hb18951 (ArrR.rds hA4 L) E E fun _ _ _ _ hr1 hc3 _ hb18951 => ?_)
      obtain ⟨_, _, rfl, hl6, hA7⟩ := hr1
      refine Q3 1 [] [] [64] (Z1 (hc3.push.push)) E (Al E fun _ => ?_)
      obtain ⟨_, hs1, hb18951⟩ := obind hb18951
      refine Q1 9 [0, 2] E (Rdo E E (R_slHiS E E E E E E hl4.1 hs1 ?_))
      have hA8 := ArrR.pre hA4 hs1
      have hl7 := preLen hl4 hs1
      refine Q0 1 E (Cl E ?_)
      obtain ⟨_, hx3, hb18951⟩ := obind hb18951
      refine slices_ContainsFunc_Tour_c53_fn hl7 (ArrR.rds hA8 _) hl6 hA7 hx3 ((Q0 1 E ?_))
      refine Br hb18951 38 E E (fun hc4 hb18951 => ?_) (fun hc4 hb18951 => ?_)
      · refine G2 6 [38] [] [] E ?_
        cases hb18951
        have hq_ := hq18951 _ E
        subst hq_
        replace h := osum_r h
        cases h
        exact Rt [] E E (Ug [] 3 (hR _ (hm_1.trans hm18951)))
      refine G2 6 [] [38] [1, 0] E (Cl E ?_)
      obtain ⟨⟨_, _, _⟩, hx4, hb18951⟩ := obind hb18951
      replace hb18951 := oun_mk hb18951
      replace hb18951 := oun_mk hb18951
      refine tour_follow_fn hl1 hA1 hl2 hA2 hl3 hA3 hl6 hA7 hx4 (fun _ _ _ hm_2 hP1 => ?_)
      replace hA4 := hA4.mono hm_2
      replace hA5 := hA5.mono hm_2
      refine Q0 14 E ?_
      refine Br hb18951 47 E E (fun hc5 hb18951 => ?_) (fun hc5 hb18951 => ?_)
      · refine G2 7 [47] [] [] E ?_
        cases hb18951
        have hq_ := hq18951 _ E
        subst hq_
        replace h := osum_r h
        cases h
        exact Rt [] E E (Ug [] 4 (hR _ (hm_1.trans (hm18951.trans hm_2))))
      obtain ⟨_, hm_3, hb18951⟩ := obind hb18951
      have hP2 := ObjO.get hP1 hm_3
      obtain ⟨_, _, _, _, _, _, _, _, _, _, _, _, _, hv1, rfl, ⟨_, _⟩, ⟨_, _⟩, ⟨_, _⟩, _, _⟩ := hP2
      subst hv1
      refine G2 2 [] [47] [] E (In Obj_tour_walk.fl 0 6 E E E (G1 15 [0] E ?_))
      cases hb18951
      exact Ce E ⟨_, rfl, fE E, sE [some 4, some 5] 6 E⟩
    refine G2 2 [] [29] [] E ?_
    cases hb18951
    have hq_ := hq18951 _ E
    subst hq_
    exact Ce E ⟨_, rfl, fE E, sE [some 0, some 1] 2 E⟩
  rintro _ _ _ _ h hm18920 ⟨sum2, rfl, hF18920, hS18920⟩
  replace h := osum_l h
  replace hA4 := hA4.mono hm18920
  replace hA5 := hA5.mono hm18920
  refine Atn 2 hF18920 hS18920 E E (G1 5 [0] E (So E (O_mksl E E ?_)))
  obtain ⟨_, hn1, h⟩ := obind h
  refine sem_mkO (r := rInt) (z := 0) (zc := [.int .i64 0]) Tt_ok E E E E E (E) E hn1 fun A11 c11 ch2 hO2 => Q1 10 [2] E ?_
  refine Cut h (fun f l o_ f_ μ_ l_ => ∃ (times2 : (List Int)) (A13 : Option Addr) (c13 : Nat) (ch5 : Seg), (.inl times2) = o_ ∧ SubFr ((13, .slice A13 times2.length c13) :: keepF [3, 7] f) f_ ∧ SegSub ([(g2, .cells #[.slice A4 x1.Tours.length c4, .slice A5 x1.Left.length c5] 45 (0, 0))] :: ch5 :: selS [] 3 l) l_ ∧ Own rInt 3 μ_ (.slice A13 times2.length c13) times2 ch5) ?_ ?_
  · intro _ h18986 h
    refine Lp h18986 (fun f l (j_ : (List Int) × Int) f_ μ_ l_ => ounP j_ fun times1 v4 => ∃ (A12 : Option Addr) (c12 : Nat) (ch3 : Seg), SubFr ((13, .slice A12 times1.length c12) :: (64, .int .i64 v4) :: keepF [3, 7, 62, 63] f) f_ ∧ SegSub ([(g2, .cells #[.slice A4 x1.Tours.length c4, .slice A5 x1.Left.length c5] 45 (0, 0))] :: ch3 :: selS [] 3 l) l_ ∧ Own rInt 3 μ_ (.slice A12 times1.length c12) times1 ch3) ⟨A11, c11, ch2, fE E, sE [some 2, some 0] 3 E, (hO2)⟩ ?_
    rintro ⟨times1, v4⟩ _ _ _ _ hm18997 ⟨A12, c12, ch3, hF18997, hS18997, hO3⟩ hb18997 hq18997
    unfold tour_plan_l2 at hb18997
    replace hb18997 := oun_mk hb18997
    replace hA4 := hA4.mono hm18997
    replace hA5 := hA5.mono hm18997
    refine Atn 2 hF18997 hS18997 E E (G0 5 E ?_)
    refine Br hb18997 65 E E (fun hc6 hb18997 => ?_) (fun hc6 hb18997 => ?_)
    · refine G2 6 [65] [] [] E (Ix hb18997 (ArrR.rds hA5 L) E E fun x3 _ _ _ hr2 hc7 _ hb18997 => ?_)
      obtain rfl := hr2
      refine Q3 5 [] [] [64] (Z1 (hc7.push.push)) E ?_
      refine Cut hb18997 (fun f l o_ f_ μ_ l_ => ∃ (v5 : Bool), v5 = o_ ∧ SubFr ((75, .bool v5) :: keepF [3, 7, 13, 15, 62, 63, 64] f) f_ ∧ SegSub l l_) ?_ ?_
      · intro _ h19003 hb18997
        refine G0 4 E ?_
        refine Br h19003 70 E E (fun hc8 h19003 => ?_) (fun hc8 h19003 => ?_)
        · refine G2 6 [70] [] [] E ?_
          cases h19003
          exact Ce E ⟨_, rfl, fE E, sE [some 0, some 1] 2 E⟩
        refine G2 6 [] [70] [] E ?_
        cases h19003
        exact Ce E ⟨_, rfl, fE E, sE [some 0, some 1] 2 E⟩
      rintro _ _ μ19003 _ hb18997 hm19003 ⟨v5, rfl, hF19003, hS19003⟩
      replace hA4 := hA4.mono hm19003
      replace hO3 := hO3.mono hm19003
      refine Atn 2 hF19003 hS19003 E E ?_
      refine Br hb18997 75 E E (fun hc9 hb18997 => ?_) (fun hc9 hb18997 => ?_)
      · refine G2 6 [75] [] [] E ?_
        cases hb18997
        have hq_ := hq18997 _ E
        subst hq_
        replace h := osum_r h
        cases h
        exact Rt [] E E (Ug [] 2 (hR _ (hm_1.trans (hm18920.trans (hm18997.trans hm19003)))))
      refine G2 5 [] [75] [] E (IxA hb18997 (Own.rds hO3 1 E) E E fun x4 _ _ _ hr3 hc10 _ hb18997 => ?_)
      obtain rfl := hr3
      refine Q3 2 [] [] [64] (Z1 hc10) E (IxA hb18997 (Own.rds hO3 1 E) E E fun _ a4 _ hx7 hr4 _ hA14 hb18997 => ?_)
      obtain rfl := hr4
      refine Q0 0 E (So E (O_store (vs := [.int .i64 (w64 (x4 + 1))]) E E E E E E ?_))
      rw [← Addr.add_zero' ((a4.add (x3.toNat * 1)))]
      refine Own.store (μ := μ19003) (r := rInt) (x' := w64 (x4 + 1)) (o := 0) (sz := 1) 1 rfl hO3 hA14 hx7 rfl rfl (by rintro _ rfl; rfl) fun ch4 hO4 => ?_
      rw [← length_setI times1 x3 (w64 (x4 + 1))] at hO4 ⊢
      refine Q0 6 E ?_
      cases hb18997
      exact Ce E ⟨_, rfl, A12, c12, ch4, fE E, sE [some 0, some 1] 2 E, (hO4)⟩
    refine G2 2 [] [65] [] E ?_
    cases hb18997
    have hq_ := hq18997 _ E
    subst hq_
    exact Ce E ⟨_, A12, c12, ch3, rfl, fE E, sE [some 0, some 1] 2 E, (hO3)⟩
  rintro _ _ _ _ h hm18986 ⟨times2, A13, c13, ch5, rfl, hF18986, hS18986, hO5⟩
  replace h := osum_l h
  replace hA4 := hA4.mono hm18986
  refine Atn 2 hF18986 hS18986 E E (G1 8 [0] E ?_)
  refine Cut h (fun f l o_ f_ μ_ l_ => ∃ (times8 : (List Int)) (A20 : Option Addr) (c20 : Nat) (ch12 : Seg), times8 = o_ ∧ SubFr ((13, .slice A20 times8.length c20) :: keepF [7] f) f_ ∧ SegSub (ch12 :: selS [] 2 l) l_ ∧ Own rInt 3 μ_ (.slice A20 times8.length c20) times8 ch12) ?_ ?_
  · intro _ h19011 h
    refine Lp h19011 (fun f l (j_ : (List Int) × Int) f_ μ_ l_ => ounP j_ fun times3 v6 => ∃ (A14 : Option Addr) (c14 : Nat) (ch6 : Seg), SubFr ((13, .slice A14 times3.length c14) :: (86, .int .i64 v6) :: keepF [7, 84, 85] f) f_ ∧ SegSub (ch6 :: selS [] 2 l) l_ ∧ Own rInt 3 μ_ (.slice A14 times3.length c14) times3 ch6) ⟨A13, c13, ch5, fE E, sE [some 1] 2 E, (hO5)⟩ ?_
    rintro ⟨times3, v6⟩ _ _ _ _ hm19033 ⟨A14, c14, ch6, hF19033, hS19033, hO6⟩ hb19033 hq19033
    unfold tour_plan_l4 at hb19033
    replace hb19033 := oun_mk hb19033
    replace hA4 := hA4.mono hm19033
    refine Atn 1 hF19033 hS19033 E E (G0 5 E ?_)
    refine Br hb19033 87 E E (fun hc12 hb19033 => ?_) (fun hc12 hb19033 => ?_)
    · refine G2 3 [87] [] [] E ?_
      refine Cut hb19033 (fun f l o_ f_ μ_ l_ => ∃ (times7 : (List Int)) (A19 : Option Addr) (c19 : Nat) (ch11 : Seg), times7 = o_ ∧ SubFr ((13, .slice A19 times7.length c19) :: keepF [7, 84, 85, 86] f) f_ ∧ SegSub (ch11 :: selS [] 1 l) l_ ∧ Own rInt 3 μ_ (.slice A19 times7.length c19) times7 ch11) ?_ ?_
      · intro _ h19036 hb19033
        refine G0 3 E (Ix h19036 (ArrR.rds hA4 L) E E fun _ _ _ _ hr5 hc13 _ h19036 => ?_)
        obtain ⟨_, _, rfl, _, hA16⟩ := hr5
        refine Q3 1 [] [] [64] (Z1 (hc13.push)) E (Al E fun _ => Q1 9 [0, 0] E ?_)
        refine Cut h19036 (fun f l o_ f_ μ_ l_ => ∃ (times6 : (List Int)) (A18 : Option Addr) (c18 : Nat) (ch10 : Seg), times6 = o_ ∧ SubFr ((13, .slice A18 times6.length c18) :: keepF [7, 84, 85, 86] f) f_ ∧ SegSub (ch10 :: selS [] 2 l) l_ ∧ Own rInt 3 μ_ (.slice A18 times6.length c18) times6 ch10) ?_ ?_
        · intro _ h19041 h19036
          refine Lp h19041 (fun f l (j_ : (List Int) × Int) f_ μ_ l_ => ounP j_ fun times4 v7 => ∃ (A16 : Option Addr) (c16 : Nat) (ch7 : Seg), SubFr ((13, .slice A16 times4.length c16) :: (93, .int .i64 v7) :: keepF [7, 84, 85, 86, 91, 92] f) f_ ∧ SegSub (ch7 :: selS [] 2 l) l_ ∧ Own rInt 3 μ_ (.slice A16 times4.length c16) times4 ch7) ⟨A14, c14, ch6, fE E, sE [some 1] 2 E, (hO6)⟩ ?_
          rintro ⟨times4, v7⟩ _ _ μ19047 _ hm19047 ⟨A16, c16, ch7, hF19047, hS19047, hO7⟩ hb19047 hq19047
          unfold tour_plan_l3 at hb19047
          replace hb19047 := oun_mk hb19047
          replace hO6 := hO6.mono hm19047
          replace hA16 := hA16.mono hm19047
          refine Atn 1 hF19047 hS19047 E E (G0 5 E ?_)
          refine Br hb19047 94 E E (fun hc14 hb19047 => ?_) (fun hc14 hb19047 => ?_)
          · refine G2 3 [94] [] [] E ?_
            refine Cut hb19047 (fun f l o_ f_ μ_ l_ => ∃ (times5 : (List Int)) (A17 : Option Addr) (c17 : Nat) (ch9 : Seg), times5 = o_ ∧ SubFr ((13, .slice A17 times5.length c17) :: keepF [7, 84, 85, 86, 91, 92, 93] f) f_ ∧ SegSub (ch9 :: selS [] 1 l) l_ ∧ Own rInt 3 μ_ (.slice A17 times5.length c17) times5 ch9) ?_ ?_
            · intro _ h19050 hb19047
              refine G0 3 E (Ix h19050 (ArrR.rds hA16 L) E E fun x7 _ _ _ hr6 hc15 _ h19050 => ?_)
              obtain rfl := hr6
              refine Q3 8 [] [] [64] (Z1 (hc15.push)) E ?_
              refine Br h19050 98 E E (fun hc16 h19050 => ?_) (fun hc16 h19050 => ?_)
              · refine G2 4 [98] [] [] E (IxA h19050 (Own.rds hO7 0 E) E E fun x8 _ _ _ hr7 hc17 _ h19050 => ?_)
                obtain rfl := hr7
                refine Q3 2 [] [] [64] (Z1 hc17) E (IxA h19050 (Own.rds hO7 0 E) E E fun _ a8 _ hx11 hr8 _ hA19 h19050 => ?_)
                obtain rfl := hr8
                refine Q0 0 E (So E (O_store (vs := [.int .i64 (w64 (x8 + 1))]) E E E E E E ?_))
                rw [← Addr.add_zero' ((a8.add (x7.toNat * 1)))]
                refine Own.store (μ := μ19047) (r := rInt) (x' := w64 (x8 + 1)) (o := 0) (sz := 1) 0 rfl hO7 hA19 hx11 rfl rfl (by rintro _ rfl; rfl) fun ch8 hO8 => ?_
                rw [← length_setI times4 x7 (w64 (x8 + 1))] at hO8 ⊢
                refine Q0 2 E ?_
                cases h19050
                exact Ce E ⟨_, A16, c16, ch8, rfl, fE E, sE [some 0] 1 E, (hO8)⟩
              refine G2 3 [] [98] [] E ?_
              cases h19050
              exact Ce E ⟨_, A16, c16, ch7, rfl, fE E, sE [some 0] 1 E, (hO7)⟩
            rintro _ _ _ _ hb19047 hm19050 ⟨times5, A17, c17, ch9, rfl, hF19050, hS19050, hO9⟩
            replace hO6 := hO6.mono hm19050
            replace hO7 := hO7.mono hm19050
            refine Atn 1 hF19050 hS19050 E E (G0 4 E ?_)
            cases hb19047
            exact Ce E ⟨_, rfl, A17, c17, ch9, fE E, sE [some 0] 1 E, (hO9)⟩
          refine G2 2 [] [94] [] E ?_
          cases hb19047
          have hq_ := hq19047 _ E
          subst hq_
          exact Ce E ⟨_, A16, c16, ch7, rfl, fE E, sE [some 0] 1 E, (hO7)⟩
        rintro _ _ _ _ h19036 hm19041 ⟨times6, A18, c18, ch10, rfl, hF19041, hS19041, hO10⟩
        replace hO6 := hO6.mono hm19041
        refine G0 1 E ?_
        cases h19036
        exact Ce E ⟨_, A18, c18, ch10, rfl, hF19041.tr E, hS19041.tr (sE [some 0] 1 E), (hO10)⟩
      rintro _ _ _ _ hb19033 hm19036 ⟨times7, A19, c19, ch11, rfl, hF19036, hS19036, hO11⟩
      replace hO6 := hO6.mono hm19036
      refine Atn 1 hF19036 hS19036 E E (G0 4 E ?_)
      cases hb19033
      exact Ce E ⟨_, rfl, A19, c19, ch11, fE E, sE [some 0] 1 E, (hO11)⟩
    refine G2 2 [] [87] [] E ?_
    cases hb19033
    have hq_ := hq19033 _ E
    subst hq_
    exact Ce E ⟨_, A14, c14, ch6, rfl, fE E, sE [some 0] 1 E, (hO6)⟩
  rintro _ _ _ _ h hm19011 ⟨times8, A20, c20, ch12, rfl, hF19011, hS19011, hO12⟩
  refine Atn 1 hF19011 hS19011 E E (G0 4 E (Cl E ?_))
  obtain ⟨_, hx12, h⟩ := obind h
  refine slices_ContainsFunc_int_c55_fn (Own.lenOk hO12) (Own.rds hO12 0 E) hx12 ((Q0 1 E ?_))
  refine Br h 108 E E (fun hc19 h => ?_) (fun hc19 h => ?_)
  · refine G2 6 [108] [] [] E ?_
    cases h
    exact Rt [] E E (Ug [] 1 (hR _ (hm_1.trans (hm18920.trans (hm18986.trans hm19011)))))
  refine G2 6 [] [108] [] E (Cl E ?_)
  obtain ⟨_, hx13, h⟩ := obind h
  refine slices_Contains_int_fn (Own.lenOk hO12) (Own.rds hO12 0 E) hx13 ((Q0 1 E ?_))
  refine Br h 110 E E (fun hc20 h => ?_) (fun hc20 h => ?_)
  · refine G2 6 [110] [] [] E ?_
    cases h
    exact Rt [] E E (Ug [] 1 (hR _ (hm_1.trans (hm18920.trans (hm18986.trans hm19011)))))
  refine G2 8 [] [110] [] E ?_
  cases h
  exact Rt [] E E (Ug [] 1 (hR _ (hm_1.trans (hm18920.trans (hm18986.trans hm19011)))))

theorem tour_Feasible_fn {F : Nat} {p1 : T_api_Problem} {x1 : T_api_Plan} {A1 : Option Addr} {c1 : Nat} {A2 : Option Addr} {c2 : Nat} {A3 : Option Addr} {c3 : Nat} {A4 : Option Addr} {c4 : Nat} {A5 : Option Addr} {c5 : Nat} {res1 : Int}
    (hl1 : p1.Road.Edges.length ≤ c1 ∧ c1 ≤ maxLen) (hA1 : ArrR r_api_Edge μ A1 p1.Road.Edges) (hl2 : p1.Vehicles.length ≤ c2 ∧ c2 ≤ maxLen) (hA2 : ArrR r_api_Vehicle μ A2 p1.Vehicles) (hl3 : p1.Demands.length ≤ c3 ∧ c3 ≤ maxLen) (hA3 : ArrR r_api_Demand μ A3 p1.Demands) (hl4 : x1.Tours.length ≤ c4 ∧ c4 ≤ maxLen) (hA4 : ArrR r_api_Tour μ A4 x1.Tours) (hl5 : x1.Left.length ≤ c5 ∧ c5 ≤ maxLen) (hA5 : ArrR rInt μ A5 x1.Left) (h : tour_Feasible F p1 x1 = some res1)
    (hR : ∀ (μ' : Gh) , μ.le μ' → R (.int .i64 res1) μ' (L)) :
    Fn Try.prog 24 [.agg #[.int .i64 p1.Road.Nodes, .slice A1 p1.Road.Edges.length c1, .slice A2 p1.Vehicles.length c2, .slice A3 p1.Demands.length c3, .int .i64 p1.Unload, .int .i64 p1.UnloadSecs], .agg #[.slice A4 x1.Tours.length c4, .slice A5 x1.Left.length c5]] μ (L) R := by
  unfold tour_Feasible at h
  refine FnS Try.func24 (by kernel_rfl) E Try.ntmps24 E E ?_
  refine G0 2 E (Al E fun _ => Q0 0 E (Al E fun _ => Q1 6 [1, 0] E (Cl E ?_)))
  obtain ⟨⟨_, _⟩, hx1, h⟩ := obind h
  replace h := oun_mk h
  refine tour_plan_fn hl1 hA1 hl2 hA2 hl3 hA3 hl4 hA4 hl5 hA5 hx1 (fun _ hm_1 => ?_)
  refine Q0 11 E ?_
  cases h
  exact Rt [] E E (Ug [] 2 (hR _ hm_1))

theorem recyclinglaw23_InsertFeasible_fn {F : Nat} {p1 : T_api_Problem} {A1 : Option Addr} {c1 : Nat} {A2 : Option Addr} {c2 : Nat} {A3 : Option Addr} {c3 : Nat} {res1 : Bool}
    (hl1 : p1.Road.Edges.length ≤ c1 ∧ c1 ≤ maxLen) (hA1 : ArrR r_api_Edge μ A1 p1.Road.Edges) (hl2 : p1.Vehicles.length ≤ c2 ∧ c2 ≤ maxLen) (hA2 : ArrR r_api_Vehicle μ A2 p1.Vehicles) (hl3 : p1.Demands.length ≤ c3 ∧ c3 ≤ maxLen) (hA3 : ArrR r_api_Demand μ A3 p1.Demands) (h : recyclinglaw23_InsertFeasible F p1 = some res1)
    (hR : ∀ (μ' : Gh) , μ.le μ' → R (.bool res1) μ' (L)) :
    Fn Try.prog 9 [.agg #[.int .i64 p1.Road.Nodes, .slice A1 p1.Road.Edges.length c1, .slice A2 p1.Vehicles.length c2, .slice A3 p1.Demands.length c3, .int .i64 p1.Unload, .int .i64 p1.UnloadSecs]] μ (L) R := by
  unfold recyclinglaw23_InsertFeasible at h
  refine FnS Try.func9 (by kernel_rfl) E Try.ntmps9 E E ?_
  refine G0 2 E (Al E fun g1 => Q1 6 [0] E (Cl E ?_))
  obtain ⟨_, hx1, h⟩ := obind h
  refine recyclingref22_Large_fn hl1 hA1 hl2 hA2 hl3 hA3 hx1 ((Q0 1 E ?_))
  refine Br h 13 E E (fun hc1 h => ?_) (fun hc1 h => ?_)
  · refine G2 3 [13] [] [] E (Cl E ?_)
    obtain ⟨_, hx2, h⟩ := obind h
    refine recyclinglaw23_awake_fn  hx2 (fun _ hm_1 => ?_)
    replace hA1 := hA1.mono hm_1
    replace hA2 := hA2.mono hm_1
    replace hA3 := hA3.mono hm_1
    refine Q0 2 E ?_
    cases h
    exact Rt [] E E (Ug [] 1 (hR _ hm_1))
  refine G2 5 [] [13] [0] E (Cl E ?_)
  obtain ⟨⟨r3, _⟩, hx3, h⟩ := obind h
  replace h := oun_mk h
  refine insert_Build_fn hl1 hA1 hl2 hA2 hl3 hA3 hx3 (fun _ A4 c4 A5 c5 hm_2 hl4 hA4 hl5 hA5 => ?_)
  replace hA1 := hA1.mono hm_2
  replace hA2 := hA2.mono hm_2
  replace hA3 := hA3.mono hm_2
  refine Q0 3 E (Al E fun g2 => Q1 9 [0] E ?_)
  refine Br h 21 E E (fun hc2 h => ?_) (fun hc2 h => ?_)
  · refine G2 2 [21] [] [] E ?_
    refine Cut h (fun f l o_ f_ μ_ l_ => ∃ (v5 : Bool), v5 = o_ ∧ SubFr ((2, .bool v5) :: []) f_ ∧ SegSub (selS [] 2 l) l_) ?_ ?_
    · intro _ h19298 h
      refine G1 3 [1] E (Cl E ?_)
      obtain ⟨_, hx4, h19298⟩ := obind h19298
      refine tour_Check_fn hl1 hA1 hl2 hA2 hl3 hA3 hx4 (fun _ hm_3 => ?_)
      replace hA1 := hA1.mono hm_3
      replace hA2 := hA2.mono hm_3
      replace hA3 := hA3.mono hm_3
      replace hA4 := hA4.mono hm_3
      replace hA5 := hA5.mono hm_3
      refine Q0 2 E ?_
      refine Br h19298 26 E E (fun hc3 h19298 => ?_) (fun hc3 h19298 => ?_)
      · refine G2 6 [26] [] [0] E ?_
        refine Br h19298 32 E E (fun hc4 h19298 => ?_) (fun hc4 h19298 => ?_)
        · refine G2 6 [32] [] [0] E ?_
          refine Br h19298 38 E E (fun hc5 h19298 => ?_) (fun hc5 h19298 => ?_)
          · refine Cl E ?_
            obtain ⟨_, hx5, h19298⟩ := obind h19298
            refine recyclinglaw23_awake_fn  hx5 (fun _ hm_4 => ?_)
            replace hA1 := hA1.mono hm_4
            replace hA2 := hA2.mono hm_4
            replace hA3 := hA3.mono hm_4
            replace hA4 := hA4.mono hm_4
            replace hA5 := hA5.mono hm_4
            refine Q2 3 [38] [] [] E ?_
            cases h19298
            exact Ce E ⟨_, rfl, fE E, sE [] 2 E⟩
          refine G2 4 [] [38] [] E ?_
          cases h19298
          exact Ce E ⟨_, rfl, fE E, sE [] 2 E⟩
        refine G2 10 [] [32, 38] [] E ?_
        cases h19298
        exact Ce E ⟨_, rfl, fE E, sE [] 2 E⟩
      refine G2 16 [] [26, 32, 38] [] E ?_
      cases h19298
      exact Ce E ⟨_, rfl, fE E, sE [] 2 E⟩
    rintro _ _ _ _ h hm19298 ⟨v5, rfl, hF19298, hS19298⟩
    replace hA1 := hA1.mono hm19298
    replace hA2 := hA2.mono hm19298
    replace hA3 := hA3.mono hm19298
    replace hA4 := hA4.mono hm19298
    replace hA5 := hA5.mono hm19298
    refine Atn 0 hF19298 hS19298 E E ?_
    cases h
    exact Rt [] E E (Ug [] 0 (hR _ (hm_2.trans hm19298)))
  refine G2 7 [] [21] [1, 0] E (Cl E ?_)
  obtain ⟨_, hx6, h⟩ := obind h
  refine tour_Feasible_fn hl1 hA1 hl2 hA2 hl3 hA3 hl4 hA4 hl5 hA5 hx6 (fun _ hm_5 => ?_)
  replace hA1 := hA1.mono hm_5
  replace hA2 := hA2.mono hm_5
  replace hA3 := hA3.mono hm_5
  replace hA4 := hA4.mono hm_5
  replace hA5 := hA5.mono hm_5
  refine Q0 2 E ?_
  refine Br h 44 E E (fun hc6 h => ?_) (fun hc6 h => ?_)
  · refine G2 5 [44] [] [] E ?_
    cases h
    exact Rt [] E E (Ug [] 2 (hR _ (hm_2.trans hm_5)))
  refine G2 7 [] [44] [1] E (So E (O_mksl E E ?_))
  obtain ⟨_, hn1, h⟩ := obind h
  refine sem_mkO (r := rBool) (z := false) (zc := [.bool false]) Tt_ok E E E E E (E) E hn1 fun A6 c6 ch1 hO1 => Q0 7 E ?_
  refine Cut h (fun f l o_ f_ μ_ l_ => ∃ (used2 : (List Bool)) (A10 : Option Addr) (c10 : Nat) (ch4 : Seg), (.inl used2) = o_ ∧ SubFr ((5, .slice A10 used2.length c10) :: keepF [1, 3] f) f_ ∧ SegSub ([(g1, .cells #[.int .i64 p1.Road.Nodes, .slice A1 p1.Road.Edges.length c1, .slice A2 p1.Vehicles.length c2, .slice A3 p1.Demands.length c3, .int .i64 p1.Unload, .int .i64 p1.UnloadSecs] 28 (0, 0))] :: [(g2, .cells #[.slice A4 r3.Tours.length c4, .slice A5 r3.Left.length c5] 45 (0, 0))] :: ch4 :: selS [] 3 l) l_ ∧ Own rBool 4 μ_ (.slice A10 used2.length c10) used2 ch4) ?_ ?_
  · intro _ h19300 h
    refine Lp h19300 (fun f l (j_ : (List Bool) × Int) f_ μ_ l_ => ounP j_ fun used1 i1 => ∃ (A7 : Option Addr) (c7 : Nat) (ch2 : Seg), SubFr ((5, .slice A7 used1.length c7) :: (6, .int .i64 i1) :: keepF [1, 3] f) f_ ∧ SegSub ([(g1, .cells #[.int .i64 p1.Road.Nodes, .slice A1 p1.Road.Edges.length c1, .slice A2 p1.Vehicles.length c2, .slice A3 p1.Demands.length c3, .int .i64 p1.Unload, .int .i64 p1.UnloadSecs] 28 (0, 0))] :: [(g2, .cells #[.slice A4 r3.Tours.length c4, .slice A5 r3.Left.length c5] 45 (0, 0))] :: ch2 :: selS [] 3 l) l_ ∧ Own rBool 4 μ_ (.slice A7 used1.length c7) used1 ch2) ⟨A6, c6, ch1, fE E, sE [some 2, some 1, some 0] 3 E, (hO1)⟩ ?_
    rintro ⟨used1, i1⟩ _ _ _ _ hm19329 ⟨A7, c7, ch2, hF19329, hS19329, hO2⟩ hb19329 hq19329
    unfold recyclinglaw23_InsertFeasible_l1 at hb19329
    replace hb19329 := oun_mk hb19329
    replace hA1 := hA1.mono hm19329
    replace hA2 := hA2.mono hm19329
    replace hA3 := hA3.mono hm19329
    replace hA4 := hA4.mono hm19329
    replace hA5 := hA5.mono hm19329
    refine Atn 3 hF19329 hS19329 E E (G1 9 [1] E ?_)
    refine Br hb19329 53 E E (fun hc7 hb19329 => ?_) (fun hc7 hb19329 => ?_)
    · refine G2 9 [53] [] [1] E (Ix hb19329 (ArrR.rds hA4 L) E E fun x1 _ _ _ hr1 hc8 _ hb19329 => ?_)
      obtain ⟨_, _, rfl, _, hA7⟩ := hr1
      refine Q3 1 [] [] [64] (Z1 (hc8.push.push.push)) E (Al E fun _ => Q1 4 [0] E ?_)
      refine Cut hb19329 (fun f l o_ f_ μ_ l_ => ∃ (v7 : Bool), v7 = o_ ∧ SubFr ((103, .bool v7) :: keepF [1, 3, 5, 6, 7] f) f_ ∧ SegSub (selS [some 1, some 2, some 3, some 0] 4 l) l_) ?_ ?_
      · intro _ h19343 hb19329
        refine Dr _ Kept.refl [(true, 0), (true, 1), (true, 2), (true, 3), (true, 4), (true, 5), (true, 6), (true, 7), (true, 8), (true, 9), (true, 10), (true, 11), (true, 12), (true, 13), (true, 14), (true, 15), (true, 16), (true, 17), (true, 18), (true, 19), (true, 20), (true, 21), (true, 22), (true, 23), (true, 24), (true, 25), (true, 26), (true, 27), (true, 28), (true, 29), (true, 30), (true, 31), (true, 32), (true, 33), (true, 34), (true, 35), (true, 36), (true, 37), (true, 38), (true, 39), (true, 40), (true, 41), (true, 42)] (by kernel_rfl) (G1 4 [0] E ?_)
        refine Br h19343 64 E E (fun hc9 h19343 => ?_) (fun hc9 h19343 => ?_)
        · refine G2 40 [64, 71, 87, 93] [] [] E ?_
          cases h19343
          exact Ce E ⟨_, rfl, fE E, sE [some 1, some 2, some 3, some 0] 4 E⟩
        refine G2 7 [] [64] [0] E ?_
        refine Br h19343 71 E E (fun hc10 h19343 => ?_) (fun hc10 h19343 => ?_)
        · refine G2 33 [71, 87, 93] [] [] E ?_
          cases h19343
          exact Ce E ⟨_, rfl, fE E, sE [some 1, some 2, some 3, some 0] 4 E⟩
        refine G2 3 [] [71] [] E ?_
        refine Br h19343 74 E E (fun hc11 h19343 => ?_) (fun hc11 h19343 => ?_)
        · refine G2 6 [74] [] [0, 2] E (Ix h19343 (ArrR.rds hA4 L) E E fun _ _ _ _ hr2 hc12 _ h19343 => ?_)
          obtain ⟨_, _, rfl, _, _⟩ := hr2
          refine Q3 6 [74] [71] [64] (Z1 (hc12.push.push.push.push)) E ?_
          refine Br h19343 87 E E (fun hc13 h19343 => ?_) (fun hc13 h19343 => ?_)
          · refine G2 17 [87, 93] [] [] E ?_
            cases h19343
            exact Ce E ⟨_, rfl, fE E, sE [some 1, some 2, some 3, some 0] 4 E⟩
          refine G2 6 [] [87] [0] E ?_
          refine Br h19343 93 E E (fun hc14 h19343 => ?_) (fun hc14 h19343 => ?_)
          · refine G2 11 [93] [] [] E ?_
            cases h19343
            exact Ce E ⟨_, rfl, fE E, sE [some 1, some 2, some 3, some 0] 4 E⟩
          refine G2 6 [] [93] [0, 0] E (Ix h19343 (ArrR.rds hA7 L) E E fun _ _ _ _ hr3 hc15 _ h19343 => ?_)
          obtain rfl := hr3
          refine Q3 4 [] [93] [64] (Z1 (hc15.push.push.push.push)) E ?_
          cases h19343
          exact Ce E ⟨_, rfl, fE E, sE [some 1, some 2, some 3, some 0] 4 E⟩
        refine G2 19 [] [71, 74, 87] [0] E ?_
        refine Br h19343 93 E E (fun hc16 h19343 => ?_) (fun hc16 h19343 => ?_)
        · refine G2 11 [93] [] [] E ?_
          cases h19343
          exact Ce E ⟨_, rfl, fE E, sE [some 1, some 2, some 3, some 0] 4 E⟩
        refine G2 6 [] [93] [0, 0] E (Ix h19343 (ArrR.rds hA7 L) E E fun _ _ _ _ hr4 hc17 _ h19343 => ?_)
        obtain rfl := hr4
        refine Q3 4 [] [93] [64] (Z1 (hc17.push.push.push.push)) E ?_
        cases h19343
        exact Ce E ⟨_, rfl, fE E, sE [some 1, some 2, some 3, some 0] 4 E⟩
      rintro _ _ μ19343 _ hb19329 hm19343 ⟨v7, rfl, hF19343, hS19343⟩
      replace hA1 := hA1.mono hm19343
      replace hA2 := hA2.mono hm19343
      replace hA3 := hA3.mono hm19343
      replace hA5 := hA5.mono hm19343
      replace hO2 := hO2.mono hm19343
      refine Atn 4 hF19343 hS19343 E E ?_
      refine Br hb19329 103 E E (fun hc18 hb19329 => ?_) (fun hc18 hb19329 => ?_)
      · refine G2 5 [103] [] [] E ?_
        cases hb19329
        have hq_ := hq19329 _ E
        subst hq_
        replace h := osum_r h
        cases h
        exact Rt [] E E (Ug [] 4 (hR _ (hm_2.trans (hm_5.trans (hm19329.trans hm19343)))))
      refine G2 6 [] [103] [3] E (IxA hb19329 (Own.rds hO2 2 E) E E fun _ a5 _ hx11 hr5 _ hA12 hb19329 => ?_)
      obtain rfl := hr5
      refine Q0 0 E (So E (O_store (vs := [.bool true]) E E E E E E ?_))
      rw [← Addr.add_zero' ((a5.add (x1.Vehicle.toNat * 1)))]
      refine Own.store (μ := μ19343) (r := rBool) (x' := true) (o := 0) (sz := 1) 2 rfl hO2 hA12 hx11 rfl rfl (by rintro _ rfl; rfl) fun ch3 hO3 => ?_
      rw [← length_setI used1 x1.Vehicle true] at hO3 ⊢
      refine Q0 7 E ?_
      cases hb19329
      exact Ce E ⟨_, rfl, A7, c7, ch3, fE E, sE [some 0, some 1, some 2] 4 E, (hO3)⟩
    refine G2 2 [] [53] [] E ?_
    cases hb19329
    have hq_ := hq19329 _ E
    subst hq_
    exact Ce E ⟨_, A7, c7, ch2, rfl, fE E, sE [some 0, some 1, some 2] 3 E, (hO2)⟩
  rintro _ _ _ _ h hm19300 ⟨used2, A10, c10, ch4, rfl, hF19300, hS19300, hO4⟩
  replace h := osum_l h
  replace hA1 := hA1.mono hm19300
  replace hA2 := hA2.mono hm19300
  replace hA3 := hA3.mono hm19300
  replace hA5 := hA5.mono hm19300
  refine Atn 3 hF19300 hS19300 E E (G0 5 E ?_)
  refine Cut h (fun f l o_ f_ μ_ l_ => (.inl ()) = o_ ∧ SubFr ([]) f_ ∧ SegSub (selS [] 3 l) l_) ?_ ?_
  · intro _ h19363 h
    refine Lp h19363 (fun f l (i2 : Int) f_ μ_ l_ => SubFr ((8, .int .i64 i2) :: keepF [1, 3, 5] f) f_ ∧ SegSub l l_) ⟨fE E, sE [some 0, some 1, some 2] 3 E⟩ ?_
    rintro i2 _ _ _ _ hm19444 ⟨hF19444, hS19444⟩ hb19444 hq19444
    unfold recyclinglaw23_InsertFeasible_l3 at hb19444
    replace hA1 := hA1.mono hm19444
    replace hA2 := hA2.mono hm19444
    replace hA3 := hA3.mono hm19444
    replace hA5 := hA5.mono hm19444
    replace hO4 := hO4.mono hm19444
    refine Atn 3 hF19444 hS19444 E E (G1 9 [1] E ?_)
    refine Br hb19444 112 E E (fun hc20 hb19444 => ?_) (fun hc20 hb19444 => ?_)
    · refine G2 3 [112] [] [] E ?_
      refine Cut hb19444 (fun f l o_ f_ μ_ l_ => (.inl ()) = o_ ∧ SubFr (keepF [1, 3, 5, 8] f) f_ ∧ SegSub l l_) ?_ ?_
      · intro _ h19451 hb19444
        refine G0 3 E ?_
        refine Cut h19451 (fun f l o_ f_ μ_ l_ => ∃ (v8 : Bool), v8 = o_ ∧ SubFr ((130, .bool v8) :: keepF [1, 3, 5, 8] f) f_ ∧ SegSub l l_) ?_ ?_
        · intro _ h19452 h19451
          refine Dr _ Kept.refl [(true, 0), (true, 1), (true, 2), (true, 3), (true, 4), (true, 5), (true, 6), (true, 7), (true, 8), (true, 9), (true, 10), (true, 11), (true, 12), (true, 13), (true, 14), (true, 15)] (by kernel_rfl) (G0 3 E ?_)
          refine Br h19452 117 E E (fun hc21 h19452 => ?_) (fun hc21 h19452 => ?_)
          · refine G2 3 [117] [] [1] E (Ix h19452 (ArrR.rds hA5 L) E E fun _ _ _ _ hr6 hc22 _ h19452 => ?_)
            obtain rfl := hr6
            refine Q3 5 [117] [] [64, 1] (Z1 (hc22.push.push.push)) E (Ix h19452 (ArrR.rds hA5 L) E E fun _ _ _ _ hr7 hc23 _ h19452 => ?_)
            obtain rfl := hr7
            refine Q3 4 [117] [] [64] (Z1 (hc23.push.push.push)) E ?_
            cases h19452
            exact Ce E ⟨_, rfl, fE E, sE [some 0, some 1, some 2] 3 E⟩
          refine G2 14 [] [117] [] E ?_
          cases h19452
          exact Ce E ⟨_, rfl, fE E, sE [some 0, some 1, some 2] 3 E⟩
        rintro _ _ _ _ h19451 hm19452 ⟨v8, rfl, hF19452, hS19452⟩
        replace hA1 := hA1.mono hm19452
        replace hA2 := hA2.mono hm19452
        replace hA3 := hA3.mono hm19452
        replace hA5 := hA5.mono hm19452
        replace hO4 := hO4.mono hm19452
        refine Atn 3 hF19452 hS19452 E E ?_
        refine Br h19451 130 E E (fun hc24 h19451 => ?_) (fun hc24 h19451 => ?_)
        · refine G2 5 [130] [] [] E ?_
          cases h19451
          replace hb19444 := osum_r hb19444
          cases hb19444
          have hq_ := hq19444 _ E
          subst hq_
          replace h := osum_r h
          cases h
          exact Rt [] E E (Ug [] 3 (hR _ (hm_2.trans (hm_5.trans (hm19300.trans (hm19444.trans hm19452))))))
        refine G2 6 [] [130] [] E ?_
        refine Cut h19451 (fun f l o_ f_ μ_ l_ => (.inl ()) = o_ ∧ SubFr (keepF [1, 3, 5, 8] f) f_ ∧ SegSub l l_) ?_ ?_
        · intro _ h19457 h19451
          refine Lp h19457 (fun f l (v9 : Int) f_ μ_ l_ => SubFr ((9, .int .i64 v9) :: keepF [1, 3, 5, 8] f) f_ ∧ SegSub l l_) ⟨fE E, sE [some 0, some 1, some 2] 3 E⟩ ?_
          rintro v9 _ _ _ _ hm19487 ⟨hF19487, hS19487⟩ hb19487 hq19487
          unfold recyclinglaw23_InsertFeasible_l2 at hb19487
          replace hA1 := hA1.mono hm19487
          replace hA2 := hA2.mono hm19487
          replace hA3 := hA3.mono hm19487
          replace hA5 := hA5.mono hm19487
          replace hO4 := hO4.mono hm19487
          refine Atn 3 hF19487 hS19487 E E (G0 8 E ?_)
          refine Br hb19487 134 E E (fun hc25 hb19487 => ?_) (fun hc25 hb19487 => ?_)
          · refine G2 3 [134] [] [] E ?_
            refine Cut hb19487 (fun f l o_ f_ μ_ l_ => (.inl ()) = o_ ∧ SubFr (keepF [1, 3, 5, 8, 9] f) f_ ∧ SegSub l l_) ?_ ?_
            · intro _ h19494 hb19487
              refine G0 6 E (IxA h19494 (Own.rds hO4 2 E) E E fun _ _ _ _ hr8 hc26 _ h19494 => ?_)
              obtain rfl := hr8
              refine Q3 2 [] [] [64] (Z1 hc26) E ?_
              refine Br h19494 140 E E (fun hc27 h19494 => ?_) (fun hc27 h19494 => ?_)
              · refine G2 2 [140] [] [] E ?_
                cases h19494
                exact Ce E ⟨rfl, fE E, sE [some 0, some 1, some 2] 3 E⟩
              refine G2 3 [] [140] [] E (Dr _ Kept.refl [(true, 0), (true, 1), (true, 2), (true, 3), (true, 4), (true, 5), (true, 6), (true, 7), (false, 8), (true, 9), (true, 10), (true, 11), (true, 12), (true, 13)] (by kernel_rfl) (G1 6 [0, 1] E (Ix h19494 (ArrR.rds hA5 L) E E fun _ _ _ _ hr9 hc28 _ h19494 => ?_)))
              obtain rfl := hr9
              refine Q3 1 [] [] [64] (Z1 (hc28.push.push.push)) E (Cl E ?_)
              obtain ⟨⟨_, _⟩, hx16, h19494⟩ := obind h19494
              replace h19494 := oun_mk h19494
              refine insert_Options_fn hl1 hA1 hl2 hA2 hl3 hA3 ⟨Nat.le_refl _, Nat.zero_le _⟩ ArrR.nil hx16 (fun _ _ _ _ hm_6 _ => ?_)
              refine ⟨Kept.more (Kept.refl), ?_⟩
              refine Q0 7 E ?_
              refine Cut h19494 (fun f l o_ f_ μ_ l_ => ∃ (v11 : Bool), v11 = o_ ∧ SubFr ((159, .bool v11) :: keepF [1, 3, 5, 8, 9] f) f_ ∧ SegSub (selS [] 1 l) l_) ?_ ?_
              · intro _ h19507 h19494
                refine G0 4 E ?_
                refine Br h19507 155 E E (fun hc29 h19507 => ?_) (fun hc29 h19507 => ?_)
                · refine G2 5 [155] [] [] E ?_
                  cases h19507
                  exact Ce E ⟨_, rfl, fE E, sE [some 1, some 2, some 3] 4 E⟩
                refine G2 5 [] [155] [] E ?_
                cases h19507
                exact Ce E ⟨_, rfl, fE E, sE [some 1, some 2, some 3] 4 E⟩
              rintro _ _ _ _ h19494 hm19507 ⟨v11, rfl, hF19507, hS19507⟩
              refine Atn 3 hF19507 hS19507 E E ?_
              refine Br h19494 159 E E (fun hc30 h19494 => ?_) (fun hc30 h19494 => ?_)
              · refine G2 5 [159] [] [] E ?_
                cases h19494
                replace hb19487 := osum_r hb19487
                cases hb19487
                have hq_ := hq19487 _ E
                subst hq_
                replace h19451 := osum_r h19451
                cases h19451
                replace hb19444 := osum_r hb19444
                cases hb19444
                have hq_ := hq19444 _ E
                subst hq_
                replace h := osum_r h
                cases h
                exact Rt [] E E (Ug [] 3 (hR _ (hm_2.trans (hm_5.trans (hm19300.trans (hm19444.trans (hm19452.trans (hm19487.trans (hm_6.trans hm19507)))))))))
              refine G2 3 [] [159] [] E ?_
              cases h19494
              exact Ce E ⟨rfl, fE E, sE [some 0, some 1, some 2] 3 E⟩
            rintro _ _ _ _ hb19487 _ ⟨rfl, hF19494, hS19494⟩
            replace hb19487 := osum_l hb19487
            refine Atn 3 hF19494 hS19494 E E (G0 5 E ?_)
            cases hb19487
            exact Ce E ⟨_, rfl, fE E, sE [some 0, some 1, some 2] 3 E⟩
          refine G2 2 [] [134] [] E ?_
          cases hb19487
          have hq_ := hq19487 _ E
          subst hq_
          exact Ce E ⟨rfl, fE E, sE [some 0, some 1, some 2] 3 E⟩
        rintro _ _ _ _ h19451 _ ⟨rfl, hF19457, hS19457⟩
        replace h19451 := osum_l h19451
        refine G0 1 E ?_
        cases h19451
        exact Ce E ⟨rfl, hF19457.tr E, hS19457.tr (sE [some 0, some 1, some 2] 3 E)⟩
      rintro _ _ _ _ hb19444 _ ⟨rfl, hF19451, hS19451⟩
      replace hb19444 := osum_l hb19444
      refine Atn 3 hF19451 hS19451 E E (G0 5 E ?_)
      cases hb19444
      exact Ce E ⟨_, rfl, fE E, sE [some 0, some 1, some 2] 3 E⟩
    refine G2 2 [] [112] [] E ?_
    cases hb19444
    have hq_ := hq19444 _ E
    subst hq_
    exact Ce E ⟨rfl, fE E, sE [] 3 E⟩
  rintro _ _ _ _ h hm19363 ⟨rfl, hF19363, hS19363⟩
  replace h := osum_l h
  refine Atn 0 hF19363 hS19363 E E (G0 2 E (Cl E ?_))
  obtain ⟨_, hx17, h⟩ := obind h
  refine recyclinglaw23_awake_fn  hx17 (fun _ hm_7 => ?_)
  refine Q0 2 E ?_
  cases h
  exact Rt [] E E (Ug [] 0 (hR _ (hm_2.trans (hm_5.trans (hm19300.trans (hm19363.trans hm_7))))))

end Go.Proofs.Ytfekfbcghnlohaa
