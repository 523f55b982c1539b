/- Printed by gen2.py of this repo: the walks that tie the functions to their specifications. -/
import Derived.Test.YtjbminmhndgiaaaTt
import Derived.Test.YtjbminmhndgiaaaTas
import Derived.Test.YtjbminmhndgiaaaTaw1
import Derived.Test.YtjbminmhndgiaaaTaw3
import Derived.Test.YtjbminmhndgiaaaTaw4
namespace Go.Proofs.Ytjbminmhndgiaaa
open Go.RowKit
set_option linter.unusedSimpArgs false
set_option linter.unusedVariables false
set_option maxRecDepth 4000
attribute [local irreducible] WP SemOk SemU Fn AN Upd vcR vcO vcOps vcPlan putK fillK resK inBlk forkOne Cell StAt Kept KS

variable {μ : Gh} {L : List Seg} {R : Value → Gh → List Seg → Prop}
theorem recyclingref20_Carries_fn  {v1 : T_api_Vehicle} {kind1 : Int}  {res1 : Bool}
     (h : recyclingref20_Carries v1 kind1 = some res1)
    (hR : R (.bool res1) μ (L)) :
    Fn Try.prog 50 [.agg #[.string v1.ID, .int .i64 v1.Depot, .int .i64 v1.Shift.From, .int .i64 v1.Shift.To, .int .i64 v1.Grams, .int .i64 v1.Kinds], .int .i64 kind1] μ (L) R := by
  unfold recyclingref20_Carries at h
  refine FnS Try.func50 (by kernel_rfl) E Try.ntmps50 E E ?_
  refine G0 2 E (Al E fun _ => Q0 4 E ?_)
  refine Cut h (fun f l o_ f_ μ_ l_ => ∃ (v2 : Bool), v2 = o_ ∧ SubFr ((10, .bool v2) :: keepF [1, 2] f) f_ ∧ SegSub l l_ ∧ μ = μ_) ?_ ?_
  · intro _ h5100 h
    refine G0 4 E ?_
    refine Br h5100 7 E E (fun hc1 h5100 => ?_) (fun hc1 h5100 => ?_)
    · refine G2 4 [7] [] [] E ?_
      cases h5100
      exact Ce E ⟨_, rfl, fE E, sE [some 0] 1 E, rfl⟩
    refine G2 4 [] [7] [] E ?_
    cases h5100
    exact Ce E ⟨_, rfl, fE E, sE [some 0] 1 E, rfl⟩
  rintro _ _ _ _ h _ ⟨v2, rfl, hF5100, hS5100, rfl⟩
  refine Atn 1 hF5100 hS5100 E E ?_
  refine Br h 10 E E (fun hc2 h => ?_) (fun hc2 h => ?_)
  · refine G2 5 [10] [] [] E ?_
    cases h
    exact Rt [] E E (Ug [] 1 hR)
  refine G2 8 [] [10] [0] E (Rdo E E ?_)
  obtain ⟨_, hg1, h⟩ := obind h
  refine R_shrD E E E (guardO_some hg1) (Q1 4 [0] E ?_)
  cases h
  exact Rt [] E E (Ug [] 1 hR)

theorem recyclingref22_right_fn  {p1 : T_api_Problem} {v1 : T_api_Vehicle} {stops1 : (List Int)} {i1 : Int} {A1 : Option Addr} {c1 : Nat} {A2 : Option Addr} {c2 : Nat} {A3 : Option Addr} {c3 : Nat} {A4 : Option Addr} {c4 : Nat} {res1 : Int}
    (hl1 : p1.Road.Edges.length ≤ c1 ∧ c1 ≤ maxLen) (hA1 : ArrR r_api_Edge μ A1 p1.Road.Edges) (hl2 : p1.Vehicles.length ≤ c2 ∧ c2 ≤ maxLen) (hA2 : ArrR r_api_Vehicle μ A2 p1.Vehicles) (hl3 : p1.Demands.length ≤ c3 ∧ c3 ≤ maxLen) (hA3 : ArrR r_api_Demand μ A3 p1.Demands) (hl4 : stops1.length ≤ c4 ∧ c4 ≤ maxLen) (hA4 : Rds rInt μ L A4 stops1) (h : recyclingref22_right p1 v1 stops1 i1 = some res1)
    (hR : R (.int .i64 res1) μ (L)) :
    Fn Try.prog 35 [.agg #[.int .i64 p1.Road.Nodes, .slice A1 p1.Road.Edges.length c1, .slice A2 p1.Vehicles.length c2, .slice A3 p1.Demands.length c3, .int .i64 p1.Unload, .int .i64 p1.UnloadSecs], .agg #[.string v1.ID, .int .i64 v1.Depot, .int .i64 v1.Shift.From, .int .i64 v1.Shift.To, .int .i64 v1.Grams, .int .i64 v1.Kinds], .slice A4 stops1.length c4, .int .i64 i1] μ (L) R := by
  unfold recyclingref22_right at h
  refine FnS Try.func35 (by kernel_rfl) E Try.ntmps35 E E ?_
  refine G0 2 E (Al E fun _ => Q0 0 E (Al E fun _ => Q0 6 E (Ix h hA4 E E fun _ _ _ _ hr1 hc1 _ h => ?_)))
  obtain rfl := hr1
  refine Q3 9 [] [] [64] (Z1 (hc1.push.push)) E ?_
  refine Br h 16 E E (fun hc2 h => ?_) (fun hc2 h => ?_)
  · refine G2 5 [16] [] [] E ?_
    cases h
    exact Rt [] E E (Ug [] 2 hR)
  refine G2 4 [] [16] [] E ?_
  refine Cut h (fun f l o_ f_ μ_ l_ => ∃ (v2 : Bool), v2 = o_ ∧ SubFr ((25, .bool v2) :: keepF [2, 3, 4, 5, 9] f) f_ ∧ SegSub (selS [some 1, some 0] 2 l) l_ ∧ μ = μ_) ?_ ?_
  · intro _ h5075 h
    refine G0 4 E ?_
    refine Br h5075 19 E E (fun hc3 h5075 => ?_) (fun hc3 h5075 => ?_)
    · refine G2 7 [19] [] [] E ?_
      cases h5075
      exact Ce E ⟨_, rfl, fE E, sE [some 1, some 0] 2 E, rfl⟩
    refine G2 7 [] [19] [1] E ?_
    cases h5075
    exact Ce E ⟨_, rfl, fE E, sE [some 1, some 0] 2 E, rfl⟩
  rintro _ _ _ _ h _ ⟨v2, rfl, hF5075, hS5075, rfl⟩
  refine Atn 2 hF5075 hS5075 E E ?_
  refine Br h 25 E E (fun hc4 h => ?_) (fun hc4 h => ?_)
  · refine G2 5 [25] [] [] E ?_
    cases h
    exact Rt [] E E (Ug [] 2 hR)
  refine G2 7 [] [25] [] E ?_
  refine Cut h (fun f l o_ f_ μ_ l_ => (.inl ()) = o_ ∧ SubFr (keepF [4, 5, 9] f) f_ ∧ SegSub l l_ ∧ μ = μ_) ?_ ?_
  · intro _ h5080 h
    refine Lp h5080 (fun f l (k1 : Int) f_ μ_ l_ => SubFr ((10, .int .i64 k1) :: keepF [2, 3, 4, 5, 9] f) f_ ∧ SegSub l l_ ∧ μ = μ_) ⟨fE E, sE [some 0, some 1] 2 E, E⟩ ?_
    rintro k1 _ _ _ _ _ ⟨hF5088, hS5088, rfl⟩ hb5088 hq5088
    unfold recyclingref22_right_l1 at hb5088
    refine Atn 2 hF5088 hS5088 E E (G0 7 E ?_)
    refine Br hb5088 28 E E (fun hc5 hb5088 => ?_) (fun hc5 hb5088 => ?_)
    · refine G2 8 [28] [] [] E (Ix hb5088 hA4 E E fun _ _ _ _ hr2 hc6 _ hb5088 => ?_)
      obtain rfl := hr2
      refine Q3 4 [] [] [64] (Z1 (hc6.push.push)) E ?_
      refine Br hb5088 36 E E (fun hc7 hb5088 => ?_) (fun hc7 hb5088 => ?_)
      · refine G2 5 [36] [] [] E ?_
        cases hb5088
        have hq_ := hq5088 _ E
        subst hq_
        replace h := osum_r h
        cases h
        exact Rt [] E E (Ug [] 2 hR)
      refine G2 8 [] [36] [] E ?_
      cases hb5088
      exact Ce E ⟨_, rfl, fE E, sE [some 0, some 1] 2 E, rfl⟩
    refine G2 2 [] [28] [] E ?_
    cases hb5088
    have hq_ := hq5088 _ E
    subst hq_
    exact Ce E ⟨rfl, fE E, sE [some 0, some 1] 2 E, rfl⟩
  rintro _ _ _ _ h _ ⟨rfl, hF5080, hS5080, rfl⟩
  replace h := osum_l h
  refine Atn 2 hF5080 hS5080 E E (G0 2 E (Dr _ Kept.refl [(true, 0), (true, 1), (true, 2), (true, 3), (true, 4), (true, 5), (true, 6), (false, 7), (true, 8)] (by kernel_rfl) (G1 4 [1, 0] E (Ix h (ArrR.rds hA3 L) E E fun _ _ _ _ hr3 hc8 _ h => ?_))))
  obtain rfl := hr3
  refine Q3 2 [] [] [66] (Z1 (hc8.push.push)) E (Cl E ?_)
  obtain ⟨_, hx4, h⟩ := obind h
  refine recyclingref20_Carries_fn  hx4 (?_)
  refine ⟨Kept.refl, ?_⟩
  refine Q0 2 E ?_
  refine Br h 45 E E (fun hc9 h => ?_) (fun hc9 h => ?_)
  · refine G2 5 [45] [] [] E ?_
    cases h
    exact Rt [] E E (Ug [] 2 hR)
  refine G2 6 [] [45] [] E ?_
  cases h
  exact Rt [] E E (Ug [] 2 hR)

theorem recyclingref22_visit_fn  {p1 : T_api_Problem} {v1 : T_api_Vehicle} {x1 : T_api_Visit} {s1 : Int} {A1 : Option Addr} {c1 : Nat} {A2 : Option Addr} {c2 : Nat} {A3 : Option Addr} {c3 : Nat} {res1 : T_api_Visit} {res2 : Int}
    (hl1 : p1.Road.Edges.length ≤ c1 ∧ c1 ≤ maxLen) (hA1 : ArrR r_api_Edge μ A1 p1.Road.Edges) (hl2 : p1.Vehicles.length ≤ c2 ∧ c2 ≤ maxLen) (hA2 : ArrR r_api_Vehicle μ A2 p1.Vehicles) (hl3 : p1.Demands.length ≤ c3 ∧ c3 ≤ maxLen) (hA3 : ArrR r_api_Demand μ A3 p1.Demands) (h : recyclingref22_visit p1 v1 x1 s1 = some (res1, res2))
    (hR : R (.tuple #[.agg #[.int .i64 res1.Stop, .int .i64 res1.Node, .int .i64 res1.Arrive, .int .i64 res1.Start, .int .i64 res1.Leave, .int .i64 res1.Load], .int .i64 res2]) μ (L)) :
    Fn Try.prog 36 [.agg #[.int .i64 p1.Road.Nodes, .slice A1 p1.Road.Edges.length c1, .slice A2 p1.Vehicles.length c2, .slice A3 p1.Demands.length c3, .int .i64 p1.Unload, .int .i64 p1.UnloadSecs], .agg #[.string v1.ID, .int .i64 v1.Depot, .int .i64 v1.Shift.From, .int .i64 v1.Shift.To, .int .i64 v1.Grams, .int .i64 v1.Kinds], .agg #[.int .i64 x1.Stop, .int .i64 x1.Node, .int .i64 x1.Arrive, .int .i64 x1.Start, .int .i64 x1.Leave, .int .i64 x1.Load], .int .i64 s1] μ (L) R := by
  unfold recyclingref22_visit at h
  refine FnS Try.func36 (by kernel_rfl) E Try.ntmps36 E E ?_
  refine G0 2 E (Al E fun g1 => Q0 0 E (Al E fun g2 => Q0 0 E (Al E fun g3 => Q0 0 E (Al E fun g4 => Q1 8 [3] E (Al E fun g5 => Q1 8 [0] E ?_)))))
  refine Cut h (fun f l o_ f_ μ_ l_ => ∃ (f1 : Int), f1 = o_ ∧ SubFr (keepF [3, 4, 5, 6, 8, 10] f) f_ ∧ SegSub ([(g1, .cells #[.int .i64 p1.Road.Nodes, .slice A1 p1.Road.Edges.length c1, .slice A2 p1.Vehicles.length c2, .slice A3 p1.Demands.length c3, .int .i64 p1.Unload, .int .i64 p1.UnloadSecs] 28 (0, 0))] :: [(g2, .cells #[.string v1.ID, .int .i64 v1.Depot, .int .i64 v1.Shift.From, .int .i64 v1.Shift.To, .int .i64 v1.Grams, .int .i64 v1.Kinds] 46 (0, 0))] :: [(g3, .cells #[.int .i64 x1.Stop, .int .i64 x1.Node, .int .i64 x1.Arrive, .int .i64 x1.Start, .int .i64 x1.Leave, .int .i64 x1.Load] 48 (0, 0))] :: [(g4, .cells #[.int .i64 0, .int .i64 0, .int .i64 0, .int .i64 0, .int .i64 0, .int .i64 0] 48 (0, 0))] :: [(g5, .cells #[.int .i64 s1, .int .i64 f1, .int .i64 0, .int .i64 0, .int .i64 0, .int .i64 0] 48 (0, 0))] :: selS [] 5 l) l_ ∧ μ = μ_) ?_ ?_
  · intro _ h5113 h
    refine Br h5113 18 E E (fun hc1 h5113 => ?_) (fun hc1 h5113 => ?_)
    · refine G2 5 [18] [] [4] E (Ix h5113 (ArrR.rds hA3 L) E E fun _ _ _ _ hr1 hc2 _ h5113 => ?_)
      obtain rfl := hr1
      refine Q3 5 [] [] [65, 0] (Z1 (hc2.push.push.push.push.push)) E ?_
      cases h5113
      exact Ce E ⟨_, rfl, fE E, sE [some 4, some 3, some 2, some 1, some 0] 5 E, rfl⟩
    refine G2 2 [] [18] [] E ?_
    cases h5113
    exact Ce E ⟨_, rfl, fE E, sE [some 4, some 3, some 2, some 1, some 0] 5 E, rfl⟩
  rintro _ _ _ _ h _ ⟨f1, rfl, hF5113, hS5113, rfl⟩
  refine Atn 5 hF5113 hS5113 E E (G1 7 [0, 2, 4] E (Cl E ?_))
  obtain ⟨_, hx2, h⟩ := obind h
  refine recyclingref22_Leg_fn hl1 hA1 hl2 hA2 hl3 hA3 hx2 ((Q0 0 E (Al E fun _ => Q1 9 [0, 0] E ?_)))
  refine Br h 34 E E (fun hc3 h => ?_) (fun hc3 h => ?_)
  · refine G2 7 [34] [] [4] E ?_
    cases h
    exact Rt [4] E E (Ug [] 6 hR)
  refine G2 25 [] [34] [3, 0, 5, 5, 5] E ?_
  refine Br h 46 E E (fun hc4 h => ?_) (fun hc4 h => ?_)
  · refine G2 17 [46] [] [5, 1, 5, 5, 4] E ?_
    cases h
    exact Rt [4] E E (Ug [] 6 hR)
  refine G2 7 [] [46] [1] E (Ix h (ArrR.rds hA3 L) E E fun _ _ _ _ hr2 hc5 _ h => ?_)
  obtain rfl := hr2
  refine Q3 1 [] [] [64] (Z1 (hc5.push.push.push.push.push.push)) E (Al E fun _ => Q1 23 [0, 6, 0, 6, 6, 0] E ?_)
  refine Br h 71 E E (fun hc6 h => ?_) (fun hc6 h => ?_)
  · refine G2 7 [71] [] [5] E ?_
    cases h
    exact Rt [5] E E (Ug [] 7 hR)
  refine G2 31 [] [71] [6, 0, 6, 4, 0, 6, 6, 3] E ?_
  refine Br h 89 E E (fun hc7 h => ?_) (fun hc7 h => ?_)
  · refine G2 7 [89] [] [5] E ?_
    cases h
    exact Rt [5] E E (Ug [] 7 hR)
  refine G2 8 [] [89] [6, 5] E ?_
  cases h
  exact Rt [5] E E (Ug [] 7 hR)

theorem recyclingref22_home_fn  {p1 : T_api_Problem} {v1 : T_api_Vehicle} {x1 : T_api_Visit} {A1 : Option Addr} {c1 : Nat} {A2 : Option Addr} {c2 : Nat} {A3 : Option Addr} {c3 : Nat} {res1 : T_api_Visit} {res2 : Int}
    (hl1 : p1.Road.Edges.length ≤ c1 ∧ c1 ≤ maxLen) (hA1 : ArrR r_api_Edge μ A1 p1.Road.Edges) (hl2 : p1.Vehicles.length ≤ c2 ∧ c2 ≤ maxLen) (hA2 : ArrR r_api_Vehicle μ A2 p1.Vehicles) (hl3 : p1.Demands.length ≤ c3 ∧ c3 ≤ maxLen) (hA3 : ArrR r_api_Demand μ A3 p1.Demands) (h : recyclingref22_home p1 v1 x1 = some (res1, res2))
    (hR : R (.tuple #[.agg #[.int .i64 res1.Stop, .int .i64 res1.Node, .int .i64 res1.Arrive, .int .i64 res1.Start, .int .i64 res1.Leave, .int .i64 res1.Load], .int .i64 res2]) μ (L)) :
    Fn Try.prog 37 [.agg #[.int .i64 p1.Road.Nodes, .slice A1 p1.Road.Edges.length c1, .slice A2 p1.Vehicles.length c2, .slice A3 p1.Demands.length c3, .int .i64 p1.Unload, .int .i64 p1.UnloadSecs], .agg #[.string v1.ID, .int .i64 v1.Depot, .int .i64 v1.Shift.From, .int .i64 v1.Shift.To, .int .i64 v1.Grams, .int .i64 v1.Kinds], .agg #[.int .i64 x1.Stop, .int .i64 x1.Node, .int .i64 x1.Arrive, .int .i64 x1.Start, .int .i64 x1.Leave, .int .i64 x1.Load]] μ (L) R := by
  unfold recyclingref22_home at h
  refine FnS Try.func37 (by kernel_rfl) E Try.ntmps37 E E ?_
  refine G0 2 E (Al E fun _ => Q0 0 E (Al E fun _ => Q0 0 E (Al E fun _ => Q0 0 E (Al E fun _ => Q1 9 [3, 1, 2] E (Cl E ?_)))))
  obtain ⟨_, hx1, h⟩ := obind h
  refine recyclingref22_Leg_fn hl1 hA1 hl2 hA2 hl3 hA3 hx1 ((Q0 0 E (Al E fun _ => Q1 9 [0, 0] E ?_)))
  refine Br h 18 E E (fun hc1 h => ?_) (fun hc1 h => ?_)
  · refine G2 7 [18] [] [1] E ?_
    cases h
    exact Rt [1] E E (Ug [] 5 hR)
  refine G2 9 [] [18] [2] E ?_
  refine Br h 22 E E (fun hc2 h => ?_) (fun hc2 h => ?_)
  · refine G2 7 [22] [] [1] E ?_
    cases h
    exact Rt [1] E E (Ug [] 5 hR)
  refine G2 20 [] [22] [2, 0, 3] E ?_
  refine Br h 33 E E (fun hc3 h => ?_) (fun hc3 h => ?_)
  · refine G2 7 [33] [] [1] E ?_
    cases h
    exact Rt [1] E E (Ug [] 5 hR)
  refine G2 13 [] [33] [3, 1] E ?_
  cases h
  exact Rt [1] E E (Ug [] 5 hR)

theorem recyclingref22_Walk_fn  {p1 : T_api_Problem} {t1 : T_api_Tour} {A1 : Option Addr} {c1 : Nat} {A2 : Option Addr} {c2 : Nat} {A3 : Option Addr} {c3 : Nat} {A4 : Option Addr} {c4 : Nat} {res1 : (List T_api_Visit)} {res2 : Int} {res3 : Int}
    (hl1 : p1.Road.Edges.length ≤ c1 ∧ c1 ≤ maxLen) (hA1 : ArrR r_api_Edge μ A1 p1.Road.Edges) (hl2 : p1.Vehicles.length ≤ c2 ∧ c2 ≤ maxLen) (hA2 : ArrR r_api_Vehicle μ A2 p1.Vehicles) (hl3 : p1.Demands.length ≤ c3 ∧ c3 ≤ maxLen) (hA3 : ArrR r_api_Demand μ A3 p1.Demands) (hl4 : t1.Stops.length ≤ c4 ∧ c4 ≤ maxLen) (hA4 : ArrR rInt μ A4 t1.Stops) (h : recyclingref22_Walk p1 t1 = some (res1, res2, res3))
    (hR : ∀ (A0 : Option Addr) (c0 : Nat) (ch0 : Seg), Own r_api_Visit 48 μ (.slice A0 res1.length c0) res1 ch0 → R (.tuple #[.slice A0 res1.length c0, .int .i64 res2, .int .i64 res3]) μ (ch0 :: L)) :
    Fn Try.prog 16 [.agg #[.int .i64 p1.Road.Nodes, .slice A1 p1.Road.Edges.length c1, .slice A2 p1.Vehicles.length c2, .slice A3 p1.Demands.length c3, .int .i64 p1.Unload, .int .i64 p1.UnloadSecs], .agg #[.int .i64 t1.Vehicle, .slice A4 t1.Stops.length c4]] μ (L) R := by
  unfold recyclingref22_Walk at h
  refine FnS Try.func16 (by kernel_rfl) E Try.ntmps16 E E ?_
  refine G0 2 E (Al E fun g1 => Q0 0 E (Al E fun g2 => Q1 8 [1] E (Cl E ?_)))
  obtain ⟨_, hx1, h⟩ := obind h
  refine recyclingref22_Check_fn hl1 hA1 hl2 hA2 hl3 hA3 hx1 ((Q0 7 E ?_))
  refine Br h 18 E E (fun hc1 h => ?_) (fun hc1 h => ?_)
  · refine G2 8 [18] [] [] E ?_
    cases h
    exact Rt [] E E (Ug [[]] 2 (hR none 0 [] Own.nil))
  refine G2 4 [] [18] [] E ?_
  refine Cut h (fun f l o_ f_ μ_ l_ => ∃ (v1 : Bool), v1 = o_ ∧ SubFr ((30, .bool v1) :: keepF [2, 3] f) f_ ∧ SegSub (selS [some 1, some 0] 2 l) l_ ∧ μ = μ_) ?_ ?_
  · intro _ h5040 h
    refine G1 5 [0] E ?_
    refine Br h5040 23 E E (fun hc2 h5040 => ?_) (fun hc2 h5040 => ?_)
    · refine G2 8 [23] [] [] E ?_
      cases h5040
      exact Ce E ⟨_, rfl, fE E, sE [some 1, some 0] 2 E, rfl⟩
    refine G2 8 [] [23] [0, 1] E ?_
    cases h5040
    exact Ce E ⟨_, rfl, fE E, sE [some 1, some 0] 2 E, rfl⟩
  rintro _ _ _ _ h _ ⟨v1, rfl, hF5040, hS5040, rfl⟩
  refine Atn 2 hF5040 hS5040 E E ?_
  refine Br h 30 E E (fun hc3 h => ?_) (fun hc3 h => ?_)
  · refine G2 7 [30] [] [] E ?_
    cases h
    exact Rt [] E E (Ug [[]] 2 (hR none 0 [] Own.nil))
  refine G2 10 [] [30] [1] E ?_
  refine Br h 34 E E (fun hc4 h => ?_) (fun hc4 h => ?_)
  · refine G2 7 [34] [] [] E ?_
    cases h
    exact Rt [] E E (Ug [[]] 2 (hR none 0 [] Own.nil))
  refine G2 8 [] [34] [0, 1] E (Ix h (ArrR.rds hA2 L) E E fun x1 _ _ _ hr1 hc5 _ h => ?_)
  obtain rfl := hr1
  refine Q3 1 [] [] [64] (Z1 (hc5.push.push)) E (Al E fun g3 => Q1 10 [0, 0, 0] E (Al E fun g4 => Q1 14 [0, 3] E ?_))
  refine Cut h (fun f l o_ f_ μ_ l_ => ∃ (f13 : Int) (f14 : Int) (f15 : Int) (f16 : Int) (f17 : Int) (f18 : Int) (out2 : (List T_api_Visit)) (A7 : Option Addr) (c7 : Nat) (ch3 : Seg), (.inl (f13, f14, f15, f16, f17, f18, out2)) = o_ ∧ SubFr ((10, .slice A7 out2.length c7) :: keepF [2, 3, 8, 9] f) f_ ∧ SegSub ([(g1, .cells #[.int .i64 p1.Road.Nodes, .slice A1 p1.Road.Edges.length c1, .slice A2 p1.Vehicles.length c2, .slice A3 p1.Demands.length c3, .int .i64 p1.Unload, .int .i64 p1.UnloadSecs] 28 (0, 0))] :: [(g2, .cells #[.int .i64 t1.Vehicle, .slice A4 t1.Stops.length c4] 35 (0, 0))] :: [(g3, .cells #[.string x1.ID, .int .i64 x1.Depot, .int .i64 x1.Shift.From, .int .i64 x1.Shift.To, .int .i64 x1.Grams, .int .i64 x1.Kinds] 46 (0, 0))] :: [(g4, .cells #[.int .i64 f13, .int .i64 f14, .int .i64 f15, .int .i64 f16, .int .i64 f17, .int .i64 f18] 48 (0, 0))] :: ch3 :: selS [] 4 l) l_ ∧ Own r_api_Visit 48 μ_ (.slice A7 out2.length c7) out2 ch3 ∧ μ = μ_) ?_ ?_
  · intro _ h5055 h
    refine Lp h5055 (fun f l (j_ : Int × Int × Int × Int × Int × Int × (List T_api_Visit) × Int) f_ μ_ l_ => ounP j_ fun f1 j_ => ounP j_ fun f2 j_ => ounP j_ fun f3 j_ => ounP j_ fun f4 j_ => ounP j_ fun f5 j_ => ounP j_ fun f6 j_ => ounP j_ fun out1 v2 => ∃ (A5 : Option Addr) (c5 : Nat) (ch1 : Seg), SubFr ((10, .slice A5 out1.length c5) :: (50, .int .i64 v2) :: keepF [2, 3, 8, 9, 48, 49] f) f_ ∧ SegSub ([(g1, .cells #[.int .i64 p1.Road.Nodes, .slice A1 p1.Road.Edges.length c1, .slice A2 p1.Vehicles.length c2, .slice A3 p1.Demands.length c3, .int .i64 p1.Unload, .int .i64 p1.UnloadSecs] 28 (0, 0))] :: [(g2, .cells #[.int .i64 t1.Vehicle, .slice A4 t1.Stops.length c4] 35 (0, 0))] :: [(g3, .cells #[.string x1.ID, .int .i64 x1.Depot, .int .i64 x1.Shift.From, .int .i64 x1.Shift.To, .int .i64 x1.Grams, .int .i64 x1.Kinds] 46 (0, 0))] :: [(g4, .cells #[.int .i64 f1, .int .i64 f2, .int .i64 f3, .int .i64 f4, .int .i64 f5, .int .i64 f6] 48 (0, 0))] :: ch1 :: selS [] 4 l) l_ ∧ Own r_api_Visit 48 μ_ (.slice A5 out1.length c5) out1 ch1 ∧ μ = μ_) ⟨none, 0, [], fE E, sE [some 2, some 3, some 1, some 0, none] 4 E, (Own.nil), E⟩ ?_
    rintro ⟨f1, f2, f3, f4, f5, f6, out1, v2⟩ _ _ _ _ _ ⟨A5, c5, ch1, hF5405, hS5405, hO1, rfl⟩ hb5405 hq5405
    unfold recyclingref22_Walk_l1 at hb5405
    replace hb5405 := oun_mk hb5405
    replace hb5405 := oun_mk hb5405
    replace hb5405 := oun_mk hb5405
    replace hb5405 := oun_mk hb5405
    replace hb5405 := oun_mk hb5405
    replace hb5405 := oun_mk hb5405
    replace hb5405 := oun_mk hb5405
    refine Atn 5 hF5405 hS5405 E E (G0 5 E ?_)
    refine Br hb5405 51 E E (fun hc6 hb5405 => ?_) (fun hc6 hb5405 => ?_)
    · refine G2 7 [51] [] [] E (Ix hb5405 (ArrR.rds hA4 L) E E fun _ _ _ _ hr2 hc7 _ hb5405 => ?_)
      obtain rfl := hr2
      refine Q3 11 [] [] [64, 0, 2, 1] (Z1 (hc7.push.push.push.push.push)) E (Cl E ?_)
      obtain ⟨_, hx4, hb5405⟩ := obind hb5405
      refine recyclingref22_right_fn hl1 hA1 hl2 hA2 hl3 hA3 hl4 (ArrR.rds hA4 _) hx4 ((Q0 8 E ?_))
      refine Cut hb5405 (fun f l o_ f_ μ_ l_ => ∃ (f7 : Int) (f8 : Int) (f9 : Int) (f10 : Int) (f11 : Int) (f12 : Int) (e1 : Int), (f7, f8, f9, f10, f11, f12, e1) = o_ ∧ SubFr ((13, .int .i64 e1) :: keepF [2, 3, 8, 9, 10, 11, 48, 49, 50] f) f_ ∧ SegSub ([(g1, .cells #[.int .i64 p1.Road.Nodes, .slice A1 p1.Road.Edges.length c1, .slice A2 p1.Vehicles.length c2, .slice A3 p1.Demands.length c3, .int .i64 p1.Unload, .int .i64 p1.UnloadSecs] 28 (0, 0))] :: [(g2, .cells #[.int .i64 t1.Vehicle, .slice A4 t1.Stops.length c4] 35 (0, 0))] :: [(g3, .cells #[.string x1.ID, .int .i64 x1.Depot, .int .i64 x1.Shift.From, .int .i64 x1.Shift.To, .int .i64 x1.Grams, .int .i64 x1.Kinds] 46 (0, 0))] :: [(g4, .cells #[.int .i64 f7, .int .i64 f8, .int .i64 f9, .int .i64 f10, .int .i64 f11, .int .i64 f12] 48 (0, 0))] :: selS [] 4 l) l_ ∧ μ = μ_) ?_ ?_
      · intro _ h5420 hb5405
        refine Br h5420 62 E E (fun hc8 h5420 => ?_) (fun hc8 h5420 => ?_)
        · refine G2 6 [62] [] [0, 2, 3] E (Cl E ?_)
          obtain ⟨⟨_, _⟩, hx5, h5420⟩ := obind h5420
          replace h5420 := oun_mk h5420
          refine recyclingref22_visit_fn hl1 hA1 hl2 hA2 hl3 hA3 hx5 ((Q1 6 [3] E ?_))
          cases h5420
          exact Ce E ⟨_, _, _, _, _, _, _, rfl, fE E, sE [some 0, some 1, some 2, some 3, some 4] 5 E, rfl⟩
        refine G2 2 [] [62] [] E ?_
        cases h5420
        exact Ce E ⟨_, _, _, _, _, _, _, rfl, fE E, sE [some 0, some 1, some 2, some 3, some 4] 5 E, rfl⟩
      rintro _ _ _ _ hb5405 _ ⟨f7, f8, f9, f10, f11, f12, e1, rfl, hF5420, hS5420, rfl⟩
      replace hb5405 := oun_mk hb5405
      replace hb5405 := oun_mk hb5405
      replace hb5405 := oun_mk hb5405
      replace hb5405 := oun_mk hb5405
      replace hb5405 := oun_mk hb5405
      replace hb5405 := oun_mk hb5405
      refine Atn 5 hF5420 hS5420 E E (G0 6 E ?_)
      refine Br hb5405 72 E E (fun hc9 hb5405 => ?_) (fun hc9 hb5405 => ?_)
      · refine G2 9 [72] [] [] E ?_
        cases hb5405
        have hq_ := hq5405 _ E
        subst hq_
        replace h := osum_r h
        cases h
        exact Rt [] E E (Ug [[]] 5 (hR none 0 [] Own.nil))
      refine G2 5 [] [72] [3] E (So E (O_bsl (z := [.int .i64 0, .int .i64 0, .int .i64 0, .int .i64 0, .int .i64 0, .int .i64 0]) E E E E E E E (F_cons (cells' := [.int .i64 f7, .int .i64 f8, .int .i64 f9, .int .i64 f10, .int .i64 f11, .int .i64 f12]) E E E E (F_nil (fun g5 => Q0 0 E (So E (O_append E ?_)))))))
      obtain ⟨_, hz1, hb5405⟩ := obind hb5405
      refine sem_appR (r := r_api_Visit) Tt_ok E E E E (by decide) E E 5 E hO1 E (Own.rds (Own.lit (r := r_api_Visit) (e := 48) (g := g5) (xs := [(T_api_Visit.mk f7 f8 f9 f10 f11 f12)]) (cs := [.int .i64 f7, .int .i64 f8, .int .i64 f9, .int .i64 f10, .int .i64 f11, .int .i64 f12]) (css := [[.int .i64 f7, .int .i64 f8, .int .i64 f9, .int .i64 f10, .int .i64 f11, .int .i64 f12]]) E (All2.cons (E) (All2.nil)) E E) 0 E) hz1 fun A6 c6 ch2 hO2 => Q0 7 E ?_
      cases hb5405
      exact Ce E ⟨_, rfl, A6, c6, ch2, fE E, sE [some 1, some 2, some 3, some 4, some 5] 6 E, (hO2), rfl⟩
    refine G2 2 [] [51] [] E ?_
    cases hb5405
    have hq_ := hq5405 _ E
    subst hq_
    exact Ce E ⟨_, _, _, _, _, _, _, A5, c5, ch1, rfl, fE E, sE [some 0, some 1, some 2, some 3, some 4] 5 E, (hO1), rfl⟩
  rintro _ _ _ _ h _ ⟨f13, f14, f15, f16, f17, f18, out2, A7, c7, ch3, rfl, hF5055, hS5055, hO3, rfl⟩
  replace h := osum_l h
  replace h := oun_mk h
  replace h := oun_mk h
  replace h := oun_mk h
  replace h := oun_mk h
  replace h := oun_mk h
  replace h := oun_mk h
  refine Atn 5 hF5055 hS5055 E E (G1 5 [0, 2, 3] E (Cl E ?_))
  obtain ⟨⟨r5, _⟩, hx6, h⟩ := obind h
  replace h := oun_mk h
  refine recyclingref22_home_fn hl1 hA1 hl2 hA2 hl3 hA3 hx6 ((Q1 12 [3] E ?_))
  refine Br h 88 E E (fun hc10 h => ?_) (fun hc10 h => ?_)
  · refine G2 2 [88] [] [] E (Dr _ Kept.refl [(true, 0), (true, 1), (true, 2), (true, 3), (true, 4), (true, 5), (true, 6)] (by kernel_rfl) (G1 8 [1] E ?_))
    cases h
    exact Rt [] E E (Ug [[]] 5 (hR none 0 [] Own.nil))
  refine G2 6 [] [88] [3] E (So E (O_bsl (z := [.int .i64 0, .int .i64 0, .int .i64 0, .int .i64 0, .int .i64 0, .int .i64 0]) E E E E E E E (F_cons (cells' := [.int .i64 r5.Stop, .int .i64 r5.Node, .int .i64 r5.Arrive, .int .i64 r5.Start, .int .i64 r5.Leave, .int .i64 r5.Load]) E E E E (F_nil (fun g6 => Q0 0 E (So E (O_append E ?_)))))))
  obtain ⟨_, hz2, h⟩ := obind h
  refine sem_appR (r := r_api_Visit) Tt_ok E E E E (by decide) E E 5 E hO3 E (Own.rds (Own.lit (r := r_api_Visit) (e := 48) (g := g6) (xs := [r5]) (cs := [.int .i64 r5.Stop, .int .i64 r5.Node, .int .i64 r5.Arrive, .int .i64 r5.Start, .int .i64 r5.Leave, .int .i64 r5.Load]) (css := [[.int .i64 r5.Stop, .int .i64 r5.Node, .int .i64 r5.Arrive, .int .i64 r5.Start, .int .i64 r5.Leave, .int .i64 r5.Load]]) E (All2.cons (E) (All2.nil)) E E) 0 E) hz2 fun A8 c8 ch4 hO4 => Q0 4 E ?_
  cases h
  exact Rt [] E E (Ug [[5]] 6 (hR A8 c8 ch4 hO4))

end Go.Proofs.Ytjbminmhndgiaaa
