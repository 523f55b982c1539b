/- Printed by gen2.py of this repo: the walks that tie the functions to their specifications. -/
import Derived.Test.YtfekfbcghnlohaaTt
import Derived.Test.YtfekfbcghnlohaaTas
import Derived.Test.YtfekfbcghnlohaaTaw1
import Derived.Test.YtfekfbcghnlohaaTaw2
import Derived.Test.YtfekfbcghnlohaaTaw3
import Derived.Test.YtfekfbcghnlohaaTaw4
namespace Go.Proofs.Ytfekfbcghnlohaa
open Go.RowKit
set_option linter.unusedSimpArgs false
set_option linter.unusedVariables false
set_option maxHeartbeats 2000000
set_option maxRecDepth 4000
attribute [local irreducible] WP SemOk SemU Fn AN Upd vcR vcO vcOps vcPlan putK fillK resK inBlk forkOne Cell StAt Kept KS

variable {μ : Gh} {L : List Seg} {R : Value → Gh → List Seg → Prop}
theorem recyclinglaw23_InsertOptions_fn {F : Nat} {p1 : T_api_Problem} {t1 : T_api_Tour} {d1 : Int} {A1 : Option Addr} {c1 : Nat} {A2 : Option Addr} {c2 : Nat} {A3 : Option Addr} {c3 : Nat} {A4 : Option Addr} {c4 : Nat} {res1 : Bool}
    (hl1 : p1.Road.Edges.length ≤ c1 ∧ c1 ≤ maxLen) (hA1 : ArrR r_api_Edge μ A1 p1.Road.Edges) (hl2 : p1.Vehicles.length ≤ c2 ∧ c2 ≤ maxLen) (hA2 : ArrR r_api_Vehicle μ A2 p1.Vehicles) (hl3 : p1.Demands.length ≤ c3 ∧ c3 ≤ maxLen) (hA3 : ArrR r_api_Demand μ A3 p1.Demands) (hl4 : t1.Stops.length ≤ c4 ∧ c4 ≤ maxLen) (hA4 : ArrR rInt μ A4 t1.Stops) (h : recyclinglaw23_InsertOptions F p1 t1 d1 = some res1)
    (hR : ∀ (μ' : Gh) , μ.le μ' → R (.bool res1) μ' (L)) :
    Fn Try.prog 3 [.agg #[.int .i64 p1.Road.Nodes, .slice A1 p1.Road.Edges.length c1, .slice A2 p1.Vehicles.length c2, .slice A3 p1.Demands.length c3, .int .i64 p1.Unload, .int .i64 p1.UnloadSecs], .agg #[.int .i64 t1.Vehicle, .slice A4 t1.Stops.length c4], .int .i64 d1] μ (L) R := by
  unfold recyclinglaw23_InsertOptions at h
  refine FnS Try.func3 (by kernel_rfl) E Try.ntmps3 E E ?_
  refine G0 2 E (Al E fun _ => Q0 0 E (Al E fun _ => Q1 7 [1, 0] E (Cl E ?_)))
  obtain ⟨_, hx1, h⟩ := obind h
  refine recyclinglaw23_light_fn hl1 hA1 hl2 hA2 hl3 hA3 hl4 hA4 hx1 ((Q0 2 E ?_))
  refine Br h 18 E E (fun hc1 h => ?_) (fun hc1 h => ?_)
  · refine G2 3 [18] [] [] E (Cl E ?_)
    obtain ⟨_, hx2, h⟩ := obind h
    refine recyclinglaw23_awake_fn  hx2 (fun _ hm_1 => ?_)
    replace hA1 := hA1.mono hm_1
    replace hA2 := hA2.mono hm_1
    replace hA3 := hA3.mono hm_1
    replace hA4 := hA4.mono hm_1
    refine Q0 2 E ?_
    cases h
    exact Rt [] E E (Ug [] 2 (hR _ hm_1))
  refine G2 7 [] [18] [1, 0] E (Cl E ?_)
  obtain ⟨⟨_, _⟩, hx3, h⟩ := obind h
  replace h := oun_mk h
  refine insert_Options_fn hl1 hA1 hl2 hA2 hl3 hA3 hl4 hA4 hx3 (fun _ _ _ _ hm_2 hO1 => ?_)
  replace hA1 := hA1.mono hm_2
  replace hA2 := hA2.mono hm_2
  replace hA3 := hA3.mono hm_2
  replace hA4 := hA4.mono hm_2
  refine Q1 11 [2, 1] E (Cl E ?_)
  obtain ⟨⟨_, _⟩, hx4, h⟩ := obind h
  replace h := oun_mk h
  refine recyclingref23_Options_fn hl1 hA1 hl2 hA2 hl3 hA3 hl4 hA4 hx4 (fun _ _ _ _ hm_3 hO2 => ?_)
  replace hA1 := hA1.mono hm_3
  replace hA2 := hA2.mono hm_3
  replace hA3 := hA3.mono hm_3
  replace hA4 := hA4.mono hm_3
  replace hO1 := hO1.mono hm_3
  refine Q0 8 E ?_
  refine Cut h (fun f l o_ f_ μ_ l_ => ∃ (v4 : Bool), v4 = o_ ∧ SubFr ((42, .bool v4) :: keepF [2, 3, 4] f) f_ ∧ SegSub (selS [some 3, some 2] 4 l) l_) ?_ ?_
  · intro _ h16515 h
    refine G0 5 E ?_
    refine Br h16515 37 E E (fun hc2 h16515 => ?_) (fun hc2 h16515 => ?_)
    · refine G2 6 [37] [] [] E ?_
      cases h16515
      exact Ce E ⟨_, rfl, fE E, sE [some 3, some 2] 4 E⟩
    refine G2 2 [] [37] [] E (Cl E ?_)
    obtain ⟨_, hx5, h16515⟩ := obind h16515
    refine recyclingref23_Same_fn (Own.lenOk hO1) (Own.rds hO1 1 E) (Own.lenOk hO2) (Own.rds hO2 0 E) hx5 ((Q2 3 [] [37] [] E ?_))
    cases h16515
    exact Ce E ⟨_, rfl, fE E, sE [some 3, some 2] 4 E⟩
  rintro _ _ _ _ h hm16515 ⟨v4, rfl, hF16515, hS16515⟩
  replace hA1 := hA1.mono hm16515
  replace hA2 := hA2.mono hm16515
  replace hA3 := hA3.mono hm16515
  replace hA4 := hA4.mono hm16515
  refine Atn 2 hF16515 hS16515 E E ?_
  refine Br h 42 E E (fun hc3 h => ?_) (fun hc3 h => ?_)
  · refine G2 5 [42] [] [] E ?_
    cases h
    exact Rt [] E E (Ug [] 2 (hR _ (hm_2.trans (hm_3.trans hm16515))))
  refine G2 7 [] [42] [0, 1] E (Cl E ?_)
  obtain ⟨⟨_, _⟩, hx6, h⟩ := obind h
  replace h := oun_mk h
  refine insert_Best_fn hl1 hA1 hl2 hA2 hl3 hA3 hl4 hA4 hx6 (fun _ _ _ hm_4 hl5 hA5 => ?_)
  replace hA1 := hA1.mono hm_4
  replace hA2 := hA2.mono hm_4
  replace hA3 := hA3.mono hm_4
  replace hA4 := hA4.mono hm_4
  refine Q0 3 E (Al E fun _ => Q1 8 [0, 1, 2] E (Cl E ?_))
  obtain ⟨⟨_, _⟩, hx7, h⟩ := obind h
  replace h := oun_mk h
  refine recyclingref23_Best_fn hl1 hA1 hl2 hA2 hl3 hA3 hl4 hA4 hx7 (fun _ _ _ hm_5 hl6 hA6 => ?_)
  replace hA5 := hA5.mono hm_5
  refine Q0 3 E (Al E fun _ => Q1 4 [0] E ?_)
  refine Cut h (fun f l o_ f_ μ_ l_ => ∃ (v8 : Bool), v8 = o_ ∧ SubFr ((6, .bool v8) :: []) f_ ∧ SegSub (selS [] 4 l) l_) ?_ ?_
  · intro _ h16528 h
    refine G0 5 E ?_
    refine Br h16528 60 E E (fun hc4 h16528 => ?_) (fun hc4 h16528 => ?_)
    · refine G2 7 [60] [] [1, 0] E ?_
      refine Br h16528 67 E E (fun hc5 h16528 => ?_) (fun hc5 h16528 => ?_)
      · refine G2 4 [67] [] [1, 0] E (Cl E ?_)
        obtain ⟨_, hx8, h16528⟩ := obind h16528
        refine recyclingref23_Ints_fn hl5 (ArrR.rds hA5 _) hl6 (ArrR.rds hA6 _) hx8 ((Q2 2 [67] [] [] E ?_))
        refine Br h16528 74 E E (fun hc6 h16528 => ?_) (fun hc6 h16528 => ?_)
        · refine Cl E ?_
          obtain ⟨_, hx9, h16528⟩ := obind h16528
          refine recyclinglaw23_awake_fn  hx9 (fun _ _ => ?_)
          refine Q2 3 [74] [] [] E ?_
          cases h16528
          exact Ce E ⟨_, rfl, fE E, sE [] 4 E⟩
        refine G2 4 [] [74] [] E ?_
        cases h16528
        exact Ce E ⟨_, rfl, fE E, sE [] 4 E⟩
      refine G2 11 [] [67, 74] [] E ?_
      cases h16528
      exact Ce E ⟨_, rfl, fE E, sE [] 4 E⟩
    refine G2 18 [] [60, 67, 74] [] E ?_
    cases h16528
    exact Ce E ⟨_, rfl, fE E, sE [] 4 E⟩
  rintro _ _ _ _ h hm16528 ⟨v8, rfl, hF16528, hS16528⟩
  refine Atn 0 hF16528 hS16528 E E ?_
  cases h
  exact Rt [] E E (Ug [] 0 (hR _ (hm_2.trans (hm_3.trans (hm16515.trans (hm_4.trans (hm_5.trans hm16528)))))))

end Go.Proofs.Ytfekfbcghnlohaa
