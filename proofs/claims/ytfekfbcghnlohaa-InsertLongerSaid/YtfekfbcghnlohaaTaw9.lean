/- Printed by gen2.py of this repo: the walks that tie the functions to their specifications. -/
import Derived.Test.YtfekfbcghnlohaaTt
import Derived.Test.YtfekfbcghnlohaaTas
import Derived.Test.YtfekfbcghnlohaaTaw1
import Derived.Test.YtfekfbcghnlohaaTaw2
import Derived.Test.YtfekfbcghnlohaaTaw3
namespace Go.Proofs.Ytfekfbcghnlohaa
open Go.RowKit
set_option linter.unusedSimpArgs false
set_option linter.unusedVariables false
set_option maxHeartbeats 2000000
set_option maxRecDepth 4000
attribute [local irreducible] WP SemOk SemU Fn AN Upd vcR vcO vcOps vcPlan putK fillK resK inBlk forkOne Cell StAt Kept KS

variable {μ : Gh} {L : List Seg} {R : Value → Gh → List Seg → Prop}
theorem recyclinglaw23_InsertLonger_fn {F : Nat} {p1 : T_api_Problem} {t1 : T_api_Tour} {d1 : Int} {more1 : Int} {A1 : Option Addr} {c1 : Nat} {A2 : Option Addr} {c2 : Nat} {A3 : Option Addr} {c3 : Nat} {A4 : Option Addr} {c4 : Nat} {res1 : Bool}
    (hl1 : p1.Road.Edges.length ≤ c1 ∧ c1 ≤ maxLen) (hA1 : ArrR r_api_Edge μ A1 p1.Road.Edges) (hl2 : p1.Vehicles.length ≤ c2 ∧ c2 ≤ maxLen) (hA2 : ArrR r_api_Vehicle μ A2 p1.Vehicles) (hl3 : p1.Demands.length ≤ c3 ∧ c3 ≤ maxLen) (hA3 : ArrR r_api_Demand μ A3 p1.Demands) (hl4 : t1.Stops.length ≤ c4 ∧ c4 ≤ maxLen) (hA4 : ArrR rInt μ A4 t1.Stops) (h : recyclinglaw23_InsertLonger F p1 t1 d1 more1 = some res1)
    (hR : ∀ (μ' : Gh) , μ.le μ' → R (.bool res1) μ' (L)) :
    Fn Try.prog 7 [.agg #[.int .i64 p1.Road.Nodes, .slice A1 p1.Road.Edges.length c1, .slice A2 p1.Vehicles.length c2, .slice A3 p1.Demands.length c3, .int .i64 p1.Unload, .int .i64 p1.UnloadSecs], .agg #[.int .i64 t1.Vehicle, .slice A4 t1.Stops.length c4], .int .i64 d1, .int .i64 more1] μ (L) R := by
  unfold recyclinglaw23_InsertLonger at h
  refine FnS Try.func7 (by kernel_rfl) E Try.ntmps7 E E ?_
  refine G0 2 E (Al E fun _ => Q0 0 E (Al E fun _ => Q0 4 E ?_))
  refine Cut h (fun f l o_ f_ μ_ l_ => ∃ (v1 : Bool), v1 = o_ ∧ SubFr ((29, .bool v1) :: keepF [2, 3, 4, 5] f) f_ ∧ SegSub (selS [some 1, some 0] 2 l) l_) ?_ ?_
  · intro _ h18583 h
    refine G1 3 [1, 0] E (Cl E ?_)
    obtain ⟨_, hx1, h18583⟩ := obind h18583
    refine recyclinglaw23_light_fn hl1 hA1 hl2 hA2 hl3 hA3 hl4 hA4 hx1 ((Q0 2 E ?_))
    refine Br h18583 22 E E (fun hc1 h18583 => ?_) (fun hc1 h18583 => ?_)
    · refine G2 8 [22, 26] [] [] E ?_
      cases h18583
      exact Ce E ⟨_, rfl, fE E, sE [some 1, some 0] 2 E⟩
    refine G2 4 [] [22] [] E ?_
    refine Br h18583 26 E E (fun hc2 h18583 => ?_) (fun hc2 h18583 => ?_)
    · refine G2 4 [26] [] [] E ?_
      cases h18583
      exact Ce E ⟨_, rfl, fE E, sE [some 1, some 0] 2 E⟩
    refine G2 4 [] [26] [] E ?_
    cases h18583
    exact Ce E ⟨_, rfl, fE E, sE [some 1, some 0] 2 E⟩
  rintro _ _ _ _ h hm18583 ⟨v1, rfl, hF18583, hS18583⟩
  replace hA1 := hA1.mono hm18583
  replace hA2 := hA2.mono hm18583
  replace hA3 := hA3.mono hm18583
  replace hA4 := hA4.mono hm18583
  refine Atn 2 hF18583 hS18583 E E ?_
  refine Br h 29 E E (fun hc3 h => ?_) (fun hc3 h => ?_)
  · refine G2 3 [29] [] [] E (Cl E ?_)
    obtain ⟨_, hx2, h⟩ := obind h
    refine recyclinglaw23_awake_fn  hx2 (fun _ hm_1 => ?_)
    replace hA1 := hA1.mono hm_1
    replace hA2 := hA2.mono hm_1
    replace hA3 := hA3.mono hm_1
    replace hA4 := hA4.mono hm_1
    refine Q0 2 E ?_
    cases h
    exact Rt [] E E (Ug [] 2 (hR _ (hm18583.trans hm_1)))
  refine G2 7 [] [29] [0, 1] E (Cl E ?_)
  obtain ⟨⟨_, _⟩, hx3, h⟩ := obind h
  replace h := oun_mk h
  refine insert_Options_fn hl1 hA1 hl2 hA2 hl3 hA3 hl4 hA4 hx3 (fun _ _ _ ch1 hm_2 hO1 => ?_)
  replace hA1 := hA1.mono hm_2
  replace hA2 := hA2.mono hm_2
  replace hA3 := hA3.mono hm_2
  replace hA4 := hA4.mono hm_2
  refine Q0 12 E ?_
  refine Br h 39 E E (fun hc4 h => ?_) (fun hc4 h => ?_)
  · refine G2 3 [39] [] [] E (Cl E ?_)
    obtain ⟨_, hx4, h⟩ := obind h
    refine recyclinglaw23_awake_fn  hx4 (fun _ hm_3 => ?_)
    replace hA1 := hA1.mono hm_3
    replace hA2 := hA2.mono hm_3
    replace hA3 := hA3.mono hm_3
    replace hA4 := hA4.mono hm_3
    replace hO1 := hO1.mono hm_3
    refine Q0 2 E ?_
    cases h
    exact Rt [] E E (Ug [] 3 (hR _ (hm18583.trans (hm_2.trans hm_3))))
  refine G2 4 [] [39] [] E ?_
  refine Cut h (fun f l o_ f_ μ_ l_ => ∃ (v5 : Bool), v5 = o_ ∧ SubFr ((51, .bool v5) :: keepF [2, 3, 4, 5, 9] f) f_ ∧ SegSub (selS [some 1, some 2, some 0] 3 l) l_) ?_ ?_
  · intro _ h18589 h
    refine G1 5 [2] E ?_
    refine Br h18589 44 E E (fun hc5 h18589 => ?_) (fun hc5 h18589 => ?_)
    · refine G2 8 [44] [] [] E ?_
      cases h18589
      exact Ce E ⟨_, rfl, fE E, sE [some 1, some 2, some 0] 3 E⟩
    refine G2 8 [] [44] [2, 1] E ?_
    cases h18589
    exact Ce E ⟨_, rfl, fE E, sE [some 1, some 2, some 0] 3 E⟩
  rintro _ _ _ _ h hm18589 ⟨v5, rfl, hF18589, hS18589⟩
  replace hA1 := hA1.mono hm18589
  replace hA2 := hA2.mono hm18589
  replace hA3 := hA3.mono hm18589
  replace hA4 := hA4.mono hm18589
  replace hO1 := hO1.mono hm18589
  refine Atn 3 hF18589 hS18589 E E ?_
  refine Br h 51 E E (fun hc6 h => ?_) (fun hc6 h => ?_)
  · refine G2 5 [51] [] [] E ?_
    cases h
    exact Rt [] E E (Ug [] 3 (hR _ (hm18583.trans (hm_2.trans hm18589))))
  refine G2 11 [] [51] [0] E (So E (O_append E (SemOk.pre (Upd.nilseg (Upd.done ?_)))))
  obtain ⟨l1, hz1, h⟩ := obind h
  refine sem_appR (r := r_api_Vehicle) Tt_ok E E E E (by decide) E E 0 E (Own.nil (r := r_api_Vehicle) (e := 55)) E (ArrR.rds hA2 _) hz1 fun _ _ _ hO2 => Q1 7 [2] E (IxA h (Own.rds hO2 0 E) E E fun x1 _ _ _ hr1 hc7 _ h => ?_)
  obtain rfl := hr1
  refine Q3 7 [] [] [67] (Z1 hc7) E ?_
  refine Cut h (fun f l o_ f_ μ_ l_ => ∃ (v6 : Bool), v6 = o_ ∧ SubFr ((70, .bool v6) :: keepF [2, 3, 4, 5, 9, 11, 12] f) f_ ∧ SegSub (selS [some 1, some 2, some 3, some 0] 4 l) l_) ?_ ?_
  · intro _ h18598 h
    refine G0 4 E ?_
    refine Br h18598 65 E E (fun hc8 h18598 => ?_) (fun hc8 h18598 => ?_)
    · refine G2 6 [65] [] [] E ?_
      cases h18598
      exact Ce E ⟨_, rfl, fE E, sE [some 1, some 2, some 3, some 0] 4 E⟩
    refine G2 6 [] [65] [] E ?_
    cases h18598
    exact Ce E ⟨_, rfl, fE E, sE [some 1, some 2, some 3, some 0] 4 E⟩
  rintro _ _ μ18598 _ h hm18598 ⟨v6, rfl, hF18598, hS18598⟩
  replace hA1 := hA1.mono hm18598
  replace hA3 := hA3.mono hm18598
  replace hA4 := hA4.mono hm18598
  replace hO1 := hO1.mono hm18598
  replace hO2 := hO2.mono hm18598
  refine Atn 4 hF18598 hS18598 E E ?_
  refine Br h 70 E E (fun hc9 h => ?_) (fun hc9 h => ?_)
  · refine G2 3 [70] [] [] E (Cl E ?_)
    obtain ⟨_, hx6, h⟩ := obind h
    refine recyclinglaw23_awake_fn  hx6 (fun _ hm_4 => ?_)
    replace hA1 := hA1.mono hm_4
    replace hA3 := hA3.mono hm_4
    replace hA4 := hA4.mono hm_4
    replace hO1 := hO1.mono hm_4
    replace hO2 := hO2.mono hm_4
    refine Q0 2 E ?_
    cases h
    exact Rt [] E E (Ug [] 4 (hR _ (hm18583.trans (hm_2.trans (hm18589.trans (hm18598.trans hm_4))))))
  refine G2 10 [] [70] [1] E (IxA h (Own.rds hO2 3 E) E E fun x2 _ _ hx7 hr2 _ hA6 h => ?_)
  obtain rfl := hr2
  refine Q0 2 E (So E (O_store (vs := [.int .i64 (w64 (x1.Shift.To + more1))]) rfl rfl rfl rfl rfl rfl (Own.store (μ := μ18598) (r := r_api_Vehicle) (x' := (T_api_Vehicle.mk x2.ID x2.Depot (T_api_Window.mk x2.Shift.From (w64 (x1.Shift.To + more1))) x2.Grams x2.Kinds)) (o := 3) (sz := 6) 3 rfl hO2 hA6 hx7 rfl rfl (by rintro _ rfl; rfl) fun _ hO3 => ?_)))
  rw [← length_setI l1 t1.Vehicle (T_api_Vehicle.mk x2.ID x2.Depot (T_api_Window.mk x2.Shift.From (w64 (x1.Shift.To + more1))) x2.Grams x2.Kinds)] at hO3 ⊢
  refine Q1 12 [0, 0, 1] E (Cl E ?_)
  have hl5 := Own.lenOk hO3
  refine Fn.pre Try.func12 (by kernel_rfl) E (Upd.frzOwn 3 E hO3 fun _ hm_5 hA7 => Upd.done ?_)
  replace hA1 := hA1.mono hm_5
  replace hA3 := hA3.mono hm_5
  replace hA4 := hA4.mono hm_5
  replace hO1 := hO1.mono hm_5
  obtain ⟨⟨_, _⟩, hx8, h⟩ := obind h
  replace h := oun_mk h
  refine insert_Options_fn (p1 := (T_api_Problem.mk p1.Road (setI l1 t1.Vehicle (T_api_Vehicle.mk x2.ID x2.Depot (T_api_Window.mk x2.Shift.From (w64 (x1.Shift.To + more1))) x2.Grams x2.Kinds)) p1.Demands p1.Unload p1.UnloadSecs)) hl1 hA1 hl5 hA7 hl3 hA3 hl4 hA4 hx8 (fun _ _ _ ch4 hm_6 hO4 => ?_)
  replace hO1 := hO1.mono hm_6
  refine Q0 12 E ?_
  refine Br h 91 E E (fun hc11 h => ?_) (fun hc11 h => ?_)
  · refine G2 5 [91] [] [] E ?_
    cases h
    exact Rt [] E E (Ug [] 5 (hR _ (hm18583.trans (hm_2.trans (hm18589.trans (hm18598.trans (hm_5.trans hm_6)))))))
  refine G2 7 [] [91] [] E ?_
  refine Cut h (fun f l o_ f_ μ_ l_ => (.inl ()) = o_ ∧ SubFr ([]) f_ ∧ SegSub (selS [] 5 l) l_) ?_ ?_
  · intro _ h18612 h
    refine Lp h18612 (fun f l (i1 : Int) f_ μ_ l_ => SubFr ((15, .int .i64 i1) :: keepF [9, 13] f) f_ ∧ SegSub (selS [some 3, some 0] 5 l) l_) ⟨fE E, sE [some 3, some 0] 5 E⟩ ?_
    rintro i1 _ _ _ _ hm18640 ⟨hF18640, hS18640⟩ hb18640 hq18640
    unfold recyclinglaw23_InsertLonger_l2 at hb18640
    replace hO1 := hO1.mono hm18640
    replace hO4 := hO4.mono hm18640
    refine Atn 2 hF18640 hS18640 E E (G0 8 E ?_)
    refine Br hb18640 95 E E (fun hc12 hb18640 => ?_) (fun hc12 hb18640 => ?_)
    · refine G2 3 [95] [] [] E ?_
      refine Cut hb18640 (fun f l o_ f_ μ_ l_ => (.inl ()) = o_ ∧ SubFr (keepF [9, 13, 15] f) f_ ∧ SegSub l l_) ?_ ?_
      · intro _ h18643 hb18640
        refine G0 10 E ?_
        refine Cut h18643 (fun f l o_ f_ μ_ l_ => ∃ (there3 : Bool), there3 = o_ ∧ SubFr ((16, .bool there3) :: keepF [9, 13, 15] f) f_ ∧ SegSub l l_) ?_ ?_
        · intro _ h18644 h18643
          refine Lp h18644 (fun f l (j_ : Bool × Int) f_ μ_ l_ => ounP j_ fun there1 j1 => SubFr ((16, .bool there1) :: (17, .int .i64 j1) :: keepF [9, 13, 15] f) f_ ∧ SegSub l l_) ⟨fE E, sE [some 0, some 1] 2 E⟩ ?_
          rintro ⟨there1, j1⟩ _ _ _ _ hm18657 ⟨hF18657, hS18657⟩ hb18657 hq18657
          unfold recyclinglaw23_InsertLonger_l1 at hb18657
          replace hb18657 := oun_mk hb18657
          replace hO1 := hO1.mono hm18657
          replace hO4 := hO4.mono hm18657
          refine Atn 2 hF18657 hS18657 E E (G0 8 E ?_)
          refine Br hb18657 101 E E (fun hc13 hb18657 => ?_) (fun hc13 hb18657 => ?_)
          · refine G2 3 [101] [] [] E ?_
            refine Cut hb18657 (fun f l o_ f_ μ_ l_ => ∃ (there2 : Bool), there2 = o_ ∧ SubFr ((16, .bool there2) :: keepF [9, 13, 15, 17] f) f_ ∧ SegSub l l_) ?_ ?_
            · intro _ h18658 hb18657
              refine G0 1 E (Dr _ Kept.refl [(true, 0), (true, 1), (true, 2), (true, 3), (true, 4), (true, 5), (true, 6), (true, 7), (true, 8), (true, 9), (true, 10), (true, 11), (false, 12), (true, 13), (true, 14)] (by kernel_rfl) (G0 2 E ?_))
              refine Br h18658 105 E E (fun hc14 h18658 => ?_) (fun hc14 h18658 => ?_)
              · refine G2 15 [105] [] [] E ?_
                cases h18658
                exact Ce E ⟨_, rfl, fE E, sE [some 0, some 1] 2 E⟩
              refine G2 2 [] [105] [] E (Ix h18658 (Own.rds (L := (ch1 :: ch4 :: L)) hO1 0 E) E E fun _ _ _ _ hr3 hc15 _ h18658 => ?_)
              obtain ⟨_, _, rfl, hl6, hA9⟩ := hr3
              refine Q3 4 [] [105] [65] (Z1 hc15) E (Ix h18658 (Own.rds (L := (ch1 :: ch4 :: L)) hO4 1 E) E E fun _ _ _ _ hr4 hc16 _ h18658 => ?_)
              obtain ⟨_, _, rfl, hl7, hA11⟩ := hr4
              refine Q3 2 [] [105] [65] (Z1 hc16) E (Cl E ?_)
              obtain ⟨_, hx11, h18658⟩ := obind h18658
              refine recyclingref23_Ints_fn hl6 (ArrR.rds hA9 _) hl7 (ArrR.rds hA11 _) hx11 (?_)
              refine ⟨Kept.refl, ?_⟩
              refine Q2 4 [] [105] [] E ?_
              cases h18658
              exact Ce E ⟨_, rfl, fE E, sE [some 0, some 1] 2 E⟩
            rintro _ _ _ _ hb18657 _ ⟨there2, rfl, hF18658, hS18658⟩
            refine Atn 2 hF18658 hS18658 E E (G0 5 E ?_)
            cases hb18657
            exact Ce E ⟨_, rfl, fE E, sE [some 0, some 1] 2 E⟩
          refine G2 2 [] [101] [] E ?_
          cases hb18657
          have hq_ := hq18657 _ E
          subst hq_
          exact Ce E ⟨_, rfl, fE E, sE [some 0, some 1] 2 E⟩
        rintro _ _ _ _ h18643 hm18644 ⟨there3, rfl, hF18644, hS18644⟩
        refine Atn 2 hF18644 hS18644 E E (G0 5 E ?_)
        refine Br h18643 119 E E (fun hc17 h18643 => ?_) (fun hc17 h18643 => ?_)
        · refine G2 5 [119] [] [] E ?_
          cases h18643
          replace hb18640 := osum_r hb18640
          cases hb18640
          have hq_ := hq18640 _ E
          subst hq_
          replace h := osum_r h
          cases h
          exact Rt [] E E (Ug [] 2 (hR _ (hm18583.trans (hm_2.trans (hm18589.trans (hm18598.trans (hm_5.trans (hm_6.trans (hm18640.trans hm18644)))))))))
        refine G2 3 [] [119] [] E ?_
        cases h18643
        exact Ce E ⟨rfl, fE E, sE [some 0, some 1] 2 E⟩
      rintro _ _ _ _ hb18640 _ ⟨rfl, hF18643, hS18643⟩
      replace hb18640 := osum_l hb18640
      refine Atn 2 hF18643 hS18643 E E (G0 5 E ?_)
      cases hb18640
      exact Ce E ⟨_, rfl, fE E, sE [some 0, some 1] 2 E⟩
    refine G2 2 [] [95] [] E ?_
    cases hb18640
    have hq_ := hq18640 _ E
    subst hq_
    exact Ce E ⟨rfl, fE E, sE [] 2 E⟩
  rintro _ _ _ _ h hm18612 ⟨rfl, hF18612, hS18612⟩
  replace h := osum_l h
  refine Atn 0 hF18612 hS18612 E E (G0 2 E (Cl E ?_))
  obtain ⟨_, hx12, h⟩ := obind h
  refine recyclinglaw23_awake_fn  hx12 (fun _ hm_7 => ?_)
  refine Q0 2 E ?_
  cases h
  exact Rt [] E E (Ug [] 0 (hR _ (hm18583.trans (hm_2.trans (hm18589.trans (hm18598.trans (hm_5.trans (hm_6.trans (hm18612.trans hm_7)))))))))

end Go.Proofs.Ytfekfbcghnlohaa
