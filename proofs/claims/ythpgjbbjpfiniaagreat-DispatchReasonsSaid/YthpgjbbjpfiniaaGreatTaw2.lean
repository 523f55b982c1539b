/- Printed by gen2.py of this repo: the walks that tie the functions to their specifications. -/
import Derived.Test.YthpgjbbjpfiniaaGreatTt
import Derived.Test.YthpgjbbjpfiniaaGreatTas
import Derived.Test.YthpgjbbjpfiniaaGreatTaw1
namespace Go.Proofs.YthpgjbbjpfiniaaGreat
open Go.RowKit
set_option linter.unusedSimpArgs false
set_option linter.unusedVariables false
set_option maxHeartbeats 2000000
set_option maxRecDepth 4000
attribute [local irreducible] WP SemOk SemU Fn AN Upd vcR vcO vcOps vcPlan putK fillK resK inBlk forkOne Cell StAt Kept KS
variable {μ : Gh} {L : List Seg} {R : Value → Gh → List Seg → Prop}
theorem slices_insertionSortCmpFunc_option_c85_fn {F : Nat} {data1 : (List T_insert_option)} {a1 : Int} {b1 : Int} {A1 : Option Addr} {c1 : Nat} {ch1 : Seg} {n1 : Nat} {res1 : (List T_insert_option)}
    (hn1 : n1 = data1.length) (hO1 : Own r_insert_option 96 μ (.slice A1 n1 c1) data1 ch1) (h : slices_insertionSortCmpFunc_option_c85 F data1 a1 b1 = some res1)
    (hR : ∀ (sp0 : Seg), Own r_insert_option 96 μ (.slice A1 n1 c1) res1 sp0 → n1 = res1.length → R (.tuple #[]) μ (sp0 :: L)) :
    Fn Tryz.prog 122 [.slice A1 n1 c1, .int .i64 a1, .int .i64 b1, .func (.func 85) #[] #[]] μ (ch1 :: L) R := by
  unfold slices_insertionSortCmpFunc_option_c85 at h
  subst hn1
  have hn1 : data1.length = data1.length := rfl
  refine FnS Tryz.func122 (by kernel_rfl) E Tryz.ntmps122 E E ?_
  refine G0 6 E ?_
  refine Cut h (fun f l o_ f_ μ_ l_ => ∃ (data7 : (List T_insert_option)) (ch9 : Seg), data7 = o_ ∧ SubFr ([]) f_ ∧ SegSub (ch9 :: selS [] 1 l) l_ ∧ data1.length = data7.length ∧ Own r_insert_option 96 μ_ (.slice A1 data1.length c1) data7 ch9 ∧ μ = μ_) ?_ ?_
  · intro _ h6585 h
    refine Lp h6585 (fun f l (j_ : (List T_insert_option) × Int) f_ μ_ l_ => ounP j_ fun data2 i1 => ∃ (ch2 : Seg), SubFr ((8, .int .i64 i1) :: keepF [0, 1, 2, 3] f) f_ ∧ SegSub (ch2 :: selS [] 1 l) l_ ∧ data1.length = data2.length ∧ Own r_insert_option 96 μ_ (.slice A1 data1.length c1) data2 ch2 ∧ μ = μ_) ⟨ch1, fE E, sE [some 0] 1 E, (hn1), (hO1), E⟩ ?_
    rintro ⟨data2, i1⟩ _ _ _ _ _ ⟨ch2, hF7324, hS7324, hn2, hO2, rfl⟩ hb7324 hq7324
    unfold slices_insertionSortCmpFunc_option_c85_l2 at hb7324
    replace hb7324 := oun_mk hb7324
    refine Atn 1 hF7324 hS7324 E E (G0 7 E ?_)
    refine Br hb7324 14 E E (fun hc1 hb7324 => ?_) (fun hc1 hb7324 => ?_)
    · refine G2 3 [14] [] [] E ?_
      refine Cut hb7324 (fun f l o_ f_ μ_ l_ => ∃ (data6 : (List T_insert_option)) (ch8 : Seg), data6 = o_ ∧ SubFr (keepF [0, 1, 2, 3, 8] f) f_ ∧ SegSub (ch8 :: selS [] 1 l) l_ ∧ data1.length = data6.length ∧ Own r_insert_option 96 μ_ (.slice A1 data1.length c1) data6 ch8 ∧ μ = μ_) ?_ ?_
      · intro _ h7326 hb7324
        refine G0 6 E ?_
        refine Cut h7326 (fun f l o_ f_ μ_ l_ => ∃ (data5 : (List T_insert_option)) (ch7 : Seg), data5 = o_ ∧ SubFr (keepF [0, 1, 2, 3, 8] f) f_ ∧ SegSub (ch7 :: selS [] 1 l) l_ ∧ data1.length = data5.length ∧ Own r_insert_option 96 μ_ (.slice A1 data1.length c1) data5 ch7 ∧ μ = μ_) ?_ ?_
        · intro _ h7327 h7326
          refine Lp h7327 (fun f l (j_ : (List T_insert_option) × Int) f_ μ_ l_ => ounP j_ fun data3 j1 => ∃ (ch3 : Seg), SubFr ((9, .int .i64 j1) :: keepF [0, 1, 2, 3, 8] f) f_ ∧ SegSub (ch3 :: selS [] 1 l) l_ ∧ data1.length = data3.length ∧ Own r_insert_option 96 μ_ (.slice A1 data1.length c1) data3 ch3 ∧ μ = μ_) ⟨ch2, fE E, sE [some 0] 1 E, (hn2), (hO2), E⟩ ?_
          rintro ⟨data3, j1⟩ _ _ _ _ _ ⟨ch3, hF7694, hS7694, hn3, hO3, rfl⟩ hb7694 hq7694
          unfold slices_insertionSortCmpFunc_option_c85_l1 at hb7694
          replace hb7694 := oun_mk hb7694
          refine Atn 1 hF7694 hS7694 E E (G0 2 E ?_)
          refine Cut hb7694 (fun f l o_ f_ μ_ l_ => ∃ (v1 : Bool), v1 = o_ ∧ SubFr ((34, .bool v1) :: keepF [0, 1, 2, 3, 8, 9] f) f_ ∧ SegSub l l_ ∧ μ = μ_) ?_ ?_
          · intro _ h7700 hb7694
            refine Dr _ Kept.refl [(true, 0), (true, 1), (true, 2), (true, 3), (true, 4), (true, 5), (true, 6), (true, 7), (true, 8), (true, 9), (true, 10), (true, 11), (true, 12), (true, 13), (false, 14), (true, 15), (true, 16)] (by kernel_rfl) (G0 4 E ?_)
            refine Br h7700 21 E E (fun hc2 h7700 => ?_) (fun hc2 h7700 => ?_)
            · refine G2 3 [21] [] [] E (IxN hn3 h7700 (Own.rds (L := (ch3 :: L)) hO3 0 E) E E fun _ _ _ _ hr1 hc3 _ h7700 => ?_)
              obtain ⟨_, _, rfl, hl1, hA2⟩ := hr1
              refine Q3 4 [21] [] [64] (Z1 hc3) E (IxN hn3 h7700 (Own.rds (L := (ch3 :: L)) hO3 0 E) E E fun _ _ _ _ hr2 hc4 _ h7700 => ?_)
              obtain ⟨_, _, rfl, hl2, hA4⟩ := hr2
              refine Q3 1 [21] [] [64] (Z1 hc4) E (Cl E ?_)
              obtain ⟨_, hx3, h7700⟩ := obind h7700
              refine insert_options_1_fn hl1 hA2 hl2 hA4 hx3 (?_)
              refine ⟨Kept.refl, ?_⟩
              refine Q2 3 [21] [] [] E ?_
              cases h7700
              exact Ce E ⟨_, rfl, fE E, sE [some 0] 1 E, rfl⟩
            refine G2 14 [] [21] [] E ?_
            cases h7700
            exact Ce E ⟨_, rfl, fE E, sE [some 0] 1 E, rfl⟩
          rintro _ _ _ _ hb7694 _ ⟨v1, rfl, hF7700, hS7700, rfl⟩
          refine Atn 1 hF7700 hS7700 E E ?_
          refine Br hb7694 34 E E (fun hc5 hb7694 => ?_) (fun hc5 hb7694 => ?_)
          · refine G2 4 [34] [] [] E ?_
            refine Cut hb7694 (fun f l o_ f_ μ_ l_ => ∃ (data4 : (List T_insert_option)) (ch6 : Seg), data4 = o_ ∧ SubFr (keepF [0, 1, 2, 3, 8, 9] f) f_ ∧ SegSub (ch6 :: selS [] 1 l) l_ ∧ data1.length = data4.length ∧ Own r_insert_option 96 μ_ (.slice A1 data1.length c1) data4 ch6 ∧ μ = μ_) ?_ ?_
            · intro _ h7859 hb7694
              refine Cd (WP.draw (id := 6) wide (L) (Kp [] 1 E) E (AN.run (fuel := 8) (listed' := [true, true, true, true, true, true, true, true, false, false, true, true, false, false, false, false, false, false]) Tt_ok [(true, 0), (true, 1), (true, 2), (true, 3), (true, 4), (true, 5), (true, 6), (true, 7), (true, 10), (true, 11)] (by kernel_rfl) (by kernel_rfl) E (PL_t E (R_move E (Pt E E (R_move E (Pt E E (R_move E (Pt E E (R_move E (Pt E E (R_sub E E (P_some E ?_)))))))))))))
              refine PL_t E (R_move E (Pt E E (R_move E (Pt E E (R_sub E E (Pt E E (R_move E (Pt E E (R_move E (P_some E (PL_nil ?_)))))))))))
              refine FK_2 Tt_ok (a := 8) (b := 12) (by kernel_rfl) ?_ ?_
              · apply FO_; exact rfl; exact rfl
                obtain ⟨x3, hx4, h7859⟩ := obind h7859
                obtain ⟨a4, cs3, hA5, hr3, _, hc6⟩ := Rds.getI (Own.rds (L := (ch3 :: L)) hO3 0 rfl) hx4
                obtain ⟨A4, c4, rfl, hl3, hA6⟩ := hr3
                refine O_read E (R_iaG E E E E E E ⟨(getI_lt hx4).1, lenN hn3 (getI_lt hx4).2.1⟩ hA5 ?_)
                refine ⟨Kp [] 1 E, ?_⟩
                apply P_some; exact rfl
                refine FK_2 Tt_ok (a := 9) (b := 12) (by kernel_rfl) ?_ ?_
                · refine FO_ E E (O_read E (R_loadA E E E E (Ex.mk [.int .i64 x3.tour.Vehicle, .slice A4 x3.tour.Stops.length c4, .int .i64 x3.cost] ⟨rfl, hc6⟩ ?_)))
                  refine ⟨Kp [] 1 E, ?_⟩
                  refine P_some E (AN.run (fuel := 0) (listed' := [true, true, true, true, true, true, true, true, true, true, true, true, true, true, true, true, true, true]) Tt_ok [(false, 12), (false, 13), (false, 14), (false, 15), (false, 16), (false, 17)] (by kernel_rfl) (by kernel_rfl) E (PL_f E ?_))
                  obtain ⟨x4, hx5, h7859⟩ := obind h7859
                  obtain ⟨a5, cs4, hA7, hr4, _, hc7⟩ := Rds.getI (Own.rds (L := (ch3 :: L)) hO3 0 rfl) hx5
                  obtain ⟨A5, c5, rfl, hl4, hA8⟩ := hr4
                  refine O_read E (R_iaG E E E E E E ⟨(getI_lt hx5).1, lenN hn3 (getI_lt hx5).2.1⟩ hA7 ?_)
                  refine ⟨Kp [] 1 E, ?_⟩
                  refine P_some E (PL_f E (O_read E (R_loadA E E E E (Ex.mk [.int .i64 x4.tour.Vehicle, .slice A5 x4.tour.Stops.length c5, .int .i64 x4.cost] ⟨rfl, hc7⟩ ?_))))
                  refine ⟨Kp [] 1 E, ?_⟩
                  refine P_some E (PL_f E ?_)
                  obtain ⟨x5, hx6, h7859⟩ := obind h7859
                  obtain ⟨a6, cs5, hA9, hr5, _, hc8⟩ := Rds.getI (Own.rds (L := (ch3 :: L)) hO3 0 rfl) hx6
                  obtain ⟨A6, c6, rfl, hl5, hA10⟩ := hr5
                  refine O_read E (R_iaG E E E E E E ⟨(getI_lt hx6).1, lenN hn3 (getI_lt hx6).2.1⟩ hA9 ?_)
                  refine ⟨Kp [] 1 E, ?_⟩
                  refine P_some E (PL_f E (O_store (vs := [.int .i64 x3.tour.Vehicle, .slice A4 x3.tour.Stops.length c4, .int .i64 x3.cost]) E E E E E E ?_))
                  rw [← Addr.add_zero' ((a6.add (j1.toNat * 3)))]
                  refine Own.store (μ := μ) (r := r_insert_option) (x' := x3) (o := 0) (sz := 3) 0 rfl hO3 hA9 hx6 rfl rfl (by rintro _ ⟨A7, c7, rfl, hl6, hA11⟩; exact ⟨A4, c4, rfl, hl3, hA6⟩) fun ch4 hO4 => ?_
                  have hn4 := hn3.trans (length_setI data3 j1 x3).symm
                  refine ⟨Kp [] 1 E, ?_⟩
                  refine P_none (PL_f E ?_)
                  obtain ⟨x6, hx7, h7859⟩ := obind h7859
                  obtain ⟨a7, cs6, hA12, hr6, _, hc9⟩ := Rds.getI (Own.rds (L := (ch4 :: L)) hO4 0 rfl) hx7
                  obtain ⟨A8, c8, rfl, hl7, hA13⟩ := hr6
                  refine O_read E (R_iaG E E E E E E ⟨(getI_lt hx7).1, lenN hn4 (getI_lt hx7).2.1⟩ hA12 ?_)
                  refine ⟨Kp [] 1 E, ?_⟩
                  refine P_some E (PL_f E (O_store (vs := [.int .i64 x4.tour.Vehicle, .slice A5 x4.tour.Stops.length c5, .int .i64 x4.cost]) E E E E E E ?_))
                  rw [← Addr.add_zero' ((a7.add ((w64 (j1 - 1)).toNat * 3)))]
                  refine Own.store (μ := μ) (r := r_insert_option) (x' := x4) (o := 0) (sz := 3) 0 rfl hO4 hA12 hx7 rfl rfl (by rintro _ ⟨A9, c9, rfl, hl8, hA14⟩; exact ⟨A5, c5, rfl, hl4, hA8⟩) fun ch5 hO5 => ?_
                  have hn5 := hn4.trans (length_setI (setI data3 j1 x3) (w64 (j1 - 1)) x4).symm
                  refine ⟨Kp [] 1 E, ?_⟩
                  refine P_none (PL_nil (AN.done0 (by kernel_rfl) ?_))
                  cases h7859
                  exact Ce E ⟨_, ch5, rfl, fE E, sE [some 0] 1 E, (hn5), (hO5), rfl⟩
                obtain ⟨x4, hx5, h7859⟩ := obind h7859
                obtain ⟨x5, hx6, h7859⟩ := obind h7859
                obtain ⟨x6, hx7, h7859⟩ := obind h7859
                apply FO_; exact rfl; exact rfl
                obtain ⟨a5, cs4, hA7, hr4, _, hc7⟩ := Rds.getI (Own.rds (L := (ch3 :: L)) hO3 0 rfl) hx5
                obtain ⟨A5, c5, rfl, hl4, hA8⟩ := hr4
                refine O_read E (R_iaG E E E E E E ⟨(getI_lt hx5).1, lenN hn3 (getI_lt hx5).2.1⟩ hA7 ?_)
                refine ⟨Kp [] 1 E, ?_⟩
                apply P_some; exact rfl
                refine FK_2 Tt_ok (a := 9) (b := 13) (by kernel_rfl) ?_ ?_
                · refine FO_ E E (O_read E (R_loadA E E E E (Ex.mk [.int .i64 x3.tour.Vehicle, .slice A4 x3.tour.Stops.length c4, .int .i64 x3.cost] ⟨rfl, hc6⟩ ?_)))
                  refine ⟨Kp [] 1 E, ?_⟩
                  refine P_some E (AN.run (fuel := 0) (listed' := [true, true, true, true, true, true, true, true, true, true, true, true, true, true, true, true, true, true]) Tt_ok [(false, 13), (false, 14), (false, 15), (false, 16), (false, 17)] (by kernel_rfl) (by kernel_rfl) E (PL_f E (O_read E (R_loadA E E E E (Ex.mk [.int .i64 x4.tour.Vehicle, .slice A5 x4.tour.Stops.length c5, .int .i64 x4.cost] ⟨rfl, hc7⟩ ?_)))))
                  refine ⟨Kp [] 1 E, ?_⟩
                  refine P_some E (PL_f E ?_)
                  obtain ⟨a6, cs5, hA9, hr5, _, hc8⟩ := Rds.getI (Own.rds (L := (ch3 :: L)) hO3 0 rfl) hx5
                  obtain ⟨A6, c6, rfl, hl5, hA10⟩ := hr5
                  refine O_read E (R_iaG E E E E E E ⟨(getI_lt hx5).1, lenN hn3 (getI_lt hx5).2.1⟩ hA9 ?_)
                  refine ⟨Kp [] 1 E, ?_⟩
                  refine P_some E (PL_f E (O_store (vs := [.int .i64 x3.tour.Vehicle, .slice A4 x3.tour.Stops.length c4, .int .i64 x3.cost]) E E E E E E ?_))
                  rw [← Addr.add_zero' ((a6.add (j1.toNat * 3)))]
                  refine Own.store (μ := μ) (r := r_insert_option) (x' := x3) (o := 0) (sz := 3) 0 rfl hO3 hA9 hx5 rfl rfl (by rintro _ ⟨A7, c7, rfl, hl6, hA11⟩; exact ⟨A4, c4, rfl, hl3, hA6⟩) fun ch4 hO4 => ?_
                  have hn4 := hn3.trans (length_setI data3 j1 x3).symm
                  refine ⟨Kp [] 1 E, ?_⟩
                  refine P_none (PL_f E ?_)
                  obtain ⟨a7, cs6, hA12, hr6, _, hc9⟩ := Rds.getI (Own.rds (L := (ch4 :: L)) hO4 0 rfl) hx7
                  obtain ⟨A8, c8, rfl, hl7, hA13⟩ := hr6
                  refine O_read E (R_iaG E E E E E E ⟨(getI_lt hx7).1, lenN hn4 (getI_lt hx7).2.1⟩ hA12 ?_)
                  refine ⟨Kp [] 1 E, ?_⟩
                  refine P_some E (PL_f E (O_store (vs := [.int .i64 x4.tour.Vehicle, .slice A5 x4.tour.Stops.length c5, .int .i64 x4.cost]) E E E E E E ?_))
                  rw [← Addr.add_zero' ((a7.add ((w64 (j1 - 1)).toNat * 3)))]
                  refine Own.store (μ := μ) (r := r_insert_option) (x' := x4) (o := 0) (sz := 3) 0 rfl hO4 hA12 hx7 rfl rfl (by rintro _ ⟨A9, c9, rfl, hl8, hA14⟩; exact ⟨A5, c5, rfl, hl4, hA8⟩) fun ch5 hO5 => ?_
                  have hn5 := hn4.trans (length_setI (setI data3 j1 x3) (w64 (j1 - 1)) x4).symm
                  refine ⟨Kp [] 1 E, ?_⟩
                  refine P_none (PL_nil (AN.done0 (by kernel_rfl) ?_))
                  cases h7859
                  exact Ce E ⟨_, ch5, rfl, fE E, sE [some 0] 1 E, (hn5), (hO5), rfl⟩
                refine FO_ E E (O_read E (R_loadA E E E E (Ex.mk [.int .i64 x4.tour.Vehicle, .slice A5 x4.tour.Stops.length c5, .int .i64 x4.cost] ⟨rfl, hc7⟩ ?_)))
                refine ⟨Kp [] 1 E, ?_⟩
                refine P_some E (AN.run (fuel := 0) (listed' := [true, true, true, true, true, true, true, true, true, true, true, true, true, true, true, true, true, true]) Tt_ok [(false, 9), (false, 14), (false, 15), (false, 16), (false, 17)] (by kernel_rfl) (by kernel_rfl) E (PL_f E (O_read E (R_loadA E E E E (Ex.mk [.int .i64 x3.tour.Vehicle, .slice A4 x3.tour.Stops.length c4, .int .i64 x3.cost] ⟨rfl, hc6⟩ ?_)))))
                refine ⟨Kp [] 1 E, ?_⟩
                refine P_some E (PL_f E ?_)
                obtain ⟨a6, cs5, hA9, hr5, _, hc8⟩ := Rds.getI (Own.rds (L := (ch3 :: L)) hO3 0 rfl) hx5
                obtain ⟨A6, c6, rfl, hl5, hA10⟩ := hr5
                refine O_read E (R_iaG E E E E E E ⟨(getI_lt hx5).1, lenN hn3 (getI_lt hx5).2.1⟩ hA9 ?_)
                refine ⟨Kp [] 1 E, ?_⟩
                refine P_some E (PL_f E (O_store (vs := [.int .i64 x3.tour.Vehicle, .slice A4 x3.tour.Stops.length c4, .int .i64 x3.cost]) E E E E E E ?_))
                rw [← Addr.add_zero' ((a6.add (j1.toNat * 3)))]
                refine Own.store (μ := μ) (r := r_insert_option) (x' := x3) (o := 0) (sz := 3) 0 rfl hO3 hA9 hx5 rfl rfl (by rintro _ ⟨A7, c7, rfl, hl6, hA11⟩; exact ⟨A4, c4, rfl, hl3, hA6⟩) fun ch4 hO4 => ?_
                have hn4 := hn3.trans (length_setI data3 j1 x3).symm
                refine ⟨Kp [] 1 E, ?_⟩
                refine P_none (PL_f E ?_)
                obtain ⟨a7, cs6, hA12, hr6, _, hc9⟩ := Rds.getI (Own.rds (L := (ch4 :: L)) hO4 0 rfl) hx7
                obtain ⟨A8, c8, rfl, hl7, hA13⟩ := hr6
                refine O_read E (R_iaG E E E E E E ⟨(getI_lt hx7).1, lenN hn4 (getI_lt hx7).2.1⟩ hA12 ?_)
                refine ⟨Kp [] 1 E, ?_⟩
                refine P_some E (PL_f E (O_store (vs := [.int .i64 x4.tour.Vehicle, .slice A5 x4.tour.Stops.length c5, .int .i64 x4.cost]) E E E E E E ?_))
                rw [← Addr.add_zero' ((a7.add ((w64 (j1 - 1)).toNat * 3)))]
                refine Own.store (μ := μ) (r := r_insert_option) (x' := x4) (o := 0) (sz := 3) 0 rfl hO4 hA12 hx7 rfl rfl (by rintro _ ⟨A9, c9, rfl, hl8, hA14⟩; exact ⟨A5, c5, rfl, hl4, hA8⟩) fun ch5 hO5 => ?_
                have hn5 := hn4.trans (length_setI (setI data3 j1 x3) (w64 (j1 - 1)) x4).symm
                refine ⟨Kp [] 1 E, ?_⟩
                refine P_none (PL_nil (AN.done0 (by kernel_rfl) ?_))
                cases h7859
                exact Ce E ⟨_, ch5, rfl, fE E, sE [some 0] 1 E, (hn5), (hO5), rfl⟩
              obtain ⟨x3, hx4, h7859⟩ := obind h7859
              obtain ⟨x4, hx5, h7859⟩ := obind h7859
              obtain ⟨x5, hx6, h7859⟩ := obind h7859
              obtain ⟨x6, hx7, h7859⟩ := obind h7859
              apply FO_; exact rfl; exact rfl
              obtain ⟨a5, cs4, hA7, hr4, _, hc7⟩ := Rds.getI (Own.rds (L := (ch3 :: L)) hO3 0 rfl) hx5
              obtain ⟨A5, c5, rfl, hl4, hA8⟩ := hr4
              refine O_read E (R_iaG E E E E E E ⟨(getI_lt hx5).1, lenN hn3 (getI_lt hx5).2.1⟩ hA7 ?_)
              refine ⟨Kp [] 1 E, ?_⟩
              apply P_some; exact rfl
              refine FK_2 Tt_ok (a := 8) (b := 13) (by kernel_rfl) ?_ ?_
              · apply FO_; exact rfl; exact rfl
                obtain ⟨a4, cs3, hA5, hr3, _, hc6⟩ := Rds.getI (Own.rds (L := (ch3 :: L)) hO3 0 rfl) hx4
                obtain ⟨A4, c4, rfl, hl3, hA6⟩ := hr3
                refine O_read E (R_iaG E E E E E E ⟨(getI_lt hx4).1, lenN hn3 (getI_lt hx4).2.1⟩ hA5 ?_)
                refine ⟨Kp [] 1 E, ?_⟩
                apply P_some; exact rfl
                refine FK_2 Tt_ok (a := 9) (b := 13) (by kernel_rfl) ?_ ?_
                · refine FO_ E E (O_read E (R_loadA E E E E (Ex.mk [.int .i64 x3.tour.Vehicle, .slice A4 x3.tour.Stops.length c4, .int .i64 x3.cost] ⟨rfl, hc6⟩ ?_)))
                  refine ⟨Kp [] 1 E, ?_⟩
                  refine P_some E (AN.run (fuel := 0) (listed' := [true, true, true, true, true, true, true, true, true, true, true, true, true, true, true, true, true, true]) Tt_ok [(false, 13), (false, 14), (false, 15), (false, 16), (false, 17)] (by kernel_rfl) (by kernel_rfl) E (PL_f E (O_read E (R_loadA E E E E (Ex.mk [.int .i64 x4.tour.Vehicle, .slice A5 x4.tour.Stops.length c5, .int .i64 x4.cost] ⟨rfl, hc7⟩ ?_)))))
                  refine ⟨Kp [] 1 E, ?_⟩
                  refine P_some E (PL_f E ?_)
                  obtain ⟨a6, cs5, hA9, hr5, _, hc8⟩ := Rds.getI (Own.rds (L := (ch3 :: L)) hO3 0 rfl) hx5
                  obtain ⟨A6, c6, rfl, hl5, hA10⟩ := hr5
                  refine O_read E (R_iaG E E E E E E ⟨(getI_lt hx5).1, lenN hn3 (getI_lt hx5).2.1⟩ hA9 ?_)
                  refine ⟨Kp [] 1 E, ?_⟩
                  refine P_some E (PL_f E (O_store (vs := [.int .i64 x3.tour.Vehicle, .slice A4 x3.tour.Stops.length c4, .int .i64 x3.cost]) E E E E E E ?_))
                  rw [← Addr.add_zero' ((a6.add (j1.toNat * 3)))]
                  refine Own.store (μ := μ) (r := r_insert_option) (x' := x3) (o := 0) (sz := 3) 0 rfl hO3 hA9 hx5 rfl rfl (by rintro _ ⟨A7, c7, rfl, hl6, hA11⟩; exact ⟨A4, c4, rfl, hl3, hA6⟩) fun ch4 hO4 => ?_
                  have hn4 := hn3.trans (length_setI data3 j1 x3).symm
                  refine ⟨Kp [] 1 E, ?_⟩
                  refine P_none (PL_f E ?_)
                  obtain ⟨a7, cs6, hA12, hr6, _, hc9⟩ := Rds.getI (Own.rds (L := (ch4 :: L)) hO4 0 rfl) hx7
                  obtain ⟨A8, c8, rfl, hl7, hA13⟩ := hr6
                  refine O_read E (R_iaG E E E E E E ⟨(getI_lt hx7).1, lenN hn4 (getI_lt hx7).2.1⟩ hA12 ?_)
                  refine ⟨Kp [] 1 E, ?_⟩
                  refine P_some E (PL_f E (O_store (vs := [.int .i64 x4.tour.Vehicle, .slice A5 x4.tour.Stops.length c5, .int .i64 x4.cost]) E E E E E E ?_))
                  rw [← Addr.add_zero' ((a7.add ((w64 (j1 - 1)).toNat * 3)))]
                  refine Own.store (μ := μ) (r := r_insert_option) (x' := x4) (o := 0) (sz := 3) 0 rfl hO4 hA12 hx7 rfl rfl (by rintro _ ⟨A9, c9, rfl, hl8, hA14⟩; exact ⟨A5, c5, rfl, hl4, hA8⟩) fun ch5 hO5 => ?_
                  have hn5 := hn4.trans (length_setI (setI data3 j1 x3) (w64 (j1 - 1)) x4).symm
                  refine ⟨Kp [] 1 E, ?_⟩
                  refine P_none (PL_nil (AN.done0 (by kernel_rfl) ?_))
                  cases h7859
                  exact Ce E ⟨_, ch5, rfl, fE E, sE [some 0] 1 E, (hn5), (hO5), rfl⟩
                refine FO_ E E (O_read E (R_loadA E E E E (Ex.mk [.int .i64 x4.tour.Vehicle, .slice A5 x4.tour.Stops.length c5, .int .i64 x4.cost] ⟨rfl, hc7⟩ ?_)))
                refine ⟨Kp [] 1 E, ?_⟩
                refine P_some E (AN.run (fuel := 0) (listed' := [true, true, true, true, true, true, true, true, true, true, true, true, true, true, true, true, true, true]) Tt_ok [(false, 9), (false, 14), (false, 15), (false, 16), (false, 17)] (by kernel_rfl) (by kernel_rfl) E (PL_f E (O_read E (R_loadA E E E E (Ex.mk [.int .i64 x3.tour.Vehicle, .slice A4 x3.tour.Stops.length c4, .int .i64 x3.cost] ⟨rfl, hc6⟩ ?_)))))
                refine ⟨Kp [] 1 E, ?_⟩
                refine P_some E (PL_f E ?_)
                obtain ⟨a6, cs5, hA9, hr5, _, hc8⟩ := Rds.getI (Own.rds (L := (ch3 :: L)) hO3 0 rfl) hx5
                obtain ⟨A6, c6, rfl, hl5, hA10⟩ := hr5
                refine O_read E (R_iaG E E E E E E ⟨(getI_lt hx5).1, lenN hn3 (getI_lt hx5).2.1⟩ hA9 ?_)
                refine ⟨Kp [] 1 E, ?_⟩
                refine P_some E (PL_f E (O_store (vs := [.int .i64 x3.tour.Vehicle, .slice A4 x3.tour.Stops.length c4, .int .i64 x3.cost]) E E E E E E ?_))
                rw [← Addr.add_zero' ((a6.add (j1.toNat * 3)))]
                refine Own.store (μ := μ) (r := r_insert_option) (x' := x3) (o := 0) (sz := 3) 0 rfl hO3 hA9 hx5 rfl rfl (by rintro _ ⟨A7, c7, rfl, hl6, hA11⟩; exact ⟨A4, c4, rfl, hl3, hA6⟩) fun ch4 hO4 => ?_
                have hn4 := hn3.trans (length_setI data3 j1 x3).symm
                refine ⟨Kp [] 1 E, ?_⟩
                refine P_none (PL_f E ?_)
                obtain ⟨a7, cs6, hA12, hr6, _, hc9⟩ := Rds.getI (Own.rds (L := (ch4 :: L)) hO4 0 rfl) hx7
                obtain ⟨A8, c8, rfl, hl7, hA13⟩ := hr6
                refine O_read E (R_iaG E E E E E E ⟨(getI_lt hx7).1, lenN hn4 (getI_lt hx7).2.1⟩ hA12 ?_)
                refine ⟨Kp [] 1 E, ?_⟩
                refine P_some E (PL_f E (O_store (vs := [.int .i64 x4.tour.Vehicle, .slice A5 x4.tour.Stops.length c5, .int .i64 x4.cost]) E E E E E E ?_))
                rw [← Addr.add_zero' ((a7.add ((w64 (j1 - 1)).toNat * 3)))]
                refine Own.store (μ := μ) (r := r_insert_option) (x' := x4) (o := 0) (sz := 3) 0 rfl hO4 hA12 hx7 rfl rfl (by rintro _ ⟨A9, c9, rfl, hl8, hA14⟩; exact ⟨A5, c5, rfl, hl4, hA8⟩) fun ch5 hO5 => ?_
                have hn5 := hn4.trans (length_setI (setI data3 j1 x3) (w64 (j1 - 1)) x4).symm
                refine ⟨Kp [] 1 E, ?_⟩
                refine P_none (PL_nil (AN.done0 (by kernel_rfl) ?_))
                cases h7859
                exact Ce E ⟨_, ch5, rfl, fE E, sE [some 0] 1 E, (hn5), (hO5), rfl⟩
              refine FO_ E E (O_read E (R_loadA E E E E (Ex.mk [.int .i64 x4.tour.Vehicle, .slice A5 x4.tour.Stops.length c5, .int .i64 x4.cost] ⟨rfl, hc7⟩ ?_)))
              refine ⟨Kp [] 1 E, ?_⟩
              refine P_some E (AN.run (fuel := 0) (listed' := [true, true, true, true, true, true, true, true, true, true, true, true, true, true, true, true, true, true]) Tt_ok [(false, 8), (false, 9), (false, 14), (false, 15), (false, 16), (false, 17)] (by kernel_rfl) (by kernel_rfl) E (PL_f E ?_))
              obtain ⟨a4, cs3, hA5, hr3, _, hc6⟩ := Rds.getI (Own.rds (L := (ch3 :: L)) hO3 0 rfl) hx4
              obtain ⟨A4, c4, rfl, hl3, hA6⟩ := hr3
              refine O_read E (R_iaG E E E E E E ⟨(getI_lt hx4).1, lenN hn3 (getI_lt hx4).2.1⟩ hA5 ?_)
              refine ⟨Kp [] 1 E, ?_⟩
              refine P_some E (PL_f E (O_read E (R_loadA E E E E (Ex.mk [.int .i64 x3.tour.Vehicle, .slice A4 x3.tour.Stops.length c4, .int .i64 x3.cost] ⟨rfl, hc6⟩ ?_))))
              refine ⟨Kp [] 1 E, ?_⟩
              refine P_some E (PL_f E ?_)
              obtain ⟨a6, cs5, hA9, hr5, _, hc8⟩ := Rds.getI (Own.rds (L := (ch3 :: L)) hO3 0 rfl) hx5
              obtain ⟨A6, c6, rfl, hl5, hA10⟩ := hr5
              refine O_read E (R_iaG E E E E E E ⟨(getI_lt hx5).1, lenN hn3 (getI_lt hx5).2.1⟩ hA9 ?_)
              refine ⟨Kp [] 1 E, ?_⟩
              refine P_some E (PL_f E (O_store (vs := [.int .i64 x3.tour.Vehicle, .slice A4 x3.tour.Stops.length c4, .int .i64 x3.cost]) E E E E E E ?_))
              rw [← Addr.add_zero' ((a6.add (j1.toNat * 3)))]
              refine Own.store (μ := μ) (r := r_insert_option) (x' := x3) (o := 0) (sz := 3) 0 rfl hO3 hA9 hx5 rfl rfl (by rintro _ ⟨A7, c7, rfl, hl6, hA11⟩; exact ⟨A4, c4, rfl, hl3, hA6⟩) fun ch4 hO4 => ?_
              have hn4 := hn3.trans (length_setI data3 j1 x3).symm
              refine ⟨Kp [] 1 E, ?_⟩
              refine P_none (PL_f E ?_)
              obtain ⟨a7, cs6, hA12, hr6, _, hc9⟩ := Rds.getI (Own.rds (L := (ch4 :: L)) hO4 0 rfl) hx7
              obtain ⟨A8, c8, rfl, hl7, hA13⟩ := hr6
              refine O_read E (R_iaG E E E E E E ⟨(getI_lt hx7).1, lenN hn4 (getI_lt hx7).2.1⟩ hA12 ?_)
              refine ⟨Kp [] 1 E, ?_⟩
              refine P_some E (PL_f E (O_store (vs := [.int .i64 x4.tour.Vehicle, .slice A5 x4.tour.Stops.length c5, .int .i64 x4.cost]) E E E E E E ?_))
              rw [← Addr.add_zero' ((a7.add ((w64 (j1 - 1)).toNat * 3)))]
              refine Own.store (μ := μ) (r := r_insert_option) (x' := x4) (o := 0) (sz := 3) 0 rfl hO4 hA12 hx7 rfl rfl (by rintro _ ⟨A9, c9, rfl, hl8, hA14⟩; exact ⟨A5, c5, rfl, hl4, hA8⟩) fun ch5 hO5 => ?_
              have hn5 := hn4.trans (length_setI (setI data3 j1 x3) (w64 (j1 - 1)) x4).symm
              refine ⟨Kp [] 1 E, ?_⟩
              refine P_none (PL_nil (AN.done0 (by kernel_rfl) ?_))
              cases h7859
              exact Ce E ⟨_, ch5, rfl, fE E, sE [some 0] 1 E, (hn5), (hO5), rfl⟩
            rintro _ _ _ _ hb7694 _ ⟨data4, ch6, rfl, hF7859, hS7859, hn6, hO6, rfl⟩
            refine Atn 1 hF7859 hS7859 E E (G0 6 E ?_)
            cases hb7694
            exact Ce E ⟨_, rfl, ch6, fE E, sE [some 0] 1 E, (hn6), (hO6), rfl⟩
          refine G2 2 [] [34] [] E ?_
          cases hb7694
          have hq_ := hq7694 _ E
          subst hq_
          exact Ce E ⟨_, ch3, rfl, fE E, sE [some 0] 1 E, (hn3), (hO3), rfl⟩
        rintro _ _ _ _ h7326 _ ⟨data5, ch7, rfl, hF7327, hS7327, hn7, hO7, rfl⟩
        refine G0 1 E ?_
        cases h7326
        exact Ce E ⟨_, ch7, rfl, hF7327.tr E, hS7327.tr (sE [some 0] 1 E), (hn7), (hO7), rfl⟩
      rintro _ _ _ _ hb7324 _ ⟨data6, ch8, rfl, hF7326, hS7326, hn8, hO8, rfl⟩
      refine Atn 1 hF7326 hS7326 E E (G0 5 E ?_)
      cases hb7324
      exact Ce E ⟨_, rfl, ch8, fE E, sE [some 0] 1 E, (hn8), (hO8), rfl⟩
    refine G2 2 [] [14] [] E ?_
    cases hb7324
    have hq_ := hq7324 _ E
    subst hq_
    exact Ce E ⟨_, ch2, rfl, fE E, sE [some 0] 1 E, (hn2), (hO2), rfl⟩
  rintro _ _ _ _ h _ ⟨data7, ch9, rfl, hF6585, hS6585, hn9, hO9, rfl⟩
  refine Atn 1 hF6585 hS6585 E E ?_
  cases h
  exact Rt [] E E (Ug [[0]] 1 (hR _ hO9 hn9))
theorem slices_swapRangeCmpFunc_option_c85_fn  {data1 : (List T_insert_option)} {a1 : Int} {b1 : Int} {n2 : Int} {A1 : Option Addr} {c1 : Nat} {ch1 : Seg} {n1 : Nat} {res1 : (List T_insert_option)}
    (hn1 : n1 = data1.length) (hO1 : Own r_insert_option 96 μ (.slice A1 n1 c1) data1 ch1) (h : slices_swapRangeCmpFunc_option_c85 data1 a1 b1 n2 = some res1)
    (hR : ∀ (sp0 : Seg), Own r_insert_option 96 μ (.slice A1 n1 c1) res1 sp0 → n1 = res1.length → R (.tuple #[]) μ (sp0 :: L)) :
    Fn Tryz.prog 150 [.slice A1 n1 c1, .int .i64 a1, .int .i64 b1, .int .i64 n2, .func (.func 85) #[] #[]] μ (ch1 :: L) R := by
  unfold slices_swapRangeCmpFunc_option_c85 at h
  subst hn1
  have hn1 : data1.length = data1.length := rfl
  refine FnS Tryz.func150 (by kernel_rfl) E Tryz.ntmps150 E E ?_
  refine G0 4 E ?_
  refine Cut h (fun f l o_ f_ μ_ l_ => ∃ (data4 : (List T_insert_option)) (ch6 : Seg), data4 = o_ ∧ SubFr ([]) f_ ∧ SegSub (ch6 :: selS [] 1 l) l_ ∧ data1.length = data4.length ∧ Own r_insert_option 96 μ_ (.slice A1 data1.length c1) data4 ch6 ∧ μ = μ_) ?_ ?_
  · intro _ h10333 h
    refine Lp h10333 (fun f l (j_ : (List T_insert_option) × Int) f_ μ_ l_ => ounP j_ fun data2 i1 => ∃ (ch2 : Seg), SubFr ((10, .int .i64 i1) :: keepF [0, 1, 2, 3] f) f_ ∧ SegSub (ch2 :: selS [] 1 l) l_ ∧ data1.length = data2.length ∧ Own r_insert_option 96 μ_ (.slice A1 data1.length c1) data2 ch2 ∧ μ = μ_) ⟨ch1, fE E, sE [some 0] 1 E, (hn1), (hO1), E⟩ ?_
    rintro ⟨data2, i1⟩ _ _ _ _ _ ⟨ch2, hF10687, hS10687, hn2, hO2, rfl⟩ hb10687 hq10687
    unfold slices_swapRangeCmpFunc_option_c85_l1 at hb10687
    replace hb10687 := oun_mk hb10687
    refine Atn 1 hF10687 hS10687 E E (G0 7 E ?_)
    refine Br hb10687 13 E E (fun hc1 hb10687 => ?_) (fun hc1 hb10687 => ?_)
    · refine G2 4 [13] [] [] E ?_
      refine Cut hb10687 (fun f l o_ f_ μ_ l_ => ∃ (data3 : (List T_insert_option)) (ch5 : Seg), data3 = o_ ∧ SubFr (keepF [0, 1, 2, 3, 10] f) f_ ∧ SegSub (ch5 :: selS [] 1 l) l_ ∧ data1.length = data3.length ∧ Own r_insert_option 96 μ_ (.slice A1 data1.length c1) data3 ch5 ∧ μ = μ_) ?_ ?_
      · intro _ h10839 hb10687
        refine Cd (WP.draw (id := 3) wide (L) (Kp [] 1 E) E (AN.run (fuel := 8) (listed' := [true, true, true, true, true, true, true, true, true, true, true, true, false, false, true, true, true, true, false, false, false, false, false, false]) Tt_ok [(true, 0), (true, 1), (true, 2), (true, 3), (true, 4), (true, 5), (true, 6), (true, 7), (true, 8), (true, 9), (true, 10), (true, 11), (true, 14), (true, 15), (true, 16), (true, 17)] (by kernel_rfl) (by kernel_rfl) E (PL_t E (R_move E (Pt E E (R_move E (Pt E E (R_move E (Pt E E (R_add E E (Pt E E (R_move E (P_some E ?_)))))))))))))
        refine PL_t E (R_move E (Pt E E (R_move E (Pt E E (R_add E E (Pt E E (R_move E (Pt E E (R_move E (Pt E E (R_move E (P_some E ?_))))))))))))
        refine PL_t E (R_add E E (Pt E E (R_move E (Pt E E (R_move E (Pt E E (R_move E (Pt E E (R_add E E (P_some E (PL_nil ?_)))))))))))
        refine FK_2 Tt_ok (a := 12) (b := 18) (by kernel_rfl) ?_ ?_
        · apply FO_; exact rfl; exact rfl
          obtain ⟨x1, hx1, h10839⟩ := obind h10839
          obtain ⟨a2, cs1, hA1, hr1, _, hc2⟩ := Rds.getI (Own.rds (L := (ch2 :: L)) hO2 0 rfl) hx1
          obtain ⟨A2, c2, rfl, hl1, hA2⟩ := hr1
          refine O_read E (R_iaG E E E E E E ⟨(getI_lt hx1).1, lenN hn2 (getI_lt hx1).2.1⟩ hA1 ?_)
          refine ⟨Kp [] 1 E, ?_⟩
          apply P_some; exact rfl
          refine FK_2 Tt_ok (a := 13) (b := 18) (by kernel_rfl) ?_ ?_
          · refine FO_ E E (O_read E (R_loadA E E E E (Ex.mk [.int .i64 x1.tour.Vehicle, .slice A2 x1.tour.Stops.length c2, .int .i64 x1.cost] ⟨rfl, hc2⟩ ?_)))
            refine ⟨Kp [] 1 E, ?_⟩
            refine P_some E (AN.run (fuel := 0) (listed' := [true, true, true, true, true, true, true, true, true, true, true, true, true, true, true, true, true, true, true, true, true, true, true, true]) Tt_ok [(false, 18), (false, 19), (false, 20), (false, 21), (false, 22), (false, 23)] (by kernel_rfl) (by kernel_rfl) E (PL_f E ?_))
            obtain ⟨x2, hx2, h10839⟩ := obind h10839
            obtain ⟨a3, cs2, hA3, hr2, _, hc3⟩ := Rds.getI (Own.rds (L := (ch2 :: L)) hO2 0 rfl) hx2
            obtain ⟨A3, c3, rfl, hl2, hA4⟩ := hr2
            refine O_read E (R_iaG E E E E E E ⟨(getI_lt hx2).1, lenN hn2 (getI_lt hx2).2.1⟩ hA3 ?_)
            refine ⟨Kp [] 1 E, ?_⟩
            refine P_some E (PL_f E (O_read E (R_loadA E E E E (Ex.mk [.int .i64 x2.tour.Vehicle, .slice A3 x2.tour.Stops.length c3, .int .i64 x2.cost] ⟨rfl, hc3⟩ ?_))))
            refine ⟨Kp [] 1 E, ?_⟩
            refine P_some E (PL_f E ?_)
            obtain ⟨x3, hx3, h10839⟩ := obind h10839
            obtain ⟨a4, cs3, hA5, hr3, _, hc4⟩ := Rds.getI (Own.rds (L := (ch2 :: L)) hO2 0 rfl) hx3
            obtain ⟨A4, c4, rfl, hl3, hA6⟩ := hr3
            refine O_read E (R_iaG E E E E E E ⟨(getI_lt hx3).1, lenN hn2 (getI_lt hx3).2.1⟩ hA5 ?_)
            refine ⟨Kp [] 1 E, ?_⟩
            refine P_some E (PL_f E (O_store (vs := [.int .i64 x1.tour.Vehicle, .slice A2 x1.tour.Stops.length c2, .int .i64 x1.cost]) E E E E E E ?_))
            rw [← Addr.add_zero' ((a4.add ((w64 (a1 + i1)).toNat * 3)))]
            refine Own.store (μ := μ) (r := r_insert_option) (x' := x1) (o := 0) (sz := 3) 0 rfl hO2 hA5 hx3 rfl rfl (by rintro _ ⟨A5, c5, rfl, hl4, hA7⟩; exact ⟨A2, c2, rfl, hl1, hA2⟩) fun ch3 hO3 => ?_
            have hn3 := hn2.trans (length_setI data2 (w64 (a1 + i1)) x1).symm
            refine ⟨Kp [] 1 E, ?_⟩
            refine P_none (PL_f E ?_)
            obtain ⟨x4, hx4, h10839⟩ := obind h10839
            obtain ⟨a5, cs4, hA8, hr4, _, hc5⟩ := Rds.getI (Own.rds (L := (ch3 :: L)) hO3 0 rfl) hx4
            obtain ⟨A6, c6, rfl, hl5, hA9⟩ := hr4
            refine O_read E (R_iaG E E E E E E ⟨(getI_lt hx4).1, lenN hn3 (getI_lt hx4).2.1⟩ hA8 ?_)
            refine ⟨Kp [] 1 E, ?_⟩
            refine P_some E (PL_f E (O_store (vs := [.int .i64 x2.tour.Vehicle, .slice A3 x2.tour.Stops.length c3, .int .i64 x2.cost]) E E E E E E ?_))
            rw [← Addr.add_zero' ((a5.add ((w64 (b1 + i1)).toNat * 3)))]
            refine Own.store (μ := μ) (r := r_insert_option) (x' := x2) (o := 0) (sz := 3) 0 rfl hO3 hA8 hx4 rfl rfl (by rintro _ ⟨A7, c7, rfl, hl6, hA10⟩; exact ⟨A3, c3, rfl, hl2, hA4⟩) fun ch4 hO4 => ?_
            have hn4 := hn3.trans (length_setI (setI data2 (w64 (a1 + i1)) x1) (w64 (b1 + i1)) x2).symm
            refine ⟨Kp [] 1 E, ?_⟩
            refine P_none (PL_nil (AN.done0 (by kernel_rfl) ?_))
            cases h10839
            exact Ce E ⟨_, ch4, rfl, fE E, sE [some 0] 1 E, (hn4), (hO4), rfl⟩
          obtain ⟨x2, hx2, h10839⟩ := obind h10839
          obtain ⟨x3, hx3, h10839⟩ := obind h10839
          obtain ⟨x4, hx4, h10839⟩ := obind h10839
          apply FO_; exact rfl; exact rfl
          obtain ⟨a3, cs2, hA3, hr2, _, hc3⟩ := Rds.getI (Own.rds (L := (ch2 :: L)) hO2 0 rfl) hx2
          obtain ⟨A3, c3, rfl, hl2, hA4⟩ := hr2
          refine O_read E (R_iaG E E E E E E ⟨(getI_lt hx2).1, lenN hn2 (getI_lt hx2).2.1⟩ hA3 ?_)
          refine ⟨Kp [] 1 E, ?_⟩
          apply P_some; exact rfl
          refine FK_2 Tt_ok (a := 13) (b := 19) (by kernel_rfl) ?_ ?_
          · refine FO_ E E (O_read E (R_loadA E E E E (Ex.mk [.int .i64 x1.tour.Vehicle, .slice A2 x1.tour.Stops.length c2, .int .i64 x1.cost] ⟨rfl, hc2⟩ ?_)))
            refine ⟨Kp [] 1 E, ?_⟩
            refine P_some E (AN.run (fuel := 0) (listed' := [true, true, true, true, true, true, true, true, true, true, true, true, true, true, true, true, true, true, true, true, true, true, true, true]) Tt_ok [(false, 19), (false, 20), (false, 21), (false, 22), (false, 23)] (by kernel_rfl) (by kernel_rfl) E (PL_f E (O_read E (R_loadA E E E E (Ex.mk [.int .i64 x2.tour.Vehicle, .slice A3 x2.tour.Stops.length c3, .int .i64 x2.cost] ⟨rfl, hc3⟩ ?_)))))
            refine ⟨Kp [] 1 E, ?_⟩
            refine P_some E (PL_f E ?_)
            obtain ⟨a4, cs3, hA5, hr3, _, hc4⟩ := Rds.getI (Own.rds (L := (ch2 :: L)) hO2 0 rfl) hx2
            obtain ⟨A4, c4, rfl, hl3, hA6⟩ := hr3
            refine O_read E (R_iaG E E E E E E ⟨(getI_lt hx2).1, lenN hn2 (getI_lt hx2).2.1⟩ hA5 ?_)
            refine ⟨Kp [] 1 E, ?_⟩
            refine P_some E (PL_f E (O_store (vs := [.int .i64 x1.tour.Vehicle, .slice A2 x1.tour.Stops.length c2, .int .i64 x1.cost]) E E E E E E ?_))
            rw [← Addr.add_zero' ((a4.add ((w64 (a1 + i1)).toNat * 3)))]
            refine Own.store (μ := μ) (r := r_insert_option) (x' := x1) (o := 0) (sz := 3) 0 rfl hO2 hA5 hx2 rfl rfl (by rintro _ ⟨A5, c5, rfl, hl4, hA7⟩; exact ⟨A2, c2, rfl, hl1, hA2⟩) fun ch3 hO3 => ?_
            have hn3 := hn2.trans (length_setI data2 (w64 (a1 + i1)) x1).symm
            refine ⟨Kp [] 1 E, ?_⟩
            refine P_none (PL_f E ?_)
            obtain ⟨a5, cs4, hA8, hr4, _, hc5⟩ := Rds.getI (Own.rds (L := (ch3 :: L)) hO3 0 rfl) hx4
            obtain ⟨A6, c6, rfl, hl5, hA9⟩ := hr4
            refine O_read E (R_iaG E E E E E E ⟨(getI_lt hx4).1, lenN hn3 (getI_lt hx4).2.1⟩ hA8 ?_)
            refine ⟨Kp [] 1 E, ?_⟩
            refine P_some E (PL_f E (O_store (vs := [.int .i64 x2.tour.Vehicle, .slice A3 x2.tour.Stops.length c3, .int .i64 x2.cost]) E E E E E E ?_))
            rw [← Addr.add_zero' ((a5.add ((w64 (b1 + i1)).toNat * 3)))]
            refine Own.store (μ := μ) (r := r_insert_option) (x' := x2) (o := 0) (sz := 3) 0 rfl hO3 hA8 hx4 rfl rfl (by rintro _ ⟨A7, c7, rfl, hl6, hA10⟩; exact ⟨A3, c3, rfl, hl2, hA4⟩) fun ch4 hO4 => ?_
            have hn4 := hn3.trans (length_setI (setI data2 (w64 (a1 + i1)) x1) (w64 (b1 + i1)) x2).symm
            refine ⟨Kp [] 1 E, ?_⟩
            refine P_none (PL_nil (AN.done0 (by kernel_rfl) ?_))
            cases h10839
            exact Ce E ⟨_, ch4, rfl, fE E, sE [some 0] 1 E, (hn4), (hO4), rfl⟩
          refine FO_ E E (O_read E (R_loadA E E E E (Ex.mk [.int .i64 x2.tour.Vehicle, .slice A3 x2.tour.Stops.length c3, .int .i64 x2.cost] ⟨rfl, hc3⟩ ?_)))
          refine ⟨Kp [] 1 E, ?_⟩
          refine P_some E (AN.run (fuel := 0) (listed' := [true, true, true, true, true, true, true, true, true, true, true, true, true, true, true, true, true, true, true, true, true, true, true, true]) Tt_ok [(false, 13), (false, 20), (false, 21), (false, 22), (false, 23)] (by kernel_rfl) (by kernel_rfl) E (PL_f E (O_read E (R_loadA E E E E (Ex.mk [.int .i64 x1.tour.Vehicle, .slice A2 x1.tour.Stops.length c2, .int .i64 x1.cost] ⟨rfl, hc2⟩ ?_)))))
          refine ⟨Kp [] 1 E, ?_⟩
          refine P_some E (PL_f E ?_)
          obtain ⟨a4, cs3, hA5, hr3, _, hc4⟩ := Rds.getI (Own.rds (L := (ch2 :: L)) hO2 0 rfl) hx2
          obtain ⟨A4, c4, rfl, hl3, hA6⟩ := hr3
          refine O_read E (R_iaG E E E E E E ⟨(getI_lt hx2).1, lenN hn2 (getI_lt hx2).2.1⟩ hA5 ?_)
          refine ⟨Kp [] 1 E, ?_⟩
          refine P_some E (PL_f E (O_store (vs := [.int .i64 x1.tour.Vehicle, .slice A2 x1.tour.Stops.length c2, .int .i64 x1.cost]) E E E E E E ?_))
          rw [← Addr.add_zero' ((a4.add ((w64 (a1 + i1)).toNat * 3)))]
          refine Own.store (μ := μ) (r := r_insert_option) (x' := x1) (o := 0) (sz := 3) 0 rfl hO2 hA5 hx2 rfl rfl (by rintro _ ⟨A5, c5, rfl, hl4, hA7⟩; exact ⟨A2, c2, rfl, hl1, hA2⟩) fun ch3 hO3 => ?_
          have hn3 := hn2.trans (length_setI data2 (w64 (a1 + i1)) x1).symm
          refine ⟨Kp [] 1 E, ?_⟩
          refine P_none (PL_f E ?_)
          obtain ⟨a5, cs4, hA8, hr4, _, hc5⟩ := Rds.getI (Own.rds (L := (ch3 :: L)) hO3 0 rfl) hx4
          obtain ⟨A6, c6, rfl, hl5, hA9⟩ := hr4
          refine O_read E (R_iaG E E E E E E ⟨(getI_lt hx4).1, lenN hn3 (getI_lt hx4).2.1⟩ hA8 ?_)
          refine ⟨Kp [] 1 E, ?_⟩
          refine P_some E (PL_f E (O_store (vs := [.int .i64 x2.tour.Vehicle, .slice A3 x2.tour.Stops.length c3, .int .i64 x2.cost]) E E E E E E ?_))
          rw [← Addr.add_zero' ((a5.add ((w64 (b1 + i1)).toNat * 3)))]
          refine Own.store (μ := μ) (r := r_insert_option) (x' := x2) (o := 0) (sz := 3) 0 rfl hO3 hA8 hx4 rfl rfl (by rintro _ ⟨A7, c7, rfl, hl6, hA10⟩; exact ⟨A3, c3, rfl, hl2, hA4⟩) fun ch4 hO4 => ?_
          have hn4 := hn3.trans (length_setI (setI data2 (w64 (a1 + i1)) x1) (w64 (b1 + i1)) x2).symm
          refine ⟨Kp [] 1 E, ?_⟩
          refine P_none (PL_nil (AN.done0 (by kernel_rfl) ?_))
          cases h10839
          exact Ce E ⟨_, ch4, rfl, fE E, sE [some 0] 1 E, (hn4), (hO4), rfl⟩
        obtain ⟨x1, hx1, h10839⟩ := obind h10839
        obtain ⟨x2, hx2, h10839⟩ := obind h10839
        obtain ⟨x3, hx3, h10839⟩ := obind h10839
        obtain ⟨x4, hx4, h10839⟩ := obind h10839
        apply FO_; exact rfl; exact rfl
        obtain ⟨a3, cs2, hA3, hr2, _, hc3⟩ := Rds.getI (Own.rds (L := (ch2 :: L)) hO2 0 rfl) hx2
        obtain ⟨A3, c3, rfl, hl2, hA4⟩ := hr2
        refine O_read E (R_iaG E E E E E E ⟨(getI_lt hx2).1, lenN hn2 (getI_lt hx2).2.1⟩ hA3 ?_)
        refine ⟨Kp [] 1 E, ?_⟩
        apply P_some; exact rfl
        refine FK_2 Tt_ok (a := 12) (b := 19) (by kernel_rfl) ?_ ?_
        · apply FO_; exact rfl; exact rfl
          obtain ⟨a2, cs1, hA1, hr1, _, hc2⟩ := Rds.getI (Own.rds (L := (ch2 :: L)) hO2 0 rfl) hx1
          obtain ⟨A2, c2, rfl, hl1, hA2⟩ := hr1
          refine O_read E (R_iaG E E E E E E ⟨(getI_lt hx1).1, lenN hn2 (getI_lt hx1).2.1⟩ hA1 ?_)
          refine ⟨Kp [] 1 E, ?_⟩
          apply P_some; exact rfl
          refine FK_2 Tt_ok (a := 13) (b := 19) (by kernel_rfl) ?_ ?_
          · refine FO_ E E (O_read E (R_loadA E E E E (Ex.mk [.int .i64 x1.tour.Vehicle, .slice A2 x1.tour.Stops.length c2, .int .i64 x1.cost] ⟨rfl, hc2⟩ ?_)))
            refine ⟨Kp [] 1 E, ?_⟩
            refine P_some E (AN.run (fuel := 0) (listed' := [true, true, true, true, true, true, true, true, true, true, true, true, true, true, true, true, true, true, true, true, true, true, true, true]) Tt_ok [(false, 19), (false, 20), (false, 21), (false, 22), (false, 23)] (by kernel_rfl) (by kernel_rfl) E (PL_f E (O_read E (R_loadA E E E E (Ex.mk [.int .i64 x2.tour.Vehicle, .slice A3 x2.tour.Stops.length c3, .int .i64 x2.cost] ⟨rfl, hc3⟩ ?_)))))
            refine ⟨Kp [] 1 E, ?_⟩
            refine P_some E (PL_f E ?_)
            obtain ⟨a4, cs3, hA5, hr3, _, hc4⟩ := Rds.getI (Own.rds (L := (ch2 :: L)) hO2 0 rfl) hx2
            obtain ⟨A4, c4, rfl, hl3, hA6⟩ := hr3
            refine O_read E (R_iaG E E E E E E ⟨(getI_lt hx2).1, lenN hn2 (getI_lt hx2).2.1⟩ hA5 ?_)
            refine ⟨Kp [] 1 E, ?_⟩
            refine P_some E (PL_f E (O_store (vs := [.int .i64 x1.tour.Vehicle, .slice A2 x1.tour.Stops.length c2, .int .i64 x1.cost]) E E E E E E ?_))
            rw [← Addr.add_zero' ((a4.add ((w64 (a1 + i1)).toNat * 3)))]
            refine Own.store (μ := μ) (r := r_insert_option) (x' := x1) (o := 0) (sz := 3) 0 rfl hO2 hA5 hx2 rfl rfl (by rintro _ ⟨A5, c5, rfl, hl4, hA7⟩; exact ⟨A2, c2, rfl, hl1, hA2⟩) fun ch3 hO3 => ?_
            have hn3 := hn2.trans (length_setI data2 (w64 (a1 + i1)) x1).symm
            refine ⟨Kp [] 1 E, ?_⟩
            refine P_none (PL_f E ?_)
            obtain ⟨a5, cs4, hA8, hr4, _, hc5⟩ := Rds.getI (Own.rds (L := (ch3 :: L)) hO3 0 rfl) hx4
            obtain ⟨A6, c6, rfl, hl5, hA9⟩ := hr4
            refine O_read E (R_iaG E E E E E E ⟨(getI_lt hx4).1, lenN hn3 (getI_lt hx4).2.1⟩ hA8 ?_)
            refine ⟨Kp [] 1 E, ?_⟩
            refine P_some E (PL_f E (O_store (vs := [.int .i64 x2.tour.Vehicle, .slice A3 x2.tour.Stops.length c3, .int .i64 x2.cost]) E E E E E E ?_))
            rw [← Addr.add_zero' ((a5.add ((w64 (b1 + i1)).toNat * 3)))]
            refine Own.store (μ := μ) (r := r_insert_option) (x' := x2) (o := 0) (sz := 3) 0 rfl hO3 hA8 hx4 rfl rfl (by rintro _ ⟨A7, c7, rfl, hl6, hA10⟩; exact ⟨A3, c3, rfl, hl2, hA4⟩) fun ch4 hO4 => ?_
            have hn4 := hn3.trans (length_setI (setI data2 (w64 (a1 + i1)) x1) (w64 (b1 + i1)) x2).symm
            refine ⟨Kp [] 1 E, ?_⟩
            refine P_none (PL_nil (AN.done0 (by kernel_rfl) ?_))
            cases h10839
            exact Ce E ⟨_, ch4, rfl, fE E, sE [some 0] 1 E, (hn4), (hO4), rfl⟩
          refine FO_ E E (O_read E (R_loadA E E E E (Ex.mk [.int .i64 x2.tour.Vehicle, .slice A3 x2.tour.Stops.length c3, .int .i64 x2.cost] ⟨rfl, hc3⟩ ?_)))
          refine ⟨Kp [] 1 E, ?_⟩
          refine P_some E (AN.run (fuel := 0) (listed' := [true, true, true, true, true, true, true, true, true, true, true, true, true, true, true, true, true, true, true, true, true, true, true, true]) Tt_ok [(false, 13), (false, 20), (false, 21), (false, 22), (false, 23)] (by kernel_rfl) (by kernel_rfl) E (PL_f E (O_read E (R_loadA E E E E (Ex.mk [.int .i64 x1.tour.Vehicle, .slice A2 x1.tour.Stops.length c2, .int .i64 x1.cost] ⟨rfl, hc2⟩ ?_)))))
          refine ⟨Kp [] 1 E, ?_⟩
          refine P_some E (PL_f E ?_)
          obtain ⟨a4, cs3, hA5, hr3, _, hc4⟩ := Rds.getI (Own.rds (L := (ch2 :: L)) hO2 0 rfl) hx2
          obtain ⟨A4, c4, rfl, hl3, hA6⟩ := hr3
          refine O_read E (R_iaG E E E E E E ⟨(getI_lt hx2).1, lenN hn2 (getI_lt hx2).2.1⟩ hA5 ?_)
          refine ⟨Kp [] 1 E, ?_⟩
          refine P_some E (PL_f E (O_store (vs := [.int .i64 x1.tour.Vehicle, .slice A2 x1.tour.Stops.length c2, .int .i64 x1.cost]) E E E E E E ?_))
          rw [← Addr.add_zero' ((a4.add ((w64 (a1 + i1)).toNat * 3)))]
          refine Own.store (μ := μ) (r := r_insert_option) (x' := x1) (o := 0) (sz := 3) 0 rfl hO2 hA5 hx2 rfl rfl (by rintro _ ⟨A5, c5, rfl, hl4, hA7⟩; exact ⟨A2, c2, rfl, hl1, hA2⟩) fun ch3 hO3 => ?_
          have hn3 := hn2.trans (length_setI data2 (w64 (a1 + i1)) x1).symm
          refine ⟨Kp [] 1 E, ?_⟩
          refine P_none (PL_f E ?_)
          obtain ⟨a5, cs4, hA8, hr4, _, hc5⟩ := Rds.getI (Own.rds (L := (ch3 :: L)) hO3 0 rfl) hx4
          obtain ⟨A6, c6, rfl, hl5, hA9⟩ := hr4
          refine O_read E (R_iaG E E E E E E ⟨(getI_lt hx4).1, lenN hn3 (getI_lt hx4).2.1⟩ hA8 ?_)
          refine ⟨Kp [] 1 E, ?_⟩
          refine P_some E (PL_f E (O_store (vs := [.int .i64 x2.tour.Vehicle, .slice A3 x2.tour.Stops.length c3, .int .i64 x2.cost]) E E E E E E ?_))
          rw [← Addr.add_zero' ((a5.add ((w64 (b1 + i1)).toNat * 3)))]
          refine Own.store (μ := μ) (r := r_insert_option) (x' := x2) (o := 0) (sz := 3) 0 rfl hO3 hA8 hx4 rfl rfl (by rintro _ ⟨A7, c7, rfl, hl6, hA10⟩; exact ⟨A3, c3, rfl, hl2, hA4⟩) fun ch4 hO4 => ?_
          have hn4 := hn3.trans (length_setI (setI data2 (w64 (a1 + i1)) x1) (w64 (b1 + i1)) x2).symm
          refine ⟨Kp [] 1 E, ?_⟩
          refine P_none (PL_nil (AN.done0 (by kernel_rfl) ?_))
          cases h10839
          exact Ce E ⟨_, ch4, rfl, fE E, sE [some 0] 1 E, (hn4), (hO4), rfl⟩
        refine FO_ E E (O_read E (R_loadA E E E E (Ex.mk [.int .i64 x2.tour.Vehicle, .slice A3 x2.tour.Stops.length c3, .int .i64 x2.cost] ⟨rfl, hc3⟩ ?_)))
        refine ⟨Kp [] 1 E, ?_⟩
        refine P_some E (AN.run (fuel := 0) (listed' := [true, true, true, true, true, true, true, true, true, true, true, true, true, true, true, true, true, true, true, true, true, true, true, true]) Tt_ok [(false, 12), (false, 13), (false, 20), (false, 21), (false, 22), (false, 23)] (by kernel_rfl) (by kernel_rfl) E (PL_f E ?_))
        obtain ⟨a2, cs1, hA1, hr1, _, hc2⟩ := Rds.getI (Own.rds (L := (ch2 :: L)) hO2 0 rfl) hx1
        obtain ⟨A2, c2, rfl, hl1, hA2⟩ := hr1
        refine O_read E (R_iaG E E E E E E ⟨(getI_lt hx1).1, lenN hn2 (getI_lt hx1).2.1⟩ hA1 ?_)
        refine ⟨Kp [] 1 E, ?_⟩
        refine P_some E (PL_f E (O_read E (R_loadA E E E E (Ex.mk [.int .i64 x1.tour.Vehicle, .slice A2 x1.tour.Stops.length c2, .int .i64 x1.cost] ⟨rfl, hc2⟩ ?_))))
        refine ⟨Kp [] 1 E, ?_⟩
        refine P_some E (PL_f E ?_)
        obtain ⟨a4, cs3, hA5, hr3, _, hc4⟩ := Rds.getI (Own.rds (L := (ch2 :: L)) hO2 0 rfl) hx2
        obtain ⟨A4, c4, rfl, hl3, hA6⟩ := hr3
        refine O_read E (R_iaG E E E E E E ⟨(getI_lt hx2).1, lenN hn2 (getI_lt hx2).2.1⟩ hA5 ?_)
        refine ⟨Kp [] 1 E, ?_⟩
        refine P_some E (PL_f E (O_store (vs := [.int .i64 x1.tour.Vehicle, .slice A2 x1.tour.Stops.length c2, .int .i64 x1.cost]) E E E E E E ?_))
        rw [← Addr.add_zero' ((a4.add ((w64 (a1 + i1)).toNat * 3)))]
        refine Own.store (μ := μ) (r := r_insert_option) (x' := x1) (o := 0) (sz := 3) 0 rfl hO2 hA5 hx2 rfl rfl (by rintro _ ⟨A5, c5, rfl, hl4, hA7⟩; exact ⟨A2, c2, rfl, hl1, hA2⟩) fun ch3 hO3 => ?_
        have hn3 := hn2.trans (length_setI data2 (w64 (a1 + i1)) x1).symm
        refine ⟨Kp [] 1 E, ?_⟩
        refine P_none (PL_f E ?_)
        obtain ⟨a5, cs4, hA8, hr4, _, hc5⟩ := Rds.getI (Own.rds (L := (ch3 :: L)) hO3 0 rfl) hx4
        obtain ⟨A6, c6, rfl, hl5, hA9⟩ := hr4
        refine O_read E (R_iaG E E E E E E ⟨(getI_lt hx4).1, lenN hn3 (getI_lt hx4).2.1⟩ hA8 ?_)
        refine ⟨Kp [] 1 E, ?_⟩
        refine P_some E (PL_f E (O_store (vs := [.int .i64 x2.tour.Vehicle, .slice A3 x2.tour.Stops.length c3, .int .i64 x2.cost]) E E E E E E ?_))
        rw [← Addr.add_zero' ((a5.add ((w64 (b1 + i1)).toNat * 3)))]
        refine Own.store (μ := μ) (r := r_insert_option) (x' := x2) (o := 0) (sz := 3) 0 rfl hO3 hA8 hx4 rfl rfl (by rintro _ ⟨A7, c7, rfl, hl6, hA10⟩; exact ⟨A3, c3, rfl, hl2, hA4⟩) fun ch4 hO4 => ?_
        have hn4 := hn3.trans (length_setI (setI data2 (w64 (a1 + i1)) x1) (w64 (b1 + i1)) x2).symm
        refine ⟨Kp [] 1 E, ?_⟩
        refine P_none (PL_nil (AN.done0 (by kernel_rfl) ?_))
        cases h10839
        exact Ce E ⟨_, ch4, rfl, fE E, sE [some 0] 1 E, (hn4), (hO4), rfl⟩
      rintro _ _ _ _ hb10687 _ ⟨data3, ch5, rfl, hF10839, hS10839, hn5, hO5, rfl⟩
      refine Atn 1 hF10839 hS10839 E E (G0 6 E ?_)
      cases hb10687
      exact Ce E ⟨_, rfl, ch5, fE E, sE [some 0] 1 E, (hn5), (hO5), rfl⟩
    refine G2 2 [] [13] [] E ?_
    cases hb10687
    have hq_ := hq10687 _ E
    subst hq_
    exact Ce E ⟨_, ch2, rfl, fE E, sE [some 0] 1 E, (hn2), (hO2), rfl⟩
  rintro _ _ _ _ h _ ⟨data4, ch6, rfl, hF10333, hS10333, hn6, hO6, rfl⟩
  refine Atn 1 hF10333 hS10333 E E ?_
  cases h
  exact Rt [] E E (Ug [[0]] 1 (hR _ hO6 hn6))
theorem slices_rotateCmpFunc_option_c85_fn {F : Nat} {data1 : (List T_insert_option)} {a1 : Int} {m1 : Int} {b1 : Int} {A1 : Option Addr} {c1 : Nat} {ch1 : Seg} {n1 : Nat} {res1 : (List T_insert_option)}
    (hn1 : n1 = data1.length) (hO1 : Own r_insert_option 96 μ (.slice A1 n1 c1) data1 ch1) (h : slices_rotateCmpFunc_option_c85 F data1 a1 m1 b1 = some res1)
    (hR : ∀ (sp0 : Seg), Own r_insert_option 96 μ (.slice A1 n1 c1) res1 sp0 → n1 = res1.length → R (.tuple #[]) μ (sp0 :: L)) :
    Fn Tryz.prog 141 [.slice A1 n1 c1, .int .i64 a1, .int .i64 m1, .int .i64 b1, .func (.func 85) #[] #[]] μ (ch1 :: L) R := by
  unfold slices_rotateCmpFunc_option_c85 at h
  subst hn1
  have hn1 : data1.length = data1.length := rfl
  refine FnS Tryz.func141 (by kernel_rfl) E Tryz.ntmps141 E E ?_
  refine G0 15 E ?_
  refine Cut h (fun f l o_ f_ μ_ l_ => ∃ (data3 : (List T_insert_option)) (i2 : Int) (ch5 : Seg), (data3, i2) = o_ ∧ SubFr ((10, .int .i64 i2) :: keepF [0, 2, 4] f) f_ ∧ SegSub (ch5 :: selS [] 1 l) l_ ∧ data1.length = data3.length ∧ Own r_insert_option 96 μ_ (.slice A1 data1.length c1) data3 ch5 ∧ μ = μ_) ?_ ?_
  · intro _ h11054 h
    refine Lp h11054 (fun f l (j_ : (List T_insert_option) × Int × Int) f_ μ_ l_ => ounP j_ fun data2 j_ => ounP j_ fun i1 j1 => ∃ (ch2 : Seg), SubFr ((10, .int .i64 i1) :: (11, .int .i64 j1) :: keepF [0, 2, 4] f) f_ ∧ SegSub (ch2 :: selS [] 1 l) l_ ∧ data1.length = data2.length ∧ Own r_insert_option 96 μ_ (.slice A1 data1.length c1) data2 ch2 ∧ μ = μ_) ⟨ch1, fE E, sE [some 0] 1 E, (hn1), (hO1), E⟩ ?_
    rintro ⟨data2, i1, j1⟩ _ _ _ _ _ ⟨ch2, hF11058, hS11058, hn2, hO2, rfl⟩ hb11058 hq11058
    unfold slices_rotateCmpFunc_option_c85_l1 at hb11058
    replace hb11058 := oun_mk hb11058
    replace hb11058 := oun_mk hb11058
    refine Atn 1 hF11058 hS11058 E E (G0 7 E ?_)
    refine Br hb11058 20 E E (fun hc1 hb11058 => ?_) (fun hc1 hb11058 => ?_)
    · refine G2 9 [20] [] [] E ?_
      refine Br hb11058 23 E E (fun hc2 hb11058 => ?_) (fun hc2 hb11058 => ?_)
      · refine G2 10 [23] [] [] E (Cl E ?_)
        obtain ⟨_, hx1, hb11058⟩ := obind hb11058
        refine slices_swapRangeCmpFunc_option_c85_fn hn2 hO2 hx1 (fun ch3 hO3 hn3 => Q0 8 E ?_)
        cases hb11058
        exact Ce E ⟨_, rfl, ch3, fE E, sE [some 0] 1 E, (hn3), (hO3), rfl⟩
      refine G2 14 [] [23] [] E (Cl E ?_)
      obtain ⟨_, hx2, hb11058⟩ := obind hb11058
      refine slices_swapRangeCmpFunc_option_c85_fn hn2 hO2 hx2 (fun ch4 hO4 hn4 => Q0 8 E ?_)
      cases hb11058
      exact Ce E ⟨_, rfl, ch4, fE E, sE [some 0] 1 E, (hn4), (hO4), rfl⟩
    refine G2 2 [] [20] [] E ?_
    cases hb11058
    have hq_ := hq11058 _ E
    subst hq_
    exact Ce E ⟨_, _, ch2, rfl, fE E, sE [some 0] 1 E, (hn2), (hO2), rfl⟩
  rintro _ _ _ _ h _ ⟨data3, i2, ch5, rfl, hF11054, hS11054, hn5, hO5, rfl⟩
  replace h := oun_mk h
  refine Atn 1 hF11054 hS11054 E E (G0 8 E (Cl E ?_))
  obtain ⟨_, hx3, h⟩ := obind h
  refine slices_swapRangeCmpFunc_option_c85_fn hn5 hO5 hx3 (fun _ hO6 hn6 => Q0 1 E ?_)
  cases h
  exact Rt [] E E (Ug [[0]] 1 (hR _ hO6 hn6))
theorem slices_symMergeCmpFunc_option_c85_fn {F : Nat} {data1 : (List T_insert_option)} {a1 : Int} {m1 : Int} {b1 : Int} {A1 : Option Addr} {c1 : Nat} {ch1 : Seg} {n1 : Nat} {res1 : (List T_insert_option)}
    (hn1 : n1 = data1.length) (hO1 : Own r_insert_option 96 μ (.slice A1 n1 c1) data1 ch1) (h : slices_symMergeCmpFunc_option_c85 F data1 a1 m1 b1 = some res1)
    (hR : ∀ (sp0 : Seg), Own r_insert_option 96 μ (.slice A1 n1 c1) res1 sp0 → n1 = res1.length → R (.tuple #[]) μ (sp0 :: L)) :
    Fn Tryz.prog 123 [.slice A1 n1 c1, .int .i64 a1, .int .i64 m1, .int .i64 b1, .func (.func 85) #[] #[]] μ (ch1 :: L) R := by
  induction F generalizing μ L R data1 a1 m1 b1 A1 c1 ch1 n1 res1 with
  | zero => cases h
  | succ F ih =>
  unfold slices_symMergeCmpFunc_option_c85 slices_symMergeCmpFunc_option_c85_b at h
  subst hn1
  have hn1 : data1.length = data1.length := rfl
  refine FnS Tryz.func123 (by kernel_rfl) E Tryz.ntmps123 E E ?_
  refine G0 8 E ?_
  refine Br h 28 E E (fun hc1 h => ?_) (fun hc1 h => ?_)
  · refine G2 12 [28] [] [] E ?_
    refine Cut h (fun f l o_ f_ μ_ l_ => ∃ (i2 : Int), i2 = o_ ∧ SubFr ((10, .int .i64 i2) :: keepF [0, 1] f) f_ ∧ SegSub l l_ ∧ μ = μ_) ?_ ?_
    · intro _ h12578 h
      refine Lp h12578 (fun f l (j_ : Int × Int) f_ μ_ l_ => ounP j_ fun i1 j1 => SubFr ((10, .int .i64 i1) :: (11, .int .i64 j1) :: keepF [0, 1, 4] f) f_ ∧ SegSub l l_ ∧ μ = μ_) ⟨fE E, sE [some 0] 1 E, E⟩ ?_
      rintro ⟨i1, j1⟩ _ _ _ _ _ ⟨hF12592, hS12592, rfl⟩ hb12592 hq12592
      unfold slices_symMergeCmpFunc_option_c85_l1 at hb12592
      replace hb12592 := oun_mk hb12592
      refine Atn 1 hF12592 hS12592 E E (G0 7 E ?_)
      refine Br hb12592 33 E E (fun hc2 hb12592 => ?_) (fun hc2 hb12592 => ?_)
      · refine G2 9 [33] [] [] E (Rdo E E ?_)
        obtain ⟨_, hg1, hb12592⟩ := obind hb12592
        refine R_shrD E E E (guardO_some hg1) (Q0 4 E (Dr _ Kept.refl [(true, 0), (true, 1), (true, 2), (true, 3), (true, 4), (true, 5), (true, 6), (true, 7), (true, 8), (false, 9), (true, 10)] (by kernel_rfl) (G0 3 E (IxN hn1 hb12592 (Own.rds (L := (ch1 :: L)) hO1 0 E) E E fun _ _ _ _ hr1 hc3 _ hb12592 => ?_))))
        obtain ⟨_, _, rfl, hl1, hA2⟩ := hr1
        refine Q3 3 [] [] [64] (Z1 hc3) E (IxN hn1 hb12592 (Own.rds (L := (ch1 :: L)) hO1 0 E) E E fun _ _ _ _ hr2 hc4 _ hb12592 => ?_)
        obtain ⟨_, _, rfl, hl2, hA4⟩ := hr2
        refine Q3 1 [] [] [64] (Z1 hc4) E (Cl E ?_)
        obtain ⟨_, hx3, hb12592⟩ := obind hb12592
        refine insert_options_1_fn hl1 hA2 hl2 hA4 hx3 (?_)
        refine ⟨Kept.refl, ?_⟩
        refine Q0 2 E ?_
        refine Br hb12592 50 E E (fun hc5 hb12592 => ?_) (fun hc5 hb12592 => ?_)
        · refine G2 7 [50] [] [] E ?_
          cases hb12592
          exact Ce E ⟨_, rfl, fE E, sE [some 0] 1 E, rfl⟩
        refine G2 6 [] [50] [] E ?_
        cases hb12592
        exact Ce E ⟨_, rfl, fE E, sE [some 0] 1 E, rfl⟩
      refine G2 2 [] [33] [] E ?_
      cases hb12592
      have hq_ := hq12592 _ E
      subst hq_
      exact Ce E ⟨_, rfl, fE E, sE [some 0] 1 E, rfl⟩
    rintro _ _ _ _ h _ ⟨i2, rfl, hF12578, hS12578, rfl⟩
    refine Atn 1 hF12578 hS12578 E E (G0 6 E ?_)
    refine Cut h (fun f l o_ f_ μ_ l_ => ∃ (data4 : (List T_insert_option)) (ch6 : Seg), data4 = o_ ∧ SubFr ([]) f_ ∧ SegSub (ch6 :: selS [] 1 l) l_ ∧ data1.length = data4.length ∧ Own r_insert_option 96 μ_ (.slice A1 data1.length c1) data4 ch6 ∧ μ = μ_) ?_ ?_
    · intro _ h12605 h
      refine Lp h12605 (fun f l (j_ : (List T_insert_option) × Int) f_ μ_ l_ => ounP j_ fun data2 k1 => ∃ (ch2 : Seg), SubFr ((13, .int .i64 k1) :: keepF [0, 10] f) f_ ∧ SegSub (ch2 :: selS [] 1 l) l_ ∧ data1.length = data2.length ∧ Own r_insert_option 96 μ_ (.slice A1 data1.length c1) data2 ch2 ∧ μ = μ_) ⟨ch1, fE E, sE [some 0] 1 E, (hn1), (hO1), E⟩ ?_
      rintro ⟨data2, k1⟩ _ _ _ _ _ ⟨ch2, hF12959, hS12959, hn2, hO2, rfl⟩ hb12959 hq12959
      unfold slices_symMergeCmpFunc_option_c85_l2 at hb12959
      replace hb12959 := oun_mk hb12959
      refine Atn 1 hF12959 hS12959 E E (G0 8 E ?_)
      refine Br hb12959 58 E E (fun hc6 hb12959 => ?_) (fun hc6 hb12959 => ?_)
      · refine G2 4 [58] [] [] E ?_
        refine Cut hb12959 (fun f l o_ f_ μ_ l_ => ∃ (data3 : (List T_insert_option)) (ch5 : Seg), data3 = o_ ∧ SubFr (keepF [0, 10, 13] f) f_ ∧ SegSub (ch5 :: selS [] 1 l) l_ ∧ data1.length = data3.length ∧ Own r_insert_option 96 μ_ (.slice A1 data1.length c1) data3 ch5 ∧ μ = μ_) ?_ ?_
        · intro _ h13111 hb12959
          refine Cd (WP.draw (id := 11) wide (L) (Kp [] 1 E) E (AN.run (fuel := 8) (listed' := [true, true, true, true, true, true, true, true, false, false, true, true, false, false, false, false, false, false]) Tt_ok [(true, 0), (true, 1), (true, 2), (true, 3), (true, 4), (true, 5), (true, 6), (true, 7), (true, 10), (true, 11)] (by kernel_rfl) (by kernel_rfl) E (PL_t E (R_move E (Pt E E (R_move E (Pt E E (R_move E (Pt E E (R_move E (Pt E E (R_add E E (P_some E ?_)))))))))))))
          refine PL_t E (R_move E (Pt E E (R_move E (Pt E E (R_add E E (Pt E E (R_move E (Pt E E (R_move E (P_some E (PL_nil ?_)))))))))))
          refine FK_2 Tt_ok (a := 8) (b := 12) (by kernel_rfl) ?_ ?_
          · apply FO_; exact rfl; exact rfl
            obtain ⟨x3, hx4, h13111⟩ := obind h13111
            obtain ⟨a4, cs3, hA5, hr3, _, hc7⟩ := Rds.getI (Own.rds (L := (ch2 :: L)) hO2 0 rfl) hx4
            obtain ⟨A4, c4, rfl, hl3, hA6⟩ := hr3
            refine O_read E (R_iaG E E E E E E ⟨(getI_lt hx4).1, lenN hn2 (getI_lt hx4).2.1⟩ hA5 ?_)
            refine ⟨Kp [] 1 E, ?_⟩
            apply P_some; exact rfl
            refine FK_2 Tt_ok (a := 9) (b := 12) (by kernel_rfl) ?_ ?_
            · refine FO_ E E (O_read E (R_loadA E E E E (Ex.mk [.int .i64 x3.tour.Vehicle, .slice A4 x3.tour.Stops.length c4, .int .i64 x3.cost] ⟨rfl, hc7⟩ ?_)))
              refine ⟨Kp [] 1 E, ?_⟩
              refine P_some E (AN.run (fuel := 0) (listed' := [true, true, true, true, true, true, true, true, true, true, true, true, true, true, true, true, true, true]) Tt_ok [(false, 12), (false, 13), (false, 14), (false, 15), (false, 16), (false, 17)] (by kernel_rfl) (by kernel_rfl) E (PL_f E ?_))
              obtain ⟨x4, hx5, h13111⟩ := obind h13111
              obtain ⟨a5, cs4, hA7, hr4, _, hc8⟩ := Rds.getI (Own.rds (L := (ch2 :: L)) hO2 0 rfl) hx5
              obtain ⟨A5, c5, rfl, hl4, hA8⟩ := hr4
              refine O_read E (R_iaG E E E E E E ⟨(getI_lt hx5).1, lenN hn2 (getI_lt hx5).2.1⟩ hA7 ?_)
              refine ⟨Kp [] 1 E, ?_⟩
              refine P_some E (PL_f E (O_read E (R_loadA E E E E (Ex.mk [.int .i64 x4.tour.Vehicle, .slice A5 x4.tour.Stops.length c5, .int .i64 x4.cost] ⟨rfl, hc8⟩ ?_))))
              refine ⟨Kp [] 1 E, ?_⟩
              refine P_some E (PL_f E ?_)
              obtain ⟨x5, hx6, h13111⟩ := obind h13111
              obtain ⟨a6, cs5, hA9, hr5, _, hc9⟩ := Rds.getI (Own.rds (L := (ch2 :: L)) hO2 0 rfl) hx6
              obtain ⟨A6, c6, rfl, hl5, hA10⟩ := hr5
              refine O_read E (R_iaG E E E E E E ⟨(getI_lt hx6).1, lenN hn2 (getI_lt hx6).2.1⟩ hA9 ?_)
              refine ⟨Kp [] 1 E, ?_⟩
              refine P_some E (PL_f E (O_store (vs := [.int .i64 x3.tour.Vehicle, .slice A4 x3.tour.Stops.length c4, .int .i64 x3.cost]) E E E E E E ?_))
              rw [← Addr.add_zero' ((a6.add (k1.toNat * 3)))]
              refine Own.store (μ := μ) (r := r_insert_option) (x' := x3) (o := 0) (sz := 3) 0 rfl hO2 hA9 hx6 rfl rfl (by rintro _ ⟨A7, c7, rfl, hl6, hA11⟩; exact ⟨A4, c4, rfl, hl3, hA6⟩) fun ch3 hO3 => ?_
              have hn3 := hn2.trans (length_setI data2 k1 x3).symm
              refine ⟨Kp [] 1 E, ?_⟩
              refine P_none (PL_f E ?_)
              obtain ⟨x6, hx7, h13111⟩ := obind h13111
              obtain ⟨a7, cs6, hA12, hr6, _, hc10⟩ := Rds.getI (Own.rds (L := (ch3 :: L)) hO3 0 rfl) hx7
              obtain ⟨A8, c8, rfl, hl7, hA13⟩ := hr6
              refine O_read E (R_iaG E E E E E E ⟨(getI_lt hx7).1, lenN hn3 (getI_lt hx7).2.1⟩ hA12 ?_)
              refine ⟨Kp [] 1 E, ?_⟩
              refine P_some E (PL_f E (O_store (vs := [.int .i64 x4.tour.Vehicle, .slice A5 x4.tour.Stops.length c5, .int .i64 x4.cost]) E E E E E E ?_))
              rw [← Addr.add_zero' ((a7.add ((w64 (k1 + 1)).toNat * 3)))]
              refine Own.store (μ := μ) (r := r_insert_option) (x' := x4) (o := 0) (sz := 3) 0 rfl hO3 hA12 hx7 rfl rfl (by rintro _ ⟨A9, c9, rfl, hl8, hA14⟩; exact ⟨A5, c5, rfl, hl4, hA8⟩) fun ch4 hO4 => ?_
              have hn4 := hn3.trans (length_setI (setI data2 k1 x3) (w64 (k1 + 1)) x4).symm
              refine ⟨Kp [] 1 E, ?_⟩
              refine P_none (PL_nil (AN.done0 (by kernel_rfl) ?_))
              cases h13111
              exact Ce E ⟨_, ch4, rfl, fE E, sE [some 0] 1 E, (hn4), (hO4), rfl⟩
            obtain ⟨x4, hx5, h13111⟩ := obind h13111
            obtain ⟨x5, hx6, h13111⟩ := obind h13111
            obtain ⟨x6, hx7, h13111⟩ := obind h13111
            apply FO_; exact rfl; exact rfl
            obtain ⟨a5, cs4, hA7, hr4, _, hc8⟩ := Rds.getI (Own.rds (L := (ch2 :: L)) hO2 0 rfl) hx5
            obtain ⟨A5, c5, rfl, hl4, hA8⟩ := hr4
            refine O_read E (R_iaG E E E E E E ⟨(getI_lt hx5).1, lenN hn2 (getI_lt hx5).2.1⟩ hA7 ?_)
            refine ⟨Kp [] 1 E, ?_⟩
            apply P_some; exact rfl
            refine FK_2 Tt_ok (a := 9) (b := 13) (by kernel_rfl) ?_ ?_
            · refine FO_ E E (O_read E (R_loadA E E E E (Ex.mk [.int .i64 x3.tour.Vehicle, .slice A4 x3.tour.Stops.length c4, .int .i64 x3.cost] ⟨rfl, hc7⟩ ?_)))
              refine ⟨Kp [] 1 E, ?_⟩
              refine P_some E (AN.run (fuel := 0) (listed' := [true, true, true, true, true, true, true, true, true, true, true, true, true, true, true, true, true, true]) Tt_ok [(false, 13), (false, 14), (false, 15), (false, 16), (false, 17)] (by kernel_rfl) (by kernel_rfl) E (PL_f E (O_read E (R_loadA E E E E (Ex.mk [.int .i64 x4.tour.Vehicle, .slice A5 x4.tour.Stops.length c5, .int .i64 x4.cost] ⟨rfl, hc8⟩ ?_)))))
              refine ⟨Kp [] 1 E, ?_⟩
              refine P_some E (PL_f E ?_)
              obtain ⟨a6, cs5, hA9, hr5, _, hc9⟩ := Rds.getI (Own.rds (L := (ch2 :: L)) hO2 0 rfl) hx5
              obtain ⟨A6, c6, rfl, hl5, hA10⟩ := hr5
              refine O_read E (R_iaG E E E E E E ⟨(getI_lt hx5).1, lenN hn2 (getI_lt hx5).2.1⟩ hA9 ?_)
              refine ⟨Kp [] 1 E, ?_⟩
              refine P_some E (PL_f E (O_store (vs := [.int .i64 x3.tour.Vehicle, .slice A4 x3.tour.Stops.length c4, .int .i64 x3.cost]) E E E E E E ?_))
              rw [← Addr.add_zero' ((a6.add (k1.toNat * 3)))]
              refine Own.store (μ := μ) (r := r_insert_option) (x' := x3) (o := 0) (sz := 3) 0 rfl hO2 hA9 hx5 rfl rfl (by rintro _ ⟨A7, c7, rfl, hl6, hA11⟩; exact ⟨A4, c4, rfl, hl3, hA6⟩) fun ch3 hO3 => ?_
              have hn3 := hn2.trans (length_setI data2 k1 x3).symm
              refine ⟨Kp [] 1 E, ?_⟩
              refine P_none (PL_f E ?_)
              obtain ⟨a7, cs6, hA12, hr6, _, hc10⟩ := Rds.getI (Own.rds (L := (ch3 :: L)) hO3 0 rfl) hx7
              obtain ⟨A8, c8, rfl, hl7, hA13⟩ := hr6
              refine O_read E (R_iaG E E E E E E ⟨(getI_lt hx7).1, lenN hn3 (getI_lt hx7).2.1⟩ hA12 ?_)
              refine ⟨Kp [] 1 E, ?_⟩
              refine P_some E (PL_f E (O_store (vs := [.int .i64 x4.tour.Vehicle, .slice A5 x4.tour.Stops.length c5, .int .i64 x4.cost]) E E E E E E ?_))
              rw [← Addr.add_zero' ((a7.add ((w64 (k1 + 1)).toNat * 3)))]
              refine Own.store (μ := μ) (r := r_insert_option) (x' := x4) (o := 0) (sz := 3) 0 rfl hO3 hA12 hx7 rfl rfl (by rintro _ ⟨A9, c9, rfl, hl8, hA14⟩; exact ⟨A5, c5, rfl, hl4, hA8⟩) fun ch4 hO4 => ?_
              have hn4 := hn3.trans (length_setI (setI data2 k1 x3) (w64 (k1 + 1)) x4).symm
              refine ⟨Kp [] 1 E, ?_⟩
              refine P_none (PL_nil (AN.done0 (by kernel_rfl) ?_))
              cases h13111
              exact Ce E ⟨_, ch4, rfl, fE E, sE [some 0] 1 E, (hn4), (hO4), rfl⟩
            refine FO_ E E (O_read E (R_loadA E E E E (Ex.mk [.int .i64 x4.tour.Vehicle, .slice A5 x4.tour.Stops.length c5, .int .i64 x4.cost] ⟨rfl, hc8⟩ ?_)))
            refine ⟨Kp [] 1 E, ?_⟩
            refine P_some E (AN.run (fuel := 0) (listed' := [true, true, true, true, true, true, true, true, true, true, true, true, true, true, true, true, true, true]) Tt_ok [(false, 9), (false, 14), (false, 15), (false, 16), (false, 17)] (by kernel_rfl) (by kernel_rfl) E (PL_f E (O_read E (R_loadA E E E E (Ex.mk [.int .i64 x3.tour.Vehicle, .slice A4 x3.tour.Stops.length c4, .int .i64 x3.cost] ⟨rfl, hc7⟩ ?_)))))
            refine ⟨Kp [] 1 E, ?_⟩
            refine P_some E (PL_f E ?_)
            obtain ⟨a6, cs5, hA9, hr5, _, hc9⟩ := Rds.getI (Own.rds (L := (ch2 :: L)) hO2 0 rfl) hx5
            obtain ⟨A6, c6, rfl, hl5, hA10⟩ := hr5
            refine O_read E (R_iaG E E E E E E ⟨(getI_lt hx5).1, lenN hn2 (getI_lt hx5).2.1⟩ hA9 ?_)
            refine ⟨Kp [] 1 E, ?_⟩
            refine P_some E (PL_f E (O_store (vs := [.int .i64 x3.tour.Vehicle, .slice A4 x3.tour.Stops.length c4, .int .i64 x3.cost]) E E E E E E ?_))
            rw [← Addr.add_zero' ((a6.add (k1.toNat * 3)))]
            refine Own.store (μ := μ) (r := r_insert_option) (x' := x3) (o := 0) (sz := 3) 0 rfl hO2 hA9 hx5 rfl rfl (by rintro _ ⟨A7, c7, rfl, hl6, hA11⟩; exact ⟨A4, c4, rfl, hl3, hA6⟩) fun ch3 hO3 => ?_
            have hn3 := hn2.trans (length_setI data2 k1 x3).symm
            refine ⟨Kp [] 1 E, ?_⟩
            refine P_none (PL_f E ?_)
            obtain ⟨a7, cs6, hA12, hr6, _, hc10⟩ := Rds.getI (Own.rds (L := (ch3 :: L)) hO3 0 rfl) hx7
            obtain ⟨A8, c8, rfl, hl7, hA13⟩ := hr6
            refine O_read E (R_iaG E E E E E E ⟨(getI_lt hx7).1, lenN hn3 (getI_lt hx7).2.1⟩ hA12 ?_)
            refine ⟨Kp [] 1 E, ?_⟩
            refine P_some E (PL_f E (O_store (vs := [.int .i64 x4.tour.Vehicle, .slice A5 x4.tour.Stops.length c5, .int .i64 x4.cost]) E E E E E E ?_))
            rw [← Addr.add_zero' ((a7.add ((w64 (k1 + 1)).toNat * 3)))]
            refine Own.store (μ := μ) (r := r_insert_option) (x' := x4) (o := 0) (sz := 3) 0 rfl hO3 hA12 hx7 rfl rfl (by rintro _ ⟨A9, c9, rfl, hl8, hA14⟩; exact ⟨A5, c5, rfl, hl4, hA8⟩) fun ch4 hO4 => ?_
            have hn4 := hn3.trans (length_setI (setI data2 k1 x3) (w64 (k1 + 1)) x4).symm
            refine ⟨Kp [] 1 E, ?_⟩
            refine P_none (PL_nil (AN.done0 (by kernel_rfl) ?_))
            cases h13111
            exact Ce E ⟨_, ch4, rfl, fE E, sE [some 0] 1 E, (hn4), (hO4), rfl⟩
          obtain ⟨x3, hx4, h13111⟩ := obind h13111
          obtain ⟨x4, hx5, h13111⟩ := obind h13111
          obtain ⟨x5, hx6, h13111⟩ := obind h13111
          obtain ⟨x6, hx7, h13111⟩ := obind h13111
          apply FO_; exact rfl; exact rfl
          obtain ⟨a5, cs4, hA7, hr4, _, hc8⟩ := Rds.getI (Own.rds (L := (ch2 :: L)) hO2 0 rfl) hx5
          obtain ⟨A5, c5, rfl, hl4, hA8⟩ := hr4
          refine O_read E (R_iaG E E E E E E ⟨(getI_lt hx5).1, lenN hn2 (getI_lt hx5).2.1⟩ hA7 ?_)
          refine ⟨Kp [] 1 E, ?_⟩
          apply P_some; exact rfl
          refine FK_2 Tt_ok (a := 8) (b := 13) (by kernel_rfl) ?_ ?_
          · apply FO_; exact rfl; exact rfl
            obtain ⟨a4, cs3, hA5, hr3, _, hc7⟩ := Rds.getI (Own.rds (L := (ch2 :: L)) hO2 0 rfl) hx4
            obtain ⟨A4, c4, rfl, hl3, hA6⟩ := hr3
            refine O_read E (R_iaG E E E E E E ⟨(getI_lt hx4).1, lenN hn2 (getI_lt hx4).2.1⟩ hA5 ?_)
            refine ⟨Kp [] 1 E, ?_⟩
            apply P_some; exact rfl
            refine FK_2 Tt_ok (a := 9) (b := 13) (by kernel_rfl) ?_ ?_
            · refine FO_ E E (O_read E (R_loadA E E E E (Ex.mk [.int .i64 x3.tour.Vehicle, .slice A4 x3.tour.Stops.length c4, .int .i64 x3.cost] ⟨rfl, hc7⟩ ?_)))
              refine ⟨Kp [] 1 E, ?_⟩
              refine P_some E (AN.run (fuel := 0) (listed' := [true, true, true, true, true, true, true, true, true, true, true, true, true, true, true, true, true, true]) Tt_ok [(false, 13), (false, 14), (false, 15), (false, 16), (false, 17)] (by kernel_rfl) (by kernel_rfl) E (PL_f E (O_read E (R_loadA E E E E (Ex.mk [.int .i64 x4.tour.Vehicle, .slice A5 x4.tour.Stops.length c5, .int .i64 x4.cost] ⟨rfl, hc8⟩ ?_)))))
              refine ⟨Kp [] 1 E, ?_⟩
              refine P_some E (PL_f E ?_)
              obtain ⟨a6, cs5, hA9, hr5, _, hc9⟩ := Rds.getI (Own.rds (L := (ch2 :: L)) hO2 0 rfl) hx5
              obtain ⟨A6, c6, rfl, hl5, hA10⟩ := hr5
              refine O_read E (R_iaG E E E E E E ⟨(getI_lt hx5).1, lenN hn2 (getI_lt hx5).2.1⟩ hA9 ?_)
              refine ⟨Kp [] 1 E, ?_⟩
              refine P_some E (PL_f E (O_store (vs := [.int .i64 x3.tour.Vehicle, .slice A4 x3.tour.Stops.length c4, .int .i64 x3.cost]) E E E E E E ?_))
              rw [← Addr.add_zero' ((a6.add (k1.toNat * 3)))]
              refine Own.store (μ := μ) (r := r_insert_option) (x' := x3) (o := 0) (sz := 3) 0 rfl hO2 hA9 hx5 rfl rfl (by rintro _ ⟨A7, c7, rfl, hl6, hA11⟩; exact ⟨A4, c4, rfl, hl3, hA6⟩) fun ch3 hO3 => ?_
              have hn3 := hn2.trans (length_setI data2 k1 x3).symm
              refine ⟨Kp [] 1 E, ?_⟩
              refine P_none (PL_f E ?_)
              obtain ⟨a7, cs6, hA12, hr6, _, hc10⟩ := Rds.getI (Own.rds (L := (ch3 :: L)) hO3 0 rfl) hx7
              obtain ⟨A8, c8, rfl, hl7, hA13⟩ := hr6
              refine O_read E (R_iaG E E E E E E ⟨(getI_lt hx7).1, lenN hn3 (getI_lt hx7).2.1⟩ hA12 ?_)
              refine ⟨Kp [] 1 E, ?_⟩
              refine P_some E (PL_f E (O_store (vs := [.int .i64 x4.tour.Vehicle, .slice A5 x4.tour.Stops.length c5, .int .i64 x4.cost]) E E E E E E ?_))
              rw [← Addr.add_zero' ((a7.add ((w64 (k1 + 1)).toNat * 3)))]
              refine Own.store (μ := μ) (r := r_insert_option) (x' := x4) (o := 0) (sz := 3) 0 rfl hO3 hA12 hx7 rfl rfl (by rintro _ ⟨A9, c9, rfl, hl8, hA14⟩; exact ⟨A5, c5, rfl, hl4, hA8⟩) fun ch4 hO4 => ?_
              have hn4 := hn3.trans (length_setI (setI data2 k1 x3) (w64 (k1 + 1)) x4).symm
              refine ⟨Kp [] 1 E, ?_⟩
              refine P_none (PL_nil (AN.done0 (by kernel_rfl) ?_))
              cases h13111
              exact Ce E ⟨_, ch4, rfl, fE E, sE [some 0] 1 E, (hn4), (hO4), rfl⟩
            refine FO_ E E (O_read E (R_loadA E E E E (Ex.mk [.int .i64 x4.tour.Vehicle, .slice A5 x4.tour.Stops.length c5, .int .i64 x4.cost] ⟨rfl, hc8⟩ ?_)))
            refine ⟨Kp [] 1 E, ?_⟩
            refine P_some E (AN.run (fuel := 0) (listed' := [true, true, true, true, true, true, true, true, true, true, true, true, true, true, true, true, true, true]) Tt_ok [(false, 9), (false, 14), (false, 15), (false, 16), (false, 17)] (by kernel_rfl) (by kernel_rfl) E (PL_f E (O_read E (R_loadA E E E E (Ex.mk [.int .i64 x3.tour.Vehicle, .slice A4 x3.tour.Stops.length c4, .int .i64 x3.cost] ⟨rfl, hc7⟩ ?_)))))
            refine ⟨Kp [] 1 E, ?_⟩
            refine P_some E (PL_f E ?_)
            obtain ⟨a6, cs5, hA9, hr5, _, hc9⟩ := Rds.getI (Own.rds (L := (ch2 :: L)) hO2 0 rfl) hx5
            obtain ⟨A6, c6, rfl, hl5, hA10⟩ := hr5
            refine O_read E (R_iaG E E E E E E ⟨(getI_lt hx5).1, lenN hn2 (getI_lt hx5).2.1⟩ hA9 ?_)
            refine ⟨Kp [] 1 E, ?_⟩
            refine P_some E (PL_f E (O_store (vs := [.int .i64 x3.tour.Vehicle, .slice A4 x3.tour.Stops.length c4, .int .i64 x3.cost]) E E E E E E ?_))
            rw [← Addr.add_zero' ((a6.add (k1.toNat * 3)))]
            refine Own.store (μ := μ) (r := r_insert_option) (x' := x3) (o := 0) (sz := 3) 0 rfl hO2 hA9 hx5 rfl rfl (by rintro _ ⟨A7, c7, rfl, hl6, hA11⟩; exact ⟨A4, c4, rfl, hl3, hA6⟩) fun ch3 hO3 => ?_
            have hn3 := hn2.trans (length_setI data2 k1 x3).symm
            refine ⟨Kp [] 1 E, ?_⟩
            refine P_none (PL_f E ?_)
            obtain ⟨a7, cs6, hA12, hr6, _, hc10⟩ := Rds.getI (Own.rds (L := (ch3 :: L)) hO3 0 rfl) hx7
            obtain ⟨A8, c8, rfl, hl7, hA13⟩ := hr6
            refine O_read E (R_iaG E E E E E E ⟨(getI_lt hx7).1, lenN hn3 (getI_lt hx7).2.1⟩ hA12 ?_)
            refine ⟨Kp [] 1 E, ?_⟩
            refine P_some E (PL_f E (O_store (vs := [.int .i64 x4.tour.Vehicle, .slice A5 x4.tour.Stops.length c5, .int .i64 x4.cost]) E E E E E E ?_))
            rw [← Addr.add_zero' ((a7.add ((w64 (k1 + 1)).toNat * 3)))]
            refine Own.store (μ := μ) (r := r_insert_option) (x' := x4) (o := 0) (sz := 3) 0 rfl hO3 hA12 hx7 rfl rfl (by rintro _ ⟨A9, c9, rfl, hl8, hA14⟩; exact ⟨A5, c5, rfl, hl4, hA8⟩) fun ch4 hO4 => ?_
            have hn4 := hn3.trans (length_setI (setI data2 k1 x3) (w64 (k1 + 1)) x4).symm
            refine ⟨Kp [] 1 E, ?_⟩
            refine P_none (PL_nil (AN.done0 (by kernel_rfl) ?_))
            cases h13111
            exact Ce E ⟨_, ch4, rfl, fE E, sE [some 0] 1 E, (hn4), (hO4), rfl⟩
          refine FO_ E E (O_read E (R_loadA E E E E (Ex.mk [.int .i64 x4.tour.Vehicle, .slice A5 x4.tour.Stops.length c5, .int .i64 x4.cost] ⟨rfl, hc8⟩ ?_)))
          refine ⟨Kp [] 1 E, ?_⟩
          refine P_some E (AN.run (fuel := 0) (listed' := [true, true, true, true, true, true, true, true, true, true, true, true, true, true, true, true, true, true]) Tt_ok [(false, 8), (false, 9), (false, 14), (false, 15), (false, 16), (false, 17)] (by kernel_rfl) (by kernel_rfl) E (PL_f E ?_))
          obtain ⟨a4, cs3, hA5, hr3, _, hc7⟩ := Rds.getI (Own.rds (L := (ch2 :: L)) hO2 0 rfl) hx4
          obtain ⟨A4, c4, rfl, hl3, hA6⟩ := hr3
          refine O_read E (R_iaG E E E E E E ⟨(getI_lt hx4).1, lenN hn2 (getI_lt hx4).2.1⟩ hA5 ?_)
          refine ⟨Kp [] 1 E, ?_⟩
          refine P_some E (PL_f E (O_read E (R_loadA E E E E (Ex.mk [.int .i64 x3.tour.Vehicle, .slice A4 x3.tour.Stops.length c4, .int .i64 x3.cost] ⟨rfl, hc7⟩ ?_))))
          refine ⟨Kp [] 1 E, ?_⟩
          refine P_some E (PL_f E ?_)
          obtain ⟨a6, cs5, hA9, hr5, _, hc9⟩ := Rds.getI (Own.rds (L := (ch2 :: L)) hO2 0 rfl) hx5
          obtain ⟨A6, c6, rfl, hl5, hA10⟩ := hr5
          refine O_read E (R_iaG E E E E E E ⟨(getI_lt hx5).1, lenN hn2 (getI_lt hx5).2.1⟩ hA9 ?_)
          refine ⟨Kp [] 1 E, ?_⟩
          refine P_some E (PL_f E (O_store (vs := [.int .i64 x3.tour.Vehicle, .slice A4 x3.tour.Stops.length c4, .int .i64 x3.cost]) E E E E E E ?_))
          rw [← Addr.add_zero' ((a6.add (k1.toNat * 3)))]
          refine Own.store (μ := μ) (r := r_insert_option) (x' := x3) (o := 0) (sz := 3) 0 rfl hO2 hA9 hx5 rfl rfl (by rintro _ ⟨A7, c7, rfl, hl6, hA11⟩; exact ⟨A4, c4, rfl, hl3, hA6⟩) fun ch3 hO3 => ?_
          have hn3 := hn2.trans (length_setI data2 k1 x3).symm
          refine ⟨Kp [] 1 E, ?_⟩
          refine P_none (PL_f E ?_)
          obtain ⟨a7, cs6, hA12, hr6, _, hc10⟩ := Rds.getI (Own.rds (L := (ch3 :: L)) hO3 0 rfl) hx7
          obtain ⟨A8, c8, rfl, hl7, hA13⟩ := hr6
          refine O_read E (R_iaG E E E E E E ⟨(getI_lt hx7).1, lenN hn3 (getI_lt hx7).2.1⟩ hA12 ?_)
          refine ⟨Kp [] 1 E, ?_⟩
          refine P_some E (PL_f E (O_store (vs := [.int .i64 x4.tour.Vehicle, .slice A5 x4.tour.Stops.length c5, .int .i64 x4.cost]) E E E E E E ?_))
          rw [← Addr.add_zero' ((a7.add ((w64 (k1 + 1)).toNat * 3)))]
          refine Own.store (μ := μ) (r := r_insert_option) (x' := x4) (o := 0) (sz := 3) 0 rfl hO3 hA12 hx7 rfl rfl (by rintro _ ⟨A9, c9, rfl, hl8, hA14⟩; exact ⟨A5, c5, rfl, hl4, hA8⟩) fun ch4 hO4 => ?_
          have hn4 := hn3.trans (length_setI (setI data2 k1 x3) (w64 (k1 + 1)) x4).symm
          refine ⟨Kp [] 1 E, ?_⟩
          refine P_none (PL_nil (AN.done0 (by kernel_rfl) ?_))
          cases h13111
          exact Ce E ⟨_, ch4, rfl, fE E, sE [some 0] 1 E, (hn4), (hO4), rfl⟩
        rintro _ _ _ _ hb12959 _ ⟨data3, ch5, rfl, hF13111, hS13111, hn5, hO5, rfl⟩
        refine Atn 1 hF13111 hS13111 E E (G0 6 E ?_)
        cases hb12959
        exact Ce E ⟨_, rfl, ch5, fE E, sE [some 0] 1 E, (hn5), (hO5), rfl⟩
      refine G2 2 [] [58] [] E ?_
      cases hb12959
      have hq_ := hq12959 _ E
      subst hq_
      exact Ce E ⟨_, ch2, rfl, fE E, sE [some 0] 1 E, (hn2), (hO2), rfl⟩
    rintro _ _ _ _ h _ ⟨data4, ch6, rfl, hF12605, hS12605, hn6, hO6, rfl⟩
    refine Atn 1 hF12605 hS12605 E E ?_
    cases h
    exact Rt [] E E (Ug [[0]] 1 (hR _ hO6 hn6))
  refine G2 10 [] [28] [] E ?_
  refine Br h 80 E E (fun hc11 h => ?_) (fun hc11 h => ?_)
  · refine G2 12 [80] [] [] E ?_
    refine Cut h (fun f l o_ f_ μ_ l_ => ∃ (i4 : Int), i4 = o_ ∧ SubFr ((14, .int .i64 i4) :: keepF [0, 2] f) f_ ∧ SegSub l l_ ∧ μ = μ_) ?_ ?_
    · intro _ h13314 h
      refine Lp h13314 (fun f l (j_ : Int × Int) f_ μ_ l_ => ounP j_ fun i3 j2 => SubFr ((14, .int .i64 i3) :: (15, .int .i64 j2) :: keepF [0, 2, 4] f) f_ ∧ SegSub l l_ ∧ μ = μ_) ⟨fE E, sE [some 0] 1 E, E⟩ ?_
      rintro ⟨i3, j2⟩ _ _ _ _ _ ⟨hF13328, hS13328, rfl⟩ hb13328 hq13328
      unfold slices_symMergeCmpFunc_option_c85_l3 at hb13328
      replace hb13328 := oun_mk hb13328
      refine Atn 1 hF13328 hS13328 E E (G0 7 E ?_)
      refine Br hb13328 85 E E (fun hc12 hb13328 => ?_) (fun hc12 hb13328 => ?_)
      · refine G2 9 [85] [] [] E (Rdo E E ?_)
        obtain ⟨_, hg2, hb13328⟩ := obind hb13328
        refine R_shrD E E E (guardO_some hg2) (Q0 4 E (Dr _ Kept.refl [(true, 0), (true, 1), (true, 2), (true, 3), (true, 4), (true, 5), (true, 6), (true, 7), (true, 8), (false, 9), (true, 10), (true, 11)] (by kernel_rfl) (G0 3 E (IxN hn1 hb13328 (Own.rds (L := (ch1 :: L)) hO1 0 E) E E fun _ _ _ _ hr7 hc13 _ hb13328 => ?_))))
        obtain ⟨_, _, rfl, hl9, hA16⟩ := hr7
        refine Q3 3 [] [] [64] (Z1 hc13) E (IxN hn1 hb13328 (Own.rds (L := (ch1 :: L)) hO1 0 E) E E fun _ _ _ _ hr8 hc14 _ hb13328 => ?_)
        obtain ⟨_, _, rfl, hl10, hA18⟩ := hr8
        refine Q3 1 [] [] [64] (Z1 hc14) E (Cl E ?_)
        obtain ⟨_, hx10, hb13328⟩ := obind hb13328
        refine insert_options_1_fn hl9 hA16 hl10 hA18 hx10 (?_)
        refine ⟨Kept.refl, ?_⟩
        refine Q0 3 E ?_
        refine Br hb13328 103 E E (fun hc15 hb13328 => ?_) (fun hc15 hb13328 => ?_)
        · refine G2 7 [103] [] [] E ?_
          cases hb13328
          exact Ce E ⟨_, rfl, fE E, sE [some 0] 1 E, rfl⟩
        refine G2 6 [] [103] [] E ?_
        cases hb13328
        exact Ce E ⟨_, rfl, fE E, sE [some 0] 1 E, rfl⟩
      refine G2 2 [] [85] [] E ?_
      cases hb13328
      have hq_ := hq13328 _ E
      subst hq_
      exact Ce E ⟨_, rfl, fE E, sE [some 0] 1 E, rfl⟩
    rintro _ _ _ _ h _ ⟨i4, rfl, hF13314, hS13314, rfl⟩
    refine Atn 1 hF13314 hS13314 E E (G0 6 E ?_)
    refine Cut h (fun f l o_ f_ μ_ l_ => ∃ (data7 : (List T_insert_option)) (ch11 : Seg), data7 = o_ ∧ SubFr ([]) f_ ∧ SegSub (ch11 :: selS [] 1 l) l_ ∧ data1.length = data7.length ∧ Own r_insert_option 96 μ_ (.slice A1 data1.length c1) data7 ch11 ∧ μ = μ_) ?_ ?_
    · intro _ h13341 h
      refine Lp h13341 (fun f l (j_ : (List T_insert_option) × Int) f_ μ_ l_ => ounP j_ fun data5 k2 => ∃ (ch7 : Seg), SubFr ((17, .int .i64 k2) :: keepF [0, 14] f) f_ ∧ SegSub (ch7 :: selS [] 1 l) l_ ∧ data1.length = data5.length ∧ Own r_insert_option 96 μ_ (.slice A1 data1.length c1) data5 ch7 ∧ μ = μ_) ⟨ch1, fE E, sE [some 0] 1 E, (hn1), (hO1), E⟩ ?_
      rintro ⟨data5, k2⟩ _ _ _ _ _ ⟨ch7, hF13695, hS13695, hn7, hO7, rfl⟩ hb13695 hq13695
      unfold slices_symMergeCmpFunc_option_c85_l4 at hb13695
      replace hb13695 := oun_mk hb13695
      refine Atn 1 hF13695 hS13695 E E (G0 7 E ?_)
      refine Br hb13695 110 E E (fun hc16 hb13695 => ?_) (fun hc16 hb13695 => ?_)
      · refine G2 4 [110] [] [] E ?_
        refine Cut hb13695 (fun f l o_ f_ μ_ l_ => ∃ (data6 : (List T_insert_option)) (ch10 : Seg), data6 = o_ ∧ SubFr (keepF [0, 14, 17] f) f_ ∧ SegSub (ch10 :: selS [] 1 l) l_ ∧ data1.length = data6.length ∧ Own r_insert_option 96 μ_ (.slice A1 data1.length c1) data6 ch10 ∧ μ = μ_) ?_ ?_
        · intro _ h13847 hb13695
          refine Cd (WP.draw (id := 23) wide (L) (Kp [] 1 E) E (AN.run (fuel := 8) (listed' := [true, true, true, true, true, true, true, true, false, false, true, true, false, false, false, false, false, false]) Tt_ok [(true, 0), (true, 1), (true, 2), (true, 3), (true, 4), (true, 5), (true, 6), (true, 7), (true, 10), (true, 11)] (by kernel_rfl) (by kernel_rfl) E (PL_t E (R_move E (Pt E E (R_move E (Pt E E (R_move E (Pt E E (R_move E (Pt E E (R_sub E E (P_some E ?_)))))))))))))
          refine PL_t E (R_move E (Pt E E (R_move E (Pt E E (R_sub E E (Pt E E (R_move E (Pt E E (R_move E (P_some E (PL_nil ?_)))))))))))
          refine FK_2 Tt_ok (a := 8) (b := 12) (by kernel_rfl) ?_ ?_
          · apply FO_; exact rfl; exact rfl
            obtain ⟨x9, hx11, h13847⟩ := obind h13847
            obtain ⟨a10, cs9, hA19, hr9, _, hc17⟩ := Rds.getI (Own.rds (L := (ch7 :: L)) hO7 0 rfl) hx11
            obtain ⟨A12, c12, rfl, hl11, hA20⟩ := hr9
            refine O_read E (R_iaG E E E E E E ⟨(getI_lt hx11).1, lenN hn7 (getI_lt hx11).2.1⟩ hA19 ?_)
            refine ⟨Kp [] 1 E, ?_⟩
            apply P_some; exact rfl
            refine FK_2 Tt_ok (a := 9) (b := 12) (by kernel_rfl) ?_ ?_
            · refine FO_ E E (O_read E (R_loadA E E E E (Ex.mk [.int .i64 x9.tour.Vehicle, .slice A12 x9.tour.Stops.length c12, .int .i64 x9.cost] ⟨rfl, hc17⟩ ?_)))
              refine ⟨Kp [] 1 E, ?_⟩
              refine P_some E (AN.run (fuel := 0) (listed' := [true, true, true, true, true, true, true, true, true, true, true, true, true, true, true, true, true, true]) Tt_ok [(false, 12), (false, 13), (false, 14), (false, 15), (false, 16), (false, 17)] (by kernel_rfl) (by kernel_rfl) E (PL_f E ?_))
              obtain ⟨x10, hx12, h13847⟩ := obind h13847
              obtain ⟨a11, cs10, hA21, hr10, _, hc18⟩ := Rds.getI (Own.rds (L := (ch7 :: L)) hO7 0 rfl) hx12
              obtain ⟨A13, c13, rfl, hl12, hA22⟩ := hr10
              refine O_read E (R_iaG E E E E E E ⟨(getI_lt hx12).1, lenN hn7 (getI_lt hx12).2.1⟩ hA21 ?_)
              refine ⟨Kp [] 1 E, ?_⟩
              refine P_some E (PL_f E (O_read E (R_loadA E E E E (Ex.mk [.int .i64 x10.tour.Vehicle, .slice A13 x10.tour.Stops.length c13, .int .i64 x10.cost] ⟨rfl, hc18⟩ ?_))))
              refine ⟨Kp [] 1 E, ?_⟩
              refine P_some E (PL_f E ?_)
              obtain ⟨x11, hx13, h13847⟩ := obind h13847
              obtain ⟨a12, cs11, hA23, hr11, _, hc19⟩ := Rds.getI (Own.rds (L := (ch7 :: L)) hO7 0 rfl) hx13
              obtain ⟨A14, c14, rfl, hl13, hA24⟩ := hr11
              refine O_read E (R_iaG E E E E E E ⟨(getI_lt hx13).1, lenN hn7 (getI_lt hx13).2.1⟩ hA23 ?_)
              refine ⟨Kp [] 1 E, ?_⟩
              refine P_some E (PL_f E (O_store (vs := [.int .i64 x9.tour.Vehicle, .slice A12 x9.tour.Stops.length c12, .int .i64 x9.cost]) E E E E E E ?_))
              rw [← Addr.add_zero' ((a12.add (k2.toNat * 3)))]
              refine Own.store (μ := μ) (r := r_insert_option) (x' := x9) (o := 0) (sz := 3) 0 rfl hO7 hA23 hx13 rfl rfl (by rintro _ ⟨A15, c15, rfl, hl14, hA25⟩; exact ⟨A12, c12, rfl, hl11, hA20⟩) fun ch8 hO8 => ?_
              have hn8 := hn7.trans (length_setI data5 k2 x9).symm
              refine ⟨Kp [] 1 E, ?_⟩
              refine P_none (PL_f E ?_)
              obtain ⟨x12, hx14, h13847⟩ := obind h13847
              obtain ⟨a13, cs12, hA26, hr12, _, hc20⟩ := Rds.getI (Own.rds (L := (ch8 :: L)) hO8 0 rfl) hx14
              obtain ⟨A16, c16, rfl, hl15, hA27⟩ := hr12
              refine O_read E (R_iaG E E E E E E ⟨(getI_lt hx14).1, lenN hn8 (getI_lt hx14).2.1⟩ hA26 ?_)
              refine ⟨Kp [] 1 E, ?_⟩
              refine P_some E (PL_f E (O_store (vs := [.int .i64 x10.tour.Vehicle, .slice A13 x10.tour.Stops.length c13, .int .i64 x10.cost]) E E E E E E ?_))
              rw [← Addr.add_zero' ((a13.add ((w64 (k2 - 1)).toNat * 3)))]
              refine Own.store (μ := μ) (r := r_insert_option) (x' := x10) (o := 0) (sz := 3) 0 rfl hO8 hA26 hx14 rfl rfl (by rintro _ ⟨A17, c17, rfl, hl16, hA28⟩; exact ⟨A13, c13, rfl, hl12, hA22⟩) fun ch9 hO9 => ?_
              have hn9 := hn8.trans (length_setI (setI data5 k2 x9) (w64 (k2 - 1)) x10).symm
              refine ⟨Kp [] 1 E, ?_⟩
              refine P_none (PL_nil (AN.done0 (by kernel_rfl) ?_))
              cases h13847
              exact Ce E ⟨_, ch9, rfl, fE E, sE [some 0] 1 E, (hn9), (hO9), rfl⟩
            obtain ⟨x10, hx12, h13847⟩ := obind h13847
            obtain ⟨x11, hx13, h13847⟩ := obind h13847
            obtain ⟨x12, hx14, h13847⟩ := obind h13847
            apply FO_; exact rfl; exact rfl
            obtain ⟨a11, cs10, hA21, hr10, _, hc18⟩ := Rds.getI (Own.rds (L := (ch7 :: L)) hO7 0 rfl) hx12
            obtain ⟨A13, c13, rfl, hl12, hA22⟩ := hr10
            refine O_read E (R_iaG E E E E E E ⟨(getI_lt hx12).1, lenN hn7 (getI_lt hx12).2.1⟩ hA21 ?_)
            refine ⟨Kp [] 1 E, ?_⟩
            apply P_some; exact rfl
            refine FK_2 Tt_ok (a := 9) (b := 13) (by kernel_rfl) ?_ ?_
            · refine FO_ E E (O_read E (R_loadA E E E E (Ex.mk [.int .i64 x9.tour.Vehicle, .slice A12 x9.tour.Stops.length c12, .int .i64 x9.cost] ⟨rfl, hc17⟩ ?_)))
              refine ⟨Kp [] 1 E, ?_⟩
              refine P_some E (AN.run (fuel := 0) (listed' := [true, true, true, true, true, true, true, true, true, true, true, true, true, true, true, true, true, true]) Tt_ok [(false, 13), (false, 14), (false, 15), (false, 16), (false, 17)] (by kernel_rfl) (by kernel_rfl) E (PL_f E (O_read E (R_loadA E E E E (Ex.mk [.int .i64 x10.tour.Vehicle, .slice A13 x10.tour.Stops.length c13, .int .i64 x10.cost] ⟨rfl, hc18⟩ ?_)))))
              refine ⟨Kp [] 1 E, ?_⟩
              refine P_some E (PL_f E ?_)
              obtain ⟨a12, cs11, hA23, hr11, _, hc19⟩ := Rds.getI (Own.rds (L := (ch7 :: L)) hO7 0 rfl) hx12
              obtain ⟨A14, c14, rfl, hl13, hA24⟩ := hr11
              refine O_read E (R_iaG E E E E E E ⟨(getI_lt hx12).1, lenN hn7 (getI_lt hx12).2.1⟩ hA23 ?_)
              refine ⟨Kp [] 1 E, ?_⟩
              refine P_some E (PL_f E (O_store (vs := [.int .i64 x9.tour.Vehicle, .slice A12 x9.tour.Stops.length c12, .int .i64 x9.cost]) E E E E E E ?_))
              rw [← Addr.add_zero' ((a12.add (k2.toNat * 3)))]
              refine Own.store (μ := μ) (r := r_insert_option) (x' := x9) (o := 0) (sz := 3) 0 rfl hO7 hA23 hx12 rfl rfl (by rintro _ ⟨A15, c15, rfl, hl14, hA25⟩; exact ⟨A12, c12, rfl, hl11, hA20⟩) fun ch8 hO8 => ?_
              have hn8 := hn7.trans (length_setI data5 k2 x9).symm
              refine ⟨Kp [] 1 E, ?_⟩
              refine P_none (PL_f E ?_)
              obtain ⟨a13, cs12, hA26, hr12, _, hc20⟩ := Rds.getI (Own.rds (L := (ch8 :: L)) hO8 0 rfl) hx14
              obtain ⟨A16, c16, rfl, hl15, hA27⟩ := hr12
              refine O_read E (R_iaG E E E E E E ⟨(getI_lt hx14).1, lenN hn8 (getI_lt hx14).2.1⟩ hA26 ?_)
              refine ⟨Kp [] 1 E, ?_⟩
              refine P_some E (PL_f E (O_store (vs := [.int .i64 x10.tour.Vehicle, .slice A13 x10.tour.Stops.length c13, .int .i64 x10.cost]) E E E E E E ?_))
              rw [← Addr.add_zero' ((a13.add ((w64 (k2 - 1)).toNat * 3)))]
              refine Own.store (μ := μ) (r := r_insert_option) (x' := x10) (o := 0) (sz := 3) 0 rfl hO8 hA26 hx14 rfl rfl (by rintro _ ⟨A17, c17, rfl, hl16, hA28⟩; exact ⟨A13, c13, rfl, hl12, hA22⟩) fun ch9 hO9 => ?_
              have hn9 := hn8.trans (length_setI (setI data5 k2 x9) (w64 (k2 - 1)) x10).symm
              refine ⟨Kp [] 1 E, ?_⟩
              refine P_none (PL_nil (AN.done0 (by kernel_rfl) ?_))
              cases h13847
              exact Ce E ⟨_, ch9, rfl, fE E, sE [some 0] 1 E, (hn9), (hO9), rfl⟩
            refine FO_ E E (O_read E (R_loadA E E E E (Ex.mk [.int .i64 x10.tour.Vehicle, .slice A13 x10.tour.Stops.length c13, .int .i64 x10.cost] ⟨rfl, hc18⟩ ?_)))
            refine ⟨Kp [] 1 E, ?_⟩
            refine P_some E (AN.run (fuel := 0) (listed' := [true, true, true, true, true, true, true, true, true, true, true, true, true, true, true, true, true, true]) Tt_ok [(false, 9), (false, 14), (false, 15), (false, 16), (false, 17)] (by kernel_rfl) (by kernel_rfl) E (PL_f E (O_read E (R_loadA E E E E (Ex.mk [.int .i64 x9.tour.Vehicle, .slice A12 x9.tour.Stops.length c12, .int .i64 x9.cost] ⟨rfl, hc17⟩ ?_)))))
            refine ⟨Kp [] 1 E, ?_⟩
            refine P_some E (PL_f E ?_)
            obtain ⟨a12, cs11, hA23, hr11, _, hc19⟩ := Rds.getI (Own.rds (L := (ch7 :: L)) hO7 0 rfl) hx12
            obtain ⟨A14, c14, rfl, hl13, hA24⟩ := hr11
            refine O_read E (R_iaG E E E E E E ⟨(getI_lt hx12).1, lenN hn7 (getI_lt hx12).2.1⟩ hA23 ?_)
            refine ⟨Kp [] 1 E, ?_⟩
            refine P_some E (PL_f E (O_store (vs := [.int .i64 x9.tour.Vehicle, .slice A12 x9.tour.Stops.length c12, .int .i64 x9.cost]) E E E E E E ?_))
            rw [← Addr.add_zero' ((a12.add (k2.toNat * 3)))]
            refine Own.store (μ := μ) (r := r_insert_option) (x' := x9) (o := 0) (sz := 3) 0 rfl hO7 hA23 hx12 rfl rfl (by rintro _ ⟨A15, c15, rfl, hl14, hA25⟩; exact ⟨A12, c12, rfl, hl11, hA20⟩) fun ch8 hO8 => ?_
            have hn8 := hn7.trans (length_setI data5 k2 x9).symm
            refine ⟨Kp [] 1 E, ?_⟩
            refine P_none (PL_f E ?_)
            obtain ⟨a13, cs12, hA26, hr12, _, hc20⟩ := Rds.getI (Own.rds (L := (ch8 :: L)) hO8 0 rfl) hx14
            obtain ⟨A16, c16, rfl, hl15, hA27⟩ := hr12
            refine O_read E (R_iaG E E E E E E ⟨(getI_lt hx14).1, lenN hn8 (getI_lt hx14).2.1⟩ hA26 ?_)
            refine ⟨Kp [] 1 E, ?_⟩
            refine P_some E (PL_f E (O_store (vs := [.int .i64 x10.tour.Vehicle, .slice A13 x10.tour.Stops.length c13, .int .i64 x10.cost]) E E E E E E ?_))
            rw [← Addr.add_zero' ((a13.add ((w64 (k2 - 1)).toNat * 3)))]
            refine Own.store (μ := μ) (r := r_insert_option) (x' := x10) (o := 0) (sz := 3) 0 rfl hO8 hA26 hx14 rfl rfl (by rintro _ ⟨A17, c17, rfl, hl16, hA28⟩; exact ⟨A13, c13, rfl, hl12, hA22⟩) fun ch9 hO9 => ?_
            have hn9 := hn8.trans (length_setI (setI data5 k2 x9) (w64 (k2 - 1)) x10).symm
            refine ⟨Kp [] 1 E, ?_⟩
            refine P_none (PL_nil (AN.done0 (by kernel_rfl) ?_))
            cases h13847
            exact Ce E ⟨_, ch9, rfl, fE E, sE [some 0] 1 E, (hn9), (hO9), rfl⟩
          obtain ⟨x9, hx11, h13847⟩ := obind h13847
          obtain ⟨x10, hx12, h13847⟩ := obind h13847
          obtain ⟨x11, hx13, h13847⟩ := obind h13847
          obtain ⟨x12, hx14, h13847⟩ := obind h13847
          apply FO_; exact rfl; exact rfl
          obtain ⟨a11, cs10, hA21, hr10, _, hc18⟩ := Rds.getI (Own.rds (L := (ch7 :: L)) hO7 0 rfl) hx12
          obtain ⟨A13, c13, rfl, hl12, hA22⟩ := hr10
          refine O_read E (R_iaG E E E E E E ⟨(getI_lt hx12).1, lenN hn7 (getI_lt hx12).2.1⟩ hA21 ?_)
          refine ⟨Kp [] 1 E, ?_⟩
          apply P_some; exact rfl
          refine FK_2 Tt_ok (a := 8) (b := 13) (by kernel_rfl) ?_ ?_
          · apply FO_; exact rfl; exact rfl
            obtain ⟨a10, cs9, hA19, hr9, _, hc17⟩ := Rds.getI (Own.rds (L := (ch7 :: L)) hO7 0 rfl) hx11
            obtain ⟨A12, c12, rfl, hl11, hA20⟩ := hr9
            refine O_read E (R_iaG E E E E E E ⟨(getI_lt hx11).1, lenN hn7 (getI_lt hx11).2.1⟩ hA19 ?_)
            refine ⟨Kp [] 1 E, ?_⟩
            apply P_some; exact rfl
            refine FK_2 Tt_ok (a := 9) (b := 13) (by kernel_rfl) ?_ ?_
            · refine FO_ E E (O_read E (R_loadA E E E E (Ex.mk [.int .i64 x9.tour.Vehicle, .slice A12 x9.tour.Stops.length c12, .int .i64 x9.cost] ⟨rfl, hc17⟩ ?_)))
              refine ⟨Kp [] 1 E, ?_⟩
              refine P_some E (AN.run (fuel := 0) (listed' := [true, true, true, true, true, true, true, true, true, true, true, true, true, true, true, true, true, true]) Tt_ok [(false, 13), (false, 14), (false, 15), (false, 16), (false, 17)] (by kernel_rfl) (by kernel_rfl) E (PL_f E (O_read E (R_loadA E E E E (Ex.mk [.int .i64 x10.tour.Vehicle, .slice A13 x10.tour.Stops.length c13, .int .i64 x10.cost] ⟨rfl, hc18⟩ ?_)))))
              refine ⟨Kp [] 1 E, ?_⟩
              refine P_some E (PL_f E ?_)
              obtain ⟨a12, cs11, hA23, hr11, _, hc19⟩ := Rds.getI (Own.rds (L := (ch7 :: L)) hO7 0 rfl) hx12
              obtain ⟨A14, c14, rfl, hl13, hA24⟩ := hr11
              refine O_read E (R_iaG E E E E E E ⟨(getI_lt hx12).1, lenN hn7 (getI_lt hx12).2.1⟩ hA23 ?_)
              refine ⟨Kp [] 1 E, ?_⟩
              refine P_some E (PL_f E (O_store (vs := [.int .i64 x9.tour.Vehicle, .slice A12 x9.tour.Stops.length c12, .int .i64 x9.cost]) E E E E E E ?_))
              rw [← Addr.add_zero' ((a12.add (k2.toNat * 3)))]
              refine Own.store (μ := μ) (r := r_insert_option) (x' := x9) (o := 0) (sz := 3) 0 rfl hO7 hA23 hx12 rfl rfl (by rintro _ ⟨A15, c15, rfl, hl14, hA25⟩; exact ⟨A12, c12, rfl, hl11, hA20⟩) fun ch8 hO8 => ?_
              have hn8 := hn7.trans (length_setI data5 k2 x9).symm
              refine ⟨Kp [] 1 E, ?_⟩
              refine P_none (PL_f E ?_)
              obtain ⟨a13, cs12, hA26, hr12, _, hc20⟩ := Rds.getI (Own.rds (L := (ch8 :: L)) hO8 0 rfl) hx14
              obtain ⟨A16, c16, rfl, hl15, hA27⟩ := hr12
              refine O_read E (R_iaG E E E E E E ⟨(getI_lt hx14).1, lenN hn8 (getI_lt hx14).2.1⟩ hA26 ?_)
              refine ⟨Kp [] 1 E, ?_⟩
              refine P_some E (PL_f E (O_store (vs := [.int .i64 x10.tour.Vehicle, .slice A13 x10.tour.Stops.length c13, .int .i64 x10.cost]) E E E E E E ?_))
              rw [← Addr.add_zero' ((a13.add ((w64 (k2 - 1)).toNat * 3)))]
              refine Own.store (μ := μ) (r := r_insert_option) (x' := x10) (o := 0) (sz := 3) 0 rfl hO8 hA26 hx14 rfl rfl (by rintro _ ⟨A17, c17, rfl, hl16, hA28⟩; exact ⟨A13, c13, rfl, hl12, hA22⟩) fun ch9 hO9 => ?_
              have hn9 := hn8.trans (length_setI (setI data5 k2 x9) (w64 (k2 - 1)) x10).symm
              refine ⟨Kp [] 1 E, ?_⟩
              refine P_none (PL_nil (AN.done0 (by kernel_rfl) ?_))
              cases h13847
              exact Ce E ⟨_, ch9, rfl, fE E, sE [some 0] 1 E, (hn9), (hO9), rfl⟩
            refine FO_ E E (O_read E (R_loadA E E E E (Ex.mk [.int .i64 x10.tour.Vehicle, .slice A13 x10.tour.Stops.length c13, .int .i64 x10.cost] ⟨rfl, hc18⟩ ?_)))
            refine ⟨Kp [] 1 E, ?_⟩
            refine P_some E (AN.run (fuel := 0) (listed' := [true, true, true, true, true, true, true, true, true, true, true, true, true, true, true, true, true, true]) Tt_ok [(false, 9), (false, 14), (false, 15), (false, 16), (false, 17)] (by kernel_rfl) (by kernel_rfl) E (PL_f E (O_read E (R_loadA E E E E (Ex.mk [.int .i64 x9.tour.Vehicle, .slice A12 x9.tour.Stops.length c12, .int .i64 x9.cost] ⟨rfl, hc17⟩ ?_)))))
            refine ⟨Kp [] 1 E, ?_⟩
            refine P_some E (PL_f E ?_)
            obtain ⟨a12, cs11, hA23, hr11, _, hc19⟩ := Rds.getI (Own.rds (L := (ch7 :: L)) hO7 0 rfl) hx12
            obtain ⟨A14, c14, rfl, hl13, hA24⟩ := hr11
            refine O_read E (R_iaG E E E E E E ⟨(getI_lt hx12).1, lenN hn7 (getI_lt hx12).2.1⟩ hA23 ?_)
            refine ⟨Kp [] 1 E, ?_⟩
            refine P_some E (PL_f E (O_store (vs := [.int .i64 x9.tour.Vehicle, .slice A12 x9.tour.Stops.length c12, .int .i64 x9.cost]) E E E E E E ?_))
            rw [← Addr.add_zero' ((a12.add (k2.toNat * 3)))]
            refine Own.store (μ := μ) (r := r_insert_option) (x' := x9) (o := 0) (sz := 3) 0 rfl hO7 hA23 hx12 rfl rfl (by rintro _ ⟨A15, c15, rfl, hl14, hA25⟩; exact ⟨A12, c12, rfl, hl11, hA20⟩) fun ch8 hO8 => ?_
            have hn8 := hn7.trans (length_setI data5 k2 x9).symm
            refine ⟨Kp [] 1 E, ?_⟩
            refine P_none (PL_f E ?_)
            obtain ⟨a13, cs12, hA26, hr12, _, hc20⟩ := Rds.getI (Own.rds (L := (ch8 :: L)) hO8 0 rfl) hx14
            obtain ⟨A16, c16, rfl, hl15, hA27⟩ := hr12
            refine O_read E (R_iaG E E E E E E ⟨(getI_lt hx14).1, lenN hn8 (getI_lt hx14).2.1⟩ hA26 ?_)
            refine ⟨Kp [] 1 E, ?_⟩
            refine P_some E (PL_f E (O_store (vs := [.int .i64 x10.tour.Vehicle, .slice A13 x10.tour.Stops.length c13, .int .i64 x10.cost]) E E E E E E ?_))
            rw [← Addr.add_zero' ((a13.add ((w64 (k2 - 1)).toNat * 3)))]
            refine Own.store (μ := μ) (r := r_insert_option) (x' := x10) (o := 0) (sz := 3) 0 rfl hO8 hA26 hx14 rfl rfl (by rintro _ ⟨A17, c17, rfl, hl16, hA28⟩; exact ⟨A13, c13, rfl, hl12, hA22⟩) fun ch9 hO9 => ?_
            have hn9 := hn8.trans (length_setI (setI data5 k2 x9) (w64 (k2 - 1)) x10).symm
            refine ⟨Kp [] 1 E, ?_⟩
            refine P_none (PL_nil (AN.done0 (by kernel_rfl) ?_))
            cases h13847
            exact Ce E ⟨_, ch9, rfl, fE E, sE [some 0] 1 E, (hn9), (hO9), rfl⟩
          refine FO_ E E (O_read E (R_loadA E E E E (Ex.mk [.int .i64 x10.tour.Vehicle, .slice A13 x10.tour.Stops.length c13, .int .i64 x10.cost] ⟨rfl, hc18⟩ ?_)))
          refine ⟨Kp [] 1 E, ?_⟩
          refine P_some E (AN.run (fuel := 0) (listed' := [true, true, true, true, true, true, true, true, true, true, true, true, true, true, true, true, true, true]) Tt_ok [(false, 8), (false, 9), (false, 14), (false, 15), (false, 16), (false, 17)] (by kernel_rfl) (by kernel_rfl) E (PL_f E ?_))
          obtain ⟨a10, cs9, hA19, hr9, _, hc17⟩ := Rds.getI (Own.rds (L := (ch7 :: L)) hO7 0 rfl) hx11
          obtain ⟨A12, c12, rfl, hl11, hA20⟩ := hr9
          refine O_read E (R_iaG E E E E E E ⟨(getI_lt hx11).1, lenN hn7 (getI_lt hx11).2.1⟩ hA19 ?_)
          refine ⟨Kp [] 1 E, ?_⟩
          refine P_some E (PL_f E (O_read E (R_loadA E E E E (Ex.mk [.int .i64 x9.tour.Vehicle, .slice A12 x9.tour.Stops.length c12, .int .i64 x9.cost] ⟨rfl, hc17⟩ ?_))))
          refine ⟨Kp [] 1 E, ?_⟩
          refine P_some E (PL_f E ?_)
          obtain ⟨a12, cs11, hA23, hr11, _, hc19⟩ := Rds.getI (Own.rds (L := (ch7 :: L)) hO7 0 rfl) hx12
          obtain ⟨A14, c14, rfl, hl13, hA24⟩ := hr11
          refine O_read E (R_iaG E E E E E E ⟨(getI_lt hx12).1, lenN hn7 (getI_lt hx12).2.1⟩ hA23 ?_)
          refine ⟨Kp [] 1 E, ?_⟩
          refine P_some E (PL_f E (O_store (vs := [.int .i64 x9.tour.Vehicle, .slice A12 x9.tour.Stops.length c12, .int .i64 x9.cost]) E E E E E E ?_))
          rw [← Addr.add_zero' ((a12.add (k2.toNat * 3)))]
          refine Own.store (μ := μ) (r := r_insert_option) (x' := x9) (o := 0) (sz := 3) 0 rfl hO7 hA23 hx12 rfl rfl (by rintro _ ⟨A15, c15, rfl, hl14, hA25⟩; exact ⟨A12, c12, rfl, hl11, hA20⟩) fun ch8 hO8 => ?_
          have hn8 := hn7.trans (length_setI data5 k2 x9).symm
          refine ⟨Kp [] 1 E, ?_⟩
          refine P_none (PL_f E ?_)
          obtain ⟨a13, cs12, hA26, hr12, _, hc20⟩ := Rds.getI (Own.rds (L := (ch8 :: L)) hO8 0 rfl) hx14
          obtain ⟨A16, c16, rfl, hl15, hA27⟩ := hr12
          refine O_read E (R_iaG E E E E E E ⟨(getI_lt hx14).1, lenN hn8 (getI_lt hx14).2.1⟩ hA26 ?_)
          refine ⟨Kp [] 1 E, ?_⟩
          refine P_some E (PL_f E (O_store (vs := [.int .i64 x10.tour.Vehicle, .slice A13 x10.tour.Stops.length c13, .int .i64 x10.cost]) E E E E E E ?_))
          rw [← Addr.add_zero' ((a13.add ((w64 (k2 - 1)).toNat * 3)))]
          refine Own.store (μ := μ) (r := r_insert_option) (x' := x10) (o := 0) (sz := 3) 0 rfl hO8 hA26 hx14 rfl rfl (by rintro _ ⟨A17, c17, rfl, hl16, hA28⟩; exact ⟨A13, c13, rfl, hl12, hA22⟩) fun ch9 hO9 => ?_
          have hn9 := hn8.trans (length_setI (setI data5 k2 x9) (w64 (k2 - 1)) x10).symm
          refine ⟨Kp [] 1 E, ?_⟩
          refine P_none (PL_nil (AN.done0 (by kernel_rfl) ?_))
          cases h13847
          exact Ce E ⟨_, ch9, rfl, fE E, sE [some 0] 1 E, (hn9), (hO9), rfl⟩
        rintro _ _ _ _ hb13695 _ ⟨data6, ch10, rfl, hF13847, hS13847, hn10, hO10, rfl⟩
        refine Atn 1 hF13847 hS13847 E E (G0 6 E ?_)
        cases hb13695
        exact Ce E ⟨_, rfl, ch10, fE E, sE [some 0] 1 E, (hn10), (hO10), rfl⟩
      refine G2 2 [] [110] [] E ?_
      cases hb13695
      have hq_ := hq13695 _ E
      subst hq_
      exact Ce E ⟨_, ch7, rfl, fE E, sE [some 0] 1 E, (hn7), (hO7), rfl⟩
    rintro _ _ _ _ h _ ⟨data7, ch11, rfl, hF13341, hS13341, hn11, hO11, rfl⟩
    refine Atn 1 hF13341 hS13341 E E ?_
    cases h
    exact Rt [] E E (Ug [[0]] 1 (hR _ hO11 hn11))
  refine G2 8 [] [80] [] E (Rdo E E ?_)
  obtain ⟨_, hg3, h⟩ := obind h
  refine R_shrD E E E (guardO_some hg3) (Q0 22 E ?_)
  refine Cut h (fun f l o_ f_ μ_ l_ => ∃ (mid1 : Int) (n2 : Int) (start1 : Int) (r3 : Int), (mid1, n2, start1, r3) = o_ ∧ SubFr ((18, .int .i64 mid1) :: (19, .int .i64 n2) :: (20, .int .i64 start1) :: (21, .int .i64 r3) :: keepF [0, 1, 2, 3, 4] f) f_ ∧ SegSub l l_ ∧ μ = μ_) ?_ ?_
  · intro _ h14050 h
    refine Br h14050 140 E E (fun hc21 h14050 => ?_) (fun hc21 h14050 => ?_)
    · refine G2 12 [140] [] [] E ?_
      cases h14050
      exact Ce E ⟨_, _, _, _, rfl, fE E, sE [some 0] 1 E, rfl⟩
    refine G2 10 [] [140] [] E ?_
    cases h14050
    exact Ce E ⟨_, _, _, _, rfl, fE E, sE [some 0] 1 E, rfl⟩
  rintro _ _ _ _ h _ ⟨mid1, n2, start1, r3, rfl, hF14050, hS14050, rfl⟩
  replace h := oun_mk h
  replace h := oun_mk h
  replace h := oun_mk h
  refine Atn 1 hF14050 hS14050 E E (G0 7 E ?_)
  refine Cut h (fun f l o_ f_ μ_ l_ => ∃ (start3 : Int), start3 = o_ ∧ SubFr ((20, .int .i64 start3) :: keepF [0, 1, 2, 3, 4, 18, 19] f) f_ ∧ SegSub l l_ ∧ μ = μ_) ?_ ?_
  · intro _ h14051 h
    refine Lp h14051 (fun f l (j_ : Int × Int × Int) f_ μ_ l_ => ounP j_ fun start2 j_ => ounP j_ fun r4 p1 => SubFr ((20, .int .i64 start2) :: (21, .int .i64 r4) :: (22, .int .i64 p1) :: keepF [0, 1, 2, 3, 4, 18, 19] f) f_ ∧ SegSub l l_ ∧ μ = μ_) ⟨fE E, sE [some 0] 1 E, E⟩ ?_
    rintro ⟨start2, r4, p1⟩ _ _ _ _ _ ⟨hF14065, hS14065, rfl⟩ hb14065 hq14065
    unfold slices_symMergeCmpFunc_option_c85_l5 at hb14065
    replace hb14065 := oun_mk hb14065
    replace hb14065 := oun_mk hb14065
    refine Atn 1 hF14065 hS14065 E E (G0 7 E ?_)
    refine Br hb14065 151 E E (fun hc22 hb14065 => ?_) (fun hc22 hb14065 => ?_)
    · refine G2 9 [151] [] [] E (Rdo E E ?_)
      obtain ⟨_, hg4, hb14065⟩ := obind hb14065
      refine R_shrD E E E (guardO_some hg4) (Q0 4 E (Dr _ Kept.refl [(true, 0), (true, 1), (true, 2), (true, 3), (true, 4), (true, 5), (true, 6), (true, 7), (true, 8), (true, 9), (true, 10), (false, 11), (true, 12), (true, 13)] (by kernel_rfl) (G0 5 E (IxN hn1 hb14065 (Own.rds (L := (ch1 :: L)) hO1 0 E) E E fun _ _ _ _ hr13 hc23 _ hb14065 => ?_))))
      obtain ⟨_, _, rfl, hl17, hA30⟩ := hr13
      refine Q3 3 [] [] [64] (Z1 hc23) E (IxN hn1 hb14065 (Own.rds (L := (ch1 :: L)) hO1 0 E) E E fun _ _ _ _ hr14 hc24 _ hb14065 => ?_)
      obtain ⟨_, _, rfl, hl18, hA32⟩ := hr14
      refine Q3 1 [] [] [64] (Z1 hc24) E (Cl E ?_)
      obtain ⟨_, hx17, hb14065⟩ := obind hb14065
      refine insert_options_1_fn hl17 hA30 hl18 hA32 hx17 (?_)
      refine ⟨Kept.refl, ?_⟩
      refine Q0 3 E ?_
      refine Br hb14065 171 E E (fun hc25 hb14065 => ?_) (fun hc25 hb14065 => ?_)
      · refine G2 7 [171] [] [] E ?_
        cases hb14065
        exact Ce E ⟨_, rfl, fE E, sE [some 0] 1 E, rfl⟩
      refine G2 6 [] [171] [] E ?_
      cases hb14065
      exact Ce E ⟨_, rfl, fE E, sE [some 0] 1 E, rfl⟩
    refine G2 2 [] [151] [] E ?_
    cases hb14065
    have hq_ := hq14065 _ E
    subst hq_
    exact Ce E ⟨_, rfl, fE E, sE [some 0] 1 E, rfl⟩
  rintro _ _ _ _ h _ ⟨start3, rfl, hF14051, hS14051, rfl⟩
  refine Atn 1 hF14051 hS14051 E E (G0 9 E ?_)
  refine Cut h (fun f l o_ f_ μ_ l_ => ∃ (f_end1 : Int) (v1 : Bool), (f_end1, v1) = o_ ∧ SubFr ((24, .int .i64 f_end1) :: (185, .bool v1) :: keepF [0, 1, 2, 3, 4, 18, 20] f) f_ ∧ SegSub l l_ ∧ μ = μ_) ?_ ?_
  · intro _ h14078 h
    refine G0 5 E ?_
    refine Br h14078 181 E E (fun hc26 h14078 => ?_) (fun hc26 h14078 => ?_)
    · refine G2 5 [181] [] [] E ?_
      cases h14078
      exact Ce E ⟨_, _, rfl, fE E, sE [some 0] 1 E, rfl⟩
    refine G2 5 [] [181] [] E ?_
    cases h14078
    exact Ce E ⟨_, _, rfl, fE E, sE [some 0] 1 E, rfl⟩
  rintro _ _ _ _ h _ ⟨f_end1, v1, rfl, hF14078, hS14078, rfl⟩
  replace h := oun_mk h
  refine Atn 1 hF14078 hS14078 E E ?_
  refine Cut h (fun f l o_ f_ μ_ l_ => ∃ (data8 : (List T_insert_option)) (ch13 : Seg), data8 = o_ ∧ SubFr (keepF [0, 1, 3, 4, 18, 20, 24] f) f_ ∧ SegSub (ch13 :: selS [] 1 l) l_ ∧ data1.length = data8.length ∧ Own r_insert_option 96 μ_ (.slice A1 data1.length c1) data8 ch13 ∧ μ = μ_) ?_ ?_
  · intro _ h14079 h
    refine Br h14079 185 E E (fun hc27 h14079 => ?_) (fun hc27 h14079 => ?_)
    · refine G2 7 [185] [] [] E (Cl E ?_)
      obtain ⟨_, hx18, h14079⟩ := obind h14079
      refine slices_rotateCmpFunc_option_c85_fn hn1 hO1 hx18 (fun ch12 hO12 hn12 => Q0 1 E ?_)
      cases h14079
      exact Ce E ⟨_, ch12, rfl, fE E, sE [some 0] 1 E, (hn12), (hO12), rfl⟩
    refine G2 2 [] [185] [] E ?_
    cases h14079
    exact Ce E ⟨_, ch1, rfl, fE E, sE [some 0] 1 E, (hn1), (hO1), rfl⟩
  rintro _ _ _ _ h _ ⟨data8, ch13, rfl, hF14079, hS14079, hn13, hO13, rfl⟩
  refine Atn 1 hF14079 hS14079 E E (G0 2 E ?_)
  refine Cut h (fun f l o_ f_ μ_ l_ => ∃ (v2 : Bool), v2 = o_ ∧ SubFr ((199, .bool v2) :: keepF [0, 1, 3, 4, 18, 20, 24] f) f_ ∧ SegSub l l_ ∧ μ = μ_) ?_ ?_
  · intro _ h14082 h
    refine G0 5 E ?_
    refine Br h14082 195 E E (fun hc28 h14082 => ?_) (fun hc28 h14082 => ?_)
    · refine G2 5 [195] [] [] E ?_
      cases h14082
      exact Ce E ⟨_, rfl, fE E, sE [some 0] 1 E, rfl⟩
    refine G2 5 [] [195] [] E ?_
    cases h14082
    exact Ce E ⟨_, rfl, fE E, sE [some 0] 1 E, rfl⟩
  rintro _ _ _ _ h _ ⟨v2, rfl, hF14082, hS14082, rfl⟩
  refine Atn 1 hF14082 hS14082 E E ?_
  refine Cut h (fun f l o_ f_ μ_ l_ => ∃ (data9 : (List T_insert_option)) (ch15 : Seg), data9 = o_ ∧ SubFr (keepF [0, 3, 4, 18, 24] f) f_ ∧ SegSub (ch15 :: selS [] 1 l) l_ ∧ data1.length = data9.length ∧ Own r_insert_option 96 μ_ (.slice A1 data1.length c1) data9 ch15 ∧ μ = μ_) ?_ ?_
  · intro _ h14083 h
    refine Br h14083 199 E E (fun hc29 h14083 => ?_) (fun hc29 h14083 => ?_)
    · refine G2 7 [199] [] [] E (Cl E ?_)
      obtain ⟨_, hx19, h14083⟩ := obind h14083
      refine ih hn13 hO13 hx19 (fun ch14 hO14 hn14 => Q0 1 E ?_)
      cases h14083
      exact Ce E ⟨_, ch14, rfl, fE E, sE [some 0] 1 E, (hn14), (hO14), rfl⟩
    refine G2 2 [] [199] [] E ?_
    cases h14083
    exact Ce E ⟨_, ch13, rfl, fE E, sE [some 0] 1 E, (hn13), (hO13), rfl⟩
  rintro _ _ _ _ h _ ⟨data9, ch15, rfl, hF14083, hS14083, hn15, hO15, rfl⟩
  refine Atn 1 hF14083 hS14083 E E (G0 1 E ?_)
  refine Cut h (fun f l o_ f_ μ_ l_ => ∃ (v3 : Bool), v3 = o_ ∧ SubFr ((213, .bool v3) :: keepF [0, 3, 4, 18, 24] f) f_ ∧ SegSub l l_ ∧ μ = μ_) ?_ ?_
  · intro _ h14086 h
    refine G0 5 E ?_
    refine Br h14086 209 E E (fun hc30 h14086 => ?_) (fun hc30 h14086 => ?_)
    · refine G2 5 [209] [] [] E ?_
      cases h14086
      exact Ce E ⟨_, rfl, fE E, sE [some 0] 1 E, rfl⟩
    refine G2 5 [] [209] [] E ?_
    cases h14086
    exact Ce E ⟨_, rfl, fE E, sE [some 0] 1 E, rfl⟩
  rintro _ _ _ _ h _ ⟨v3, rfl, hF14086, hS14086, rfl⟩
  refine Atn 1 hF14086 hS14086 E E ?_
  refine Cut h (fun f l o_ f_ μ_ l_ => ∃ (data10 : (List T_insert_option)) (ch17 : Seg), data10 = o_ ∧ SubFr ([]) f_ ∧ SegSub (ch17 :: selS [] 1 l) l_ ∧ data1.length = data10.length ∧ Own r_insert_option 96 μ_ (.slice A1 data1.length c1) data10 ch17 ∧ μ = μ_) ?_ ?_
  · intro _ h14087 h
    refine Br h14087 213 E E (fun hc31 h14087 => ?_) (fun hc31 h14087 => ?_)
    · refine G2 7 [213] [] [] E (Cl E ?_)
      obtain ⟨_, hx20, h14087⟩ := obind h14087
      refine ih hn15 hO15 hx20 (fun ch16 hO16 hn16 => Q0 1 E ?_)
      cases h14087
      exact Ce E ⟨_, ch16, rfl, fE E, sE [some 0] 1 E, (hn16), (hO16), rfl⟩
    refine G2 2 [] [213] [] E ?_
    cases h14087
    exact Ce E ⟨_, ch15, rfl, fE E, sE [some 0] 1 E, (hn15), (hO15), rfl⟩
  rintro _ _ _ _ h _ ⟨data10, ch17, rfl, hF14087, hS14087, hn17, hO17, rfl⟩
  refine Atn 1 hF14087 hS14087 E E ?_
  cases h
  exact Rt [] E E (Ug [[0]] 1 (hR _ hO17 hn17))
theorem slices_stableCmpFunc_option_c85_fn {F : Nat} {data1 : (List T_insert_option)} {n2 : Int} {A1 : Option Addr} {c1 : Nat} {ch1 : Seg} {n1 : Nat} {res1 : (List T_insert_option)}
    (hn1 : n1 = data1.length) (hO1 : Own r_insert_option 96 μ (.slice A1 n1 c1) data1 ch1) (h : slices_stableCmpFunc_option_c85 F data1 n2 = some res1)
    (hR : ∀ (sp0 : Seg), Own r_insert_option 96 μ (.slice A1 n1 c1) res1 sp0 → n1 = res1.length → R (.tuple #[]) μ (sp0 :: L)) :
    Fn Tryz.prog 108 [.slice A1 n1 c1, .int .i64 n2, .func (.func 85) #[] #[]] μ (ch1 :: L) R := by
  unfold slices_stableCmpFunc_option_c85 at h
  subst hn1
  have hn1 : data1.length = data1.length := rfl
  refine FnS Tryz.func108 (by kernel_rfl) E Tryz.ntmps108 E E ?_
  refine G0 11 E ?_
  refine Cut h (fun f l o_ f_ μ_ l_ => ∃ (data3 : (List T_insert_option)) (a2 : Int) (ch4 : Seg), (data3, a2) = o_ ∧ SubFr ((7, .int .i64 a2) :: keepF [0, 1, 2, 6] f) f_ ∧ SegSub (ch4 :: selS [] 1 l) l_ ∧ data1.length = data3.length ∧ Own r_insert_option 96 μ_ (.slice A1 data1.length c1) data3 ch4 ∧ μ = μ_) ?_ ?_
  · intro _ h14112 h
    refine Lp h14112 (fun f l (j_ : (List T_insert_option) × Int × Int) f_ μ_ l_ => ounP j_ fun data2 j_ => ounP j_ fun a1 b1 => ∃ (ch2 : Seg), SubFr ((7, .int .i64 a1) :: (8, .int .i64 b1) :: keepF [0, 1, 2, 6] f) f_ ∧ SegSub (ch2 :: selS [] 1 l) l_ ∧ data1.length = data2.length ∧ Own r_insert_option 96 μ_ (.slice A1 data1.length c1) data2 ch2 ∧ μ = μ_) ⟨ch1, fE E, sE [some 0] 1 E, (hn1), (hO1), E⟩ ?_
    rintro ⟨data2, a1, b1⟩ _ _ _ _ _ ⟨ch2, hF14115, hS14115, hn2, hO2, rfl⟩ hb14115 hq14115
    unfold slices_stableCmpFunc_option_c85_l1 at hb14115
    replace hb14115 := oun_mk hb14115
    replace hb14115 := oun_mk hb14115
    refine Atn 1 hF14115 hS14115 E E (G0 7 E ?_)
    refine Br hb14115 13 E E (fun hc1 hb14115 => ?_) (fun hc1 hb14115 => ?_)
    · refine G2 9 [13] [] [] E (Cl E ?_)
      obtain ⟨_, hx1, hb14115⟩ := obind hb14115
      refine slices_insertionSortCmpFunc_option_c85_fn hn2 hO2 hx1 (fun ch3 hO3 hn3 => Q0 13 E ?_)
      cases hb14115
      exact Ce E ⟨_, rfl, ch3, fE E, sE [some 0] 1 E, (hn3), (hO3), rfl⟩
    refine G2 2 [] [13] [] E ?_
    cases hb14115
    have hq_ := hq14115 _ E
    subst hq_
    exact Ce E ⟨_, _, ch2, rfl, fE E, sE [some 0] 1 E, (hn2), (hO2), rfl⟩
  rintro _ _ _ _ h _ ⟨data3, a2, ch4, rfl, hF14112, hS14112, hn4, hO4, rfl⟩
  replace h := oun_mk h
  refine Atn 1 hF14112 hS14112 E E (G0 6 E (Cl E ?_))
  obtain ⟨_, hx2, h⟩ := obind h
  refine slices_insertionSortCmpFunc_option_c85_fn hn4 hO4 hx2 (fun ch5 hO5 hn5 => Q0 1 E ?_)
  refine Cut h (fun f l o_ f_ μ_ l_ => ∃ (data8 : (List T_insert_option)) (ch12 : Seg), data8 = o_ ∧ SubFr ([]) f_ ∧ SegSub (ch12 :: selS [] 1 l) l_ ∧ data1.length = data8.length ∧ Own r_insert_option 96 μ_ (.slice A1 data1.length c1) data8 ch12 ∧ μ = μ_) ?_ ?_
  · intro _ h14120 h
    refine Lp h14120 (fun f l (j_ : (List T_insert_option) × Int) f_ μ_ l_ => ounP j_ fun data4 blockSize1 => ∃ (ch6 : Seg), SubFr ((6, .int .i64 blockSize1) :: keepF [0, 1, 2] f) f_ ∧ SegSub (ch6 :: selS [] 1 l) l_ ∧ data1.length = data4.length ∧ Own r_insert_option 96 μ_ (.slice A1 data1.length c1) data4 ch6 ∧ μ = μ_) ⟨ch5, fE E, sE [some 0] 1 E, (hn5), (hO5), E⟩ ?_
    rintro ⟨data4, blockSize1⟩ _ _ _ _ _ ⟨ch6, hF14132, hS14132, hn6, hO6, rfl⟩ hb14132 hq14132
    unfold slices_stableCmpFunc_option_c85_l3 at hb14132
    replace hb14132 := oun_mk hb14132
    refine Atn 1 hF14132 hS14132 E E (G0 7 E ?_)
    refine Br hb14132 30 E E (fun hc2 hb14132 => ?_) (fun hc2 hb14132 => ?_)
    · refine G2 11 [30] [] [] E ?_
      refine Cut hb14132 (fun f l o_ f_ μ_ l_ => ∃ (data6 : (List T_insert_option)) (a4 : Int) (ch9 : Seg), (data6, a4) = o_ ∧ SubFr ((7, .int .i64 a4) :: keepF [0, 1, 2, 6] f) f_ ∧ SegSub (ch9 :: selS [] 1 l) l_ ∧ data1.length = data6.length ∧ Own r_insert_option 96 μ_ (.slice A1 data1.length c1) data6 ch9 ∧ μ = μ_) ?_ ?_
      · intro _ h14134 hb14132
        refine Lp h14134 (fun f l (j_ : (List T_insert_option) × Int × Int) f_ μ_ l_ => ounP j_ fun data5 j_ => ounP j_ fun a3 b2 => ∃ (ch7 : Seg), SubFr ((7, .int .i64 a3) :: (8, .int .i64 b2) :: keepF [0, 1, 2, 6] f) f_ ∧ SegSub (ch7 :: selS [] 1 l) l_ ∧ data1.length = data5.length ∧ Own r_insert_option 96 μ_ (.slice A1 data1.length c1) data5 ch7 ∧ μ = μ_) ⟨ch6, fE E, sE [some 0] 1 E, (hn6), (hO6), E⟩ ?_
        rintro ⟨data5, a3, b2⟩ _ _ _ _ _ ⟨ch7, hF14137, hS14137, hn7, hO7, rfl⟩ hb14137 hq14137
        unfold slices_stableCmpFunc_option_c85_l2 at hb14137
        replace hb14137 := oun_mk hb14137
        replace hb14137 := oun_mk hb14137
        refine Atn 1 hF14137 hS14137 E E (G0 7 E ?_)
        refine Br hb14137 35 E E (fun hc3 hb14137 => ?_) (fun hc3 hb14137 => ?_)
        · refine G2 12 [35] [] [] E (Cl E ?_)
          obtain ⟨_, hx3, hb14137⟩ := obind hb14137
          refine slices_symMergeCmpFunc_option_c85_fn hn7 hO7 hx3 (fun ch8 hO8 hn8 => Q0 14 E ?_)
          cases hb14137
          exact Ce E ⟨_, rfl, ch8, fE E, sE [some 0] 1 E, (hn8), (hO8), rfl⟩
        refine G2 2 [] [35] [] E ?_
        cases hb14137
        have hq_ := hq14137 _ E
        subst hq_
        exact Ce E ⟨_, _, ch7, rfl, fE E, sE [some 0] 1 E, (hn7), (hO7), rfl⟩
      rintro _ _ _ _ hb14132 _ ⟨data6, a4, ch9, rfl, hF14134, hS14134, hn9, hO9, rfl⟩
      replace hb14132 := oun_mk hb14132
      refine Atn 1 hF14134 hS14134 E E (G0 14 E ?_)
      refine Cut hb14132 (fun f l o_ f_ μ_ l_ => ∃ (data7 : (List T_insert_option)) (ch11 : Seg), data7 = o_ ∧ SubFr (keepF [0, 1, 2, 6] f) f_ ∧ SegSub (ch11 :: selS [] 1 l) l_ ∧ data1.length = data7.length ∧ Own r_insert_option 96 μ_ (.slice A1 data1.length c1) data7 ch11 ∧ μ = μ_) ?_ ?_
      · intro _ h14141 hb14132
        refine Br h14141 54 E E (fun hc4 h14141 => ?_) (fun hc4 h14141 => ?_)
        · refine G2 7 [54] [] [] E (Cl E ?_)
          obtain ⟨_, hx4, h14141⟩ := obind h14141
          refine slices_symMergeCmpFunc_option_c85_fn hn9 hO9 hx4 (fun ch10 hO10 hn10 => Q0 1 E ?_)
          cases h14141
          exact Ce E ⟨_, ch10, rfl, fE E, sE [some 0] 1 E, (hn10), (hO10), rfl⟩
        refine G2 2 [] [54] [] E ?_
        cases h14141
        exact Ce E ⟨_, ch9, rfl, fE E, sE [some 0] 1 E, (hn9), (hO9), rfl⟩
      rintro _ _ _ _ hb14132 _ ⟨data7, ch11, rfl, hF14141, hS14141, hn11, hO11, rfl⟩
      refine Atn 1 hF14141 hS14141 E E (G0 6 E ?_)
      cases hb14132
      exact Ce E ⟨_, rfl, ch11, fE E, sE [some 0] 1 E, (hn11), (hO11), rfl⟩
    refine G2 2 [] [30] [] E ?_
    cases hb14132
    have hq_ := hq14132 _ E
    subst hq_
    exact Ce E ⟨_, ch6, rfl, fE E, sE [some 0] 1 E, (hn6), (hO6), rfl⟩
  rintro _ _ _ _ h _ ⟨data8, ch12, rfl, hF14120, hS14120, hn12, hO12, rfl⟩
  refine Atn 1 hF14120 hS14120 E E ?_
  cases h
  exact Rt [] E E (Ug [[0]] 1 (hR _ hO12 hn12))
theorem slices_SortStableFunc_option_c85_fn {F : Nat} {x1 : (List T_insert_option)} {A1 : Option Addr} {c1 : Nat} {ch1 : Seg} {n1 : Nat} {res1 : (List T_insert_option)}
    (hn1 : n1 = x1.length) (hO1 : Own r_insert_option 96 μ (.slice A1 n1 c1) x1 ch1) (h : slices_SortStableFunc_option_c85 F x1 = some res1)
    (hR : ∀ (sp0 : Seg), Own r_insert_option 96 μ (.slice A1 n1 c1) res1 sp0 → n1 = res1.length → R (.tuple #[]) μ (sp0 :: L)) :
    Fn Tryz.prog 84 [.slice A1 n1 c1, .func (.func 85) #[] #[]] μ (ch1 :: L) R := by
  unfold slices_SortStableFunc_option_c85 at h
  subst hn1
  have hn1 : x1.length = x1.length := rfl
  refine FnS Tryz.func84 (by kernel_rfl) E Tryz.ntmps84 E E ?_
  refine G0 5 E (Cl E ?_)
  obtain ⟨_, hx1, h⟩ := obind h
  refine slices_stableCmpFunc_option_c85_fn hn1 hO1 hx1 (fun _ hO2 hn2 => Q0 1 E ?_)
  cases h
  exact Rt [] E E (Ug [[0]] 1 (hR _ hO2 hn2))
theorem insert_options_fn {F : Nat} {p1 : T_api_Problem} {t1 : T_api_Tour} {d1 : Int} {A1 : Option Addr} {c1 : Nat} {A2 : Option Addr} {c2 : Nat} {A3 : Option Addr} {c3 : Nat} {A4 : Option Addr} {c4 : Nat} {res1 : (List T_insert_option)} {res2 : Int}
    (hl1 : p1.Road.Edges.length ≤ c1 ∧ c1 ≤ maxLen) (hA1 : ArrR r_api_Edge μ A1 p1.Road.Edges) (hl2 : p1.Vehicles.length ≤ c2 ∧ c2 ≤ maxLen) (hA2 : ArrR r_api_Vehicle μ A2 p1.Vehicles) (hl3 : p1.Demands.length ≤ c3 ∧ c3 ≤ maxLen) (hA3 : ArrR r_api_Demand μ A3 p1.Demands) (hl4 : t1.Stops.length ≤ c4 ∧ c4 ≤ maxLen) (hA4 : ArrR rInt μ A4 t1.Stops) (h : insert_options F p1 t1 d1 = some (res1, res2))
    (hR : ∀ (μ' : Gh) (A0 : Option Addr) (c0 : Nat) (ch0 : Seg), μ.le μ' → Own r_insert_option 96 μ' (.slice A0 res1.length c0) res1 ch0 → R (.tuple #[.slice A0 res1.length c0, .int .i64 res2]) μ' (ch0 :: L)) :
    Fn Tryz.prog 53 [.agg #[.int .i64 p1.Road.Nodes, .slice A1 p1.Road.Edges.length c1, .slice A2 p1.Vehicles.length c2, .slice A3 p1.Demands.length c3, .int .i64 p1.Unload, .int .i64 p1.UnloadSecs], .agg #[.int .i64 t1.Vehicle, .slice A4 t1.Stops.length c4], .int .i64 d1] μ (L) R := by
  unfold insert_options at h
  refine FnS Tryz.func53 (by kernel_rfl) E Tryz.ntmps53 E E ?_
  refine G0 2 E (Al E fun g1 => Q0 0 E (Al E fun _ => Q1 7 [1] E (Cl E ?_)))
  obtain ⟨_, hx1, h⟩ := obind h
  refine tour_Check_fn hl1 hA1 hl2 hA2 hl3 hA3 hx1 (fun _ hm_1 => ?_)
  replace hA1 := hA1.mono hm_1
  replace hA2 := hA2.mono hm_1
  replace hA3 := hA3.mono hm_1
  replace hA4 := hA4.mono hm_1
  refine Q0 7 E ?_
  refine Br h 17 E E (fun hc1 h => ?_) (fun hc1 h => ?_)
  · refine G2 7 [17] [] [] E ?_
    cases h
    exact Rt [] E E (Ug [[]] 2 (hR _ none 0 [] hm_1 Own.nil))
  refine G2 4 [] [17] [] E ?_
  refine Cut h (fun f l o_ f_ μ_ l_ => ∃ (v2 : Bool), v2 = o_ ∧ SubFr ((40, .bool v2) :: keepF [2, 3, 4] f) f_ ∧ SegSub (selS [some 1, some 0] 2 l) l_) ?_ ?_
  · intro _ h14161 h
    refine G1 5 [0] E ?_
    refine Br h14161 22 E E (fun hc2 h14161 => ?_) (fun hc2 h14161 => ?_)
    · refine G2 19 [22, 30, 34] [] [] E ?_
      cases h14161
      exact Ce E ⟨_, rfl, fE E, sE [some 1, some 0] 2 E⟩
    refine G2 8 [] [22] [0, 1] E ?_
    refine Br h14161 30 E E (fun hc3 h14161 => ?_) (fun hc3 h14161 => ?_)
    · refine G2 11 [30, 34] [] [] E ?_
      cases h14161
      exact Ce E ⟨_, rfl, fE E, sE [some 1, some 0] 2 E⟩
    refine G2 4 [] [30] [] E ?_
    refine Br h14161 34 E E (fun hc4 h14161 => ?_) (fun hc4 h14161 => ?_)
    · refine G2 7 [34] [] [] E ?_
      cases h14161
      exact Ce E ⟨_, rfl, fE E, sE [some 1, some 0] 2 E⟩
    refine G2 7 [] [34] [1] E ?_
    cases h14161
    exact Ce E ⟨_, rfl, fE E, sE [some 1, some 0] 2 E⟩
  rintro _ _ _ _ h hm14161 ⟨v2, rfl, hF14161, hS14161⟩
  replace hA1 := hA1.mono hm14161
  replace hA2 := hA2.mono hm14161
  replace hA3 := hA3.mono hm14161
  replace hA4 := hA4.mono hm14161
  refine Atn 2 hF14161 hS14161 E E ?_
  refine Br h 40 E E (fun hc5 h => ?_) (fun hc5 h => ?_)
  · refine G2 6 [40] [] [] E ?_
    cases h
    exact Rt [] E E (Ug [[]] 2 (hR _ none 0 [] (hm_1.trans hm14161) Own.nil))
  refine G2 8 [] [40] [1] E (Cl E ?_)
  obtain ⟨_, hx2, h⟩ := obind h
  refine slices_Contains_int_fn hl4 (ArrR.rds hA4 _) hx2 ((Q0 1 E ?_))
  refine Br h 44 E E (fun hc6 h => ?_) (fun hc6 h => ?_)
  · refine G2 6 [44] [] [] E ?_
    cases h
    exact Rt [] E E (Ug [[]] 2 (hR _ none 0 [] (hm_1.trans hm14161) Own.nil))
  refine G2 14 [] [44] [1] E ?_
  refine Br h 48 E E (fun hc7 h => ?_) (fun hc7 h => ?_)
  · refine G2 6 [48] [] [] E ?_
    cases h
    exact Rt [] E E (Ug [[]] 2 (hR _ none 0 [] (hm_1.trans hm14161) Own.nil))
  refine G2 7 [] [48] [1] E (Cl E ?_)
  obtain ⟨_, hx3, h⟩ := obind h
  refine insert_candidates_fn hl4 hA4 hx3 (fun _ _ _ _ hm_2 hO1 => ?_)
  replace hA1 := hA1.mono hm_2
  replace hA2 := hA2.mono hm_2
  replace hA3 := hA3.mono hm_2
  refine Q0 3 E ?_
  refine Cut h (fun f l o_ f_ μ_ l_ => ∃ (out3 : (List T_insert_option)) (A10 : Option Addr) (c10 : Nat) (ch5 : Seg), out3 = o_ ∧ SubFr ((9, .slice A10 out3.length c10) :: []) f_ ∧ SegSub (ch5 :: selS [] 3 l) l_ ∧ Own r_insert_option 96 μ_ (.slice A10 out3.length c10) out3 ch5) ?_ ?_
  · intro _ h14175 h
    refine Lp h14175 (fun f l (j_ : (List T_insert_option) × Int) f_ μ_ l_ => ounP j_ fun out1 v4 => ∃ (A6 : Option Addr) (c6 : Nat) (ch2 : Seg), SubFr ((9, .slice A6 out1.length c6) :: (53, .int .i64 v4) :: keepF [3, 51, 52] f) f_ ∧ SegSub ([(g1, .cells #[.int .i64 p1.Road.Nodes, .slice A1 p1.Road.Edges.length c1, .slice A2 p1.Vehicles.length c2, .slice A3 p1.Demands.length c3, .int .i64 p1.Unload, .int .i64 p1.UnloadSecs] 28 (0, 0))] :: ch2 :: selS [some 0] 3 l) l_ ∧ Own r_insert_option 96 μ_ (.slice A6 out1.length c6) out1 ch2) ⟨none, 0, [], fE E, sE [some 1, none, some 0] 3 E, (Own.nil)⟩ ?_
    rintro ⟨out1, v4⟩ _ _ _ _ hm14194 ⟨A6, c6, ch2, hF14194, hS14194, hO2⟩ hb14194 hq14194
    unfold insert_options_l1 at hb14194
    replace hb14194 := oun_mk hb14194
    replace hA1 := hA1.mono hm14194
    replace hA2 := hA2.mono hm14194
    replace hA3 := hA3.mono hm14194
    replace hO1 := hO1.mono hm14194
    refine Atn 3 hF14194 hS14194 E E (G0 5 E ?_)
    refine Br hb14194 54 E E (fun hc8 hb14194 => ?_) (fun hc8 hb14194 => ?_)
    · refine G2 3 [54] [] [] E ?_
      refine Cut hb14194 (fun f l o_ f_ μ_ l_ => ∃ (out2 : (List T_insert_option)) (A9 : Option Addr) (c9 : Nat) (ch4 : Seg), out2 = o_ ∧ SubFr ((9, .slice A9 out2.length c9) :: keepF [3, 51, 52, 53] f) f_ ∧ SegSub ([(g1, .cells #[.int .i64 p1.Road.Nodes, .slice A1 p1.Road.Edges.length c1, .slice A2 p1.Vehicles.length c2, .slice A3 p1.Demands.length c3, .int .i64 p1.Unload, .int .i64 p1.UnloadSecs] 28 (0, 0))] :: ch4 :: selS [] 2 l) l_ ∧ Own r_insert_option 96 μ_ (.slice A9 out2.length c9) out2 ch4) ?_ ?_
      · intro _ h14201 hb14194
        refine G0 3 E (IxA h14201 (Own.rds hO1 2 E) E E fun x1 _ _ _ hr1 hc9 _ h14201 => ?_)
        obtain ⟨A7, c7, rfl, hl5, hA6⟩ := hr1
        refine Q3 1 [] [] [64] (Z1 hc9) E (Al E fun _ => Q1 6 [0, 1, 0] E (Cl E ?_))
        obtain ⟨⟨r4, _⟩, hx5, h14201⟩ := obind h14201
        replace h14201 := oun_mk h14201
        refine tour_Cost_fn hl1 hA1 hl2 hA2 hl3 hA3 hl5 hA6 hx5 (fun _ hm_3 => ?_)
        replace hO2 := hO2.mono hm_3
        replace hA6 := hA6.mono hm_3
        refine Q0 11 E ?_
        refine Br h14201 64 E E (fun hc10 h14201 => ?_) (fun hc10 h14201 => ?_)
        · refine G2 6 [64] [] [0] E (So E (O_bsl (z := [.int .i64 0, .slice none 0 0, .int .i64 0]) E E E E E E E (F_cons (cells' := [.int .i64 x1.Vehicle, .slice A7 x1.Stops.length c7, .int .i64 r4]) E E E E (F_nil (fun g4 => Q0 0 E (So E (O_append E ?_)))))))
          obtain ⟨_, hz1, h14201⟩ := obind h14201
          refine sem_appR (r := r_insert_option) Tt_ok E E E E (by decide) E E 3 E hO2 E (Own.rds (Own.lit (r := r_insert_option) (e := 96) (g := g4) (xs := [(T_insert_option.mk x1 r4)]) (cs := [.int .i64 x1.Vehicle, .slice A7 x1.Stops.length c7, .int .i64 r4]) (css := [[.int .i64 x1.Vehicle, .slice A7 x1.Stops.length c7, .int .i64 r4]]) E (All2.cons (⟨A7, c7, E, hl5, hA6⟩) (All2.nil)) E E) 0 E) hz1 fun A8 c8 ch3 hO3 => Q0 3 E ?_
          cases h14201
          exact Ce E ⟨_, A8, c8, ch3, rfl, fE E, sE [some 2, some 3, some 4] 5 E, (hO3)⟩
        refine G2 3 [] [64] [] E ?_
        cases h14201
        exact Ce E ⟨_, A6, c6, ch2, rfl, fE E, sE [some 1, some 2, some 3] 4 E, (hO2)⟩
      rintro _ _ _ _ hb14194 hm14201 ⟨out2, A9, c9, ch4, rfl, hF14201, hS14201, hO4⟩
      replace hO2 := hO2.mono hm14201
      refine Atn 3 hF14201 hS14201 E E (G0 4 E ?_)
      cases hb14194
      exact Ce E ⟨_, rfl, A9, c9, ch4, fE E, sE [some 0, some 1, some 2] 3 E, (hO4)⟩
    refine G2 2 [] [54] [] E ?_
    cases hb14194
    have hq_ := hq14194 _ E
    subst hq_
    exact Ce E ⟨_, A6, c6, ch2, rfl, fE E, sE [some 1] 3 E, (hO2)⟩
  rintro _ _ _ _ h hm14175 ⟨out3, A10, c10, ch5, rfl, hF14175, hS14175, hO5⟩
  refine Atn 1 hF14175 hS14175 E E (G0 3 E (Cl E ?_))
  obtain ⟨_, hx6, h⟩ := obind h
  refine slices_SortStableFunc_option_c85_fn E hO5 hx6 (fun ch6 hO6 hn1 => ?_)
  rw [hn1] at hO6 ⊢
  refine Q0 7 E ?_
  cases h
  exact Rt [] E E (Ug [[0]] 1 (hR _ A10 c10 ch6 (hm_1.trans (hm14161.trans (hm_2.trans hm14175))) hO6))
theorem insert_Build_fn {F : Nat} {p1 : T_api_Problem} {A1 : Option Addr} {c1 : Nat} {A2 : Option Addr} {c2 : Nat} {A3 : Option Addr} {c3 : Nat} {res1 : T_api_Plan} {res2 : Int}
    (hl1 : p1.Road.Edges.length ≤ c1 ∧ c1 ≤ maxLen) (hA1 : ArrR r_api_Edge μ A1 p1.Road.Edges) (hl2 : p1.Vehicles.length ≤ c2 ∧ c2 ≤ maxLen) (hA2 : ArrR r_api_Vehicle μ A2 p1.Vehicles) (hl3 : p1.Demands.length ≤ c3 ∧ c3 ≤ maxLen) (hA3 : ArrR r_api_Demand μ A3 p1.Demands) (h : insert_Build F p1 = some (res1, res2))
    (hR : ∀ (μ' : Gh) (A0_0 : Option Addr) (c0_0 : Nat) (A0_1 : Option Addr) (c0_1 : Nat), μ.le μ' → (res1.Tours.length ≤ c0_0 ∧ c0_0 ≤ maxLen) → ArrR r_api_Tour μ' A0_0 res1.Tours → (res1.Left.length ≤ c0_1 ∧ c0_1 ≤ maxLen) → ArrR rInt μ' A0_1 res1.Left → R (.tuple #[.agg #[.slice A0_0 res1.Tours.length c0_0, .slice A0_1 res1.Left.length c0_1], .int .i64 res2]) μ' (L)) :
    Fn Tryz.prog 30 [.agg #[.int .i64 p1.Road.Nodes, .slice A1 p1.Road.Edges.length c1, .slice A2 p1.Vehicles.length c2, .slice A3 p1.Demands.length c3, .int .i64 p1.Unload, .int .i64 p1.UnloadSecs]] μ (L) R := by
  unfold insert_Build at h
  refine FnS Tryz.func30 (by kernel_rfl) E Tryz.ntmps30 E E ?_
  refine G0 2 E (Al E fun g1 => Q0 0 E (Al E fun g2 => Q1 6 [1] E (Cl E ?_)))
  obtain ⟨_, hx1, h⟩ := obind h
  refine tour_Check_fn hl1 hA1 hl2 hA2 hl3 hA3 hx1 (fun _ hm_1 => ?_)
  replace hA1 := hA1.mono hm_1
  replace hA2 := hA2.mono hm_1
  replace hA3 := hA3.mono hm_1
  refine Q0 7 E ?_
  refine Br h 20 E E (fun hc1 h => ?_) (fun hc1 h => ?_)
  · refine G2 8 [20] [] [0] E ?_
    cases h
    exact Rt [0] E E (Ug [] 2 (hR _ none 0 none 0 hm_1 ⟨Nat.le_refl _, Nat.zero_le _⟩ ArrR.nil ⟨Nat.le_refl _, Nat.zero_le _⟩ ArrR.nil))
  refine G2 7 [] [20] [1] E (So E (O_mksl E E ?_))
  obtain ⟨_, hn1, h⟩ := obind h
  refine sem_mkO (r := r_insert_option) (z := (T_insert_option.mk (T_api_Tour.mk 0 []) 0)) (zc := [.int .i64 0, .slice none 0 0, .int .i64 0]) Tt_ok E E E E E (⟨none, 0, E, ⟨Nat.le_refl _, Nat.zero_le _⟩, ArrR.nil⟩) E hn1 fun A4 c4 ch1 hO1 => Q0 9 E ?_
  refine Cut h (fun f l o_ f_ μ_ l_ => ∃ (tours2 : (List T_insert_option)) (A8 : Option Addr) (c8 : Nat) (ch4 : Seg), tours2 = o_ ∧ SubFr ((5, .slice A8 tours2.length c8) :: keepF [1, 2] f) f_ ∧ SegSub ([(g1, .cells #[.int .i64 p1.Road.Nodes, .slice A1 p1.Road.Edges.length c1, .slice A2 p1.Vehicles.length c2, .slice A3 p1.Demands.length c3, .int .i64 p1.Unload, .int .i64 p1.UnloadSecs] 28 (0, 0))] :: [(g2, .cells #[.slice none 0 0, .slice none 0 0] 33 (0, 0))] :: ch4 :: selS [] 3 l) l_ ∧ Own r_insert_option 96 μ_ (.slice A8 tours2.length c8) tours2 ch4) ?_ ?_
  · intro _ h14566 h
    refine Lp h14566 (fun f l (j_ : (List T_insert_option) × Int) f_ μ_ l_ => ounP j_ fun tours1 v2 => ∃ (A5 : Option Addr) (c5 : Nat) (ch2 : Seg), SubFr ((5, .slice A5 tours1.length c5) :: (29, .int .i64 v2) :: keepF [1, 2, 28] f) f_ ∧ SegSub ([(g1, .cells #[.int .i64 p1.Road.Nodes, .slice A1 p1.Road.Edges.length c1, .slice A2 p1.Vehicles.length c2, .slice A3 p1.Demands.length c3, .int .i64 p1.Unload, .int .i64 p1.UnloadSecs] 28 (0, 0))] :: [(g2, .cells #[.slice none 0 0, .slice none 0 0] 33 (0, 0))] :: ch2 :: selS [] 3 l) l_ ∧ Own r_insert_option 96 μ_ (.slice A5 tours1.length c5) tours1 ch2) ⟨A4, c4, ch1, fE E, sE [some 2, some 1, some 0] 3 E, (hO1)⟩ ?_
    rintro ⟨tours1, v2⟩ _ _ μ14579 _ hm14579 ⟨A5, c5, ch2, hF14579, hS14579, hO2⟩ hb14579 hq14579
    unfold insert_Build_l1 at hb14579
    replace hb14579 := oun_mk hb14579
    replace hA1 := hA1.mono hm14579
    replace hA2 := hA2.mono hm14579
    replace hA3 := hA3.mono hm14579
    refine Atn 3 hF14579 hS14579 E E (G0 5 E ?_)
    refine Br hb14579 30 E E (fun hc2 hb14579 => ?_) (fun hc2 hb14579 => ?_)
    · refine G2 13 [30] [] [] E (IxA hb14579 (Own.rds hO2 2 E) E E fun x1 a1 _ hx2 hr1 _ hA4 hb14579 => ?_)
      obtain ⟨_, _, rfl, _, _⟩ := hr1
      refine Q0 2 E (So E (O_store (vs := [.int .i64 v2]) E E E E E E ?_))
      rw [← Addr.add_zero' ((a1.add (v2.toNat * 3)))]
      refine Own.store (μ := μ14579) (r := r_insert_option) (x' := (T_insert_option.mk (T_api_Tour.mk v2 x1.tour.Stops) x1.cost)) (o := 0) (sz := 3) 2 rfl hO2 hA4 hx2 rfl rfl (by rintro _ ⟨A7, c7, rfl, hl5, hA6⟩; exact ⟨A7, c7, rfl, hl5, hA6⟩) fun ch3 hO3 => ?_
      rw [← length_setI tours1 v2 (T_insert_option.mk (T_api_Tour.mk v2 x1.tour.Stops) x1.cost)] at hO3 ⊢
      refine Q0 6 E ?_
      cases hb14579
      exact Ce E ⟨_, rfl, A5, c5, ch3, fE E, sE [some 0, some 1, some 2] 3 E, (hO3)⟩
    refine G2 2 [] [30] [] E ?_
    cases hb14579
    have hq_ := hq14579 _ E
    subst hq_
    exact Ce E ⟨_, A5, c5, ch2, rfl, fE E, sE [some 0, some 1, some 2] 3 E, (hO2)⟩
  rintro _ _ _ _ h hm14566 ⟨tours2, A8, c8, ch4, rfl, hF14566, hS14566, hO4⟩
  replace hA1 := hA1.mono hm14566
  replace hA2 := hA2.mono hm14566
  replace hA3 := hA3.mono hm14566
  refine Atn 3 hF14566 hS14566 E E (G0 2 E (Al E fun g3 => Q1 9 [1] E ?_))
  refine Cut h (fun f l o_ f_ μ_ l_ => ∃ (tours5 : (List T_insert_option)) (f12 : (List Int)) (A24 : Option Addr) (c24 : Nat) (ch12 : Seg) (A25 : Option Addr) (c25 : Nat) (ch13 : Seg), (tours5, f12) = o_ ∧ SubFr ((5, .slice A24 tours5.length c24) :: keepF [2, 7] f) f_ ∧ SegSub ([(g2, .cells #[.slice none 0 0, .slice none 0 0] 33 (0, 0))] :: ch12 :: [(g3, .cells #[.slice none 0 0, .slice A25 f12.length c25] 33 (0, 0))] :: ch13 :: selS [] 4 l) l_ ∧ Own r_insert_option 96 μ_ (.slice A24 tours5.length c24) tours5 ch12 ∧ Own rInt 3 μ_ (.slice A25 f12.length c25) f12 ch13) ?_ ?_
  · intro _ h14600 h
    refine Lp h14600 (fun f l (j_ : (List T_insert_option) × (List Int) × Int) f_ μ_ l_ => ounP j_ fun tours3 j_ => ounP j_ fun f1 v3 => ∃ (A9 : Option Addr) (c9 : Nat) (ch5 : Seg) (A10 : Option Addr) (c10 : Nat) (ch6 : Seg), SubFr ((5, .slice A9 tours3.length c9) :: (42, .int .i64 v3) :: keepF [1, 2, 7, 41] f) f_ ∧ SegSub ([(g1, .cells #[.int .i64 p1.Road.Nodes, .slice A1 p1.Road.Edges.length c1, .slice A2 p1.Vehicles.length c2, .slice A3 p1.Demands.length c3, .int .i64 p1.Unload, .int .i64 p1.UnloadSecs] 28 (0, 0))] :: [(g2, .cells #[.slice none 0 0, .slice none 0 0] 33 (0, 0))] :: ch5 :: [(g3, .cells #[.slice none 0 0, .slice A10 f1.length c10] 33 (0, 0))] :: ch6 :: selS [] 4 l) l_ ∧ Own r_insert_option 96 μ_ (.slice A9 tours3.length c9) tours3 ch5 ∧ Own rInt 3 μ_ (.slice A10 f1.length c10) f1 ch6) ⟨A8, c8, ch4, none, 0, [], fE E, sE [some 1, some 2, some 3, some 0, none] 4 E, (hO4), (Own.nil)⟩ ?_
    rintro ⟨tours3, f1, v3⟩ _ _ _ _ hm14749 ⟨A9, c9, ch5, A10, c10, ch6, hF14749, hS14749, hO5, hO6⟩ hb14749 hq14749
    unfold insert_Build_l3 at hb14749
    replace hb14749 := oun_mk hb14749
    replace hb14749 := oun_mk hb14749
    replace hA1 := hA1.mono hm14749
    replace hA2 := hA2.mono hm14749
    replace hA3 := hA3.mono hm14749
    refine Atn 5 hF14749 hS14749 E E (G0 5 E ?_)
    refine Br hb14749 43 E E (fun hc4 hb14749 => ?_) (fun hc4 hb14749 => ?_)
    · refine G2 3 [43] [] [] E ?_
      refine Cut hb14749 (fun f l o_ f_ μ_ l_ => ∃ (tours4 : (List T_insert_option)) (f11 : (List Int)) (A22 : Option Addr) (c22 : Nat) (ch10 : Seg) (A23 : Option Addr) (c23 : Nat) (ch11 : Seg), (tours4, f11) = o_ ∧ SubFr ((5, .slice A22 tours4.length c22) :: keepF [1, 2, 7, 41, 42] f) f_ ∧ SegSub ([(g1, .cells #[.int .i64 p1.Road.Nodes, .slice A1 p1.Road.Edges.length c1, .slice A2 p1.Vehicles.length c2, .slice A3 p1.Demands.length c3, .int .i64 p1.Unload, .int .i64 p1.UnloadSecs] 28 (0, 0))] :: [(g2, .cells #[.slice none 0 0, .slice none 0 0] 33 (0, 0))] :: ch10 :: [(g3, .cells #[.slice none 0 0, .slice A23 f11.length c23] 33 (0, 0))] :: ch11 :: selS [] 5 l) l_ ∧ Own r_insert_option 96 μ_ (.slice A22 tours4.length c22) tours4 ch10 ∧ Own rInt 3 μ_ (.slice A23 f11.length c23) f11 ch11) ?_ ?_
      · intro _ h14762 hb14749
        refine G0 9 E (Al E fun g4 => Q1 10 [0] E ?_)
        refine Cut h14762 (fun f l o_ f_ μ_ l_ => ∃ (f8 : Int) (f9 : (List Int)) (f10 : Int) (f_at3 : Int) (A18 : Option Addr) (c18 : Nat), (f8, f9, f10, f_at3) = o_ ∧ SubFr ((10, .int .i64 f_at3) :: keepF [1, 2, 5, 7, 8, 9, 41, 42] f) f_ ∧ SegSub ([(g1, .cells #[.int .i64 p1.Road.Nodes, .slice A1 p1.Road.Edges.length c1, .slice A2 p1.Vehicles.length c2, .slice A3 p1.Demands.length c3, .int .i64 p1.Unload, .int .i64 p1.UnloadSecs] 28 (0, 0))] :: [(g2, .cells #[.slice none 0 0, .slice none 0 0] 33 (0, 0))] :: ch5 :: [(g3, .cells #[.slice none 0 0, .slice A10 f1.length c10] 33 (0, 0))] :: ch6 :: [(g4, .cells #[.int .i64 f8, .slice A18 f9.length c18, .int .i64 f10] 96 (0, 0))] :: selS [] 6 l) l_ ∧ (f9.length ≤ c18 ∧ c18 ≤ maxLen) ∧ ArrR rInt μ_ A18 f9) ?_ ?_
        · intro _ h14767 h14762
          refine Lp h14767 (fun f l (j_ : Int × (List Int) × Int × Int × Int) f_ μ_ l_ => ounP j_ fun f2 j_ => ounP j_ fun f3 j_ => ounP j_ fun f4 j_ => ounP j_ fun f_at1 v4 => ∃ (A11 : Option Addr) (c11 : Nat), SubFr ((10, .int .i64 f_at1) :: (48, .int .i64 v4) :: keepF [1, 2, 5, 7, 8, 9, 41, 42, 46, 47] f) f_ ∧ SegSub ([(g1, .cells #[.int .i64 p1.Road.Nodes, .slice A1 p1.Road.Edges.length c1, .slice A2 p1.Vehicles.length c2, .slice A3 p1.Demands.length c3, .int .i64 p1.Unload, .int .i64 p1.UnloadSecs] 28 (0, 0))] :: [(g2, .cells #[.slice none 0 0, .slice none 0 0] 33 (0, 0))] :: ch5 :: [(g3, .cells #[.slice none 0 0, .slice A10 f1.length c10] 33 (0, 0))] :: ch6 :: [(g4, .cells #[.int .i64 f2, .slice A11 f3.length c11, .int .i64 f4] 96 (0, 0))] :: selS [] 6 l) l_ ∧ (f3.length ≤ c11 ∧ c11 ≤ maxLen) ∧ ArrR rInt μ_ A11 f3) ⟨none, 0, fE E, sE [some 1, some 2, some 3, some 4, some 5, some 0] 6 E, (⟨Nat.le_refl _, Nat.zero_le _⟩), (ArrR.nil)⟩ ?_
          rintro ⟨f2, f3, f4, f_at1, v4⟩ _ _ _ _ hm14823 ⟨A11, c11, hF14823, hS14823, hl6, hA7⟩ hb14823 hq14823
          unfold insert_Build_l2 at hb14823
          replace hb14823 := oun_mk hb14823
          replace hb14823 := oun_mk hb14823
          replace hb14823 := oun_mk hb14823
          replace hb14823 := oun_mk hb14823
          replace hA1 := hA1.mono hm14823
          replace hA2 := hA2.mono hm14823
          replace hA3 := hA3.mono hm14823
          replace hO5 := hO5.mono hm14823
          replace hO6 := hO6.mono hm14823
          refine Atn 6 hF14823 hS14823 E E (G0 5 E ?_)
          refine Br hb14823 49 E E (fun hc5 hb14823 => ?_) (fun hc5 hb14823 => ?_)
          · refine G2 3 [49] [] [] E ?_
            refine Cut hb14823 (fun f l o_ f_ μ_ l_ => ∃ (f5 : Int) (f6 : (List Int)) (f7 : Int) (f_at2 : Int) (A17 : Option Addr) (c17 : Nat), (f5, f6, f7, f_at2) = o_ ∧ SubFr ((10, .int .i64 f_at2) :: keepF [1, 2, 5, 7, 8, 9, 41, 42, 46, 47, 48] f) f_ ∧ SegSub ([(g1, .cells #[.int .i64 p1.Road.Nodes, .slice A1 p1.Road.Edges.length c1, .slice A2 p1.Vehicles.length c2, .slice A3 p1.Demands.length c3, .int .i64 p1.Unload, .int .i64 p1.UnloadSecs] 28 (0, 0))] :: [(g2, .cells #[.slice none 0 0, .slice none 0 0] 33 (0, 0))] :: ch5 :: [(g3, .cells #[.slice none 0 0, .slice A10 f1.length c10] 33 (0, 0))] :: ch6 :: [(g4, .cells #[.int .i64 f5, .slice A17 f6.length c17, .int .i64 f7] 96 (0, 0))] :: selS [] 6 l) l_ ∧ (f6.length ≤ c17 ∧ c17 ≤ maxLen) ∧ ArrR rInt μ_ A17 f6) ?_ ?_
            · intro _ h14838 hb14823
              refine G0 4 E (IxA h14838 (Own.rds hO5 2 E) E E fun x2 _ _ _ hr2 hc6 _ h14838 => ?_)
              obtain ⟨A12, c12, rfl, hl7, hA9⟩ := hr2
              refine Q3 1 [] [] [64] (Z1 hc6) E (Al E fun g5 => Q1 9 [0, 1, 0] E (Cl E ?_))
              obtain ⟨⟨_, _⟩, hx4, h14838⟩ := obind h14838
              replace h14838 := oun_mk h14838
              refine insert_options_fn hl1 hA1 hl2 hA2 hl3 hA3 hl7 hA9 hx4 (fun _ _ _ ch7 hm_2 hO7 => ?_)
              replace hO5 := hO5.mono hm_2
              replace hO6 := hO6.mono hm_2
              replace hA7 := hA7.mono hm_2
              refine Q0 7 E ?_
              refine Cut h14838 (fun f l o_ f_ μ_ l_ => ∃ (v6 : Bool), v6 = o_ ∧ SubFr ((85, .bool v6) :: keepF [1, 2, 5, 7, 8, 9, 10, 11, 13, 41, 42, 46, 47, 48] f) f_ ∧ SegSub (selS [some 2, some 3, some 4, some 5, some 6, some 7, some 0] 8 l) l_) ?_ ?_
              · intro _ h14850 h14838
                refine Dr _ Kept.refl [(true, 0), (true, 1), (true, 2), (true, 3), (true, 4), (true, 5), (true, 6), (true, 7), (true, 8), (true, 9), (true, 10), (true, 11), (true, 12), (true, 13), (true, 14), (true, 15), (true, 16), (true, 17), (true, 18), (true, 19), (true, 20), (true, 21), (true, 22), (true, 23), (true, 24)] (by kernel_rfl) (G0 4 E ?_)
                refine Br h14850 64 E E (fun hc7 h14850 => ?_) (fun hc7 h14850 => ?_)
                · refine G2 3 [64] [] [] E ?_
                  refine Br h14850 67 E E (fun hc8 h14850 => ?_) (fun hc8 h14850 => ?_)
                  · refine G2 19 [64, 67] [] [] E ?_
                    cases h14850
                    exact Ce E ⟨_, rfl, fE E, sE [some 2, some 3, some 4, some 5, some 6, some 7, some 0] 8 E⟩
                  refine G2 1 [] [67] [] E (Ix h14850 (Own.rds (L := (ch7 :: [(g5, .cells #[.int .i64 x2.tour.Vehicle, .slice A12 x2.tour.Stops.length c12, .int .i64 x2.cost] 96 (0, 0))] :: [(g1, .cells #[.int .i64 p1.Road.Nodes, .slice A1 p1.Road.Edges.length c1, .slice A2 p1.Vehicles.length c2, .slice A3 p1.Demands.length c3, .int .i64 p1.Unload, .int .i64 p1.UnloadSecs] 28 (0, 0))] :: [(g2, .cells #[.slice none 0 0, .slice none 0 0] 33 (0, 0))] :: ch5 :: [(g3, .cells #[.slice none 0 0, .slice A10 f1.length c10] 33 (0, 0))] :: ch6 :: [(g4, .cells #[.int .i64 f2, .slice A11 f3.length c11, .int .i64 f4] 96 (0, 0))] :: L)) hO7 0 E) E E fun _ _ _ _ hr3 hc9 _ h14850 => ?_)
                  obtain ⟨_, _, rfl, _, _⟩ := hr3
                  refine Q3 9 [] [67] [66, 1, 7] (Z1 hc9) E (Ix h14850 (Own.rds (L := (ch7 :: [(g5, .cells #[.int .i64 x2.tour.Vehicle, .slice A12 x2.tour.Stops.length c12, .int .i64 x2.cost] 96 (0, 0))] :: [(g1, .cells #[.int .i64 p1.Road.Nodes, .slice A1 p1.Road.Edges.length c1, .slice A2 p1.Vehicles.length c2, .slice A3 p1.Demands.length c3, .int .i64 p1.Unload, .int .i64 p1.UnloadSecs] 28 (0, 0))] :: [(g2, .cells #[.slice none 0 0, .slice none 0 0] 33 (0, 0))] :: ch5 :: [(g3, .cells #[.slice none 0 0, .slice A10 f1.length c10] 33 (0, 0))] :: ch6 :: [(g4, .cells #[.int .i64 f2, .slice A11 f3.length c11, .int .i64 f4] 96 (0, 0))] :: L)) hO5 4 E) E E fun _ _ _ _ hr4 hc10 _ h14850 => ?_)
                  obtain ⟨_, _, rfl, _, _⟩ := hr4
                  refine Q3 7 [64] [67] [66] (Z1 hc10) E ?_
                  cases h14850
                  exact Ce E ⟨_, rfl, fE E, sE [some 2, some 3, some 4, some 5, some 6, some 7, some 0] 8 E⟩
                refine G2 22 [] [64] [] E ?_
                cases h14850
                exact Ce E ⟨_, rfl, fE E, sE [some 2, some 3, some 4, some 5, some 6, some 7, some 0] 8 E⟩
              rintro _ _ _ _ h14838 hm14850 ⟨v6, rfl, hF14850, hS14850⟩
              replace hO5 := hO5.mono hm14850
              replace hO6 := hO6.mono hm14850
              replace hA7 := hA7.mono hm14850
              replace hO7 := hO7.mono hm14850
              refine Atn 7 hF14850 hS14850 E E ?_
              refine Br h14838 85 E E (fun hc11 h14838 => ?_) (fun hc11 h14838 => ?_)
              · refine G2 3 [85] [] [] E (IxA h14838 (Own.rds hO7 6 E) E E fun _ _ _ _ hr5 hc12 _ h14838 => ?_)
                obtain ⟨A16, c16, rfl, hl10, hA15⟩ := hr5
                refine Q3 6 [] [] [64, 5] (Z1 hc12) E ?_
                cases h14838
                exact Ce E ⟨_, _, _, _, A16, c16, rfl, fE E, sE [some 0, some 1, some 2, some 3, some 4, some 5] 7 E, (hl10), (hA15)⟩
              refine G2 3 [] [85] [] E ?_
              cases h14838
              exact Ce E ⟨_, _, _, _, A11, c11, rfl, fE E, sE [some 0, some 1, some 2, some 3, some 4, some 5] 7 E, (hl6), (hA7)⟩
            rintro _ _ _ _ hb14823 hm14838 ⟨f5, f6, f7, f_at2, A17, c17, rfl, hF14838, hS14838, hl11, hA16⟩
            replace hb14823 := oun_mk hb14823
            replace hb14823 := oun_mk hb14823
            replace hb14823 := oun_mk hb14823
            replace hO5 := hO5.mono hm14838
            replace hO6 := hO6.mono hm14838
            replace hA7 := hA7.mono hm14838
            refine Atn 6 hF14838 hS14838 E E (G0 4 E ?_)
            cases hb14823
            exact Ce E ⟨_, rfl, A17, c17, fE E, sE [some 0, some 1, some 2, some 3, some 4, some 5] 6 E, (hl11), (hA16)⟩
          refine G2 2 [] [49] [] E ?_
          cases hb14823
          have hq_ := hq14823 _ E
          subst hq_
          exact Ce E ⟨_, _, _, _, A11, c11, rfl, fE E, sE [some 0, some 1, some 2, some 3, some 4, some 5] 6 E, (hl6), (hA7)⟩
        rintro _ _ μ14767 _ h14762 hm14767 ⟨f8, f9, f10, f_at3, A18, c18, rfl, hF14767, hS14767, hl12, hA17⟩
        replace h14762 := oun_mk h14762
        replace h14762 := oun_mk h14762
        replace h14762 := oun_mk h14762
        replace hO5 := hO5.mono hm14767
        replace hO6 := hO6.mono hm14767
        refine Atn 6 hF14767 hS14767 E E (G0 5 E ?_)
        refine Br h14762 92 E E (fun hc13 h14762 => ?_) (fun hc13 h14762 => ?_)
        · refine G2 5 [92] [] [3] E (So E (O_bsl (z := [.int .i64 0]) E E E E E E E (F_cons (cells' := [.int .i64 v3]) E E E E (F_nil (fun g6 => Q0 0 E (So E (O_append E ?_)))))))
          obtain ⟨_, hz1, h14762⟩ := obind h14762
          refine sem_appR (r := rInt) Tt_ok E E E E (by decide) E E 5 E hO6 E (Own.rds (Own.lit (r := rInt) (e := 3) (g := g6) (xs := [v3]) (cs := [.int .i64 v3]) (css := [[.int .i64 v3]]) E (All2.cons (E) (All2.nil)) E E) 0 E) hz1 fun A19 c19 ch8 hO8 => Q1 4 [4] E ?_
          cases h14762
          exact Ce E ⟨_, _, A9, c9, ch5, A19, c19, ch8, rfl, fE E, sE [some 1, some 2, some 3, some 4, some 5] 7 E, (hO5), (hO8)⟩
        refine G2 5 [] [92] [5] E (IxA h14762 (Own.rds hO5 2 E) E E fun _ a6 _ hx8 hr6 _ hA18 h14762 => ?_)
        obtain ⟨_, _, rfl, _, _⟩ := hr6
        refine Q0 0 E (So E (O_store (vs := [.int .i64 f8, .slice A18 f9.length c18, .int .i64 f10]) E E E E E E ?_))
        rw [← Addr.add_zero' ((a6.add (f_at3.toNat * 3)))]
        refine Own.store (μ := μ14767) (r := r_insert_option) (x' := (T_insert_option.mk (T_api_Tour.mk f8 f9) f10)) (o := 0) (sz := 3) 2 rfl hO5 hA18 hx8 rfl rfl (by rintro _ ⟨A21, c21, rfl, hl14, hA20⟩; exact ⟨A18, c18, rfl, hl12, hA17⟩) fun ch9 hO9 => ?_
        rw [← length_setI tours3 f_at3 (T_insert_option.mk (T_api_Tour.mk f8 f9) f10)] at hO9 ⊢
        refine Q0 2 E ?_
        cases h14762
        exact Ce E ⟨_, _, A9, c9, ch9, A10, c10, ch6, rfl, fE E, sE [some 0, some 1, some 2, some 3, some 4] 6 E, (hO9), (hO6)⟩
      rintro _ _ _ _ hb14749 hm14762 ⟨tours4, f11, A22, c22, ch10, A23, c23, ch11, rfl, hF14762, hS14762, hO10, hO11⟩
      replace hb14749 := oun_mk hb14749
      replace hO5 := hO5.mono hm14762
      replace hO6 := hO6.mono hm14762
      refine Atn 5 hF14762 hS14762 E E (G0 4 E ?_)
      cases hb14749
      exact Ce E ⟨_, rfl, A22, c22, ch10, A23, c23, ch11, fE E, sE [some 0, some 1, some 2, some 3, some 4] 5 E, (hO10), (hO11)⟩
    refine G2 2 [] [43] [] E ?_
    cases hb14749
    have hq_ := hq14749 _ E
    subst hq_
    exact Ce E ⟨_, _, A9, c9, ch5, A10, c10, ch6, rfl, fE E, sE [some 1, some 2, some 3, some 4] 5 E, (hO5), (hO6)⟩
  rintro _ _ _ _ h hm14600 ⟨tours5, f12, A24, c24, ch12, A25, c25, ch13, rfl, hF14600, hS14600, hO12, hO13⟩
  replace h := oun_mk h
  refine Atn 4 hF14600 hS14600 E E (G0 7 E ?_)
  refine Cut h (fun f l o_ f_ μ_ l_ => ∃ (f15 : (List T_api_Tour)) (A30 : Option Addr) (c30 : Nat) (ch17 : Seg), f15 = o_ ∧ SubFr (keepF [2, 7] f) f_ ∧ SegSub ([(g2, .cells #[.slice none 0 0, .slice none 0 0] 33 (0, 0))] :: [(g3, .cells #[.slice A30 f15.length c30, .slice A25 f12.length c25] 33 (0, 0))] :: ch17 :: selS [] 3 l) l_ ∧ Own r_api_Tour 51 μ_ (.slice A30 f15.length c30) f15 ch17) ?_ ?_
  · intro _ h14913 h
    refine Lp h14913 (fun f l (j_ : (List T_api_Tour) × Int) f_ μ_ l_ => ounP j_ fun f13 v7 => ∃ (A26 : Option Addr) (c26 : Nat) (ch14 : Seg), SubFr ((106, .int .i64 v7) :: keepF [2, 7, 104, 105] f) f_ ∧ SegSub ([(g2, .cells #[.slice none 0 0, .slice none 0 0] 33 (0, 0))] :: [(g3, .cells #[.slice A26 f13.length c26, .slice A25 f12.length c25] 33 (0, 0))] :: ch14 :: selS [some 3, some 1] 4 l) l_ ∧ Own r_api_Tour 51 μ_ (.slice A26 f13.length c26) f13 ch14) ⟨none, 0, [], fE E, sE [some 0, some 2, none, some 3, some 1] 4 E, (Own.nil)⟩ ?_
    rintro ⟨f13, v7⟩ _ _ _ _ hm14936 ⟨A26, c26, ch14, hF14936, hS14936, hO14⟩ hb14936 hq14936
    unfold insert_Build_l4 at hb14936
    replace hb14936 := oun_mk hb14936
    replace hO12 := hO12.mono hm14936
    replace hO13 := hO13.mono hm14936
    refine Atn 5 hF14936 hS14936 E E (G0 5 E ?_)
    refine Br hb14936 107 E E (fun hc15 hb14936 => ?_) (fun hc15 hb14936 => ?_)
    · refine G2 3 [107] [] [] E ?_
      refine Cut hb14936 (fun f l o_ f_ μ_ l_ => ∃ (f14 : (List T_api_Tour)) (A29 : Option Addr) (c29 : Nat) (ch16 : Seg), f14 = o_ ∧ SubFr (keepF [2, 7, 104, 105, 106] f) f_ ∧ SegSub ([(g2, .cells #[.slice none 0 0, .slice none 0 0] 33 (0, 0))] :: [(g3, .cells #[.slice A29 f14.length c29, .slice A25 f12.length c25] 33 (0, 0))] :: ch16 :: selS [] 3 l) l_ ∧ Own r_api_Tour 51 μ_ (.slice A29 f14.length c29) f14 ch16) ?_ ?_
      · intro _ h14945 hb14936
        refine G0 3 E (IxA h14945 (Own.rds hO12 4 E) E E fun x7 _ _ _ hr7 hc16 _ h14945 => ?_)
        obtain ⟨A27, c27, rfl, hl15, hA22⟩ := hr7
        refine Q3 1 [] [] [64] (Z1 hc16) E (Al E fun _ => Q1 10 [0, 0] E ?_)
        refine Br h14945 114 E E (fun hc17 h14945 => ?_) (fun hc17 h14945 => ?_)
        · refine G2 6 [114] [] [2, 0] E (So E (O_bsl (z := [.int .i64 0, .slice none 0 0]) E E E E E E E (F_cons (cells' := [.int .i64 x7.tour.Vehicle, .slice A27 x7.tour.Stops.length c27]) E E E E (F_nil (fun g8 => Q0 0 E (So E (O_append E ?_)))))))
          obtain ⟨_, hz2, h14945⟩ := obind h14945
          refine sem_appR (r := r_api_Tour) Tt_ok E E E E (by decide) E E 4 E hO14 E (Own.rds (Own.lit (r := r_api_Tour) (e := 51) (g := g8) (xs := [x7.tour]) (cs := [.int .i64 x7.tour.Vehicle, .slice A27 x7.tour.Stops.length c27]) (css := [[.int .i64 x7.tour.Vehicle, .slice A27 x7.tour.Stops.length c27]]) E (All2.cons (⟨A27, c27, E, hl15, hA22⟩) (All2.nil)) E E) 0 E) hz2 fun A28 c28 ch15 hO15 => Q1 4 [3] E ?_
          cases h14945
          exact Ce E ⟨_, A28, c28, ch15, rfl, fE E, sE [some 2, some 3, some 4, some 5, some 6] 7 E, (hO15)⟩
        refine G2 3 [] [114] [] E ?_
        cases h14945
        exact Ce E ⟨_, A26, c26, ch14, rfl, fE E, sE [some 1, some 2, some 3, some 4, some 5] 6 E, (hO14)⟩
      rintro _ _ _ _ hb14936 hm14945 ⟨f14, A29, c29, ch16, rfl, hF14945, hS14945, hO16⟩
      replace hO13 := hO13.mono hm14945
      replace hO14 := hO14.mono hm14945
      refine Atn 5 hF14945 hS14945 E E (G0 4 E ?_)
      cases hb14936
      exact Ce E ⟨_, rfl, A29, c29, ch16, fE E, sE [some 0, some 1, some 2, some 3, some 4] 5 E, (hO16)⟩
    refine G2 2 [] [107] [] E ?_
    cases hb14936
    have hq_ := hq14936 _ E
    subst hq_
    exact Ce E ⟨_, A26, c26, ch14, rfl, fE E, sE [some 0, some 1, some 2, some 3] 5 E, (hO14)⟩
  rintro _ _ _ _ h hm14913 ⟨f15, A30, c30, ch17, rfl, hF14913, hS14913, hO17⟩
  replace hO13 := hO13.mono hm14913
  refine Atn 4 hF14913 hS14913 E E (G1 6 [1, 0] E ?_)
  cases h
  refine Rt [0] E E ?_
  have hl16 := Own.lenOk hO17
  refine Upd.frzOwn 2 E hO17 fun _ hm_3 hA23 => ?_
  replace hO13 := hO13.mono hm_3
  have hl17 := Own.lenOk hO13
  refine Upd.frzOwn 3 E hO13 fun _ hm_4 hA24 => ?_
  replace hA23 := hA23.mono hm_4
  exact (Ug [] 4 (hR _ A30 c30 A25 c25 (hm_1.trans (hm14566.trans (hm14600.trans (hm14913.trans (hm_3.trans hm_4))))) hl16 hA23 hl17 hA24))
theorem tour_plan_1_fn  {u1 : T_api_Tour} {b1 : T_api_Tour} {A1 : Option Addr} {c1 : Nat} {g1 : Nat} {A2 : Option Addr} {c2 : Nat} {res1 : Bool}
    (hl1 : u1.Stops.length ≤ c1 ∧ c1 ≤ maxLen) (hA1 : ArrR rInt μ A1 u1.Stops) (hl2 : b1.Stops.length ≤ c2 ∧ c2 ≤ maxLen) (hA2 : ArrR rInt μ A2 b1.Stops) (h : tour_plan_1 u1 b1 = some res1)
    (hR : R (.bool res1) μ ([(g1, .cells #[.int .i64 b1.Vehicle, .slice A2 b1.Stops.length c2] 51 (0, 0))] :: L)) :
    Fn Tryz.prog 79 [.agg #[.int .i64 u1.Vehicle, .slice A1 u1.Stops.length c1], .pointer (some ⟨g1, 0, none⟩)] μ ([(g1, .cells #[.int .i64 b1.Vehicle, .slice A2 b1.Stops.length c2] 51 (0, 0))] :: L) R := by
  unfold tour_plan_1 at h
  refine FnS Tryz.func79 (by kernel_rfl) E Tryz.ntmps79 E E ?_
  refine G0 2 E (Al E fun _ => Q1 11 [0, 1] E ?_)
  cases h
  exact Rt [] E E (Ug [[1]] 2 hR)
theorem slices_IndexFunc_Tour_c79_fn  {s1 : (List T_api_Tour)} {b1 : T_api_Tour} {A1 : Option Addr} {c1 : Nat} {g1 : Nat} {A2 : Option Addr} {c2 : Nat} {res1 : Int}
    (hl1 : s1.length ≤ c1 ∧ c1 ≤ maxLen) (hA1 : Rds r_api_Tour μ L A1 s1) (hl2 : b1.Stops.length ≤ c2 ∧ c2 ≤ maxLen) (hA2 : ArrR rInt μ A2 b1.Stops) (h : slices_IndexFunc_Tour_c79 s1 b1 = some res1)
    (hR : R (.int .i64 res1) μ ([(g1, .cells #[.int .i64 b1.Vehicle, .slice A2 b1.Stops.length c2] 51 (0, 0))] :: L)) :
    Fn Tryz.prog 105 [.slice A1 s1.length c1, .func (.func 79) #[] #[.pointer (some ⟨g1, 0, none⟩)]] μ ([(g1, .cells #[.int .i64 b1.Vehicle, .slice A2 b1.Stops.length c2] 51 (0, 0))] :: L) R := by
  unfold slices_IndexFunc_Tour_c79 at h
  refine FnS Tryz.func105 (by kernel_rfl) E Tryz.ntmps105 E E ?_
  refine G0 11 E ?_
  refine Cut h (fun f l o_ f_ μ_ l_ => (.inl ()) = o_ ∧ SubFr ([]) f_ ∧ SegSub l l_ ∧ μ = μ_) ?_ ?_
  · intro _ h15035 h
    refine Lp h15035 (fun f l (v1 : Int) f_ μ_ l_ => SubFr ((8, .int .i64 v1) :: keepF [0, 1, 7] f) f_ ∧ SegSub l l_ ∧ μ = μ_) ⟨fE E, sE [some 0] 1 E, E⟩ ?_
    rintro v1 _ _ _ _ _ ⟨hF15046, hS15046, rfl⟩ hb15046 hq15046
    unfold slices_IndexFunc_Tour_c79_l1 at hb15046
    refine Atn 1 hF15046 hS15046 E E (G0 5 E ?_)
    refine Br hb15046 9 E E (fun hc1 hb15046 => ?_) (fun hc1 hb15046 => ?_)
    · refine G2 14 [9] [] [] E (Ix hb15046 hA1 E E fun _ _ _ _ hr1 hc2 _ hb15046 => ?_)
      obtain ⟨_, _, rfl, hl3, hA4⟩ := hr1
      refine Q3 1 [] [] [64] (Z1 (hc2.push)) E (Cl E ?_)
      obtain ⟨_, hx2, hb15046⟩ := obind hb15046
      refine tour_plan_1_fn hl3 hA4 hl2 hA2 hx2 ((Q0 1 E ?_))
      refine Br hb15046 16 E E (fun hc3 hb15046 => ?_) (fun hc3 hb15046 => ?_)
      · refine G2 6 [16] [] [] E ?_
        cases hb15046
        have hq_ := hq15046 _ E
        subst hq_
        replace h := osum_r h
        cases h
        exact Rt [] E E (Ug [[0]] 1 hR)
      refine G2 7 [] [16] [] E ?_
      cases hb15046
      exact Ce E ⟨_, rfl, fE E, sE [some 0] 1 E, rfl⟩
    refine G2 2 [] [9] [] E ?_
    cases hb15046
    have hq_ := hq15046 _ E
    subst hq_
    exact Ce E ⟨rfl, fE E, sE [some 0] 1 E, rfl⟩
  rintro _ _ _ _ h _ ⟨rfl, hF15035, hS15035, rfl⟩
  replace h := osum_l h
  refine Atn 1 hF15035 hS15035 E E (G0 4 E ?_)
  cases h
  exact Rt [] E E (Ug [[0]] 1 hR)
theorem slices_ContainsFunc_Tour_c79_fn  {s1 : (List T_api_Tour)} {b1 : T_api_Tour} {A1 : Option Addr} {c1 : Nat} {g1 : Nat} {A2 : Option Addr} {c2 : Nat} {res1 : Bool}
    (hl1 : s1.length ≤ c1 ∧ c1 ≤ maxLen) (hA1 : Rds r_api_Tour μ L A1 s1) (hl2 : b1.Stops.length ≤ c2 ∧ c2 ≤ maxLen) (hA2 : ArrR rInt μ A2 b1.Stops) (h : slices_ContainsFunc_Tour_c79 s1 b1 = some res1)
    (hR : R (.bool res1) μ ([(g1, .cells #[.int .i64 b1.Vehicle, .slice A2 b1.Stops.length c2] 51 (0, 0))] :: L)) :
    Fn Tryz.prog 78 [.slice A1 s1.length c1, .func (.func 79) #[] #[.pointer (some ⟨g1, 0, none⟩)]] μ ([(g1, .cells #[.int .i64 b1.Vehicle, .slice A2 b1.Stops.length c2] 51 (0, 0))] :: L) R := by
  unfold slices_ContainsFunc_Tour_c79 at h
  refine FnS Tryz.func78 (by kernel_rfl) E Tryz.ntmps78 E E ?_
  refine G0 8 E (Cl E ?_)
  obtain ⟨_, hx1, h⟩ := obind h
  refine slices_IndexFunc_Tour_c79_fn hl1 hA1 hl2 hA2 hx1 ((Q0 3 E ?_))
  cases h
  exact Rt [] E E (Ug [[0]] 1 hR)
theorem tour_plan_2_fn  {n1 : Int}  {res1 : Bool}
     (h : tour_plan_2 n1 = some res1)
    (hR : R (.bool res1) μ (L)) :
    Fn Tryz.prog 81 [.int .i64 n1] μ (L) R := by
  unfold tour_plan_2 at h
  refine FnS Tryz.func81 (by kernel_rfl) E Tryz.ntmps81 E E ?_
  refine G0 10 E ?_
  cases h
  exact Rt [] E E (Ug [] 0 hR)
theorem slices_IndexFunc_int_c81_fn  {s1 : (List Int)} {A1 : Option Addr} {c1 : Nat} {res1 : Int}
    (hl1 : s1.length ≤ c1 ∧ c1 ≤ maxLen) (hA1 : Rds rInt μ L A1 s1) (h : slices_IndexFunc_int_c81 s1 = some res1)
    (hR : R (.int .i64 res1) μ (L)) :
    Fn Tryz.prog 106 [.slice A1 s1.length c1, .func (.func 81) #[] #[]] μ (L) R := by
  unfold slices_IndexFunc_int_c81 at h
  refine FnS Tryz.func106 (by kernel_rfl) E Tryz.ntmps106 E E ?_
  refine G0 11 E ?_
  refine Cut h (fun f l o_ f_ μ_ l_ => (.inl ()) = o_ ∧ SubFr ([]) f_ ∧ SegSub l l_ ∧ μ = μ_) ?_ ?_
  · intro _ h15180 h
    refine Lp h15180 (fun f l (v1 : Int) f_ μ_ l_ => SubFr ((8, .int .i64 v1) :: keepF [0, 1, 7] f) f_ ∧ SegSub l l_ ∧ μ = μ_) ⟨fE E, sE [] 0 E, E⟩ ?_
    rintro v1 _ _ _ _ _ ⟨hF15182, hS15182, rfl⟩ hb15182 hq15182
    unfold slices_IndexFunc_int_c81_l1 at hb15182
    refine Atn 0 hF15182 hS15182 E E (G0 5 E ?_)
    refine Br hb15182 9 E E (fun hc1 hb15182 => ?_) (fun hc1 hb15182 => ?_)
    · refine G2 14 [9] [] [] E (Ix hb15182 hA1 E E fun _ _ _ _ hr1 hc2 _ hb15182 => ?_)
      obtain rfl := hr1
      refine Q3 1 [] [] [64] (Z1 hc2) E (Cl E ?_)
      obtain ⟨_, hx2, hb15182⟩ := obind hb15182
      refine tour_plan_2_fn  hx2 ((Q0 1 E ?_))
      refine Br hb15182 16 E E (fun hc3 hb15182 => ?_) (fun hc3 hb15182 => ?_)
      · refine G2 6 [16] [] [] E ?_
        cases hb15182
        have hq_ := hq15182 _ E
        subst hq_
        replace h := osum_r h
        cases h
        exact Rt [] E E (Ug [] 0 hR)
      refine G2 7 [] [16] [] E ?_
      cases hb15182
      exact Ce E ⟨_, rfl, fE E, sE [] 0 E, rfl⟩
    refine G2 2 [] [9] [] E ?_
    cases hb15182
    have hq_ := hq15182 _ E
    subst hq_
    exact Ce E ⟨rfl, fE E, sE [] 0 E, rfl⟩
  rintro _ _ _ _ h _ ⟨rfl, hF15180, hS15180, rfl⟩
  replace h := osum_l h
  refine Atn 0 hF15180 hS15180 E E (G0 4 E ?_)
  cases h
  exact Rt [] E E (Ug [] 0 hR)
theorem slices_ContainsFunc_int_c81_fn  {s1 : (List Int)} {A1 : Option Addr} {c1 : Nat} {res1 : Bool}
    (hl1 : s1.length ≤ c1 ∧ c1 ≤ maxLen) (hA1 : Rds rInt μ L A1 s1) (h : slices_ContainsFunc_int_c81 s1 = some res1)
    (hR : R (.bool res1) μ (L)) :
    Fn Tryz.prog 80 [.slice A1 s1.length c1, .func (.func 81) #[] #[]] μ (L) R := by
  unfold slices_ContainsFunc_int_c81 at h
  refine FnS Tryz.func80 (by kernel_rfl) E Tryz.ntmps80 E E ?_
  refine G0 8 E (Cl E ?_)
  obtain ⟨_, hx1, h⟩ := obind h
  refine slices_IndexFunc_int_c81_fn hl1 hA1 hx1 ((Q0 3 E ?_))
  cases h
  exact Rt [] E E (Ug [] 0 hR)
theorem tour_plan_fn {F : Nat} {p1 : T_api_Problem} {x1 : T_api_Plan} {A1 : Option Addr} {c1 : Nat} {A2 : Option Addr} {c2 : Nat} {A3 : Option Addr} {c3 : Nat} {A4 : Option Addr} {c4 : Nat} {A5 : Option Addr} {c5 : Nat} {res1 : Int} {res2 : Int}
    (hl1 : p1.Road.Edges.length ≤ c1 ∧ c1 ≤ maxLen) (hA1 : ArrR r_api_Edge μ A1 p1.Road.Edges) (hl2 : p1.Vehicles.length ≤ c2 ∧ c2 ≤ maxLen) (hA2 : ArrR r_api_Vehicle μ A2 p1.Vehicles) (hl3 : p1.Demands.length ≤ c3 ∧ c3 ≤ maxLen) (hA3 : ArrR r_api_Demand μ A3 p1.Demands) (hl4 : x1.Tours.length ≤ c4 ∧ c4 ≤ maxLen) (hA4 : ArrR r_api_Tour μ A4 x1.Tours) (hl5 : x1.Left.length ≤ c5 ∧ c5 ≤ maxLen) (hA5 : ArrR rInt μ A5 x1.Left) (h : tour_plan F p1 x1 = some (res1, res2))
    (hR : ∀ (μ' : Gh) , μ.le μ' → R (.tuple #[.int .i64 res1, .int .i64 res2]) μ' (L)) :
    Fn Tryz.prog 52 [.agg #[.int .i64 p1.Road.Nodes, .slice A1 p1.Road.Edges.length c1, .slice A2 p1.Vehicles.length c2, .slice A3 p1.Demands.length c3, .int .i64 p1.Unload, .int .i64 p1.UnloadSecs], .agg #[.slice A4 x1.Tours.length c4, .slice A5 x1.Left.length c5]] μ (L) R := by
  unfold tour_plan at h
  refine FnS Tryz.func52 (by kernel_rfl) E Tryz.ntmps52 E E ?_
  refine G0 2 E (Al E fun _ => Q0 0 E (Al E fun g2 => Q1 7 [1] E (Cl E ?_)))
  obtain ⟨_, hx1, h⟩ := obind h
  refine tour_Check_fn hl1 hA1 hl2 hA2 hl3 hA3 hx1 (fun _ hm_1 => ?_)
  replace hA1 := hA1.mono hm_1
  replace hA2 := hA2.mono hm_1
  replace hA3 := hA3.mono hm_1
  replace hA4 := hA4.mono hm_1
  replace hA5 := hA5.mono hm_1
  refine Q0 7 E ?_
  refine Br h 23 E E (fun hc1 h => ?_) (fun hc1 h => ?_)
  · refine G2 7 [23] [] [] E ?_
    cases h
    exact Rt [] E E (Ug [] 2 (hR _ hm_1))
  refine G2 14 [] [23] [0] E ?_
  refine Cut h (fun f l o_ f_ μ_ l_ => ∃ (sum2 : Int), (.inl sum2) = o_ ∧ SubFr ((7, .int .i64 sum2) :: keepF [2, 3] f) f_ ∧ SegSub (selS [some 1, some 0] 2 l) l_) ?_ ?_
  · intro _ h15190 h
    refine Lp h15190 (fun f l (j_ : Int × Int) f_ μ_ l_ => ounP j_ fun sum1 v2 => SubFr ((7, .int .i64 sum1) :: (28, .int .i64 v2) :: keepF [2, 3, 26, 27] f) f_ ∧ SegSub (selS [some 1, some 0] 2 l) l_) ⟨fE E, sE [some 1, some 0] 2 E⟩ ?_
    rintro ⟨sum1, v2⟩ _ _ _ _ hm15221 ⟨hF15221, hS15221⟩ hb15221 hq15221
    unfold tour_plan_l1 at hb15221
    replace hb15221 := oun_mk hb15221
    replace hA1 := hA1.mono hm15221
    replace hA2 := hA2.mono hm15221
    replace hA3 := hA3.mono hm15221
    replace hA4 := hA4.mono hm15221
    replace hA5 := hA5.mono hm15221
    refine Atn 2 hF15221 hS15221 E E (G0 5 E ?_)
    refine Br hb15221 29 E E (fun hc2 hb15221 => ?_) (fun hc2 hb15221 => ?_)
    · refine G2 7 [29] [] [] E (Ix hb15221 (ArrR.rds hA4 L) E E fun _ _ _ _ hr1 hc3 _ hb15221 => ?_)
      obtain ⟨_, _, rfl, hl6, hA7⟩ := hr1
      refine Q3 1 [] [] [64] (Z1 (hc3.push.push)) E (Al E fun _ => ?_)
      obtain ⟨_, hs1, hb15221⟩ := obind hb15221
      refine Q1 9 [0, 2] E (Rdo E E (R_slHiS E E E E E E hl4.1 hs1 ?_))
      have hA8 := ArrR.pre hA4 hs1
      have hl7 := preLen hl4 hs1
      refine Q0 1 E (Cl E ?_)
      obtain ⟨_, hx3, hb15221⟩ := obind hb15221
      refine slices_ContainsFunc_Tour_c79_fn hl7 (ArrR.rds hA8 _) hl6 hA7 hx3 ((Q0 1 E ?_))
      refine Br hb15221 38 E E (fun hc4 hb15221 => ?_) (fun hc4 hb15221 => ?_)
      · refine G2 6 [38] [] [] E ?_
        cases hb15221
        have hq_ := hq15221 _ E
        subst hq_
        replace h := osum_r h
        cases h
        exact Rt [] E E (Ug [] 3 (hR _ (hm_1.trans hm15221)))
      refine G2 6 [] [38] [1, 0] E (Cl E ?_)
      obtain ⟨⟨_, _, _⟩, hx4, hb15221⟩ := obind hb15221
      replace hb15221 := oun_mk hb15221
      replace hb15221 := oun_mk hb15221
      refine tour_follow_fn hl1 hA1 hl2 hA2 hl3 hA3 hl6 hA7 hx4 (fun _ _ _ hm_2 hP1 => ?_)
      replace hA4 := hA4.mono hm_2
      replace hA5 := hA5.mono hm_2
      refine Q0 14 E ?_
      refine Br hb15221 47 E E (fun hc5 hb15221 => ?_) (fun hc5 hb15221 => ?_)
      · refine G2 7 [47] [] [] E ?_
        cases hb15221
        have hq_ := hq15221 _ E
        subst hq_
        replace h := osum_r h
        cases h
        exact Rt [] E E (Ug [] 4 (hR _ (hm_1.trans (hm15221.trans hm_2))))
      obtain ⟨_, hm_3, hb15221⟩ := obind hb15221
      have hP2 := ObjO.get hP1 hm_3
      obtain ⟨_, _, _, _, _, _, _, _, _, _, _, _, _, hv1, rfl, ⟨_, _⟩, ⟨_, _⟩, ⟨_, _⟩, _, _⟩ := hP2
      subst hv1
      refine G2 2 [] [47] [] E (In Obj_tour_walk.fl 0 6 E E E (G1 15 [0] E ?_))
      cases hb15221
      exact Ce E ⟨_, rfl, fE E, sE [some 4, some 5] 6 E⟩
    refine G2 2 [] [29] [] E ?_
    cases hb15221
    have hq_ := hq15221 _ E
    subst hq_
    exact Ce E ⟨_, rfl, fE E, sE [some 0, some 1] 2 E⟩
  rintro _ _ _ _ h hm15190 ⟨sum2, rfl, hF15190, hS15190⟩
  replace h := osum_l h
  replace hA4 := hA4.mono hm15190
  replace hA5 := hA5.mono hm15190
  refine Atn 2 hF15190 hS15190 E E (G1 5 [0] E (So E (O_mksl E E ?_)))
  obtain ⟨_, hn1, h⟩ := obind h
  refine sem_mkO (r := rInt) (z := 0) (zc := [.int .i64 0]) Tt_ok E E E E E (E) E hn1 fun A11 c11 ch2 hO2 => Q1 10 [2] E ?_
  refine Cut h (fun f l o_ f_ μ_ l_ => ∃ (times2 : (List Int)) (A13 : Option Addr) (c13 : Nat) (ch5 : Seg), (.inl times2) = o_ ∧ SubFr ((13, .slice A13 times2.length c13) :: keepF [3, 7] f) f_ ∧ SegSub ([(g2, .cells #[.slice A4 x1.Tours.length c4, .slice A5 x1.Left.length c5] 33 (0, 0))] :: ch5 :: selS [] 3 l) l_ ∧ Own rInt 3 μ_ (.slice A13 times2.length c13) times2 ch5) ?_ ?_
  · intro _ h15256 h
    refine Lp h15256 (fun f l (j_ : (List Int) × Int) f_ μ_ l_ => ounP j_ fun times1 v4 => ∃ (A12 : Option Addr) (c12 : Nat) (ch3 : Seg), SubFr ((13, .slice A12 times1.length c12) :: (64, .int .i64 v4) :: keepF [3, 7, 62, 63] f) f_ ∧ SegSub ([(g2, .cells #[.slice A4 x1.Tours.length c4, .slice A5 x1.Left.length c5] 33 (0, 0))] :: ch3 :: selS [] 3 l) l_ ∧ Own rInt 3 μ_ (.slice A12 times1.length c12) times1 ch3) ⟨A11, c11, ch2, fE E, sE [some 2, some 0] 3 E, (hO2)⟩ ?_
    rintro ⟨times1, v4⟩ _ _ _ _ hm15267 ⟨A12, c12, ch3, hF15267, hS15267, hO3⟩ hb15267 hq15267
    unfold tour_plan_l2 at hb15267
    replace hb15267 := oun_mk hb15267
    replace hA4 := hA4.mono hm15267
    replace hA5 := hA5.mono hm15267
    refine Atn 2 hF15267 hS15267 E E (G0 5 E ?_)
    refine Br hb15267 65 E E (fun hc6 hb15267 => ?_) (fun hc6 hb15267 => ?_)
    · refine G2 6 [65] [] [] E (Ix hb15267 (ArrR.rds hA5 L) E E fun x3 _ _ _ hr2 hc7 _ hb15267 => ?_)
      obtain rfl := hr2
      refine Q3 5 [] [] [64] (Z1 (hc7.push.push)) E ?_
      refine Cut hb15267 (fun f l o_ f_ μ_ l_ => ∃ (v5 : Bool), v5 = o_ ∧ SubFr ((75, .bool v5) :: keepF [3, 7, 13, 15, 62, 63, 64] f) f_ ∧ SegSub l l_) ?_ ?_
      · intro _ h15273 hb15267
        refine G0 4 E ?_
        refine Br h15273 70 E E (fun hc8 h15273 => ?_) (fun hc8 h15273 => ?_)
        · refine G2 6 [70] [] [] E ?_
          cases h15273
          exact Ce E ⟨_, rfl, fE E, sE [some 0, some 1] 2 E⟩
        refine G2 6 [] [70] [] E ?_
        cases h15273
        exact Ce E ⟨_, rfl, fE E, sE [some 0, some 1] 2 E⟩
      rintro _ _ μ15273 _ hb15267 hm15273 ⟨v5, rfl, hF15273, hS15273⟩
      replace hA4 := hA4.mono hm15273
      replace hO3 := hO3.mono hm15273
      refine Atn 2 hF15273 hS15273 E E ?_
      refine Br hb15267 75 E E (fun hc9 hb15267 => ?_) (fun hc9 hb15267 => ?_)
      · refine G2 6 [75] [] [] E ?_
        cases hb15267
        have hq_ := hq15267 _ E
        subst hq_
        replace h := osum_r h
        cases h
        exact Rt [] E E (Ug [] 2 (hR _ (hm_1.trans (hm15190.trans (hm15267.trans hm15273)))))
      refine G2 5 [] [75] [] E (IxA hb15267 (Own.rds hO3 1 E) E E fun x4 _ _ _ hr3 hc10 _ hb15267 => ?_)
      obtain rfl := hr3
      refine Q3 2 [] [] [64] (Z1 hc10) E (IxA hb15267 (Own.rds hO3 1 E) E E fun _ a4 _ hx7 hr4 _ hA14 hb15267 => ?_)
      obtain rfl := hr4
      refine Q0 0 E (So E (O_store (vs := [.int .i64 (w64 (x4 + 1))]) E E E E E E ?_))
      rw [← Addr.add_zero' ((a4.add (x3.toNat * 1)))]
      refine Own.store (μ := μ15273) (r := rInt) (x' := w64 (x4 + 1)) (o := 0) (sz := 1) 1 rfl hO3 hA14 hx7 rfl rfl (by rintro _ rfl; rfl) fun ch4 hO4 => ?_
      rw [← length_setI times1 x3 (w64 (x4 + 1))] at hO4 ⊢
      refine Q0 6 E ?_
      cases hb15267
      exact Ce E ⟨_, rfl, A12, c12, ch4, fE E, sE [some 0, some 1] 2 E, (hO4)⟩
    refine G2 2 [] [65] [] E ?_
    cases hb15267
    have hq_ := hq15267 _ E
    subst hq_
    exact Ce E ⟨_, A12, c12, ch3, rfl, fE E, sE [some 0, some 1] 2 E, (hO3)⟩
  rintro _ _ _ _ h hm15256 ⟨times2, A13, c13, ch5, rfl, hF15256, hS15256, hO5⟩
  replace h := osum_l h
  replace hA4 := hA4.mono hm15256
  refine Atn 2 hF15256 hS15256 E E (G1 8 [0] E ?_)
  refine Cut h (fun f l o_ f_ μ_ l_ => ∃ (times8 : (List Int)) (A20 : Option Addr) (c20 : Nat) (ch12 : Seg), times8 = o_ ∧ SubFr ((13, .slice A20 times8.length c20) :: keepF [7] f) f_ ∧ SegSub (ch12 :: selS [] 2 l) l_ ∧ Own rInt 3 μ_ (.slice A20 times8.length c20) times8 ch12) ?_ ?_
  · intro _ h15281 h
    refine Lp h15281 (fun f l (j_ : (List Int) × Int) f_ μ_ l_ => ounP j_ fun times3 v6 => ∃ (A14 : Option Addr) (c14 : Nat) (ch6 : Seg), SubFr ((13, .slice A14 times3.length c14) :: (86, .int .i64 v6) :: keepF [7, 84, 85] f) f_ ∧ SegSub (ch6 :: selS [] 2 l) l_ ∧ Own rInt 3 μ_ (.slice A14 times3.length c14) times3 ch6) ⟨A13, c13, ch5, fE E, sE [some 1] 2 E, (hO5)⟩ ?_
    rintro ⟨times3, v6⟩ _ _ _ _ hm15303 ⟨A14, c14, ch6, hF15303, hS15303, hO6⟩ hb15303 hq15303
    unfold tour_plan_l4 at hb15303
    replace hb15303 := oun_mk hb15303
    replace hA4 := hA4.mono hm15303
    refine Atn 1 hF15303 hS15303 E E (G0 5 E ?_)
    refine Br hb15303 87 E E (fun hc12 hb15303 => ?_) (fun hc12 hb15303 => ?_)
    · refine G2 3 [87] [] [] E ?_
      refine Cut hb15303 (fun f l o_ f_ μ_ l_ => ∃ (times7 : (List Int)) (A19 : Option Addr) (c19 : Nat) (ch11 : Seg), times7 = o_ ∧ SubFr ((13, .slice A19 times7.length c19) :: keepF [7, 84, 85, 86] f) f_ ∧ SegSub (ch11 :: selS [] 1 l) l_ ∧ Own rInt 3 μ_ (.slice A19 times7.length c19) times7 ch11) ?_ ?_
      · intro _ h15306 hb15303
        refine G0 3 E (Ix h15306 (ArrR.rds hA4 L) E E fun _ _ _ _ hr5 hc13 _ h15306 => ?_)
        obtain ⟨_, _, rfl, _, hA16⟩ := hr5
        refine Q3 1 [] [] [64] (Z1 (hc13.push)) E (Al E fun _ => Q1 9 [0, 0] E ?_)
        refine Cut h15306 (fun f l o_ f_ μ_ l_ => ∃ (times6 : (List Int)) (A18 : Option Addr) (c18 : Nat) (ch10 : Seg), times6 = o_ ∧ SubFr ((13, .slice A18 times6.length c18) :: keepF [7, 84, 85, 86] f) f_ ∧ SegSub (ch10 :: selS [] 2 l) l_ ∧ Own rInt 3 μ_ (.slice A18 times6.length c18) times6 ch10) ?_ ?_
        · intro _ h15311 h15306
          refine Lp h15311 (fun f l (j_ : (List Int) × Int) f_ μ_ l_ => ounP j_ fun times4 v7 => ∃ (A16 : Option Addr) (c16 : Nat) (ch7 : Seg), SubFr ((13, .slice A16 times4.length c16) :: (93, .int .i64 v7) :: keepF [7, 84, 85, 86, 91, 92] f) f_ ∧ SegSub (ch7 :: selS [] 2 l) l_ ∧ Own rInt 3 μ_ (.slice A16 times4.length c16) times4 ch7) ⟨A14, c14, ch6, fE E, sE [some 1] 2 E, (hO6)⟩ ?_
          rintro ⟨times4, v7⟩ _ _ μ15317 _ hm15317 ⟨A16, c16, ch7, hF15317, hS15317, hO7⟩ hb15317 hq15317
          unfold tour_plan_l3 at hb15317
          replace hb15317 := oun_mk hb15317
          replace hO6 := hO6.mono hm15317
          replace hA16 := hA16.mono hm15317
          refine Atn 1 hF15317 hS15317 E E (G0 5 E ?_)
          refine Br hb15317 94 E E (fun hc14 hb15317 => ?_) (fun hc14 hb15317 => ?_)
          · refine G2 3 [94] [] [] E ?_
            refine Cut hb15317 (fun f l o_ f_ μ_ l_ => ∃ (times5 : (List Int)) (A17 : Option Addr) (c17 : Nat) (ch9 : Seg), times5 = o_ ∧ SubFr ((13, .slice A17 times5.length c17) :: keepF [7, 84, 85, 86, 91, 92, 93] f) f_ ∧ SegSub (ch9 :: selS [] 1 l) l_ ∧ Own rInt 3 μ_ (.slice A17 times5.length c17) times5 ch9) ?_ ?_
            · intro _ h15320 hb15317
              refine G0 3 E (Ix h15320 (ArrR.rds hA16 L) E E fun x7 _ _ _ hr6 hc15 _ h15320 => ?_)
              obtain rfl := hr6
              refine Q3 8 [] [] [64] (Z1 (hc15.push)) E ?_
              refine Br h15320 98 E E (fun hc16 h15320 => ?_) (fun hc16 h15320 => ?_)
              · refine G2 4 [98] [] [] E (IxA h15320 (Own.rds hO7 0 E) E E fun x8 _ _ _ hr7 hc17 _ h15320 => ?_)
                obtain rfl := hr7
                refine Q3 2 [] [] [64] (Z1 hc17) E (IxA h15320 (Own.rds hO7 0 E) E E fun _ a8 _ hx11 hr8 _ hA19 h15320 => ?_)
                obtain rfl := hr8
                refine Q0 0 E (So E (O_store (vs := [.int .i64 (w64 (x8 + 1))]) E E E E E E ?_))
                rw [← Addr.add_zero' ((a8.add (x7.toNat * 1)))]
                refine Own.store (μ := μ15317) (r := rInt) (x' := w64 (x8 + 1)) (o := 0) (sz := 1) 0 rfl hO7 hA19 hx11 rfl rfl (by rintro _ rfl; rfl) fun ch8 hO8 => ?_
                rw [← length_setI times4 x7 (w64 (x8 + 1))] at hO8 ⊢
                refine Q0 2 E ?_
                cases h15320
                exact Ce E ⟨_, A16, c16, ch8, rfl, fE E, sE [some 0] 1 E, (hO8)⟩
              refine G2 3 [] [98] [] E ?_
              cases h15320
              exact Ce E ⟨_, A16, c16, ch7, rfl, fE E, sE [some 0] 1 E, (hO7)⟩
            rintro _ _ _ _ hb15317 hm15320 ⟨times5, A17, c17, ch9, rfl, hF15320, hS15320, hO9⟩
            replace hO6 := hO6.mono hm15320
            replace hO7 := hO7.mono hm15320
            refine Atn 1 hF15320 hS15320 E E (G0 4 E ?_)
            cases hb15317
            exact Ce E ⟨_, rfl, A17, c17, ch9, fE E, sE [some 0] 1 E, (hO9)⟩
          refine G2 2 [] [94] [] E ?_
          cases hb15317
          have hq_ := hq15317 _ E
          subst hq_
          exact Ce E ⟨_, A16, c16, ch7, rfl, fE E, sE [some 0] 1 E, (hO7)⟩
        rintro _ _ _ _ h15306 hm15311 ⟨times6, A18, c18, ch10, rfl, hF15311, hS15311, hO10⟩
        replace hO6 := hO6.mono hm15311
        refine G0 1 E ?_
        cases h15306
        exact Ce E ⟨_, A18, c18, ch10, rfl, hF15311.tr E, hS15311.tr (sE [some 0] 1 E), (hO10)⟩
      rintro _ _ _ _ hb15303 hm15306 ⟨times7, A19, c19, ch11, rfl, hF15306, hS15306, hO11⟩
      replace hO6 := hO6.mono hm15306
      refine Atn 1 hF15306 hS15306 E E (G0 4 E ?_)
      cases hb15303
      exact Ce E ⟨_, rfl, A19, c19, ch11, fE E, sE [some 0] 1 E, (hO11)⟩
    refine G2 2 [] [87] [] E ?_
    cases hb15303
    have hq_ := hq15303 _ E
    subst hq_
    exact Ce E ⟨_, A14, c14, ch6, rfl, fE E, sE [some 0] 1 E, (hO6)⟩
  rintro _ _ _ _ h hm15281 ⟨times8, A20, c20, ch12, rfl, hF15281, hS15281, hO12⟩
  refine Atn 1 hF15281 hS15281 E E (G0 4 E (Cl E ?_))
  obtain ⟨_, hx12, h⟩ := obind h
  refine slices_ContainsFunc_int_c81_fn (Own.lenOk hO12) (Own.rds hO12 0 E) hx12 ((Q0 1 E ?_))
  refine Br h 108 E E (fun hc19 h => ?_) (fun hc19 h => ?_)
  · refine G2 6 [108] [] [] E ?_
    cases h
    exact Rt [] E E (Ug [] 1 (hR _ (hm_1.trans (hm15190.trans (hm15256.trans hm15281)))))
  refine G2 6 [] [108] [] E (Cl E ?_)
  obtain ⟨_, hx13, h⟩ := obind h
  refine slices_Contains_int_fn (Own.lenOk hO12) (Own.rds hO12 0 E) hx13 ((Q0 1 E ?_))
  refine Br h 110 E E (fun hc20 h => ?_) (fun hc20 h => ?_)
  · refine G2 6 [110] [] [] E ?_
    cases h
    exact Rt [] E E (Ug [] 1 (hR _ (hm_1.trans (hm15190.trans (hm15256.trans hm15281)))))
  refine G2 8 [] [110] [] E ?_
  cases h
  exact Rt [] E E (Ug [] 1 (hR _ (hm_1.trans (hm15190.trans (hm15256.trans hm15281)))))
theorem tour_Total_fn {F : Nat} {p1 : T_api_Problem} {x1 : T_api_Plan} {A1 : Option Addr} {c1 : Nat} {A2 : Option Addr} {c2 : Nat} {A3 : Option Addr} {c3 : Nat} {A4 : Option Addr} {c4 : Nat} {A5 : Option Addr} {c5 : Nat} {res1 : Int} {res2 : Int}
    (hl1 : p1.Road.Edges.length ≤ c1 ∧ c1 ≤ maxLen) (hA1 : ArrR r_api_Edge μ A1 p1.Road.Edges) (hl2 : p1.Vehicles.length ≤ c2 ∧ c2 ≤ maxLen) (hA2 : ArrR r_api_Vehicle μ A2 p1.Vehicles) (hl3 : p1.Demands.length ≤ c3 ∧ c3 ≤ maxLen) (hA3 : ArrR r_api_Demand μ A3 p1.Demands) (hl4 : x1.Tours.length ≤ c4 ∧ c4 ≤ maxLen) (hA4 : ArrR r_api_Tour μ A4 x1.Tours) (hl5 : x1.Left.length ≤ c5 ∧ c5 ≤ maxLen) (hA5 : ArrR rInt μ A5 x1.Left) (h : tour_Total F p1 x1 = some (res1, res2))
    (hR : ∀ (μ' : Gh) , μ.le μ' → R (.tuple #[.int .i64 res1, .int .i64 res2]) μ' (L)) :
    Fn Tryz.prog 28 [.agg #[.int .i64 p1.Road.Nodes, .slice A1 p1.Road.Edges.length c1, .slice A2 p1.Vehicles.length c2, .slice A3 p1.Demands.length c3, .int .i64 p1.Unload, .int .i64 p1.UnloadSecs], .agg #[.slice A4 x1.Tours.length c4, .slice A5 x1.Left.length c5]] μ (L) R := by
  unfold tour_Total at h
  refine FnS Tryz.func28 (by kernel_rfl) E Tryz.ntmps28 E E ?_
  refine G0 2 E (Al E fun _ => Q0 0 E (Al E fun _ => Q1 7 [1, 0] E (Cl E ?_)))
  obtain ⟨⟨_, _⟩, hx1, h⟩ := obind h
  replace h := oun_mk h
  refine tour_plan_fn hl1 hA1 hl2 hA2 hl3 hA3 hl4 hA4 hl5 hA5 hx1 (fun _ hm_1 => ?_)
  refine Q0 5 E ?_
  cases h
  exact Rt [] E E (Ug [] 2 (hR _ hm_1))
theorem dispatch_of_fn  {x1 : T_api_Plan} {v1 : Int} {A1 : Option Addr} {c1 : Nat} {A2 : Option Addr} {c2 : Nat} {res1 : T_api_Tour}
    (hl1 : x1.Tours.length ≤ c1 ∧ c1 ≤ maxLen) (hA1 : ArrR r_api_Tour μ A1 x1.Tours) (hl2 : x1.Left.length ≤ c2 ∧ c2 ≤ maxLen) (hA2 : ArrR rInt μ A2 x1.Left) (h : dispatch_of x1 v1 = some res1)
    (hR : ∀ (A0_1 : Option Addr) (c0_1 : Nat), (res1.Stops.length ≤ c0_1 ∧ c0_1 ≤ maxLen) → ArrR rInt μ A0_1 res1.Stops → R (.agg #[.int .i64 res1.Vehicle, .slice A0_1 res1.Stops.length c0_1]) μ (L)) :
    Fn Tryz.prog 69 [.agg #[.slice A1 x1.Tours.length c1, .slice A2 x1.Left.length c2], .int .i64 v1] μ (L) R := by
  unfold dispatch_of at h
  refine FnS Tryz.func69 (by kernel_rfl) E Tryz.ntmps69 E E ?_
  refine G0 2 E (Al E fun _ => Q0 0 E (Al E fun _ => Q1 9 [1] E ?_))
  refine Cut h (fun f l o_ f_ μ_ l_ => (.inl ()) = o_ ∧ SubFr (keepF [1, 4] f) f_ ∧ SegSub (selS [some 0] 2 l) l_ ∧ μ = μ_) ?_ ?_
  · intro _ h15410 h
    refine Lp h15410 (fun f l (v2 : Int) f_ μ_ l_ => SubFr ((10, .int .i64 v2) :: keepF [1, 4, 8, 9] f) f_ ∧ SegSub (selS [some 0] 2 l) l_ ∧ μ = μ_) ⟨fE E, sE [some 0] 2 E, E⟩ ?_
    rintro v2 _ _ _ _ _ ⟨hF15421, hS15421, rfl⟩ hb15421 hq15421
    unfold dispatch_of_l1 at hb15421
    refine Atn 1 hF15421 hS15421 E E (G0 5 E ?_)
    refine Br hb15421 11 E E (fun hc1 hb15421 => ?_) (fun hc1 hb15421 => ?_)
    · refine G2 6 [11] [] [] E (Ix hb15421 (ArrR.rds hA1 L) E E fun _ _ _ _ hr1 hc2 _ hb15421 => ?_)
      obtain ⟨A3, c3, rfl, hl3, hA4⟩ := hr1
      refine Q3 1 [] [] [64] (Z1 (hc2.push)) E (Al E fun _ => Q1 9 [0, 0] E ?_)
      refine Br hb15421 17 E E (fun hc3 hb15421 => ?_) (fun hc3 hb15421 => ?_)
      · refine G2 6 [17] [] [0, 1] E ?_
        cases hb15421
        have hq_ := hq15421 _ E
        subst hq_
        replace h := osum_r h
        cases h
        exact Rt [1] E E (Ug [] 2 (hR A3 c3 hl3 hA4))
      refine G2 7 [] [17] [] E ?_
      cases hb15421
      exact Ce E ⟨_, rfl, fE E, sE [some 1] 2 E, rfl⟩
    refine G2 2 [] [11] [] E ?_
    cases hb15421
    have hq_ := hq15421 _ E
    subst hq_
    exact Ce E ⟨rfl, fE E, sE [some 0] 1 E, rfl⟩
  rintro _ _ _ _ h _ ⟨rfl, hF15410, hS15410, rfl⟩
  replace h := osum_l h
  refine Atn 1 hF15410 hS15410 E E (G1 6 [0] E ?_)
  cases h
  exact Rt [0] E E (Ug [] 1 (hR none 0 ⟨Nat.le_refl _, Nat.zero_le _⟩ ArrR.nil))
theorem dispatch_without_1_fn  {k1 : Int} {b1 : Int} {g1 : Nat} {res1 : Bool}
     (h : dispatch_without_1 k1 b1 = some res1)
    (hR : R (.bool res1) μ ([(g1, .cells #[.int .i64 b1] 3 (0, 0))] :: L)) :
    Fn Tryz.prog 116 [.int .i64 k1, .pointer (some ⟨g1, 0, none⟩)] μ ([(g1, .cells #[.int .i64 b1] 3 (0, 0))] :: L) R := by
  unfold dispatch_without_1 at h
  refine FnS Tryz.func116 (by kernel_rfl) E Tryz.ntmps116 E E ?_
  refine G1 11 [0] E ?_
  cases h
  exact Rt [] E E (Ug [[0]] 1 hR)
theorem slices_IndexFunc_int_c116_fn  {s1 : (List Int)} {b1 : Int} {A1 : Option Addr} {c1 : Nat} {g1 : Nat} {res1 : Int}
    (hl1 : s1.length ≤ c1 ∧ c1 ≤ maxLen) (hA1 : Rds rInt μ L A1 s1) (h : slices_IndexFunc_int_c116 s1 b1 = some res1)
    (hR : R (.int .i64 res1) μ ([(g1, .cells #[.int .i64 b1] 3 (0, 0))] :: L)) :
    Fn Tryz.prog 106 [.slice A1 s1.length c1, .func (.func 116) #[] #[.pointer (some ⟨g1, 0, none⟩)]] μ ([(g1, .cells #[.int .i64 b1] 3 (0, 0))] :: L) R := by
  unfold slices_IndexFunc_int_c116 at h
  refine FnS Tryz.func106 (by kernel_rfl) E Tryz.ntmps106 E E ?_
  refine G0 11 E ?_
  refine Cut h (fun f l o_ f_ μ_ l_ => (.inl ()) = o_ ∧ SubFr ([]) f_ ∧ SegSub l l_ ∧ μ = μ_) ?_ ?_
  · intro _ h15447 h
    refine Lp h15447 (fun f l (v1 : Int) f_ μ_ l_ => SubFr ((8, .int .i64 v1) :: keepF [0, 1, 7] f) f_ ∧ SegSub l l_ ∧ μ = μ_) ⟨fE E, sE [some 0] 1 E, E⟩ ?_
    rintro v1 _ _ _ _ _ ⟨hF15454, hS15454, rfl⟩ hb15454 hq15454
    unfold slices_IndexFunc_int_c116_l1 at hb15454
    refine Atn 1 hF15454 hS15454 E E (G0 5 E ?_)
    refine Br hb15454 9 E E (fun hc1 hb15454 => ?_) (fun hc1 hb15454 => ?_)
    · refine G2 14 [9] [] [] E (Ix hb15454 hA1 E E fun _ _ _ _ hr1 hc2 _ hb15454 => ?_)
      obtain rfl := hr1
      refine Q3 1 [] [] [64] (Z1 (hc2.push)) E (Cl E ?_)
      obtain ⟨_, hx2, hb15454⟩ := obind hb15454
      refine dispatch_without_1_fn  hx2 ((Q0 1 E ?_))
      refine Br hb15454 16 E E (fun hc3 hb15454 => ?_) (fun hc3 hb15454 => ?_)
      · refine G2 6 [16] [] [] E ?_
        cases hb15454
        have hq_ := hq15454 _ E
        subst hq_
        replace h := osum_r h
        cases h
        exact Rt [] E E (Ug [[0]] 1 hR)
      refine G2 7 [] [16] [] E ?_
      cases hb15454
      exact Ce E ⟨_, rfl, fE E, sE [some 0] 1 E, rfl⟩
    refine G2 2 [] [9] [] E ?_
    cases hb15454
    have hq_ := hq15454 _ E
    subst hq_
    exact Ce E ⟨rfl, fE E, sE [some 0] 1 E, rfl⟩
  rintro _ _ _ _ h _ ⟨rfl, hF15447, hS15447, rfl⟩
  replace h := osum_l h
  refine Atn 1 hF15447 hS15447 E E (G0 4 E ?_)
  cases h
  exact Rt [] E E (Ug [[0]] 1 hR)
theorem slices_DeleteFunc_int_c116_fn {F : Nat} {s1 : (List Int)} {b1 : Int} {A1 : Option Addr} {c1 : Nat} {ch1 : Seg} {n1 : Nat} {g1 : Nat} {res1 : (List Int)}
    (hn1 : n1 = s1.length) (hO1 : Own rInt 3 μ (.slice A1 n1 c1) s1 ch1) (h : slices_DeleteFunc_int_c116 F s1 b1 = some res1)
    (hR : ∀ (ch0 : Seg), Own rInt 3 μ (.slice A1 res1.length c1) res1 ch0 → R (.slice A1 res1.length c1) μ (ch0 :: [(g1, .cells #[.int .i64 b1] 3 (0, 0))] :: L)) :
    Fn Tryz.prog 114 [.slice A1 n1 c1, .func (.func 116) #[] #[.pointer (some ⟨g1, 0, none⟩)]] μ (ch1 :: [(g1, .cells #[.int .i64 b1] 3 (0, 0))] :: L) R := by
  unfold slices_DeleteFunc_int_c116 at h
  subst hn1
  have hn1 : s1.length = s1.length := rfl
  refine FnS Tryz.func114 (by kernel_rfl) E Tryz.ntmps114 E E ?_
  refine G0 8 E (Cl E (Fn.gp [[1], [0]] 2 2 E ?_))
  obtain ⟨_, hx1, h⟩ := obind h
  refine slices_IndexFunc_int_c116_fn (Own.lenOk hO1) (Own.rds hO1 0 E) hx1 ((Q0 8 E ?_))
  refine Br h 12 E E (fun hc1 h => ?_) (fun hc1 h => ?_)
  · refine G2 6 [12] [] [] E ?_
    cases h
    exact Rt [] E E (Ug [[1], [0]] 2 (hR ch1 hO1))
  refine G2 9 [] [12] [] E ?_
  refine Cut h (fun f l o_ f_ μ_ l_ => ∃ (s4 : (List Int)) (i3 : Int) (ch5 : Seg), (s4, i3) = o_ ∧ SubFr ((5, .int .i64 i3) :: keepF [0] f) f_ ∧ SegSub (ch5 :: selS [some 0] 2 l) l_ ∧ s1.length = s4.length ∧ Own rInt 3 μ_ (.slice A1 s1.length c1) s4 ch5 ∧ μ = μ_) ?_ ?_
  · intro _ h15479 h
    refine Lp h15479 (fun f l (j_ : (List Int) × Int × Int) f_ μ_ l_ => ounP j_ fun s2 j_ => ounP j_ fun i1 j1 => ∃ (ch2 : Seg), SubFr ((5, .int .i64 i1) :: (6, .int .i64 j1) :: keepF [0, 1] f) f_ ∧ SegSub (ch2 :: selS [some 0] 2 l) l_ ∧ s1.length = s2.length ∧ Own rInt 3 μ_ (.slice A1 s1.length c1) s2 ch2 ∧ μ = μ_) ⟨ch1, fE E, sE [some 1, some 0] 2 E, (hn1), (hO1), E⟩ ?_
    rintro ⟨s2, i1, j1⟩ _ _ _ _ _ ⟨ch2, hF15491, hS15491, hn2, hO2, rfl⟩ hb15491 hq15491
    unfold slices_DeleteFunc_int_c116_l1 at hb15491
    replace hb15491 := oun_mk hb15491
    replace hb15491 := oun_mk hb15491
    refine Atn 2 hF15491 hS15491 E E (G0 8 E ?_)
    refine Br hb15491 19 E E (fun hc2 hb15491 => ?_) (fun hc2 hb15491 => ?_)
    · refine G2 3 [19] [] [] E ?_
      refine Cut hb15491 (fun f l o_ f_ μ_ l_ => ∃ (s3 : (List Int)) (i2 : Int) (ch4 : Seg), (s3, i2) = o_ ∧ SubFr ((5, .int .i64 i2) :: keepF [0, 1, 6] f) f_ ∧ SegSub (ch4 :: selS [] 1 l) l_ ∧ s1.length = s3.length ∧ Own rInt 3 μ_ (.slice A1 s1.length c1) s3 ch4 ∧ μ = μ_) ?_ ?_
      · intro _ h15496 hb15491
        refine G0 5 E (IxN hn2 h15496 (Own.rds (L := (ch2 :: [(g1, .cells #[.int .i64 b1] 3 (0, 0))] :: L)) hO2 0 E) E E fun x1 _ _ _ hr1 hc3 _ h15496 => ?_)
        obtain rfl := hr1
        refine Q3 7 [] [] [64] (Z1 hc3) E (Cl E (Fn.gp [[1], [0]] 2 2 E ?_))
        obtain ⟨_, hx3, h15496⟩ := obind h15496
        refine dispatch_without_1_fn  hx3 ((Q0 2 E ?_))
        refine Br h15496 29 E E (fun hc4 h15496 => ?_) (fun hc4 h15496 => ?_)
        · refine G2 6 [29] [] [] E (IxN hn2 h15496 (Own.rds (L := ([(g1, .cells #[.int .i64 b1] 3 (0, 0))] :: ch2 :: L)) hO2 1 E) E E fun _ a2 _ hx4 hr2 _ hA2 h15496 => ?_)
          obtain rfl := hr2
          refine Q0 0 E (So E (O_store (vs := [.int .i64 x1]) E E E E E E ?_))
          rw [← Addr.add_zero' ((a2.add (i1.toNat * 1)))]
          refine Own.store (μ := μ) (r := rInt) (x' := x1) (o := 0) (sz := 1) 1 rfl hO2 hA2 hx4 rfl rfl (by rintro _ rfl; rfl) fun ch3 hO3 => ?_
          have hn3 := hn2.trans (length_setI s2 i1 x1).symm
          refine Q0 7 E ?_
          cases h15496
          exact Ce E ⟨_, _, ch3, rfl, fE E, sE [some 1, some 0] 2 E, (hn3), (hO3), rfl⟩
        refine G2 3 [] [29] [] E ?_
        cases h15496
        exact Ce E ⟨_, _, ch2, rfl, fE E, sE [some 1, some 0] 2 E, (hn2), (hO2), rfl⟩
      rintro _ _ _ _ hb15491 _ ⟨s3, i2, ch4, rfl, hF15496, hS15496, hn4, hO4, rfl⟩
      replace hb15491 := oun_mk hb15491
      refine Atn 2 hF15496 hS15496 E E (G0 5 E ?_)
      cases hb15491
      exact Ce E ⟨_, rfl, ch4, fE E, sE [some 0, some 1] 2 E, (hn4), (hO4), rfl⟩
    refine G2 2 [] [19] [] E ?_
    cases hb15491
    have hq_ := hq15491 _ E
    subst hq_
    exact Ce E ⟨_, _, ch2, rfl, fE E, sE [some 0, some 1] 2 E, (hn2), (hO2), rfl⟩
  rintro _ _ _ _ h _ ⟨s4, i3, ch5, rfl, hF15479, hS15479, hn5, hO5, rfl⟩
  replace h := oun_mk h
  refine Atn 2 hF15479 hS15479 E E (G0 4 E ?_)
  rw [hn5] at hO5 ⊢
  obtain ⟨_, hs1, h⟩ := obind h
  refine Rdo E E (R_slLoS (r := rInt) E E E E E E E (Own.lenOk hO5).1 hs1 fun _ hAe1 => ?_)
  have hA3 := Rds.sub (Own.rds (L := (ch5 :: [(g1, .cells #[.int .i64 b1] 3 (0, 0))] :: L)) hO5 0 E) (Own.lenOk hO5).1 hs1 hAe1
  have hl1 := subLen (Own.lenOk hO5) hs1
  refine Q0 0 E (So E (O_clear E (sem_clear (z := 0) (zc := [.int .i64 0]) Tt_ok E E E E E (E) 0 E hO5 hs1 hAe1 fun ch6 hO6 => ?_)))
  rw [← length_clrO s4 i3 0] at hO6 ⊢
  obtain ⟨_, hs2, h⟩ := obind h
  refine Q0 5 E (Rdo E E (R_slHiS E E E E E E (Own.lenOk hO6).1 hs2 ?_))
  have hA4 := Rds.pre (Own.rds (L := (ch6 :: [(g1, .cells #[.int .i64 b1] 3 (0, 0))] :: L)) hO6 0 E) hs2
  have hl2 := preLen (Own.lenOk hO6) hs2
  refine Q0 2 E ?_
  cases h
  exact Rt [] E E (Ug [[0], [1]] 2 (hR ch6 (Own.cut hO6 hs2)))
theorem dispatch_without_fn {F : Nat} {l1 : (List Int)} {n1 : Int} {A1 : Option Addr} {c1 : Nat} {res1 : (List Int)}
    (hl1 : l1.length ≤ c1 ∧ c1 ≤ maxLen) (hA1 : Rds rInt μ L A1 l1) (h : dispatch_without F l1 n1 = some res1)
    (hR : ∀ (A0 : Option Addr) (c0 : Nat) (ch0 : Seg), Own rInt 3 μ (.slice A0 res1.length c0) res1 ch0 → R (.slice A0 res1.length c0) μ (ch0 :: L)) :
    Fn Tryz.prog 92 [.slice A1 l1.length c1, .int .i64 n1] μ (L) R := by
  unfold dispatch_without at h
  refine FnS Tryz.func92 (by kernel_rfl) E Tryz.ntmps92 E E ?_
  refine G0 2 E (Al E fun _ => Q0 5 E (Cl E ?_))
  obtain ⟨_, hs1, h⟩ := obind h
  refine cloneR (r := rInt) clone_f115 E E (Rds.push hA1) hs1 fun A2 c2 _ hO1 => Q0 1 E (Cl E ?_)
  obtain ⟨_, hx1, h⟩ := obind h
  refine slices_DeleteFunc_int_c116_fn E hO1 hx1 (fun ch2 hO2 => Q0 2 E ?_)
  cases h
  exact Rt [] E E (Ug [[0]] 2 (hR A2 c2 ch2 hO2))
theorem insert_Best_fn {F : Nat} {p1 : T_api_Problem} {t1 : T_api_Tour} {d1 : Int} {A1 : Option Addr} {c1 : Nat} {A2 : Option Addr} {c2 : Nat} {A3 : Option Addr} {c3 : Nat} {A4 : Option Addr} {c4 : Nat} {res1 : T_api_Tour} {res2 : Int}
    (hl1 : p1.Road.Edges.length ≤ c1 ∧ c1 ≤ maxLen) (hA1 : ArrR r_api_Edge μ A1 p1.Road.Edges) (hl2 : p1.Vehicles.length ≤ c2 ∧ c2 ≤ maxLen) (hA2 : ArrR r_api_Vehicle μ A2 p1.Vehicles) (hl3 : p1.Demands.length ≤ c3 ∧ c3 ≤ maxLen) (hA3 : ArrR r_api_Demand μ A3 p1.Demands) (hl4 : t1.Stops.length ≤ c4 ∧ c4 ≤ maxLen) (hA4 : ArrR rInt μ A4 t1.Stops) (h : insert_Best F p1 t1 d1 = some (res1, res2))
    (hR : ∀ (μ' : Gh) (A0_1 : Option Addr) (c0_1 : Nat), μ.le μ' → (res1.Stops.length ≤ c0_1 ∧ c0_1 ≤ maxLen) → ArrR rInt μ' A0_1 res1.Stops → R (.tuple #[.agg #[.int .i64 res1.Vehicle, .slice A0_1 res1.Stops.length c0_1], .int .i64 res2]) μ' (L)) :
    Fn Tryz.prog 23 [.agg #[.int .i64 p1.Road.Nodes, .slice A1 p1.Road.Edges.length c1, .slice A2 p1.Vehicles.length c2, .slice A3 p1.Demands.length c3, .int .i64 p1.Unload, .int .i64 p1.UnloadSecs], .agg #[.int .i64 t1.Vehicle, .slice A4 t1.Stops.length c4], .int .i64 d1] μ (L) R := by
  unfold insert_Best at h
  refine FnS Tryz.func23 (by kernel_rfl) E Tryz.ntmps23 E E ?_
  refine G0 2 E (Al E fun _ => Q0 0 E (Al E fun _ => Q0 0 E (Al E fun _ => Q1 7 [2, 1] E (Cl E ?_))))
  obtain ⟨⟨_, _⟩, hx1, h⟩ := obind h
  replace h := oun_mk h
  refine insert_options_fn hl1 hA1 hl2 hA2 hl3 hA3 hl4 hA4 hx1 (fun _ _ _ _ hm_1 hO1 => ?_)
  refine Q0 12 E ?_
  refine Br h 18 E E (fun hc1 h => ?_) (fun hc1 h => ?_)
  · refine G2 8 [18] [] [1] E ?_
    cases h
    exact Rt [1] E E (Ug [] 4 (hR _ none 0 hm_1 ⟨Nat.le_refl _, Nat.zero_le _⟩ ArrR.nil))
  refine G2 9 [] [18] [] E ?_
  refine Br h 23 E E (fun hc2 h => ?_) (fun hc2 h => ?_)
  · refine G2 7 [23] [] [1] E ?_
    cases h
    exact Rt [1] E E (Ug [] 4 (hR _ none 0 hm_1 ⟨Nat.le_refl _, Nat.zero_le _⟩ ArrR.nil))
  refine G2 5 [] [23] [] E (IxA h (Own.rds hO1 0 E) E E fun _ _ _ _ hr1 hc3 _ h => ?_)
  obtain ⟨A6, c6, rfl, hl5, hA6⟩ := hr1
  refine Q3 5 [] [] [64, 1] (Z1 hc3) E ?_
  cases h
  exact Rt [1] E E (Ug [] 4 (hR _ A6 c6 hm_1 hl5 hA6))
theorem dispatch_serves_1_fn  {s1 : Int}  {res1 : Bool}
     (h : dispatch_serves_1 s1 = some res1)
    (hR : R (.bool res1) μ (L)) :
    Fn Tryz.prog 117 [.int .i64 s1] μ (L) R := by
  unfold dispatch_serves_1 at h
  refine FnS Tryz.func117 (by kernel_rfl) E Tryz.ntmps117 E E ?_
  refine G0 10 E ?_
  cases h
  exact Rt [] E E (Ug [] 0 hR)
theorem slices_IndexFunc_int_c117_fn  {s1 : (List Int)} {A1 : Option Addr} {c1 : Nat} {res1 : Int}
    (hl1 : s1.length ≤ c1 ∧ c1 ≤ maxLen) (hA1 : Rds rInt μ L A1 s1) (h : slices_IndexFunc_int_c117 s1 = some res1)
    (hR : R (.int .i64 res1) μ (L)) :
    Fn Tryz.prog 106 [.slice A1 s1.length c1, .func (.func 117) #[] #[]] μ (L) R := by
  unfold slices_IndexFunc_int_c117 at h
  refine FnS Tryz.func106 (by kernel_rfl) E Tryz.ntmps106 E E ?_
  refine G0 11 E ?_
  refine Cut h (fun f l o_ f_ μ_ l_ => (.inl ()) = o_ ∧ SubFr ([]) f_ ∧ SegSub l l_ ∧ μ = μ_) ?_ ?_
  · intro _ h15783 h
    refine Lp h15783 (fun f l (v1 : Int) f_ μ_ l_ => SubFr ((8, .int .i64 v1) :: keepF [0, 1, 7] f) f_ ∧ SegSub l l_ ∧ μ = μ_) ⟨fE E, sE [] 0 E, E⟩ ?_
    rintro v1 _ _ _ _ _ ⟨hF15785, hS15785, rfl⟩ hb15785 hq15785
    unfold slices_IndexFunc_int_c117_l1 at hb15785
    refine Atn 0 hF15785 hS15785 E E (G0 5 E ?_)
    refine Br hb15785 9 E E (fun hc1 hb15785 => ?_) (fun hc1 hb15785 => ?_)
    · refine G2 14 [9] [] [] E (Ix hb15785 hA1 E E fun _ _ _ _ hr1 hc2 _ hb15785 => ?_)
      obtain rfl := hr1
      refine Q3 1 [] [] [64] (Z1 hc2) E (Cl E ?_)
      obtain ⟨_, hx2, hb15785⟩ := obind hb15785
      refine dispatch_serves_1_fn  hx2 ((Q0 1 E ?_))
      refine Br hb15785 16 E E (fun hc3 hb15785 => ?_) (fun hc3 hb15785 => ?_)
      · refine G2 6 [16] [] [] E ?_
        cases hb15785
        have hq_ := hq15785 _ E
        subst hq_
        replace h := osum_r h
        cases h
        exact Rt [] E E (Ug [] 0 hR)
      refine G2 7 [] [16] [] E ?_
      cases hb15785
      exact Ce E ⟨_, rfl, fE E, sE [] 0 E, rfl⟩
    refine G2 2 [] [9] [] E ?_
    cases hb15785
    have hq_ := hq15785 _ E
    subst hq_
    exact Ce E ⟨rfl, fE E, sE [] 0 E, rfl⟩
  rintro _ _ _ _ h _ ⟨rfl, hF15783, hS15783, rfl⟩
  replace h := osum_l h
  refine Atn 0 hF15783 hS15783 E E (G0 4 E ?_)
  cases h
  exact Rt [] E E (Ug [] 0 hR)
theorem slices_ContainsFunc_int_c117_fn  {s1 : (List Int)} {A1 : Option Addr} {c1 : Nat} {res1 : Bool}
    (hl1 : s1.length ≤ c1 ∧ c1 ≤ maxLen) (hA1 : Rds rInt μ L A1 s1) (h : slices_ContainsFunc_int_c117 s1 = some res1)
    (hR : R (.bool res1) μ (L)) :
    Fn Tryz.prog 80 [.slice A1 s1.length c1, .func (.func 117) #[] #[]] μ (L) R := by
  unfold slices_ContainsFunc_int_c117 at h
  refine FnS Tryz.func80 (by kernel_rfl) E Tryz.ntmps80 E E ?_
  refine G0 8 E (Cl E ?_)
  obtain ⟨_, hx1, h⟩ := obind h
  refine slices_IndexFunc_int_c117_fn hl1 hA1 hx1 ((Q0 3 E ?_))
  cases h
  exact Rt [] E E (Ug [] 0 hR)
theorem dispatch_serves_fn  {t1 : T_api_Tour} {A1 : Option Addr} {c1 : Nat} {res1 : Bool}
    (hl1 : t1.Stops.length ≤ c1 ∧ c1 ≤ maxLen) (hA1 : ArrR rInt μ A1 t1.Stops) (h : dispatch_serves t1 = some res1)
    (hR : R (.bool res1) μ (L)) :
    Fn Tryz.prog 93 [.agg #[.int .i64 t1.Vehicle, .slice A1 t1.Stops.length c1]] μ (L) R := by
  unfold dispatch_serves at h
  refine FnS Tryz.func93 (by kernel_rfl) E Tryz.ntmps93 E E ?_
  refine G0 2 E (Al E fun _ => Q1 6 [0] E (Cl E ?_))
  obtain ⟨_, hx1, h⟩ := obind h
  refine slices_ContainsFunc_int_c117_fn hl1 (ArrR.rds hA1 _) hx1 ((Q0 2 E ?_))
  cases h
  exact Rt [] E E (Ug [] 1 hR)
end Go.Proofs.YthpgjbbjpfiniaaGreat
