/- Printed by gen2.py of this repo: the walks that tie the functions to their specifications. -/
import Derived.Test.YtfekfbcghnlohaaTt
import Derived.Test.YtfekfbcghnlohaaTas
import Derived.Test.YtfekfbcghnlohaaTaw1
namespace Go.Proofs.Ytfekfbcghnlohaa
open Go.RowKit
set_option linter.unusedSimpArgs false
set_option linter.unusedVariables false
set_option maxHeartbeats 2000000
set_option maxRecDepth 4000
attribute [local irreducible] WP SemOk SemU Fn AN Upd vcR vcO vcOps vcPlan putK fillK resK inBlk forkOne Cell StAt Kept KS

variable {μ : Gh} {L : List Seg} {R : Value → Gh → List Seg → Prop}
theorem slices_swapRangeCmpFunc_option_c38_fn  {data1 : (List T_insert_option)} {a1 : Int} {b1 : Int} {n2 : Int} {A1 : Option Addr} {c1 : Nat} {ch1 : Seg} {n1 : Nat} {res1 : (List T_insert_option)}
    (hn1 : n1 = data1.length) (hO1 : Own r_insert_option 65 μ (.slice A1 n1 c1) data1 ch1) (h : slices_swapRangeCmpFunc_option_c38 data1 a1 b1 n2 = some res1)
    (hR : ∀ (sp0 : Seg), Own r_insert_option 65 μ (.slice A1 n1 c1) res1 sp0 → n1 = res1.length → R (.tuple #[]) μ (sp0 :: L)) :
    Fn Try.prog 86 [.slice A1 n1 c1, .int .i64 a1, .int .i64 b1, .int .i64 n2, .func (.func 38) #[] #[]] μ (ch1 :: L) R := by
  unfold slices_swapRangeCmpFunc_option_c38 at h
  subst hn1
  have hn1 : data1.length = data1.length := rfl
  refine FnS Try.func86 (by kernel_rfl) E Try.ntmps86 E E ?_
  refine G0 4 E ?_
  refine Cut h (fun f l o_ f_ μ_ l_ => ∃ (data4 : (List T_insert_option)) (ch6 : Seg), data4 = o_ ∧ SubFr ([]) f_ ∧ SegSub (ch6 :: selS [] 1 l) l_ ∧ data1.length = data4.length ∧ Own r_insert_option 65 μ_ (.slice A1 data1.length c1) data4 ch6 ∧ μ = μ_) ?_ ?_
  · intro _ h10214 h
    refine Lp h10214 (fun f l (j_ : (List T_insert_option) × Int) f_ μ_ l_ => ounP j_ fun data2 i1 => ∃ (ch2 : Seg), SubFr ((10, .int .i64 i1) :: keepF [0, 1, 2, 3] f) f_ ∧ SegSub (ch2 :: selS [] 1 l) l_ ∧ data1.length = data2.length ∧ Own r_insert_option 65 μ_ (.slice A1 data1.length c1) data2 ch2 ∧ μ = μ_) ⟨ch1, fE E, sE [some 0] 1 E, (hn1), (hO1), E⟩ ?_
    rintro ⟨data2, i1⟩ _ _ _ _ _ ⟨ch2, hF10568, hS10568, hn2, hO2, rfl⟩ hb10568 hq10568
    unfold slices_swapRangeCmpFunc_option_c38_l1 at hb10568
    replace hb10568 := oun_mk hb10568
    refine Atn 1 hF10568 hS10568 E E (G0 7 E ?_)
    refine Br hb10568 13 E E (fun hc1 hb10568 => ?_) (fun hc1 hb10568 => ?_)
    · refine G2 4 [13] [] [] E ?_
      refine Cut hb10568 (fun f l o_ f_ μ_ l_ => ∃ (data3 : (List T_insert_option)) (ch5 : Seg), data3 = o_ ∧ SubFr (keepF [0, 1, 2, 3, 10] f) f_ ∧ SegSub (ch5 :: selS [] 1 l) l_ ∧ data1.length = data3.length ∧ Own r_insert_option 65 μ_ (.slice A1 data1.length c1) data3 ch5 ∧ μ = μ_) ?_ ?_
      · intro _ h10720 hb10568
        refine Cd (WP.draw (id := 3) wide (L) (Kp [] 1 E) E (AN.run (fuel := 8) (listed' := [true, true, true, true, true, true, true, true, true, true, true, true, false, false, true, true, true, true, false, false, false, false, false, false]) Tt_ok [(true, 0), (true, 1), (true, 2), (true, 3), (true, 4), (true, 5), (true, 6), (true, 7), (true, 8), (true, 9), (true, 10), (true, 11), (true, 14), (true, 15), (true, 16), (true, 17)] (by kernel_rfl) (by kernel_rfl) E (PL_t E (R_move E (Pt E E (R_move E (Pt E E (R_move E (Pt E E (R_add E E (Pt E E (R_move E (P_some E ?_)))))))))))))
        refine PL_t E (R_move E (Pt E E (R_move E (Pt E E (R_add E E (Pt E E (R_move E (Pt E E (R_move E (Pt E E (R_move E (P_some E ?_))))))))))))
        refine PL_t E (R_add E E (Pt E E (R_move E (Pt E E (R_move E (Pt E E (R_move E (Pt E E (R_add E E (P_some E (PL_nil ?_)))))))))))
        refine FK_2 Tt_ok (a := 12) (b := 18) (by kernel_rfl) ?_ ?_
        · apply FO_; exact rfl; exact rfl
          obtain ⟨x1, hx1, h10720⟩ := obind h10720
          obtain ⟨a2, cs1, hA1, hr1, _, hc2⟩ := Rds.getI (Own.rds (L := (ch2 :: L)) hO2 0 rfl) hx1
          obtain ⟨A2, c2, rfl, hl1, hA2⟩ := hr1
          refine O_read E (R_iaG E E E E E E ⟨(getI_lt hx1).1, lenN hn2 (getI_lt hx1).2.1⟩ hA1 ?_)
          refine ⟨Kp [] 1 E, ?_⟩
          apply P_some; exact rfl
          refine FK_2 Tt_ok (a := 13) (b := 18) (by kernel_rfl) ?_ ?_
          · refine FO_ E E (O_read E (R_loadA E E E E (Ex.mk [.int .i64 x1.tour.Vehicle, .slice A2 x1.tour.Stops.length c2, .int .i64 x1.cost] ⟨rfl, hc2⟩ ?_)))
            refine ⟨Kp [] 1 E, ?_⟩
            refine P_some E (AN.run (fuel := 0) (listed' := [true, true, true, true, true, true, true, true, true, true, true, true, true, true, true, true, true, true, true, true, true, true, true, true]) Tt_ok [(false, 18), (false, 19), (false, 20), (false, 21), (false, 22), (false, 23)] (by kernel_rfl) (by kernel_rfl) E (PL_f E ?_))
            obtain ⟨x2, hx2, h10720⟩ := obind h10720
            obtain ⟨a3, cs2, hA3, hr2, _, hc3⟩ := Rds.getI (Own.rds (L := (ch2 :: L)) hO2 0 rfl) hx2
            obtain ⟨A3, c3, rfl, hl2, hA4⟩ := hr2
            refine O_read E (R_iaG E E E E E E ⟨(getI_lt hx2).1, lenN hn2 (getI_lt hx2).2.1⟩ hA3 ?_)
            refine ⟨Kp [] 1 E, ?_⟩
            refine P_some E (PL_f E (O_read E (R_loadA E E E E (Ex.mk [.int .i64 x2.tour.Vehicle, .slice A3 x2.tour.Stops.length c3, .int .i64 x2.cost] ⟨rfl, hc3⟩ ?_))))
            refine ⟨Kp [] 1 E, ?_⟩
            refine P_some E (PL_f E ?_)
            obtain ⟨x3, hx3, h10720⟩ := obind h10720
            obtain ⟨a4, cs3, hA5, hr3, _, hc4⟩ := Rds.getI (Own.rds (L := (ch2 :: L)) hO2 0 rfl) hx3
            obtain ⟨A4, c4, rfl, hl3, hA6⟩ := hr3
            refine O_read E (R_iaG E E E E E E ⟨(getI_lt hx3).1, lenN hn2 (getI_lt hx3).2.1⟩ hA5 ?_)
            refine ⟨Kp [] 1 E, ?_⟩
            refine P_some E (PL_f E (O_store (vs := [.int .i64 x1.tour.Vehicle, .slice A2 x1.tour.Stops.length c2, .int .i64 x1.cost]) E E E E E E ?_))
            rw [← Addr.add_zero' ((a4.add ((w64 (a1 + i1)).toNat * 3)))]
            refine Own.store (μ := μ) (r := r_insert_option) (x' := x1) (o := 0) (sz := 3) 0 rfl hO2 hA5 hx3 rfl rfl (by rintro _ ⟨A5, c5, rfl, hl4, hA7⟩; exact ⟨A2, c2, rfl, hl1, hA2⟩) fun ch3 hO3 => ?_
            have hn3 := hn2.trans (length_setI data2 (w64 (a1 + i1)) x1).symm
            refine ⟨Kp [] 1 E, ?_⟩
            refine P_none (PL_f E ?_)
            obtain ⟨x4, hx4, h10720⟩ := obind h10720
            obtain ⟨a5, cs4, hA8, hr4, _, hc5⟩ := Rds.getI (Own.rds (L := (ch3 :: L)) hO3 0 rfl) hx4
            obtain ⟨A6, c6, rfl, hl5, hA9⟩ := hr4
            refine O_read E (R_iaG E E E E E E ⟨(getI_lt hx4).1, lenN hn3 (getI_lt hx4).2.1⟩ hA8 ?_)
            refine ⟨Kp [] 1 E, ?_⟩
            refine P_some E (PL_f E (O_store (vs := [.int .i64 x2.tour.Vehicle, .slice A3 x2.tour.Stops.length c3, .int .i64 x2.cost]) E E E E E E ?_))
            rw [← Addr.add_zero' ((a5.add ((w64 (b1 + i1)).toNat * 3)))]
            refine Own.store (μ := μ) (r := r_insert_option) (x' := x2) (o := 0) (sz := 3) 0 rfl hO3 hA8 hx4 rfl rfl (by rintro _ ⟨A7, c7, rfl, hl6, hA10⟩; exact ⟨A3, c3, rfl, hl2, hA4⟩) fun ch4 hO4 => ?_
            have hn4 := hn3.trans (length_setI (setI data2 (w64 (a1 + i1)) x1) (w64 (b1 + i1)) x2).symm
            refine ⟨Kp [] 1 E, ?_⟩
            refine P_none (PL_nil (AN.done0 (by kernel_rfl) ?_))
            cases h10720
            exact Ce E ⟨_, ch4, rfl, fE E, sE [some 0] 1 E, (hn4), (hO4), rfl⟩
          obtain ⟨x2, hx2, h10720⟩ := obind h10720
          obtain ⟨x3, hx3, h10720⟩ := obind h10720
          obtain ⟨x4, hx4, h10720⟩ := obind h10720
          apply FO_; exact rfl; exact rfl
          obtain ⟨a3, cs2, hA3, hr2, _, hc3⟩ := Rds.getI (Own.rds (L := (ch2 :: L)) hO2 0 rfl) hx2
          obtain ⟨A3, c3, rfl, hl2, hA4⟩ := hr2
          refine O_read E (R_iaG E E E E E E ⟨(getI_lt hx2).1, lenN hn2 (getI_lt hx2).2.1⟩ hA3 ?_)
          refine ⟨Kp [] 1 E, ?_⟩
          apply P_some; exact rfl
          refine FK_2 Tt_ok (a := 13) (b := 19) (by kernel_rfl) ?_ ?_
          · refine FO_ E E (O_read E (R_loadA E E E E (Ex.mk [.int .i64 x1.tour.Vehicle, .slice A2 x1.tour.Stops.length c2, .int .i64 x1.cost] ⟨rfl, hc2⟩ ?_)))
            refine ⟨Kp [] 1 E, ?_⟩
            refine P_some E (AN.run (fuel := 0) (listed' := [true, true, true, true, true, true, true, true, true, true, true, true, true, true, true, true, true, true, true, true, true, true, true, true]) Tt_ok [(false, 19), (false, 20), (false, 21), (false, 22), (false, 23)] (by kernel_rfl) (by kernel_rfl) E (PL_f E (O_read E (R_loadA E E E E (Ex.mk [.int .i64 x2.tour.Vehicle, .slice A3 x2.tour.Stops.length c3, .int .i64 x2.cost] ⟨rfl, hc3⟩ ?_)))))
            refine ⟨Kp [] 1 E, ?_⟩
            refine P_some E (PL_f E ?_)
            obtain ⟨a4, cs3, hA5, hr3, _, hc4⟩ := Rds.getI (Own.rds (L := (ch2 :: L)) hO2 0 rfl) hx2
            obtain ⟨A4, c4, rfl, hl3, hA6⟩ := hr3
            refine O_read E (R_iaG E E E E E E ⟨(getI_lt hx2).1, lenN hn2 (getI_lt hx2).2.1⟩ hA5 ?_)
            refine ⟨Kp [] 1 E, ?_⟩
            refine P_some E (PL_f E (O_store (vs := [.int .i64 x1.tour.Vehicle, .slice A2 x1.tour.Stops.length c2, .int .i64 x1.cost]) E E E E E E ?_))
            rw [← Addr.add_zero' ((a4.add ((w64 (a1 + i1)).toNat * 3)))]
            refine Own.store (μ := μ) (r := r_insert_option) (x' := x1) (o := 0) (sz := 3) 0 rfl hO2 hA5 hx2 rfl rfl (by rintro _ ⟨A5, c5, rfl, hl4, hA7⟩; exact ⟨A2, c2, rfl, hl1, hA2⟩) fun ch3 hO3 => ?_
            have hn3 := hn2.trans (length_setI data2 (w64 (a1 + i1)) x1).symm
            refine ⟨Kp [] 1 E, ?_⟩
            refine P_none (PL_f E ?_)
            obtain ⟨a5, cs4, hA8, hr4, _, hc5⟩ := Rds.getI (Own.rds (L := (ch3 :: L)) hO3 0 rfl) hx4
            obtain ⟨A6, c6, rfl, hl5, hA9⟩ := hr4
            refine O_read E (R_iaG E E E E E E ⟨(getI_lt hx4).1, lenN hn3 (getI_lt hx4).2.1⟩ hA8 ?_)
            refine ⟨Kp [] 1 E, ?_⟩
            refine P_some E (PL_f E (O_store (vs := [.int .i64 x2.tour.Vehicle, .slice A3 x2.tour.Stops.length c3, .int .i64 x2.cost]) E E E E E E ?_))
            rw [← Addr.add_zero' ((a5.add ((w64 (b1 + i1)).toNat * 3)))]
            refine Own.store (μ := μ) (r := r_insert_option) (x' := x2) (o := 0) (sz := 3) 0 rfl hO3 hA8 hx4 rfl rfl (by rintro _ ⟨A7, c7, rfl, hl6, hA10⟩; exact ⟨A3, c3, rfl, hl2, hA4⟩) fun ch4 hO4 => ?_
            have hn4 := hn3.trans (length_setI (setI data2 (w64 (a1 + i1)) x1) (w64 (b1 + i1)) x2).symm
            refine ⟨Kp [] 1 E, ?_⟩
            refine P_none (PL_nil (AN.done0 (by kernel_rfl) ?_))
            cases h10720
            exact Ce E ⟨_, ch4, rfl, fE E, sE [some 0] 1 E, (hn4), (hO4), rfl⟩
          refine FO_ E E (O_read E (R_loadA E E E E (Ex.mk [.int .i64 x2.tour.Vehicle, .slice A3 x2.tour.Stops.length c3, .int .i64 x2.cost] ⟨rfl, hc3⟩ ?_)))
          refine ⟨Kp [] 1 E, ?_⟩
          refine P_some E (AN.run (fuel := 0) (listed' := [true, true, true, true, true, true, true, true, true, true, true, true, true, true, true, true, true, true, true, true, true, true, true, true]) Tt_ok [(false, 13), (false, 20), (false, 21), (false, 22), (false, 23)] (by kernel_rfl) (by kernel_rfl) E (PL_f E (O_read E (R_loadA E E E E (Ex.mk [.int .i64 x1.tour.Vehicle, .slice A2 x1.tour.Stops.length c2, .int .i64 x1.cost] ⟨rfl, hc2⟩ ?_)))))
          refine ⟨Kp [] 1 E, ?_⟩
          refine P_some E (PL_f E ?_)
          obtain ⟨a4, cs3, hA5, hr3, _, hc4⟩ := Rds.getI (Own.rds (L := (ch2 :: L)) hO2 0 rfl) hx2
          obtain ⟨A4, c4, rfl, hl3, hA6⟩ := hr3
          refine O_read E (R_iaG E E E E E E ⟨(getI_lt hx2).1, lenN hn2 (getI_lt hx2).2.1⟩ hA5 ?_)
          refine ⟨Kp [] 1 E, ?_⟩
          refine P_some E (PL_f E (O_store (vs := [.int .i64 x1.tour.Vehicle, .slice A2 x1.tour.Stops.length c2, .int .i64 x1.cost]) E E E E E E ?_))
          rw [← Addr.add_zero' ((a4.add ((w64 (a1 + i1)).toNat * 3)))]
          refine Own.store (μ := μ) (r := r_insert_option) (x' := x1) (o := 0) (sz := 3) 0 rfl hO2 hA5 hx2 rfl rfl (by rintro _ ⟨A5, c5, rfl, hl4, hA7⟩; exact ⟨A2, c2, rfl, hl1, hA2⟩) fun ch3 hO3 => ?_
          have hn3 := hn2.trans (length_setI data2 (w64 (a1 + i1)) x1).symm
          refine ⟨Kp [] 1 E, ?_⟩
          refine P_none (PL_f E ?_)
          obtain ⟨a5, cs4, hA8, hr4, _, hc5⟩ := Rds.getI (Own.rds (L := (ch3 :: L)) hO3 0 rfl) hx4
          obtain ⟨A6, c6, rfl, hl5, hA9⟩ := hr4
          refine O_read E (R_iaG E E E E E E ⟨(getI_lt hx4).1, lenN hn3 (getI_lt hx4).2.1⟩ hA8 ?_)
          refine ⟨Kp [] 1 E, ?_⟩
          refine P_some E (PL_f E (O_store (vs := [.int .i64 x2.tour.Vehicle, .slice A3 x2.tour.Stops.length c3, .int .i64 x2.cost]) E E E E E E ?_))
          rw [← Addr.add_zero' ((a5.add ((w64 (b1 + i1)).toNat * 3)))]
          refine Own.store (μ := μ) (r := r_insert_option) (x' := x2) (o := 0) (sz := 3) 0 rfl hO3 hA8 hx4 rfl rfl (by rintro _ ⟨A7, c7, rfl, hl6, hA10⟩; exact ⟨A3, c3, rfl, hl2, hA4⟩) fun ch4 hO4 => ?_
          have hn4 := hn3.trans (length_setI (setI data2 (w64 (a1 + i1)) x1) (w64 (b1 + i1)) x2).symm
          refine ⟨Kp [] 1 E, ?_⟩
          refine P_none (PL_nil (AN.done0 (by kernel_rfl) ?_))
          cases h10720
          exact Ce E ⟨_, ch4, rfl, fE E, sE [some 0] 1 E, (hn4), (hO4), rfl⟩
        obtain ⟨x1, hx1, h10720⟩ := obind h10720
        obtain ⟨x2, hx2, h10720⟩ := obind h10720
        obtain ⟨x3, hx3, h10720⟩ := obind h10720
        obtain ⟨x4, hx4, h10720⟩ := obind h10720
        apply FO_; exact rfl; exact rfl
        obtain ⟨a3, cs2, hA3, hr2, _, hc3⟩ := Rds.getI (Own.rds (L := (ch2 :: L)) hO2 0 rfl) hx2
        obtain ⟨A3, c3, rfl, hl2, hA4⟩ := hr2
        refine O_read E (R_iaG E E E E E E ⟨(getI_lt hx2).1, lenN hn2 (getI_lt hx2).2.1⟩ hA3 ?_)
        refine ⟨Kp [] 1 E, ?_⟩
        apply P_some; exact rfl
        refine FK_2 Tt_ok (a := 12) (b := 19) (by kernel_rfl) ?_ ?_
        · apply FO_; exact rfl; exact rfl
          obtain ⟨a2, cs1, hA1, hr1, _, hc2⟩ := Rds.getI (Own.rds (L := (ch2 :: L)) hO2 0 rfl) hx1
          obtain ⟨A2, c2, rfl, hl1, hA2⟩ := hr1
          refine O_read E (R_iaG E E E E E E ⟨(getI_lt hx1).1, lenN hn2 (getI_lt hx1).2.1⟩ hA1 ?_)
          refine ⟨Kp [] 1 E, ?_⟩
          apply P_some; exact rfl
          refine FK_2 Tt_ok (a := 13) (b := 19) (by kernel_rfl) ?_ ?_
          · refine FO_ E E (O_read E (R_loadA E E E E (Ex.mk [.int .i64 x1.tour.Vehicle, .slice A2 x1.tour.Stops.length c2, .int .i64 x1.cost] ⟨rfl, hc2⟩ ?_)))
            refine ⟨Kp [] 1 E, ?_⟩
            refine P_some E (AN.run (fuel := 0) (listed' := [true, true, true, true, true, true, true, true, true, true, true, true, true, true, true, true, true, true, true, true, true, true, true, true]) Tt_ok [(false, 19), (false, 20), (false, 21), (false, 22), (false, 23)] (by kernel_rfl) (by kernel_rfl) E (PL_f E (O_read E (R_loadA E E E E (Ex.mk [.int .i64 x2.tour.Vehicle, .slice A3 x2.tour.Stops.length c3, .int .i64 x2.cost] ⟨rfl, hc3⟩ ?_)))))
            refine ⟨Kp [] 1 E, ?_⟩
            refine P_some E (PL_f E ?_)
            obtain ⟨a4, cs3, hA5, hr3, _, hc4⟩ := Rds.getI (Own.rds (L := (ch2 :: L)) hO2 0 rfl) hx2
            obtain ⟨A4, c4, rfl, hl3, hA6⟩ := hr3
            refine O_read E (R_iaG E E E E E E ⟨(getI_lt hx2).1, lenN hn2 (getI_lt hx2).2.1⟩ hA5 ?_)
            refine ⟨Kp [] 1 E, ?_⟩
            refine P_some E (PL_f E (O_store (vs := [.int .i64 x1.tour.Vehicle, .slice A2 x1.tour.Stops.length c2, .int .i64 x1.cost]) E E E E E E ?_))
            rw [← Addr.add_zero' ((a4.add ((w64 (a1 + i1)).toNat * 3)))]
            refine Own.store (μ := μ) (r := r_insert_option) (x' := x1) (o := 0) (sz := 3) 0 rfl hO2 hA5 hx2 rfl rfl (by rintro _ ⟨A5, c5, rfl, hl4, hA7⟩; exact ⟨A2, c2, rfl, hl1, hA2⟩) fun ch3 hO3 => ?_
            have hn3 := hn2.trans (length_setI data2 (w64 (a1 + i1)) x1).symm
            refine ⟨Kp [] 1 E, ?_⟩
            refine P_none (PL_f E ?_)
            obtain ⟨a5, cs4, hA8, hr4, _, hc5⟩ := Rds.getI (Own.rds (L := (ch3 :: L)) hO3 0 rfl) hx4
            obtain ⟨A6, c6, rfl, hl5, hA9⟩ := hr4
            refine O_read E (R_iaG E E E E E E ⟨(getI_lt hx4).1, lenN hn3 (getI_lt hx4).2.1⟩ hA8 ?_)
            refine ⟨Kp [] 1 E, ?_⟩
            refine P_some E (PL_f E (O_store (vs := [.int .i64 x2.tour.Vehicle, .slice A3 x2.tour.Stops.length c3, .int .i64 x2.cost]) E E E E E E ?_))
            rw [← Addr.add_zero' ((a5.add ((w64 (b1 + i1)).toNat * 3)))]
            refine Own.store (μ := μ) (r := r_insert_option) (x' := x2) (o := 0) (sz := 3) 0 rfl hO3 hA8 hx4 rfl rfl (by rintro _ ⟨A7, c7, rfl, hl6, hA10⟩; exact ⟨A3, c3, rfl, hl2, hA4⟩) fun ch4 hO4 => ?_
            have hn4 := hn3.trans (length_setI (setI data2 (w64 (a1 + i1)) x1) (w64 (b1 + i1)) x2).symm
            refine ⟨Kp [] 1 E, ?_⟩
            refine P_none (PL_nil (AN.done0 (by kernel_rfl) ?_))
            cases h10720
            exact Ce E ⟨_, ch4, rfl, fE E, sE [some 0] 1 E, (hn4), (hO4), rfl⟩
          refine FO_ E E (O_read E (R_loadA E E E E (Ex.mk [.int .i64 x2.tour.Vehicle, .slice A3 x2.tour.Stops.length c3, .int .i64 x2.cost] ⟨rfl, hc3⟩ ?_)))
          refine ⟨Kp [] 1 E, ?_⟩
          refine P_some E (AN.run (fuel := 0) (listed' := [true, true, true, true, true, true, true, true, true, true, true, true, true, true, true, true, true, true, true, true, true, true, true, true]) Tt_ok [(false, 13), (false, 20), (false, 21), (false, 22), (false, 23)] (by kernel_rfl) (by kernel_rfl) E (PL_f E (O_read E (R_loadA E E E E (Ex.mk [.int .i64 x1.tour.Vehicle, .slice A2 x1.tour.Stops.length c2, .int .i64 x1.cost] ⟨rfl, hc2⟩ ?_)))))
          refine ⟨Kp [] 1 E, ?_⟩
          refine P_some E (PL_f E ?_)
          obtain ⟨a4, cs3, hA5, hr3, _, hc4⟩ := Rds.getI (Own.rds (L := (ch2 :: L)) hO2 0 rfl) hx2
          obtain ⟨A4, c4, rfl, hl3, hA6⟩ := hr3
          refine O_read E (R_iaG E E E E E E ⟨(getI_lt hx2).1, lenN hn2 (getI_lt hx2).2.1⟩ hA5 ?_)
          refine ⟨Kp [] 1 E, ?_⟩
          refine P_some E (PL_f E (O_store (vs := [.int .i64 x1.tour.Vehicle, .slice A2 x1.tour.Stops.length c2, .int .i64 x1.cost]) E E E E E E ?_))
          rw [← Addr.add_zero' ((a4.add ((w64 (a1 + i1)).toNat * 3)))]
          refine Own.store (μ := μ) (r := r_insert_option) (x' := x1) (o := 0) (sz := 3) 0 rfl hO2 hA5 hx2 rfl rfl (by rintro _ ⟨A5, c5, rfl, hl4, hA7⟩; exact ⟨A2, c2, rfl, hl1, hA2⟩) fun ch3 hO3 => ?_
          have hn3 := hn2.trans (length_setI data2 (w64 (a1 + i1)) x1).symm
          refine ⟨Kp [] 1 E, ?_⟩
          refine P_none (PL_f E ?_)
          obtain ⟨a5, cs4, hA8, hr4, _, hc5⟩ := Rds.getI (Own.rds (L := (ch3 :: L)) hO3 0 rfl) hx4
          obtain ⟨A6, c6, rfl, hl5, hA9⟩ := hr4
          refine O_read E (R_iaG E E E E E E ⟨(getI_lt hx4).1, lenN hn3 (getI_lt hx4).2.1⟩ hA8 ?_)
          refine ⟨Kp [] 1 E, ?_⟩
          refine P_some E (PL_f E (O_store (vs := [.int .i64 x2.tour.Vehicle, .slice A3 x2.tour.Stops.length c3, .int .i64 x2.cost]) E E E E E E ?_))
          rw [← Addr.add_zero' ((a5.add ((w64 (b1 + i1)).toNat * 3)))]
          refine Own.store (μ := μ) (r := r_insert_option) (x' := x2) (o := 0) (sz := 3) 0 rfl hO3 hA8 hx4 rfl rfl (by rintro _ ⟨A7, c7, rfl, hl6, hA10⟩; exact ⟨A3, c3, rfl, hl2, hA4⟩) fun ch4 hO4 => ?_
          have hn4 := hn3.trans (length_setI (setI data2 (w64 (a1 + i1)) x1) (w64 (b1 + i1)) x2).symm
          refine ⟨Kp [] 1 E, ?_⟩
          refine P_none (PL_nil (AN.done0 (by kernel_rfl) ?_))
          cases h10720
          exact Ce E ⟨_, ch4, rfl, fE E, sE [some 0] 1 E, (hn4), (hO4), rfl⟩
        refine FO_ E E (O_read E (R_loadA E E E E (Ex.mk [.int .i64 x2.tour.Vehicle, .slice A3 x2.tour.Stops.length c3, .int .i64 x2.cost] ⟨rfl, hc3⟩ ?_)))
        refine ⟨Kp [] 1 E, ?_⟩
        refine P_some E (AN.run (fuel := 0) (listed' := [true, true, true, true, true, true, true, true, true, true, true, true, true, true, true, true, true, true, true, true, true, true, true, true]) Tt_ok [(false, 12), (false, 13), (false, 20), (false, 21), (false, 22), (false, 23)] (by kernel_rfl) (by kernel_rfl) E (PL_f E ?_))
        obtain ⟨a2, cs1, hA1, hr1, _, hc2⟩ := Rds.getI (Own.rds (L := (ch2 :: L)) hO2 0 rfl) hx1
        obtain ⟨A2, c2, rfl, hl1, hA2⟩ := hr1
        refine O_read E (R_iaG E E E E E E ⟨(getI_lt hx1).1, lenN hn2 (getI_lt hx1).2.1⟩ hA1 ?_)
        refine ⟨Kp [] 1 E, ?_⟩
        refine P_some E (PL_f E (O_read E (R_loadA E E E E (Ex.mk [.int .i64 x1.tour.Vehicle, .slice A2 x1.tour.Stops.length c2, .int .i64 x1.cost] ⟨rfl, hc2⟩ ?_))))
        refine ⟨Kp [] 1 E, ?_⟩
        refine P_some E (PL_f E ?_)
        obtain ⟨a4, cs3, hA5, hr3, _, hc4⟩ := Rds.getI (Own.rds (L := (ch2 :: L)) hO2 0 rfl) hx2
        obtain ⟨A4, c4, rfl, hl3, hA6⟩ := hr3
        refine O_read E (R_iaG E E E E E E ⟨(getI_lt hx2).1, lenN hn2 (getI_lt hx2).2.1⟩ hA5 ?_)
        refine ⟨Kp [] 1 E, ?_⟩
        refine P_some E (PL_f E (O_store (vs := [.int .i64 x1.tour.Vehicle, .slice A2 x1.tour.Stops.length c2, .int .i64 x1.cost]) E E E E E E ?_))
        rw [← Addr.add_zero' ((a4.add ((w64 (a1 + i1)).toNat * 3)))]
        refine Own.store (μ := μ) (r := r_insert_option) (x' := x1) (o := 0) (sz := 3) 0 rfl hO2 hA5 hx2 rfl rfl (by rintro _ ⟨A5, c5, rfl, hl4, hA7⟩; exact ⟨A2, c2, rfl, hl1, hA2⟩) fun ch3 hO3 => ?_
        have hn3 := hn2.trans (length_setI data2 (w64 (a1 + i1)) x1).symm
        refine ⟨Kp [] 1 E, ?_⟩
        refine P_none (PL_f E ?_)
        obtain ⟨a5, cs4, hA8, hr4, _, hc5⟩ := Rds.getI (Own.rds (L := (ch3 :: L)) hO3 0 rfl) hx4
        obtain ⟨A6, c6, rfl, hl5, hA9⟩ := hr4
        refine O_read E (R_iaG E E E E E E ⟨(getI_lt hx4).1, lenN hn3 (getI_lt hx4).2.1⟩ hA8 ?_)
        refine ⟨Kp [] 1 E, ?_⟩
        refine P_some E (PL_f E (O_store (vs := [.int .i64 x2.tour.Vehicle, .slice A3 x2.tour.Stops.length c3, .int .i64 x2.cost]) E E E E E E ?_))
        rw [← Addr.add_zero' ((a5.add ((w64 (b1 + i1)).toNat * 3)))]
        refine Own.store (μ := μ) (r := r_insert_option) (x' := x2) (o := 0) (sz := 3) 0 rfl hO3 hA8 hx4 rfl rfl (by rintro _ ⟨A7, c7, rfl, hl6, hA10⟩; exact ⟨A3, c3, rfl, hl2, hA4⟩) fun ch4 hO4 => ?_
        have hn4 := hn3.trans (length_setI (setI data2 (w64 (a1 + i1)) x1) (w64 (b1 + i1)) x2).symm
        refine ⟨Kp [] 1 E, ?_⟩
        refine P_none (PL_nil (AN.done0 (by kernel_rfl) ?_))
        cases h10720
        exact Ce E ⟨_, ch4, rfl, fE E, sE [some 0] 1 E, (hn4), (hO4), rfl⟩
      rintro _ _ _ _ hb10568 _ ⟨data3, ch5, rfl, hF10720, hS10720, hn5, hO5, rfl⟩
      refine Atn 1 hF10720 hS10720 E E (G0 6 E ?_)
      cases hb10568
      exact Ce E ⟨_, rfl, ch5, fE E, sE [some 0] 1 E, (hn5), (hO5), rfl⟩
    refine G2 2 [] [13] [] E ?_
    cases hb10568
    have hq_ := hq10568 _ E
    subst hq_
    exact Ce E ⟨_, ch2, rfl, fE E, sE [some 0] 1 E, (hn2), (hO2), rfl⟩
  rintro _ _ _ _ h _ ⟨data4, ch6, rfl, hF10214, hS10214, hn6, hO6, rfl⟩
  refine Atn 1 hF10214 hS10214 E E ?_
  cases h
  exact Rt [] E E (Ug [[0]] 1 (hR _ hO6 hn6))

theorem slices_rotateCmpFunc_option_c38_fn {F : Nat} {data1 : (List T_insert_option)} {a1 : Int} {m1 : Int} {b1 : Int} {A1 : Option Addr} {c1 : Nat} {ch1 : Seg} {n1 : Nat} {res1 : (List T_insert_option)}
    (hn1 : n1 = data1.length) (hO1 : Own r_insert_option 65 μ (.slice A1 n1 c1) data1 ch1) (h : slices_rotateCmpFunc_option_c38 F data1 a1 m1 b1 = some res1)
    (hR : ∀ (sp0 : Seg), Own r_insert_option 65 μ (.slice A1 n1 c1) res1 sp0 → n1 = res1.length → R (.tuple #[]) μ (sp0 :: L)) :
    Fn Try.prog 82 [.slice A1 n1 c1, .int .i64 a1, .int .i64 m1, .int .i64 b1, .func (.func 38) #[] #[]] μ (ch1 :: L) R := by
  unfold slices_rotateCmpFunc_option_c38 at h
  subst hn1
  have hn1 : data1.length = data1.length := rfl
  refine FnS Try.func82 (by kernel_rfl) E Try.ntmps82 E E ?_
  refine G0 15 E ?_
  refine Cut h (fun f l o_ f_ μ_ l_ => ∃ (data3 : (List T_insert_option)) (i2 : Int) (ch5 : Seg), (data3, i2) = o_ ∧ SubFr ((10, .int .i64 i2) :: keepF [0, 2, 4] f) f_ ∧ SegSub (ch5 :: selS [] 1 l) l_ ∧ data1.length = data3.length ∧ Own r_insert_option 65 μ_ (.slice A1 data1.length c1) data3 ch5 ∧ μ = μ_) ?_ ?_
  · intro _ h10935 h
    refine Lp h10935 (fun f l (j_ : (List T_insert_option) × Int × Int) f_ μ_ l_ => ounP j_ fun data2 j_ => ounP j_ fun i1 j1 => ∃ (ch2 : Seg), SubFr ((10, .int .i64 i1) :: (11, .int .i64 j1) :: keepF [0, 2, 4] f) f_ ∧ SegSub (ch2 :: selS [] 1 l) l_ ∧ data1.length = data2.length ∧ Own r_insert_option 65 μ_ (.slice A1 data1.length c1) data2 ch2 ∧ μ = μ_) ⟨ch1, fE E, sE [some 0] 1 E, (hn1), (hO1), E⟩ ?_
    rintro ⟨data2, i1, j1⟩ _ _ _ _ _ ⟨ch2, hF10939, hS10939, hn2, hO2, rfl⟩ hb10939 hq10939
    unfold slices_rotateCmpFunc_option_c38_l1 at hb10939
    replace hb10939 := oun_mk hb10939
    replace hb10939 := oun_mk hb10939
    refine Atn 1 hF10939 hS10939 E E (G0 7 E ?_)
    refine Br hb10939 20 E E (fun hc1 hb10939 => ?_) (fun hc1 hb10939 => ?_)
    · refine G2 9 [20] [] [] E ?_
      refine Br hb10939 23 E E (fun hc2 hb10939 => ?_) (fun hc2 hb10939 => ?_)
      · refine G2 10 [23] [] [] E (Cl E ?_)
        obtain ⟨_, hx1, hb10939⟩ := obind hb10939
        refine slices_swapRangeCmpFunc_option_c38_fn hn2 hO2 hx1 (fun ch3 hO3 hn3 => Q0 8 E ?_)
        cases hb10939
        exact Ce E ⟨_, rfl, ch3, fE E, sE [some 0] 1 E, (hn3), (hO3), rfl⟩
      refine G2 14 [] [23] [] E (Cl E ?_)
      obtain ⟨_, hx2, hb10939⟩ := obind hb10939
      refine slices_swapRangeCmpFunc_option_c38_fn hn2 hO2 hx2 (fun ch4 hO4 hn4 => Q0 8 E ?_)
      cases hb10939
      exact Ce E ⟨_, rfl, ch4, fE E, sE [some 0] 1 E, (hn4), (hO4), rfl⟩
    refine G2 2 [] [20] [] E ?_
    cases hb10939
    have hq_ := hq10939 _ E
    subst hq_
    exact Ce E ⟨_, _, ch2, rfl, fE E, sE [some 0] 1 E, (hn2), (hO2), rfl⟩
  rintro _ _ _ _ h _ ⟨data3, i2, ch5, rfl, hF10935, hS10935, hn5, hO5, rfl⟩
  replace h := oun_mk h
  refine Atn 1 hF10935 hS10935 E E (G0 8 E (Cl E ?_))
  obtain ⟨_, hx3, h⟩ := obind h
  refine slices_swapRangeCmpFunc_option_c38_fn hn5 hO5 hx3 (fun _ hO6 hn6 => Q0 1 E ?_)
  cases h
  exact Rt [] E E (Ug [[0]] 1 (hR _ hO6 hn6))

theorem slices_symMergeCmpFunc_option_c38_fn {F : Nat} {data1 : (List T_insert_option)} {a1 : Int} {m1 : Int} {b1 : Int} {A1 : Option Addr} {c1 : Nat} {ch1 : Seg} {n1 : Nat} {res1 : (List T_insert_option)}
    (hn1 : n1 = data1.length) (hO1 : Own r_insert_option 65 μ (.slice A1 n1 c1) data1 ch1) (h : slices_symMergeCmpFunc_option_c38 F data1 a1 m1 b1 = some res1)
    (hR : ∀ (sp0 : Seg), Own r_insert_option 65 μ (.slice A1 n1 c1) res1 sp0 → n1 = res1.length → R (.tuple #[]) μ (sp0 :: L)) :
    Fn Try.prog 74 [.slice A1 n1 c1, .int .i64 a1, .int .i64 m1, .int .i64 b1, .func (.func 38) #[] #[]] μ (ch1 :: L) R := by
  induction F generalizing μ L R data1 a1 m1 b1 A1 c1 ch1 n1 res1 with
  | zero => cases h
  | succ F ih =>
  unfold slices_symMergeCmpFunc_option_c38 slices_symMergeCmpFunc_option_c38_b at h
  subst hn1
  have hn1 : data1.length = data1.length := rfl
  refine FnS Try.func74 (by kernel_rfl) E Try.ntmps74 E E ?_
  refine G0 8 E ?_
  refine Br h 28 E E (fun hc1 h => ?_) (fun hc1 h => ?_)
  · refine G2 12 [28] [] [] E ?_
    refine Cut h (fun f l o_ f_ μ_ l_ => ∃ (i2 : Int), i2 = o_ ∧ SubFr ((10, .int .i64 i2) :: keepF [0, 1] f) f_ ∧ SegSub l l_ ∧ μ = μ_) ?_ ?_
    · intro _ h12459 h
      refine Lp h12459 (fun f l (j_ : Int × Int) f_ μ_ l_ => ounP j_ fun i1 j1 => SubFr ((10, .int .i64 i1) :: (11, .int .i64 j1) :: keepF [0, 1, 4] f) f_ ∧ SegSub l l_ ∧ μ = μ_) ⟨fE E, sE [some 0] 1 E, E⟩ ?_
      rintro ⟨i1, j1⟩ _ _ _ _ _ ⟨hF12473, hS12473, rfl⟩ hb12473 hq12473
      unfold slices_symMergeCmpFunc_option_c38_l1 at hb12473
      replace hb12473 := oun_mk hb12473
      refine Atn 1 hF12473 hS12473 E E (G0 7 E ?_)
      refine Br hb12473 33 E E (fun hc2 hb12473 => ?_) (fun hc2 hb12473 => ?_)
      · refine G2 9 [33] [] [] E (Rdo E E ?_)
        obtain ⟨_, hg1, hb12473⟩ := obind hb12473
        refine R_shrD E E E (guardO_some hg1) (Q0 4 E (Dr _ Kept.refl [(true, 0), (true, 1), (true, 2), (true, 3), (true, 4), (true, 5), (true, 6), (true, 7), (true, 8), (false, 9), (true, 10)] (by kernel_rfl) (G0 3 E (IxN hn1 hb12473 (Own.rds (L := (ch1 :: L)) hO1 0 E) E E fun _ _ _ _ hr1 hc3 _ hb12473 => ?_))))
        obtain ⟨_, _, rfl, hl1, hA2⟩ := hr1
        refine Q3 3 [] [] [64] (Z1 hc3) E (IxN hn1 hb12473 (Own.rds (L := (ch1 :: L)) hO1 0 E) E E fun _ _ _ _ hr2 hc4 _ hb12473 => ?_)
        obtain ⟨_, _, rfl, hl2, hA4⟩ := hr2
        refine Q3 1 [] [] [64] (Z1 hc4) E (Cl E ?_)
        obtain ⟨_, hx3, hb12473⟩ := obind hb12473
        refine insert_options_1_fn hl1 hA2 hl2 hA4 hx3 (?_)
        refine ⟨Kept.refl, ?_⟩
        refine Q0 2 E ?_
        refine Br hb12473 50 E E (fun hc5 hb12473 => ?_) (fun hc5 hb12473 => ?_)
        · refine G2 7 [50] [] [] E ?_
          cases hb12473
          exact Ce E ⟨_, rfl, fE E, sE [some 0] 1 E, rfl⟩
        refine G2 6 [] [50] [] E ?_
        cases hb12473
        exact Ce E ⟨_, rfl, fE E, sE [some 0] 1 E, rfl⟩
      refine G2 2 [] [33] [] E ?_
      cases hb12473
      have hq_ := hq12473 _ E
      subst hq_
      exact Ce E ⟨_, rfl, fE E, sE [some 0] 1 E, rfl⟩
    rintro _ _ _ _ h _ ⟨i2, rfl, hF12459, hS12459, rfl⟩
    refine Atn 1 hF12459 hS12459 E E (G0 6 E ?_)
    refine Cut h (fun f l o_ f_ μ_ l_ => ∃ (data4 : (List T_insert_option)) (ch6 : Seg), data4 = o_ ∧ SubFr ([]) f_ ∧ SegSub (ch6 :: selS [] 1 l) l_ ∧ data1.length = data4.length ∧ Own r_insert_option 65 μ_ (.slice A1 data1.length c1) data4 ch6 ∧ μ = μ_) ?_ ?_
    · intro _ h12486 h
      refine Lp h12486 (fun f l (j_ : (List T_insert_option) × Int) f_ μ_ l_ => ounP j_ fun data2 k1 => ∃ (ch2 : Seg), SubFr ((13, .int .i64 k1) :: keepF [0, 10] f) f_ ∧ SegSub (ch2 :: selS [] 1 l) l_ ∧ data1.length = data2.length ∧ Own r_insert_option 65 μ_ (.slice A1 data1.length c1) data2 ch2 ∧ μ = μ_) ⟨ch1, fE E, sE [some 0] 1 E, (hn1), (hO1), E⟩ ?_
      rintro ⟨data2, k1⟩ _ _ _ _ _ ⟨ch2, hF12840, hS12840, hn2, hO2, rfl⟩ hb12840 hq12840
      unfold slices_symMergeCmpFunc_option_c38_l2 at hb12840
      replace hb12840 := oun_mk hb12840
      refine Atn 1 hF12840 hS12840 E E (G0 8 E ?_)
      refine Br hb12840 58 E E (fun hc6 hb12840 => ?_) (fun hc6 hb12840 => ?_)
      · refine G2 4 [58] [] [] E ?_
        refine Cut hb12840 (fun f l o_ f_ μ_ l_ => ∃ (data3 : (List T_insert_option)) (ch5 : Seg), data3 = o_ ∧ SubFr (keepF [0, 10, 13] f) f_ ∧ SegSub (ch5 :: selS [] 1 l) l_ ∧ data1.length = data3.length ∧ Own r_insert_option 65 μ_ (.slice A1 data1.length c1) data3 ch5 ∧ μ = μ_) ?_ ?_
        · intro _ h12992 hb12840
          refine Cd (WP.draw (id := 11) wide (L) (Kp [] 1 E) E (AN.run (fuel := 8) (listed' := [true, true, true, true, true, true, true, true, false, false, true, true, false, false, false, false, false, false]) Tt_ok [(true, 0), (true, 1), (true, 2), (true, 3), (true, 4), (true, 5), (true, 6), (true, 7), (true, 10), (true, 11)] (by kernel_rfl) (by kernel_rfl) E (PL_t E (R_move E (Pt E E (R_move E (Pt E E (R_move E (Pt E E (R_move E (Pt E E (R_add E E (P_some E ?_)))))))))))))
          refine PL_t E (R_move E (Pt E E (R_move E (Pt E E (R_add E E (Pt E E (R_move E (Pt E E (R_move E (P_some E (PL_nil ?_)))))))))))
          refine FK_2 Tt_ok (a := 8) (b := 12) (by kernel_rfl) ?_ ?_
          · apply FO_; exact rfl; exact rfl
            obtain ⟨x3, hx4, h12992⟩ := obind h12992
            obtain ⟨a4, cs3, hA5, hr3, _, hc7⟩ := Rds.getI (Own.rds (L := (ch2 :: L)) hO2 0 rfl) hx4
            obtain ⟨A4, c4, rfl, hl3, hA6⟩ := hr3
            refine O_read E (R_iaG E E E E E E ⟨(getI_lt hx4).1, lenN hn2 (getI_lt hx4).2.1⟩ hA5 ?_)
            refine ⟨Kp [] 1 E, ?_⟩
            apply P_some; exact rfl
            refine FK_2 Tt_ok (a := 9) (b := 12) (by kernel_rfl) ?_ ?_
            · refine FO_ E E (O_read E (R_loadA E E E E (Ex.mk [.int .i64 x3.tour.Vehicle, .slice A4 x3.tour.Stops.length c4, .int .i64 x3.cost] ⟨rfl, hc7⟩ ?_)))
              refine ⟨Kp [] 1 E, ?_⟩
              refine P_some E (AN.run (fuel := 0) (listed' := [true, true, true, true, true, true, true, true, true, true, true, true, true, true, true, true, true, true]) Tt_ok [(false, 12), (false, 13), (false, 14), (false, 15), (false, 16), (false, 17)] (by kernel_rfl) (by kernel_rfl) E (PL_f E ?_))
              obtain ⟨x4, hx5, h12992⟩ := obind h12992
              obtain ⟨a5, cs4, hA7, hr4, _, hc8⟩ := Rds.getI (Own.rds (L := (ch2 :: L)) hO2 0 rfl) hx5
              obtain ⟨A5, c5, rfl, hl4, hA8⟩ := hr4
              refine O_read E (R_iaG E E E E E E ⟨(getI_lt hx5).1, lenN hn2 (getI_lt hx5).2.1⟩ hA7 ?_)
              refine ⟨Kp [] 1 E, ?_⟩
              refine P_some E (PL_f E (O_read E (R_loadA E E E E (Ex.mk [.int .i64 x4.tour.Vehicle, .slice A5 x4.tour.Stops.length c5, .int .i64 x4.cost] ⟨rfl, hc8⟩ ?_))))
              refine ⟨Kp [] 1 E, ?_⟩
              refine P_some E (PL_f E ?_)
              obtain ⟨x5, hx6, h12992⟩ := obind h12992
              obtain ⟨a6, cs5, hA9, hr5, _, hc9⟩ := Rds.getI (Own.rds (L := (ch2 :: L)) hO2 0 rfl) hx6
              obtain ⟨A6, c6, rfl, hl5, hA10⟩ := hr5
              refine O_read E (R_iaG E E E E E E ⟨(getI_lt hx6).1, lenN hn2 (getI_lt hx6).2.1⟩ hA9 ?_)
              refine ⟨Kp [] 1 E, ?_⟩
              refine P_some E (PL_f E (O_store (vs := [.int .i64 x3.tour.Vehicle, .slice A4 x3.tour.Stops.length c4, .int .i64 x3.cost]) E E E E E E ?_))
              rw [← Addr.add_zero' ((a6.add (k1.toNat * 3)))]
              refine Own.store (μ := μ) (r := r_insert_option) (x' := x3) (o := 0) (sz := 3) 0 rfl hO2 hA9 hx6 rfl rfl (by rintro _ ⟨A7, c7, rfl, hl6, hA11⟩; exact ⟨A4, c4, rfl, hl3, hA6⟩) fun ch3 hO3 => ?_
              have hn3 := hn2.trans (length_setI data2 k1 x3).symm
              refine ⟨Kp [] 1 E, ?_⟩
              refine P_none (PL_f E ?_)
              obtain ⟨x6, hx7, h12992⟩ := obind h12992
              obtain ⟨a7, cs6, hA12, hr6, _, hc10⟩ := Rds.getI (Own.rds (L := (ch3 :: L)) hO3 0 rfl) hx7
              obtain ⟨A8, c8, rfl, hl7, hA13⟩ := hr6
              refine O_read E (R_iaG E E E E E E ⟨(getI_lt hx7).1, lenN hn3 (getI_lt hx7).2.1⟩ hA12 ?_)
              refine ⟨Kp [] 1 E, ?_⟩
              refine P_some E (PL_f E (O_store (vs := [.int .i64 x4.tour.Vehicle, .slice A5 x4.tour.Stops.length c5, .int .i64 x4.cost]) E E E E E E ?_))
              rw [← Addr.add_zero' ((a7.add ((w64 (k1 + 1)).toNat * 3)))]
              refine Own.store (μ := μ) (r := r_insert_option) (x' := x4) (o := 0) (sz := 3) 0 rfl hO3 hA12 hx7 rfl rfl (by rintro _ ⟨A9, c9, rfl, hl8, hA14⟩; exact ⟨A5, c5, rfl, hl4, hA8⟩) fun ch4 hO4 => ?_
              have hn4 := hn3.trans (length_setI (setI data2 k1 x3) (w64 (k1 + 1)) x4).symm
              refine ⟨Kp [] 1 E, ?_⟩
              refine P_none (PL_nil (AN.done0 (by kernel_rfl) ?_))
              cases h12992
              exact Ce E ⟨_, ch4, rfl, fE E, sE [some 0] 1 E, (hn4), (hO4), rfl⟩
            obtain ⟨x4, hx5, h12992⟩ := obind h12992
            obtain ⟨x5, hx6, h12992⟩ := obind h12992
            obtain ⟨x6, hx7, h12992⟩ := obind h12992
            apply FO_; exact rfl; exact rfl
            obtain ⟨a5, cs4, hA7, hr4, _, hc8⟩ := Rds.getI (Own.rds (L := (ch2 :: L)) hO2 0 rfl) hx5
            obtain ⟨A5, c5, rfl, hl4, hA8⟩ := hr4
            refine O_read E (R_iaG E E E E E E ⟨(getI_lt hx5).1, lenN hn2 (getI_lt hx5).2.1⟩ hA7 ?_)
            refine ⟨Kp [] 1 E, ?_⟩
            apply P_some; exact rfl
            refine FK_2 Tt_ok (a := 9) (b := 13) (by kernel_rfl) ?_ ?_
            · refine FO_ E E (O_read E (R_loadA E E E E (Ex.mk [.int .i64 x3.tour.Vehicle, .slice A4 x3.tour.Stops.length c4, .int .i64 x3.cost] ⟨rfl, hc7⟩ ?_)))
              refine ⟨Kp [] 1 E, ?_⟩
              refine P_some E (AN.run (fuel := 0) (listed' := [true, true, true, true, true, true, true, true, true, true, true, true, true, true, true, true, true, true]) Tt_ok [(false, 13), (false, 14), (false, 15), (false, 16), (false, 17)] (by kernel_rfl) (by kernel_rfl) E (PL_f E (O_read E (R_loadA E E E E (Ex.mk [.int .i64 x4.tour.Vehicle, .slice A5 x4.tour.Stops.length c5, .int .i64 x4.cost] ⟨rfl, hc8⟩ ?_)))))
              refine ⟨Kp [] 1 E, ?_⟩
              refine P_some E (PL_f E ?_)
              obtain ⟨a6, cs5, hA9, hr5, _, hc9⟩ := Rds.getI (Own.rds (L := (ch2 :: L)) hO2 0 rfl) hx5
              obtain ⟨A6, c6, rfl, hl5, hA10⟩ := hr5
              refine O_read E (R_iaG E E E E E E ⟨(getI_lt hx5).1, lenN hn2 (getI_lt hx5).2.1⟩ hA9 ?_)
              refine ⟨Kp [] 1 E, ?_⟩
              refine P_some E (PL_f E (O_store (vs := [.int .i64 x3.tour.Vehicle, .slice A4 x3.tour.Stops.length c4, .int .i64 x3.cost]) E E E E E E ?_))
              rw [← Addr.add_zero' ((a6.add (k1.toNat * 3)))]
              refine Own.store (μ := μ) (r := r_insert_option) (x' := x3) (o := 0) (sz := 3) 0 rfl hO2 hA9 hx5 rfl rfl (by rintro _ ⟨A7, c7, rfl, hl6, hA11⟩; exact ⟨A4, c4, rfl, hl3, hA6⟩) fun ch3 hO3 => ?_
              have hn3 := hn2.trans (length_setI data2 k1 x3).symm
              refine ⟨Kp [] 1 E, ?_⟩
              refine P_none (PL_f E ?_)
              obtain ⟨a7, cs6, hA12, hr6, _, hc10⟩ := Rds.getI (Own.rds (L := (ch3 :: L)) hO3 0 rfl) hx7
              obtain ⟨A8, c8, rfl, hl7, hA13⟩ := hr6
              refine O_read E (R_iaG E E E E E E ⟨(getI_lt hx7).1, lenN hn3 (getI_lt hx7).2.1⟩ hA12 ?_)
              refine ⟨Kp [] 1 E, ?_⟩
              refine P_some E (PL_f E (O_store (vs := [.int .i64 x4.tour.Vehicle, .slice A5 x4.tour.Stops.length c5, .int .i64 x4.cost]) E E E E E E ?_))
              rw [← Addr.add_zero' ((a7.add ((w64 (k1 + 1)).toNat * 3)))]
              refine Own.store (μ := μ) (r := r_insert_option) (x' := x4) (o := 0) (sz := 3) 0 rfl hO3 hA12 hx7 rfl rfl (by rintro _ ⟨A9, c9, rfl, hl8, hA14⟩; exact ⟨A5, c5, rfl, hl4, hA8⟩) fun ch4 hO4 => ?_
              have hn4 := hn3.trans (length_setI (setI data2 k1 x3) (w64 (k1 + 1)) x4).symm
              refine ⟨Kp [] 1 E, ?_⟩
              refine P_none (PL_nil (AN.done0 (by kernel_rfl) ?_))
              cases h12992
              exact Ce E ⟨_, ch4, rfl, fE E, sE [some 0] 1 E, (hn4), (hO4), rfl⟩
            refine FO_ E E (O_read E (R_loadA E E E E (Ex.mk [.int .i64 x4.tour.Vehicle, .slice A5 x4.tour.Stops.length c5, .int .i64 x4.cost] ⟨rfl, hc8⟩ ?_)))
            refine ⟨Kp [] 1 E, ?_⟩
            refine P_some E (AN.run (fuel := 0) (listed' := [true, true, true, true, true, true, true, true, true, true, true, true, true, true, true, true, true, true]) Tt_ok [(false, 9), (false, 14), (false, 15), (false, 16), (false, 17)] (by kernel_rfl) (by kernel_rfl) E (PL_f E (O_read E (R_loadA E E E E (Ex.mk [.int .i64 x3.tour.Vehicle, .slice A4 x3.tour.Stops.length c4, .int .i64 x3.cost] ⟨rfl, hc7⟩ ?_)))))
            refine ⟨Kp [] 1 E, ?_⟩
            refine P_some E (PL_f E ?_)
            obtain ⟨a6, cs5, hA9, hr5, _, hc9⟩ := Rds.getI (Own.rds (L := (ch2 :: L)) hO2 0 rfl) hx5
            obtain ⟨A6, c6, rfl, hl5, hA10⟩ := hr5
            refine O_read E (R_iaG E E E E E E ⟨(getI_lt hx5).1, lenN hn2 (getI_lt hx5).2.1⟩ hA9 ?_)
            refine ⟨Kp [] 1 E, ?_⟩
            refine P_some E (PL_f E (O_store (vs := [.int .i64 x3.tour.Vehicle, .slice A4 x3.tour.Stops.length c4, .int .i64 x3.cost]) E E E E E E ?_))
            rw [← Addr.add_zero' ((a6.add (k1.toNat * 3)))]
            refine Own.store (μ := μ) (r := r_insert_option) (x' := x3) (o := 0) (sz := 3) 0 rfl hO2 hA9 hx5 rfl rfl (by rintro _ ⟨A7, c7, rfl, hl6, hA11⟩; exact ⟨A4, c4, rfl, hl3, hA6⟩) fun ch3 hO3 => ?_
            have hn3 := hn2.trans (length_setI data2 k1 x3).symm
            refine ⟨Kp [] 1 E, ?_⟩
            refine P_none (PL_f E ?_)
            obtain ⟨a7, cs6, hA12, hr6, _, hc10⟩ := Rds.getI (Own.rds (L := (ch3 :: L)) hO3 0 rfl) hx7
            obtain ⟨A8, c8, rfl, hl7, hA13⟩ := hr6
            refine O_read E (R_iaG E E E E E E ⟨(getI_lt hx7).1, lenN hn3 (getI_lt hx7).2.1⟩ hA12 ?_)
            refine ⟨Kp [] 1 E, ?_⟩
            refine P_some E (PL_f E (O_store (vs := [.int .i64 x4.tour.Vehicle, .slice A5 x4.tour.Stops.length c5, .int .i64 x4.cost]) E E E E E E ?_))
            rw [← Addr.add_zero' ((a7.add ((w64 (k1 + 1)).toNat * 3)))]
            refine Own.store (μ := μ) (r := r_insert_option) (x' := x4) (o := 0) (sz := 3) 0 rfl hO3 hA12 hx7 rfl rfl (by rintro _ ⟨A9, c9, rfl, hl8, hA14⟩; exact ⟨A5, c5, rfl, hl4, hA8⟩) fun ch4 hO4 => ?_
            have hn4 := hn3.trans (length_setI (setI data2 k1 x3) (w64 (k1 + 1)) x4).symm
            refine ⟨Kp [] 1 E, ?_⟩
            refine P_none (PL_nil (AN.done0 (by kernel_rfl) ?_))
            cases h12992
            exact Ce E ⟨_, ch4, rfl, fE E, sE [some 0] 1 E, (hn4), (hO4), rfl⟩
          obtain ⟨x3, hx4, h12992⟩ := obind h12992
          obtain ⟨x4, hx5, h12992⟩ := obind h12992
          obtain ⟨x5, hx6, h12992⟩ := obind h12992
          obtain ⟨x6, hx7, h12992⟩ := obind h12992
          apply FO_; exact rfl; exact rfl
          obtain ⟨a5, cs4, hA7, hr4, _, hc8⟩ := Rds.getI (Own.rds (L := (ch2 :: L)) hO2 0 rfl) hx5
          obtain ⟨A5, c5, rfl, hl4, hA8⟩ := hr4
          refine O_read E (R_iaG E E E E E E ⟨(getI_lt hx5).1, lenN hn2 (getI_lt hx5).2.1⟩ hA7 ?_)
          refine ⟨Kp [] 1 E, ?_⟩
          apply P_some; exact rfl
          refine FK_2 Tt_ok (a := 8) (b := 13) (by kernel_rfl) ?_ ?_
          · apply FO_; exact rfl; exact rfl
            obtain ⟨a4, cs3, hA5, hr3, _, hc7⟩ := Rds.getI (Own.rds (L := (ch2 :: L)) hO2 0 rfl) hx4
            obtain ⟨A4, c4, rfl, hl3, hA6⟩ := hr3
            refine O_read E (R_iaG E E E E E E ⟨(getI_lt hx4).1, lenN hn2 (getI_lt hx4).2.1⟩ hA5 ?_)
            refine ⟨Kp [] 1 E, ?_⟩
            apply P_some; exact rfl
            refine FK_2 Tt_ok (a := 9) (b := 13) (by kernel_rfl) ?_ ?_
            · refine FO_ E E (O_read E (R_loadA E E E E (Ex.mk [.int .i64 x3.tour.Vehicle, .slice A4 x3.tour.Stops.length c4, .int .i64 x3.cost] ⟨rfl, hc7⟩ ?_)))
              refine ⟨Kp [] 1 E, ?_⟩
              refine P_some E (AN.run (fuel := 0) (listed' := [true, true, true, true, true, true, true, true, true, true, true, true, true, true, true, true, true, true]) Tt_ok [(false, 13), (false, 14), (false, 15), (false, 16), (false, 17)] (by kernel_rfl) (by kernel_rfl) E (PL_f E (O_read E (R_loadA E E E E (Ex.mk [.int .i64 x4.tour.Vehicle, .slice A5 x4.tour.Stops.length c5, .int .i64 x4.cost] ⟨rfl, hc8⟩ ?_)))))
              refine ⟨Kp [] 1 E, ?_⟩
              refine P_some E (PL_f E ?_)
              obtain ⟨a6, cs5, hA9, hr5, _, hc9⟩ := Rds.getI (Own.rds (L := (ch2 :: L)) hO2 0 rfl) hx5
              obtain ⟨A6, c6, rfl, hl5, hA10⟩ := hr5
              refine O_read E (R_iaG E E E E E E ⟨(getI_lt hx5).1, lenN hn2 (getI_lt hx5).2.1⟩ hA9 ?_)
              refine ⟨Kp [] 1 E, ?_⟩
              refine P_some E (PL_f E (O_store (vs := [.int .i64 x3.tour.Vehicle, .slice A4 x3.tour.Stops.length c4, .int .i64 x3.cost]) E E E E E E ?_))
              rw [← Addr.add_zero' ((a6.add (k1.toNat * 3)))]
              refine Own.store (μ := μ) (r := r_insert_option) (x' := x3) (o := 0) (sz := 3) 0 rfl hO2 hA9 hx5 rfl rfl (by rintro _ ⟨A7, c7, rfl, hl6, hA11⟩; exact ⟨A4, c4, rfl, hl3, hA6⟩) fun ch3 hO3 => ?_
              have hn3 := hn2.trans (length_setI data2 k1 x3).symm
              refine ⟨Kp [] 1 E, ?_⟩
              refine P_none (PL_f E ?_)
              obtain ⟨a7, cs6, hA12, hr6, _, hc10⟩ := Rds.getI (Own.rds (L := (ch3 :: L)) hO3 0 rfl) hx7
              obtain ⟨A8, c8, rfl, hl7, hA13⟩ := hr6
              refine O_read E (R_iaG E E E E E E ⟨(getI_lt hx7).1, lenN hn3 (getI_lt hx7).2.1⟩ hA12 ?_)
              refine ⟨Kp [] 1 E, ?_⟩
              refine P_some E (PL_f E (O_store (vs := [.int .i64 x4.tour.Vehicle, .slice A5 x4.tour.Stops.length c5, .int .i64 x4.cost]) E E E E E E ?_))
              rw [← Addr.add_zero' ((a7.add ((w64 (k1 + 1)).toNat * 3)))]
              refine Own.store (μ := μ) (r := r_insert_option) (x' := x4) (o := 0) (sz := 3) 0 rfl hO3 hA12 hx7 rfl rfl (by rintro _ ⟨A9, c9, rfl, hl8, hA14⟩; exact ⟨A5, c5, rfl, hl4, hA8⟩) fun ch4 hO4 => ?_
              have hn4 := hn3.trans (length_setI (setI data2 k1 x3) (w64 (k1 + 1)) x4).symm
              refine ⟨Kp [] 1 E, ?_⟩
              refine P_none (PL_nil (AN.done0 (by kernel_rfl) ?_))
              cases h12992
              exact Ce E ⟨_, ch4, rfl, fE E, sE [some 0] 1 E, (hn4), (hO4), rfl⟩
            refine FO_ E E (O_read E (R_loadA E E E E (Ex.mk [.int .i64 x4.tour.Vehicle, .slice A5 x4.tour.Stops.length c5, .int .i64 x4.cost] ⟨rfl, hc8⟩ ?_)))
            refine ⟨Kp [] 1 E, ?_⟩
            refine P_some E (AN.run (fuel := 0) (listed' := [true, true, true, true, true, true, true, true, true, true, true, true, true, true, true, true, true, true]) Tt_ok [(false, 9), (false, 14), (false, 15), (false, 16), (false, 17)] (by kernel_rfl) (by kernel_rfl) E (PL_f E (O_read E (R_loadA E E E E (Ex.mk [.int .i64 x3.tour.Vehicle, .slice A4 x3.tour.Stops.length c4, .int .i64 x3.cost] ⟨rfl, hc7⟩ ?_)))))
            refine ⟨Kp [] 1 E, ?_⟩
            refine P_some E (PL_f E ?_)
            obtain ⟨a6, cs5, hA9, hr5, _, hc9⟩ := Rds.getI (Own.rds (L := (ch2 :: L)) hO2 0 rfl) hx5
            obtain ⟨A6, c6, rfl, hl5, hA10⟩ := hr5
            refine O_read E (R_iaG E E E E E E ⟨(getI_lt hx5).1, lenN hn2 (getI_lt hx5).2.1⟩ hA9 ?_)
            refine ⟨Kp [] 1 E, ?_⟩
            refine P_some E (PL_f E (O_store (vs := [.int .i64 x3.tour.Vehicle, .slice A4 x3.tour.Stops.length c4, .int .i64 x3.cost]) E E E E E E ?_))
            rw [← Addr.add_zero' ((a6.add (k1.toNat * 3)))]
            refine Own.store (μ := μ) (r := r_insert_option) (x' := x3) (o := 0) (sz := 3) 0 rfl hO2 hA9 hx5 rfl rfl (by rintro _ ⟨A7, c7, rfl, hl6, hA11⟩; exact ⟨A4, c4, rfl, hl3, hA6⟩) fun ch3 hO3 => ?_
            have hn3 := hn2.trans (length_setI data2 k1 x3).symm
            refine ⟨Kp [] 1 E, ?_⟩
            refine P_none (PL_f E ?_)
            obtain ⟨a7, cs6, hA12, hr6, _, hc10⟩ := Rds.getI (Own.rds (L := (ch3 :: L)) hO3 0 rfl) hx7
            obtain ⟨A8, c8, rfl, hl7, hA13⟩ := hr6
            refine O_read E (R_iaG E E E E E E ⟨(getI_lt hx7).1, lenN hn3 (getI_lt hx7).2.1⟩ hA12 ?_)
            refine ⟨Kp [] 1 E, ?_⟩
            refine P_some E (PL_f E (O_store (vs := [.int .i64 x4.tour.Vehicle, .slice A5 x4.tour.Stops.length c5, .int .i64 x4.cost]) E E E E E E ?_))
            rw [← Addr.add_zero' ((a7.add ((w64 (k1 + 1)).toNat * 3)))]
            refine Own.store (μ := μ) (r := r_insert_option) (x' := x4) (o := 0) (sz := 3) 0 rfl hO3 hA12 hx7 rfl rfl (by rintro _ ⟨A9, c9, rfl, hl8, hA14⟩; exact ⟨A5, c5, rfl, hl4, hA8⟩) fun ch4 hO4 => ?_
            have hn4 := hn3.trans (length_setI (setI data2 k1 x3) (w64 (k1 + 1)) x4).symm
            refine ⟨Kp [] 1 E, ?_⟩
            refine P_none (PL_nil (AN.done0 (by kernel_rfl) ?_))
            cases h12992
            exact Ce E ⟨_, ch4, rfl, fE E, sE [some 0] 1 E, (hn4), (hO4), rfl⟩
          refine FO_ E E (O_read E (R_loadA E E E E (Ex.mk [.int .i64 x4.tour.Vehicle, .slice A5 x4.tour.Stops.length c5, .int .i64 x4.cost] ⟨rfl, hc8⟩ ?_)))
          refine ⟨Kp [] 1 E, ?_⟩
          refine P_some E (AN.run (fuel := 0) (listed' := [true, true, true, true, true, true, true, true, true, true, true, true, true, true, true, true, true, true]) Tt_ok [(false, 8), (false, 9), (false, 14), (false, 15), (false, 16), (false, 17)] (by kernel_rfl) (by kernel_rfl) E (PL_f E ?_))
          obtain ⟨a4, cs3, hA5, hr3, _, hc7⟩ := Rds.getI (Own.rds (L := (ch2 :: L)) hO2 0 rfl) hx4
          obtain ⟨A4, c4, rfl, hl3, hA6⟩ := hr3
          refine O_read E (R_iaG E E E E E E ⟨(getI_lt hx4).1, lenN hn2 (getI_lt hx4).2.1⟩ hA5 ?_)
          refine ⟨Kp [] 1 E, ?_⟩
          refine P_some E (PL_f E (O_read E (R_loadA E E E E (Ex.mk [.int .i64 x3.tour.Vehicle, .slice A4 x3.tour.Stops.length c4, .int .i64 x3.cost] ⟨rfl, hc7⟩ ?_))))
          refine ⟨Kp [] 1 E, ?_⟩
          refine P_some E (PL_f E ?_)
          obtain ⟨a6, cs5, hA9, hr5, _, hc9⟩ := Rds.getI (Own.rds (L := (ch2 :: L)) hO2 0 rfl) hx5
          obtain ⟨A6, c6, rfl, hl5, hA10⟩ := hr5
          refine O_read E (R_iaG E E E E E E ⟨(getI_lt hx5).1, lenN hn2 (getI_lt hx5).2.1⟩ hA9 ?_)
          refine ⟨Kp [] 1 E, ?_⟩
          refine P_some E (PL_f E (O_store (vs := [.int .i64 x3.tour.Vehicle, .slice A4 x3.tour.Stops.length c4, .int .i64 x3.cost]) E E E E E E ?_))
          rw [← Addr.add_zero' ((a6.add (k1.toNat * 3)))]
          refine Own.store (μ := μ) (r := r_insert_option) (x' := x3) (o := 0) (sz := 3) 0 rfl hO2 hA9 hx5 rfl rfl (by rintro _ ⟨A7, c7, rfl, hl6, hA11⟩; exact ⟨A4, c4, rfl, hl3, hA6⟩) fun ch3 hO3 => ?_
          have hn3 := hn2.trans (length_setI data2 k1 x3).symm
          refine ⟨Kp [] 1 E, ?_⟩
          refine P_none (PL_f E ?_)
          obtain ⟨a7, cs6, hA12, hr6, _, hc10⟩ := Rds.getI (Own.rds (L := (ch3 :: L)) hO3 0 rfl) hx7
          obtain ⟨A8, c8, rfl, hl7, hA13⟩ := hr6
          refine O_read E (R_iaG E E E E E E ⟨(getI_lt hx7).1, lenN hn3 (getI_lt hx7).2.1⟩ hA12 ?_)
          refine ⟨Kp [] 1 E, ?_⟩
          refine P_some E (PL_f E (O_store (vs := [.int .i64 x4.tour.Vehicle, .slice A5 x4.tour.Stops.length c5, .int .i64 x4.cost]) E E E E E E ?_))
          rw [← Addr.add_zero' ((a7.add ((w64 (k1 + 1)).toNat * 3)))]
          refine Own.store (μ := μ) (r := r_insert_option) (x' := x4) (o := 0) (sz := 3) 0 rfl hO3 hA12 hx7 rfl rfl (by rintro _ ⟨A9, c9, rfl, hl8, hA14⟩; exact ⟨A5, c5, rfl, hl4, hA8⟩) fun ch4 hO4 => ?_
          have hn4 := hn3.trans (length_setI (setI data2 k1 x3) (w64 (k1 + 1)) x4).symm
          refine ⟨Kp [] 1 E, ?_⟩
          refine P_none (PL_nil (AN.done0 (by kernel_rfl) ?_))
          cases h12992
          exact Ce E ⟨_, ch4, rfl, fE E, sE [some 0] 1 E, (hn4), (hO4), rfl⟩
        rintro _ _ _ _ hb12840 _ ⟨data3, ch5, rfl, hF12992, hS12992, hn5, hO5, rfl⟩
        refine Atn 1 hF12992 hS12992 E E (G0 6 E ?_)
        cases hb12840
        exact Ce E ⟨_, rfl, ch5, fE E, sE [some 0] 1 E, (hn5), (hO5), rfl⟩
      refine G2 2 [] [58] [] E ?_
      cases hb12840
      have hq_ := hq12840 _ E
      subst hq_
      exact Ce E ⟨_, ch2, rfl, fE E, sE [some 0] 1 E, (hn2), (hO2), rfl⟩
    rintro _ _ _ _ h _ ⟨data4, ch6, rfl, hF12486, hS12486, hn6, hO6, rfl⟩
    refine Atn 1 hF12486 hS12486 E E ?_
    cases h
    exact Rt [] E E (Ug [[0]] 1 (hR _ hO6 hn6))
  refine G2 10 [] [28] [] E ?_
  refine Br h 80 E E (fun hc11 h => ?_) (fun hc11 h => ?_)
  · refine G2 12 [80] [] [] E ?_
    refine Cut h (fun f l o_ f_ μ_ l_ => ∃ (i4 : Int), i4 = o_ ∧ SubFr ((14, .int .i64 i4) :: keepF [0, 2] f) f_ ∧ SegSub l l_ ∧ μ = μ_) ?_ ?_
    · intro _ h13195 h
      refine Lp h13195 (fun f l (j_ : Int × Int) f_ μ_ l_ => ounP j_ fun i3 j2 => SubFr ((14, .int .i64 i3) :: (15, .int .i64 j2) :: keepF [0, 2, 4] f) f_ ∧ SegSub l l_ ∧ μ = μ_) ⟨fE E, sE [some 0] 1 E, E⟩ ?_
      rintro ⟨i3, j2⟩ _ _ _ _ _ ⟨hF13209, hS13209, rfl⟩ hb13209 hq13209
      unfold slices_symMergeCmpFunc_option_c38_l3 at hb13209
      replace hb13209 := oun_mk hb13209
      refine Atn 1 hF13209 hS13209 E E (G0 7 E ?_)
      refine Br hb13209 85 E E (fun hc12 hb13209 => ?_) (fun hc12 hb13209 => ?_)
      · refine G2 9 [85] [] [] E (Rdo E E ?_)
        obtain ⟨_, hg2, hb13209⟩ := obind hb13209
        refine R_shrD E E E (guardO_some hg2) (Q0 4 E (Dr _ Kept.refl [(true, 0), (true, 1), (true, 2), (true, 3), (true, 4), (true, 5), (true, 6), (true, 7), (true, 8), (false, 9), (true, 10), (true, 11)] (by kernel_rfl) (G0 3 E (IxN hn1 hb13209 (Own.rds (L := (ch1 :: L)) hO1 0 E) E E fun _ _ _ _ hr7 hc13 _ hb13209 => ?_))))
        obtain ⟨_, _, rfl, hl9, hA16⟩ := hr7
        refine Q3 3 [] [] [64] (Z1 hc13) E (IxN hn1 hb13209 (Own.rds (L := (ch1 :: L)) hO1 0 E) E E fun _ _ _ _ hr8 hc14 _ hb13209 => ?_)
        obtain ⟨_, _, rfl, hl10, hA18⟩ := hr8
        refine Q3 1 [] [] [64] (Z1 hc14) E (Cl E ?_)
        obtain ⟨_, hx10, hb13209⟩ := obind hb13209
        refine insert_options_1_fn hl9 hA16 hl10 hA18 hx10 (?_)
        refine ⟨Kept.refl, ?_⟩
        refine Q0 3 E ?_
        refine Br hb13209 103 E E (fun hc15 hb13209 => ?_) (fun hc15 hb13209 => ?_)
        · refine G2 7 [103] [] [] E ?_
          cases hb13209
          exact Ce E ⟨_, rfl, fE E, sE [some 0] 1 E, rfl⟩
        refine G2 6 [] [103] [] E ?_
        cases hb13209
        exact Ce E ⟨_, rfl, fE E, sE [some 0] 1 E, rfl⟩
      refine G2 2 [] [85] [] E ?_
      cases hb13209
      have hq_ := hq13209 _ E
      subst hq_
      exact Ce E ⟨_, rfl, fE E, sE [some 0] 1 E, rfl⟩
    rintro _ _ _ _ h _ ⟨i4, rfl, hF13195, hS13195, rfl⟩
    refine Atn 1 hF13195 hS13195 E E (G0 6 E ?_)
    refine Cut h (fun f l o_ f_ μ_ l_ => ∃ (data7 : (List T_insert_option)) (ch11 : Seg), data7 = o_ ∧ SubFr ([]) f_ ∧ SegSub (ch11 :: selS [] 1 l) l_ ∧ data1.length = data7.length ∧ Own r_insert_option 65 μ_ (.slice A1 data1.length c1) data7 ch11 ∧ μ = μ_) ?_ ?_
    · intro _ h13222 h
      refine Lp h13222 (fun f l (j_ : (List T_insert_option) × Int) f_ μ_ l_ => ounP j_ fun data5 k2 => ∃ (ch7 : Seg), SubFr ((17, .int .i64 k2) :: keepF [0, 14] f) f_ ∧ SegSub (ch7 :: selS [] 1 l) l_ ∧ data1.length = data5.length ∧ Own r_insert_option 65 μ_ (.slice A1 data1.length c1) data5 ch7 ∧ μ = μ_) ⟨ch1, fE E, sE [some 0] 1 E, (hn1), (hO1), E⟩ ?_
      rintro ⟨data5, k2⟩ _ _ _ _ _ ⟨ch7, hF13576, hS13576, hn7, hO7, rfl⟩ hb13576 hq13576
      unfold slices_symMergeCmpFunc_option_c38_l4 at hb13576
      replace hb13576 := oun_mk hb13576
      refine Atn 1 hF13576 hS13576 E E (G0 7 E ?_)
      refine Br hb13576 110 E E (fun hc16 hb13576 => ?_) (fun hc16 hb13576 => ?_)
      · refine G2 4 [110] [] [] E ?_
        refine Cut hb13576 (fun f l o_ f_ μ_ l_ => ∃ (data6 : (List T_insert_option)) (ch10 : Seg), data6 = o_ ∧ SubFr (keepF [0, 14, 17] f) f_ ∧ SegSub (ch10 :: selS [] 1 l) l_ ∧ data1.length = data6.length ∧ Own r_insert_option 65 μ_ (.slice A1 data1.length c1) data6 ch10 ∧ μ = μ_) ?_ ?_
        · intro _ h13728 hb13576
          refine Cd (WP.draw (id := 23) wide (L) (Kp [] 1 E) E (AN.run (fuel := 8) (listed' := [true, true, true, true, true, true, true, true, false, false, true, true, false, false, false, false, false, false]) Tt_ok [(true, 0), (true, 1), (true, 2), (true, 3), (true, 4), (true, 5), (true, 6), (true, 7), (true, 10), (true, 11)] (by kernel_rfl) (by kernel_rfl) E (PL_t E (R_move E (Pt E E (R_move E (Pt E E (R_move E (Pt E E (R_move E (Pt E E (R_sub E E (P_some E ?_)))))))))))))
          refine PL_t E (R_move E (Pt E E (R_move E (Pt E E (R_sub E E (Pt E E (R_move E (Pt E E (R_move E (P_some E (PL_nil ?_)))))))))))
          refine FK_2 Tt_ok (a := 8) (b := 12) (by kernel_rfl) ?_ ?_
          · apply FO_; exact rfl; exact rfl
            obtain ⟨x9, hx11, h13728⟩ := obind h13728
            obtain ⟨a10, cs9, hA19, hr9, _, hc17⟩ := Rds.getI (Own.rds (L := (ch7 :: L)) hO7 0 rfl) hx11
            obtain ⟨A12, c12, rfl, hl11, hA20⟩ := hr9
            refine O_read E (R_iaG E E E E E E ⟨(getI_lt hx11).1, lenN hn7 (getI_lt hx11).2.1⟩ hA19 ?_)
            refine ⟨Kp [] 1 E, ?_⟩
            apply P_some; exact rfl
            refine FK_2 Tt_ok (a := 9) (b := 12) (by kernel_rfl) ?_ ?_
            · refine FO_ E E (O_read E (R_loadA E E E E (Ex.mk [.int .i64 x9.tour.Vehicle, .slice A12 x9.tour.Stops.length c12, .int .i64 x9.cost] ⟨rfl, hc17⟩ ?_)))
              refine ⟨Kp [] 1 E, ?_⟩
              refine P_some E (AN.run (fuel := 0) (listed' := [true, true, true, true, true, true, true, true, true, true, true, true, true, true, true, true, true, true]) Tt_ok [(false, 12), (false, 13), (false, 14), (false, 15), (false, 16), (false, 17)] (by kernel_rfl) (by kernel_rfl) E (PL_f E ?_))
              obtain ⟨x10, hx12, h13728⟩ := obind h13728
              obtain ⟨a11, cs10, hA21, hr10, _, hc18⟩ := Rds.getI (Own.rds (L := (ch7 :: L)) hO7 0 rfl) hx12
              obtain ⟨A13, c13, rfl, hl12, hA22⟩ := hr10
              refine O_read E (R_iaG E E E E E E ⟨(getI_lt hx12).1, lenN hn7 (getI_lt hx12).2.1⟩ hA21 ?_)
              refine ⟨Kp [] 1 E, ?_⟩
              refine P_some E (PL_f E (O_read E (R_loadA E E E E (Ex.mk [.int .i64 x10.tour.Vehicle, .slice A13 x10.tour.Stops.length c13, .int .i64 x10.cost] ⟨rfl, hc18⟩ ?_))))
              refine ⟨Kp [] 1 E, ?_⟩
              refine P_some E (PL_f E ?_)
              obtain ⟨x11, hx13, h13728⟩ := obind h13728
              obtain ⟨a12, cs11, hA23, hr11, _, hc19⟩ := Rds.getI (Own.rds (L := (ch7 :: L)) hO7 0 rfl) hx13
              obtain ⟨A14, c14, rfl, hl13, hA24⟩ := hr11
              refine O_read E (R_iaG E E E E E E ⟨(getI_lt hx13).1, lenN hn7 (getI_lt hx13).2.1⟩ hA23 ?_)
              refine ⟨Kp [] 1 E, ?_⟩
              refine P_some E (PL_f E (O_store (vs := [.int .i64 x9.tour.Vehicle, .slice A12 x9.tour.Stops.length c12, .int .i64 x9.cost]) E E E E E E ?_))
              rw [← Addr.add_zero' ((a12.add (k2.toNat * 3)))]
              refine Own.store (μ := μ) (r := r_insert_option) (x' := x9) (o := 0) (sz := 3) 0 rfl hO7 hA23 hx13 rfl rfl (by rintro _ ⟨A15, c15, rfl, hl14, hA25⟩; exact ⟨A12, c12, rfl, hl11, hA20⟩) fun ch8 hO8 => ?_
              have hn8 := hn7.trans (length_setI data5 k2 x9).symm
              refine ⟨Kp [] 1 E, ?_⟩
              refine P_none (PL_f E ?_)
              obtain ⟨x12, hx14, h13728⟩ := obind h13728
              obtain ⟨a13, cs12, hA26, hr12, _, hc20⟩ := Rds.getI (Own.rds (L := (ch8 :: L)) hO8 0 rfl) hx14
              obtain ⟨A16, c16, rfl, hl15, hA27⟩ := hr12
              refine O_read E (R_iaG E E E E E E ⟨(getI_lt hx14).1, lenN hn8 (getI_lt hx14).2.1⟩ hA26 ?_)
              refine ⟨Kp [] 1 E, ?_⟩
              refine P_some E (PL_f E (O_store (vs := [.int .i64 x10.tour.Vehicle, .slice A13 x10.tour.Stops.length c13, .int .i64 x10.cost]) E E E E E E ?_))
              rw [← Addr.add_zero' ((a13.add ((w64 (k2 - 1)).toNat * 3)))]
              refine Own.store (μ := μ) (r := r_insert_option) (x' := x10) (o := 0) (sz := 3) 0 rfl hO8 hA26 hx14 rfl rfl (by rintro _ ⟨A17, c17, rfl, hl16, hA28⟩; exact ⟨A13, c13, rfl, hl12, hA22⟩) fun ch9 hO9 => ?_
              have hn9 := hn8.trans (length_setI (setI data5 k2 x9) (w64 (k2 - 1)) x10).symm
              refine ⟨Kp [] 1 E, ?_⟩
              refine P_none (PL_nil (AN.done0 (by kernel_rfl) ?_))
              cases h13728
              exact Ce E ⟨_, ch9, rfl, fE E, sE [some 0] 1 E, (hn9), (hO9), rfl⟩
            obtain ⟨x10, hx12, h13728⟩ := obind h13728
            obtain ⟨x11, hx13, h13728⟩ := obind h13728
            obtain ⟨x12, hx14, h13728⟩ := obind h13728
            apply FO_; exact rfl; exact rfl
            obtain ⟨a11, cs10, hA21, hr10, _, hc18⟩ := Rds.getI (Own.rds (L := (ch7 :: L)) hO7 0 rfl) hx12
            obtain ⟨A13, c13, rfl, hl12, hA22⟩ := hr10
            refine O_read E (R_iaG E E E E E E ⟨(getI_lt hx12).1, lenN hn7 (getI_lt hx12).2.1⟩ hA21 ?_)
            refine ⟨Kp [] 1 E, ?_⟩
            apply P_some; exact rfl
            refine FK_2 Tt_ok (a := 9) (b := 13) (by kernel_rfl) ?_ ?_
            · refine FO_ E E (O_read E (R_loadA E E E E (Ex.mk [.int .i64 x9.tour.Vehicle, .slice A12 x9.tour.Stops.length c12, .int .i64 x9.cost] ⟨rfl, hc17⟩ ?_)))
              refine ⟨Kp [] 1 E, ?_⟩
              refine P_some E (AN.run (fuel := 0) (listed' := [true, true, true, true, true, true, true, true, true, true, true, true, true, true, true, true, true, true]) Tt_ok [(false, 13), (false, 14), (false, 15), (false, 16), (false, 17)] (by kernel_rfl) (by kernel_rfl) E (PL_f E (O_read E (R_loadA E E E E (Ex.mk [.int .i64 x10.tour.Vehicle, .slice A13 x10.tour.Stops.length c13, .int .i64 x10.cost] ⟨rfl, hc18⟩ ?_)))))
              refine ⟨Kp [] 1 E, ?_⟩
              refine P_some E (PL_f E ?_)
              obtain ⟨a12, cs11, hA23, hr11, _, hc19⟩ := Rds.getI (Own.rds (L := (ch7 :: L)) hO7 0 rfl) hx12
              obtain ⟨A14, c14, rfl, hl13, hA24⟩ := hr11
              refine O_read E (R_iaG E E E E E E ⟨(getI_lt hx12).1, lenN hn7 (getI_lt hx12).2.1⟩ hA23 ?_)
              refine ⟨Kp [] 1 E, ?_⟩
              refine P_some E (PL_f E (O_store (vs := [.int .i64 x9.tour.Vehicle, .slice A12 x9.tour.Stops.length c12, .int .i64 x9.cost]) E E E E E E ?_))
              rw [← Addr.add_zero' ((a12.add (k2.toNat * 3)))]
              refine Own.store (μ := μ) (r := r_insert_option) (x' := x9) (o := 0) (sz := 3) 0 rfl hO7 hA23 hx12 rfl rfl (by rintro _ ⟨A15, c15, rfl, hl14, hA25⟩; exact ⟨A12, c12, rfl, hl11, hA20⟩) fun ch8 hO8 => ?_
              have hn8 := hn7.trans (length_setI data5 k2 x9).symm
              refine ⟨Kp [] 1 E, ?_⟩
              refine P_none (PL_f E ?_)
              obtain ⟨a13, cs12, hA26, hr12, _, hc20⟩ := Rds.getI (Own.rds (L := (ch8 :: L)) hO8 0 rfl) hx14
              obtain ⟨A16, c16, rfl, hl15, hA27⟩ := hr12
              refine O_read E (R_iaG E E E E E E ⟨(getI_lt hx14).1, lenN hn8 (getI_lt hx14).2.1⟩ hA26 ?_)
              refine ⟨Kp [] 1 E, ?_⟩
              refine P_some E (PL_f E (O_store (vs := [.int .i64 x10.tour.Vehicle, .slice A13 x10.tour.Stops.length c13, .int .i64 x10.cost]) E E E E E E ?_))
              rw [← Addr.add_zero' ((a13.add ((w64 (k2 - 1)).toNat * 3)))]
              refine Own.store (μ := μ) (r := r_insert_option) (x' := x10) (o := 0) (sz := 3) 0 rfl hO8 hA26 hx14 rfl rfl (by rintro _ ⟨A17, c17, rfl, hl16, hA28⟩; exact ⟨A13, c13, rfl, hl12, hA22⟩) fun ch9 hO9 => ?_
              have hn9 := hn8.trans (length_setI (setI data5 k2 x9) (w64 (k2 - 1)) x10).symm
              refine ⟨Kp [] 1 E, ?_⟩
              refine P_none (PL_nil (AN.done0 (by kernel_rfl) ?_))
              cases h13728
              exact Ce E ⟨_, ch9, rfl, fE E, sE [some 0] 1 E, (hn9), (hO9), rfl⟩
            refine FO_ E E (O_read E (R_loadA E E E E (Ex.mk [.int .i64 x10.tour.Vehicle, .slice A13 x10.tour.Stops.length c13, .int .i64 x10.cost] ⟨rfl, hc18⟩ ?_)))
            refine ⟨Kp [] 1 E, ?_⟩
            refine P_some E (AN.run (fuel := 0) (listed' := [true, true, true, true, true, true, true, true, true, true, true, true, true, true, true, true, true, true]) Tt_ok [(false, 9), (false, 14), (false, 15), (false, 16), (false, 17)] (by kernel_rfl) (by kernel_rfl) E (PL_f E (O_read E (R_loadA E E E E (Ex.mk [.int .i64 x9.tour.Vehicle, .slice A12 x9.tour.Stops.length c12, .int .i64 x9.cost] ⟨rfl, hc17⟩ ?_)))))
            refine ⟨Kp [] 1 E, ?_⟩
            refine P_some E (PL_f E ?_)
            obtain ⟨a12, cs11, hA23, hr11, _, hc19⟩ := Rds.getI (Own.rds (L := (ch7 :: L)) hO7 0 rfl) hx12
            obtain ⟨A14, c14, rfl, hl13, hA24⟩ := hr11
            refine O_read E (R_iaG E E E E E E ⟨(getI_lt hx12).1, lenN hn7 (getI_lt hx12).2.1⟩ hA23 ?_)
            refine ⟨Kp [] 1 E, ?_⟩
            refine P_some E (PL_f E (O_store (vs := [.int .i64 x9.tour.Vehicle, .slice A12 x9.tour.Stops.length c12, .int .i64 x9.cost]) E E E E E E ?_))
            rw [← Addr.add_zero' ((a12.add (k2.toNat * 3)))]
            refine Own.store (μ := μ) (r := r_insert_option) (x' := x9) (o := 0) (sz := 3) 0 rfl hO7 hA23 hx12 rfl rfl (by rintro _ ⟨A15, c15, rfl, hl14, hA25⟩; exact ⟨A12, c12, rfl, hl11, hA20⟩) fun ch8 hO8 => ?_
            have hn8 := hn7.trans (length_setI data5 k2 x9).symm
            refine ⟨Kp [] 1 E, ?_⟩
            refine P_none (PL_f E ?_)
            obtain ⟨a13, cs12, hA26, hr12, _, hc20⟩ := Rds.getI (Own.rds (L := (ch8 :: L)) hO8 0 rfl) hx14
            obtain ⟨A16, c16, rfl, hl15, hA27⟩ := hr12
            refine O_read E (R_iaG E E E E E E ⟨(getI_lt hx14).1, lenN hn8 (getI_lt hx14).2.1⟩ hA26 ?_)
            refine ⟨Kp [] 1 E, ?_⟩
            refine P_some E (PL_f E (O_store (vs := [.int .i64 x10.tour.Vehicle, .slice A13 x10.tour.Stops.length c13, .int .i64 x10.cost]) E E E E E E ?_))
            rw [← Addr.add_zero' ((a13.add ((w64 (k2 - 1)).toNat * 3)))]
            refine Own.store (μ := μ) (r := r_insert_option) (x' := x10) (o := 0) (sz := 3) 0 rfl hO8 hA26 hx14 rfl rfl (by rintro _ ⟨A17, c17, rfl, hl16, hA28⟩; exact ⟨A13, c13, rfl, hl12, hA22⟩) fun ch9 hO9 => ?_
            have hn9 := hn8.trans (length_setI (setI data5 k2 x9) (w64 (k2 - 1)) x10).symm
            refine ⟨Kp [] 1 E, ?_⟩
            refine P_none (PL_nil (AN.done0 (by kernel_rfl) ?_))
            cases h13728
            exact Ce E ⟨_, ch9, rfl, fE E, sE [some 0] 1 E, (hn9), (hO9), rfl⟩
          obtain ⟨x9, hx11, h13728⟩ := obind h13728
          obtain ⟨x10, hx12, h13728⟩ := obind h13728
          obtain ⟨x11, hx13, h13728⟩ := obind h13728
          obtain ⟨x12, hx14, h13728⟩ := obind h13728
          apply FO_; exact rfl; exact rfl
          obtain ⟨a11, cs10, hA21, hr10, _, hc18⟩ := Rds.getI (Own.rds (L := (ch7 :: L)) hO7 0 rfl) hx12
          obtain ⟨A13, c13, rfl, hl12, hA22⟩ := hr10
          refine O_read E (R_iaG E E E E E E ⟨(getI_lt hx12).1, lenN hn7 (getI_lt hx12).2.1⟩ hA21 ?_)
          refine ⟨Kp [] 1 E, ?_⟩
          apply P_some; exact rfl
          refine FK_2 Tt_ok (a := 8) (b := 13) (by kernel_rfl) ?_ ?_
          · apply FO_; exact rfl; exact rfl
            obtain ⟨a10, cs9, hA19, hr9, _, hc17⟩ := Rds.getI (Own.rds (L := (ch7 :: L)) hO7 0 rfl) hx11
            obtain ⟨A12, c12, rfl, hl11, hA20⟩ := hr9
            refine O_read E (R_iaG E E E E E E ⟨(getI_lt hx11).1, lenN hn7 (getI_lt hx11).2.1⟩ hA19 ?_)
            refine ⟨Kp [] 1 E, ?_⟩
            apply P_some; exact rfl
            refine FK_2 Tt_ok (a := 9) (b := 13) (by kernel_rfl) ?_ ?_
            · refine FO_ E E (O_read E (R_loadA E E E E (Ex.mk [.int .i64 x9.tour.Vehicle, .slice A12 x9.tour.Stops.length c12, .int .i64 x9.cost] ⟨rfl, hc17⟩ ?_)))
              refine ⟨Kp [] 1 E, ?_⟩
              refine P_some E (AN.run (fuel := 0) (listed' := [true, true, true, true, true, true, true, true, true, true, true, true, true, true, true, true, true, true]) Tt_ok [(false, 13), (false, 14), (false, 15), (false, 16), (false, 17)] (by kernel_rfl) (by kernel_rfl) E (PL_f E (O_read E (R_loadA E E E E (Ex.mk [.int .i64 x10.tour.Vehicle, .slice A13 x10.tour.Stops.length c13, .int .i64 x10.cost] ⟨rfl, hc18⟩ ?_)))))
              refine ⟨Kp [] 1 E, ?_⟩
              refine P_some E (PL_f E ?_)
              obtain ⟨a12, cs11, hA23, hr11, _, hc19⟩ := Rds.getI (Own.rds (L := (ch7 :: L)) hO7 0 rfl) hx12
              obtain ⟨A14, c14, rfl, hl13, hA24⟩ := hr11
              refine O_read E (R_iaG E E E E E E ⟨(getI_lt hx12).1, lenN hn7 (getI_lt hx12).2.1⟩ hA23 ?_)
              refine ⟨Kp [] 1 E, ?_⟩
              refine P_some E (PL_f E (O_store (vs := [.int .i64 x9.tour.Vehicle, .slice A12 x9.tour.Stops.length c12, .int .i64 x9.cost]) E E E E E E ?_))
              rw [← Addr.add_zero' ((a12.add (k2.toNat * 3)))]
              refine Own.store (μ := μ) (r := r_insert_option) (x' := x9) (o := 0) (sz := 3) 0 rfl hO7 hA23 hx12 rfl rfl (by rintro _ ⟨A15, c15, rfl, hl14, hA25⟩; exact ⟨A12, c12, rfl, hl11, hA20⟩) fun ch8 hO8 => ?_
              have hn8 := hn7.trans (length_setI data5 k2 x9).symm
              refine ⟨Kp [] 1 E, ?_⟩
              refine P_none (PL_f E ?_)
              obtain ⟨a13, cs12, hA26, hr12, _, hc20⟩ := Rds.getI (Own.rds (L := (ch8 :: L)) hO8 0 rfl) hx14
              obtain ⟨A16, c16, rfl, hl15, hA27⟩ := hr12
              refine O_read E (R_iaG E E E E E E ⟨(getI_lt hx14).1, lenN hn8 (getI_lt hx14).2.1⟩ hA26 ?_)
              refine ⟨Kp [] 1 E, ?_⟩
              refine P_some E (PL_f E (O_store (vs := [.int .i64 x10.tour.Vehicle, .slice A13 x10.tour.Stops.length c13, .int .i64 x10.cost]) E E E E E E ?_))
              rw [← Addr.add_zero' ((a13.add ((w64 (k2 - 1)).toNat * 3)))]
              refine Own.store (μ := μ) (r := r_insert_option) (x' := x10) (o := 0) (sz := 3) 0 rfl hO8 hA26 hx14 rfl rfl (by rintro _ ⟨A17, c17, rfl, hl16, hA28⟩; exact ⟨A13, c13, rfl, hl12, hA22⟩) fun ch9 hO9 => ?_
              have hn9 := hn8.trans (length_setI (setI data5 k2 x9) (w64 (k2 - 1)) x10).symm
              refine ⟨Kp [] 1 E, ?_⟩
              refine P_none (PL_nil (AN.done0 (by kernel_rfl) ?_))
              cases h13728
              exact Ce E ⟨_, ch9, rfl, fE E, sE [some 0] 1 E, (hn9), (hO9), rfl⟩
            refine FO_ E E (O_read E (R_loadA E E E E (Ex.mk [.int .i64 x10.tour.Vehicle, .slice A13 x10.tour.Stops.length c13, .int .i64 x10.cost] ⟨rfl, hc18⟩ ?_)))
            refine ⟨Kp [] 1 E, ?_⟩
            refine P_some E (AN.run (fuel := 0) (listed' := [true, true, true, true, true, true, true, true, true, true, true, true, true, true, true, true, true, true]) Tt_ok [(false, 9), (false, 14), (false, 15), (false, 16), (false, 17)] (by kernel_rfl) (by kernel_rfl) E (PL_f E (O_read E (R_loadA E E E E (Ex.mk [.int .i64 x9.tour.Vehicle, .slice A12 x9.tour.Stops.length c12, .int .i64 x9.cost] ⟨rfl, hc17⟩ ?_)))))
            refine ⟨Kp [] 1 E, ?_⟩
            refine P_some E (PL_f E ?_)
            obtain ⟨a12, cs11, hA23, hr11, _, hc19⟩ := Rds.getI (Own.rds (L := (ch7 :: L)) hO7 0 rfl) hx12
            obtain ⟨A14, c14, rfl, hl13, hA24⟩ := hr11
            refine O_read E (R_iaG E E E E E E ⟨(getI_lt hx12).1, lenN hn7 (getI_lt hx12).2.1⟩ hA23 ?_)
            refine ⟨Kp [] 1 E, ?_⟩
            refine P_some E (PL_f E (O_store (vs := [.int .i64 x9.tour.Vehicle, .slice A12 x9.tour.Stops.length c12, .int .i64 x9.cost]) E E E E E E ?_))
            rw [← Addr.add_zero' ((a12.add (k2.toNat * 3)))]
            refine Own.store (μ := μ) (r := r_insert_option) (x' := x9) (o := 0) (sz := 3) 0 rfl hO7 hA23 hx12 rfl rfl (by rintro _ ⟨A15, c15, rfl, hl14, hA25⟩; exact ⟨A12, c12, rfl, hl11, hA20⟩) fun ch8 hO8 => ?_
            have hn8 := hn7.trans (length_setI data5 k2 x9).symm
            refine ⟨Kp [] 1 E, ?_⟩
            refine P_none (PL_f E ?_)
            obtain ⟨a13, cs12, hA26, hr12, _, hc20⟩ := Rds.getI (Own.rds (L := (ch8 :: L)) hO8 0 rfl) hx14
            obtain ⟨A16, c16, rfl, hl15, hA27⟩ := hr12
            refine O_read E (R_iaG E E E E E E ⟨(getI_lt hx14).1, lenN hn8 (getI_lt hx14).2.1⟩ hA26 ?_)
            refine ⟨Kp [] 1 E, ?_⟩
            refine P_some E (PL_f E (O_store (vs := [.int .i64 x10.tour.Vehicle, .slice A13 x10.tour.Stops.length c13, .int .i64 x10.cost]) E E E E E E ?_))
            rw [← Addr.add_zero' ((a13.add ((w64 (k2 - 1)).toNat * 3)))]
            refine Own.store (μ := μ) (r := r_insert_option) (x' := x10) (o := 0) (sz := 3) 0 rfl hO8 hA26 hx14 rfl rfl (by rintro _ ⟨A17, c17, rfl, hl16, hA28⟩; exact ⟨A13, c13, rfl, hl12, hA22⟩) fun ch9 hO9 => ?_
            have hn9 := hn8.trans (length_setI (setI data5 k2 x9) (w64 (k2 - 1)) x10).symm
            refine ⟨Kp [] 1 E, ?_⟩
            refine P_none (PL_nil (AN.done0 (by kernel_rfl) ?_))
            cases h13728
            exact Ce E ⟨_, ch9, rfl, fE E, sE [some 0] 1 E, (hn9), (hO9), rfl⟩
          refine FO_ E E (O_read E (R_loadA E E E E (Ex.mk [.int .i64 x10.tour.Vehicle, .slice A13 x10.tour.Stops.length c13, .int .i64 x10.cost] ⟨rfl, hc18⟩ ?_)))
          refine ⟨Kp [] 1 E, ?_⟩
          refine P_some E (AN.run (fuel := 0) (listed' := [true, true, true, true, true, true, true, true, true, true, true, true, true, true, true, true, true, true]) Tt_ok [(false, 8), (false, 9), (false, 14), (false, 15), (false, 16), (false, 17)] (by kernel_rfl) (by kernel_rfl) E (PL_f E ?_))
          obtain ⟨a10, cs9, hA19, hr9, _, hc17⟩ := Rds.getI (Own.rds (L := (ch7 :: L)) hO7 0 rfl) hx11
          obtain ⟨A12, c12, rfl, hl11, hA20⟩ := hr9
          refine O_read E (R_iaG E E E E E E ⟨(getI_lt hx11).1, lenN hn7 (getI_lt hx11).2.1⟩ hA19 ?_)
          refine ⟨Kp [] 1 E, ?_⟩
          refine P_some E (PL_f E (O_read E (R_loadA E E E E (Ex.mk [.int .i64 x9.tour.Vehicle, .slice A12 x9.tour.Stops.length c12, .int .i64 x9.cost] ⟨rfl, hc17⟩ ?_))))
          refine ⟨Kp [] 1 E, ?_⟩
          refine P_some E (PL_f E ?_)
          obtain ⟨a12, cs11, hA23, hr11, _, hc19⟩ := Rds.getI (Own.rds (L := (ch7 :: L)) hO7 0 rfl) hx12
          obtain ⟨A14, c14, rfl, hl13, hA24⟩ := hr11
          refine O_read E (R_iaG E E E E E E ⟨(getI_lt hx12).1, lenN hn7 (getI_lt hx12).2.1⟩ hA23 ?_)
          refine ⟨Kp [] 1 E, ?_⟩
          refine P_some E (PL_f E (O_store (vs := [.int .i64 x9.tour.Vehicle, .slice A12 x9.tour.Stops.length c12, .int .i64 x9.cost]) E E E E E E ?_))
          rw [← Addr.add_zero' ((a12.add (k2.toNat * 3)))]
          refine Own.store (μ := μ) (r := r_insert_option) (x' := x9) (o := 0) (sz := 3) 0 rfl hO7 hA23 hx12 rfl rfl (by rintro _ ⟨A15, c15, rfl, hl14, hA25⟩; exact ⟨A12, c12, rfl, hl11, hA20⟩) fun ch8 hO8 => ?_
          have hn8 := hn7.trans (length_setI data5 k2 x9).symm
          refine ⟨Kp [] 1 E, ?_⟩
          refine P_none (PL_f E ?_)
          obtain ⟨a13, cs12, hA26, hr12, _, hc20⟩ := Rds.getI (Own.rds (L := (ch8 :: L)) hO8 0 rfl) hx14
          obtain ⟨A16, c16, rfl, hl15, hA27⟩ := hr12
          refine O_read E (R_iaG E E E E E E ⟨(getI_lt hx14).1, lenN hn8 (getI_lt hx14).2.1⟩ hA26 ?_)
          refine ⟨Kp [] 1 E, ?_⟩
          refine P_some E (PL_f E (O_store (vs := [.int .i64 x10.tour.Vehicle, .slice A13 x10.tour.Stops.length c13, .int .i64 x10.cost]) E E E E E E ?_))
          rw [← Addr.add_zero' ((a13.add ((w64 (k2 - 1)).toNat * 3)))]
          refine Own.store (μ := μ) (r := r_insert_option) (x' := x10) (o := 0) (sz := 3) 0 rfl hO8 hA26 hx14 rfl rfl (by rintro _ ⟨A17, c17, rfl, hl16, hA28⟩; exact ⟨A13, c13, rfl, hl12, hA22⟩) fun ch9 hO9 => ?_
          have hn9 := hn8.trans (length_setI (setI data5 k2 x9) (w64 (k2 - 1)) x10).symm
          refine ⟨Kp [] 1 E, ?_⟩
          refine P_none (PL_nil (AN.done0 (by kernel_rfl) ?_))
          cases h13728
          exact Ce E ⟨_, ch9, rfl, fE E, sE [some 0] 1 E, (hn9), (hO9), rfl⟩
        rintro _ _ _ _ hb13576 _ ⟨data6, ch10, rfl, hF13728, hS13728, hn10, hO10, rfl⟩
        refine Atn 1 hF13728 hS13728 E E (G0 6 E ?_)
        cases hb13576
        exact Ce E ⟨_, rfl, ch10, fE E, sE [some 0] 1 E, (hn10), (hO10), rfl⟩
      refine G2 2 [] [110] [] E ?_
      cases hb13576
      have hq_ := hq13576 _ E
      subst hq_
      exact Ce E ⟨_, ch7, rfl, fE E, sE [some 0] 1 E, (hn7), (hO7), rfl⟩
    rintro _ _ _ _ h _ ⟨data7, ch11, rfl, hF13222, hS13222, hn11, hO11, rfl⟩
    refine Atn 1 hF13222 hS13222 E E ?_
    cases h
    exact Rt [] E E (Ug [[0]] 1 (hR _ hO11 hn11))
  refine G2 8 [] [80] [] E (Rdo E E ?_)
  obtain ⟨_, hg3, h⟩ := obind h
  refine R_shrD E E E (guardO_some hg3) (Q0 22 E ?_)
  refine Cut h (fun f l o_ f_ μ_ l_ => ∃ (mid1 : Int) (n2 : Int) (start1 : Int) (r3 : Int), (mid1, n2, start1, r3) = o_ ∧ SubFr ((18, .int .i64 mid1) :: (19, .int .i64 n2) :: (20, .int .i64 start1) :: (21, .int .i64 r3) :: keepF [0, 1, 2, 3, 4] f) f_ ∧ SegSub l l_ ∧ μ = μ_) ?_ ?_
  · intro _ h13931 h
    refine Br h13931 140 E E (fun hc21 h13931 => ?_) (fun hc21 h13931 => ?_)
    · refine G2 12 [140] [] [] E ?_
      cases h13931
      exact Ce E ⟨_, _, _, _, rfl, fE E, sE [some 0] 1 E, rfl⟩
    refine G2 10 [] [140] [] E ?_
    cases h13931
    exact Ce E ⟨_, _, _, _, rfl, fE E, sE [some 0] 1 E, rfl⟩
  rintro _ _ _ _ h _ ⟨mid1, n2, start1, r3, rfl, hF13931, hS13931, rfl⟩
  replace h := oun_mk h
  replace h := oun_mk h
  replace h := oun_mk h
  refine Atn 1 hF13931 hS13931 E E (G0 7 E ?_)
  refine Cut h (fun f l o_ f_ μ_ l_ => ∃ (start3 : Int), start3 = o_ ∧ SubFr ((20, .int .i64 start3) :: keepF [0, 1, 2, 3, 4, 18, 19] f) f_ ∧ SegSub l l_ ∧ μ = μ_) ?_ ?_
  · intro _ h13932 h
    refine Lp h13932 (fun f l (j_ : Int × Int × Int) f_ μ_ l_ => ounP j_ fun start2 j_ => ounP j_ fun r4 p1 => SubFr ((20, .int .i64 start2) :: (21, .int .i64 r4) :: (22, .int .i64 p1) :: keepF [0, 1, 2, 3, 4, 18, 19] f) f_ ∧ SegSub l l_ ∧ μ = μ_) ⟨fE E, sE [some 0] 1 E, E⟩ ?_
    rintro ⟨start2, r4, p1⟩ _ _ _ _ _ ⟨hF13946, hS13946, rfl⟩ hb13946 hq13946
    unfold slices_symMergeCmpFunc_option_c38_l5 at hb13946
    replace hb13946 := oun_mk hb13946
    replace hb13946 := oun_mk hb13946
    refine Atn 1 hF13946 hS13946 E E (G0 7 E ?_)
    refine Br hb13946 151 E E (fun hc22 hb13946 => ?_) (fun hc22 hb13946 => ?_)
    · refine G2 9 [151] [] [] E (Rdo E E ?_)
      obtain ⟨_, hg4, hb13946⟩ := obind hb13946
      refine R_shrD E E E (guardO_some hg4) (Q0 4 E (Dr _ Kept.refl [(true, 0), (true, 1), (true, 2), (true, 3), (true, 4), (true, 5), (true, 6), (true, 7), (true, 8), (true, 9), (true, 10), (false, 11), (true, 12), (true, 13)] (by kernel_rfl) (G0 5 E (IxN hn1 hb13946 (Own.rds (L := (ch1 :: L)) hO1 0 E) E E fun _ _ _ _ hr13 hc23 _ hb13946 => ?_))))
      obtain ⟨_, _, rfl, hl17, hA30⟩ := hr13
      refine Q3 3 [] [] [64] (Z1 hc23) E (IxN hn1 hb13946 (Own.rds (L := (ch1 :: L)) hO1 0 E) E E fun _ _ _ _ hr14 hc24 _ hb13946 => ?_)
      obtain ⟨_, _, rfl, hl18, hA32⟩ := hr14
      refine Q3 1 [] [] [64] (Z1 hc24) E (Cl E ?_)
      obtain ⟨_, hx17, hb13946⟩ := obind hb13946
      refine insert_options_1_fn hl17 hA30 hl18 hA32 hx17 (?_)
      refine ⟨Kept.refl, ?_⟩
      refine Q0 3 E ?_
      refine Br hb13946 171 E E (fun hc25 hb13946 => ?_) (fun hc25 hb13946 => ?_)
      · refine G2 7 [171] [] [] E ?_
        cases hb13946
        exact Ce E ⟨_, rfl, fE E, sE [some 0] 1 E, rfl⟩
      refine G2 6 [] [171] [] E ?_
      cases hb13946
      exact Ce E ⟨_, rfl, fE E, sE [some 0] 1 E, rfl⟩
    refine G2 2 [] [151] [] E ?_
    cases hb13946
    have hq_ := hq13946 _ E
    subst hq_
    exact Ce E ⟨_, rfl, fE E, sE [some 0] 1 E, rfl⟩
  rintro _ _ _ _ h _ ⟨start3, rfl, hF13932, hS13932, rfl⟩
  refine Atn 1 hF13932 hS13932 E E (G0 9 E ?_)
  refine Cut h (fun f l o_ f_ μ_ l_ => ∃ (f_end1 : Int) (v1 : Bool), (f_end1, v1) = o_ ∧ SubFr ((24, .int .i64 f_end1) :: (185, .bool v1) :: keepF [0, 1, 2, 3, 4, 18, 20] f) f_ ∧ SegSub l l_ ∧ μ = μ_) ?_ ?_
  · intro _ h13959 h
    refine G0 5 E ?_
    refine Br h13959 181 E E (fun hc26 h13959 => ?_) (fun hc26 h13959 => ?_)
    · refine G2 5 [181] [] [] E ?_
      cases h13959
      exact Ce E ⟨_, _, rfl, fE E, sE [some 0] 1 E, rfl⟩
    refine G2 5 [] [181] [] E ?_
    cases h13959
    exact Ce E ⟨_, _, rfl, fE E, sE [some 0] 1 E, rfl⟩
  rintro _ _ _ _ h _ ⟨f_end1, v1, rfl, hF13959, hS13959, rfl⟩
  replace h := oun_mk h
  refine Atn 1 hF13959 hS13959 E E ?_
  refine Cut h (fun f l o_ f_ μ_ l_ => ∃ (data8 : (List T_insert_option)) (ch13 : Seg), data8 = o_ ∧ SubFr (keepF [0, 1, 3, 4, 18, 20, 24] f) f_ ∧ SegSub (ch13 :: selS [] 1 l) l_ ∧ data1.length = data8.length ∧ Own r_insert_option 65 μ_ (.slice A1 data1.length c1) data8 ch13 ∧ μ = μ_) ?_ ?_
  · intro _ h13960 h
    refine Br h13960 185 E E (fun hc27 h13960 => ?_) (fun hc27 h13960 => ?_)
    · refine G2 7 [185] [] [] E (Cl E ?_)
      obtain ⟨_, hx18, h13960⟩ := obind h13960
      refine slices_rotateCmpFunc_option_c38_fn hn1 hO1 hx18 (fun ch12 hO12 hn12 => Q0 1 E ?_)
      cases h13960
      exact Ce E ⟨_, ch12, rfl, fE E, sE [some 0] 1 E, (hn12), (hO12), rfl⟩
    refine G2 2 [] [185] [] E ?_
    cases h13960
    exact Ce E ⟨_, ch1, rfl, fE E, sE [some 0] 1 E, (hn1), (hO1), rfl⟩
  rintro _ _ _ _ h _ ⟨data8, ch13, rfl, hF13960, hS13960, hn13, hO13, rfl⟩
  refine Atn 1 hF13960 hS13960 E E (G0 2 E ?_)
  refine Cut h (fun f l o_ f_ μ_ l_ => ∃ (v2 : Bool), v2 = o_ ∧ SubFr ((199, .bool v2) :: keepF [0, 1, 3, 4, 18, 20, 24] f) f_ ∧ SegSub l l_ ∧ μ = μ_) ?_ ?_
  · intro _ h13963 h
    refine G0 5 E ?_
    refine Br h13963 195 E E (fun hc28 h13963 => ?_) (fun hc28 h13963 => ?_)
    · refine G2 5 [195] [] [] E ?_
      cases h13963
      exact Ce E ⟨_, rfl, fE E, sE [some 0] 1 E, rfl⟩
    refine G2 5 [] [195] [] E ?_
    cases h13963
    exact Ce E ⟨_, rfl, fE E, sE [some 0] 1 E, rfl⟩
  rintro _ _ _ _ h _ ⟨v2, rfl, hF13963, hS13963, rfl⟩
  refine Atn 1 hF13963 hS13963 E E ?_
  refine Cut h (fun f l o_ f_ μ_ l_ => ∃ (data9 : (List T_insert_option)) (ch15 : Seg), data9 = o_ ∧ SubFr (keepF [0, 3, 4, 18, 24] f) f_ ∧ SegSub (ch15 :: selS [] 1 l) l_ ∧ data1.length = data9.length ∧ Own r_insert_option 65 μ_ (.slice A1 data1.length c1) data9 ch15 ∧ μ = μ_) ?_ ?_
  · intro _ h13964 h
    refine Br h13964 199 E E (fun hc29 h13964 => ?_) (fun hc29 h13964 => ?_)
    · refine G2 7 [199] [] [] E (Cl E ?_)
      obtain ⟨_, hx19, h13964⟩ := obind h13964
      refine ih hn13 hO13 hx19 (fun ch14 hO14 hn14 => Q0 1 E ?_)
      cases h13964
      exact Ce E ⟨_, ch14, rfl, fE E, sE [some 0] 1 E, (hn14), (hO14), rfl⟩
    refine G2 2 [] [199] [] E ?_
    cases h13964
    exact Ce E ⟨_, ch13, rfl, fE E, sE [some 0] 1 E, (hn13), (hO13), rfl⟩
  rintro _ _ _ _ h _ ⟨data9, ch15, rfl, hF13964, hS13964, hn15, hO15, rfl⟩
  refine Atn 1 hF13964 hS13964 E E (G0 1 E ?_)
  refine Cut h (fun f l o_ f_ μ_ l_ => ∃ (v3 : Bool), v3 = o_ ∧ SubFr ((213, .bool v3) :: keepF [0, 3, 4, 18, 24] f) f_ ∧ SegSub l l_ ∧ μ = μ_) ?_ ?_
  · intro _ h13967 h
    refine G0 5 E ?_
    refine Br h13967 209 E E (fun hc30 h13967 => ?_) (fun hc30 h13967 => ?_)
    · refine G2 5 [209] [] [] E ?_
      cases h13967
      exact Ce E ⟨_, rfl, fE E, sE [some 0] 1 E, rfl⟩
    refine G2 5 [] [209] [] E ?_
    cases h13967
    exact Ce E ⟨_, rfl, fE E, sE [some 0] 1 E, rfl⟩
  rintro _ _ _ _ h _ ⟨v3, rfl, hF13967, hS13967, rfl⟩
  refine Atn 1 hF13967 hS13967 E E ?_
  refine Cut h (fun f l o_ f_ μ_ l_ => ∃ (data10 : (List T_insert_option)) (ch17 : Seg), data10 = o_ ∧ SubFr ([]) f_ ∧ SegSub (ch17 :: selS [] 1 l) l_ ∧ data1.length = data10.length ∧ Own r_insert_option 65 μ_ (.slice A1 data1.length c1) data10 ch17 ∧ μ = μ_) ?_ ?_
  · intro _ h13968 h
    refine Br h13968 213 E E (fun hc31 h13968 => ?_) (fun hc31 h13968 => ?_)
    · refine G2 7 [213] [] [] E (Cl E ?_)
      obtain ⟨_, hx20, h13968⟩ := obind h13968
      refine ih hn15 hO15 hx20 (fun ch16 hO16 hn16 => Q0 1 E ?_)
      cases h13968
      exact Ce E ⟨_, ch16, rfl, fE E, sE [some 0] 1 E, (hn16), (hO16), rfl⟩
    refine G2 2 [] [213] [] E ?_
    cases h13968
    exact Ce E ⟨_, ch15, rfl, fE E, sE [some 0] 1 E, (hn15), (hO15), rfl⟩
  rintro _ _ _ _ h _ ⟨data10, ch17, rfl, hF13968, hS13968, hn17, hO17, rfl⟩
  refine Atn 1 hF13968 hS13968 E E ?_
  cases h
  exact Rt [] E E (Ug [[0]] 1 (hR _ hO17 hn17))

theorem slices_stableCmpFunc_option_c38_fn {F : Nat} {data1 : (List T_insert_option)} {n2 : Int} {A1 : Option Addr} {c1 : Nat} {ch1 : Seg} {n1 : Nat} {res1 : (List T_insert_option)}
    (hn1 : n1 = data1.length) (hO1 : Own r_insert_option 65 μ (.slice A1 n1 c1) data1 ch1) (h : slices_stableCmpFunc_option_c38 F data1 n2 = some res1)
    (hR : ∀ (sp0 : Seg), Own r_insert_option 65 μ (.slice A1 n1 c1) res1 sp0 → n1 = res1.length → R (.tuple #[]) μ (sp0 :: L)) :
    Fn Try.prog 58 [.slice A1 n1 c1, .int .i64 n2, .func (.func 38) #[] #[]] μ (ch1 :: L) R := by
  unfold slices_stableCmpFunc_option_c38 at h
  subst hn1
  have hn1 : data1.length = data1.length := rfl
  refine FnS Try.func58 (by kernel_rfl) E Try.ntmps58 E E ?_
  refine G0 11 E ?_
  refine Cut h (fun f l o_ f_ μ_ l_ => ∃ (data3 : (List T_insert_option)) (a2 : Int) (ch4 : Seg), (data3, a2) = o_ ∧ SubFr ((7, .int .i64 a2) :: keepF [0, 1, 2, 6] f) f_ ∧ SegSub (ch4 :: selS [] 1 l) l_ ∧ data1.length = data3.length ∧ Own r_insert_option 65 μ_ (.slice A1 data1.length c1) data3 ch4 ∧ μ = μ_) ?_ ?_
  · intro _ h13993 h
    refine Lp h13993 (fun f l (j_ : (List T_insert_option) × Int × Int) f_ μ_ l_ => ounP j_ fun data2 j_ => ounP j_ fun a1 b1 => ∃ (ch2 : Seg), SubFr ((7, .int .i64 a1) :: (8, .int .i64 b1) :: keepF [0, 1, 2, 6] f) f_ ∧ SegSub (ch2 :: selS [] 1 l) l_ ∧ data1.length = data2.length ∧ Own r_insert_option 65 μ_ (.slice A1 data1.length c1) data2 ch2 ∧ μ = μ_) ⟨ch1, fE E, sE [some 0] 1 E, (hn1), (hO1), E⟩ ?_
    rintro ⟨data2, a1, b1⟩ _ _ _ _ _ ⟨ch2, hF13996, hS13996, hn2, hO2, rfl⟩ hb13996 hq13996
    unfold slices_stableCmpFunc_option_c38_l1 at hb13996
    replace hb13996 := oun_mk hb13996
    replace hb13996 := oun_mk hb13996
    refine Atn 1 hF13996 hS13996 E E (G0 7 E ?_)
    refine Br hb13996 13 E E (fun hc1 hb13996 => ?_) (fun hc1 hb13996 => ?_)
    · refine G2 9 [13] [] [] E (Cl E ?_)
      obtain ⟨_, hx1, hb13996⟩ := obind hb13996
      refine slices_insertionSortCmpFunc_option_c38_fn hn2 hO2 hx1 (fun ch3 hO3 hn3 => Q0 13 E ?_)
      cases hb13996
      exact Ce E ⟨_, rfl, ch3, fE E, sE [some 0] 1 E, (hn3), (hO3), rfl⟩
    refine G2 2 [] [13] [] E ?_
    cases hb13996
    have hq_ := hq13996 _ E
    subst hq_
    exact Ce E ⟨_, _, ch2, rfl, fE E, sE [some 0] 1 E, (hn2), (hO2), rfl⟩
  rintro _ _ _ _ h _ ⟨data3, a2, ch4, rfl, hF13993, hS13993, hn4, hO4, rfl⟩
  replace h := oun_mk h
  refine Atn 1 hF13993 hS13993 E E (G0 6 E (Cl E ?_))
  obtain ⟨_, hx2, h⟩ := obind h
  refine slices_insertionSortCmpFunc_option_c38_fn hn4 hO4 hx2 (fun ch5 hO5 hn5 => Q0 1 E ?_)
  refine Cut h (fun f l o_ f_ μ_ l_ => ∃ (data8 : (List T_insert_option)) (ch12 : Seg), data8 = o_ ∧ SubFr ([]) f_ ∧ SegSub (ch12 :: selS [] 1 l) l_ ∧ data1.length = data8.length ∧ Own r_insert_option 65 μ_ (.slice A1 data1.length c1) data8 ch12 ∧ μ = μ_) ?_ ?_
  · intro _ h14001 h
    refine Lp h14001 (fun f l (j_ : (List T_insert_option) × Int) f_ μ_ l_ => ounP j_ fun data4 blockSize1 => ∃ (ch6 : Seg), SubFr ((6, .int .i64 blockSize1) :: keepF [0, 1, 2] f) f_ ∧ SegSub (ch6 :: selS [] 1 l) l_ ∧ data1.length = data4.length ∧ Own r_insert_option 65 μ_ (.slice A1 data1.length c1) data4 ch6 ∧ μ = μ_) ⟨ch5, fE E, sE [some 0] 1 E, (hn5), (hO5), E⟩ ?_
    rintro ⟨data4, blockSize1⟩ _ _ _ _ _ ⟨ch6, hF14013, hS14013, hn6, hO6, rfl⟩ hb14013 hq14013
    unfold slices_stableCmpFunc_option_c38_l3 at hb14013
    replace hb14013 := oun_mk hb14013
    refine Atn 1 hF14013 hS14013 E E (G0 7 E ?_)
    refine Br hb14013 30 E E (fun hc2 hb14013 => ?_) (fun hc2 hb14013 => ?_)
    · refine G2 11 [30] [] [] E ?_
      refine Cut hb14013 (fun f l o_ f_ μ_ l_ => ∃ (data6 : (List T_insert_option)) (a4 : Int) (ch9 : Seg), (data6, a4) = o_ ∧ SubFr ((7, .int .i64 a4) :: keepF [0, 1, 2, 6] f) f_ ∧ SegSub (ch9 :: selS [] 1 l) l_ ∧ data1.length = data6.length ∧ Own r_insert_option 65 μ_ (.slice A1 data1.length c1) data6 ch9 ∧ μ = μ_) ?_ ?_
      · intro _ h14015 hb14013
        refine Lp h14015 (fun f l (j_ : (List T_insert_option) × Int × Int) f_ μ_ l_ => ounP j_ fun data5 j_ => ounP j_ fun a3 b2 => ∃ (ch7 : Seg), SubFr ((7, .int .i64 a3) :: (8, .int .i64 b2) :: keepF [0, 1, 2, 6] f) f_ ∧ SegSub (ch7 :: selS [] 1 l) l_ ∧ data1.length = data5.length ∧ Own r_insert_option 65 μ_ (.slice A1 data1.length c1) data5 ch7 ∧ μ = μ_) ⟨ch6, fE E, sE [some 0] 1 E, (hn6), (hO6), E⟩ ?_
        rintro ⟨data5, a3, b2⟩ _ _ _ _ _ ⟨ch7, hF14018, hS14018, hn7, hO7, rfl⟩ hb14018 hq14018
        unfold slices_stableCmpFunc_option_c38_l2 at hb14018
        replace hb14018 := oun_mk hb14018
        replace hb14018 := oun_mk hb14018
        refine Atn 1 hF14018 hS14018 E E (G0 7 E ?_)
        refine Br hb14018 35 E E (fun hc3 hb14018 => ?_) (fun hc3 hb14018 => ?_)
        · refine G2 12 [35] [] [] E (Cl E ?_)
          obtain ⟨_, hx3, hb14018⟩ := obind hb14018
          refine slices_symMergeCmpFunc_option_c38_fn hn7 hO7 hx3 (fun ch8 hO8 hn8 => Q0 14 E ?_)
          cases hb14018
          exact Ce E ⟨_, rfl, ch8, fE E, sE [some 0] 1 E, (hn8), (hO8), rfl⟩
        refine G2 2 [] [35] [] E ?_
        cases hb14018
        have hq_ := hq14018 _ E
        subst hq_
        exact Ce E ⟨_, _, ch7, rfl, fE E, sE [some 0] 1 E, (hn7), (hO7), rfl⟩
      rintro _ _ _ _ hb14013 _ ⟨data6, a4, ch9, rfl, hF14015, hS14015, hn9, hO9, rfl⟩
      replace hb14013 := oun_mk hb14013
      refine Atn 1 hF14015 hS14015 E E (G0 14 E ?_)
      refine Cut hb14013 (fun f l o_ f_ μ_ l_ => ∃ (data7 : (List T_insert_option)) (ch11 : Seg), data7 = o_ ∧ SubFr (keepF [0, 1, 2, 6] f) f_ ∧ SegSub (ch11 :: selS [] 1 l) l_ ∧ data1.length = data7.length ∧ Own r_insert_option 65 μ_ (.slice A1 data1.length c1) data7 ch11 ∧ μ = μ_) ?_ ?_
      · intro _ h14022 hb14013
        refine Br h14022 54 E E (fun hc4 h14022 => ?_) (fun hc4 h14022 => ?_)
        · refine G2 7 [54] [] [] E (Cl E ?_)
          obtain ⟨_, hx4, h14022⟩ := obind h14022
          refine slices_symMergeCmpFunc_option_c38_fn hn9 hO9 hx4 (fun ch10 hO10 hn10 => Q0 1 E ?_)
          cases h14022
          exact Ce E ⟨_, ch10, rfl, fE E, sE [some 0] 1 E, (hn10), (hO10), rfl⟩
        refine G2 2 [] [54] [] E ?_
        cases h14022
        exact Ce E ⟨_, ch9, rfl, fE E, sE [some 0] 1 E, (hn9), (hO9), rfl⟩
      rintro _ _ _ _ hb14013 _ ⟨data7, ch11, rfl, hF14022, hS14022, hn11, hO11, rfl⟩
      refine Atn 1 hF14022 hS14022 E E (G0 6 E ?_)
      cases hb14013
      exact Ce E ⟨_, rfl, ch11, fE E, sE [some 0] 1 E, (hn11), (hO11), rfl⟩
    refine G2 2 [] [30] [] E ?_
    cases hb14013
    have hq_ := hq14013 _ E
    subst hq_
    exact Ce E ⟨_, ch6, rfl, fE E, sE [some 0] 1 E, (hn6), (hO6), rfl⟩
  rintro _ _ _ _ h _ ⟨data8, ch12, rfl, hF14001, hS14001, hn12, hO12, rfl⟩
  refine Atn 1 hF14001 hS14001 E E ?_
  cases h
  exact Rt [] E E (Ug [[0]] 1 (hR _ hO12 hn12))

theorem slices_SortStableFunc_option_c38_fn {F : Nat} {x1 : (List T_insert_option)} {A1 : Option Addr} {c1 : Nat} {ch1 : Seg} {n1 : Nat} {res1 : (List T_insert_option)}
    (hn1 : n1 = x1.length) (hO1 : Own r_insert_option 65 μ (.slice A1 n1 c1) x1 ch1) (h : slices_SortStableFunc_option_c38 F x1 = some res1)
    (hR : ∀ (sp0 : Seg), Own r_insert_option 65 μ (.slice A1 n1 c1) res1 sp0 → n1 = res1.length → R (.tuple #[]) μ (sp0 :: L)) :
    Fn Try.prog 37 [.slice A1 n1 c1, .func (.func 38) #[] #[]] μ (ch1 :: L) R := by
  unfold slices_SortStableFunc_option_c38 at h
  subst hn1
  have hn1 : x1.length = x1.length := rfl
  refine FnS Try.func37 (by kernel_rfl) E Try.ntmps37 E E ?_
  refine G0 5 E (Cl E ?_)
  obtain ⟨_, hx1, h⟩ := obind h
  refine slices_stableCmpFunc_option_c38_fn hn1 hO1 hx1 (fun _ hO2 hn2 => Q0 1 E ?_)
  cases h
  exact Rt [] E E (Ug [[0]] 1 (hR _ hO2 hn2))

theorem insert_options_fn {F : Nat} {p1 : T_api_Problem} {t1 : T_api_Tour} {d1 : Int} {A1 : Option Addr} {c1 : Nat} {A2 : Option Addr} {c2 : Nat} {A3 : Option Addr} {c3 : Nat} {A4 : Option Addr} {c4 : Nat} {res1 : (List T_insert_option)} {res2 : Int}
    (hl1 : p1.Road.Edges.length ≤ c1 ∧ c1 ≤ maxLen) (hA1 : ArrR r_api_Edge μ A1 p1.Road.Edges) (hl2 : p1.Vehicles.length ≤ c2 ∧ c2 ≤ maxLen) (hA2 : ArrR r_api_Vehicle μ A2 p1.Vehicles) (hl3 : p1.Demands.length ≤ c3 ∧ c3 ≤ maxLen) (hA3 : ArrR r_api_Demand μ A3 p1.Demands) (hl4 : t1.Stops.length ≤ c4 ∧ c4 ≤ maxLen) (hA4 : ArrR rInt μ A4 t1.Stops) (h : insert_options F p1 t1 d1 = some (res1, res2))
    (hR : ∀ (μ' : Gh) (A0 : Option Addr) (c0 : Nat) (ch0 : Seg), μ.le μ' → Own r_insert_option 65 μ' (.slice A0 res1.length c0) res1 ch0 → R (.tuple #[.slice A0 res1.length c0, .int .i64 res2]) μ' (ch0 :: L)) :
    Fn Try.prog 26 [.agg #[.int .i64 p1.Road.Nodes, .slice A1 p1.Road.Edges.length c1, .slice A2 p1.Vehicles.length c2, .slice A3 p1.Demands.length c3, .int .i64 p1.Unload, .int .i64 p1.UnloadSecs], .agg #[.int .i64 t1.Vehicle, .slice A4 t1.Stops.length c4], .int .i64 d1] μ (L) R := by
  unfold insert_options at h
  refine FnS Try.func26 (by kernel_rfl) E Try.ntmps26 E E ?_
  refine G0 2 E (Al E fun g1 => Q0 0 E (Al E fun _ => Q1 7 [1] E (Cl E ?_)))
  obtain ⟨_, hx1, h⟩ := obind h
  refine tour_Check_fn hl1 hA1 hl2 hA2 hl3 hA3 hx1 (fun _ hm_1 => ?_)
  replace hA1 := hA1.mono hm_1
  replace hA2 := hA2.mono hm_1
  replace hA3 := hA3.mono hm_1
  replace hA4 := hA4.mono hm_1
  refine Q0 7 E ?_
  refine Br h 17 E E (fun hc1 h => ?_) (fun hc1 h => ?_)
  · refine G2 7 [17] [] [] E ?_
    cases h
    exact Rt [] E E (Ug [[]] 2 (hR _ none 0 [] hm_1 Own.nil))
  refine G2 4 [] [17] [] E ?_
  refine Cut h (fun f l o_ f_ μ_ l_ => ∃ (v2 : Bool), v2 = o_ ∧ SubFr ((40, .bool v2) :: keepF [2, 3, 4] f) f_ ∧ SegSub (selS [some 1, some 0] 2 l) l_) ?_ ?_
  · intro _ h14042 h
    refine G1 5 [0] E ?_
    refine Br h14042 22 E E (fun hc2 h14042 => ?_) (fun hc2 h14042 => ?_)
    · refine G2 19 [22, 30, 34] [] [] E ?_
      cases h14042
      exact Ce E ⟨_, rfl, fE E, sE [some 1, some 0] 2 E⟩
    refine G2 8 [] [22] [0, 1] E ?_
    refine Br h14042 30 E E (fun hc3 h14042 => ?_) (fun hc3 h14042 => ?_)
    · refine G2 11 [30, 34] [] [] E ?_
      cases h14042
      exact Ce E ⟨_, rfl, fE E, sE [some 1, some 0] 2 E⟩
    refine G2 4 [] [30] [] E ?_
    refine Br h14042 34 E E (fun hc4 h14042 => ?_) (fun hc4 h14042 => ?_)
    · refine G2 7 [34] [] [] E ?_
      cases h14042
      exact Ce E ⟨_, rfl, fE E, sE [some 1, some 0] 2 E⟩
    refine G2 7 [] [34] [1] E ?_
    cases h14042
    exact Ce E ⟨_, rfl, fE E, sE [some 1, some 0] 2 E⟩
  rintro _ _ _ _ h hm14042 ⟨v2, rfl, hF14042, hS14042⟩
  replace hA1 := hA1.mono hm14042
  replace hA2 := hA2.mono hm14042
  replace hA3 := hA3.mono hm14042
  replace hA4 := hA4.mono hm14042
  refine Atn 2 hF14042 hS14042 E E ?_
  refine Br h 40 E E (fun hc5 h => ?_) (fun hc5 h => ?_)
  · refine G2 6 [40] [] [] E ?_
    cases h
    exact Rt [] E E (Ug [[]] 2 (hR _ none 0 [] (hm_1.trans hm14042) Own.nil))
  refine G2 8 [] [40] [1] E (Cl E ?_)
  obtain ⟨_, hx2, h⟩ := obind h
  refine slices_Contains_int_fn hl4 (ArrR.rds hA4 _) hx2 ((Q0 1 E ?_))
  refine Br h 44 E E (fun hc6 h => ?_) (fun hc6 h => ?_)
  · refine G2 6 [44] [] [] E ?_
    cases h
    exact Rt [] E E (Ug [[]] 2 (hR _ none 0 [] (hm_1.trans hm14042) Own.nil))
  refine G2 14 [] [44] [1] E ?_
  refine Br h 48 E E (fun hc7 h => ?_) (fun hc7 h => ?_)
  · refine G2 6 [48] [] [] E ?_
    cases h
    exact Rt [] E E (Ug [[]] 2 (hR _ none 0 [] (hm_1.trans hm14042) Own.nil))
  refine G2 7 [] [48] [1] E (Cl E ?_)
  obtain ⟨_, hx3, h⟩ := obind h
  refine insert_candidates_fn hl4 hA4 hx3 (fun _ _ _ _ hm_2 hO1 => ?_)
  replace hA1 := hA1.mono hm_2
  replace hA2 := hA2.mono hm_2
  replace hA3 := hA3.mono hm_2
  refine Q0 3 E ?_
  refine Cut h (fun f l o_ f_ μ_ l_ => ∃ (out3 : (List T_insert_option)) (A10 : Option Addr) (c10 : Nat) (ch5 : Seg), out3 = o_ ∧ SubFr ((9, .slice A10 out3.length c10) :: []) f_ ∧ SegSub (ch5 :: selS [] 3 l) l_ ∧ Own r_insert_option 65 μ_ (.slice A10 out3.length c10) out3 ch5) ?_ ?_
  · intro _ h14056 h
    refine Lp h14056 (fun f l (j_ : (List T_insert_option) × Int) f_ μ_ l_ => ounP j_ fun out1 v4 => ∃ (A6 : Option Addr) (c6 : Nat) (ch2 : Seg), SubFr ((9, .slice A6 out1.length c6) :: (53, .int .i64 v4) :: keepF [3, 51, 52] f) f_ ∧ SegSub ([(g1, .cells #[.int .i64 p1.Road.Nodes, .slice A1 p1.Road.Edges.length c1, .slice A2 p1.Vehicles.length c2, .slice A3 p1.Demands.length c3, .int .i64 p1.Unload, .int .i64 p1.UnloadSecs] 28 (0, 0))] :: ch2 :: selS [some 0] 3 l) l_ ∧ Own r_insert_option 65 μ_ (.slice A6 out1.length c6) out1 ch2) ⟨none, 0, [], fE E, sE [some 1, none, some 0] 3 E, (Own.nil)⟩ ?_
    rintro ⟨out1, v4⟩ _ _ _ _ hm14075 ⟨A6, c6, ch2, hF14075, hS14075, hO2⟩ hb14075 hq14075
    unfold insert_options_l1 at hb14075
    replace hb14075 := oun_mk hb14075
    replace hA1 := hA1.mono hm14075
    replace hA2 := hA2.mono hm14075
    replace hA3 := hA3.mono hm14075
    replace hO1 := hO1.mono hm14075
    refine Atn 3 hF14075 hS14075 E E (G0 5 E ?_)
    refine Br hb14075 54 E E (fun hc8 hb14075 => ?_) (fun hc8 hb14075 => ?_)
    · refine G2 3 [54] [] [] E ?_
      refine Cut hb14075 (fun f l o_ f_ μ_ l_ => ∃ (out2 : (List T_insert_option)) (A9 : Option Addr) (c9 : Nat) (ch4 : Seg), out2 = o_ ∧ SubFr ((9, .slice A9 out2.length c9) :: keepF [3, 51, 52, 53] f) f_ ∧ SegSub ([(g1, .cells #[.int .i64 p1.Road.Nodes, .slice A1 p1.Road.Edges.length c1, .slice A2 p1.Vehicles.length c2, .slice A3 p1.Demands.length c3, .int .i64 p1.Unload, .int .i64 p1.UnloadSecs] 28 (0, 0))] :: ch4 :: selS [] 2 l) l_ ∧ Own r_insert_option 65 μ_ (.slice A9 out2.length c9) out2 ch4) ?_ ?_
      · intro _ h14082 hb14075
        refine G0 3 E (IxA h14082 (Own.rds hO1 2 E) E E fun x1 _ _ _ hr1 hc9 _ h14082 => ?_)
        obtain ⟨A7, c7, rfl, hl5, hA6⟩ := hr1
        refine Q3 1 [] [] [64] (Z1 hc9) E (Al E fun _ => Q1 6 [0, 1, 0] E (Cl E ?_))
        obtain ⟨⟨r4, _⟩, hx5, h14082⟩ := obind h14082
        replace h14082 := oun_mk h14082
        refine tour_Cost_fn hl1 hA1 hl2 hA2 hl3 hA3 hl5 hA6 hx5 (fun _ hm_3 => ?_)
        replace hO2 := hO2.mono hm_3
        replace hA6 := hA6.mono hm_3
        refine Q0 11 E ?_
        refine Br h14082 64 E E (fun hc10 h14082 => ?_) (fun hc10 h14082 => ?_)
        · refine G2 6 [64] [] [0] E (So E (O_bsl (z := [.int .i64 0, .slice none 0 0, .int .i64 0]) E E E E E E E (F_cons (cells' := [.int .i64 x1.Vehicle, .slice A7 x1.Stops.length c7, .int .i64 r4]) E E E E (F_nil (fun g4 => Q0 0 E (So E (O_append E ?_)))))))
          obtain ⟨_, hz1, h14082⟩ := obind h14082
          refine sem_appR (r := r_insert_option) Tt_ok E E E E (by decide) E E 3 E hO2 E (Own.rds (Own.lit (r := r_insert_option) (e := 65) (g := g4) (xs := [(T_insert_option.mk x1 r4)]) (cs := [.int .i64 x1.Vehicle, .slice A7 x1.Stops.length c7, .int .i64 r4]) (css := [[.int .i64 x1.Vehicle, .slice A7 x1.Stops.length c7, .int .i64 r4]]) E (All2.cons (⟨A7, c7, E, hl5, hA6⟩) (All2.nil)) E E) 0 E) hz1 fun A8 c8 ch3 hO3 => Q0 3 E ?_
          cases h14082
          exact Ce E ⟨_, A8, c8, ch3, rfl, fE E, sE [some 2, some 3, some 4] 5 E, (hO3)⟩
        refine G2 3 [] [64] [] E ?_
        cases h14082
        exact Ce E ⟨_, A6, c6, ch2, rfl, fE E, sE [some 1, some 2, some 3] 4 E, (hO2)⟩
      rintro _ _ _ _ hb14075 hm14082 ⟨out2, A9, c9, ch4, rfl, hF14082, hS14082, hO4⟩
      replace hO2 := hO2.mono hm14082
      refine Atn 3 hF14082 hS14082 E E (G0 4 E ?_)
      cases hb14075
      exact Ce E ⟨_, rfl, A9, c9, ch4, fE E, sE [some 0, some 1, some 2] 3 E, (hO4)⟩
    refine G2 2 [] [54] [] E ?_
    cases hb14075
    have hq_ := hq14075 _ E
    subst hq_
    exact Ce E ⟨_, A6, c6, ch2, rfl, fE E, sE [some 1] 3 E, (hO2)⟩
  rintro _ _ _ _ h hm14056 ⟨out3, A10, c10, ch5, rfl, hF14056, hS14056, hO5⟩
  refine Atn 1 hF14056 hS14056 E E (G0 3 E (Cl E ?_))
  obtain ⟨_, hx6, h⟩ := obind h
  refine slices_SortStableFunc_option_c38_fn E hO5 hx6 (fun ch6 hO6 hn1 => ?_)
  rw [hn1] at hO6 ⊢
  refine Q0 7 E ?_
  cases h
  exact Rt [] E E (Ug [[0]] 1 (hR _ A10 c10 ch6 (hm_1.trans (hm14042.trans (hm_2.trans hm14056))) hO6))

theorem insert_Options_fn {F : Nat} {p1 : T_api_Problem} {t1 : T_api_Tour} {d1 : Int} {A1 : Option Addr} {c1 : Nat} {A2 : Option Addr} {c2 : Nat} {A3 : Option Addr} {c3 : Nat} {A4 : Option Addr} {c4 : Nat} {res1 : (List T_api_Tour)} {res2 : Int}
    (hl1 : p1.Road.Edges.length ≤ c1 ∧ c1 ≤ maxLen) (hA1 : ArrR r_api_Edge μ A1 p1.Road.Edges) (hl2 : p1.Vehicles.length ≤ c2 ∧ c2 ≤ maxLen) (hA2 : ArrR r_api_Vehicle μ A2 p1.Vehicles) (hl3 : p1.Demands.length ≤ c3 ∧ c3 ≤ maxLen) (hA3 : ArrR r_api_Demand μ A3 p1.Demands) (hl4 : t1.Stops.length ≤ c4 ∧ c4 ≤ maxLen) (hA4 : ArrR rInt μ A4 t1.Stops) (h : insert_Options F p1 t1 d1 = some (res1, res2))
    (hR : ∀ (μ' : Gh) (A0 : Option Addr) (c0 : Nat) (ch0 : Seg), μ.le μ' → Own r_api_Tour 31 μ' (.slice A0 res1.length c0) res1 ch0 → R (.tuple #[.slice A0 res1.length c0, .int .i64 res2]) μ' (ch0 :: L)) :
    Fn Try.prog 12 [.agg #[.int .i64 p1.Road.Nodes, .slice A1 p1.Road.Edges.length c1, .slice A2 p1.Vehicles.length c2, .slice A3 p1.Demands.length c3, .int .i64 p1.Unload, .int .i64 p1.UnloadSecs], .agg #[.int .i64 t1.Vehicle, .slice A4 t1.Stops.length c4], .int .i64 d1] μ (L) R := by
  unfold insert_Options at h
  refine FnS Try.func12 (by kernel_rfl) E Try.ntmps12 E E ?_
  refine G0 2 E (Al E fun _ => Q0 0 E (Al E fun _ => Q1 8 [1, 0] E (Cl E ?_)))
  obtain ⟨⟨_, _⟩, hx1, h⟩ := obind h
  replace h := oun_mk h
  refine insert_options_fn hl1 hA1 hl2 hA2 hl3 hA3 hl4 hA4 hx1 (fun _ _ _ _ hm_1 hO1 => ?_)
  refine Q0 17 E ?_
  refine Cut h (fun f l o_ f_ μ_ l_ => ∃ (out2 : (List T_api_Tour)) (A9 : Option Addr) (c9 : Nat) (ch4 : Seg), out2 = o_ ∧ SubFr ((10, .slice A9 out2.length c9) :: keepF [9] f) f_ ∧ SegSub (ch4 :: selS [] 3 l) l_ ∧ Own r_api_Tour 31 μ_ (.slice A9 out2.length c9) out2 ch4) ?_ ?_
  · intro _ h14136 h
    refine Lp h14136 (fun f l (j_ : (List T_api_Tour) × Int) f_ μ_ l_ => ounP j_ fun out1 v2 => ∃ (A6 : Option Addr) (c6 : Nat) (ch2 : Seg), SubFr ((10, .slice A6 out1.length c6) :: (22, .int .i64 v2) :: keepF [9, 20, 21] f) f_ ∧ SegSub (ch2 :: selS [some 0] 3 l) l_ ∧ Own r_api_Tour 31 μ_ (.slice A6 out1.length c6) out1 ch2) ⟨none, 0, [], fE E, sE [none, some 0] 3 E, (Own.nil)⟩ ?_
    rintro ⟨out1, v2⟩ _ _ _ _ hm14148 ⟨A6, c6, ch2, hF14148, hS14148, hO2⟩ hb14148 hq14148
    unfold insert_Options_l1 at hb14148
    replace hb14148 := oun_mk hb14148
    replace hO1 := hO1.mono hm14148
    refine Atn 2 hF14148 hS14148 E E (G0 5 E ?_)
    refine Br hb14148 23 E E (fun hc1 hb14148 => ?_) (fun hc1 hb14148 => ?_)
    · refine G2 6 [23] [] [] E (IxA hb14148 (Own.rds hO1 1 E) E E fun x1 _ _ _ hr1 hc2 _ hb14148 => ?_)
      obtain ⟨A7, c7, rfl, hl5, hA6⟩ := hr1
      refine Q3 1 [] [] [64] (Z1 hc2) E (Al E fun _ => Q1 6 [0, 0] E (So E (O_bsl (z := [.int .i64 0, .slice none 0 0]) E E E E E E E (F_cons (cells' := [.int .i64 x1.tour.Vehicle, .slice A7 x1.tour.Stops.length c7]) E E E E (F_nil (fun g4 => Q0 0 E (So E (O_append E ?_))))))))
      obtain ⟨_, hz1, hb14148⟩ := obind hb14148
      refine sem_appR (r := r_api_Tour) Tt_ok E E E E (by decide) E E 2 E hO2 E (Own.rds (Own.lit (r := r_api_Tour) (e := 31) (g := g4) (xs := [x1.tour]) (cs := [.int .i64 x1.tour.Vehicle, .slice A7 x1.tour.Stops.length c7]) (css := [[.int .i64 x1.tour.Vehicle, .slice A7 x1.tour.Stops.length c7]]) E (All2.cons (⟨A7, c7, E, hl5, hA6⟩) (All2.nil)) E E) 0 E) hz1 fun A8 c8 ch3 hO3 => Q0 7 E ?_
      cases hb14148
      exact Ce E ⟨_, rfl, A8, c8, ch3, fE E, sE [some 2, some 3] 4 E, (hO3)⟩
    refine G2 2 [] [23] [] E ?_
    cases hb14148
    have hq_ := hq14148 _ E
    subst hq_
    exact Ce E ⟨_, A6, c6, ch2, rfl, fE E, sE [some 0] 2 E, (hO2)⟩
  rintro _ _ _ _ h hm14136 ⟨out2, A9, c9, ch4, rfl, hF14136, hS14136, hO4⟩
  refine Atn 1 hF14136 hS14136 E E (G0 7 E ?_)
  cases h
  exact Rt [] E E (Ug [[0]] 1 (hR _ A9 c9 ch4 (hm_1.trans hm14136) hO4))

theorem insert_Build_fn {F : Nat} {p1 : T_api_Problem} {A1 : Option Addr} {c1 : Nat} {A2 : Option Addr} {c2 : Nat} {A3 : Option Addr} {c3 : Nat} {res1 : T_api_Plan} {res2 : Int}
    (hl1 : p1.Road.Edges.length ≤ c1 ∧ c1 ≤ maxLen) (hA1 : ArrR r_api_Edge μ A1 p1.Road.Edges) (hl2 : p1.Vehicles.length ≤ c2 ∧ c2 ≤ maxLen) (hA2 : ArrR r_api_Vehicle μ A2 p1.Vehicles) (hl3 : p1.Demands.length ≤ c3 ∧ c3 ≤ maxLen) (hA3 : ArrR r_api_Demand μ A3 p1.Demands) (h : insert_Build F p1 = some (res1, res2))
    (hR : ∀ (μ' : Gh) (A0_0 : Option Addr) (c0_0 : Nat) (A0_1 : Option Addr) (c0_1 : Nat), μ.le μ' → (res1.Tours.length ≤ c0_0 ∧ c0_0 ≤ maxLen) → ArrR r_api_Tour μ' A0_0 res1.Tours → (res1.Left.length ≤ c0_1 ∧ c0_1 ≤ maxLen) → ArrR rInt μ' A0_1 res1.Left → R (.tuple #[.agg #[.slice A0_0 res1.Tours.length c0_0, .slice A0_1 res1.Left.length c0_1], .int .i64 res2]) μ' (L)) :
    Fn Try.prog 19 [.agg #[.int .i64 p1.Road.Nodes, .slice A1 p1.Road.Edges.length c1, .slice A2 p1.Vehicles.length c2, .slice A3 p1.Demands.length c3, .int .i64 p1.Unload, .int .i64 p1.UnloadSecs]] μ (L) R := by
  unfold insert_Build at h
  refine FnS Try.func19 (by kernel_rfl) E Try.ntmps19 E E ?_
  refine G0 2 E (Al E fun g1 => Q0 0 E (Al E fun g2 => Q1 6 [1] E (Cl E ?_)))
  obtain ⟨_, hx1, h⟩ := obind h
  refine tour_Check_fn hl1 hA1 hl2 hA2 hl3 hA3 hx1 (fun _ hm_1 => ?_)
  replace hA1 := hA1.mono hm_1
  replace hA2 := hA2.mono hm_1
  replace hA3 := hA3.mono hm_1
  refine Q0 7 E ?_
  refine Br h 20 E E (fun hc1 h => ?_) (fun hc1 h => ?_)
  · refine G2 8 [20] [] [0] E ?_
    cases h
    exact Rt [0] E E (Ug [] 2 (hR _ none 0 none 0 hm_1 ⟨Nat.le_refl _, Nat.zero_le _⟩ ArrR.nil ⟨Nat.le_refl _, Nat.zero_le _⟩ ArrR.nil))
  refine G2 7 [] [20] [1] E (So E (O_mksl E E ?_))
  obtain ⟨_, hn1, h⟩ := obind h
  refine sem_mkO (r := r_insert_option) (z := (T_insert_option.mk (T_api_Tour.mk 0 []) 0)) (zc := [.int .i64 0, .slice none 0 0, .int .i64 0]) Tt_ok E E E E E (⟨none, 0, E, ⟨Nat.le_refl _, Nat.zero_le _⟩, ArrR.nil⟩) E hn1 fun A4 c4 ch1 hO1 => Q0 9 E ?_
  refine Cut h (fun f l o_ f_ μ_ l_ => ∃ (tours2 : (List T_insert_option)) (A8 : Option Addr) (c8 : Nat) (ch4 : Seg), tours2 = o_ ∧ SubFr ((5, .slice A8 tours2.length c8) :: keepF [1, 2] f) f_ ∧ SegSub ([(g1, .cells #[.int .i64 p1.Road.Nodes, .slice A1 p1.Road.Edges.length c1, .slice A2 p1.Vehicles.length c2, .slice A3 p1.Demands.length c3, .int .i64 p1.Unload, .int .i64 p1.UnloadSecs] 28 (0, 0))] :: [(g2, .cells #[.slice none 0 0, .slice none 0 0] 45 (0, 0))] :: ch4 :: selS [] 3 l) l_ ∧ Own r_insert_option 65 μ_ (.slice A8 tours2.length c8) tours2 ch4) ?_ ?_
  · intro _ h14610 h
    refine Lp h14610 (fun f l (j_ : (List T_insert_option) × Int) f_ μ_ l_ => ounP j_ fun tours1 v2 => ∃ (A5 : Option Addr) (c5 : Nat) (ch2 : Seg), SubFr ((5, .slice A5 tours1.length c5) :: (29, .int .i64 v2) :: keepF [1, 2, 28] f) f_ ∧ SegSub ([(g1, .cells #[.int .i64 p1.Road.Nodes, .slice A1 p1.Road.Edges.length c1, .slice A2 p1.Vehicles.length c2, .slice A3 p1.Demands.length c3, .int .i64 p1.Unload, .int .i64 p1.UnloadSecs] 28 (0, 0))] :: [(g2, .cells #[.slice none 0 0, .slice none 0 0] 45 (0, 0))] :: ch2 :: selS [] 3 l) l_ ∧ Own r_insert_option 65 μ_ (.slice A5 tours1.length c5) tours1 ch2) ⟨A4, c4, ch1, fE E, sE [some 2, some 1, some 0] 3 E, (hO1)⟩ ?_
    rintro ⟨tours1, v2⟩ _ _ μ14623 _ hm14623 ⟨A5, c5, ch2, hF14623, hS14623, hO2⟩ hb14623 hq14623
    unfold insert_Build_l1 at hb14623
    replace hb14623 := oun_mk hb14623
    replace hA1 := hA1.mono hm14623
    replace hA2 := hA2.mono hm14623
    replace hA3 := hA3.mono hm14623
    refine Atn 3 hF14623 hS14623 E E (G0 5 E ?_)
    refine Br hb14623 30 E E (fun hc2 hb14623 => ?_) (fun hc2 hb14623 => ?_)
    · refine G2 13 [30] [] [] E (IxA hb14623 (Own.rds hO2 2 E) E E fun x1 a1 _ hx2 hr1 _ hA4 hb14623 => ?_)
      obtain ⟨_, _, rfl, _, _⟩ := hr1
      refine Q0 2 E (So E (O_store (vs := [.int .i64 v2]) E E E E E E ?_))
      rw [← Addr.add_zero' ((a1.add (v2.toNat * 3)))]
      refine Own.store (μ := μ14623) (r := r_insert_option) (x' := (T_insert_option.mk (T_api_Tour.mk v2 x1.tour.Stops) x1.cost)) (o := 0) (sz := 3) 2 rfl hO2 hA4 hx2 rfl rfl (by rintro _ ⟨A7, c7, rfl, hl5, hA6⟩; exact ⟨A7, c7, rfl, hl5, hA6⟩) fun ch3 hO3 => ?_
      rw [← length_setI tours1 v2 (T_insert_option.mk (T_api_Tour.mk v2 x1.tour.Stops) x1.cost)] at hO3 ⊢
      refine Q0 6 E ?_
      cases hb14623
      exact Ce E ⟨_, rfl, A5, c5, ch3, fE E, sE [some 0, some 1, some 2] 3 E, (hO3)⟩
    refine G2 2 [] [30] [] E ?_
    cases hb14623
    have hq_ := hq14623 _ E
    subst hq_
    exact Ce E ⟨_, A5, c5, ch2, rfl, fE E, sE [some 0, some 1, some 2] 3 E, (hO2)⟩
  rintro _ _ _ _ h hm14610 ⟨tours2, A8, c8, ch4, rfl, hF14610, hS14610, hO4⟩
  replace hA1 := hA1.mono hm14610
  replace hA2 := hA2.mono hm14610
  replace hA3 := hA3.mono hm14610
  refine Atn 3 hF14610 hS14610 E E (G0 2 E (Al E fun g3 => Q1 9 [1] E ?_))
  refine Cut h (fun f l o_ f_ μ_ l_ => ∃ (tours5 : (List T_insert_option)) (f12 : (List Int)) (A24 : Option Addr) (c24 : Nat) (ch12 : Seg) (A25 : Option Addr) (c25 : Nat) (ch13 : Seg), (tours5, f12) = o_ ∧ SubFr ((5, .slice A24 tours5.length c24) :: keepF [2, 7] f) f_ ∧ SegSub ([(g2, .cells #[.slice none 0 0, .slice none 0 0] 45 (0, 0))] :: ch12 :: [(g3, .cells #[.slice none 0 0, .slice A25 f12.length c25] 45 (0, 0))] :: ch13 :: selS [] 4 l) l_ ∧ Own r_insert_option 65 μ_ (.slice A24 tours5.length c24) tours5 ch12 ∧ Own rInt 3 μ_ (.slice A25 f12.length c25) f12 ch13) ?_ ?_
  · intro _ h14644 h
    refine Lp h14644 (fun f l (j_ : (List T_insert_option) × (List Int) × Int) f_ μ_ l_ => ounP j_ fun tours3 j_ => ounP j_ fun f1 v3 => ∃ (A9 : Option Addr) (c9 : Nat) (ch5 : Seg) (A10 : Option Addr) (c10 : Nat) (ch6 : Seg), SubFr ((5, .slice A9 tours3.length c9) :: (42, .int .i64 v3) :: keepF [1, 2, 7, 41] f) f_ ∧ SegSub ([(g1, .cells #[.int .i64 p1.Road.Nodes, .slice A1 p1.Road.Edges.length c1, .slice A2 p1.Vehicles.length c2, .slice A3 p1.Demands.length c3, .int .i64 p1.Unload, .int .i64 p1.UnloadSecs] 28 (0, 0))] :: [(g2, .cells #[.slice none 0 0, .slice none 0 0] 45 (0, 0))] :: ch5 :: [(g3, .cells #[.slice none 0 0, .slice A10 f1.length c10] 45 (0, 0))] :: ch6 :: selS [] 4 l) l_ ∧ Own r_insert_option 65 μ_ (.slice A9 tours3.length c9) tours3 ch5 ∧ Own rInt 3 μ_ (.slice A10 f1.length c10) f1 ch6) ⟨A8, c8, ch4, none, 0, [], fE E, sE [some 1, some 2, some 3, some 0, none] 4 E, (hO4), (Own.nil)⟩ ?_
    rintro ⟨tours3, f1, v3⟩ _ _ _ _ hm14793 ⟨A9, c9, ch5, A10, c10, ch6, hF14793, hS14793, hO5, hO6⟩ hb14793 hq14793
    unfold insert_Build_l3 at hb14793
    replace hb14793 := oun_mk hb14793
    replace hb14793 := oun_mk hb14793
    replace hA1 := hA1.mono hm14793
    replace hA2 := hA2.mono hm14793
    replace hA3 := hA3.mono hm14793
    refine Atn 5 hF14793 hS14793 E E (G0 5 E ?_)
    refine Br hb14793 43 E E (fun hc4 hb14793 => ?_) (fun hc4 hb14793 => ?_)
    · refine G2 3 [43] [] [] E ?_
      refine Cut hb14793 (fun f l o_ f_ μ_ l_ => ∃ (tours4 : (List T_insert_option)) (f11 : (List Int)) (A22 : Option Addr) (c22 : Nat) (ch10 : Seg) (A23 : Option Addr) (c23 : Nat) (ch11 : Seg), (tours4, f11) = o_ ∧ SubFr ((5, .slice A22 tours4.length c22) :: keepF [1, 2, 7, 41, 42] f) f_ ∧ SegSub ([(g1, .cells #[.int .i64 p1.Road.Nodes, .slice A1 p1.Road.Edges.length c1, .slice A2 p1.Vehicles.length c2, .slice A3 p1.Demands.length c3, .int .i64 p1.Unload, .int .i64 p1.UnloadSecs] 28 (0, 0))] :: [(g2, .cells #[.slice none 0 0, .slice none 0 0] 45 (0, 0))] :: ch10 :: [(g3, .cells #[.slice none 0 0, .slice A23 f11.length c23] 45 (0, 0))] :: ch11 :: selS [] 5 l) l_ ∧ Own r_insert_option 65 μ_ (.slice A22 tours4.length c22) tours4 ch10 ∧ Own rInt 3 μ_ (.slice A23 f11.length c23) f11 ch11) ?_ ?_
      · intro _ h14806 hb14793
        refine G0 9 E (Al E fun g4 => Q1 10 [0] E ?_)
        refine Cut h14806 (fun f l o_ f_ μ_ l_ => ∃ (f8 : Int) (f9 : (List Int)) (f10 : Int) (f_at3 : Int) (A18 : Option Addr) (c18 : Nat), (f8, f9, f10, f_at3) = o_ ∧ SubFr ((10, .int .i64 f_at3) :: keepF [1, 2, 5, 7, 8, 9, 41, 42] f) f_ ∧ SegSub ([(g1, .cells #[.int .i64 p1.Road.Nodes, .slice A1 p1.Road.Edges.length c1, .slice A2 p1.Vehicles.length c2, .slice A3 p1.Demands.length c3, .int .i64 p1.Unload, .int .i64 p1.UnloadSecs] 28 (0, 0))] :: [(g2, .cells #[.slice none 0 0, .slice none 0 0] 45 (0, 0))] :: ch5 :: [(g3, .cells #[.slice none 0 0, .slice A10 f1.length c10] 45 (0, 0))] :: ch6 :: [(g4, .cells #[.int .i64 f8, .slice A18 f9.length c18, .int .i64 f10] 65 (0, 0))] :: selS [] 6 l) l_ ∧ (f9.length ≤ c18 ∧ c18 ≤ maxLen) ∧ ArrR rInt μ_ A18 f9) ?_ ?_
        · intro _ h14811 h14806
          refine Lp h14811 (fun f l (j_ : Int × (List Int) × Int × Int × Int) f_ μ_ l_ => ounP j_ fun f2 j_ => ounP j_ fun f3 j_ => ounP j_ fun f4 j_ => ounP j_ fun f_at1 v4 => ∃ (A11 : Option Addr) (c11 : Nat), SubFr ((10, .int .i64 f_at1) :: (48, .int .i64 v4) :: keepF [1, 2, 5, 7, 8, 9, 41, 42, 46, 47] f) f_ ∧ SegSub ([(g1, .cells #[.int .i64 p1.Road.Nodes, .slice A1 p1.Road.Edges.length c1, .slice A2 p1.Vehicles.length c2, .slice A3 p1.Demands.length c3, .int .i64 p1.Unload, .int .i64 p1.UnloadSecs] 28 (0, 0))] :: [(g2, .cells #[.slice none 0 0, .slice none 0 0] 45 (0, 0))] :: ch5 :: [(g3, .cells #[.slice none 0 0, .slice A10 f1.length c10] 45 (0, 0))] :: ch6 :: [(g4, .cells #[.int .i64 f2, .slice A11 f3.length c11, .int .i64 f4] 65 (0, 0))] :: selS [] 6 l) l_ ∧ (f3.length ≤ c11 ∧ c11 ≤ maxLen) ∧ ArrR rInt μ_ A11 f3) ⟨none, 0, fE E, sE [some 1, some 2, some 3, some 4, some 5, some 0] 6 E, (⟨Nat.le_refl _, Nat.zero_le _⟩), (ArrR.nil)⟩ ?_
          rintro ⟨f2, f3, f4, f_at1, v4⟩ _ _ _ _ hm14867 ⟨A11, c11, hF14867, hS14867, hl6, hA7⟩ hb14867 hq14867
          unfold insert_Build_l2 at hb14867
          replace hb14867 := oun_mk hb14867
          replace hb14867 := oun_mk hb14867
          replace hb14867 := oun_mk hb14867
          replace hb14867 := oun_mk hb14867
          replace hA1 := hA1.mono hm14867
          replace hA2 := hA2.mono hm14867
          replace hA3 := hA3.mono hm14867
          replace hO5 := hO5.mono hm14867
          replace hO6 := hO6.mono hm14867
          refine Atn 6 hF14867 hS14867 E E (G0 5 E ?_)
          refine Br hb14867 49 E E (fun hc5 hb14867 => ?_) (fun hc5 hb14867 => ?_)
          · refine G2 3 [49] [] [] E ?_
            refine Cut hb14867 (fun f l o_ f_ μ_ l_ => ∃ (f5 : Int) (f6 : (List Int)) (f7 : Int) (f_at2 : Int) (A17 : Option Addr) (c17 : Nat), (f5, f6, f7, f_at2) = o_ ∧ SubFr ((10, .int .i64 f_at2) :: keepF [1, 2, 5, 7, 8, 9, 41, 42, 46, 47, 48] f) f_ ∧ SegSub ([(g1, .cells #[.int .i64 p1.Road.Nodes, .slice A1 p1.Road.Edges.length c1, .slice A2 p1.Vehicles.length c2, .slice A3 p1.Demands.length c3, .int .i64 p1.Unload, .int .i64 p1.UnloadSecs] 28 (0, 0))] :: [(g2, .cells #[.slice none 0 0, .slice none 0 0] 45 (0, 0))] :: ch5 :: [(g3, .cells #[.slice none 0 0, .slice A10 f1.length c10] 45 (0, 0))] :: ch6 :: [(g4, .cells #[.int .i64 f5, .slice A17 f6.length c17, .int .i64 f7] 65 (0, 0))] :: selS [] 6 l) l_ ∧ (f6.length ≤ c17 ∧ c17 ≤ maxLen) ∧ ArrR rInt μ_ A17 f6) ?_ ?_
            · intro _ h14882 hb14867
              refine G0 4 E (IxA h14882 (Own.rds hO5 2 E) E E fun x2 _ _ _ hr2 hc6 _ h14882 => ?_)
              obtain ⟨A12, c12, rfl, hl7, hA9⟩ := hr2
              refine Q3 1 [] [] [64] (Z1 hc6) E (Al E fun g5 => Q1 9 [0, 1, 0] E (Cl E ?_))
              obtain ⟨⟨_, _⟩, hx4, h14882⟩ := obind h14882
              replace h14882 := oun_mk h14882
              refine insert_options_fn hl1 hA1 hl2 hA2 hl3 hA3 hl7 hA9 hx4 (fun _ _ _ ch7 hm_2 hO7 => ?_)
              replace hO5 := hO5.mono hm_2
              replace hO6 := hO6.mono hm_2
              replace hA7 := hA7.mono hm_2
              refine Q0 7 E ?_
              refine Cut h14882 (fun f l o_ f_ μ_ l_ => ∃ (v6 : Bool), v6 = o_ ∧ SubFr ((85, .bool v6) :: keepF [1, 2, 5, 7, 8, 9, 10, 11, 13, 41, 42, 46, 47, 48] f) f_ ∧ SegSub (selS [some 2, some 3, some 4, some 5, some 6, some 7, some 0] 8 l) l_) ?_ ?_
              · intro _ h14894 h14882
                refine Dr _ Kept.refl [(true, 0), (true, 1), (true, 2), (true, 3), (true, 4), (true, 5), (true, 6), (true, 7), (true, 8), (true, 9), (true, 10), (true, 11), (true, 12), (true, 13), (true, 14), (true, 15), (true, 16), (true, 17), (true, 18), (true, 19), (true, 20), (true, 21), (true, 22), (true, 23), (true, 24)] (by kernel_rfl) (G0 4 E ?_)
                refine Br h14894 64 E E (fun hc7 h14894 => ?_) (fun hc7 h14894 => ?_)
                · refine G2 3 [64] [] [] E ?_
                  refine Br h14894 67 E E (fun hc8 h14894 => ?_) (fun hc8 h14894 => ?_)
                  · refine G2 19 [64, 67] [] [] E ?_
                    cases h14894
                    exact Ce E ⟨_, rfl, fE E, sE [some 2, some 3, some 4, some 5, some 6, some 7, some 0] 8 E⟩
                  refine G2 1 [] [67] [] E (Ix h14894 (Own.rds (L := (ch7 :: [(g5, .cells #[.int .i64 x2.tour.Vehicle, .slice A12 x2.tour.Stops.length c12, .int .i64 x2.cost] 65 (0, 0))] :: [(g1, .cells #[.int .i64 p1.Road.Nodes, .slice A1 p1.Road.Edges.length c1, .slice A2 p1.Vehicles.length c2, .slice A3 p1.Demands.length c3, .int .i64 p1.Unload, .int .i64 p1.UnloadSecs] 28 (0, 0))] :: [(g2, .cells #[.slice none 0 0, .slice none 0 0] 45 (0, 0))] :: ch5 :: [(g3, .cells #[.slice none 0 0, .slice A10 f1.length c10] 45 (0, 0))] :: ch6 :: [(g4, .cells #[.int .i64 f2, .slice A11 f3.length c11, .int .i64 f4] 65 (0, 0))] :: L)) hO7 0 E) E E fun _ _ _ _ hr3 hc9 _ h14894 => ?_)
                  obtain ⟨_, _, rfl, _, _⟩ := hr3
                  refine Q3 9 [] [67] [66, 1, 7] (Z1 hc9) E (Ix h14894 (Own.rds (L := (ch7 :: [(g5, .cells #[.int .i64 x2.tour.Vehicle, .slice A12 x2.tour.Stops.length c12, .int .i64 x2.cost] 65 (0, 0))] :: [(g1, .cells #[.int .i64 p1.Road.Nodes, .slice A1 p1.Road.Edges.length c1, .slice A2 p1.Vehicles.length c2, .slice A3 p1.Demands.length c3, .int .i64 p1.Unload, .int .i64 p1.UnloadSecs] 28 (0, 0))] :: [(g2, .cells #[.slice none 0 0, .slice none 0 0] 45 (0, 0))] :: ch5 :: [(g3, .cells #[.slice none 0 0, .slice A10 f1.length c10] 45 (0, 0))] :: ch6 :: [(g4, .cells #[.int .i64 f2, .slice A11 f3.length c11, .int .i64 f4] 65 (0, 0))] :: L)) hO5 4 E) E E fun _ _ _ _ hr4 hc10 _ h14894 => ?_)
                  obtain ⟨_, _, rfl, _, _⟩ := hr4
                  refine Q3 7 [64] [67] [66] (Z1 hc10) E ?_
                  cases h14894
                  exact Ce E ⟨_, rfl, fE E, sE [some 2, some 3, some 4, some 5, some 6, some 7, some 0] 8 E⟩
                refine G2 22 [] [64] [] E ?_
                cases h14894
                exact Ce E ⟨_, rfl, fE E, sE [some 2, some 3, some 4, some 5, some 6, some 7, some 0] 8 E⟩
              rintro _ _ _ _ h14882 hm14894 ⟨v6, rfl, hF14894, hS14894⟩
              replace hO5 := hO5.mono hm14894
              replace hO6 := hO6.mono hm14894
              replace hA7 := hA7.mono hm14894
              replace hO7 := hO7.mono hm14894
              refine Atn 7 hF14894 hS14894 E E ?_
              refine Br h14882 85 E E (fun hc11 h14882 => ?_) (fun hc11 h14882 => ?_)
              · refine G2 3 [85] [] [] E (IxA h14882 (Own.rds hO7 6 E) E E fun _ _ _ _ hr5 hc12 _ h14882 => ?_)
                obtain ⟨A16, c16, rfl, hl10, hA15⟩ := hr5
                refine Q3 6 [] [] [64, 5] (Z1 hc12) E ?_
                cases h14882
                exact Ce E ⟨_, _, _, _, A16, c16, rfl, fE E, sE [some 0, some 1, some 2, some 3, some 4, some 5] 7 E, (hl10), (hA15)⟩
              refine G2 3 [] [85] [] E ?_
              cases h14882
              exact Ce E ⟨_, _, _, _, A11, c11, rfl, fE E, sE [some 0, some 1, some 2, some 3, some 4, some 5] 7 E, (hl6), (hA7)⟩
            rintro _ _ _ _ hb14867 hm14882 ⟨f5, f6, f7, f_at2, A17, c17, rfl, hF14882, hS14882, hl11, hA16⟩
            replace hb14867 := oun_mk hb14867
            replace hb14867 := oun_mk hb14867
            replace hb14867 := oun_mk hb14867
            replace hO5 := hO5.mono hm14882
            replace hO6 := hO6.mono hm14882
            replace hA7 := hA7.mono hm14882
            refine Atn 6 hF14882 hS14882 E E (G0 4 E ?_)
            cases hb14867
            exact Ce E ⟨_, rfl, A17, c17, fE E, sE [some 0, some 1, some 2, some 3, some 4, some 5] 6 E, (hl11), (hA16)⟩
          refine G2 2 [] [49] [] E ?_
          cases hb14867
          have hq_ := hq14867 _ E
          subst hq_
          exact Ce E ⟨_, _, _, _, A11, c11, rfl, fE E, sE [some 0, some 1, some 2, some 3, some 4, some 5] 6 E, (hl6), (hA7)⟩
        rintro _ _ μ14811 _ h14806 hm14811 ⟨f8, f9, f10, f_at3, A18, c18, rfl, hF14811, hS14811, hl12, hA17⟩
        replace h14806 := oun_mk h14806
        replace h14806 := oun_mk h14806
        replace h14806 := oun_mk h14806
        replace hO5 := hO5.mono hm14811
        replace hO6 := hO6.mono hm14811
        refine Atn 6 hF14811 hS14811 E E (G0 5 E ?_)
        refine Br h14806 92 E E (fun hc13 h14806 => ?_) (fun hc13 h14806 => ?_)
        · refine G2 5 [92] [] [3] E (So E (O_bsl (z := [.int .i64 0]) E E E E E E E (F_cons (cells' := [.int .i64 v3]) E E E E (F_nil (fun g6 => Q0 0 E (So E (O_append E ?_)))))))
          obtain ⟨_, hz1, h14806⟩ := obind h14806
          refine sem_appR (r := rInt) Tt_ok E E E E (by decide) E E 5 E hO6 E (Own.rds (Own.lit (r := rInt) (e := 3) (g := g6) (xs := [v3]) (cs := [.int .i64 v3]) (css := [[.int .i64 v3]]) E (All2.cons (E) (All2.nil)) E E) 0 E) hz1 fun A19 c19 ch8 hO8 => Q1 4 [4] E ?_
          cases h14806
          exact Ce E ⟨_, _, A9, c9, ch5, A19, c19, ch8, rfl, fE E, sE [some 1, some 2, some 3, some 4, some 5] 7 E, (hO5), (hO8)⟩
        refine G2 5 [] [92] [5] E (IxA h14806 (Own.rds hO5 2 E) E E fun _ a6 _ hx8 hr6 _ hA18 h14806 => ?_)
        obtain ⟨_, _, rfl, _, _⟩ := hr6
        refine Q0 0 E (So E (O_store (vs := [.int .i64 f8, .slice A18 f9.length c18, .int .i64 f10]) E E E E E E ?_))
        rw [← Addr.add_zero' ((a6.add (f_at3.toNat * 3)))]
        refine Own.store (μ := μ14811) (r := r_insert_option) (x' := (T_insert_option.mk (T_api_Tour.mk f8 f9) f10)) (o := 0) (sz := 3) 2 rfl hO5 hA18 hx8 rfl rfl (by rintro _ ⟨A21, c21, rfl, hl14, hA20⟩; exact ⟨A18, c18, rfl, hl12, hA17⟩) fun ch9 hO9 => ?_
        rw [← length_setI tours3 f_at3 (T_insert_option.mk (T_api_Tour.mk f8 f9) f10)] at hO9 ⊢
        refine Q0 2 E ?_
        cases h14806
        exact Ce E ⟨_, _, A9, c9, ch9, A10, c10, ch6, rfl, fE E, sE [some 0, some 1, some 2, some 3, some 4] 6 E, (hO9), (hO6)⟩
      rintro _ _ _ _ hb14793 hm14806 ⟨tours4, f11, A22, c22, ch10, A23, c23, ch11, rfl, hF14806, hS14806, hO10, hO11⟩
      replace hb14793 := oun_mk hb14793
      replace hO5 := hO5.mono hm14806
      replace hO6 := hO6.mono hm14806
      refine Atn 5 hF14806 hS14806 E E (G0 4 E ?_)
      cases hb14793
      exact Ce E ⟨_, rfl, A22, c22, ch10, A23, c23, ch11, fE E, sE [some 0, some 1, some 2, some 3, some 4] 5 E, (hO10), (hO11)⟩
    refine G2 2 [] [43] [] E ?_
    cases hb14793
    have hq_ := hq14793 _ E
    subst hq_
    exact Ce E ⟨_, _, A9, c9, ch5, A10, c10, ch6, rfl, fE E, sE [some 1, some 2, some 3, some 4] 5 E, (hO5), (hO6)⟩
  rintro _ _ _ _ h hm14644 ⟨tours5, f12, A24, c24, ch12, A25, c25, ch13, rfl, hF14644, hS14644, hO12, hO13⟩
  replace h := oun_mk h
  refine Atn 4 hF14644 hS14644 E E (G0 7 E ?_)
  refine Cut h (fun f l o_ f_ μ_ l_ => ∃ (f15 : (List T_api_Tour)) (A30 : Option Addr) (c30 : Nat) (ch17 : Seg), f15 = o_ ∧ SubFr (keepF [2, 7] f) f_ ∧ SegSub ([(g2, .cells #[.slice none 0 0, .slice none 0 0] 45 (0, 0))] :: [(g3, .cells #[.slice A30 f15.length c30, .slice A25 f12.length c25] 45 (0, 0))] :: ch17 :: selS [] 3 l) l_ ∧ Own r_api_Tour 31 μ_ (.slice A30 f15.length c30) f15 ch17) ?_ ?_
  · intro _ h14957 h
    refine Lp h14957 (fun f l (j_ : (List T_api_Tour) × Int) f_ μ_ l_ => ounP j_ fun f13 v7 => ∃ (A26 : Option Addr) (c26 : Nat) (ch14 : Seg), SubFr ((106, .int .i64 v7) :: keepF [2, 7, 104, 105] f) f_ ∧ SegSub ([(g2, .cells #[.slice none 0 0, .slice none 0 0] 45 (0, 0))] :: [(g3, .cells #[.slice A26 f13.length c26, .slice A25 f12.length c25] 45 (0, 0))] :: ch14 :: selS [some 3, some 1] 4 l) l_ ∧ Own r_api_Tour 31 μ_ (.slice A26 f13.length c26) f13 ch14) ⟨none, 0, [], fE E, sE [some 0, some 2, none, some 3, some 1] 4 E, (Own.nil)⟩ ?_
    rintro ⟨f13, v7⟩ _ _ _ _ hm14980 ⟨A26, c26, ch14, hF14980, hS14980, hO14⟩ hb14980 hq14980
    unfold insert_Build_l4 at hb14980
    replace hb14980 := oun_mk hb14980
    replace hO12 := hO12.mono hm14980
    replace hO13 := hO13.mono hm14980
    refine Atn 5 hF14980 hS14980 E E (G0 5 E ?_)
    refine Br hb14980 107 E E (fun hc15 hb14980 => ?_) (fun hc15 hb14980 => ?_)
    · refine G2 3 [107] [] [] E ?_
      refine Cut hb14980 (fun f l o_ f_ μ_ l_ => ∃ (f14 : (List T_api_Tour)) (A29 : Option Addr) (c29 : Nat) (ch16 : Seg), f14 = o_ ∧ SubFr (keepF [2, 7, 104, 105, 106] f) f_ ∧ SegSub ([(g2, .cells #[.slice none 0 0, .slice none 0 0] 45 (0, 0))] :: [(g3, .cells #[.slice A29 f14.length c29, .slice A25 f12.length c25] 45 (0, 0))] :: ch16 :: selS [] 3 l) l_ ∧ Own r_api_Tour 31 μ_ (.slice A29 f14.length c29) f14 ch16) ?_ ?_
      · intro _ h14989 hb14980
        refine G0 3 E (IxA h14989 (Own.rds hO12 4 E) E E fun x7 _ _ _ hr7 hc16 _ h14989 => ?_)
        obtain ⟨A27, c27, rfl, hl15, hA22⟩ := hr7
        refine Q3 1 [] [] [64] (Z1 hc16) E (Al E fun _ => Q1 10 [0, 0] E ?_)
        refine Br h14989 114 E E (fun hc17 h14989 => ?_) (fun hc17 h14989 => ?_)
        · refine G2 6 [114] [] [2, 0] E (So E (O_bsl (z := [.int .i64 0, .slice none 0 0]) E E E E E E E (F_cons (cells' := [.int .i64 x7.tour.Vehicle, .slice A27 x7.tour.Stops.length c27]) E E E E (F_nil (fun g8 => Q0 0 E (So E (O_append E ?_)))))))
          obtain ⟨_, hz2, h14989⟩ := obind h14989
          refine sem_appR (r := r_api_Tour) Tt_ok E E E E (by decide) E E 4 E hO14 E (Own.rds (Own.lit (r := r_api_Tour) (e := 31) (g := g8) (xs := [x7.tour]) (cs := [.int .i64 x7.tour.Vehicle, .slice A27 x7.tour.Stops.length c27]) (css := [[.int .i64 x7.tour.Vehicle, .slice A27 x7.tour.Stops.length c27]]) E (All2.cons (⟨A27, c27, E, hl15, hA22⟩) (All2.nil)) E E) 0 E) hz2 fun A28 c28 ch15 hO15 => Q1 4 [3] E ?_
          cases h14989
          exact Ce E ⟨_, A28, c28, ch15, rfl, fE E, sE [some 2, some 3, some 4, some 5, some 6] 7 E, (hO15)⟩
        refine G2 3 [] [114] [] E ?_
        cases h14989
        exact Ce E ⟨_, A26, c26, ch14, rfl, fE E, sE [some 1, some 2, some 3, some 4, some 5] 6 E, (hO14)⟩
      rintro _ _ _ _ hb14980 hm14989 ⟨f14, A29, c29, ch16, rfl, hF14989, hS14989, hO16⟩
      replace hO13 := hO13.mono hm14989
      replace hO14 := hO14.mono hm14989
      refine Atn 5 hF14989 hS14989 E E (G0 4 E ?_)
      cases hb14980
      exact Ce E ⟨_, rfl, A29, c29, ch16, fE E, sE [some 0, some 1, some 2, some 3, some 4] 5 E, (hO16)⟩
    refine G2 2 [] [107] [] E ?_
    cases hb14980
    have hq_ := hq14980 _ E
    subst hq_
    exact Ce E ⟨_, A26, c26, ch14, rfl, fE E, sE [some 0, some 1, some 2, some 3] 5 E, (hO14)⟩
  rintro _ _ _ _ h hm14957 ⟨f15, A30, c30, ch17, rfl, hF14957, hS14957, hO17⟩
  replace hO13 := hO13.mono hm14957
  refine Atn 4 hF14957 hS14957 E E (G1 6 [1, 0] E ?_)
  cases h
  refine Rt [0] E E ?_
  have hl16 := Own.lenOk hO17
  refine Upd.frzOwn 2 E hO17 fun _ hm_3 hA23 => ?_
  replace hO13 := hO13.mono hm_3
  have hl17 := Own.lenOk hO13
  refine Upd.frzOwn 3 E hO13 fun _ hm_4 hA24 => ?_
  replace hA23 := hA23.mono hm_4
  exact (Ug [] 4 (hR _ A30 c30 A25 c25 (hm_1.trans (hm14610.trans (hm14644.trans (hm14957.trans (hm_3.trans hm_4))))) hl16 hA23 hl17 hA24))

theorem insert_Best_fn {F : Nat} {p1 : T_api_Problem} {t1 : T_api_Tour} {d1 : Int} {A1 : Option Addr} {c1 : Nat} {A2 : Option Addr} {c2 : Nat} {A3 : Option Addr} {c3 : Nat} {A4 : Option Addr} {c4 : Nat} {res1 : T_api_Tour} {res2 : Int}
    (hl1 : p1.Road.Edges.length ≤ c1 ∧ c1 ≤ maxLen) (hA1 : ArrR r_api_Edge μ A1 p1.Road.Edges) (hl2 : p1.Vehicles.length ≤ c2 ∧ c2 ≤ maxLen) (hA2 : ArrR r_api_Vehicle μ A2 p1.Vehicles) (hl3 : p1.Demands.length ≤ c3 ∧ c3 ≤ maxLen) (hA3 : ArrR r_api_Demand μ A3 p1.Demands) (hl4 : t1.Stops.length ≤ c4 ∧ c4 ≤ maxLen) (hA4 : ArrR rInt μ A4 t1.Stops) (h : insert_Best F p1 t1 d1 = some (res1, res2))
    (hR : ∀ (μ' : Gh) (A0_1 : Option Addr) (c0_1 : Nat), μ.le μ' → (res1.Stops.length ≤ c0_1 ∧ c0_1 ≤ maxLen) → ArrR rInt μ' A0_1 res1.Stops → R (.tuple #[.agg #[.int .i64 res1.Vehicle, .slice A0_1 res1.Stops.length c0_1], .int .i64 res2]) μ' (L)) :
    Fn Try.prog 15 [.agg #[.int .i64 p1.Road.Nodes, .slice A1 p1.Road.Edges.length c1, .slice A2 p1.Vehicles.length c2, .slice A3 p1.Demands.length c3, .int .i64 p1.Unload, .int .i64 p1.UnloadSecs], .agg #[.int .i64 t1.Vehicle, .slice A4 t1.Stops.length c4], .int .i64 d1] μ (L) R := by
  unfold insert_Best at h
  refine FnS Try.func15 (by kernel_rfl) E Try.ntmps15 E E ?_
  refine G0 2 E (Al E fun _ => Q0 0 E (Al E fun _ => Q0 0 E (Al E fun _ => Q1 7 [2, 1] E (Cl E ?_))))
  obtain ⟨⟨_, _⟩, hx1, h⟩ := obind h
  replace h := oun_mk h
  refine insert_options_fn hl1 hA1 hl2 hA2 hl3 hA3 hl4 hA4 hx1 (fun _ _ _ _ hm_1 hO1 => ?_)
  refine Q0 12 E ?_
  refine Br h 18 E E (fun hc1 h => ?_) (fun hc1 h => ?_)
  · refine G2 8 [18] [] [1] E ?_
    cases h
    exact Rt [1] E E (Ug [] 4 (hR _ none 0 hm_1 ⟨Nat.le_refl _, Nat.zero_le _⟩ ArrR.nil))
  refine G2 9 [] [18] [] E ?_
  refine Br h 23 E E (fun hc2 h => ?_) (fun hc2 h => ?_)
  · refine G2 7 [23] [] [1] E ?_
    cases h
    exact Rt [1] E E (Ug [] 4 (hR _ none 0 hm_1 ⟨Nat.le_refl _, Nat.zero_le _⟩ ArrR.nil))
  refine G2 5 [] [23] [] E (IxA h (Own.rds hO1 0 E) E E fun _ _ _ _ hr1 hc3 _ h => ?_)
  obtain ⟨A6, c6, rfl, hl5, hA6⟩ := hr1
  refine Q3 5 [] [] [64, 1] (Z1 hc3) E ?_
  cases h
  exact Rt [1] E E (Ug [] 4 (hR _ A6 c6 hm_1 hl5 hA6))

theorem recyclingref23_Ints_fn  {a1 : (List Int)} {b1 : (List Int)} {A1 : Option Addr} {c1 : Nat} {A2 : Option Addr} {c2 : Nat} {res1 : Bool}
    (hl1 : a1.length ≤ c1 ∧ c1 ≤ maxLen) (hA1 : Rds rInt μ L A1 a1) (hl2 : b1.length ≤ c2 ∧ c2 ≤ maxLen) (hA2 : Rds rInt μ L A2 b1) (h : recyclingref23_Ints a1 b1 = some res1)
    (hR : R (.bool res1) μ (L)) :
    Fn Try.prog 17 [.slice A1 a1.length c1, .slice A2 b1.length c2] μ (L) R := by
  unfold recyclingref23_Ints at h
  refine FnS Try.func17 (by kernel_rfl) E Try.ntmps17 E E ?_
  refine G0 13 E ?_
  refine Br h 10 E E (fun hc1 h => ?_) (fun hc1 h => ?_)
  · refine G2 5 [10] [] [] E ?_
    cases h
    exact Rt [] E E (Ug [] 0 hR)
  refine G2 7 [] [10] [] E ?_
  refine Cut h (fun f l o_ f_ μ_ l_ => (.inl ()) = o_ ∧ SubFr ([]) f_ ∧ SegSub l l_ ∧ μ = μ_) ?_ ?_
  · intro _ h15083 h
    refine Lp h15083 (fun f l (i1 : Int) f_ μ_ l_ => SubFr ((5, .int .i64 i1) :: keepF [0, 1] f) f_ ∧ SegSub l l_ ∧ μ = μ_) ⟨fE E, sE [] 0 E, E⟩ ?_
    rintro i1 _ _ _ _ _ ⟨hF15085, hS15085, rfl⟩ hb15085 hq15085
    unfold recyclingref23_Ints_l1 at hb15085
    refine Atn 0 hF15085 hS15085 E E (G0 8 E ?_)
    refine Br hb15085 14 E E (fun hc2 hb15085 => ?_) (fun hc2 hb15085 => ?_)
    · refine G2 5 [14] [] [] E (Dr _ Kept.refl [(true, 0), (true, 1), (true, 2), (true, 3), (true, 4), (true, 5), (true, 6), (true, 7), (true, 8)] (by kernel_rfl) (G0 2 E (Ix hb15085 hA1 E E fun _ _ _ _ hr1 hc3 _ hb15085 => ?_)))
      obtain rfl := hr1
      refine Q3 3 [] [] [64] (Z1 hc3) E (Ix hb15085 hA2 E E fun _ _ _ _ hr2 hc4 _ hb15085 => ?_)
      obtain rfl := hr2
      refine Q3 3 [] [] [64] (Z1 hc4) E ?_
      refine Br hb15085 25 E E (fun hc5 hb15085 => ?_) (fun hc5 hb15085 => ?_)
      · refine G2 5 [25] [] [] E ?_
        cases hb15085
        have hq_ := hq15085 _ E
        subst hq_
        replace h := osum_r h
        cases h
        exact Rt [] E E (Ug [] 0 hR)
      refine G2 8 [] [25] [] E ?_
      cases hb15085
      exact Ce E ⟨_, rfl, fE E, sE [] 0 E, rfl⟩
    refine G2 2 [] [14] [] E ?_
    cases hb15085
    have hq_ := hq15085 _ E
    subst hq_
    exact Ce E ⟨rfl, fE E, sE [] 0 E, rfl⟩
  rintro _ _ _ _ h _ ⟨rfl, hF15083, hS15083, rfl⟩
  replace h := osum_l h
  refine Atn 0 hF15083 hS15083 E E (G0 4 E ?_)
  cases h
  exact Rt [] E E (Ug [] 0 hR)

theorem recyclingref23_Same_fn  {a1 : (List T_api_Tour)} {b1 : (List T_api_Tour)} {A1 : Option Addr} {c1 : Nat} {A2 : Option Addr} {c2 : Nat} {res1 : Bool}
    (hl1 : a1.length ≤ c1 ∧ c1 ≤ maxLen) (hA1 : Rds r_api_Tour μ L A1 a1) (hl2 : b1.length ≤ c2 ∧ c2 ≤ maxLen) (hA2 : Rds r_api_Tour μ L A2 b1) (h : recyclingref23_Same a1 b1 = some res1)
    (hR : R (.bool res1) μ (L)) :
    Fn Try.prog 14 [.slice A1 a1.length c1, .slice A2 b1.length c2] μ (L) R := by
  unfold recyclingref23_Same at h
  refine FnS Try.func14 (by kernel_rfl) E Try.ntmps14 E E ?_
  refine G0 13 E ?_
  refine Br h 10 E E (fun hc1 h => ?_) (fun hc1 h => ?_)
  · refine G2 5 [10] [] [] E ?_
    cases h
    exact Rt [] E E (Ug [] 0 hR)
  refine G2 7 [] [10] [] E ?_
  refine Cut h (fun f l o_ f_ μ_ l_ => (.inl ()) = o_ ∧ SubFr ([]) f_ ∧ SegSub l l_ ∧ μ = μ_) ?_ ?_
  · intro _ h15075 h
    refine Lp h15075 (fun f l (i1 : Int) f_ μ_ l_ => SubFr ((5, .int .i64 i1) :: keepF [0, 1] f) f_ ∧ SegSub l l_ ∧ μ = μ_) ⟨fE E, sE [] 0 E, E⟩ ?_
    rintro i1 _ _ _ _ _ ⟨hF15107, hS15107, rfl⟩ hb15107 hq15107
    unfold recyclingref23_Same_l1 at hb15107
    refine Atn 0 hF15107 hS15107 E E (G0 8 E ?_)
    refine Br hb15107 14 E E (fun hc2 hb15107 => ?_) (fun hc2 hb15107 => ?_)
    · refine G2 5 [14] [] [] E ?_
      refine Cut hb15107 (fun f l o_ f_ μ_ l_ => ∃ (v1 : Bool), v1 = o_ ∧ SubFr ((41, .bool v1) :: keepF [0, 1, 5] f) f_ ∧ SegSub l l_ ∧ μ = μ_) ?_ ?_
      · intro _ h15116 hb15107
        refine Dr _ Kept.refl [(true, 0), (true, 1), (true, 2), (true, 3), (true, 4), (true, 5), (true, 6), (true, 7), (true, 8), (true, 9), (true, 10), (true, 11), (true, 12), (true, 13), (true, 14), (true, 15), (true, 16), (true, 17), (true, 18), (true, 19), (true, 20), (true, 21), (false, 22), (true, 23), (true, 24)] (by kernel_rfl) (G0 2 E (Ix h15116 hA1 E E fun _ _ _ _ hr1 hc3 _ h15116 => ?_))
        obtain ⟨_, _, rfl, _, _⟩ := hr1
        refine Q3 4 [] [] [64] (Z1 hc3) E (Ix h15116 hA2 E E fun _ _ _ _ hr2 hc4 _ h15116 => ?_)
        obtain ⟨_, _, rfl, _, _⟩ := hr2
        refine Q3 4 [] [] [64] (Z1 hc4) E ?_
        refine Br h15116 28 E E (fun hc5 h15116 => ?_) (fun hc5 h15116 => ?_)
        · refine G2 14 [28] [] [] E ?_
          cases h15116
          exact Ce E ⟨_, rfl, fE E, sE [] 0 E, rfl⟩
        refine G2 2 [] [28] [] E (Ix h15116 hA1 E E fun _ _ _ _ hr3 hc6 _ h15116 => ?_)
        obtain ⟨_, _, rfl, hl5, hA8⟩ := hr3
        refine Q3 4 [] [28] [65] (Z1 hc6) E (Ix h15116 hA2 E E fun _ _ _ _ hr4 hc7 _ h15116 => ?_)
        obtain ⟨_, _, rfl, hl6, hA10⟩ := hr4
        refine Q3 2 [] [28] [65] (Z1 hc7) E (Cl E ?_)
        obtain ⟨_, hx5, h15116⟩ := obind h15116
        refine recyclingref23_Ints_fn hl5 (ArrR.rds hA8 _) hl6 (ArrR.rds hA10 _) hx5 (?_)
        refine ⟨Kept.refl, ?_⟩
        refine Q2 3 [] [28] [] E ?_
        cases h15116
        exact Ce E ⟨_, rfl, fE E, sE [] 0 E, rfl⟩
      rintro _ _ _ _ hb15107 _ ⟨v1, rfl, hF15116, hS15116, rfl⟩
      refine Atn 0 hF15116 hS15116 E E ?_
      refine Br hb15107 41 E E (fun hc8 hb15107 => ?_) (fun hc8 hb15107 => ?_)
      · refine G2 5 [41] [] [] E ?_
        cases hb15107
        have hq_ := hq15107 _ E
        subst hq_
        replace h := osum_r h
        cases h
        exact Rt [] E E (Ug [] 0 hR)
      refine G2 8 [] [41] [] E ?_
      cases hb15107
      exact Ce E ⟨_, rfl, fE E, sE [] 0 E, rfl⟩
    refine G2 2 [] [14] [] E ?_
    cases hb15107
    have hq_ := hq15107 _ E
    subst hq_
    exact Ce E ⟨rfl, fE E, sE [] 0 E, rfl⟩
  rintro _ _ _ _ h _ ⟨rfl, hF15075, hS15075, rfl⟩
  replace h := osum_l h
  refine Atn 0 hF15075 hS15075 E E (G0 4 E ?_)
  cases h
  exact Rt [] E E (Ug [] 0 hR)

theorem recyclinglaw23_awake_fn {F : Nat}   {res1 : Bool}
     (h : recyclinglaw23_awake F = some res1)
    (hR : ∀ (μ' : Gh) , μ.le μ' → R (.bool res1) μ' (L)) :
    Fn Try.prog 11 [] μ (L) R := by
  unfold recyclinglaw23_awake at h
  refine FnS Try.func11 (by kernel_rfl) E Try.ntmps11 E E ?_
  refine G0 6 E (Cl E (FnS Try.func25 (by kernel_rfl) E Try.ntmps25 E E (G0 2 E (Al E fun _ => Q0 5 E (So E (O_bsl (z := [.int .i64 0, .int .i64 0, .int .i64 0, .int .i64 0, .int .i64 0, .int .i64 0, .int .i64 0, .int .i64 0]) E E E E E E E (F_cons (cells' := [.int .i64 0, .int .i64 1, .int .i64 500, .int .i64 60, .int .i64 0, .int .i64 0, .int .i64 0, .int .i64 0]) E E E E (F_cons (cells' := [.int .i64 0, .int .i64 1, .int .i64 500, .int .i64 60, .int .i64 1, .int .i64 0, .int .i64 500, .int .i64 60]) E E E E (F_nil (fun g2 => Q0 3 E (So E (O_bsl (z := [.string ⟨#[]⟩, .int .i64 0, .int .i64 0, .int .i64 0, .int .i64 0, .int .i64 0]) E E E E E E E (F_cons (cells' := [.string ⟨#[118]⟩, .int .i64 0, .int .i64 1000, .int .i64 2000, .int .i64 1000, .int .i64 1]) E E E E ?_)))))))))))))
  refine F_nil (fun g3 => Q0 2 E (So E (O_bsl (z := [.int .i64 0, .int .i64 0, .int .i64 0, .int .i64 0, .int .i64 0, .int .i64 0, .int .i64 0]) E E E E E E E (F_cons (cells' := [.int .i64 0, .int .i64 1, .int .i64 0, .int .i64 300, .int .i64 1100, .int .i64 1200, .int .i64 30]) E E E E (F_nil (fun g4 => Q1 3 [3] E (Rt [3] E E (Upd.done (Q0 0 E (Al E fun _ => Q1 6 [0, 0] E (Cl E ?_)))))))))))
  have hl1 : [(T_api_Edge.mk 0 1 500 60), (T_api_Edge.mk 1 0 500 60)].length ≤ 2 ∧ 2 ≤ maxLen := ⟨Nat.le_refl _, by unfold maxLen; omega⟩
  refine Fn.pre Try.func12 (by kernel_rfl) E (Upd.frzOwn 3 E (Own.lit (r := r_api_Edge) (e := 81) (g := g2) (xs := [(T_api_Edge.mk 0 1 500 60), (T_api_Edge.mk 1 0 500 60)]) (cs := [.int .i64 0, .int .i64 1, .int .i64 500, .int .i64 60, .int .i64 1, .int .i64 0, .int .i64 500, .int .i64 60]) (css := [[.int .i64 0, .int .i64 1, .int .i64 500, .int .i64 60], [.int .i64 1, .int .i64 0, .int .i64 500, .int .i64 60]]) E (All2.cons (E) (All2.cons (E) (All2.nil))) E E) fun _ hm_1 hA1 => Upd.done ?_)
  have hl2 : [(T_api_Demand.mk 0 1 0 300 (T_api_Window.mk 1100 1200) 30)].length ≤ 1 ∧ 1 ≤ maxLen := ⟨Nat.le_refl _, by unfold maxLen; omega⟩
  refine Fn.pre Try.func12 (by kernel_rfl) E (Upd.frzOwn 1 E (Own.lit (r := r_api_Demand) (e := 83) (g := g4) (xs := [(T_api_Demand.mk 0 1 0 300 (T_api_Window.mk 1100 1200) 30)]) (cs := [.int .i64 0, .int .i64 1, .int .i64 0, .int .i64 300, .int .i64 1100, .int .i64 1200, .int .i64 30]) (css := [[.int .i64 0, .int .i64 1, .int .i64 0, .int .i64 300, .int .i64 1100, .int .i64 1200, .int .i64 30]]) E (All2.cons (E) (All2.nil)) E E) fun v2 hm_2 hA2 => Upd.done ?_)
  replace hA1 := hA1.mono hm_2
  obtain ⟨⟨_, _⟩, hx1, h⟩ := obind h
  replace h := oun_mk h
  refine Fn.lend Try.func12 (by kernel_rfl) E 2 E fun hgb_ hmb_ => insert_Options_fn hl1 (hA1.mono hmb_) (lenLit (c := 1) E E) (Own.lent (Own.lit (μ := v2) (r := r_api_Vehicle) (e := 55) (g := g3) (xs := [(T_api_Vehicle.mk ⟨#[118]⟩ 0 (T_api_Window.mk 1000 2000) 1000 1)]) (cs := [.string ⟨#[118]⟩, .int .i64 0, .int .i64 1000, .int .i64 2000, .int .i64 1000, .int .i64 1]) (css := [[.string ⟨#[118]⟩, .int .i64 0, .int .i64 1000, .int .i64 2000, .int .i64 1000, .int .i64 1]]) E (All2.cons (E) (All2.nil)) E E) hmb_ hgb_) hl2 (hA2.mono hmb_) ⟨Nat.le_refl _, Nat.zero_le _⟩ ArrR.nil hx1 (fun _ _ _ _ hm_3 hO1 => Lent.mk hm_3 fun _ hm_4 hdb_ => ?_)
  obtain ⟨_, hg1, h⟩ := obind h
  replace hg1 := guardO_some hg1
  replace hO1 := lentT hdb_ rfl hg1 hO1
  replace hA1 := hA1.mono hm_4
  replace hA2 := hA2.mono hm_4
  refine Q1 9 [2] E (So E (O_bsl (z := [.int .i64 0, .int .i64 0]) E E E E E E E (F_cons (cells' := [.int .i64 0, .int .i64 0]) E E E E (F_cons (cells' := [.int .i64 0, .int .i64 (-1)]) E E E E (F_nil (fun g6 => Q0 1 E (Cl E ?_)))))))
  have hl3 : [0, (-1)].length ≤ 2 ∧ 2 ≤ maxLen := ⟨Nat.le_refl _, by unfold maxLen; omega⟩
  refine Fn.pre Try.func12 (by kernel_rfl) E (Upd.frzOwn 0 E (Own.lit (r := rInt) (e := 3) (g := g6) (xs := [0, (-1)]) (cs := [.int .i64 0, .int .i64 (-1)]) (css := [[.int .i64 0], [.int .i64 (-1)]]) E (All2.cons (E) (All2.cons (E) (All2.nil))) E E) fun v5 hm_5 hA3 => Upd.done ?_)
  replace hA1 := hA1.mono hm_5
  replace hA2 := hA2.mono hm_5
  replace hO1 := hO1.mono hm_5
  obtain ⟨⟨_, _⟩, hx2, h⟩ := obind h
  replace h := oun_mk h
  refine Fn.lend Try.func12 (by kernel_rfl) E 1 E fun hgb_ hmb_ => insert_Options_fn hl1 (hA1.mono hmb_) (lenLit (c := 1) E E) (Own.lent (Own.lit (μ := v5) (r := r_api_Vehicle) (e := 55) (g := g3) (xs := [(T_api_Vehicle.mk ⟨#[118]⟩ 0 (T_api_Window.mk 1000 2000) 1000 1)]) (cs := [.string ⟨#[118]⟩, .int .i64 0, .int .i64 1000, .int .i64 2000, .int .i64 1000, .int .i64 1]) (css := [[.string ⟨#[118]⟩, .int .i64 0, .int .i64 1000, .int .i64 2000, .int .i64 1000, .int .i64 1]]) E (All2.cons (E) (All2.nil)) E E) hmb_ hgb_) hl2 (hA2.mono hmb_) hl3 (hA3.mono hmb_) hx2 (fun _ _ _ _ hm_6 hO2 => Lent.mk hm_6 fun v7 hm_7 hdb_ => ?_)
  obtain ⟨_, hg2, h⟩ := obind h
  replace hg2 := guardO_some hg2
  replace hO2 := lentT hdb_ rfl hg2 hO2
  replace hA1 := hA1.mono hm_7
  replace hA2 := hA2.mono hm_7
  replace hO1 := hO1.mono hm_7
  refine Q1 9 [5] E (Cl E ?_)
  obtain ⟨⟨_, _⟩, hx3, h⟩ := obind h
  replace h := oun_mk h
  refine Fn.lend Try.func19 (by kernel_rfl) E 0 E fun hgb_ hmb_ => insert_Build_fn hl1 (hA1.mono hmb_) (lenLit (c := 1) E E) (Own.lent (Own.lit (μ := v7) (r := r_api_Vehicle) (e := 55) (g := g3) (xs := [(T_api_Vehicle.mk ⟨#[118]⟩ 0 (T_api_Window.mk 1000 2000) 1000 1)]) (cs := [.string ⟨#[118]⟩, .int .i64 0, .int .i64 1000, .int .i64 2000, .int .i64 1000, .int .i64 1]) (css := [[.string ⟨#[118]⟩, .int .i64 0, .int .i64 1000, .int .i64 2000, .int .i64 1000, .int .i64 1]]) E (All2.cons (E) (All2.nil)) E E) hmb_ hgb_) hl2 (hA2.mono hmb_) hx3 (fun _ _ _ _ _ hm_8 hl4 hA4 _ hA5 => Lent.mk hm_8 fun v9 hm_9 hdb_ => ?_)
  obtain ⟨_, hg3, h⟩ := obind h
  replace hg3 := guardO_some hg3
  replace hA4 := lentA hdb_ rfl rfl hg3.1 hA4
  replace hA5 := lentI hdb_ rfl hg3.2 hA5
  replace hA1 := hA1.mono hm_9
  replace hA2 := hA2.mono hm_9
  replace hO1 := hO1.mono hm_9
  refine Q0 3 E (Al E fun _ => Q1 7 [0, 7] E (IxA h (Own.rds (Own.lit (r := r_api_Vehicle) (e := 55) (g := g3) (xs := [(T_api_Vehicle.mk ⟨#[118]⟩ 0 (T_api_Window.mk 1000 2000) 1000 1)]) (cs := [.string ⟨#[118]⟩, .int .i64 0, .int .i64 1000, .int .i64 2000, .int .i64 1000, .int .i64 1]) (css := [[.string ⟨#[118]⟩, .int .i64 0, .int .i64 1000, .int .i64 2000, .int .i64 1000, .int .i64 1]]) E (All2.cons (E) (All2.nil)) E E) 1 E) E E fun x1 _ _ hx4 hr1 _ hA6 h => ?_))
  obtain rfl := hr1
  refine Q0 2 E (So E (O_store (vs := [.int .i64 1100]) rfl rfl rfl rfl rfl rfl (Own.store (μ := v9) (r := r_api_Vehicle) (x' := (T_api_Vehicle.mk x1.ID x1.Depot (T_api_Window.mk x1.Shift.From 1100) x1.Grams x1.Kinds)) (o := 3) (sz := 6) 1 rfl (Own.lit (r := r_api_Vehicle) (e := 55) (g := g3) (xs := [(T_api_Vehicle.mk ⟨#[118]⟩ 0 (T_api_Window.mk 1000 2000) 1000 1)]) (cs := [.string ⟨#[118]⟩, .int .i64 0, .int .i64 1000, .int .i64 2000, .int .i64 1000, .int .i64 1]) (css := [[.string ⟨#[118]⟩, .int .i64 0, .int .i64 1000, .int .i64 2000, .int .i64 1000, .int .i64 1]]) rfl (All2.cons (rfl) (All2.nil)) rfl rfl) hA6 hx4 rfl rfl (by rintro _ rfl; rfl) fun _ hO3 => Q1 5 [7] E (Cl E ?_))))
  have hl6 := Own.lenOk hO3
  refine Fn.pre Try.func15 (by kernel_rfl) E (Upd.frzOwn 1 E hO3 fun _ hm_10 hA7 => Upd.done ?_)
  replace hA1 := hA1.mono hm_10
  replace hA2 := hA2.mono hm_10
  replace hO1 := hO1.mono hm_10
  replace hA4 := hA4.mono hm_10
  obtain ⟨⟨_, _⟩, hx5, h⟩ := obind h
  replace h := oun_mk h
  refine insert_Best_fn (p1 := (T_api_Problem.mk (T_api_Road.mk 2 [(T_api_Edge.mk 0 1 500 60), (T_api_Edge.mk 1 0 500 60)]) (setI [(T_api_Vehicle.mk ⟨#[118]⟩ 0 (T_api_Window.mk 1000 2000) 1000 1)] 0 (T_api_Vehicle.mk x1.ID x1.Depot (T_api_Window.mk x1.Shift.From 1100) x1.Grams x1.Kinds)) [(T_api_Demand.mk 0 1 0 300 (T_api_Window.mk 1100 1200) 30)] 0 20)) hl1 hA1 hl6 hA7 hl2 hA2 ⟨Nat.le_refl _, Nat.zero_le _⟩ ArrR.nil hx5 (fun _ _ _ hm_11 _ _ => ?_)
  replace hO1 := hO1.mono hm_11
  replace hA4 := hA4.mono hm_11
  refine Q0 3 E (Al E fun _ => Q1 4 [0] E ?_)
  refine Cut h (fun f l o_ f_ μ_ l_ => ∃ (v13 : Bool), v13 = o_ ∧ SubFr ((0, .bool v13) :: []) f_ ∧ SegSub (selS [] 13 l) l_) ?_ ?_
  · intro _ h15196 h
    refine G0 2 E (So E (O_bsl (z := [.int .i64 0, .int .i64 0]) E E E E E E E (F_cons (cells' := [.int .i64 0, .int .i64 0]) E E E E (F_cons (cells' := [.int .i64 0, .int .i64 (-1)]) E E E E (F_nil (fun g9 => Q0 1 E (So E (O_bsl (z := [.int .i64 0, .slice none 0 0]) E E E E E E E (F_cons (cells' := [.int .i64 0, .slice (some ⟨g9, 0, none⟩) 2 2]) E E E E (F_nil (fun g10 => Q0 0 E (Cl E ?_))))))))))))
    have hl8 : [0, (-1)].length ≤ 2 ∧ 2 ≤ maxLen := ⟨Nat.le_refl _, by unfold maxLen; omega⟩
    refine Fn.pre Try.func14 (by kernel_rfl) E (Upd.frzOwn 1 E (Own.lit (r := rInt) (e := 3) (g := g9) (xs := [0, (-1)]) (cs := [.int .i64 0, .int .i64 (-1)]) (css := [[.int .i64 0], [.int .i64 (-1)]]) E (All2.cons (E) (All2.cons (E) (All2.nil))) E E) fun _ hm_12 hA9 => Upd.done ?_)
    replace hO1 := hO1.mono hm_12
    replace hA4 := hA4.mono hm_12
    obtain ⟨_, hx6, h15196⟩ := obind h15196
    refine recyclingref23_Same_fn (Own.lenOk hO1) (Own.rds hO1 9 E) (lenLit (c := 1) E E) (Own.rds (Own.lit (r := r_api_Tour) (e := 31) (g := g10) (xs := [(T_api_Tour.mk 0 [0, (-1)])]) (cs := [.int .i64 0, .slice (some ⟨g9, 0, none⟩) 2 2]) (css := [[.int .i64 0, .slice (some ⟨g9, 0, none⟩) 2 2]]) E (All2.cons (⟨(some ⟨g9, 0, none⟩), 2, E, hl8, hA9⟩) (All2.nil)) E E) 0 E) hx6 ((Q0 1 E ?_))
    refine Br h15196 45 E E (fun hc2 h15196 => ?_) (fun hc2 h15196 => ?_)
    · refine G2 4 [45] [] [] E ?_
      refine Br h15196 49 E E (fun hc3 h15196 => ?_) (fun hc3 h15196 => ?_)
      · refine G2 4 [49] [] [] E ?_
        refine Br h15196 53 E E (fun hc4 h15196 => ?_) (fun hc4 h15196 => ?_)
        · refine G2 3 [53] [] [3] E (Cl E ?_)
          obtain ⟨_, hx7, h15196⟩ := obind h15196
          refine recyclingref23_Same_fn hl4 (ArrR.rds hA4 _) (Own.lenOk hO1) (Own.rds hO1 9 E) hx7 ((Q2 2 [53] [] [] E ?_))
          refine Br h15196 59 E E (fun hc5 h15196 => ?_) (fun hc5 h15196 => ?_)
          · refine G2 6 [59] [] [3] E ?_
            refine Br h15196 65 E E (fun hc6 h15196 => ?_) (fun hc6 h15196 => ?_)
            · refine G2 4 [65] [] [] E ?_
              refine Br h15196 69 E E (fun hc7 h15196 => ?_) (fun hc7 h15196 => ?_)
              · refine G2 5 [69] [] [] E ?_
                cases h15196
                exact Ce E ⟨_, rfl, fE E, sE [] 15 E⟩
              refine G2 5 [] [69] [] E ?_
              cases h15196
              exact Ce E ⟨_, rfl, fE E, sE [] 15 E⟩
            refine G2 9 [] [65, 69] [] E ?_
            cases h15196
            exact Ce E ⟨_, rfl, fE E, sE [] 15 E⟩
          refine G2 15 [] [59, 65, 69] [] E ?_
          cases h15196
          exact Ce E ⟨_, rfl, fE E, sE [] 15 E⟩
        refine G2 21 [] [53, 59, 65, 69] [] E ?_
        cases h15196
        exact Ce E ⟨_, rfl, fE E, sE [] 15 E⟩
      refine G2 25 [] [49, 53, 59, 65, 69] [] E ?_
      cases h15196
      exact Ce E ⟨_, rfl, fE E, sE [] 15 E⟩
    refine G2 29 [] [45, 49, 53, 59, 65, 69] [] E ?_
    cases h15196
    exact Ce E ⟨_, rfl, fE E, sE [] 15 E⟩
  rintro _ _ _ _ h hm15196 ⟨v13, rfl, hF15196, hS15196⟩
  refine Atn 0 hF15196 hS15196 E E ?_
  cases h
  exact Rt [] E E (Ug [] 0 (hR _ (hm_1.trans (hm_2.trans (hm_4.trans (hm_5.trans (hm_7.trans (hm_9.trans (hm_10.trans (hm_11.trans hm15196))))))))))

end Go.Proofs.Ytfekfbcghnlohaa
