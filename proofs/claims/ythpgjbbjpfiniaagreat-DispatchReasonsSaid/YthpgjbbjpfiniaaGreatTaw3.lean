/- Printed by gen2.py of this repo: the walks that tie the functions to their specifications. -/
import Derived.Test.YthpgjbbjpfiniaaGreatTt
import Derived.Test.YthpgjbbjpfiniaaGreatTas
import Derived.Test.YthpgjbbjpfiniaaGreatTaw1
import Derived.Test.YthpgjbbjpfiniaaGreatTaw2
namespace Go.Proofs.YthpgjbbjpfiniaaGreat
open Go.RowKit
set_option linter.unusedSimpArgs false
set_option linter.unusedVariables false
set_option maxHeartbeats 2000000
set_option maxRecDepth 4000
attribute [local irreducible] WP SemOk SemU Fn AN Upd vcR vcO vcOps vcPlan putK fillK resK inBlk forkOne Cell StAt Kept KS
variable {μ : Gh} {L : List Seg} {R : Value → Gh → List Seg → Prop}
theorem dispatch_move_fn {F : Nat} {p1 : T_api_Problem} {x1 : T_api_Plan} {d1 : Int} {v1 : Int} {A1 : Option Addr} {c1 : Nat} {A2 : Option Addr} {c2 : Nat} {A3 : Option Addr} {c3 : Nat} {A4 : Option Addr} {c4 : Nat} {A5 : Option Addr} {c5 : Nat} {res1 : T_api_Plan} {res2 : Bool}
    (hl1 : p1.Road.Edges.length ≤ c1 ∧ c1 ≤ maxLen) (hA1 : ArrR r_api_Edge μ A1 p1.Road.Edges) (hl2 : p1.Vehicles.length ≤ c2 ∧ c2 ≤ maxLen) (hA2 : ArrR r_api_Vehicle μ A2 p1.Vehicles) (hl3 : p1.Demands.length ≤ c3 ∧ c3 ≤ maxLen) (hA3 : ArrR r_api_Demand μ A3 p1.Demands) (hl4 : x1.Tours.length ≤ c4 ∧ c4 ≤ maxLen) (hA4 : ArrR r_api_Tour μ A4 x1.Tours) (hl5 : x1.Left.length ≤ c5 ∧ c5 ≤ maxLen) (hA5 : ArrR rInt μ A5 x1.Left) (h : dispatch_move F p1 x1 d1 v1 = some (res1, res2))
    (hR : ∀ (μ' : Gh) (A0_0 : Option Addr) (c0_0 : Nat) (A0_1 : Option Addr) (c0_1 : Nat), μ.le μ' → (res1.Tours.length ≤ c0_0 ∧ c0_0 ≤ maxLen) → ArrR r_api_Tour μ' A0_0 res1.Tours → (res1.Left.length ≤ c0_1 ∧ c0_1 ≤ maxLen) → ArrR rInt μ' A0_1 res1.Left → R (.tuple #[.agg #[.slice A0_0 res1.Tours.length c0_0, .slice A0_1 res1.Left.length c0_1], .bool res2]) μ' (L)) :
    Fn Tryz.prog 60 [.agg #[.int .i64 p1.Road.Nodes, .slice A1 p1.Road.Edges.length c1, .slice A2 p1.Vehicles.length c2, .slice A3 p1.Demands.length c3, .int .i64 p1.Unload, .int .i64 p1.UnloadSecs], .agg #[.slice A4 x1.Tours.length c4, .slice A5 x1.Left.length c5], .int .i64 d1, .int .i64 v1] μ (L) R := by
  unfold dispatch_move at h
  refine FnS Tryz.func60 (by kernel_rfl) E Tryz.ntmps60 E E ?_
  refine G0 2 E (Al E fun g1 => Q0 0 E (Al E fun g2 => Q0 0 E (Al E fun g3 => Q0 3 E ?_)))
  refine Cut h (fun f l o_ f_ μ_ l_ => ∃ (f1 : Int) (f2 : (List Int)) (e1 : Int) (g5 : Nat) (A9 : Option Addr) (c9 : Nat), (f1, f2, e1) = o_ ∧ SubFr ((10, .pointer (some ⟨g5, 0, none⟩)) :: (11, .int .i64 e1) :: keepF [2, 3, 4, 5, 8] f) f_ ∧ SegSub ([(g1, .cells #[.int .i64 p1.Road.Nodes, .slice A1 p1.Road.Edges.length c1, .slice A2 p1.Vehicles.length c2, .slice A3 p1.Demands.length c3, .int .i64 p1.Unload, .int .i64 p1.UnloadSecs] 28 (0, 0))] :: [(g2, .cells #[.slice A4 x1.Tours.length c4, .slice A5 x1.Left.length c5] 33 (0, 0))] :: [(g3, .cells #[.slice none 0 0, .slice none 0 0] 33 (0, 0))] :: [(g5, .cells #[.int .i64 f1, .slice A9 f2.length c9] 51 (0, 0))] :: selS [] 3 l) l_ ∧ (f2.length ≤ c9 ∧ c9 ≤ maxLen) ∧ ArrR rInt μ_ A9 f2) ?_ ?_
  · intro _ h15949 h
    refine Cd (WP.draw (id := 1) wide _ Kept.refl E (AN.run (fuel := 11) (listed' := [true, true, true, true, false, false, true, false, false, true, false, false, false, false, false, false, false]) Tt_ok [(true, 0), (true, 1), (true, 2), (true, 3), (true, 6), (true, 9)] (by kernel_rfl) (by kernel_rfl) E (PL_t E (R_loadA E E E E (LA_ (vs := [.int .i64 p1.Road.Nodes, .slice A1 p1.Road.Edges.length c1, .slice A2 p1.Vehicles.length c2, .slice A3 p1.Demands.length c3, .int .i64 p1.Unload, .int .i64 p1.UnloadSecs]) 2 0 E E E E (Pt E E (R_move E (Pt E E (R_loadA E E E E (LA_ (vs := [.slice A4 x1.Tours.length c4, .slice A5 x1.Left.length c5]) 1 0 E E E E (Pt E E (R_move E (Pt E E ?_)))))))))))))
    refine R_move E (Pt E E (R_move E (P_some E (PL_nil ?_))))
    refine FK_2 Tt_ok (a := 4) (b := 14) (by kernel_rfl) ?_ ?_
    · refine FO_ E E (O_call (all := [.agg #[.slice A4 x1.Tours.length c4, .slice A5 x1.Left.length c5], .int .i64 v1]) E E E ?_)
      obtain ⟨r1, hx1, h15949⟩ := obind h15949
      refine dispatch_of_fn hl4 hA4 hl5 hA5 hx1 (fun A6 c6 hl6 hA6 => ?_)
      refine ⟨Kept.refl, ?_⟩
      refine P_some E (AN.run (fuel := 9) (listed' := [true, true, true, true, true, true, true, false, false, true, false, false, false, false, false, false, false]) Tt_ok [(true, 5)] (by kernel_rfl) (by kernel_rfl) E (PL_t E (R_field E E E E E (P_some E (PL_nil ?_)))))
      refine FK_2 Tt_ok (a := 7) (b := 14) (by kernel_rfl) ?_ ?_
      · refine FO_ E E (O_call (all := [.slice A6 r1.Stops.length c6, .int .i64 d1]) E E E ?_)
        obtain ⟨r2, hx2, h15949⟩ := obind h15949
        refine dispatch_without_fn hl6 (ArrR.rds hA6 _) hx2 (fun A7 c7 ch1 hO1 => ?_)
        refine ⟨Kept.more (Kept.refl), ?_⟩
        refine P_some E (AN.run (fuel := 7) (listed' := [true, true, true, true, true, true, true, true, true, true, false, false, false, false, false, false, false]) Tt_ok [(true, 8)] (by kernel_rfl) (by kernel_rfl) E (PL_t E (R_build E E E E (F_cons (cells' := [.int .i64 v1, .slice none 0 0]) E E E E (F_cons (cells' := [.int .i64 v1, .slice A7 r2.length c7]) E E E E (F_nil (P_some E (PL_nil ?_))))))))
        refine FK_2 Tt_ok (a := 10) (b := 14) (by kernel_rfl) ?_ ?_
        · refine FO_ E E (O_call (all := [.agg #[.int .i64 p1.Road.Nodes, .slice A1 p1.Road.Edges.length c1, .slice A2 p1.Vehicles.length c2, .slice A3 p1.Demands.length c3, .int .i64 p1.Unload, .int .i64 p1.UnloadSecs], .agg #[.int .i64 v1, .slice A7 r2.length c7], .int .i64 d1]) E E E ?_)
          have hl7 := Own.lenOk hO1
          refine Fn.pre Tryz.func23 (by kernel_rfl) E (Upd.frzOwn 0 E hO1 fun v2 hm_1 hA7 => Upd.done ?_)
          replace hA1 := hA1.mono hm_1
          replace hA2 := hA2.mono hm_1
          replace hA3 := hA3.mono hm_1
          replace hA4 := hA4.mono hm_1
          replace hA5 := hA5.mono hm_1
          replace hA6 := hA6.mono hm_1
          replace hO1 := hO1.mono hm_1
          obtain ⟨⟨r3, r4⟩, hx3, h15949⟩ := obind h15949
          replace h15949 := oun_mk h15949
          refine insert_Best_fn hl1 hA1 hl2 hA2 hl3 hA3 hl7 hA7 hx3 (fun v3 A8 c8 hm_2 hl8 hA8 => ?_)
          replace hA1 := hA1.mono hm_2
          replace hA2 := hA2.mono hm_2
          replace hA3 := hA3.mono hm_2
          replace hA4 := hA4.mono hm_2
          replace hA5 := hA5.mono hm_2
          replace hA6 := hA6.mono hm_2
          replace hO1 := hO1.mono hm_2
          replace hA7 := hA7.mono hm_2
          refine ⟨Kept.more (Kept.refl), ?_⟩
          refine P_some E (AN.run (fuel := 0) (listed' := [true, true, true, true, true, true, true, true, true, true, true, true, true, true, true, true, true]) Tt_ok [(true, 11), (true, 12), (true, 13), (false, 14), (false, 15), (true, 16)] (by kernel_rfl) (by kernel_rfl) E (PL_t E (R_move E (Pt E E (R_ext E E (Pt E E (R_ext E E (P_some E (PL_f E (O_alloc (cs := #[.int .i64 0, .slice none 0 0]) E E (fun g4 => ?_)))))))))))
          refine ⟨Kept.more (Kept.more (Kept.refl)), ?_⟩
          refine P_some E (PL_f E (O_store (vs := [.int .i64 r3.Vehicle, .slice A8 r3.Stops.length c8]) E E E E E E (ST_ (L' := ([(g4, .cells #[.int .i64 r3.Vehicle, .slice A8 r3.Stops.length c8] 51 (0, 0))] :: [] :: [(g3, .cells #[.slice none 0 0, .slice none 0 0] 33 (0, 0))] :: [(g2, .cells #[.slice A4 x1.Tours.length c4, .slice A5 x1.Left.length c5] 33 (0, 0))] :: [(g1, .cells #[.int .i64 p1.Road.Nodes, .slice A1 p1.Road.Edges.length c1, .slice A2 p1.Vehicles.length c2, .slice A3 p1.Demands.length c3, .int .i64 p1.Unload, .int .i64 p1.UnloadSecs] 28 (0, 0))] :: L)) 0 0 E E E E ?_)))
          refine ⟨Kept.more (Kept.more (Kept.refl)), ?_⟩
          refine P_none (PL_t E (R_assign E (P_some E (PL_nil (AN.done0 (by kernel_rfl) ?_)))))
          cases h15949
          exact Ce E ⟨_, _, _, g4, A8, c8, rfl, fE E, sE [some 4, some 3, some 2, some 0] 5 E, (hl8), (hA8)⟩
        obtain ⟨⟨r3, r4⟩, hx3, h15949⟩ := obind h15949
        replace h15949 := oun_mk h15949
        refine FO_ E E (O_alloc (cs := #[.int .i64 0, .slice none 0 0]) E E (fun g4 => ?_))
        refine ⟨Kept.more (Kept.more (Kept.refl)), ?_⟩
        refine P_some E (AN.run (fuel := 0) (listed' := [true, true, true, true, true, true, true, true, true, true, true, true, true, true, true, true, true]) Tt_ok [(false, 10), (true, 11), (true, 12), (true, 13), (false, 15), (true, 16)] (by kernel_rfl) (by kernel_rfl) E (PL_f E (O_call (all := [.agg #[.int .i64 p1.Road.Nodes, .slice A1 p1.Road.Edges.length c1, .slice A2 p1.Vehicles.length c2, .slice A3 p1.Demands.length c3, .int .i64 p1.Unload, .int .i64 p1.UnloadSecs], .agg #[.int .i64 v1, .slice A7 r2.length c7], .int .i64 d1]) E E E ?_)))
        have hl7 := Own.lenOk hO1
        refine Fn.pre Tryz.func23 (by kernel_rfl) E (Upd.frzOwn 1 E hO1 fun v2 hm_1 hA7 => Upd.done ?_)
        replace hA1 := hA1.mono hm_1
        replace hA2 := hA2.mono hm_1
        replace hA3 := hA3.mono hm_1
        replace hA4 := hA4.mono hm_1
        replace hA5 := hA5.mono hm_1
        replace hA6 := hA6.mono hm_1
        replace hO1 := hO1.mono hm_1
        refine insert_Best_fn hl1 hA1 hl2 hA2 hl3 hA3 hl7 hA7 hx3 (fun v3 A8 c8 hm_2 hl8 hA8 => ?_)
        replace hA1 := hA1.mono hm_2
        replace hA2 := hA2.mono hm_2
        replace hA3 := hA3.mono hm_2
        replace hA4 := hA4.mono hm_2
        replace hA5 := hA5.mono hm_2
        replace hA6 := hA6.mono hm_2
        replace hO1 := hO1.mono hm_2
        replace hA7 := hA7.mono hm_2
        refine ⟨Kept.more (Kept.more (Kept.refl)), ?_⟩
        refine Pt E E (R_move E (Pt E E (R_ext E E (Pt E E (R_ext E E (P_some E (PL_f E (O_store (vs := [.int .i64 r3.Vehicle, .slice A8 r3.Stops.length c8]) E E E E E E (ST_ (L' := ([(g4, .cells #[.int .i64 r3.Vehicle, .slice A8 r3.Stops.length c8] 51 (0, 0))] :: [] :: [(g3, .cells #[.slice none 0 0, .slice none 0 0] 33 (0, 0))] :: [(g2, .cells #[.slice A4 x1.Tours.length c4, .slice A5 x1.Left.length c5] 33 (0, 0))] :: [(g1, .cells #[.int .i64 p1.Road.Nodes, .slice A1 p1.Road.Edges.length c1, .slice A2 p1.Vehicles.length c2, .slice A3 p1.Demands.length c3, .int .i64 p1.Unload, .int .i64 p1.UnloadSecs] 28 (0, 0))] :: L)) 0 0 E E E E ?_)))))))))
        refine ⟨Kept.more (Kept.more (Kept.refl)), ?_⟩
        refine P_none (PL_t E (R_assign E (P_some E (PL_nil (AN.done0 (by kernel_rfl) ?_)))))
        cases h15949
        exact Ce E ⟨_, _, _, g4, A8, c8, rfl, fE E, sE [some 4, some 3, some 2, some 0] 5 E, (hl8), (hA8)⟩
      obtain ⟨r2, hx2, h15949⟩ := obind h15949
      obtain ⟨⟨r3, r4⟩, hx3, h15949⟩ := obind h15949
      replace h15949 := oun_mk h15949
      refine FO_ E E (O_alloc (cs := #[.int .i64 0, .slice none 0 0]) E E (fun g4 => ?_))
      refine ⟨Kept.more (Kept.refl), ?_⟩
      refine P_some E (AN.run (fuel := 0) (listed' := [true, true, true, true, true, true, true, true, true, true, true, true, true, true, true, true, true]) Tt_ok [(false, 7), (true, 8), (false, 10), (true, 11), (true, 12), (true, 13), (false, 15), (true, 16)] (by kernel_rfl) (by kernel_rfl) E (PL_f E (O_call (all := [.slice A6 r1.Stops.length c6, .int .i64 d1]) E E E (dispatch_without_fn hl6 (ArrR.rds hA6 _) hx2 (fun A7 c7 ch1 hO1 => ?_)))))
      refine ⟨Kept.more (Kept.more (Kept.refl)), ?_⟩
      refine Pt E E (R_build E E E E (F_cons (cells' := [.int .i64 v1, .slice none 0 0]) E E E E (F_cons (cells' := [.int .i64 v1, .slice A7 r2.length c7]) E E E E (F_nil (P_some E (PL_f E (O_call (all := [.agg #[.int .i64 p1.Road.Nodes, .slice A1 p1.Road.Edges.length c1, .slice A2 p1.Vehicles.length c2, .slice A3 p1.Demands.length c3, .int .i64 p1.Unload, .int .i64 p1.UnloadSecs], .agg #[.int .i64 v1, .slice A7 r2.length c7], .int .i64 d1]) E E E ?_)))))))
      have hl7 := Own.lenOk hO1
      refine Fn.pre Tryz.func23 (by kernel_rfl) E (Upd.frzOwn 0 E hO1 fun v2 hm_1 hA7 => Upd.done ?_)
      replace hA1 := hA1.mono hm_1
      replace hA2 := hA2.mono hm_1
      replace hA3 := hA3.mono hm_1
      replace hA4 := hA4.mono hm_1
      replace hA5 := hA5.mono hm_1
      replace hA6 := hA6.mono hm_1
      replace hO1 := hO1.mono hm_1
      refine insert_Best_fn hl1 hA1 hl2 hA2 hl3 hA3 hl7 hA7 hx3 (fun v3 A8 c8 hm_2 hl8 hA8 => ?_)
      replace hA1 := hA1.mono hm_2
      replace hA2 := hA2.mono hm_2
      replace hA3 := hA3.mono hm_2
      replace hA4 := hA4.mono hm_2
      replace hA5 := hA5.mono hm_2
      replace hA6 := hA6.mono hm_2
      replace hO1 := hO1.mono hm_2
      replace hA7 := hA7.mono hm_2
      refine ⟨Kept.more (Kept.more (Kept.refl)), ?_⟩
      refine Pt E E (R_move E (Pt E E (R_ext E E (Pt E E (R_ext E E (P_some E (PL_f E (O_store (vs := [.int .i64 r3.Vehicle, .slice A8 r3.Stops.length c8]) E E E E E E (ST_ (L' := ([] :: [(g4, .cells #[.int .i64 r3.Vehicle, .slice A8 r3.Stops.length c8] 51 (0, 0))] :: [(g3, .cells #[.slice none 0 0, .slice none 0 0] 33 (0, 0))] :: [(g2, .cells #[.slice A4 x1.Tours.length c4, .slice A5 x1.Left.length c5] 33 (0, 0))] :: [(g1, .cells #[.int .i64 p1.Road.Nodes, .slice A1 p1.Road.Edges.length c1, .slice A2 p1.Vehicles.length c2, .slice A3 p1.Demands.length c3, .int .i64 p1.Unload, .int .i64 p1.UnloadSecs] 28 (0, 0))] :: L)) 1 0 E E E E ?_)))))))))
      refine ⟨Kept.more (Kept.more (Kept.refl)), ?_⟩
      refine P_none (PL_t E (R_assign E (P_some E (PL_nil (AN.done0 (by kernel_rfl) ?_)))))
      cases h15949
      exact Ce E ⟨_, _, _, g4, A8, c8, rfl, fE E, sE [some 4, some 3, some 2, some 1] 5 E, (hl8), (hA8)⟩
    obtain ⟨r1, hx1, h15949⟩ := obind h15949
    obtain ⟨r2, hx2, h15949⟩ := obind h15949
    obtain ⟨⟨r3, r4⟩, hx3, h15949⟩ := obind h15949
    replace h15949 := oun_mk h15949
    refine FO_ E E (O_alloc (cs := #[.int .i64 0, .slice none 0 0]) E E (fun g4 => ?_))
    refine ⟨Kept.more (Kept.refl), ?_⟩
    refine P_some E (AN.run (fuel := 0) (listed' := [true, true, true, true, true, true, true, true, true, true, true, true, true, true, true, true, true]) Tt_ok [(false, 4), (true, 5), (false, 7), (true, 8), (false, 10), (true, 11), (true, 12), (true, 13), (false, 15), (true, 16)] (by kernel_rfl) (by kernel_rfl) E (PL_f E (O_call (all := [.agg #[.slice A4 x1.Tours.length c4, .slice A5 x1.Left.length c5], .int .i64 v1]) E E E (dispatch_of_fn hl4 hA4 hl5 hA5 hx1 (fun A6 c6 hl6 hA6 => ?_)))))
    refine ⟨Kept.more (Kept.refl), ?_⟩
    refine Pt E E (R_field E E E E E (P_some E (PL_f E (O_call (all := [.slice A6 r1.Stops.length c6, .int .i64 d1]) E E E (dispatch_without_fn hl6 (ArrR.rds hA6 _) hx2 (fun A7 c7 ch1 hO1 => ?_))))))
    refine ⟨Kept.more (Kept.more (Kept.refl)), ?_⟩
    refine Pt E E (R_build E E E E (F_cons (cells' := [.int .i64 v1, .slice none 0 0]) E E E E (F_cons (cells' := [.int .i64 v1, .slice A7 r2.length c7]) E E E E (F_nil (P_some E (PL_f E (O_call (all := [.agg #[.int .i64 p1.Road.Nodes, .slice A1 p1.Road.Edges.length c1, .slice A2 p1.Vehicles.length c2, .slice A3 p1.Demands.length c3, .int .i64 p1.Unload, .int .i64 p1.UnloadSecs], .agg #[.int .i64 v1, .slice A7 r2.length c7], .int .i64 d1]) E E E ?_)))))))
    have hl7 := Own.lenOk hO1
    refine Fn.pre Tryz.func23 (by kernel_rfl) E (Upd.frzOwn 0 E hO1 fun v2 hm_1 hA7 => Upd.done ?_)
    replace hA1 := hA1.mono hm_1
    replace hA2 := hA2.mono hm_1
    replace hA3 := hA3.mono hm_1
    replace hA4 := hA4.mono hm_1
    replace hA5 := hA5.mono hm_1
    refine insert_Best_fn hl1 hA1 hl2 hA2 hl3 hA3 hl7 hA7 hx3 (fun v3 A8 c8 hm_2 hl8 hA8 => ?_)
    replace hA4 := hA4.mono hm_2
    replace hA5 := hA5.mono hm_2
    refine ⟨Kept.more (Kept.more (Kept.refl)), ?_⟩
    refine Pt E E (R_move E (Pt E E (R_ext E E (Pt E E (R_ext E E (P_some E (PL_f E (O_store (vs := [.int .i64 r3.Vehicle, .slice A8 r3.Stops.length c8]) E E E E E E (ST_ (L' := ([] :: [(g4, .cells #[.int .i64 r3.Vehicle, .slice A8 r3.Stops.length c8] 51 (0, 0))] :: [(g3, .cells #[.slice none 0 0, .slice none 0 0] 33 (0, 0))] :: [(g2, .cells #[.slice A4 x1.Tours.length c4, .slice A5 x1.Left.length c5] 33 (0, 0))] :: [(g1, .cells #[.int .i64 p1.Road.Nodes, .slice A1 p1.Road.Edges.length c1, .slice A2 p1.Vehicles.length c2, .slice A3 p1.Demands.length c3, .int .i64 p1.Unload, .int .i64 p1.UnloadSecs] 28 (0, 0))] :: L)) 1 0 E E E E ?_)))))))))
    refine ⟨Kept.more (Kept.more (Kept.refl)), ?_⟩
    refine P_none (PL_t E (R_assign E (P_some E (PL_nil (AN.done0 (by kernel_rfl) ?_)))))
    cases h15949
    exact Ce E ⟨_, _, _, g4, A8, c8, rfl, fE E, sE [some 4, some 3, some 2, some 1] 5 E, (hl8), (hA8)⟩
  rintro _ _ _ _ h hm15949 ⟨f1, f2, e1, g5, A9, c9, rfl, hF15949, hS15949, hl9, hA9⟩
  replace h := oun_mk h
  replace h := oun_mk h
  replace hA4 := hA4.mono hm15949
  replace hA5 := hA5.mono hm15949
  refine Atn 4 hF15949 hS15949 E E (G0 6 E ?_)
  refine Br h 30 E E (fun hc1 h => ?_) (fun hc1 h => ?_)
  · refine G2 7 [30] [] [2] E ?_
    cases h
    exact Rt [2] E E (Ug [] 4 (hR _ none 0 none 0 hm15949 ⟨Nat.le_refl _, Nat.zero_le _⟩ ArrR.nil ⟨Nat.le_refl _, Nat.zero_le _⟩ ArrR.nil))
  refine G2 4 [] [30] [] E (Al E fun g6 => Q1 9 [1] E ?_)
  refine Cut h (fun f l o_ f_ μ_ l_ => ∃ (f7 : (List T_api_Tour)) (A16 : Option Addr) (c16 : Nat) (ch6 : Seg), f7 = o_ ∧ SubFr (keepF [2, 5, 8, 12] f) f_ ∧ SegSub ([(g2, .cells #[.slice A4 x1.Tours.length c4, .slice A5 x1.Left.length c5] 33 (0, 0))] :: [(g3, .cells #[.slice none 0 0, .slice none 0 0] 33 (0, 0))] :: [(g6, .cells #[.slice A16 f7.length c16, .slice none 0 0] 33 (0, 0))] :: ch6 :: selS [] 5 l) l_ ∧ Own r_api_Tour 51 μ_ (.slice A16 f7.length c16) f7 ch6) ?_ ?_
  · intro _ h16084 h
    refine Lp h16084 (fun f l (j_ : (List T_api_Tour) × Int) f_ μ_ l_ => ounP j_ fun f3 v4 => ∃ (A10 : Option Addr) (c10 : Nat) (ch2 : Seg), SubFr ((35, .int .i64 v4) :: keepF [2, 3, 5, 8, 10, 12, 34] f) f_ ∧ SegSub ([(g2, .cells #[.slice A4 x1.Tours.length c4, .slice A5 x1.Left.length c5] 33 (0, 0))] :: [(g3, .cells #[.slice none 0 0, .slice none 0 0] 33 (0, 0))] :: [(g5, .cells #[.int .i64 f1, .slice A9 f2.length c9] 51 (0, 0))] :: [(g6, .cells #[.slice A10 f3.length c10, .slice none 0 0] 33 (0, 0))] :: ch2 :: selS [] 5 l) l_ ∧ Own r_api_Tour 51 μ_ (.slice A10 f3.length c10) f3 ch2) ⟨none, 0, [], fE E, sE [some 2, some 3, some 4, some 0, none] 5 E, (Own.nil)⟩ ?_
    rintro ⟨f3, v4⟩ _ _ _ _ hm16140 ⟨A10, c10, ch2, hF16140, hS16140, hO2⟩ hb16140 hq16140
    unfold dispatch_move_l1 at hb16140
    replace hb16140 := oun_mk hb16140
    replace hA4 := hA4.mono hm16140
    replace hA5 := hA5.mono hm16140
    replace hA9 := hA9.mono hm16140
    refine Atn 5 hF16140 hS16140 E E (G0 5 E ?_)
    refine Br hb16140 36 E E (fun hc2 hb16140 => ?_) (fun hc2 hb16140 => ?_)
    · refine G2 3 [36] [] [] E ?_
      refine Cut hb16140 (fun f l o_ f_ μ_ l_ => ∃ (f6 : (List T_api_Tour)) (A15 : Option Addr) (c15 : Nat) (ch5 : Seg), f6 = o_ ∧ SubFr (keepF [2, 3, 5, 8, 10, 12, 34, 35] f) f_ ∧ SegSub ([(g2, .cells #[.slice A4 x1.Tours.length c4, .slice A5 x1.Left.length c5] 33 (0, 0))] :: [(g3, .cells #[.slice none 0 0, .slice none 0 0] 33 (0, 0))] :: [(g5, .cells #[.int .i64 f1, .slice A9 f2.length c9] 51 (0, 0))] :: [(g6, .cells #[.slice A15 f6.length c15, .slice none 0 0] 33 (0, 0))] :: ch5 :: selS [] 5 l) l_ ∧ Own r_api_Tour 51 μ_ (.slice A15 f6.length c15) f6 ch5) ?_ ?_
      · intro _ h16156 hb16140
        refine G1 9 [2] E (Al E fun g7 => Q1 9 [0] E ?_)
        refine Cut h16156 (fun f l o_ f_ μ_ l_ => ∃ (f4 : Int) (f5 : (List Int)) (A13 : Option Addr) (c13 : Nat), (f4, f5) = o_ ∧ SubFr (keepF [2, 3, 5, 8, 10, 12, 14, 34, 35] f) f_ ∧ SegSub ([(g2, .cells #[.slice A4 x1.Tours.length c4, .slice A5 x1.Left.length c5] 33 (0, 0))] :: [(g3, .cells #[.slice none 0 0, .slice none 0 0] 33 (0, 0))] :: [(g5, .cells #[.int .i64 f1, .slice A9 f2.length c9] 51 (0, 0))] :: [(g6, .cells #[.slice A10 f3.length c10, .slice none 0 0] 33 (0, 0))] :: ch2 :: [(g7, .cells #[.int .i64 f4, .slice A13 f5.length c13] 51 (0, 0))] :: selS [] 6 l) l_ ∧ (f5.length ≤ c13 ∧ c13 ≤ maxLen) ∧ ArrR rInt μ_ A13 f5) ?_ ?_
        · intro _ h16160 h16156
          refine Br h16160 41 E E (fun hc3 h16160 => ?_) (fun hc3 h16160 => ?_)
          · refine G2 5 [41] [] [1] E (Cl E ?_)
            obtain ⟨_, hx4, h16160⟩ := obind h16160
            refine dispatch_of_fn hl4 hA4 hl5 hA5 hx4 (fun _ _ hl10 hA10 => Q0 2 E (Cl E ?_))
            obtain ⟨_, hx5, h16160⟩ := obind h16160
            refine dispatch_without_fn hl10 (ArrR.rds hA10 _) hx5 (fun A12 c12 _ hO3 => ?_)
            have hl11 := Own.lenOk hO3
            refine Q0 1 E (KS.upd E (Upd.frzOwn 0 E hO3 fun _ hm_3 hA11 => Upd.done ?_))
            replace hA5 := hA5.mono hm_3
            replace hA9 := hA9.mono hm_3
            replace hO2 := hO2.mono hm_3
            refine G1 2 [1] E ?_
            cases h16160
            exact Ce E ⟨_, _, A12, c12, rfl, fE E, sE [some 2, some 3, some 4, some 5, some 6, some 1] 7 E, (hl11), (hA11)⟩
          refine G2 2 [] [41] [] E ?_
          cases h16160
          exact Ce E ⟨_, _, A9, c9, rfl, fE E, sE [some 1, some 2, some 3, some 4, some 5, some 0] 6 E, (hl9), (hA9)⟩
        rintro _ _ _ _ h16156 hm16160 ⟨f4, f5, A13, c13, rfl, hF16160, hS16160, hl12, hA12⟩
        replace h16156 := oun_mk h16156
        replace hA5 := hA5.mono hm16160
        replace hO2 := hO2.mono hm16160
        refine Atn 6 hF16160 hS16160 E E (G1 3 [5] E (Cl E ?_))
        obtain ⟨_, hx6, h16156⟩ := obind h16156
        refine dispatch_serves_fn hl12 hA12 hx6 ((Q0 1 E ?_))
        refine Br h16156 51 E E (fun hc4 h16156 => ?_) (fun hc4 h16156 => ?_)
        · refine G2 5 [51] [] [3, 5] E (So E (O_bsl (z := [.int .i64 0, .slice none 0 0]) E E E E E E E (F_cons (cells' := [.int .i64 f4, .slice A13 f5.length c13]) E E E E (F_nil (fun g8 => Q0 0 E (So E (O_append E ?_)))))))
          obtain ⟨_, hz1, h16156⟩ := obind h16156
          refine sem_appR (r := r_api_Tour) Tt_ok E E E E (by decide) E E 5 E hO2 E (Own.rds (Own.lit (r := r_api_Tour) (e := 51) (g := g8) (xs := [(T_api_Tour.mk f4 f5)]) (cs := [.int .i64 f4, .slice A13 f5.length c13]) (css := [[.int .i64 f4, .slice A13 f5.length c13]]) E (All2.cons (⟨A13, c13, E, hl12, hA12⟩) (All2.nil)) E E) 0 E) hz1 fun A14 c14 ch4 hO4 => Q1 4 [4] E ?_
          cases h16156
          exact Ce E ⟨_, A14, c14, ch4, rfl, fE E, sE [some 1, some 2, some 3, some 4, some 5] 7 E, (hO4)⟩
        refine G2 3 [] [51] [] E ?_
        cases h16156
        exact Ce E ⟨_, A10, c10, ch2, rfl, fE E, sE [some 0, some 1, some 2, some 3, some 4] 6 E, (hO2)⟩
      rintro _ _ _ _ hb16140 hm16156 ⟨f6, A15, c15, ch5, rfl, hF16156, hS16156, hO5⟩
      replace hA5 := hA5.mono hm16156
      replace hO2 := hO2.mono hm16156
      refine Atn 5 hF16156 hS16156 E E (G0 4 E ?_)
      cases hb16140
      exact Ce E ⟨_, rfl, A15, c15, ch5, fE E, sE [some 0, some 1, some 2, some 3, some 4] 5 E, (hO5)⟩
    refine G2 2 [] [36] [] E ?_
    cases hb16140
    have hq_ := hq16140 _ E
    subst hq_
    exact Ce E ⟨_, A10, c10, ch2, rfl, fE E, sE [some 0, some 1, some 3, some 4] 5 E, (hO2)⟩
  rintro _ _ _ _ h hm16084 ⟨f7, A16, c16, ch6, rfl, hF16084, hS16084, hO6⟩
  replace hA5 := hA5.mono hm16084
  refine Atn 4 hF16084 hS16084 E E (G1 5 [0] E (Cl E ?_))
  obtain ⟨_, hx7, h⟩ := obind h
  refine dispatch_without_fn hl5 (ArrR.rds hA5 _) hx7 (fun A17 c17 _ hO7 => Q1 7 [3, 3] E (Cl E ?_))
  obtain ⟨_, hs1, h⟩ := obind h
  refine sortI_fn Tryz.func94 (by kernel_rfl) E Tryz.slices_Sort_int Tryz.slices_Sort_int_none 0 E hO7 hs1 fun _ hO8 => ?_
  rw [length_sortO hs1]
  refine Q1 7 [3, 2] E ?_
  cases h
  refine Rt [2] E E ?_
  have hl13 := Own.lenOk hO6
  refine Upd.frzOwn 4 E hO6 fun _ hm_4 hA13 => ?_
  replace hO8 := hO8.mono hm_4
  have hl14 := Own.lenOk hO8
  refine Upd.frzOwn 0 E hO8 fun _ hm_5 hA14 => ?_
  replace hA13 := hA13.mono hm_5
  exact (Ug [] 5 (hR _ A16 c16 A17 c17 (hm15949.trans (hm16084.trans (hm_4.trans hm_5))) hl13 hA13 hl14 hA14))
theorem cmp_isNaN_int_fn  {x1 : Int}  {res1 : Bool}
     (h : cmp_isNaN_int x1 = some res1)
    (hR : R (.bool res1) μ (L)) :
    Fn Tryz.prog 95 [.int .i64 x1] μ (L) R := by
  unfold cmp_isNaN_int at h
  refine FnS Tryz.func95 (by kernel_rfl) E Tryz.ntmps95 E E ?_
  refine G0 11 E ?_
  cases h
  exact Rt [] E E (Ug [] 0 hR)
theorem cmp_Compare_int_fn  {x1 : Int} {y1 : Int}  {res1 : Int}
     (h : cmp_Compare_int x1 y1 = some res1)
    (hR : R (.int .i64 res1) μ (L)) :
    Fn Tryz.prog 62 [.int .i64 x1, .int .i64 y1] μ (L) R := by
  unfold cmp_Compare_int at h
  refine FnS Tryz.func62 (by kernel_rfl) E Tryz.ntmps62 E E ?_
  refine G0 7 E (Cl E ?_)
  obtain ⟨_, hx1, h⟩ := obind h
  refine cmp_isNaN_int_fn  hx1 ((Q0 5 E (Cl E ?_)))
  obtain ⟨_, hx2, h⟩ := obind h
  refine cmp_isNaN_int_fn  hx2 ((Q0 7 E ?_))
  refine Br h 11 E E (fun hc1 h => ?_) (fun hc1 h => ?_)
  · refine G2 6 [11] [] [] E ?_
    refine Br h 12 E E (fun hc2 h => ?_) (fun hc2 h => ?_)
    · refine G2 5 [12] [] [] E ?_
      cases h
      exact Rt [] E E (Ug [] 0 hR)
    refine G2 6 [] [12] [] E ?_
    cases h
    exact Rt [] E E (Ug [] 0 hR)
  refine G2 7 [] [11] [] E ?_
  refine Br h 13 E E (fun hc3 h => ?_) (fun hc3 h => ?_)
  · refine G2 5 [13] [] [] E ?_
    cases h
    exact Rt [] E E (Ug [] 0 hR)
  refine G2 9 [] [13] [] E ?_
  refine Br h 16 E E (fun hc4 h => ?_) (fun hc4 h => ?_)
  · refine G2 5 [16] [] [] E ?_
    cases h
    exact Rt [] E E (Ug [] 0 hR)
  refine G2 9 [] [16] [] E ?_
  refine Br h 19 E E (fun hc5 h => ?_) (fun hc5 h => ?_)
  · refine G2 5 [19] [] [] E ?_
    cases h
    exact Rt [] E E (Ug [] 0 hR)
  refine G2 6 [] [19] [] E ?_
  cases h
  exact Rt [] E E (Ug [] 0 hR)
theorem cmp_Or_int_fn  {vals1 : (List Int)} {A1 : Option Addr} {c1 : Nat} {res1 : Int}
    (hl1 : vals1.length ≤ c1 ∧ c1 ≤ maxLen) (hA1 : Rds rInt μ L A1 vals1) (h : cmp_Or_int vals1 = some res1)
    (hR : R (.int .i64 res1) μ (L)) :
    Fn Tryz.prog 61 [.slice A1 vals1.length c1] μ (L) R := by
  unfold cmp_Or_int at h
  refine FnS Tryz.func61 (by kernel_rfl) E Tryz.ntmps61 E E ?_
  refine G0 15 E ?_
  refine Cut h (fun f l o_ f_ μ_ l_ => (.inl ()) = o_ ∧ SubFr (keepF [3] f) f_ ∧ SegSub l l_ ∧ μ = μ_) ?_ ?_
  · intro _ h16277 h
    refine Lp h16277 (fun f l (v1 : Int) f_ μ_ l_ => SubFr ((8, .int .i64 v1) :: keepF [3, 6, 7] f) f_ ∧ SegSub l l_ ∧ μ = μ_) ⟨fE E, sE [] 0 E, E⟩ ?_
    rintro v1 _ _ _ _ _ ⟨hF16279, hS16279, rfl⟩ hb16279 hq16279
    unfold cmp_Or_int_l1 at hb16279
    refine Atn 0 hF16279 hS16279 E E (G0 5 E ?_)
    refine Br hb16279 9 E E (fun hc1 hb16279 => ?_) (fun hc1 hb16279 => ?_)
    · refine G2 6 [9] [] [] E (Ix hb16279 hA1 E E fun _ _ _ _ hr1 hc2 _ hb16279 => ?_)
      obtain rfl := hr1
      refine Q3 9 [] [] [64] (Z1 hc2) E ?_
      refine Br hb16279 14 E E (fun hc3 hb16279 => ?_) (fun hc3 hb16279 => ?_)
      · refine G2 6 [14] [] [] E ?_
        cases hb16279
        have hq_ := hq16279 _ E
        subst hq_
        replace h := osum_r h
        cases h
        exact Rt [] E E (Ug [] 0 hR)
      refine G2 7 [] [14] [] E ?_
      cases hb16279
      exact Ce E ⟨_, rfl, fE E, sE [] 0 E, rfl⟩
    refine G2 2 [] [9] [] E ?_
    cases hb16279
    have hq_ := hq16279 _ E
    subst hq_
    exact Ce E ⟨rfl, fE E, sE [] 0 E, rfl⟩
  rintro _ _ _ _ h _ ⟨rfl, hF16277, hS16277, rfl⟩
  replace h := osum_l h
  refine Atn 0 hF16277 hS16277 E E (G0 5 E ?_)
  cases h
  exact Rt [] E E (Ug [] 0 hR)
theorem dispatch_compare_fn  {a1 : T_dispatch_rated} {b1 : T_dispatch_rated} {A1 : Option Addr} {c1 : Nat} {A2 : Option Addr} {c2 : Nat} {A3 : Option Addr} {c3 : Nat} {A4 : Option Addr} {c4 : Nat} {res1 : Int}
    (hl1 : a1.plan.Tours.length ≤ c1 ∧ c1 ≤ maxLen) (hA1 : ArrR r_api_Tour μ A1 a1.plan.Tours) (hl2 : a1.plan.Left.length ≤ c2 ∧ c2 ≤ maxLen) (hA2 : ArrR rInt μ A2 a1.plan.Left) (hl3 : b1.plan.Tours.length ≤ c3 ∧ c3 ≤ maxLen) (hA3 : ArrR r_api_Tour μ A3 b1.plan.Tours) (hl4 : b1.plan.Left.length ≤ c4 ∧ c4 ≤ maxLen) (hA4 : ArrR rInt μ A4 b1.plan.Left) (h : dispatch_compare a1 b1 = some res1)
    (hR : R (.int .i64 res1) μ (L)) :
    Fn Tryz.prog 40 [.agg #[.slice A1 a1.plan.Tours.length c1, .slice A2 a1.plan.Left.length c2, .int .i64 a1.cost], .agg #[.slice A3 b1.plan.Tours.length c3, .slice A4 b1.plan.Left.length c4, .int .i64 b1.cost]] μ (L) R := by
  unfold dispatch_compare at h
  refine FnS Tryz.func40 (by kernel_rfl) E Tryz.ntmps40 E E ?_
  refine G0 2 E (Al E fun _ => Q0 0 E (Al E fun _ => Q0 3 E (Dr _ Kept.refl [(true, 0), (true, 1), (true, 2), (true, 3), (true, 4), (true, 5), (true, 6), (true, 7), (true, 9), (true, 10), (true, 11), (true, 12), (false, 8), (false, 13), (false, 14), (false, 15), (true, 16)] (by kernel_rfl) (G1 12 [1, 0, 1, 0] E (Cl E ?_)))))
  obtain ⟨r1, hx1, h⟩ := obind h
  refine cmp_Compare_int_fn  hx1 (?_)
  refine ⟨Kept.refl, ?_⟩
  refine Q0 0 E (Cl E ?_)
  obtain ⟨r2, hx2, h⟩ := obind h
  refine cmp_Compare_int_fn  hx2 (?_)
  refine ⟨Kept.refl, ?_⟩
  refine Q0 0 E (So E (O_bsl (z := [.int .i64 0, .int .i64 0]) E E E E E E E (F_cons (cells' := [.int .i64 r1, .int .i64 0]) E E E E (F_cons (cells' := [.int .i64 r1, .int .i64 r2]) E E E E (F_nil (fun g3 => ?_))))))
  refine ⟨Kept.more (Kept.refl), ?_⟩
  refine Q0 0 E (Cl E ?_)
  obtain ⟨_, hx3, h⟩ := obind h
  refine cmp_Or_int_fn (lenLit (c := 2) E E) (Own.rds (Own.lit (r := rInt) (e := 3) (g := g3) (xs := [r1, r2]) (cs := [.int .i64 r1, .int .i64 r2]) (css := [[.int .i64 r1], [.int .i64 r2]]) E (All2.cons (E) (All2.cons (E) (All2.nil))) E E) 0 E) hx3 (?_)
  refine ⟨Kept.more (Kept.refl), ?_⟩
  refine Q0 2 E ?_
  cases h
  exact Rt [] E E (Ug [] 3 hR)
theorem dispatch_Moves_y_fn {F : Nat} {b1 : T_api_Problem} {b2 : T_api_Plan} {b3 : Int} {b4 : (List T_dispatch_rated)} {y1 : T_api_Plan} {l1 : Nat} {q1 : YRec} {g1 : Nat} {A1 : Option Addr} {c1 : Nat} {A2 : Option Addr} {c2 : Nat} {A3 : Option Addr} {c3 : Nat} {g2 : Nat} {A4 : Option Addr} {c4 : Nat} {A5 : Option Addr} {c5 : Nat} {g3 : Nat} {pv1 : Value} {so1 : Seg} {A6 : Option Addr} {c6 : Nat} {A7 : Option Addr} {c7 : Nat} {res1 : (List T_dispatch_rated)}
    (hq1 : YOk 67 l1 q1 [(2, .pointer (some ⟨g1, 0, none⟩)), (3, .pointer (some ⟨g2, 0, none⟩)), (6, .pointer (some ⟨g3, 0, none⟩)), (8, pv1)] Tryz.f16.body) (hl1 : b1.Road.Edges.length ≤ c1 ∧ c1 ≤ maxLen) (hA1 : ArrR r_api_Edge μ A1 b1.Road.Edges) (hl2 : b1.Vehicles.length ≤ c2 ∧ c2 ≤ maxLen) (hA2 : ArrR r_api_Vehicle μ A2 b1.Vehicles) (hl3 : b1.Demands.length ≤ c3 ∧ c3 ≤ maxLen) (hA3 : ArrR r_api_Demand μ A3 b1.Demands) (hl4 : b2.Tours.length ≤ c4 ∧ c4 ≤ maxLen) (hA4 : ArrR r_api_Tour μ A4 b2.Tours) (hl5 : b2.Left.length ≤ c5 ∧ c5 ≤ maxLen) (hA5 : ArrR rInt μ A5 b2.Left) (hP1 : Obj_box_dispatch_rated μ pv1 b4 so1) (hl6 : y1.Tours.length ≤ c6 ∧ c6 ≤ maxLen) (hA6 : ArrR r_api_Tour μ A6 y1.Tours) (hl7 : y1.Left.length ≤ c7 ∧ c7 ≤ maxLen) (hA7 : ArrR rInt μ A7 y1.Left) (h : dispatch_Moves_y F b1 b2 b3 b4 y1 = some res1)
    (hR : ∀ (μ' : Gh) (sp4 : Seg), μ.le μ' → Obj_box_dispatch_rated μ' pv1 res1 sp4 → R (.bool true) μ' ([(l1, yr .ready q1)] :: [(g1, .cells #[.int .i64 b1.Road.Nodes, .slice A1 b1.Road.Edges.length c1, .slice A2 b1.Vehicles.length c2, .slice A3 b1.Demands.length c3, .int .i64 b1.Unload, .int .i64 b1.UnloadSecs] 28 (0, 0))] :: [(g2, .cells #[.slice A4 b2.Tours.length c4, .slice A5 b2.Left.length c5] 33 (0, 0))] :: [(g3, .cells #[.int .i64 b3] 3 (0, 0))] :: sp4 :: L)) :
    Rnd Tryz.prog l1 [.agg #[.slice A6 y1.Tours.length c6, .slice A7 y1.Left.length c7]] μ ([(l1, yr .ready q1)] :: [(g1, .cells #[.int .i64 b1.Road.Nodes, .slice A1 b1.Road.Edges.length c1, .slice A2 b1.Vehicles.length c2, .slice A3 b1.Demands.length c3, .int .i64 b1.Unload, .int .i64 b1.UnloadSecs] 28 (0, 0))] :: [(g2, .cells #[.slice A4 b2.Tours.length c4, .slice A5 b2.Left.length c5] 33 (0, 0))] :: [(g3, .cells #[.int .i64 b3] 3 (0, 0))] :: so1 :: L) R := by
  unfold dispatch_Moves_y at h
  refine Rnd.ok hq1 E E ?_ 0 E
  refine G0 1 E (Al E fun _ => Q1 2 [0] E (Ce E (RndB.mk 1 6 E E (G1 5 [2, 0] E (Cl E ?_)))))
  obtain ⟨⟨r1, _⟩, hx1, h⟩ := obind h
  replace h := oun_mk h
  refine tour_Total_fn hl1 hA1 hl2 hA2 hl3 hA3 hl6 hA6 hl7 hA7 hx1 (fun _ hm_1 => ?_)
  replace hA4 := hA4.mono hm_1
  replace hA5 := hA5.mono hm_1
  replace hP1 := hP1.mono hm_1
  replace hA6 := hA6.mono hm_1
  replace hA7 := hA7.mono hm_1
  refine Q1 11 [0] E (Al E fun _ => Q1 3 [0] E ?_)
  refine Cut h (fun f l o_ f_ μ_ l_ => ∃ (v2 : Bool), v2 = o_ ∧ SubFr ((47, .bool v2) :: keepF [8, 12] f) f_ ∧ SegSub (selS [some 6, some 0, some 2, some 3, some 4, some 5] 7 l) l_) ?_ ?_
  · intro _ h16340 h
    refine G0 4 E ?_
    refine Br h16340 40 E E (fun hc1 h16340 => ?_) (fun hc1 h16340 => ?_)
    · refine G2 4 [40] [] [0, 4, 5] E (Cl E ?_)
      obtain ⟨_, hx2, h16340⟩ := obind h16340
      refine dispatch_compare_fn hl6 hA6 hl7 hA7 hl4 hA4 hl5 hA5 hx2 ((Q2 3 [40] [] [] E ?_))
      cases h16340
      exact Ce E ⟨_, rfl, fE E, sE [some 6, some 0, some 2, some 3, some 4, some 5] 7 E⟩
    refine G2 8 [] [40] [] E ?_
    cases h16340
    exact Ce E ⟨_, rfl, fE E, sE [some 6, some 0, some 2, some 3, some 4, some 5] 7 E⟩
  rintro _ _ _ _ h hm16340 ⟨v2, rfl, hF16340, hS16340⟩
  replace hP1 := hP1.mono hm16340
  replace hA6 := hA6.mono hm16340
  replace hA7 := hA7.mono hm16340
  refine Atn 6 hF16340 hS16340 E E ?_
  refine Br h 47 E E (fun hc2 h => ?_) (fun hc2 h => ?_)
  · obtain ⟨g6, _, _, _, hv1, rfl, hO1⟩ := hP1
    subst hv1
    refine G2 1 [47] [] [] E (In Obj_box_dispatch_rated.fl 0 7 E E E (G1 3 [0, 2] E (So E (O_bsl (z := [.slice none 0 0, .slice none 0 0, .int .i64 0]) E E E E E E E (F_cons (cells' := [.slice A6 y1.Tours.length c6, .slice A7 y1.Left.length c7, .int .i64 r1]) E E E E (F_nil (fun g7 => Q0 0 E (So E (O_append E ?_)))))))))
    obtain ⟨_, hz1, h⟩ := obind h
    refine sem_appR (r := r_dispatch_rated) Tt_ok E E E E (by decide) E E 2 E hO1 E (Own.rds (Own.lit (r := r_dispatch_rated) (e := 82) (g := g7) (xs := [(T_dispatch_rated.mk y1 r1)]) (cs := [.slice A6 y1.Tours.length c6, .slice A7 y1.Left.length c7, .int .i64 r1]) (css := [[.slice A6 y1.Tours.length c6, .slice A7 y1.Left.length c7, .int .i64 r1]]) E (All2.cons (⟨A6, c6, A7, c7, E, hl6, hA6, hl7, hA7⟩) (All2.nil)) E E) 0 E) hz1 fun A9 c9 ch2 hO2 => Q1 3 [1] E ?_
    cases h
    exact Ce E (RndE.mk 4 8 E E ((Ug [[4], [5], [6], [7], [1, 2]] 8 (hR _ _ (hm_1.trans hm16340) ⟨g6, A9, c9, ch2, rfl, rfl, hO2⟩))))
  refine G2 3 [] [47] [] E ?_
  cases h
  exact Ce E (RndE.mk 2 6 E E ((Ug [[2], [3], [4], [5], [0]] 6 (hR _ _ (hm_1.trans hm16340) hP1))))
theorem dispatch_moves_1_y16_fn {F : Nat} {b1 : T_api_Problem} {b2 : T_api_Plan} {b3 : Int} {b4 : (List T_dispatch_rated)} {b5 : T_api_Problem} {b6 : T_api_Plan} {l1 : Nat} {q1 : YRec} {g1 : Nat} {A1 : Option Addr} {c1 : Nat} {A2 : Option Addr} {c2 : Nat} {A3 : Option Addr} {c3 : Nat} {g2 : Nat} {A4 : Option Addr} {c4 : Nat} {A5 : Option Addr} {c5 : Nat} {g3 : Nat} {pv1 : Value} {so1 : Seg} {g4 : Nat} {A6 : Option Addr} {c6 : Nat} {A7 : Option Addr} {c7 : Nat} {A8 : Option Addr} {c8 : Nat} {g5 : Nat} {A9 : Option Addr} {c9 : Nat} {A10 : Option Addr} {c10 : Nat} {res1 : (List T_dispatch_rated)}
    (hq1 : YOk 67 l1 q1 [(2, .pointer (some ⟨g1, 0, none⟩)), (3, .pointer (some ⟨g2, 0, none⟩)), (6, .pointer (some ⟨g3, 0, none⟩)), (8, pv1)] Tryz.f16.body) (hl1 : b1.Road.Edges.length ≤ c1 ∧ c1 ≤ maxLen) (hA1 : ArrR r_api_Edge μ A1 b1.Road.Edges) (hl2 : b1.Vehicles.length ≤ c2 ∧ c2 ≤ maxLen) (hA2 : ArrR r_api_Vehicle μ A2 b1.Vehicles) (hl3 : b1.Demands.length ≤ c3 ∧ c3 ≤ maxLen) (hA3 : ArrR r_api_Demand μ A3 b1.Demands) (hl4 : b2.Tours.length ≤ c4 ∧ c4 ≤ maxLen) (hA4 : ArrR r_api_Tour μ A4 b2.Tours) (hl5 : b2.Left.length ≤ c5 ∧ c5 ≤ maxLen) (hA5 : ArrR rInt μ A5 b2.Left) (hP1 : Obj_box_dispatch_rated μ pv1 b4 so1) (hl6 : b5.Road.Edges.length ≤ c6 ∧ c6 ≤ maxLen) (hA6 : ArrR r_api_Edge μ A6 b5.Road.Edges) (hl7 : b5.Vehicles.length ≤ c7 ∧ c7 ≤ maxLen) (hA7 : ArrR r_api_Vehicle μ A7 b5.Vehicles) (hl8 : b5.Demands.length ≤ c8 ∧ c8 ≤ maxLen) (hA8 : ArrR r_api_Demand μ A8 b5.Demands) (hl9 : b6.Tours.length ≤ c9 ∧ c9 ≤ maxLen) (hA9 : ArrR r_api_Tour μ A9 b6.Tours) (hl10 : b6.Left.length ≤ c10 ∧ c10 ≤ maxLen) (hA10 : ArrR rInt μ A10 b6.Left) (h : dispatch_moves_1_y16 F b1 b2 b3 b4 b5 b6 = some res1)
    (hR : ∀ (μ' : Gh) (sp4 : Seg), μ.le μ' → Obj_box_dispatch_rated μ' pv1 res1 sp4 → R (.tuple #[]) μ' ([(l1, yr .ready q1)] :: [(g1, .cells #[.int .i64 b1.Road.Nodes, .slice A1 b1.Road.Edges.length c1, .slice A2 b1.Vehicles.length c2, .slice A3 b1.Demands.length c3, .int .i64 b1.Unload, .int .i64 b1.UnloadSecs] 28 (0, 0))] :: [(g2, .cells #[.slice A4 b2.Tours.length c4, .slice A5 b2.Left.length c5] 33 (0, 0))] :: [(g3, .cells #[.int .i64 b3] 3 (0, 0))] :: sp4 :: [(g4, .cells #[.int .i64 b5.Road.Nodes, .slice A6 b5.Road.Edges.length c6, .slice A7 b5.Vehicles.length c7, .slice A8 b5.Demands.length c8, .int .i64 b5.Unload, .int .i64 b5.UnloadSecs] 28 (0, 0))] :: [(g5, .cells #[.slice A9 b6.Tours.length c9, .slice A10 b6.Left.length c10] 33 (0, 0))] :: L)) :
    Fn Tryz.prog 59 [.func (.yield l1) #[] #[], .pointer (some ⟨g4, 0, none⟩), .pointer (some ⟨g5, 0, none⟩)] μ ([(l1, yr .ready q1)] :: [(g1, .cells #[.int .i64 b1.Road.Nodes, .slice A1 b1.Road.Edges.length c1, .slice A2 b1.Vehicles.length c2, .slice A3 b1.Demands.length c3, .int .i64 b1.Unload, .int .i64 b1.UnloadSecs] 28 (0, 0))] :: [(g2, .cells #[.slice A4 b2.Tours.length c4, .slice A5 b2.Left.length c5] 33 (0, 0))] :: [(g3, .cells #[.int .i64 b3] 3 (0, 0))] :: so1 :: [(g4, .cells #[.int .i64 b5.Road.Nodes, .slice A6 b5.Road.Edges.length c6, .slice A7 b5.Vehicles.length c7, .slice A8 b5.Demands.length c8, .int .i64 b5.Unload, .int .i64 b5.UnloadSecs] 28 (0, 0))] :: [(g5, .cells #[.slice A9 b6.Tours.length c9, .slice A10 b6.Left.length c10] 33 (0, 0))] :: L) R := by
  unfold dispatch_moves_1_y16 at h
  refine FnS Tryz.func59 (by kernel_rfl) E Tryz.ntmps59 E E ?_
  refine G1 7 [5] E ?_
  refine Cut h (fun f l o_ f_ μ_ l_ => ∃ (q7 : (List T_dispatch_rated)) (so8 : Seg), q7 = o_ ∧ SubFr ([]) f_ ∧ SegSub ([(l1, yr .ready q1)] :: [(g1, .cells #[.int .i64 b1.Road.Nodes, .slice A1 b1.Road.Edges.length c1, .slice A2 b1.Vehicles.length c2, .slice A3 b1.Demands.length c3, .int .i64 b1.Unload, .int .i64 b1.UnloadSecs] 28 (0, 0))] :: [(g2, .cells #[.slice A4 b2.Tours.length c4, .slice A5 b2.Left.length c5] 33 (0, 0))] :: [(g3, .cells #[.int .i64 b3] 3 (0, 0))] :: so8 :: selS [] 5 l) l_ ∧ Obj_box_dispatch_rated μ_ pv1 q7 so8) ?_ ?_
  · intro _ h16840 h
    refine Lp h16840 (fun f l (j_ : Int × (List T_dispatch_rated)) f_ μ_ l_ => ounP j_ fun v1 q2 => ∃ (so2 : Seg), SubFr ((11, .int .i64 v1) :: keepF [0, 1, 2, 10] f) f_ ∧ SegSub ([(g4, .cells #[.int .i64 b5.Road.Nodes, .slice A6 b5.Road.Edges.length c6, .slice A7 b5.Vehicles.length c7, .slice A8 b5.Demands.length c8, .int .i64 b5.Unload, .int .i64 b5.UnloadSecs] 28 (0, 0))] :: [(g5, .cells #[.slice A9 b6.Tours.length c9, .slice A10 b6.Left.length c10] 33 (0, 0))] :: [(l1, yr .ready q1)] :: [(g1, .cells #[.int .i64 b1.Road.Nodes, .slice A1 b1.Road.Edges.length c1, .slice A2 b1.Vehicles.length c2, .slice A3 b1.Demands.length c3, .int .i64 b1.Unload, .int .i64 b1.UnloadSecs] 28 (0, 0))] :: [(g2, .cells #[.slice A4 b2.Tours.length c4, .slice A5 b2.Left.length c5] 33 (0, 0))] :: [(g3, .cells #[.int .i64 b3] 3 (0, 0))] :: so2 :: selS [] 7 l) l_ ∧ Obj_box_dispatch_rated μ_ pv1 q2 so2) ⟨so1, fE E, sE [some 5, some 6, some 0, some 1, some 2, some 3, some 4] 7 E, (hP1)⟩ ?_
    rintro ⟨v1, q2⟩ _ _ _ _ hm17087 ⟨so2, hF17087, hS17087, hP2⟩ hb17087 hq17087
    unfold dispatch_moves_1_y16_l2 at hb17087
    replace hb17087 := oun_mk hb17087
    replace hA1 := hA1.mono hm17087
    replace hA2 := hA2.mono hm17087
    replace hA3 := hA3.mono hm17087
    replace hA4 := hA4.mono hm17087
    replace hA5 := hA5.mono hm17087
    replace hA6 := hA6.mono hm17087
    replace hA7 := hA7.mono hm17087
    replace hA8 := hA8.mono hm17087
    replace hA9 := hA9.mono hm17087
    replace hA10 := hA10.mono hm17087
    refine Atn 7 hF17087 hS17087 E E (G0 5 E ?_)
    refine Br hb17087 12 E E (fun hc1 hb17087 => ?_) (fun hc1 hb17087 => ?_)
    · refine G2 3 [12] [] [] E ?_
      refine Cut hb17087 (fun f l o_ f_ μ_ l_ => ∃ (q6 : (List T_dispatch_rated)) (so7 : Seg), q6 = o_ ∧ SubFr (keepF [0, 1, 2, 10, 11] f) f_ ∧ SegSub ([(g4, .cells #[.int .i64 b5.Road.Nodes, .slice A6 b5.Road.Edges.length c6, .slice A7 b5.Vehicles.length c7, .slice A8 b5.Demands.length c8, .int .i64 b5.Unload, .int .i64 b5.UnloadSecs] 28 (0, 0))] :: [(g5, .cells #[.slice A9 b6.Tours.length c9, .slice A10 b6.Left.length c10] 33 (0, 0))] :: [(l1, yr .ready q1)] :: [(g1, .cells #[.int .i64 b1.Road.Nodes, .slice A1 b1.Road.Edges.length c1, .slice A2 b1.Vehicles.length c2, .slice A3 b1.Demands.length c3, .int .i64 b1.Unload, .int .i64 b1.UnloadSecs] 28 (0, 0))] :: [(g2, .cells #[.slice A4 b2.Tours.length c4, .slice A5 b2.Left.length c5] 33 (0, 0))] :: [(g3, .cells #[.int .i64 b3] 3 (0, 0))] :: so7 :: selS [] 7 l) l_ ∧ Obj_box_dispatch_rated μ_ pv1 q6 so7) ?_ ?_
      · intro _ h17105 hb17087
        refine G1 13 [0] E ?_
        refine Cut h17105 (fun f l o_ f_ μ_ l_ => ∃ (q5 : (List T_dispatch_rated)) (so6 : Seg), q5 = o_ ∧ SubFr (keepF [0, 1, 2, 10, 11] f) f_ ∧ SegSub ([(g4, .cells #[.int .i64 b5.Road.Nodes, .slice A6 b5.Road.Edges.length c6, .slice A7 b5.Vehicles.length c7, .slice A8 b5.Demands.length c8, .int .i64 b5.Unload, .int .i64 b5.UnloadSecs] 28 (0, 0))] :: [(g5, .cells #[.slice A9 b6.Tours.length c9, .slice A10 b6.Left.length c10] 33 (0, 0))] :: [(l1, yr .ready q1)] :: [(g1, .cells #[.int .i64 b1.Road.Nodes, .slice A1 b1.Road.Edges.length c1, .slice A2 b1.Vehicles.length c2, .slice A3 b1.Demands.length c3, .int .i64 b1.Unload, .int .i64 b1.UnloadSecs] 28 (0, 0))] :: [(g2, .cells #[.slice A4 b2.Tours.length c4, .slice A5 b2.Left.length c5] 33 (0, 0))] :: [(g3, .cells #[.int .i64 b3] 3 (0, 0))] :: so6 :: selS [] 7 l) l_ ∧ Obj_box_dispatch_rated μ_ pv1 q5 so6) ?_ ?_
        · intro _ h17106 h17105
          refine Lp h17106 (fun f l (j_ : Int × (List T_dispatch_rated)) f_ μ_ l_ => ounP j_ fun v2 q3 => ∃ (so3 : Seg), SubFr ((17, .int .i64 v2) :: keepF [0, 1, 2, 4, 10, 11, 16] f) f_ ∧ SegSub ([(g4, .cells #[.int .i64 b5.Road.Nodes, .slice A6 b5.Road.Edges.length c6, .slice A7 b5.Vehicles.length c7, .slice A8 b5.Demands.length c8, .int .i64 b5.Unload, .int .i64 b5.UnloadSecs] 28 (0, 0))] :: [(g5, .cells #[.slice A9 b6.Tours.length c9, .slice A10 b6.Left.length c10] 33 (0, 0))] :: [(l1, yr .ready q1)] :: [(g1, .cells #[.int .i64 b1.Road.Nodes, .slice A1 b1.Road.Edges.length c1, .slice A2 b1.Vehicles.length c2, .slice A3 b1.Demands.length c3, .int .i64 b1.Unload, .int .i64 b1.UnloadSecs] 28 (0, 0))] :: [(g2, .cells #[.slice A4 b2.Tours.length c4, .slice A5 b2.Left.length c5] 33 (0, 0))] :: [(g3, .cells #[.int .i64 b3] 3 (0, 0))] :: so3 :: selS [] 7 l) l_ ∧ Obj_box_dispatch_rated μ_ pv1 q3 so3) ⟨so2, fE E, sE [some 0, some 1, some 2, some 3, some 4, some 5, some 6] 7 E, (hP2)⟩ ?_
          rintro ⟨v2, q3⟩ _ _ _ _ hm17209 ⟨so3, hF17209, hS17209, hP3⟩ hb17209 hq17209
          unfold dispatch_moves_1_y16_l1 at hb17209
          replace hb17209 := oun_mk hb17209
          replace hA1 := hA1.mono hm17209
          replace hA2 := hA2.mono hm17209
          replace hA3 := hA3.mono hm17209
          replace hA4 := hA4.mono hm17209
          replace hA5 := hA5.mono hm17209
          replace hA6 := hA6.mono hm17209
          replace hA7 := hA7.mono hm17209
          replace hA8 := hA8.mono hm17209
          replace hA9 := hA9.mono hm17209
          replace hA10 := hA10.mono hm17209
          replace hP2 := hP2.mono hm17209
          refine Atn 7 hF17209 hS17209 E E (G0 5 E ?_)
          refine Br hb17209 18 E E (fun hc2 hb17209 => ?_) (fun hc2 hb17209 => ?_)
          · refine G2 15 [18] [] [0, 1] E (Cl E ?_)
            obtain ⟨⟨_, _⟩, hx1, hb17209⟩ := obind hb17209
            replace hb17209 := oun_mk hb17209
            refine dispatch_move_fn hl6 hA6 hl7 hA7 hl8 hA8 hl9 hA9 hl10 hA10 hx1 (fun _ _ _ _ _ hm_1 hl11 hA11 hl12 hA12 => ?_)
            replace hA1 := hA1.mono hm_1
            replace hA2 := hA2.mono hm_1
            replace hA3 := hA3.mono hm_1
            replace hA4 := hA4.mono hm_1
            replace hA5 := hA5.mono hm_1
            replace hP2 := hP2.mono hm_1
            replace hP3 := hP3.mono hm_1
            refine Q0 3 E (Al E fun _ => Q1 4 [0] E ?_)
            refine Cut hb17209 (fun f l o_ f_ μ_ l_ => ∃ (q4 : (List T_dispatch_rated)) (so5 : Seg), q4 = o_ ∧ SubFr ((34, .bool false) :: keepF [0, 1, 2, 4, 10, 11, 16, 17] f) f_ ∧ SegSub ([(g4, .cells #[.int .i64 b5.Road.Nodes, .slice A6 b5.Road.Edges.length c6, .slice A7 b5.Vehicles.length c7, .slice A8 b5.Demands.length c8, .int .i64 b5.Unload, .int .i64 b5.UnloadSecs] 28 (0, 0))] :: [(g5, .cells #[.slice A9 b6.Tours.length c9, .slice A10 b6.Left.length c10] 33 (0, 0))] :: [(l1, yr .ready q1)] :: [(g1, .cells #[.int .i64 b1.Road.Nodes, .slice A1 b1.Road.Edges.length c1, .slice A2 b1.Vehicles.length c2, .slice A3 b1.Demands.length c3, .int .i64 b1.Unload, .int .i64 b1.UnloadSecs] 28 (0, 0))] :: [(g2, .cells #[.slice A4 b2.Tours.length c4, .slice A5 b2.Left.length c5] 33 (0, 0))] :: [(g3, .cells #[.int .i64 b3] 3 (0, 0))] :: so5 :: selS [] 8 l) l_ ∧ Obj_box_dispatch_rated μ_ pv1 q4 so5) ?_ ?_
            · intro _ h17239 hb17209
              refine G0 3 E ?_
              refine Br h17239 29 E E (fun hc3 h17239 => ?_) (fun hc3 h17239 => ?_)
              · refine G2 2 [29] [] [0] E (ClY E E (Rnd.gp [[3], [4], [5], [6], [7], [0], [1], [2]] 8 8 E ?_))
                obtain ⟨_, hx2, h17239⟩ := obind h17239
                refine dispatch_Moves_y_fn hq1 hl1 hA1 hl2 hA2 hl3 hA3 hl4 hA4 hl5 hA5 hP3 hl11 hA11 hl12 hA12 hx2 (fun _ so4 hm_2 hP4 => ?_)
                replace hP2 := hP2.mono hm_2
                replace hP3 := hP3.mono hm_2
                refine Q2 3 [29] [] [] E ?_
                cases h17239
                exact Ce E ⟨_, so4, rfl, fE E, sE [some 6, some 7, some 0, some 1, some 2, some 3, some 4] 8 E, (hP4)⟩
              refine G2 6 [] [29] [] E ?_
              cases h17239
              exact Ce E ⟨_, so3, rfl, fE E, sE [some 1, some 2, some 3, some 4, some 5, some 6, some 7] 8 E, (hP3)⟩
            rintro _ _ _ _ hb17209 hm17239 ⟨q4, so5, rfl, hF17239, hS17239, hP5⟩
            replace hP2 := hP2.mono hm17239
            replace hP3 := hP3.mono hm17239
            refine Atn 7 hF17239 hS17239 E E (G2 7 [] [34] [] E ?_)
            cases hb17209
            exact Ce E ⟨_, rfl, so5, fE E, sE [some 0, some 1, some 2, some 3, some 4, some 5, some 6] 7 E, (hP5)⟩
          refine G2 2 [] [18] [] E ?_
          cases hb17209
          have hq_ := hq17209 _ E
          subst hq_
          exact Ce E ⟨_, so3, rfl, fE E, sE [some 0, some 1, some 2, some 3, some 4, some 5, some 6] 7 E, (hP3)⟩
        rintro _ _ _ _ h17105 hm17106 ⟨q5, so6, rfl, hF17106, hS17106, hP6⟩
        replace hP2 := hP2.mono hm17106
        refine G0 1 E ?_
        cases h17105
        exact Ce E ⟨_, so6, rfl, hF17106.tr E, hS17106.tr (sE [some 0, some 1, some 2, some 3, some 4, some 5, some 6] 7 E), (hP6)⟩
      rintro _ _ _ _ hb17087 hm17105 ⟨q6, so7, rfl, hF17105, hS17105, hP7⟩
      replace hP2 := hP2.mono hm17105
      refine Atn 7 hF17105 hS17105 E E (G0 4 E ?_)
      cases hb17087
      exact Ce E ⟨_, rfl, so7, fE E, sE [some 0, some 1, some 2, some 3, some 4, some 5, some 6] 7 E, (hP7)⟩
    refine G2 2 [] [12] [] E ?_
    cases hb17087
    have hq_ := hq17087 _ E
    subst hq_
    exact Ce E ⟨_, so2, rfl, fE E, sE [some 2, some 3, some 4, some 5, some 6, some 0, some 1] 7 E, (hP2)⟩
  rintro _ _ _ _ h hm16840 ⟨q7, so8, rfl, hF16840, hS16840, hP8⟩
  refine Atn 7 hF16840 hS16840 E E ?_
  cases h
  exact Rt [] E E (Ug [[0], [1], [2], [3], [4], [5], [6]] 7 (hR _ _ hm16840 hP8))
theorem slices_insertionSortCmpFunc_rated_c40_fn {F : Nat} {data1 : (List T_dispatch_rated)} {a1 : Int} {b1 : Int} {A1 : Option Addr} {c1 : Nat} {ch1 : Seg} {n1 : Nat} {res1 : (List T_dispatch_rated)}
    (hn1 : n1 = data1.length) (hO1 : Own r_dispatch_rated 82 μ (.slice A1 n1 c1) data1 ch1) (h : slices_insertionSortCmpFunc_rated_c40 F data1 a1 b1 = some res1)
    (hR : ∀ (sp0 : Seg), Own r_dispatch_rated 82 μ (.slice A1 n1 c1) res1 sp0 → n1 = res1.length → R (.tuple #[]) μ (sp0 :: L)) :
    Fn Tryz.prog 96 [.slice A1 n1 c1, .int .i64 a1, .int .i64 b1, .func (.func 40) #[] #[]] μ (ch1 :: L) R := by
  unfold slices_insertionSortCmpFunc_rated_c40 at h
  subst hn1
  have hn1 : data1.length = data1.length := rfl
  refine FnS Tryz.func96 (by kernel_rfl) E Tryz.ntmps96 E E ?_
  refine G0 6 E ?_
  refine Cut h (fun f l o_ f_ μ_ l_ => ∃ (data7 : (List T_dispatch_rated)) (ch9 : Seg), data7 = o_ ∧ SubFr ([]) f_ ∧ SegSub (ch9 :: selS [] 1 l) l_ ∧ data1.length = data7.length ∧ Own r_dispatch_rated 82 μ_ (.slice A1 data1.length c1) data7 ch9 ∧ μ = μ_) ?_ ?_
  · intro _ h20036 h
    refine Lp h20036 (fun f l (j_ : (List T_dispatch_rated) × Int) f_ μ_ l_ => ounP j_ fun data2 i1 => ∃ (ch2 : Seg), SubFr ((8, .int .i64 i1) :: keepF [0, 1, 2, 3] f) f_ ∧ SegSub (ch2 :: selS [] 1 l) l_ ∧ data1.length = data2.length ∧ Own r_dispatch_rated 82 μ_ (.slice A1 data1.length c1) data2 ch2 ∧ μ = μ_) ⟨ch1, fE E, sE [some 0] 1 E, (hn1), (hO1), E⟩ ?_
    rintro ⟨data2, i1⟩ _ _ _ _ _ ⟨ch2, hF21335, hS21335, hn2, hO2, rfl⟩ hb21335 hq21335
    unfold slices_insertionSortCmpFunc_rated_c40_l2 at hb21335
    replace hb21335 := oun_mk hb21335
    refine Atn 1 hF21335 hS21335 E E (G0 7 E ?_)
    refine Br hb21335 14 E E (fun hc1 hb21335 => ?_) (fun hc1 hb21335 => ?_)
    · refine G2 3 [14] [] [] E ?_
      refine Cut hb21335 (fun f l o_ f_ μ_ l_ => ∃ (data6 : (List T_dispatch_rated)) (ch8 : Seg), data6 = o_ ∧ SubFr (keepF [0, 1, 2, 3, 8] f) f_ ∧ SegSub (ch8 :: selS [] 1 l) l_ ∧ data1.length = data6.length ∧ Own r_dispatch_rated 82 μ_ (.slice A1 data1.length c1) data6 ch8 ∧ μ = μ_) ?_ ?_
      · intro _ h21337 hb21335
        refine G0 6 E ?_
        refine Cut h21337 (fun f l o_ f_ μ_ l_ => ∃ (data5 : (List T_dispatch_rated)) (ch7 : Seg), data5 = o_ ∧ SubFr (keepF [0, 1, 2, 3, 8] f) f_ ∧ SegSub (ch7 :: selS [] 1 l) l_ ∧ data1.length = data5.length ∧ Own r_dispatch_rated 82 μ_ (.slice A1 data1.length c1) data5 ch7 ∧ μ = μ_) ?_ ?_
        · intro _ h21338 h21337
          refine Lp h21338 (fun f l (j_ : (List T_dispatch_rated) × Int) f_ μ_ l_ => ounP j_ fun data3 j1 => ∃ (ch3 : Seg), SubFr ((9, .int .i64 j1) :: keepF [0, 1, 2, 3, 8] f) f_ ∧ SegSub (ch3 :: selS [] 1 l) l_ ∧ data1.length = data3.length ∧ Own r_dispatch_rated 82 μ_ (.slice A1 data1.length c1) data3 ch3 ∧ μ = μ_) ⟨ch2, fE E, sE [some 0] 1 E, (hn2), (hO2), E⟩ ?_
          rintro ⟨data3, j1⟩ _ _ _ _ _ ⟨ch3, hF21985, hS21985, hn3, hO3, rfl⟩ hb21985 hq21985
          unfold slices_insertionSortCmpFunc_rated_c40_l1 at hb21985
          replace hb21985 := oun_mk hb21985
          refine Atn 1 hF21985 hS21985 E E (G0 2 E ?_)
          refine Cut hb21985 (fun f l o_ f_ μ_ l_ => ∃ (v1 : Bool), v1 = o_ ∧ SubFr ((34, .bool v1) :: keepF [0, 1, 2, 3, 8, 9] f) f_ ∧ SegSub l l_ ∧ μ = μ_) ?_ ?_
          · intro _ h21995 hb21985
            refine Dr _ Kept.refl [(true, 0), (true, 1), (true, 2), (true, 3), (true, 4), (true, 5), (true, 6), (true, 7), (true, 8), (true, 9), (true, 10), (true, 11), (true, 12), (true, 13), (false, 14), (true, 15), (true, 16)] (by kernel_rfl) (G0 4 E ?_)
            refine Br h21995 21 E E (fun hc2 h21995 => ?_) (fun hc2 h21995 => ?_)
            · refine G2 3 [21] [] [] E (IxN hn3 h21995 (Own.rds (L := (ch3 :: L)) hO3 0 E) E E fun _ _ _ _ hr1 hc3 _ h21995 => ?_)
              obtain ⟨_, _, _, _, rfl, hl1, hA2, hl2, hA3⟩ := hr1
              refine Q3 4 [21] [] [64] (Z1 hc3) E (IxN hn3 h21995 (Own.rds (L := (ch3 :: L)) hO3 0 E) E E fun _ _ _ _ hr2 hc4 _ h21995 => ?_)
              obtain ⟨_, _, _, _, rfl, hl3, hA5, hl4, hA6⟩ := hr2
              refine Q3 1 [21] [] [64] (Z1 hc4) E (Cl E ?_)
              obtain ⟨_, hx3, h21995⟩ := obind h21995
              refine dispatch_compare_fn hl1 hA2 hl2 hA3 hl3 hA5 hl4 hA6 hx3 (?_)
              refine ⟨Kept.refl, ?_⟩
              refine Q2 3 [21] [] [] E ?_
              cases h21995
              exact Ce E ⟨_, rfl, fE E, sE [some 0] 1 E, rfl⟩
            refine G2 14 [] [21] [] E ?_
            cases h21995
            exact Ce E ⟨_, rfl, fE E, sE [some 0] 1 E, rfl⟩
          rintro _ _ _ _ hb21985 _ ⟨v1, rfl, hF21995, hS21995, rfl⟩
          refine Atn 1 hF21995 hS21995 E E ?_
          refine Br hb21985 34 E E (fun hc5 hb21985 => ?_) (fun hc5 hb21985 => ?_)
          · refine G2 4 [34] [] [] E ?_
            refine Cut hb21985 (fun f l o_ f_ μ_ l_ => ∃ (data4 : (List T_dispatch_rated)) (ch6 : Seg), data4 = o_ ∧ SubFr (keepF [0, 1, 2, 3, 8, 9] f) f_ ∧ SegSub (ch6 :: selS [] 1 l) l_ ∧ data1.length = data4.length ∧ Own r_dispatch_rated 82 μ_ (.slice A1 data1.length c1) data4 ch6 ∧ μ = μ_) ?_ ?_
            · intro _ h22278 hb21985
              refine Cd (WP.draw (id := 6) wide (L) (Kp [] 1 E) E (AN.run (fuel := 8) (listed' := [true, true, true, true, true, true, true, true, false, false, true, true, false, false, false, false, false, false]) Tt_ok [(true, 0), (true, 1), (true, 2), (true, 3), (true, 4), (true, 5), (true, 6), (true, 7), (true, 10), (true, 11)] (by kernel_rfl) (by kernel_rfl) E (PL_t E (R_move E (Pt E E (R_move E (Pt E E (R_move E (Pt E E (R_move E (Pt E E (R_sub E E (P_some E ?_)))))))))))))
              refine PL_t E (R_move E (Pt E E (R_move E (Pt E E (R_sub E E (Pt E E (R_move E (Pt E E (R_move E (P_some E (PL_nil ?_)))))))))))
              refine FK_2 Tt_ok (a := 8) (b := 12) (by kernel_rfl) ?_ ?_
              · apply FO_; exact rfl; exact rfl
                obtain ⟨x3, hx4, h22278⟩ := obind h22278
                obtain ⟨a4, cs3, hA7, hr3, _, hc6⟩ := Rds.getI (Own.rds (L := (ch3 :: L)) hO3 0 rfl) hx4
                obtain ⟨A6, c6, A7, c7, rfl, hl5, hA8, hl6, hA9⟩ := hr3
                refine O_read E (R_iaG E E E E E E ⟨(getI_lt hx4).1, lenN hn3 (getI_lt hx4).2.1⟩ hA7 ?_)
                refine ⟨Kp [] 1 E, ?_⟩
                apply P_some; exact rfl
                refine FK_2 Tt_ok (a := 9) (b := 12) (by kernel_rfl) ?_ ?_
                · refine FO_ E E (O_read E (R_loadA E E E E (Ex.mk [.slice A6 x3.plan.Tours.length c6, .slice A7 x3.plan.Left.length c7, .int .i64 x3.cost] ⟨rfl, hc6⟩ ?_)))
                  refine ⟨Kp [] 1 E, ?_⟩
                  refine P_some E (AN.run (fuel := 0) (listed' := [true, true, true, true, true, true, true, true, true, true, true, true, true, true, true, true, true, true]) Tt_ok [(false, 12), (false, 13), (false, 14), (false, 15), (false, 16), (false, 17)] (by kernel_rfl) (by kernel_rfl) E (PL_f E ?_))
                  obtain ⟨x4, hx5, h22278⟩ := obind h22278
                  obtain ⟨a5, cs4, hA10, hr4, _, hc7⟩ := Rds.getI (Own.rds (L := (ch3 :: L)) hO3 0 rfl) hx5
                  obtain ⟨A8, c8, A9, c9, rfl, hl7, hA11, hl8, hA12⟩ := hr4
                  refine O_read E (R_iaG E E E E E E ⟨(getI_lt hx5).1, lenN hn3 (getI_lt hx5).2.1⟩ hA10 ?_)
                  refine ⟨Kp [] 1 E, ?_⟩
                  refine P_some E (PL_f E (O_read E (R_loadA E E E E (Ex.mk [.slice A8 x4.plan.Tours.length c8, .slice A9 x4.plan.Left.length c9, .int .i64 x4.cost] ⟨rfl, hc7⟩ ?_))))
                  refine ⟨Kp [] 1 E, ?_⟩
                  refine P_some E (PL_f E ?_)
                  obtain ⟨x5, hx6, h22278⟩ := obind h22278
                  obtain ⟨a6, cs5, hA13, hr5, _, hc8⟩ := Rds.getI (Own.rds (L := (ch3 :: L)) hO3 0 rfl) hx6
                  obtain ⟨A10, c10, A11, c11, rfl, hl9, hA14, hl10, hA15⟩ := hr5
                  refine O_read E (R_iaG E E E E E E ⟨(getI_lt hx6).1, lenN hn3 (getI_lt hx6).2.1⟩ hA13 ?_)
                  refine ⟨Kp [] 1 E, ?_⟩
                  refine P_some E (PL_f E (O_store (vs := [.slice A6 x3.plan.Tours.length c6, .slice A7 x3.plan.Left.length c7, .int .i64 x3.cost]) E E E E E E ?_))
                  rw [← Addr.add_zero' ((a6.add (j1.toNat * 3)))]
                  refine Own.store (μ := μ) (r := r_dispatch_rated) (x' := x3) (o := 0) (sz := 3) 0 rfl hO3 hA13 hx6 rfl rfl (by rintro _ ⟨A12, c12, A13, c13, rfl, hl11, hA16, hl12, hA17⟩; exact ⟨A6, c6, A7, c7, rfl, hl5, hA8, hl6, hA9⟩) fun ch4 hO4 => ?_
                  have hn4 := hn3.trans (length_setI data3 j1 x3).symm
                  refine ⟨Kp [] 1 E, ?_⟩
                  refine P_none (PL_f E ?_)
                  obtain ⟨x6, hx7, h22278⟩ := obind h22278
                  obtain ⟨a7, cs6, hA18, hr6, _, hc9⟩ := Rds.getI (Own.rds (L := (ch4 :: L)) hO4 0 rfl) hx7
                  obtain ⟨A14, c14, A15, c15, rfl, hl13, hA19, hl14, hA20⟩ := hr6
                  refine O_read E (R_iaG E E E E E E ⟨(getI_lt hx7).1, lenN hn4 (getI_lt hx7).2.1⟩ hA18 ?_)
                  refine ⟨Kp [] 1 E, ?_⟩
                  refine P_some E (PL_f E (O_store (vs := [.slice A8 x4.plan.Tours.length c8, .slice A9 x4.plan.Left.length c9, .int .i64 x4.cost]) E E E E E E ?_))
                  rw [← Addr.add_zero' ((a7.add ((w64 (j1 - 1)).toNat * 3)))]
                  refine Own.store (μ := μ) (r := r_dispatch_rated) (x' := x4) (o := 0) (sz := 3) 0 rfl hO4 hA18 hx7 rfl rfl (by rintro _ ⟨A16, c16, A17, c17, rfl, hl15, hA21, hl16, hA22⟩; exact ⟨A8, c8, A9, c9, rfl, hl7, hA11, hl8, hA12⟩) fun ch5 hO5 => ?_
                  have hn5 := hn4.trans (length_setI (setI data3 j1 x3) (w64 (j1 - 1)) x4).symm
                  refine ⟨Kp [] 1 E, ?_⟩
                  refine P_none (PL_nil (AN.done0 (by kernel_rfl) ?_))
                  cases h22278
                  exact Ce E ⟨_, ch5, rfl, fE E, sE [some 0] 1 E, (hn5), (hO5), rfl⟩
                obtain ⟨x4, hx5, h22278⟩ := obind h22278
                obtain ⟨x5, hx6, h22278⟩ := obind h22278
                obtain ⟨x6, hx7, h22278⟩ := obind h22278
                apply FO_; exact rfl; exact rfl
                obtain ⟨a5, cs4, hA10, hr4, _, hc7⟩ := Rds.getI (Own.rds (L := (ch3 :: L)) hO3 0 rfl) hx5
                obtain ⟨A8, c8, A9, c9, rfl, hl7, hA11, hl8, hA12⟩ := hr4
                refine O_read E (R_iaG E E E E E E ⟨(getI_lt hx5).1, lenN hn3 (getI_lt hx5).2.1⟩ hA10 ?_)
                refine ⟨Kp [] 1 E, ?_⟩
                apply P_some; exact rfl
                refine FK_2 Tt_ok (a := 9) (b := 13) (by kernel_rfl) ?_ ?_
                · refine FO_ E E (O_read E (R_loadA E E E E (Ex.mk [.slice A6 x3.plan.Tours.length c6, .slice A7 x3.plan.Left.length c7, .int .i64 x3.cost] ⟨rfl, hc6⟩ ?_)))
                  refine ⟨Kp [] 1 E, ?_⟩
                  refine P_some E (AN.run (fuel := 0) (listed' := [true, true, true, true, true, true, true, true, true, true, true, true, true, true, true, true, true, true]) Tt_ok [(false, 13), (false, 14), (false, 15), (false, 16), (false, 17)] (by kernel_rfl) (by kernel_rfl) E (PL_f E (O_read E (R_loadA E E E E (Ex.mk [.slice A8 x4.plan.Tours.length c8, .slice A9 x4.plan.Left.length c9, .int .i64 x4.cost] ⟨rfl, hc7⟩ ?_)))))
                  refine ⟨Kp [] 1 E, ?_⟩
                  refine P_some E (PL_f E ?_)
                  obtain ⟨a6, cs5, hA13, hr5, _, hc8⟩ := Rds.getI (Own.rds (L := (ch3 :: L)) hO3 0 rfl) hx5
                  obtain ⟨A10, c10, A11, c11, rfl, hl9, hA14, hl10, hA15⟩ := hr5
                  refine O_read E (R_iaG E E E E E E ⟨(getI_lt hx5).1, lenN hn3 (getI_lt hx5).2.1⟩ hA13 ?_)
                  refine ⟨Kp [] 1 E, ?_⟩
                  refine P_some E (PL_f E (O_store (vs := [.slice A6 x3.plan.Tours.length c6, .slice A7 x3.plan.Left.length c7, .int .i64 x3.cost]) E E E E E E ?_))
                  rw [← Addr.add_zero' ((a6.add (j1.toNat * 3)))]
                  refine Own.store (μ := μ) (r := r_dispatch_rated) (x' := x3) (o := 0) (sz := 3) 0 rfl hO3 hA13 hx5 rfl rfl (by rintro _ ⟨A12, c12, A13, c13, rfl, hl11, hA16, hl12, hA17⟩; exact ⟨A6, c6, A7, c7, rfl, hl5, hA8, hl6, hA9⟩) fun ch4 hO4 => ?_
                  have hn4 := hn3.trans (length_setI data3 j1 x3).symm
                  refine ⟨Kp [] 1 E, ?_⟩
                  refine P_none (PL_f E ?_)
                  obtain ⟨a7, cs6, hA18, hr6, _, hc9⟩ := Rds.getI (Own.rds (L := (ch4 :: L)) hO4 0 rfl) hx7
                  obtain ⟨A14, c14, A15, c15, rfl, hl13, hA19, hl14, hA20⟩ := hr6
                  refine O_read E (R_iaG E E E E E E ⟨(getI_lt hx7).1, lenN hn4 (getI_lt hx7).2.1⟩ hA18 ?_)
                  refine ⟨Kp [] 1 E, ?_⟩
                  refine P_some E (PL_f E (O_store (vs := [.slice A8 x4.plan.Tours.length c8, .slice A9 x4.plan.Left.length c9, .int .i64 x4.cost]) E E E E E E ?_))
                  rw [← Addr.add_zero' ((a7.add ((w64 (j1 - 1)).toNat * 3)))]
                  refine Own.store (μ := μ) (r := r_dispatch_rated) (x' := x4) (o := 0) (sz := 3) 0 rfl hO4 hA18 hx7 rfl rfl (by rintro _ ⟨A16, c16, A17, c17, rfl, hl15, hA21, hl16, hA22⟩; exact ⟨A8, c8, A9, c9, rfl, hl7, hA11, hl8, hA12⟩) fun ch5 hO5 => ?_
                  have hn5 := hn4.trans (length_setI (setI data3 j1 x3) (w64 (j1 - 1)) x4).symm
                  refine ⟨Kp [] 1 E, ?_⟩
                  refine P_none (PL_nil (AN.done0 (by kernel_rfl) ?_))
                  cases h22278
                  exact Ce E ⟨_, ch5, rfl, fE E, sE [some 0] 1 E, (hn5), (hO5), rfl⟩
                refine FO_ E E (O_read E (R_loadA E E E E (Ex.mk [.slice A8 x4.plan.Tours.length c8, .slice A9 x4.plan.Left.length c9, .int .i64 x4.cost] ⟨rfl, hc7⟩ ?_)))
                refine ⟨Kp [] 1 E, ?_⟩
                refine P_some E (AN.run (fuel := 0) (listed' := [true, true, true, true, true, true, true, true, true, true, true, true, true, true, true, true, true, true]) Tt_ok [(false, 9), (false, 14), (false, 15), (false, 16), (false, 17)] (by kernel_rfl) (by kernel_rfl) E (PL_f E (O_read E (R_loadA E E E E (Ex.mk [.slice A6 x3.plan.Tours.length c6, .slice A7 x3.plan.Left.length c7, .int .i64 x3.cost] ⟨rfl, hc6⟩ ?_)))))
                refine ⟨Kp [] 1 E, ?_⟩
                refine P_some E (PL_f E ?_)
                obtain ⟨a6, cs5, hA13, hr5, _, hc8⟩ := Rds.getI (Own.rds (L := (ch3 :: L)) hO3 0 rfl) hx5
                obtain ⟨A10, c10, A11, c11, rfl, hl9, hA14, hl10, hA15⟩ := hr5
                refine O_read E (R_iaG E E E E E E ⟨(getI_lt hx5).1, lenN hn3 (getI_lt hx5).2.1⟩ hA13 ?_)
                refine ⟨Kp [] 1 E, ?_⟩
                refine P_some E (PL_f E (O_store (vs := [.slice A6 x3.plan.Tours.length c6, .slice A7 x3.plan.Left.length c7, .int .i64 x3.cost]) E E E E E E ?_))
                rw [← Addr.add_zero' ((a6.add (j1.toNat * 3)))]
                refine Own.store (μ := μ) (r := r_dispatch_rated) (x' := x3) (o := 0) (sz := 3) 0 rfl hO3 hA13 hx5 rfl rfl (by rintro _ ⟨A12, c12, A13, c13, rfl, hl11, hA16, hl12, hA17⟩; exact ⟨A6, c6, A7, c7, rfl, hl5, hA8, hl6, hA9⟩) fun ch4 hO4 => ?_
                have hn4 := hn3.trans (length_setI data3 j1 x3).symm
                refine ⟨Kp [] 1 E, ?_⟩
                refine P_none (PL_f E ?_)
                obtain ⟨a7, cs6, hA18, hr6, _, hc9⟩ := Rds.getI (Own.rds (L := (ch4 :: L)) hO4 0 rfl) hx7
                obtain ⟨A14, c14, A15, c15, rfl, hl13, hA19, hl14, hA20⟩ := hr6
                refine O_read E (R_iaG E E E E E E ⟨(getI_lt hx7).1, lenN hn4 (getI_lt hx7).2.1⟩ hA18 ?_)
                refine ⟨Kp [] 1 E, ?_⟩
                refine P_some E (PL_f E (O_store (vs := [.slice A8 x4.plan.Tours.length c8, .slice A9 x4.plan.Left.length c9, .int .i64 x4.cost]) E E E E E E ?_))
                rw [← Addr.add_zero' ((a7.add ((w64 (j1 - 1)).toNat * 3)))]
                refine Own.store (μ := μ) (r := r_dispatch_rated) (x' := x4) (o := 0) (sz := 3) 0 rfl hO4 hA18 hx7 rfl rfl (by rintro _ ⟨A16, c16, A17, c17, rfl, hl15, hA21, hl16, hA22⟩; exact ⟨A8, c8, A9, c9, rfl, hl7, hA11, hl8, hA12⟩) fun ch5 hO5 => ?_
                have hn5 := hn4.trans (length_setI (setI data3 j1 x3) (w64 (j1 - 1)) x4).symm
                refine ⟨Kp [] 1 E, ?_⟩
                refine P_none (PL_nil (AN.done0 (by kernel_rfl) ?_))
                cases h22278
                exact Ce E ⟨_, ch5, rfl, fE E, sE [some 0] 1 E, (hn5), (hO5), rfl⟩
              obtain ⟨x3, hx4, h22278⟩ := obind h22278
              obtain ⟨x4, hx5, h22278⟩ := obind h22278
              obtain ⟨x5, hx6, h22278⟩ := obind h22278
              obtain ⟨x6, hx7, h22278⟩ := obind h22278
              apply FO_; exact rfl; exact rfl
              obtain ⟨a5, cs4, hA10, hr4, _, hc7⟩ := Rds.getI (Own.rds (L := (ch3 :: L)) hO3 0 rfl) hx5
              obtain ⟨A8, c8, A9, c9, rfl, hl7, hA11, hl8, hA12⟩ := hr4
              refine O_read E (R_iaG E E E E E E ⟨(getI_lt hx5).1, lenN hn3 (getI_lt hx5).2.1⟩ hA10 ?_)
              refine ⟨Kp [] 1 E, ?_⟩
              apply P_some; exact rfl
              refine FK_2 Tt_ok (a := 8) (b := 13) (by kernel_rfl) ?_ ?_
              · apply FO_; exact rfl; exact rfl
                obtain ⟨a4, cs3, hA7, hr3, _, hc6⟩ := Rds.getI (Own.rds (L := (ch3 :: L)) hO3 0 rfl) hx4
                obtain ⟨A6, c6, A7, c7, rfl, hl5, hA8, hl6, hA9⟩ := hr3
                refine O_read E (R_iaG E E E E E E ⟨(getI_lt hx4).1, lenN hn3 (getI_lt hx4).2.1⟩ hA7 ?_)
                refine ⟨Kp [] 1 E, ?_⟩
                apply P_some; exact rfl
                refine FK_2 Tt_ok (a := 9) (b := 13) (by kernel_rfl) ?_ ?_
                · refine FO_ E E (O_read E (R_loadA E E E E (Ex.mk [.slice A6 x3.plan.Tours.length c6, .slice A7 x3.plan.Left.length c7, .int .i64 x3.cost] ⟨rfl, hc6⟩ ?_)))
                  refine ⟨Kp [] 1 E, ?_⟩
                  refine P_some E (AN.run (fuel := 0) (listed' := [true, true, true, true, true, true, true, true, true, true, true, true, true, true, true, true, true, true]) Tt_ok [(false, 13), (false, 14), (false, 15), (false, 16), (false, 17)] (by kernel_rfl) (by kernel_rfl) E (PL_f E (O_read E (R_loadA E E E E (Ex.mk [.slice A8 x4.plan.Tours.length c8, .slice A9 x4.plan.Left.length c9, .int .i64 x4.cost] ⟨rfl, hc7⟩ ?_)))))
                  refine ⟨Kp [] 1 E, ?_⟩
                  refine P_some E (PL_f E ?_)
                  obtain ⟨a6, cs5, hA13, hr5, _, hc8⟩ := Rds.getI (Own.rds (L := (ch3 :: L)) hO3 0 rfl) hx5
                  obtain ⟨A10, c10, A11, c11, rfl, hl9, hA14, hl10, hA15⟩ := hr5
                  refine O_read E (R_iaG E E E E E E ⟨(getI_lt hx5).1, lenN hn3 (getI_lt hx5).2.1⟩ hA13 ?_)
                  refine ⟨Kp [] 1 E, ?_⟩
                  refine P_some E (PL_f E (O_store (vs := [.slice A6 x3.plan.Tours.length c6, .slice A7 x3.plan.Left.length c7, .int .i64 x3.cost]) E E E E E E ?_))
                  rw [← Addr.add_zero' ((a6.add (j1.toNat * 3)))]
                  refine Own.store (μ := μ) (r := r_dispatch_rated) (x' := x3) (o := 0) (sz := 3) 0 rfl hO3 hA13 hx5 rfl rfl (by rintro _ ⟨A12, c12, A13, c13, rfl, hl11, hA16, hl12, hA17⟩; exact ⟨A6, c6, A7, c7, rfl, hl5, hA8, hl6, hA9⟩) fun ch4 hO4 => ?_
                  have hn4 := hn3.trans (length_setI data3 j1 x3).symm
                  refine ⟨Kp [] 1 E, ?_⟩
                  refine P_none (PL_f E ?_)
                  obtain ⟨a7, cs6, hA18, hr6, _, hc9⟩ := Rds.getI (Own.rds (L := (ch4 :: L)) hO4 0 rfl) hx7
                  obtain ⟨A14, c14, A15, c15, rfl, hl13, hA19, hl14, hA20⟩ := hr6
                  refine O_read E (R_iaG E E E E E E ⟨(getI_lt hx7).1, lenN hn4 (getI_lt hx7).2.1⟩ hA18 ?_)
                  refine ⟨Kp [] 1 E, ?_⟩
                  refine P_some E (PL_f E (O_store (vs := [.slice A8 x4.plan.Tours.length c8, .slice A9 x4.plan.Left.length c9, .int .i64 x4.cost]) E E E E E E ?_))
                  rw [← Addr.add_zero' ((a7.add ((w64 (j1 - 1)).toNat * 3)))]
                  refine Own.store (μ := μ) (r := r_dispatch_rated) (x' := x4) (o := 0) (sz := 3) 0 rfl hO4 hA18 hx7 rfl rfl (by rintro _ ⟨A16, c16, A17, c17, rfl, hl15, hA21, hl16, hA22⟩; exact ⟨A8, c8, A9, c9, rfl, hl7, hA11, hl8, hA12⟩) fun ch5 hO5 => ?_
                  have hn5 := hn4.trans (length_setI (setI data3 j1 x3) (w64 (j1 - 1)) x4).symm
                  refine ⟨Kp [] 1 E, ?_⟩
                  refine P_none (PL_nil (AN.done0 (by kernel_rfl) ?_))
                  cases h22278
                  exact Ce E ⟨_, ch5, rfl, fE E, sE [some 0] 1 E, (hn5), (hO5), rfl⟩
                refine FO_ E E (O_read E (R_loadA E E E E (Ex.mk [.slice A8 x4.plan.Tours.length c8, .slice A9 x4.plan.Left.length c9, .int .i64 x4.cost] ⟨rfl, hc7⟩ ?_)))
                refine ⟨Kp [] 1 E, ?_⟩
                refine P_some E (AN.run (fuel := 0) (listed' := [true, true, true, true, true, true, true, true, true, true, true, true, true, true, true, true, true, true]) Tt_ok [(false, 9), (false, 14), (false, 15), (false, 16), (false, 17)] (by kernel_rfl) (by kernel_rfl) E (PL_f E (O_read E (R_loadA E E E E (Ex.mk [.slice A6 x3.plan.Tours.length c6, .slice A7 x3.plan.Left.length c7, .int .i64 x3.cost] ⟨rfl, hc6⟩ ?_)))))
                refine ⟨Kp [] 1 E, ?_⟩
                refine P_some E (PL_f E ?_)
                obtain ⟨a6, cs5, hA13, hr5, _, hc8⟩ := Rds.getI (Own.rds (L := (ch3 :: L)) hO3 0 rfl) hx5
                obtain ⟨A10, c10, A11, c11, rfl, hl9, hA14, hl10, hA15⟩ := hr5
                refine O_read E (R_iaG E E E E E E ⟨(getI_lt hx5).1, lenN hn3 (getI_lt hx5).2.1⟩ hA13 ?_)
                refine ⟨Kp [] 1 E, ?_⟩
                refine P_some E (PL_f E (O_store (vs := [.slice A6 x3.plan.Tours.length c6, .slice A7 x3.plan.Left.length c7, .int .i64 x3.cost]) E E E E E E ?_))
                rw [← Addr.add_zero' ((a6.add (j1.toNat * 3)))]
                refine Own.store (μ := μ) (r := r_dispatch_rated) (x' := x3) (o := 0) (sz := 3) 0 rfl hO3 hA13 hx5 rfl rfl (by rintro _ ⟨A12, c12, A13, c13, rfl, hl11, hA16, hl12, hA17⟩; exact ⟨A6, c6, A7, c7, rfl, hl5, hA8, hl6, hA9⟩) fun ch4 hO4 => ?_
                have hn4 := hn3.trans (length_setI data3 j1 x3).symm
                refine ⟨Kp [] 1 E, ?_⟩
                refine P_none (PL_f E ?_)
                obtain ⟨a7, cs6, hA18, hr6, _, hc9⟩ := Rds.getI (Own.rds (L := (ch4 :: L)) hO4 0 rfl) hx7
                obtain ⟨A14, c14, A15, c15, rfl, hl13, hA19, hl14, hA20⟩ := hr6
                refine O_read E (R_iaG E E E E E E ⟨(getI_lt hx7).1, lenN hn4 (getI_lt hx7).2.1⟩ hA18 ?_)
                refine ⟨Kp [] 1 E, ?_⟩
                refine P_some E (PL_f E (O_store (vs := [.slice A8 x4.plan.Tours.length c8, .slice A9 x4.plan.Left.length c9, .int .i64 x4.cost]) E E E E E E ?_))
                rw [← Addr.add_zero' ((a7.add ((w64 (j1 - 1)).toNat * 3)))]
                refine Own.store (μ := μ) (r := r_dispatch_rated) (x' := x4) (o := 0) (sz := 3) 0 rfl hO4 hA18 hx7 rfl rfl (by rintro _ ⟨A16, c16, A17, c17, rfl, hl15, hA21, hl16, hA22⟩; exact ⟨A8, c8, A9, c9, rfl, hl7, hA11, hl8, hA12⟩) fun ch5 hO5 => ?_
                have hn5 := hn4.trans (length_setI (setI data3 j1 x3) (w64 (j1 - 1)) x4).symm
                refine ⟨Kp [] 1 E, ?_⟩
                refine P_none (PL_nil (AN.done0 (by kernel_rfl) ?_))
                cases h22278
                exact Ce E ⟨_, ch5, rfl, fE E, sE [some 0] 1 E, (hn5), (hO5), rfl⟩
              refine FO_ E E (O_read E (R_loadA E E E E (Ex.mk [.slice A8 x4.plan.Tours.length c8, .slice A9 x4.plan.Left.length c9, .int .i64 x4.cost] ⟨rfl, hc7⟩ ?_)))
              refine ⟨Kp [] 1 E, ?_⟩
              refine P_some E (AN.run (fuel := 0) (listed' := [true, true, true, true, true, true, true, true, true, true, true, true, true, true, true, true, true, true]) Tt_ok [(false, 8), (false, 9), (false, 14), (false, 15), (false, 16), (false, 17)] (by kernel_rfl) (by kernel_rfl) E (PL_f E ?_))
              obtain ⟨a4, cs3, hA7, hr3, _, hc6⟩ := Rds.getI (Own.rds (L := (ch3 :: L)) hO3 0 rfl) hx4
              obtain ⟨A6, c6, A7, c7, rfl, hl5, hA8, hl6, hA9⟩ := hr3
              refine O_read E (R_iaG E E E E E E ⟨(getI_lt hx4).1, lenN hn3 (getI_lt hx4).2.1⟩ hA7 ?_)
              refine ⟨Kp [] 1 E, ?_⟩
              refine P_some E (PL_f E (O_read E (R_loadA E E E E (Ex.mk [.slice A6 x3.plan.Tours.length c6, .slice A7 x3.plan.Left.length c7, .int .i64 x3.cost] ⟨rfl, hc6⟩ ?_))))
              refine ⟨Kp [] 1 E, ?_⟩
              refine P_some E (PL_f E ?_)
              obtain ⟨a6, cs5, hA13, hr5, _, hc8⟩ := Rds.getI (Own.rds (L := (ch3 :: L)) hO3 0 rfl) hx5
              obtain ⟨A10, c10, A11, c11, rfl, hl9, hA14, hl10, hA15⟩ := hr5
              refine O_read E (R_iaG E E E E E E ⟨(getI_lt hx5).1, lenN hn3 (getI_lt hx5).2.1⟩ hA13 ?_)
              refine ⟨Kp [] 1 E, ?_⟩
              refine P_some E (PL_f E (O_store (vs := [.slice A6 x3.plan.Tours.length c6, .slice A7 x3.plan.Left.length c7, .int .i64 x3.cost]) E E E E E E ?_))
              rw [← Addr.add_zero' ((a6.add (j1.toNat * 3)))]
              refine Own.store (μ := μ) (r := r_dispatch_rated) (x' := x3) (o := 0) (sz := 3) 0 rfl hO3 hA13 hx5 rfl rfl (by rintro _ ⟨A12, c12, A13, c13, rfl, hl11, hA16, hl12, hA17⟩; exact ⟨A6, c6, A7, c7, rfl, hl5, hA8, hl6, hA9⟩) fun ch4 hO4 => ?_
              have hn4 := hn3.trans (length_setI data3 j1 x3).symm
              refine ⟨Kp [] 1 E, ?_⟩
              refine P_none (PL_f E ?_)
              obtain ⟨a7, cs6, hA18, hr6, _, hc9⟩ := Rds.getI (Own.rds (L := (ch4 :: L)) hO4 0 rfl) hx7
              obtain ⟨A14, c14, A15, c15, rfl, hl13, hA19, hl14, hA20⟩ := hr6
              refine O_read E (R_iaG E E E E E E ⟨(getI_lt hx7).1, lenN hn4 (getI_lt hx7).2.1⟩ hA18 ?_)
              refine ⟨Kp [] 1 E, ?_⟩
              refine P_some E (PL_f E (O_store (vs := [.slice A8 x4.plan.Tours.length c8, .slice A9 x4.plan.Left.length c9, .int .i64 x4.cost]) E E E E E E ?_))
              rw [← Addr.add_zero' ((a7.add ((w64 (j1 - 1)).toNat * 3)))]
              refine Own.store (μ := μ) (r := r_dispatch_rated) (x' := x4) (o := 0) (sz := 3) 0 rfl hO4 hA18 hx7 rfl rfl (by rintro _ ⟨A16, c16, A17, c17, rfl, hl15, hA21, hl16, hA22⟩; exact ⟨A8, c8, A9, c9, rfl, hl7, hA11, hl8, hA12⟩) fun ch5 hO5 => ?_
              have hn5 := hn4.trans (length_setI (setI data3 j1 x3) (w64 (j1 - 1)) x4).symm
              refine ⟨Kp [] 1 E, ?_⟩
              refine P_none (PL_nil (AN.done0 (by kernel_rfl) ?_))
              cases h22278
              exact Ce E ⟨_, ch5, rfl, fE E, sE [some 0] 1 E, (hn5), (hO5), rfl⟩
            rintro _ _ _ _ hb21985 _ ⟨data4, ch6, rfl, hF22278, hS22278, hn6, hO6, rfl⟩
            refine Atn 1 hF22278 hS22278 E E (G0 6 E ?_)
            cases hb21985
            exact Ce E ⟨_, rfl, ch6, fE E, sE [some 0] 1 E, (hn6), (hO6), rfl⟩
          refine G2 2 [] [34] [] E ?_
          cases hb21985
          have hq_ := hq21985 _ E
          subst hq_
          exact Ce E ⟨_, ch3, rfl, fE E, sE [some 0] 1 E, (hn3), (hO3), rfl⟩
        rintro _ _ _ _ h21337 _ ⟨data5, ch7, rfl, hF21338, hS21338, hn7, hO7, rfl⟩
        refine G0 1 E ?_
        cases h21337
        exact Ce E ⟨_, ch7, rfl, hF21338.tr E, hS21338.tr (sE [some 0] 1 E), (hn7), (hO7), rfl⟩
      rintro _ _ _ _ hb21335 _ ⟨data6, ch8, rfl, hF21337, hS21337, hn8, hO8, rfl⟩
      refine Atn 1 hF21337 hS21337 E E (G0 5 E ?_)
      cases hb21335
      exact Ce E ⟨_, rfl, ch8, fE E, sE [some 0] 1 E, (hn8), (hO8), rfl⟩
    refine G2 2 [] [14] [] E ?_
    cases hb21335
    have hq_ := hq21335 _ E
    subst hq_
    exact Ce E ⟨_, ch2, rfl, fE E, sE [some 0] 1 E, (hn2), (hO2), rfl⟩
  rintro _ _ _ _ h _ ⟨data7, ch9, rfl, hF20036, hS20036, hn9, hO9, rfl⟩
  refine Atn 1 hF20036 hS20036 E E ?_
  cases h
  exact Rt [] E E (Ug [[0]] 1 (hR _ hO9 hn9))
theorem slices_swapRangeCmpFunc_rated_c40_fn  {data1 : (List T_dispatch_rated)} {a1 : Int} {b1 : Int} {n2 : Int} {A1 : Option Addr} {c1 : Nat} {ch1 : Seg} {n1 : Nat} {res1 : (List T_dispatch_rated)}
    (hn1 : n1 = data1.length) (hO1 : Own r_dispatch_rated 82 μ (.slice A1 n1 c1) data1 ch1) (h : slices_swapRangeCmpFunc_rated_c40 data1 a1 b1 n2 = some res1)
    (hR : ∀ (sp0 : Seg), Own r_dispatch_rated 82 μ (.slice A1 n1 c1) res1 sp0 → n1 = res1.length → R (.tuple #[]) μ (sp0 :: L)) :
    Fn Tryz.prog 140 [.slice A1 n1 c1, .int .i64 a1, .int .i64 b1, .int .i64 n2, .func (.func 40) #[] #[]] μ (ch1 :: L) R := by
  unfold slices_swapRangeCmpFunc_rated_c40 at h
  subst hn1
  have hn1 : data1.length = data1.length := rfl
  refine FnS Tryz.func140 (by kernel_rfl) E Tryz.ntmps140 E E ?_
  refine G0 4 E ?_
  refine Cut h (fun f l o_ f_ μ_ l_ => ∃ (data4 : (List T_dispatch_rated)) (ch6 : Seg), data4 = o_ ∧ SubFr ([]) f_ ∧ SegSub (ch6 :: selS [] 1 l) l_ ∧ data1.length = data4.length ∧ Own r_dispatch_rated 82 μ_ (.slice A1 data1.length c1) data4 ch6 ∧ μ = μ_) ?_ ?_
  · intro _ h26614 h
    refine Lp h26614 (fun f l (j_ : (List T_dispatch_rated) × Int) f_ μ_ l_ => ounP j_ fun data2 i1 => ∃ (ch2 : Seg), SubFr ((10, .int .i64 i1) :: keepF [0, 1, 2, 3] f) f_ ∧ SegSub (ch2 :: selS [] 1 l) l_ ∧ data1.length = data2.length ∧ Own r_dispatch_rated 82 μ_ (.slice A1 data1.length c1) data2 ch2 ∧ μ = μ_) ⟨ch1, fE E, sE [some 0] 1 E, (hn1), (hO1), E⟩ ?_
    rintro ⟨data2, i1⟩ _ _ _ _ _ ⟨ch2, hF27236, hS27236, hn2, hO2, rfl⟩ hb27236 hq27236
    unfold slices_swapRangeCmpFunc_rated_c40_l1 at hb27236
    replace hb27236 := oun_mk hb27236
    refine Atn 1 hF27236 hS27236 E E (G0 7 E ?_)
    refine Br hb27236 13 E E (fun hc1 hb27236 => ?_) (fun hc1 hb27236 => ?_)
    · refine G2 4 [13] [] [] E ?_
      refine Cut hb27236 (fun f l o_ f_ μ_ l_ => ∃ (data3 : (List T_dispatch_rated)) (ch5 : Seg), data3 = o_ ∧ SubFr (keepF [0, 1, 2, 3, 10] f) f_ ∧ SegSub (ch5 :: selS [] 1 l) l_ ∧ data1.length = data3.length ∧ Own r_dispatch_rated 82 μ_ (.slice A1 data1.length c1) data3 ch5 ∧ μ = μ_) ?_ ?_
      · intro _ h27504 hb27236
        refine Cd (WP.draw (id := 3) wide (L) (Kp [] 1 E) E (AN.run (fuel := 8) (listed' := [true, true, true, true, true, true, true, true, true, true, true, true, false, false, true, true, true, true, false, false, false, false, false, false]) Tt_ok [(true, 0), (true, 1), (true, 2), (true, 3), (true, 4), (true, 5), (true, 6), (true, 7), (true, 8), (true, 9), (true, 10), (true, 11), (true, 14), (true, 15), (true, 16), (true, 17)] (by kernel_rfl) (by kernel_rfl) E (PL_t E (R_move E (Pt E E (R_move E (Pt E E (R_move E (Pt E E (R_add E E (Pt E E (R_move E (P_some E ?_)))))))))))))
        refine PL_t E (R_move E (Pt E E (R_move E (Pt E E (R_add E E (Pt E E (R_move E (Pt E E (R_move E (Pt E E (R_move E (P_some E ?_))))))))))))
        refine PL_t E (R_add E E (Pt E E (R_move E (Pt E E (R_move E (Pt E E (R_move E (Pt E E (R_add E E (P_some E (PL_nil ?_)))))))))))
        refine FK_2 Tt_ok (a := 12) (b := 18) (by kernel_rfl) ?_ ?_
        · apply FO_; exact rfl; exact rfl
          obtain ⟨x1, hx1, h27504⟩ := obind h27504
          obtain ⟨a2, cs1, hA1, hr1, _, hc2⟩ := Rds.getI (Own.rds (L := (ch2 :: L)) hO2 0 rfl) hx1
          obtain ⟨A2, c2, A3, c3, rfl, hl1, hA2, hl2, hA3⟩ := hr1
          refine O_read E (R_iaG E E E E E E ⟨(getI_lt hx1).1, lenN hn2 (getI_lt hx1).2.1⟩ hA1 ?_)
          refine ⟨Kp [] 1 E, ?_⟩
          apply P_some; exact rfl
          refine FK_2 Tt_ok (a := 13) (b := 18) (by kernel_rfl) ?_ ?_
          · refine FO_ E E (O_read E (R_loadA E E E E (Ex.mk [.slice A2 x1.plan.Tours.length c2, .slice A3 x1.plan.Left.length c3, .int .i64 x1.cost] ⟨rfl, hc2⟩ ?_)))
            refine ⟨Kp [] 1 E, ?_⟩
            refine P_some E (AN.run (fuel := 0) (listed' := [true, true, true, true, true, true, true, true, true, true, true, true, true, true, true, true, true, true, true, true, true, true, true, true]) Tt_ok [(false, 18), (false, 19), (false, 20), (false, 21), (false, 22), (false, 23)] (by kernel_rfl) (by kernel_rfl) E (PL_f E ?_))
            obtain ⟨x2, hx2, h27504⟩ := obind h27504
            obtain ⟨a3, cs2, hA4, hr2, _, hc3⟩ := Rds.getI (Own.rds (L := (ch2 :: L)) hO2 0 rfl) hx2
            obtain ⟨A4, c4, A5, c5, rfl, hl3, hA5, hl4, hA6⟩ := hr2
            refine O_read E (R_iaG E E E E E E ⟨(getI_lt hx2).1, lenN hn2 (getI_lt hx2).2.1⟩ hA4 ?_)
            refine ⟨Kp [] 1 E, ?_⟩
            refine P_some E (PL_f E (O_read E (R_loadA E E E E (Ex.mk [.slice A4 x2.plan.Tours.length c4, .slice A5 x2.plan.Left.length c5, .int .i64 x2.cost] ⟨rfl, hc3⟩ ?_))))
            refine ⟨Kp [] 1 E, ?_⟩
            refine P_some E (PL_f E ?_)
            obtain ⟨x3, hx3, h27504⟩ := obind h27504
            obtain ⟨a4, cs3, hA7, hr3, _, hc4⟩ := Rds.getI (Own.rds (L := (ch2 :: L)) hO2 0 rfl) hx3
            obtain ⟨A6, c6, A7, c7, rfl, hl5, hA8, hl6, hA9⟩ := hr3
            refine O_read E (R_iaG E E E E E E ⟨(getI_lt hx3).1, lenN hn2 (getI_lt hx3).2.1⟩ hA7 ?_)
            refine ⟨Kp [] 1 E, ?_⟩
            refine P_some E (PL_f E (O_store (vs := [.slice A2 x1.plan.Tours.length c2, .slice A3 x1.plan.Left.length c3, .int .i64 x1.cost]) E E E E E E ?_))
            rw [← Addr.add_zero' ((a4.add ((w64 (a1 + i1)).toNat * 3)))]
            refine Own.store (μ := μ) (r := r_dispatch_rated) (x' := x1) (o := 0) (sz := 3) 0 rfl hO2 hA7 hx3 rfl rfl (by rintro _ ⟨A8, c8, A9, c9, rfl, hl7, hA10, hl8, hA11⟩; exact ⟨A2, c2, A3, c3, rfl, hl1, hA2, hl2, hA3⟩) fun ch3 hO3 => ?_
            have hn3 := hn2.trans (length_setI data2 (w64 (a1 + i1)) x1).symm
            refine ⟨Kp [] 1 E, ?_⟩
            refine P_none (PL_f E ?_)
            obtain ⟨x4, hx4, h27504⟩ := obind h27504
            obtain ⟨a5, cs4, hA12, hr4, _, hc5⟩ := Rds.getI (Own.rds (L := (ch3 :: L)) hO3 0 rfl) hx4
            obtain ⟨A10, c10, A11, c11, rfl, hl9, hA13, hl10, hA14⟩ := hr4
            refine O_read E (R_iaG E E E E E E ⟨(getI_lt hx4).1, lenN hn3 (getI_lt hx4).2.1⟩ hA12 ?_)
            refine ⟨Kp [] 1 E, ?_⟩
            refine P_some E (PL_f E (O_store (vs := [.slice A4 x2.plan.Tours.length c4, .slice A5 x2.plan.Left.length c5, .int .i64 x2.cost]) E E E E E E ?_))
            rw [← Addr.add_zero' ((a5.add ((w64 (b1 + i1)).toNat * 3)))]
            refine Own.store (μ := μ) (r := r_dispatch_rated) (x' := x2) (o := 0) (sz := 3) 0 rfl hO3 hA12 hx4 rfl rfl (by rintro _ ⟨A12, c12, A13, c13, rfl, hl11, hA15, hl12, hA16⟩; exact ⟨A4, c4, A5, c5, rfl, hl3, hA5, hl4, hA6⟩) fun ch4 hO4 => ?_
            have hn4 := hn3.trans (length_setI (setI data2 (w64 (a1 + i1)) x1) (w64 (b1 + i1)) x2).symm
            refine ⟨Kp [] 1 E, ?_⟩
            refine P_none (PL_nil (AN.done0 (by kernel_rfl) ?_))
            cases h27504
            exact Ce E ⟨_, ch4, rfl, fE E, sE [some 0] 1 E, (hn4), (hO4), rfl⟩
          obtain ⟨x2, hx2, h27504⟩ := obind h27504
          obtain ⟨x3, hx3, h27504⟩ := obind h27504
          obtain ⟨x4, hx4, h27504⟩ := obind h27504
          apply FO_; exact rfl; exact rfl
          obtain ⟨a3, cs2, hA4, hr2, _, hc3⟩ := Rds.getI (Own.rds (L := (ch2 :: L)) hO2 0 rfl) hx2
          obtain ⟨A4, c4, A5, c5, rfl, hl3, hA5, hl4, hA6⟩ := hr2
          refine O_read E (R_iaG E E E E E E ⟨(getI_lt hx2).1, lenN hn2 (getI_lt hx2).2.1⟩ hA4 ?_)
          refine ⟨Kp [] 1 E, ?_⟩
          apply P_some; exact rfl
          refine FK_2 Tt_ok (a := 13) (b := 19) (by kernel_rfl) ?_ ?_
          · refine FO_ E E (O_read E (R_loadA E E E E (Ex.mk [.slice A2 x1.plan.Tours.length c2, .slice A3 x1.plan.Left.length c3, .int .i64 x1.cost] ⟨rfl, hc2⟩ ?_)))
            refine ⟨Kp [] 1 E, ?_⟩
            refine P_some E (AN.run (fuel := 0) (listed' := [true, true, true, true, true, true, true, true, true, true, true, true, true, true, true, true, true, true, true, true, true, true, true, true]) Tt_ok [(false, 19), (false, 20), (false, 21), (false, 22), (false, 23)] (by kernel_rfl) (by kernel_rfl) E (PL_f E (O_read E (R_loadA E E E E (Ex.mk [.slice A4 x2.plan.Tours.length c4, .slice A5 x2.plan.Left.length c5, .int .i64 x2.cost] ⟨rfl, hc3⟩ ?_)))))
            refine ⟨Kp [] 1 E, ?_⟩
            refine P_some E (PL_f E ?_)
            obtain ⟨a4, cs3, hA7, hr3, _, hc4⟩ := Rds.getI (Own.rds (L := (ch2 :: L)) hO2 0 rfl) hx2
            obtain ⟨A6, c6, A7, c7, rfl, hl5, hA8, hl6, hA9⟩ := hr3
            refine O_read E (R_iaG E E E E E E ⟨(getI_lt hx2).1, lenN hn2 (getI_lt hx2).2.1⟩ hA7 ?_)
            refine ⟨Kp [] 1 E, ?_⟩
            refine P_some E (PL_f E (O_store (vs := [.slice A2 x1.plan.Tours.length c2, .slice A3 x1.plan.Left.length c3, .int .i64 x1.cost]) E E E E E E ?_))
            rw [← Addr.add_zero' ((a4.add ((w64 (a1 + i1)).toNat * 3)))]
            refine Own.store (μ := μ) (r := r_dispatch_rated) (x' := x1) (o := 0) (sz := 3) 0 rfl hO2 hA7 hx2 rfl rfl (by rintro _ ⟨A8, c8, A9, c9, rfl, hl7, hA10, hl8, hA11⟩; exact ⟨A2, c2, A3, c3, rfl, hl1, hA2, hl2, hA3⟩) fun ch3 hO3 => ?_
            have hn3 := hn2.trans (length_setI data2 (w64 (a1 + i1)) x1).symm
            refine ⟨Kp [] 1 E, ?_⟩
            refine P_none (PL_f E ?_)
            obtain ⟨a5, cs4, hA12, hr4, _, hc5⟩ := Rds.getI (Own.rds (L := (ch3 :: L)) hO3 0 rfl) hx4
            obtain ⟨A10, c10, A11, c11, rfl, hl9, hA13, hl10, hA14⟩ := hr4
            refine O_read E (R_iaG E E E E E E ⟨(getI_lt hx4).1, lenN hn3 (getI_lt hx4).2.1⟩ hA12 ?_)
            refine ⟨Kp [] 1 E, ?_⟩
            refine P_some E (PL_f E (O_store (vs := [.slice A4 x2.plan.Tours.length c4, .slice A5 x2.plan.Left.length c5, .int .i64 x2.cost]) E E E E E E ?_))
            rw [← Addr.add_zero' ((a5.add ((w64 (b1 + i1)).toNat * 3)))]
            refine Own.store (μ := μ) (r := r_dispatch_rated) (x' := x2) (o := 0) (sz := 3) 0 rfl hO3 hA12 hx4 rfl rfl (by rintro _ ⟨A12, c12, A13, c13, rfl, hl11, hA15, hl12, hA16⟩; exact ⟨A4, c4, A5, c5, rfl, hl3, hA5, hl4, hA6⟩) fun ch4 hO4 => ?_
            have hn4 := hn3.trans (length_setI (setI data2 (w64 (a1 + i1)) x1) (w64 (b1 + i1)) x2).symm
            refine ⟨Kp [] 1 E, ?_⟩
            refine P_none (PL_nil (AN.done0 (by kernel_rfl) ?_))
            cases h27504
            exact Ce E ⟨_, ch4, rfl, fE E, sE [some 0] 1 E, (hn4), (hO4), rfl⟩
          refine FO_ E E (O_read E (R_loadA E E E E (Ex.mk [.slice A4 x2.plan.Tours.length c4, .slice A5 x2.plan.Left.length c5, .int .i64 x2.cost] ⟨rfl, hc3⟩ ?_)))
          refine ⟨Kp [] 1 E, ?_⟩
          refine P_some E (AN.run (fuel := 0) (listed' := [true, true, true, true, true, true, true, true, true, true, true, true, true, true, true, true, true, true, true, true, true, true, true, true]) Tt_ok [(false, 13), (false, 20), (false, 21), (false, 22), (false, 23)] (by kernel_rfl) (by kernel_rfl) E (PL_f E (O_read E (R_loadA E E E E (Ex.mk [.slice A2 x1.plan.Tours.length c2, .slice A3 x1.plan.Left.length c3, .int .i64 x1.cost] ⟨rfl, hc2⟩ ?_)))))
          refine ⟨Kp [] 1 E, ?_⟩
          refine P_some E (PL_f E ?_)
          obtain ⟨a4, cs3, hA7, hr3, _, hc4⟩ := Rds.getI (Own.rds (L := (ch2 :: L)) hO2 0 rfl) hx2
          obtain ⟨A6, c6, A7, c7, rfl, hl5, hA8, hl6, hA9⟩ := hr3
          refine O_read E (R_iaG E E E E E E ⟨(getI_lt hx2).1, lenN hn2 (getI_lt hx2).2.1⟩ hA7 ?_)
          refine ⟨Kp [] 1 E, ?_⟩
          refine P_some E (PL_f E (O_store (vs := [.slice A2 x1.plan.Tours.length c2, .slice A3 x1.plan.Left.length c3, .int .i64 x1.cost]) E E E E E E ?_))
          rw [← Addr.add_zero' ((a4.add ((w64 (a1 + i1)).toNat * 3)))]
          refine Own.store (μ := μ) (r := r_dispatch_rated) (x' := x1) (o := 0) (sz := 3) 0 rfl hO2 hA7 hx2 rfl rfl (by rintro _ ⟨A8, c8, A9, c9, rfl, hl7, hA10, hl8, hA11⟩; exact ⟨A2, c2, A3, c3, rfl, hl1, hA2, hl2, hA3⟩) fun ch3 hO3 => ?_
          have hn3 := hn2.trans (length_setI data2 (w64 (a1 + i1)) x1).symm
          refine ⟨Kp [] 1 E, ?_⟩
          refine P_none (PL_f E ?_)
          obtain ⟨a5, cs4, hA12, hr4, _, hc5⟩ := Rds.getI (Own.rds (L := (ch3 :: L)) hO3 0 rfl) hx4
          obtain ⟨A10, c10, A11, c11, rfl, hl9, hA13, hl10, hA14⟩ := hr4
          refine O_read E (R_iaG E E E E E E ⟨(getI_lt hx4).1, lenN hn3 (getI_lt hx4).2.1⟩ hA12 ?_)
          refine ⟨Kp [] 1 E, ?_⟩
          refine P_some E (PL_f E (O_store (vs := [.slice A4 x2.plan.Tours.length c4, .slice A5 x2.plan.Left.length c5, .int .i64 x2.cost]) E E E E E E ?_))
          rw [← Addr.add_zero' ((a5.add ((w64 (b1 + i1)).toNat * 3)))]
          refine Own.store (μ := μ) (r := r_dispatch_rated) (x' := x2) (o := 0) (sz := 3) 0 rfl hO3 hA12 hx4 rfl rfl (by rintro _ ⟨A12, c12, A13, c13, rfl, hl11, hA15, hl12, hA16⟩; exact ⟨A4, c4, A5, c5, rfl, hl3, hA5, hl4, hA6⟩) fun ch4 hO4 => ?_
          have hn4 := hn3.trans (length_setI (setI data2 (w64 (a1 + i1)) x1) (w64 (b1 + i1)) x2).symm
          refine ⟨Kp [] 1 E, ?_⟩
          refine P_none (PL_nil (AN.done0 (by kernel_rfl) ?_))
          cases h27504
          exact Ce E ⟨_, ch4, rfl, fE E, sE [some 0] 1 E, (hn4), (hO4), rfl⟩
        obtain ⟨x1, hx1, h27504⟩ := obind h27504
        obtain ⟨x2, hx2, h27504⟩ := obind h27504
        obtain ⟨x3, hx3, h27504⟩ := obind h27504
        obtain ⟨x4, hx4, h27504⟩ := obind h27504
        apply FO_; exact rfl; exact rfl
        obtain ⟨a3, cs2, hA4, hr2, _, hc3⟩ := Rds.getI (Own.rds (L := (ch2 :: L)) hO2 0 rfl) hx2
        obtain ⟨A4, c4, A5, c5, rfl, hl3, hA5, hl4, hA6⟩ := hr2
        refine O_read E (R_iaG E E E E E E ⟨(getI_lt hx2).1, lenN hn2 (getI_lt hx2).2.1⟩ hA4 ?_)
        refine ⟨Kp [] 1 E, ?_⟩
        apply P_some; exact rfl
        refine FK_2 Tt_ok (a := 12) (b := 19) (by kernel_rfl) ?_ ?_
        · apply FO_; exact rfl; exact rfl
          obtain ⟨a2, cs1, hA1, hr1, _, hc2⟩ := Rds.getI (Own.rds (L := (ch2 :: L)) hO2 0 rfl) hx1
          obtain ⟨A2, c2, A3, c3, rfl, hl1, hA2, hl2, hA3⟩ := hr1
          refine O_read E (R_iaG E E E E E E ⟨(getI_lt hx1).1, lenN hn2 (getI_lt hx1).2.1⟩ hA1 ?_)
          refine ⟨Kp [] 1 E, ?_⟩
          apply P_some; exact rfl
          refine FK_2 Tt_ok (a := 13) (b := 19) (by kernel_rfl) ?_ ?_
          · refine FO_ E E (O_read E (R_loadA E E E E (Ex.mk [.slice A2 x1.plan.Tours.length c2, .slice A3 x1.plan.Left.length c3, .int .i64 x1.cost] ⟨rfl, hc2⟩ ?_)))
            refine ⟨Kp [] 1 E, ?_⟩
            refine P_some E (AN.run (fuel := 0) (listed' := [true, true, true, true, true, true, true, true, true, true, true, true, true, true, true, true, true, true, true, true, true, true, true, true]) Tt_ok [(false, 19), (false, 20), (false, 21), (false, 22), (false, 23)] (by kernel_rfl) (by kernel_rfl) E (PL_f E (O_read E (R_loadA E E E E (Ex.mk [.slice A4 x2.plan.Tours.length c4, .slice A5 x2.plan.Left.length c5, .int .i64 x2.cost] ⟨rfl, hc3⟩ ?_)))))
            refine ⟨Kp [] 1 E, ?_⟩
            refine P_some E (PL_f E ?_)
            obtain ⟨a4, cs3, hA7, hr3, _, hc4⟩ := Rds.getI (Own.rds (L := (ch2 :: L)) hO2 0 rfl) hx2
            obtain ⟨A6, c6, A7, c7, rfl, hl5, hA8, hl6, hA9⟩ := hr3
            refine O_read E (R_iaG E E E E E E ⟨(getI_lt hx2).1, lenN hn2 (getI_lt hx2).2.1⟩ hA7 ?_)
            refine ⟨Kp [] 1 E, ?_⟩
            refine P_some E (PL_f E (O_store (vs := [.slice A2 x1.plan.Tours.length c2, .slice A3 x1.plan.Left.length c3, .int .i64 x1.cost]) E E E E E E ?_))
            rw [← Addr.add_zero' ((a4.add ((w64 (a1 + i1)).toNat * 3)))]
            refine Own.store (μ := μ) (r := r_dispatch_rated) (x' := x1) (o := 0) (sz := 3) 0 rfl hO2 hA7 hx2 rfl rfl (by rintro _ ⟨A8, c8, A9, c9, rfl, hl7, hA10, hl8, hA11⟩; exact ⟨A2, c2, A3, c3, rfl, hl1, hA2, hl2, hA3⟩) fun ch3 hO3 => ?_
            have hn3 := hn2.trans (length_setI data2 (w64 (a1 + i1)) x1).symm
            refine ⟨Kp [] 1 E, ?_⟩
            refine P_none (PL_f E ?_)
            obtain ⟨a5, cs4, hA12, hr4, _, hc5⟩ := Rds.getI (Own.rds (L := (ch3 :: L)) hO3 0 rfl) hx4
            obtain ⟨A10, c10, A11, c11, rfl, hl9, hA13, hl10, hA14⟩ := hr4
            refine O_read E (R_iaG E E E E E E ⟨(getI_lt hx4).1, lenN hn3 (getI_lt hx4).2.1⟩ hA12 ?_)
            refine ⟨Kp [] 1 E, ?_⟩
            refine P_some E (PL_f E (O_store (vs := [.slice A4 x2.plan.Tours.length c4, .slice A5 x2.plan.Left.length c5, .int .i64 x2.cost]) E E E E E E ?_))
            rw [← Addr.add_zero' ((a5.add ((w64 (b1 + i1)).toNat * 3)))]
            refine Own.store (μ := μ) (r := r_dispatch_rated) (x' := x2) (o := 0) (sz := 3) 0 rfl hO3 hA12 hx4 rfl rfl (by rintro _ ⟨A12, c12, A13, c13, rfl, hl11, hA15, hl12, hA16⟩; exact ⟨A4, c4, A5, c5, rfl, hl3, hA5, hl4, hA6⟩) fun ch4 hO4 => ?_
            have hn4 := hn3.trans (length_setI (setI data2 (w64 (a1 + i1)) x1) (w64 (b1 + i1)) x2).symm
            refine ⟨Kp [] 1 E, ?_⟩
            refine P_none (PL_nil (AN.done0 (by kernel_rfl) ?_))
            cases h27504
            exact Ce E ⟨_, ch4, rfl, fE E, sE [some 0] 1 E, (hn4), (hO4), rfl⟩
          refine FO_ E E (O_read E (R_loadA E E E E (Ex.mk [.slice A4 x2.plan.Tours.length c4, .slice A5 x2.plan.Left.length c5, .int .i64 x2.cost] ⟨rfl, hc3⟩ ?_)))
          refine ⟨Kp [] 1 E, ?_⟩
          refine P_some E (AN.run (fuel := 0) (listed' := [true, true, true, true, true, true, true, true, true, true, true, true, true, true, true, true, true, true, true, true, true, true, true, true]) Tt_ok [(false, 13), (false, 20), (false, 21), (false, 22), (false, 23)] (by kernel_rfl) (by kernel_rfl) E (PL_f E (O_read E (R_loadA E E E E (Ex.mk [.slice A2 x1.plan.Tours.length c2, .slice A3 x1.plan.Left.length c3, .int .i64 x1.cost] ⟨rfl, hc2⟩ ?_)))))
          refine ⟨Kp [] 1 E, ?_⟩
          refine P_some E (PL_f E ?_)
          obtain ⟨a4, cs3, hA7, hr3, _, hc4⟩ := Rds.getI (Own.rds (L := (ch2 :: L)) hO2 0 rfl) hx2
          obtain ⟨A6, c6, A7, c7, rfl, hl5, hA8, hl6, hA9⟩ := hr3
          refine O_read E (R_iaG E E E E E E ⟨(getI_lt hx2).1, lenN hn2 (getI_lt hx2).2.1⟩ hA7 ?_)
          refine ⟨Kp [] 1 E, ?_⟩
          refine P_some E (PL_f E (O_store (vs := [.slice A2 x1.plan.Tours.length c2, .slice A3 x1.plan.Left.length c3, .int .i64 x1.cost]) E E E E E E ?_))
          rw [← Addr.add_zero' ((a4.add ((w64 (a1 + i1)).toNat * 3)))]
          refine Own.store (μ := μ) (r := r_dispatch_rated) (x' := x1) (o := 0) (sz := 3) 0 rfl hO2 hA7 hx2 rfl rfl (by rintro _ ⟨A8, c8, A9, c9, rfl, hl7, hA10, hl8, hA11⟩; exact ⟨A2, c2, A3, c3, rfl, hl1, hA2, hl2, hA3⟩) fun ch3 hO3 => ?_
          have hn3 := hn2.trans (length_setI data2 (w64 (a1 + i1)) x1).symm
          refine ⟨Kp [] 1 E, ?_⟩
          refine P_none (PL_f E ?_)
          obtain ⟨a5, cs4, hA12, hr4, _, hc5⟩ := Rds.getI (Own.rds (L := (ch3 :: L)) hO3 0 rfl) hx4
          obtain ⟨A10, c10, A11, c11, rfl, hl9, hA13, hl10, hA14⟩ := hr4
          refine O_read E (R_iaG E E E E E E ⟨(getI_lt hx4).1, lenN hn3 (getI_lt hx4).2.1⟩ hA12 ?_)
          refine ⟨Kp [] 1 E, ?_⟩
          refine P_some E (PL_f E (O_store (vs := [.slice A4 x2.plan.Tours.length c4, .slice A5 x2.plan.Left.length c5, .int .i64 x2.cost]) E E E E E E ?_))
          rw [← Addr.add_zero' ((a5.add ((w64 (b1 + i1)).toNat * 3)))]
          refine Own.store (μ := μ) (r := r_dispatch_rated) (x' := x2) (o := 0) (sz := 3) 0 rfl hO3 hA12 hx4 rfl rfl (by rintro _ ⟨A12, c12, A13, c13, rfl, hl11, hA15, hl12, hA16⟩; exact ⟨A4, c4, A5, c5, rfl, hl3, hA5, hl4, hA6⟩) fun ch4 hO4 => ?_
          have hn4 := hn3.trans (length_setI (setI data2 (w64 (a1 + i1)) x1) (w64 (b1 + i1)) x2).symm
          refine ⟨Kp [] 1 E, ?_⟩
          refine P_none (PL_nil (AN.done0 (by kernel_rfl) ?_))
          cases h27504
          exact Ce E ⟨_, ch4, rfl, fE E, sE [some 0] 1 E, (hn4), (hO4), rfl⟩
        refine FO_ E E (O_read E (R_loadA E E E E (Ex.mk [.slice A4 x2.plan.Tours.length c4, .slice A5 x2.plan.Left.length c5, .int .i64 x2.cost] ⟨rfl, hc3⟩ ?_)))
        refine ⟨Kp [] 1 E, ?_⟩
        refine P_some E (AN.run (fuel := 0) (listed' := [true, true, true, true, true, true, true, true, true, true, true, true, true, true, true, true, true, true, true, true, true, true, true, true]) Tt_ok [(false, 12), (false, 13), (false, 20), (false, 21), (false, 22), (false, 23)] (by kernel_rfl) (by kernel_rfl) E (PL_f E ?_))
        obtain ⟨a2, cs1, hA1, hr1, _, hc2⟩ := Rds.getI (Own.rds (L := (ch2 :: L)) hO2 0 rfl) hx1
        obtain ⟨A2, c2, A3, c3, rfl, hl1, hA2, hl2, hA3⟩ := hr1
        refine O_read E (R_iaG E E E E E E ⟨(getI_lt hx1).1, lenN hn2 (getI_lt hx1).2.1⟩ hA1 ?_)
        refine ⟨Kp [] 1 E, ?_⟩
        refine P_some E (PL_f E (O_read E (R_loadA E E E E (Ex.mk [.slice A2 x1.plan.Tours.length c2, .slice A3 x1.plan.Left.length c3, .int .i64 x1.cost] ⟨rfl, hc2⟩ ?_))))
        refine ⟨Kp [] 1 E, ?_⟩
        refine P_some E (PL_f E ?_)
        obtain ⟨a4, cs3, hA7, hr3, _, hc4⟩ := Rds.getI (Own.rds (L := (ch2 :: L)) hO2 0 rfl) hx2
        obtain ⟨A6, c6, A7, c7, rfl, hl5, hA8, hl6, hA9⟩ := hr3
        refine O_read E (R_iaG E E E E E E ⟨(getI_lt hx2).1, lenN hn2 (getI_lt hx2).2.1⟩ hA7 ?_)
        refine ⟨Kp [] 1 E, ?_⟩
        refine P_some E (PL_f E (O_store (vs := [.slice A2 x1.plan.Tours.length c2, .slice A3 x1.plan.Left.length c3, .int .i64 x1.cost]) E E E E E E ?_))
        rw [← Addr.add_zero' ((a4.add ((w64 (a1 + i1)).toNat * 3)))]
        refine Own.store (μ := μ) (r := r_dispatch_rated) (x' := x1) (o := 0) (sz := 3) 0 rfl hO2 hA7 hx2 rfl rfl (by rintro _ ⟨A8, c8, A9, c9, rfl, hl7, hA10, hl8, hA11⟩; exact ⟨A2, c2, A3, c3, rfl, hl1, hA2, hl2, hA3⟩) fun ch3 hO3 => ?_
        have hn3 := hn2.trans (length_setI data2 (w64 (a1 + i1)) x1).symm
        refine ⟨Kp [] 1 E, ?_⟩
        refine P_none (PL_f E ?_)
        obtain ⟨a5, cs4, hA12, hr4, _, hc5⟩ := Rds.getI (Own.rds (L := (ch3 :: L)) hO3 0 rfl) hx4
        obtain ⟨A10, c10, A11, c11, rfl, hl9, hA13, hl10, hA14⟩ := hr4
        refine O_read E (R_iaG E E E E E E ⟨(getI_lt hx4).1, lenN hn3 (getI_lt hx4).2.1⟩ hA12 ?_)
        refine ⟨Kp [] 1 E, ?_⟩
        refine P_some E (PL_f E (O_store (vs := [.slice A4 x2.plan.Tours.length c4, .slice A5 x2.plan.Left.length c5, .int .i64 x2.cost]) E E E E E E ?_))
        rw [← Addr.add_zero' ((a5.add ((w64 (b1 + i1)).toNat * 3)))]
        refine Own.store (μ := μ) (r := r_dispatch_rated) (x' := x2) (o := 0) (sz := 3) 0 rfl hO3 hA12 hx4 rfl rfl (by rintro _ ⟨A12, c12, A13, c13, rfl, hl11, hA15, hl12, hA16⟩; exact ⟨A4, c4, A5, c5, rfl, hl3, hA5, hl4, hA6⟩) fun ch4 hO4 => ?_
        have hn4 := hn3.trans (length_setI (setI data2 (w64 (a1 + i1)) x1) (w64 (b1 + i1)) x2).symm
        refine ⟨Kp [] 1 E, ?_⟩
        refine P_none (PL_nil (AN.done0 (by kernel_rfl) ?_))
        cases h27504
        exact Ce E ⟨_, ch4, rfl, fE E, sE [some 0] 1 E, (hn4), (hO4), rfl⟩
      rintro _ _ _ _ hb27236 _ ⟨data3, ch5, rfl, hF27504, hS27504, hn5, hO5, rfl⟩
      refine Atn 1 hF27504 hS27504 E E (G0 6 E ?_)
      cases hb27236
      exact Ce E ⟨_, rfl, ch5, fE E, sE [some 0] 1 E, (hn5), (hO5), rfl⟩
    refine G2 2 [] [13] [] E ?_
    cases hb27236
    have hq_ := hq27236 _ E
    subst hq_
    exact Ce E ⟨_, ch2, rfl, fE E, sE [some 0] 1 E, (hn2), (hO2), rfl⟩
  rintro _ _ _ _ h _ ⟨data4, ch6, rfl, hF26614, hS26614, hn6, hO6, rfl⟩
  refine Atn 1 hF26614 hS26614 E E ?_
  cases h
  exact Rt [] E E (Ug [[0]] 1 (hR _ hO6 hn6))
theorem slices_rotateCmpFunc_rated_c40_fn {F : Nat} {data1 : (List T_dispatch_rated)} {a1 : Int} {m1 : Int} {b1 : Int} {A1 : Option Addr} {c1 : Nat} {ch1 : Seg} {n1 : Nat} {res1 : (List T_dispatch_rated)}
    (hn1 : n1 = data1.length) (hO1 : Own r_dispatch_rated 82 μ (.slice A1 n1 c1) data1 ch1) (h : slices_rotateCmpFunc_rated_c40 F data1 a1 m1 b1 = some res1)
    (hR : ∀ (sp0 : Seg), Own r_dispatch_rated 82 μ (.slice A1 n1 c1) res1 sp0 → n1 = res1.length → R (.tuple #[]) μ (sp0 :: L)) :
    Fn Tryz.prog 120 [.slice A1 n1 c1, .int .i64 a1, .int .i64 m1, .int .i64 b1, .func (.func 40) #[] #[]] μ (ch1 :: L) R := by
  unfold slices_rotateCmpFunc_rated_c40 at h
  subst hn1
  have hn1 : data1.length = data1.length := rfl
  refine FnS Tryz.func120 (by kernel_rfl) E Tryz.ntmps120 E E ?_
  refine G0 15 E ?_
  refine Cut h (fun f l o_ f_ μ_ l_ => ∃ (data3 : (List T_dispatch_rated)) (i2 : Int) (ch5 : Seg), (data3, i2) = o_ ∧ SubFr ((10, .int .i64 i2) :: keepF [0, 2, 4] f) f_ ∧ SegSub (ch5 :: selS [] 1 l) l_ ∧ data1.length = data3.length ∧ Own r_dispatch_rated 82 μ_ (.slice A1 data1.length c1) data3 ch5 ∧ μ = μ_) ?_ ?_
  · intro _ h27871 h
    refine Lp h27871 (fun f l (j_ : (List T_dispatch_rated) × Int × Int) f_ μ_ l_ => ounP j_ fun data2 j_ => ounP j_ fun i1 j1 => ∃ (ch2 : Seg), SubFr ((10, .int .i64 i1) :: (11, .int .i64 j1) :: keepF [0, 2, 4] f) f_ ∧ SegSub (ch2 :: selS [] 1 l) l_ ∧ data1.length = data2.length ∧ Own r_dispatch_rated 82 μ_ (.slice A1 data1.length c1) data2 ch2 ∧ μ = μ_) ⟨ch1, fE E, sE [some 0] 1 E, (hn1), (hO1), E⟩ ?_
    rintro ⟨data2, i1, j1⟩ _ _ _ _ _ ⟨ch2, hF27875, hS27875, hn2, hO2, rfl⟩ hb27875 hq27875
    unfold slices_rotateCmpFunc_rated_c40_l1 at hb27875
    replace hb27875 := oun_mk hb27875
    replace hb27875 := oun_mk hb27875
    refine Atn 1 hF27875 hS27875 E E (G0 7 E ?_)
    refine Br hb27875 20 E E (fun hc1 hb27875 => ?_) (fun hc1 hb27875 => ?_)
    · refine G2 9 [20] [] [] E ?_
      refine Br hb27875 23 E E (fun hc2 hb27875 => ?_) (fun hc2 hb27875 => ?_)
      · refine G2 10 [23] [] [] E (Cl E ?_)
        obtain ⟨_, hx1, hb27875⟩ := obind hb27875
        refine slices_swapRangeCmpFunc_rated_c40_fn hn2 hO2 hx1 (fun ch3 hO3 hn3 => Q0 8 E ?_)
        cases hb27875
        exact Ce E ⟨_, rfl, ch3, fE E, sE [some 0] 1 E, (hn3), (hO3), rfl⟩
      refine G2 14 [] [23] [] E (Cl E ?_)
      obtain ⟨_, hx2, hb27875⟩ := obind hb27875
      refine slices_swapRangeCmpFunc_rated_c40_fn hn2 hO2 hx2 (fun ch4 hO4 hn4 => Q0 8 E ?_)
      cases hb27875
      exact Ce E ⟨_, rfl, ch4, fE E, sE [some 0] 1 E, (hn4), (hO4), rfl⟩
    refine G2 2 [] [20] [] E ?_
    cases hb27875
    have hq_ := hq27875 _ E
    subst hq_
    exact Ce E ⟨_, _, ch2, rfl, fE E, sE [some 0] 1 E, (hn2), (hO2), rfl⟩
  rintro _ _ _ _ h _ ⟨data3, i2, ch5, rfl, hF27871, hS27871, hn5, hO5, rfl⟩
  replace h := oun_mk h
  refine Atn 1 hF27871 hS27871 E E (G0 8 E (Cl E ?_))
  obtain ⟨_, hx3, h⟩ := obind h
  refine slices_swapRangeCmpFunc_rated_c40_fn hn5 hO5 hx3 (fun _ hO6 hn6 => Q0 1 E ?_)
  cases h
  exact Rt [] E E (Ug [[0]] 1 (hR _ hO6 hn6))
theorem slices_symMergeCmpFunc_rated_c40_fn {F : Nat} {data1 : (List T_dispatch_rated)} {a1 : Int} {m1 : Int} {b1 : Int} {A1 : Option Addr} {c1 : Nat} {ch1 : Seg} {n1 : Nat} {res1 : (List T_dispatch_rated)}
    (hn1 : n1 = data1.length) (hO1 : Own r_dispatch_rated 82 μ (.slice A1 n1 c1) data1 ch1) (h : slices_symMergeCmpFunc_rated_c40 F data1 a1 m1 b1 = some res1)
    (hR : ∀ (sp0 : Seg), Own r_dispatch_rated 82 μ (.slice A1 n1 c1) res1 sp0 → n1 = res1.length → R (.tuple #[]) μ (sp0 :: L)) :
    Fn Tryz.prog 97 [.slice A1 n1 c1, .int .i64 a1, .int .i64 m1, .int .i64 b1, .func (.func 40) #[] #[]] μ (ch1 :: L) R := by
  induction F generalizing μ L R data1 a1 m1 b1 A1 c1 ch1 n1 res1 with
  | zero => cases h
  | succ F ih =>
  unfold slices_symMergeCmpFunc_rated_c40 slices_symMergeCmpFunc_rated_c40_b at h
  subst hn1
  have hn1 : data1.length = data1.length := rfl
  refine FnS Tryz.func97 (by kernel_rfl) E Tryz.ntmps97 E E ?_
  refine G0 8 E ?_
  refine Br h 28 E E (fun hc1 h => ?_) (fun hc1 h => ?_)
  · refine G2 12 [28] [] [] E ?_
    refine Cut h (fun f l o_ f_ μ_ l_ => ∃ (i2 : Int), i2 = o_ ∧ SubFr ((10, .int .i64 i2) :: keepF [0, 1] f) f_ ∧ SegSub l l_ ∧ μ = μ_) ?_ ?_
    · intro _ h30539 h
      refine Lp h30539 (fun f l (j_ : Int × Int) f_ μ_ l_ => ounP j_ fun i1 j1 => SubFr ((10, .int .i64 i1) :: (11, .int .i64 j1) :: keepF [0, 1, 4] f) f_ ∧ SegSub l l_ ∧ μ = μ_) ⟨fE E, sE [some 0] 1 E, E⟩ ?_
      rintro ⟨i1, j1⟩ _ _ _ _ _ ⟨hF30565, hS30565, rfl⟩ hb30565 hq30565
      unfold slices_symMergeCmpFunc_rated_c40_l1 at hb30565
      replace hb30565 := oun_mk hb30565
      refine Atn 1 hF30565 hS30565 E E (G0 7 E ?_)
      refine Br hb30565 33 E E (fun hc2 hb30565 => ?_) (fun hc2 hb30565 => ?_)
      · refine G2 9 [33] [] [] E (Rdo E E ?_)
        obtain ⟨_, hg1, hb30565⟩ := obind hb30565
        refine R_shrD E E E (guardO_some hg1) (Q0 4 E (Dr _ Kept.refl [(true, 0), (true, 1), (true, 2), (true, 3), (true, 4), (true, 5), (true, 6), (true, 7), (true, 8), (false, 9), (true, 10)] (by kernel_rfl) (G0 3 E (IxN hn1 hb30565 (Own.rds (L := (ch1 :: L)) hO1 0 E) E E fun _ _ _ _ hr1 hc3 _ hb30565 => ?_))))
        obtain ⟨_, _, _, _, rfl, hl1, hA2, hl2, hA3⟩ := hr1
        refine Q3 3 [] [] [64] (Z1 hc3) E (IxN hn1 hb30565 (Own.rds (L := (ch1 :: L)) hO1 0 E) E E fun _ _ _ _ hr2 hc4 _ hb30565 => ?_)
        obtain ⟨_, _, _, _, rfl, hl3, hA5, hl4, hA6⟩ := hr2
        refine Q3 1 [] [] [64] (Z1 hc4) E (Cl E ?_)
        obtain ⟨_, hx3, hb30565⟩ := obind hb30565
        refine dispatch_compare_fn hl1 hA2 hl2 hA3 hl3 hA5 hl4 hA6 hx3 (?_)
        refine ⟨Kept.refl, ?_⟩
        refine Q0 2 E ?_
        refine Br hb30565 50 E E (fun hc5 hb30565 => ?_) (fun hc5 hb30565 => ?_)
        · refine G2 7 [50] [] [] E ?_
          cases hb30565
          exact Ce E ⟨_, rfl, fE E, sE [some 0] 1 E, rfl⟩
        refine G2 6 [] [50] [] E ?_
        cases hb30565
        exact Ce E ⟨_, rfl, fE E, sE [some 0] 1 E, rfl⟩
      refine G2 2 [] [33] [] E ?_
      cases hb30565
      have hq_ := hq30565 _ E
      subst hq_
      exact Ce E ⟨_, rfl, fE E, sE [some 0] 1 E, rfl⟩
    rintro _ _ _ _ h _ ⟨i2, rfl, hF30539, hS30539, rfl⟩
    refine Atn 1 hF30539 hS30539 E E (G0 6 E ?_)
    refine Cut h (fun f l o_ f_ μ_ l_ => ∃ (data4 : (List T_dispatch_rated)) (ch6 : Seg), data4 = o_ ∧ SubFr ([]) f_ ∧ SegSub (ch6 :: selS [] 1 l) l_ ∧ data1.length = data4.length ∧ Own r_dispatch_rated 82 μ_ (.slice A1 data1.length c1) data4 ch6 ∧ μ = μ_) ?_ ?_
    · intro _ h30590 h
      refine Lp h30590 (fun f l (j_ : (List T_dispatch_rated) × Int) f_ μ_ l_ => ounP j_ fun data2 k1 => ∃ (ch2 : Seg), SubFr ((13, .int .i64 k1) :: keepF [0, 10] f) f_ ∧ SegSub (ch2 :: selS [] 1 l) l_ ∧ data1.length = data2.length ∧ Own r_dispatch_rated 82 μ_ (.slice A1 data1.length c1) data2 ch2 ∧ μ = μ_) ⟨ch1, fE E, sE [some 0] 1 E, (hn1), (hO1), E⟩ ?_
      rintro ⟨data2, k1⟩ _ _ _ _ _ ⟨ch2, hF31212, hS31212, hn2, hO2, rfl⟩ hb31212 hq31212
      unfold slices_symMergeCmpFunc_rated_c40_l2 at hb31212
      replace hb31212 := oun_mk hb31212
      refine Atn 1 hF31212 hS31212 E E (G0 8 E ?_)
      refine Br hb31212 58 E E (fun hc6 hb31212 => ?_) (fun hc6 hb31212 => ?_)
      · refine G2 4 [58] [] [] E ?_
        refine Cut hb31212 (fun f l o_ f_ μ_ l_ => ∃ (data3 : (List T_dispatch_rated)) (ch5 : Seg), data3 = o_ ∧ SubFr (keepF [0, 10, 13] f) f_ ∧ SegSub (ch5 :: selS [] 1 l) l_ ∧ data1.length = data3.length ∧ Own r_dispatch_rated 82 μ_ (.slice A1 data1.length c1) data3 ch5 ∧ μ = μ_) ?_ ?_
        · intro _ h31480 hb31212
          refine Cd (WP.draw (id := 11) wide (L) (Kp [] 1 E) E (AN.run (fuel := 8) (listed' := [true, true, true, true, true, true, true, true, false, false, true, true, false, false, false, false, false, false]) Tt_ok [(true, 0), (true, 1), (true, 2), (true, 3), (true, 4), (true, 5), (true, 6), (true, 7), (true, 10), (true, 11)] (by kernel_rfl) (by kernel_rfl) E (PL_t E (R_move E (Pt E E (R_move E (Pt E E (R_move E (Pt E E (R_move E (Pt E E (R_add E E (P_some E ?_)))))))))))))
          refine PL_t E (R_move E (Pt E E (R_move E (Pt E E (R_add E E (Pt E E (R_move E (Pt E E (R_move E (P_some E (PL_nil ?_)))))))))))
          refine FK_2 Tt_ok (a := 8) (b := 12) (by kernel_rfl) ?_ ?_
          · apply FO_; exact rfl; exact rfl
            obtain ⟨x3, hx4, h31480⟩ := obind h31480
            obtain ⟨a4, cs3, hA7, hr3, _, hc7⟩ := Rds.getI (Own.rds (L := (ch2 :: L)) hO2 0 rfl) hx4
            obtain ⟨A6, c6, A7, c7, rfl, hl5, hA8, hl6, hA9⟩ := hr3
            refine O_read E (R_iaG E E E E E E ⟨(getI_lt hx4).1, lenN hn2 (getI_lt hx4).2.1⟩ hA7 ?_)
            refine ⟨Kp [] 1 E, ?_⟩
            apply P_some; exact rfl
            refine FK_2 Tt_ok (a := 9) (b := 12) (by kernel_rfl) ?_ ?_
            · refine FO_ E E (O_read E (R_loadA E E E E (Ex.mk [.slice A6 x3.plan.Tours.length c6, .slice A7 x3.plan.Left.length c7, .int .i64 x3.cost] ⟨rfl, hc7⟩ ?_)))
              refine ⟨Kp [] 1 E, ?_⟩
              refine P_some E (AN.run (fuel := 0) (listed' := [true, true, true, true, true, true, true, true, true, true, true, true, true, true, true, true, true, true]) Tt_ok [(false, 12), (false, 13), (false, 14), (false, 15), (false, 16), (false, 17)] (by kernel_rfl) (by kernel_rfl) E (PL_f E ?_))
              obtain ⟨x4, hx5, h31480⟩ := obind h31480
              obtain ⟨a5, cs4, hA10, hr4, _, hc8⟩ := Rds.getI (Own.rds (L := (ch2 :: L)) hO2 0 rfl) hx5
              obtain ⟨A8, c8, A9, c9, rfl, hl7, hA11, hl8, hA12⟩ := hr4
              refine O_read E (R_iaG E E E E E E ⟨(getI_lt hx5).1, lenN hn2 (getI_lt hx5).2.1⟩ hA10 ?_)
              refine ⟨Kp [] 1 E, ?_⟩
              refine P_some E (PL_f E (O_read E (R_loadA E E E E (Ex.mk [.slice A8 x4.plan.Tours.length c8, .slice A9 x4.plan.Left.length c9, .int .i64 x4.cost] ⟨rfl, hc8⟩ ?_))))
              refine ⟨Kp [] 1 E, ?_⟩
              refine P_some E (PL_f E ?_)
              obtain ⟨x5, hx6, h31480⟩ := obind h31480
              obtain ⟨a6, cs5, hA13, hr5, _, hc9⟩ := Rds.getI (Own.rds (L := (ch2 :: L)) hO2 0 rfl) hx6
              obtain ⟨A10, c10, A11, c11, rfl, hl9, hA14, hl10, hA15⟩ := hr5
              refine O_read E (R_iaG E E E E E E ⟨(getI_lt hx6).1, lenN hn2 (getI_lt hx6).2.1⟩ hA13 ?_)
              refine ⟨Kp [] 1 E, ?_⟩
              refine P_some E (PL_f E (O_store (vs := [.slice A6 x3.plan.Tours.length c6, .slice A7 x3.plan.Left.length c7, .int .i64 x3.cost]) E E E E E E ?_))
              rw [← Addr.add_zero' ((a6.add (k1.toNat * 3)))]
              refine Own.store (μ := μ) (r := r_dispatch_rated) (x' := x3) (o := 0) (sz := 3) 0 rfl hO2 hA13 hx6 rfl rfl (by rintro _ ⟨A12, c12, A13, c13, rfl, hl11, hA16, hl12, hA17⟩; exact ⟨A6, c6, A7, c7, rfl, hl5, hA8, hl6, hA9⟩) fun ch3 hO3 => ?_
              have hn3 := hn2.trans (length_setI data2 k1 x3).symm
              refine ⟨Kp [] 1 E, ?_⟩
              refine P_none (PL_f E ?_)
              obtain ⟨x6, hx7, h31480⟩ := obind h31480
              obtain ⟨a7, cs6, hA18, hr6, _, hc10⟩ := Rds.getI (Own.rds (L := (ch3 :: L)) hO3 0 rfl) hx7
              obtain ⟨A14, c14, A15, c15, rfl, hl13, hA19, hl14, hA20⟩ := hr6
              refine O_read E (R_iaG E E E E E E ⟨(getI_lt hx7).1, lenN hn3 (getI_lt hx7).2.1⟩ hA18 ?_)
              refine ⟨Kp [] 1 E, ?_⟩
              refine P_some E (PL_f E (O_store (vs := [.slice A8 x4.plan.Tours.length c8, .slice A9 x4.plan.Left.length c9, .int .i64 x4.cost]) E E E E E E ?_))
              rw [← Addr.add_zero' ((a7.add ((w64 (k1 + 1)).toNat * 3)))]
              refine Own.store (μ := μ) (r := r_dispatch_rated) (x' := x4) (o := 0) (sz := 3) 0 rfl hO3 hA18 hx7 rfl rfl (by rintro _ ⟨A16, c16, A17, c17, rfl, hl15, hA21, hl16, hA22⟩; exact ⟨A8, c8, A9, c9, rfl, hl7, hA11, hl8, hA12⟩) fun ch4 hO4 => ?_
              have hn4 := hn3.trans (length_setI (setI data2 k1 x3) (w64 (k1 + 1)) x4).symm
              refine ⟨Kp [] 1 E, ?_⟩
              refine P_none (PL_nil (AN.done0 (by kernel_rfl) ?_))
              cases h31480
              exact Ce E ⟨_, ch4, rfl, fE E, sE [some 0] 1 E, (hn4), (hO4), rfl⟩
            obtain ⟨x4, hx5, h31480⟩ := obind h31480
            obtain ⟨x5, hx6, h31480⟩ := obind h31480
            obtain ⟨x6, hx7, h31480⟩ := obind h31480
            apply FO_; exact rfl; exact rfl
            obtain ⟨a5, cs4, hA10, hr4, _, hc8⟩ := Rds.getI (Own.rds (L := (ch2 :: L)) hO2 0 rfl) hx5
            obtain ⟨A8, c8, A9, c9, rfl, hl7, hA11, hl8, hA12⟩ := hr4
            refine O_read E (R_iaG E E E E E E ⟨(getI_lt hx5).1, lenN hn2 (getI_lt hx5).2.1⟩ hA10 ?_)
            refine ⟨Kp [] 1 E, ?_⟩
            apply P_some; exact rfl
            refine FK_2 Tt_ok (a := 9) (b := 13) (by kernel_rfl) ?_ ?_
            · refine FO_ E E (O_read E (R_loadA E E E E (Ex.mk [.slice A6 x3.plan.Tours.length c6, .slice A7 x3.plan.Left.length c7, .int .i64 x3.cost] ⟨rfl, hc7⟩ ?_)))
              refine ⟨Kp [] 1 E, ?_⟩
              refine P_some E (AN.run (fuel := 0) (listed' := [true, true, true, true, true, true, true, true, true, true, true, true, true, true, true, true, true, true]) Tt_ok [(false, 13), (false, 14), (false, 15), (false, 16), (false, 17)] (by kernel_rfl) (by kernel_rfl) E (PL_f E (O_read E (R_loadA E E E E (Ex.mk [.slice A8 x4.plan.Tours.length c8, .slice A9 x4.plan.Left.length c9, .int .i64 x4.cost] ⟨rfl, hc8⟩ ?_)))))
              refine ⟨Kp [] 1 E, ?_⟩
              refine P_some E (PL_f E ?_)
              obtain ⟨a6, cs5, hA13, hr5, _, hc9⟩ := Rds.getI (Own.rds (L := (ch2 :: L)) hO2 0 rfl) hx5
              obtain ⟨A10, c10, A11, c11, rfl, hl9, hA14, hl10, hA15⟩ := hr5
              refine O_read E (R_iaG E E E E E E ⟨(getI_lt hx5).1, lenN hn2 (getI_lt hx5).2.1⟩ hA13 ?_)
              refine ⟨Kp [] 1 E, ?_⟩
              refine P_some E (PL_f E (O_store (vs := [.slice A6 x3.plan.Tours.length c6, .slice A7 x3.plan.Left.length c7, .int .i64 x3.cost]) E E E E E E ?_))
              rw [← Addr.add_zero' ((a6.add (k1.toNat * 3)))]
              refine Own.store (μ := μ) (r := r_dispatch_rated) (x' := x3) (o := 0) (sz := 3) 0 rfl hO2 hA13 hx5 rfl rfl (by rintro _ ⟨A12, c12, A13, c13, rfl, hl11, hA16, hl12, hA17⟩; exact ⟨A6, c6, A7, c7, rfl, hl5, hA8, hl6, hA9⟩) fun ch3 hO3 => ?_
              have hn3 := hn2.trans (length_setI data2 k1 x3).symm
              refine ⟨Kp [] 1 E, ?_⟩
              refine P_none (PL_f E ?_)
              obtain ⟨a7, cs6, hA18, hr6, _, hc10⟩ := Rds.getI (Own.rds (L := (ch3 :: L)) hO3 0 rfl) hx7
              obtain ⟨A14, c14, A15, c15, rfl, hl13, hA19, hl14, hA20⟩ := hr6
              refine O_read E (R_iaG E E E E E E ⟨(getI_lt hx7).1, lenN hn3 (getI_lt hx7).2.1⟩ hA18 ?_)
              refine ⟨Kp [] 1 E, ?_⟩
              refine P_some E (PL_f E (O_store (vs := [.slice A8 x4.plan.Tours.length c8, .slice A9 x4.plan.Left.length c9, .int .i64 x4.cost]) E E E E E E ?_))
              rw [← Addr.add_zero' ((a7.add ((w64 (k1 + 1)).toNat * 3)))]
              refine Own.store (μ := μ) (r := r_dispatch_rated) (x' := x4) (o := 0) (sz := 3) 0 rfl hO3 hA18 hx7 rfl rfl (by rintro _ ⟨A16, c16, A17, c17, rfl, hl15, hA21, hl16, hA22⟩; exact ⟨A8, c8, A9, c9, rfl, hl7, hA11, hl8, hA12⟩) fun ch4 hO4 => ?_
              have hn4 := hn3.trans (length_setI (setI data2 k1 x3) (w64 (k1 + 1)) x4).symm
              refine ⟨Kp [] 1 E, ?_⟩
              refine P_none (PL_nil (AN.done0 (by kernel_rfl) ?_))
              cases h31480
              exact Ce E ⟨_, ch4, rfl, fE E, sE [some 0] 1 E, (hn4), (hO4), rfl⟩
            refine FO_ E E (O_read E (R_loadA E E E E (Ex.mk [.slice A8 x4.plan.Tours.length c8, .slice A9 x4.plan.Left.length c9, .int .i64 x4.cost] ⟨rfl, hc8⟩ ?_)))
            refine ⟨Kp [] 1 E, ?_⟩
            refine P_some E (AN.run (fuel := 0) (listed' := [true, true, true, true, true, true, true, true, true, true, true, true, true, true, true, true, true, true]) Tt_ok [(false, 9), (false, 14), (false, 15), (false, 16), (false, 17)] (by kernel_rfl) (by kernel_rfl) E (PL_f E (O_read E (R_loadA E E E E (Ex.mk [.slice A6 x3.plan.Tours.length c6, .slice A7 x3.plan.Left.length c7, .int .i64 x3.cost] ⟨rfl, hc7⟩ ?_)))))
            refine ⟨Kp [] 1 E, ?_⟩
            refine P_some E (PL_f E ?_)
            obtain ⟨a6, cs5, hA13, hr5, _, hc9⟩ := Rds.getI (Own.rds (L := (ch2 :: L)) hO2 0 rfl) hx5
            obtain ⟨A10, c10, A11, c11, rfl, hl9, hA14, hl10, hA15⟩ := hr5
            refine O_read E (R_iaG E E E E E E ⟨(getI_lt hx5).1, lenN hn2 (getI_lt hx5).2.1⟩ hA13 ?_)
            refine ⟨Kp [] 1 E, ?_⟩
            refine P_some E (PL_f E (O_store (vs := [.slice A6 x3.plan.Tours.length c6, .slice A7 x3.plan.Left.length c7, .int .i64 x3.cost]) E E E E E E ?_))
            rw [← Addr.add_zero' ((a6.add (k1.toNat * 3)))]
            refine Own.store (μ := μ) (r := r_dispatch_rated) (x' := x3) (o := 0) (sz := 3) 0 rfl hO2 hA13 hx5 rfl rfl (by rintro _ ⟨A12, c12, A13, c13, rfl, hl11, hA16, hl12, hA17⟩; exact ⟨A6, c6, A7, c7, rfl, hl5, hA8, hl6, hA9⟩) fun ch3 hO3 => ?_
            have hn3 := hn2.trans (length_setI data2 k1 x3).symm
            refine ⟨Kp [] 1 E, ?_⟩
            refine P_none (PL_f E ?_)
            obtain ⟨a7, cs6, hA18, hr6, _, hc10⟩ := Rds.getI (Own.rds (L := (ch3 :: L)) hO3 0 rfl) hx7
            obtain ⟨A14, c14, A15, c15, rfl, hl13, hA19, hl14, hA20⟩ := hr6
            refine O_read E (R_iaG E E E E E E ⟨(getI_lt hx7).1, lenN hn3 (getI_lt hx7).2.1⟩ hA18 ?_)
            refine ⟨Kp [] 1 E, ?_⟩
            refine P_some E (PL_f E (O_store (vs := [.slice A8 x4.plan.Tours.length c8, .slice A9 x4.plan.Left.length c9, .int .i64 x4.cost]) E E E E E E ?_))
            rw [← Addr.add_zero' ((a7.add ((w64 (k1 + 1)).toNat * 3)))]
            refine Own.store (μ := μ) (r := r_dispatch_rated) (x' := x4) (o := 0) (sz := 3) 0 rfl hO3 hA18 hx7 rfl rfl (by rintro _ ⟨A16, c16, A17, c17, rfl, hl15, hA21, hl16, hA22⟩; exact ⟨A8, c8, A9, c9, rfl, hl7, hA11, hl8, hA12⟩) fun ch4 hO4 => ?_
            have hn4 := hn3.trans (length_setI (setI data2 k1 x3) (w64 (k1 + 1)) x4).symm
            refine ⟨Kp [] 1 E, ?_⟩
            refine P_none (PL_nil (AN.done0 (by kernel_rfl) ?_))
            cases h31480
            exact Ce E ⟨_, ch4, rfl, fE E, sE [some 0] 1 E, (hn4), (hO4), rfl⟩
          obtain ⟨x3, hx4, h31480⟩ := obind h31480
          obtain ⟨x4, hx5, h31480⟩ := obind h31480
          obtain ⟨x5, hx6, h31480⟩ := obind h31480
          obtain ⟨x6, hx7, h31480⟩ := obind h31480
          apply FO_; exact rfl; exact rfl
          obtain ⟨a5, cs4, hA10, hr4, _, hc8⟩ := Rds.getI (Own.rds (L := (ch2 :: L)) hO2 0 rfl) hx5
          obtain ⟨A8, c8, A9, c9, rfl, hl7, hA11, hl8, hA12⟩ := hr4
          refine O_read E (R_iaG E E E E E E ⟨(getI_lt hx5).1, lenN hn2 (getI_lt hx5).2.1⟩ hA10 ?_)
          refine ⟨Kp [] 1 E, ?_⟩
          apply P_some; exact rfl
          refine FK_2 Tt_ok (a := 8) (b := 13) (by kernel_rfl) ?_ ?_
          · apply FO_; exact rfl; exact rfl
            obtain ⟨a4, cs3, hA7, hr3, _, hc7⟩ := Rds.getI (Own.rds (L := (ch2 :: L)) hO2 0 rfl) hx4
            obtain ⟨A6, c6, A7, c7, rfl, hl5, hA8, hl6, hA9⟩ := hr3
            refine O_read E (R_iaG E E E E E E ⟨(getI_lt hx4).1, lenN hn2 (getI_lt hx4).2.1⟩ hA7 ?_)
            refine ⟨Kp [] 1 E, ?_⟩
            apply P_some; exact rfl
            refine FK_2 Tt_ok (a := 9) (b := 13) (by kernel_rfl) ?_ ?_
            · refine FO_ E E (O_read E (R_loadA E E E E (Ex.mk [.slice A6 x3.plan.Tours.length c6, .slice A7 x3.plan.Left.length c7, .int .i64 x3.cost] ⟨rfl, hc7⟩ ?_)))
              refine ⟨Kp [] 1 E, ?_⟩
              refine P_some E (AN.run (fuel := 0) (listed' := [true, true, true, true, true, true, true, true, true, true, true, true, true, true, true, true, true, true]) Tt_ok [(false, 13), (false, 14), (false, 15), (false, 16), (false, 17)] (by kernel_rfl) (by kernel_rfl) E (PL_f E (O_read E (R_loadA E E E E (Ex.mk [.slice A8 x4.plan.Tours.length c8, .slice A9 x4.plan.Left.length c9, .int .i64 x4.cost] ⟨rfl, hc8⟩ ?_)))))
              refine ⟨Kp [] 1 E, ?_⟩
              refine P_some E (PL_f E ?_)
              obtain ⟨a6, cs5, hA13, hr5, _, hc9⟩ := Rds.getI (Own.rds (L := (ch2 :: L)) hO2 0 rfl) hx5
              obtain ⟨A10, c10, A11, c11, rfl, hl9, hA14, hl10, hA15⟩ := hr5
              refine O_read E (R_iaG E E E E E E ⟨(getI_lt hx5).1, lenN hn2 (getI_lt hx5).2.1⟩ hA13 ?_)
              refine ⟨Kp [] 1 E, ?_⟩
              refine P_some E (PL_f E (O_store (vs := [.slice A6 x3.plan.Tours.length c6, .slice A7 x3.plan.Left.length c7, .int .i64 x3.cost]) E E E E E E ?_))
              rw [← Addr.add_zero' ((a6.add (k1.toNat * 3)))]
              refine Own.store (μ := μ) (r := r_dispatch_rated) (x' := x3) (o := 0) (sz := 3) 0 rfl hO2 hA13 hx5 rfl rfl (by rintro _ ⟨A12, c12, A13, c13, rfl, hl11, hA16, hl12, hA17⟩; exact ⟨A6, c6, A7, c7, rfl, hl5, hA8, hl6, hA9⟩) fun ch3 hO3 => ?_
              have hn3 := hn2.trans (length_setI data2 k1 x3).symm
              refine ⟨Kp [] 1 E, ?_⟩
              refine P_none (PL_f E ?_)
              obtain ⟨a7, cs6, hA18, hr6, _, hc10⟩ := Rds.getI (Own.rds (L := (ch3 :: L)) hO3 0 rfl) hx7
              obtain ⟨A14, c14, A15, c15, rfl, hl13, hA19, hl14, hA20⟩ := hr6
              refine O_read E (R_iaG E E E E E E ⟨(getI_lt hx7).1, lenN hn3 (getI_lt hx7).2.1⟩ hA18 ?_)
              refine ⟨Kp [] 1 E, ?_⟩
              refine P_some E (PL_f E (O_store (vs := [.slice A8 x4.plan.Tours.length c8, .slice A9 x4.plan.Left.length c9, .int .i64 x4.cost]) E E E E E E ?_))
              rw [← Addr.add_zero' ((a7.add ((w64 (k1 + 1)).toNat * 3)))]
              refine Own.store (μ := μ) (r := r_dispatch_rated) (x' := x4) (o := 0) (sz := 3) 0 rfl hO3 hA18 hx7 rfl rfl (by rintro _ ⟨A16, c16, A17, c17, rfl, hl15, hA21, hl16, hA22⟩; exact ⟨A8, c8, A9, c9, rfl, hl7, hA11, hl8, hA12⟩) fun ch4 hO4 => ?_
              have hn4 := hn3.trans (length_setI (setI data2 k1 x3) (w64 (k1 + 1)) x4).symm
              refine ⟨Kp [] 1 E, ?_⟩
              refine P_none (PL_nil (AN.done0 (by kernel_rfl) ?_))
              cases h31480
              exact Ce E ⟨_, ch4, rfl, fE E, sE [some 0] 1 E, (hn4), (hO4), rfl⟩
            refine FO_ E E (O_read E (R_loadA E E E E (Ex.mk [.slice A8 x4.plan.Tours.length c8, .slice A9 x4.plan.Left.length c9, .int .i64 x4.cost] ⟨rfl, hc8⟩ ?_)))
            refine ⟨Kp [] 1 E, ?_⟩
            refine P_some E (AN.run (fuel := 0) (listed' := [true, true, true, true, true, true, true, true, true, true, true, true, true, true, true, true, true, true]) Tt_ok [(false, 9), (false, 14), (false, 15), (false, 16), (false, 17)] (by kernel_rfl) (by kernel_rfl) E (PL_f E (O_read E (R_loadA E E E E (Ex.mk [.slice A6 x3.plan.Tours.length c6, .slice A7 x3.plan.Left.length c7, .int .i64 x3.cost] ⟨rfl, hc7⟩ ?_)))))
            refine ⟨Kp [] 1 E, ?_⟩
            refine P_some E (PL_f E ?_)
            obtain ⟨a6, cs5, hA13, hr5, _, hc9⟩ := Rds.getI (Own.rds (L := (ch2 :: L)) hO2 0 rfl) hx5
            obtain ⟨A10, c10, A11, c11, rfl, hl9, hA14, hl10, hA15⟩ := hr5
            refine O_read E (R_iaG E E E E E E ⟨(getI_lt hx5).1, lenN hn2 (getI_lt hx5).2.1⟩ hA13 ?_)
            refine ⟨Kp [] 1 E, ?_⟩
            refine P_some E (PL_f E (O_store (vs := [.slice A6 x3.plan.Tours.length c6, .slice A7 x3.plan.Left.length c7, .int .i64 x3.cost]) E E E E E E ?_))
            rw [← Addr.add_zero' ((a6.add (k1.toNat * 3)))]
            refine Own.store (μ := μ) (r := r_dispatch_rated) (x' := x3) (o := 0) (sz := 3) 0 rfl hO2 hA13 hx5 rfl rfl (by rintro _ ⟨A12, c12, A13, c13, rfl, hl11, hA16, hl12, hA17⟩; exact ⟨A6, c6, A7, c7, rfl, hl5, hA8, hl6, hA9⟩) fun ch3 hO3 => ?_
            have hn3 := hn2.trans (length_setI data2 k1 x3).symm
            refine ⟨Kp [] 1 E, ?_⟩
            refine P_none (PL_f E ?_)
            obtain ⟨a7, cs6, hA18, hr6, _, hc10⟩ := Rds.getI (Own.rds (L := (ch3 :: L)) hO3 0 rfl) hx7
            obtain ⟨A14, c14, A15, c15, rfl, hl13, hA19, hl14, hA20⟩ := hr6
            refine O_read E (R_iaG E E E E E E ⟨(getI_lt hx7).1, lenN hn3 (getI_lt hx7).2.1⟩ hA18 ?_)
            refine ⟨Kp [] 1 E, ?_⟩
            refine P_some E (PL_f E (O_store (vs := [.slice A8 x4.plan.Tours.length c8, .slice A9 x4.plan.Left.length c9, .int .i64 x4.cost]) E E E E E E ?_))
            rw [← Addr.add_zero' ((a7.add ((w64 (k1 + 1)).toNat * 3)))]
            refine Own.store (μ := μ) (r := r_dispatch_rated) (x' := x4) (o := 0) (sz := 3) 0 rfl hO3 hA18 hx7 rfl rfl (by rintro _ ⟨A16, c16, A17, c17, rfl, hl15, hA21, hl16, hA22⟩; exact ⟨A8, c8, A9, c9, rfl, hl7, hA11, hl8, hA12⟩) fun ch4 hO4 => ?_
            have hn4 := hn3.trans (length_setI (setI data2 k1 x3) (w64 (k1 + 1)) x4).symm
            refine ⟨Kp [] 1 E, ?_⟩
            refine P_none (PL_nil (AN.done0 (by kernel_rfl) ?_))
            cases h31480
            exact Ce E ⟨_, ch4, rfl, fE E, sE [some 0] 1 E, (hn4), (hO4), rfl⟩
          refine FO_ E E (O_read E (R_loadA E E E E (Ex.mk [.slice A8 x4.plan.Tours.length c8, .slice A9 x4.plan.Left.length c9, .int .i64 x4.cost] ⟨rfl, hc8⟩ ?_)))
          refine ⟨Kp [] 1 E, ?_⟩
          refine P_some E (AN.run (fuel := 0) (listed' := [true, true, true, true, true, true, true, true, true, true, true, true, true, true, true, true, true, true]) Tt_ok [(false, 8), (false, 9), (false, 14), (false, 15), (false, 16), (false, 17)] (by kernel_rfl) (by kernel_rfl) E (PL_f E ?_))
          obtain ⟨a4, cs3, hA7, hr3, _, hc7⟩ := Rds.getI (Own.rds (L := (ch2 :: L)) hO2 0 rfl) hx4
          obtain ⟨A6, c6, A7, c7, rfl, hl5, hA8, hl6, hA9⟩ := hr3
          refine O_read E (R_iaG E E E E E E ⟨(getI_lt hx4).1, lenN hn2 (getI_lt hx4).2.1⟩ hA7 ?_)
          refine ⟨Kp [] 1 E, ?_⟩
          refine P_some E (PL_f E (O_read E (R_loadA E E E E (Ex.mk [.slice A6 x3.plan.Tours.length c6, .slice A7 x3.plan.Left.length c7, .int .i64 x3.cost] ⟨rfl, hc7⟩ ?_))))
          refine ⟨Kp [] 1 E, ?_⟩
          refine P_some E (PL_f E ?_)
          obtain ⟨a6, cs5, hA13, hr5, _, hc9⟩ := Rds.getI (Own.rds (L := (ch2 :: L)) hO2 0 rfl) hx5
          obtain ⟨A10, c10, A11, c11, rfl, hl9, hA14, hl10, hA15⟩ := hr5
          refine O_read E (R_iaG E E E E E E ⟨(getI_lt hx5).1, lenN hn2 (getI_lt hx5).2.1⟩ hA13 ?_)
          refine ⟨Kp [] 1 E, ?_⟩
          refine P_some E (PL_f E (O_store (vs := [.slice A6 x3.plan.Tours.length c6, .slice A7 x3.plan.Left.length c7, .int .i64 x3.cost]) E E E E E E ?_))
          rw [← Addr.add_zero' ((a6.add (k1.toNat * 3)))]
          refine Own.store (μ := μ) (r := r_dispatch_rated) (x' := x3) (o := 0) (sz := 3) 0 rfl hO2 hA13 hx5 rfl rfl (by rintro _ ⟨A12, c12, A13, c13, rfl, hl11, hA16, hl12, hA17⟩; exact ⟨A6, c6, A7, c7, rfl, hl5, hA8, hl6, hA9⟩) fun ch3 hO3 => ?_
          have hn3 := hn2.trans (length_setI data2 k1 x3).symm
          refine ⟨Kp [] 1 E, ?_⟩
          refine P_none (PL_f E ?_)
          obtain ⟨a7, cs6, hA18, hr6, _, hc10⟩ := Rds.getI (Own.rds (L := (ch3 :: L)) hO3 0 rfl) hx7
          obtain ⟨A14, c14, A15, c15, rfl, hl13, hA19, hl14, hA20⟩ := hr6
          refine O_read E (R_iaG E E E E E E ⟨(getI_lt hx7).1, lenN hn3 (getI_lt hx7).2.1⟩ hA18 ?_)
          refine ⟨Kp [] 1 E, ?_⟩
          refine P_some E (PL_f E (O_store (vs := [.slice A8 x4.plan.Tours.length c8, .slice A9 x4.plan.Left.length c9, .int .i64 x4.cost]) E E E E E E ?_))
          rw [← Addr.add_zero' ((a7.add ((w64 (k1 + 1)).toNat * 3)))]
          refine Own.store (μ := μ) (r := r_dispatch_rated) (x' := x4) (o := 0) (sz := 3) 0 rfl hO3 hA18 hx7 rfl rfl (by rintro _ ⟨A16, c16, A17, c17, rfl, hl15, hA21, hl16, hA22⟩; exact ⟨A8, c8, A9, c9, rfl, hl7, hA11, hl8, hA12⟩) fun ch4 hO4 => ?_
          have hn4 := hn3.trans (length_setI (setI data2 k1 x3) (w64 (k1 + 1)) x4).symm
          refine ⟨Kp [] 1 E, ?_⟩
          refine P_none (PL_nil (AN.done0 (by kernel_rfl) ?_))
          cases h31480
          exact Ce E ⟨_, ch4, rfl, fE E, sE [some 0] 1 E, (hn4), (hO4), rfl⟩
        rintro _ _ _ _ hb31212 _ ⟨data3, ch5, rfl, hF31480, hS31480, hn5, hO5, rfl⟩
        refine Atn 1 hF31480 hS31480 E E (G0 6 E ?_)
        cases hb31212
        exact Ce E ⟨_, rfl, ch5, fE E, sE [some 0] 1 E, (hn5), (hO5), rfl⟩
      refine G2 2 [] [58] [] E ?_
      cases hb31212
      have hq_ := hq31212 _ E
      subst hq_
      exact Ce E ⟨_, ch2, rfl, fE E, sE [some 0] 1 E, (hn2), (hO2), rfl⟩
    rintro _ _ _ _ h _ ⟨data4, ch6, rfl, hF30590, hS30590, hn6, hO6, rfl⟩
    refine Atn 1 hF30590 hS30590 E E ?_
    cases h
    exact Rt [] E E (Ug [[0]] 1 (hR _ hO6 hn6))
  refine G2 10 [] [28] [] E ?_
  refine Br h 80 E E (fun hc11 h => ?_) (fun hc11 h => ?_)
  · refine G2 12 [80] [] [] E ?_
    refine Cut h (fun f l o_ f_ μ_ l_ => ∃ (i4 : Int), i4 = o_ ∧ SubFr ((14, .int .i64 i4) :: keepF [0, 2] f) f_ ∧ SegSub l l_ ∧ μ = μ_) ?_ ?_
    · intro _ h31835 h
      refine Lp h31835 (fun f l (j_ : Int × Int) f_ μ_ l_ => ounP j_ fun i3 j2 => SubFr ((14, .int .i64 i3) :: (15, .int .i64 j2) :: keepF [0, 2, 4] f) f_ ∧ SegSub l l_ ∧ μ = μ_) ⟨fE E, sE [some 0] 1 E, E⟩ ?_
      rintro ⟨i3, j2⟩ _ _ _ _ _ ⟨hF31861, hS31861, rfl⟩ hb31861 hq31861
      unfold slices_symMergeCmpFunc_rated_c40_l3 at hb31861
      replace hb31861 := oun_mk hb31861
      refine Atn 1 hF31861 hS31861 E E (G0 7 E ?_)
      refine Br hb31861 85 E E (fun hc12 hb31861 => ?_) (fun hc12 hb31861 => ?_)
      · refine G2 9 [85] [] [] E (Rdo E E ?_)
        obtain ⟨_, hg2, hb31861⟩ := obind hb31861
        refine R_shrD E E E (guardO_some hg2) (Q0 4 E (Dr _ Kept.refl [(true, 0), (true, 1), (true, 2), (true, 3), (true, 4), (true, 5), (true, 6), (true, 7), (true, 8), (false, 9), (true, 10), (true, 11)] (by kernel_rfl) (G0 3 E (IxN hn1 hb31861 (Own.rds (L := (ch1 :: L)) hO1 0 E) E E fun _ _ _ _ hr7 hc13 _ hb31861 => ?_))))
        obtain ⟨_, _, _, _, rfl, hl17, hA24, hl18, hA25⟩ := hr7
        refine Q3 3 [] [] [64] (Z1 hc13) E (IxN hn1 hb31861 (Own.rds (L := (ch1 :: L)) hO1 0 E) E E fun _ _ _ _ hr8 hc14 _ hb31861 => ?_)
        obtain ⟨_, _, _, _, rfl, hl19, hA27, hl20, hA28⟩ := hr8
        refine Q3 1 [] [] [64] (Z1 hc14) E (Cl E ?_)
        obtain ⟨_, hx10, hb31861⟩ := obind hb31861
        refine dispatch_compare_fn hl17 hA24 hl18 hA25 hl19 hA27 hl20 hA28 hx10 (?_)
        refine ⟨Kept.refl, ?_⟩
        refine Q0 3 E ?_
        refine Br hb31861 103 E E (fun hc15 hb31861 => ?_) (fun hc15 hb31861 => ?_)
        · refine G2 7 [103] [] [] E ?_
          cases hb31861
          exact Ce E ⟨_, rfl, fE E, sE [some 0] 1 E, rfl⟩
        refine G2 6 [] [103] [] E ?_
        cases hb31861
        exact Ce E ⟨_, rfl, fE E, sE [some 0] 1 E, rfl⟩
      refine G2 2 [] [85] [] E ?_
      cases hb31861
      have hq_ := hq31861 _ E
      subst hq_
      exact Ce E ⟨_, rfl, fE E, sE [some 0] 1 E, rfl⟩
    rintro _ _ _ _ h _ ⟨i4, rfl, hF31835, hS31835, rfl⟩
    refine Atn 1 hF31835 hS31835 E E (G0 6 E ?_)
    refine Cut h (fun f l o_ f_ μ_ l_ => ∃ (data7 : (List T_dispatch_rated)) (ch11 : Seg), data7 = o_ ∧ SubFr ([]) f_ ∧ SegSub (ch11 :: selS [] 1 l) l_ ∧ data1.length = data7.length ∧ Own r_dispatch_rated 82 μ_ (.slice A1 data1.length c1) data7 ch11 ∧ μ = μ_) ?_ ?_
    · intro _ h31886 h
      refine Lp h31886 (fun f l (j_ : (List T_dispatch_rated) × Int) f_ μ_ l_ => ounP j_ fun data5 k2 => ∃ (ch7 : Seg), SubFr ((17, .int .i64 k2) :: keepF [0, 14] f) f_ ∧ SegSub (ch7 :: selS [] 1 l) l_ ∧ data1.length = data5.length ∧ Own r_dispatch_rated 82 μ_ (.slice A1 data1.length c1) data5 ch7 ∧ μ = μ_) ⟨ch1, fE E, sE [some 0] 1 E, (hn1), (hO1), E⟩ ?_
      rintro ⟨data5, k2⟩ _ _ _ _ _ ⟨ch7, hF32508, hS32508, hn7, hO7, rfl⟩ hb32508 hq32508
      unfold slices_symMergeCmpFunc_rated_c40_l4 at hb32508
      replace hb32508 := oun_mk hb32508
      refine Atn 1 hF32508 hS32508 E E (G0 7 E ?_)
      refine Br hb32508 110 E E (fun hc16 hb32508 => ?_) (fun hc16 hb32508 => ?_)
      · refine G2 4 [110] [] [] E ?_
        refine Cut hb32508 (fun f l o_ f_ μ_ l_ => ∃ (data6 : (List T_dispatch_rated)) (ch10 : Seg), data6 = o_ ∧ SubFr (keepF [0, 14, 17] f) f_ ∧ SegSub (ch10 :: selS [] 1 l) l_ ∧ data1.length = data6.length ∧ Own r_dispatch_rated 82 μ_ (.slice A1 data1.length c1) data6 ch10 ∧ μ = μ_) ?_ ?_
        · intro _ h32776 hb32508
          refine Cd (WP.draw (id := 23) wide (L) (Kp [] 1 E) E (AN.run (fuel := 8) (listed' := [true, true, true, true, true, true, true, true, false, false, true, true, false, false, false, false, false, false]) Tt_ok [(true, 0), (true, 1), (true, 2), (true, 3), (true, 4), (true, 5), (true, 6), (true, 7), (true, 10), (true, 11)] (by kernel_rfl) (by kernel_rfl) E (PL_t E (R_move E (Pt E E (R_move E (Pt E E (R_move E (Pt E E (R_move E (Pt E E (R_sub E E (P_some E ?_)))))))))))))
          refine PL_t E (R_move E (Pt E E (R_move E (Pt E E (R_sub E E (Pt E E (R_move E (Pt E E (R_move E (P_some E (PL_nil ?_)))))))))))
          refine FK_2 Tt_ok (a := 8) (b := 12) (by kernel_rfl) ?_ ?_
          · apply FO_; exact rfl; exact rfl
            obtain ⟨x9, hx11, h32776⟩ := obind h32776
            obtain ⟨a10, cs9, hA29, hr9, _, hc17⟩ := Rds.getI (Own.rds (L := (ch7 :: L)) hO7 0 rfl) hx11
            obtain ⟨A22, c22, A23, c23, rfl, hl21, hA30, hl22, hA31⟩ := hr9
            refine O_read E (R_iaG E E E E E E ⟨(getI_lt hx11).1, lenN hn7 (getI_lt hx11).2.1⟩ hA29 ?_)
            refine ⟨Kp [] 1 E, ?_⟩
            apply P_some; exact rfl
            refine FK_2 Tt_ok (a := 9) (b := 12) (by kernel_rfl) ?_ ?_
            · refine FO_ E E (O_read E (R_loadA E E E E (Ex.mk [.slice A22 x9.plan.Tours.length c22, .slice A23 x9.plan.Left.length c23, .int .i64 x9.cost] ⟨rfl, hc17⟩ ?_)))
              refine ⟨Kp [] 1 E, ?_⟩
              refine P_some E (AN.run (fuel := 0) (listed' := [true, true, true, true, true, true, true, true, true, true, true, true, true, true, true, true, true, true]) Tt_ok [(false, 12), (false, 13), (false, 14), (false, 15), (false, 16), (false, 17)] (by kernel_rfl) (by kernel_rfl) E (PL_f E ?_))
              obtain ⟨x10, hx12, h32776⟩ := obind h32776
              obtain ⟨a11, cs10, hA32, hr10, _, hc18⟩ := Rds.getI (Own.rds (L := (ch7 :: L)) hO7 0 rfl) hx12
              obtain ⟨A24, c24, A25, c25, rfl, hl23, hA33, hl24, hA34⟩ := hr10
              refine O_read E (R_iaG E E E E E E ⟨(getI_lt hx12).1, lenN hn7 (getI_lt hx12).2.1⟩ hA32 ?_)
              refine ⟨Kp [] 1 E, ?_⟩
              refine P_some E (PL_f E (O_read E (R_loadA E E E E (Ex.mk [.slice A24 x10.plan.Tours.length c24, .slice A25 x10.plan.Left.length c25, .int .i64 x10.cost] ⟨rfl, hc18⟩ ?_))))
              refine ⟨Kp [] 1 E, ?_⟩
              refine P_some E (PL_f E ?_)
              obtain ⟨x11, hx13, h32776⟩ := obind h32776
              obtain ⟨a12, cs11, hA35, hr11, _, hc19⟩ := Rds.getI (Own.rds (L := (ch7 :: L)) hO7 0 rfl) hx13
              obtain ⟨A26, c26, A27, c27, rfl, hl25, hA36, hl26, hA37⟩ := hr11
              refine O_read E (R_iaG E E E E E E ⟨(getI_lt hx13).1, lenN hn7 (getI_lt hx13).2.1⟩ hA35 ?_)
              refine ⟨Kp [] 1 E, ?_⟩
              refine P_some E (PL_f E (O_store (vs := [.slice A22 x9.plan.Tours.length c22, .slice A23 x9.plan.Left.length c23, .int .i64 x9.cost]) E E E E E E ?_))
              rw [← Addr.add_zero' ((a12.add (k2.toNat * 3)))]
              refine Own.store (μ := μ) (r := r_dispatch_rated) (x' := x9) (o := 0) (sz := 3) 0 rfl hO7 hA35 hx13 rfl rfl (by rintro _ ⟨A28, c28, A29, c29, rfl, hl27, hA38, hl28, hA39⟩; exact ⟨A22, c22, A23, c23, rfl, hl21, hA30, hl22, hA31⟩) fun ch8 hO8 => ?_
              have hn8 := hn7.trans (length_setI data5 k2 x9).symm
              refine ⟨Kp [] 1 E, ?_⟩
              refine P_none (PL_f E ?_)
              obtain ⟨x12, hx14, h32776⟩ := obind h32776
              obtain ⟨a13, cs12, hA40, hr12, _, hc20⟩ := Rds.getI (Own.rds (L := (ch8 :: L)) hO8 0 rfl) hx14
              obtain ⟨A30, c30, A31, c31, rfl, hl29, hA41, hl30, hA42⟩ := hr12
              refine O_read E (R_iaG E E E E E E ⟨(getI_lt hx14).1, lenN hn8 (getI_lt hx14).2.1⟩ hA40 ?_)
              refine ⟨Kp [] 1 E, ?_⟩
              refine P_some E (PL_f E (O_store (vs := [.slice A24 x10.plan.Tours.length c24, .slice A25 x10.plan.Left.length c25, .int .i64 x10.cost]) E E E E E E ?_))
              rw [← Addr.add_zero' ((a13.add ((w64 (k2 - 1)).toNat * 3)))]
              refine Own.store (μ := μ) (r := r_dispatch_rated) (x' := x10) (o := 0) (sz := 3) 0 rfl hO8 hA40 hx14 rfl rfl (by rintro _ ⟨A32, c32, A33, c33, rfl, hl31, hA43, hl32, hA44⟩; exact ⟨A24, c24, A25, c25, rfl, hl23, hA33, hl24, hA34⟩) fun ch9 hO9 => ?_
              have hn9 := hn8.trans (length_setI (setI data5 k2 x9) (w64 (k2 - 1)) x10).symm
              refine ⟨Kp [] 1 E, ?_⟩
              refine P_none (PL_nil (AN.done0 (by kernel_rfl) ?_))
              cases h32776
              exact Ce E ⟨_, ch9, rfl, fE E, sE [some 0] 1 E, (hn9), (hO9), rfl⟩
            obtain ⟨x10, hx12, h32776⟩ := obind h32776
            obtain ⟨x11, hx13, h32776⟩ := obind h32776
            obtain ⟨x12, hx14, h32776⟩ := obind h32776
            apply FO_; exact rfl; exact rfl
            obtain ⟨a11, cs10, hA32, hr10, _, hc18⟩ := Rds.getI (Own.rds (L := (ch7 :: L)) hO7 0 rfl) hx12
            obtain ⟨A24, c24, A25, c25, rfl, hl23, hA33, hl24, hA34⟩ := hr10
            refine O_read E (R_iaG E E E E E E ⟨(getI_lt hx12).1, lenN hn7 (getI_lt hx12).2.1⟩ hA32 ?_)
            refine ⟨Kp [] 1 E, ?_⟩
            apply P_some; exact rfl
            refine FK_2 Tt_ok (a := 9) (b := 13) (by kernel_rfl) ?_ ?_
            · refine FO_ E E (O_read E (R_loadA E E E E (Ex.mk [.slice A22 x9.plan.Tours.length c22, .slice A23 x9.plan.Left.length c23, .int .i64 x9.cost] ⟨rfl, hc17⟩ ?_)))
              refine ⟨Kp [] 1 E, ?_⟩
              refine P_some E (AN.run (fuel := 0) (listed' := [true, true, true, true, true, true, true, true, true, true, true, true, true, true, true, true, true, true]) Tt_ok [(false, 13), (false, 14), (false, 15), (false, 16), (false, 17)] (by kernel_rfl) (by kernel_rfl) E (PL_f E (O_read E (R_loadA E E E E (Ex.mk [.slice A24 x10.plan.Tours.length c24, .slice A25 x10.plan.Left.length c25, .int .i64 x10.cost] ⟨rfl, hc18⟩ ?_)))))
              refine ⟨Kp [] 1 E, ?_⟩
              refine P_some E (PL_f E ?_)
              obtain ⟨a12, cs11, hA35, hr11, _, hc19⟩ := Rds.getI (Own.rds (L := (ch7 :: L)) hO7 0 rfl) hx12
              obtain ⟨A26, c26, A27, c27, rfl, hl25, hA36, hl26, hA37⟩ := hr11
              refine O_read E (R_iaG E E E E E E ⟨(getI_lt hx12).1, lenN hn7 (getI_lt hx12).2.1⟩ hA35 ?_)
              refine ⟨Kp [] 1 E, ?_⟩
              refine P_some E (PL_f E (O_store (vs := [.slice A22 x9.plan.Tours.length c22, .slice A23 x9.plan.Left.length c23, .int .i64 x9.cost]) E E E E E E ?_))
              rw [← Addr.add_zero' ((a12.add (k2.toNat * 3)))]
              refine Own.store (μ := μ) (r := r_dispatch_rated) (x' := x9) (o := 0) (sz := 3) 0 rfl hO7 hA35 hx12 rfl rfl (by rintro _ ⟨A28, c28, A29, c29, rfl, hl27, hA38, hl28, hA39⟩; exact ⟨A22, c22, A23, c23, rfl, hl21, hA30, hl22, hA31⟩) fun ch8 hO8 => ?_
              have hn8 := hn7.trans (length_setI data5 k2 x9).symm
              refine ⟨Kp [] 1 E, ?_⟩
              refine P_none (PL_f E ?_)
              obtain ⟨a13, cs12, hA40, hr12, _, hc20⟩ := Rds.getI (Own.rds (L := (ch8 :: L)) hO8 0 rfl) hx14
              obtain ⟨A30, c30, A31, c31, rfl, hl29, hA41, hl30, hA42⟩ := hr12
              refine O_read E (R_iaG E E E E E E ⟨(getI_lt hx14).1, lenN hn8 (getI_lt hx14).2.1⟩ hA40 ?_)
              refine ⟨Kp [] 1 E, ?_⟩
              refine P_some E (PL_f E (O_store (vs := [.slice A24 x10.plan.Tours.length c24, .slice A25 x10.plan.Left.length c25, .int .i64 x10.cost]) E E E E E E ?_))
              rw [← Addr.add_zero' ((a13.add ((w64 (k2 - 1)).toNat * 3)))]
              refine Own.store (μ := μ) (r := r_dispatch_rated) (x' := x10) (o := 0) (sz := 3) 0 rfl hO8 hA40 hx14 rfl rfl (by rintro _ ⟨A32, c32, A33, c33, rfl, hl31, hA43, hl32, hA44⟩; exact ⟨A24, c24, A25, c25, rfl, hl23, hA33, hl24, hA34⟩) fun ch9 hO9 => ?_
              have hn9 := hn8.trans (length_setI (setI data5 k2 x9) (w64 (k2 - 1)) x10).symm
              refine ⟨Kp [] 1 E, ?_⟩
              refine P_none (PL_nil (AN.done0 (by kernel_rfl) ?_))
              cases h32776
              exact Ce E ⟨_, ch9, rfl, fE E, sE [some 0] 1 E, (hn9), (hO9), rfl⟩
            refine FO_ E E (O_read E (R_loadA E E E E (Ex.mk [.slice A24 x10.plan.Tours.length c24, .slice A25 x10.plan.Left.length c25, .int .i64 x10.cost] ⟨rfl, hc18⟩ ?_)))
            refine ⟨Kp [] 1 E, ?_⟩
            refine P_some E (AN.run (fuel := 0) (listed' := [true, true, true, true, true, true, true, true, true, true, true, true, true, true, true, true, true, true]) Tt_ok [(false, 9), (false, 14), (false, 15), (false, 16), (false, 17)] (by kernel_rfl) (by kernel_rfl) E (PL_f E (O_read E (R_loadA E E E E (Ex.mk [.slice A22 x9.plan.Tours.length c22, .slice A23 x9.plan.Left.length c23, .int .i64 x9.cost] ⟨rfl, hc17⟩ ?_)))))
            refine ⟨Kp [] 1 E, ?_⟩
            refine P_some E (PL_f E ?_)
            obtain ⟨a12, cs11, hA35, hr11, _, hc19⟩ := Rds.getI (Own.rds (L := (ch7 :: L)) hO7 0 rfl) hx12
            obtain ⟨A26, c26, A27, c27, rfl, hl25, hA36, hl26, hA37⟩ := hr11
            refine O_read E (R_iaG E E E E E E ⟨(getI_lt hx12).1, lenN hn7 (getI_lt hx12).2.1⟩ hA35 ?_)
            refine ⟨Kp [] 1 E, ?_⟩
            refine P_some E (PL_f E (O_store (vs := [.slice A22 x9.plan.Tours.length c22, .slice A23 x9.plan.Left.length c23, .int .i64 x9.cost]) E E E E E E ?_))
            rw [← Addr.add_zero' ((a12.add (k2.toNat * 3)))]
            refine Own.store (μ := μ) (r := r_dispatch_rated) (x' := x9) (o := 0) (sz := 3) 0 rfl hO7 hA35 hx12 rfl rfl (by rintro _ ⟨A28, c28, A29, c29, rfl, hl27, hA38, hl28, hA39⟩; exact ⟨A22, c22, A23, c23, rfl, hl21, hA30, hl22, hA31⟩) fun ch8 hO8 => ?_
            have hn8 := hn7.trans (length_setI data5 k2 x9).symm
            refine ⟨Kp [] 1 E, ?_⟩
            refine P_none (PL_f E ?_)
            obtain ⟨a13, cs12, hA40, hr12, _, hc20⟩ := Rds.getI (Own.rds (L := (ch8 :: L)) hO8 0 rfl) hx14
            obtain ⟨A30, c30, A31, c31, rfl, hl29, hA41, hl30, hA42⟩ := hr12
            refine O_read E (R_iaG E E E E E E ⟨(getI_lt hx14).1, lenN hn8 (getI_lt hx14).2.1⟩ hA40 ?_)
            refine ⟨Kp [] 1 E, ?_⟩
            refine P_some E (PL_f E (O_store (vs := [.slice A24 x10.plan.Tours.length c24, .slice A25 x10.plan.Left.length c25, .int .i64 x10.cost]) E E E E E E ?_))
            rw [← Addr.add_zero' ((a13.add ((w64 (k2 - 1)).toNat * 3)))]
            refine Own.store (μ := μ) (r := r_dispatch_rated) (x' := x10) (o := 0) (sz := 3) 0 rfl hO8 hA40 hx14 rfl rfl (by rintro _ ⟨A32, c32, A33, c33, rfl, hl31, hA43, hl32, hA44⟩; exact ⟨A24, c24, A25, c25, rfl, hl23, hA33, hl24, hA34⟩) fun ch9 hO9 => ?_
            have hn9 := hn8.trans (length_setI (setI data5 k2 x9) (w64 (k2 - 1)) x10).symm
            refine ⟨Kp [] 1 E, ?_⟩
            refine P_none (PL_nil (AN.done0 (by kernel_rfl) ?_))
            cases h32776
            exact Ce E ⟨_, ch9, rfl, fE E, sE [some 0] 1 E, (hn9), (hO9), rfl⟩
          obtain ⟨x9, hx11, h32776⟩ := obind h32776
          obtain ⟨x10, hx12, h32776⟩ := obind h32776
          obtain ⟨x11, hx13, h32776⟩ := obind h32776
          obtain ⟨x12, hx14, h32776⟩ := obind h32776
          apply FO_; exact rfl; exact rfl
          obtain ⟨a11, cs10, hA32, hr10, _, hc18⟩ := Rds.getI (Own.rds (L := (ch7 :: L)) hO7 0 rfl) hx12
          obtain ⟨A24, c24, A25, c25, rfl, hl23, hA33, hl24, hA34⟩ := hr10
          refine O_read E (R_iaG E E E E E E ⟨(getI_lt hx12).1, lenN hn7 (getI_lt hx12).2.1⟩ hA32 ?_)
          refine ⟨Kp [] 1 E, ?_⟩
          apply P_some; exact rfl
          refine FK_2 Tt_ok (a := 8) (b := 13) (by kernel_rfl) ?_ ?_
          · apply FO_; exact rfl; exact rfl
            obtain ⟨a10, cs9, hA29, hr9, _, hc17⟩ := Rds.getI (Own.rds (L := (ch7 :: L)) hO7 0 rfl) hx11
            obtain ⟨A22, c22, A23, c23, rfl, hl21, hA30, hl22, hA31⟩ := hr9
            refine O_read E (R_iaG E E E E E E ⟨(getI_lt hx11).1, lenN hn7 (getI_lt hx11).2.1⟩ hA29 ?_)
            refine ⟨Kp [] 1 E, ?_⟩
            apply P_some; exact rfl
            refine FK_2 Tt_ok (a := 9) (b := 13) (by kernel_rfl) ?_ ?_
            · refine FO_ E E (O_read E (R_loadA E E E E (Ex.mk [.slice A22 x9.plan.Tours.length c22, .slice A23 x9.plan.Left.length c23, .int .i64 x9.cost] ⟨rfl, hc17⟩ ?_)))
              refine ⟨Kp [] 1 E, ?_⟩
              refine P_some E (AN.run (fuel := 0) (listed' := [true, true, true, true, true, true, true, true, true, true, true, true, true, true, true, true, true, true]) Tt_ok [(false, 13), (false, 14), (false, 15), (false, 16), (false, 17)] (by kernel_rfl) (by kernel_rfl) E (PL_f E (O_read E (R_loadA E E E E (Ex.mk [.slice A24 x10.plan.Tours.length c24, .slice A25 x10.plan.Left.length c25, .int .i64 x10.cost] ⟨rfl, hc18⟩ ?_)))))
              refine ⟨Kp [] 1 E, ?_⟩
              refine P_some E (PL_f E ?_)
              obtain ⟨a12, cs11, hA35, hr11, _, hc19⟩ := Rds.getI (Own.rds (L := (ch7 :: L)) hO7 0 rfl) hx12
              obtain ⟨A26, c26, A27, c27, rfl, hl25, hA36, hl26, hA37⟩ := hr11
              refine O_read E (R_iaG E E E E E E ⟨(getI_lt hx12).1, lenN hn7 (getI_lt hx12).2.1⟩ hA35 ?_)
              refine ⟨Kp [] 1 E, ?_⟩
              refine P_some E (PL_f E (O_store (vs := [.slice A22 x9.plan.Tours.length c22, .slice A23 x9.plan.Left.length c23, .int .i64 x9.cost]) E E E E E E ?_))
              rw [← Addr.add_zero' ((a12.add (k2.toNat * 3)))]
              refine Own.store (μ := μ) (r := r_dispatch_rated) (x' := x9) (o := 0) (sz := 3) 0 rfl hO7 hA35 hx12 rfl rfl (by rintro _ ⟨A28, c28, A29, c29, rfl, hl27, hA38, hl28, hA39⟩; exact ⟨A22, c22, A23, c23, rfl, hl21, hA30, hl22, hA31⟩) fun ch8 hO8 => ?_
              have hn8 := hn7.trans (length_setI data5 k2 x9).symm
              refine ⟨Kp [] 1 E, ?_⟩
              refine P_none (PL_f E ?_)
              obtain ⟨a13, cs12, hA40, hr12, _, hc20⟩ := Rds.getI (Own.rds (L := (ch8 :: L)) hO8 0 rfl) hx14
              obtain ⟨A30, c30, A31, c31, rfl, hl29, hA41, hl30, hA42⟩ := hr12
              refine O_read E (R_iaG E E E E E E ⟨(getI_lt hx14).1, lenN hn8 (getI_lt hx14).2.1⟩ hA40 ?_)
              refine ⟨Kp [] 1 E, ?_⟩
              refine P_some E (PL_f E (O_store (vs := [.slice A24 x10.plan.Tours.length c24, .slice A25 x10.plan.Left.length c25, .int .i64 x10.cost]) E E E E E E ?_))
              rw [← Addr.add_zero' ((a13.add ((w64 (k2 - 1)).toNat * 3)))]
              refine Own.store (μ := μ) (r := r_dispatch_rated) (x' := x10) (o := 0) (sz := 3) 0 rfl hO8 hA40 hx14 rfl rfl (by rintro _ ⟨A32, c32, A33, c33, rfl, hl31, hA43, hl32, hA44⟩; exact ⟨A24, c24, A25, c25, rfl, hl23, hA33, hl24, hA34⟩) fun ch9 hO9 => ?_
              have hn9 := hn8.trans (length_setI (setI data5 k2 x9) (w64 (k2 - 1)) x10).symm
              refine ⟨Kp [] 1 E, ?_⟩
              refine P_none (PL_nil (AN.done0 (by kernel_rfl) ?_))
              cases h32776
              exact Ce E ⟨_, ch9, rfl, fE E, sE [some 0] 1 E, (hn9), (hO9), rfl⟩
            refine FO_ E E (O_read E (R_loadA E E E E (Ex.mk [.slice A24 x10.plan.Tours.length c24, .slice A25 x10.plan.Left.length c25, .int .i64 x10.cost] ⟨rfl, hc18⟩ ?_)))
            refine ⟨Kp [] 1 E, ?_⟩
            refine P_some E (AN.run (fuel := 0) (listed' := [true, true, true, true, true, true, true, true, true, true, true, true, true, true, true, true, true, true]) Tt_ok [(false, 9), (false, 14), (false, 15), (false, 16), (false, 17)] (by kernel_rfl) (by kernel_rfl) E (PL_f E (O_read E (R_loadA E E E E (Ex.mk [.slice A22 x9.plan.Tours.length c22, .slice A23 x9.plan.Left.length c23, .int .i64 x9.cost] ⟨rfl, hc17⟩ ?_)))))
            refine ⟨Kp [] 1 E, ?_⟩
            refine P_some E (PL_f E ?_)
            obtain ⟨a12, cs11, hA35, hr11, _, hc19⟩ := Rds.getI (Own.rds (L := (ch7 :: L)) hO7 0 rfl) hx12
            obtain ⟨A26, c26, A27, c27, rfl, hl25, hA36, hl26, hA37⟩ := hr11
            refine O_read E (R_iaG E E E E E E ⟨(getI_lt hx12).1, lenN hn7 (getI_lt hx12).2.1⟩ hA35 ?_)
            refine ⟨Kp [] 1 E, ?_⟩
            refine P_some E (PL_f E (O_store (vs := [.slice A22 x9.plan.Tours.length c22, .slice A23 x9.plan.Left.length c23, .int .i64 x9.cost]) E E E E E E ?_))
            rw [← Addr.add_zero' ((a12.add (k2.toNat * 3)))]
            refine Own.store (μ := μ) (r := r_dispatch_rated) (x' := x9) (o := 0) (sz := 3) 0 rfl hO7 hA35 hx12 rfl rfl (by rintro _ ⟨A28, c28, A29, c29, rfl, hl27, hA38, hl28, hA39⟩; exact ⟨A22, c22, A23, c23, rfl, hl21, hA30, hl22, hA31⟩) fun ch8 hO8 => ?_
            have hn8 := hn7.trans (length_setI data5 k2 x9).symm
            refine ⟨Kp [] 1 E, ?_⟩
            refine P_none (PL_f E ?_)
            obtain ⟨a13, cs12, hA40, hr12, _, hc20⟩ := Rds.getI (Own.rds (L := (ch8 :: L)) hO8 0 rfl) hx14
            obtain ⟨A30, c30, A31, c31, rfl, hl29, hA41, hl30, hA42⟩ := hr12
            refine O_read E (R_iaG E E E E E E ⟨(getI_lt hx14).1, lenN hn8 (getI_lt hx14).2.1⟩ hA40 ?_)
            refine ⟨Kp [] 1 E, ?_⟩
            refine P_some E (PL_f E (O_store (vs := [.slice A24 x10.plan.Tours.length c24, .slice A25 x10.plan.Left.length c25, .int .i64 x10.cost]) E E E E E E ?_))
            rw [← Addr.add_zero' ((a13.add ((w64 (k2 - 1)).toNat * 3)))]
            refine Own.store (μ := μ) (r := r_dispatch_rated) (x' := x10) (o := 0) (sz := 3) 0 rfl hO8 hA40 hx14 rfl rfl (by rintro _ ⟨A32, c32, A33, c33, rfl, hl31, hA43, hl32, hA44⟩; exact ⟨A24, c24, A25, c25, rfl, hl23, hA33, hl24, hA34⟩) fun ch9 hO9 => ?_
            have hn9 := hn8.trans (length_setI (setI data5 k2 x9) (w64 (k2 - 1)) x10).symm
            refine ⟨Kp [] 1 E, ?_⟩
            refine P_none (PL_nil (AN.done0 (by kernel_rfl) ?_))
            cases h32776
            exact Ce E ⟨_, ch9, rfl, fE E, sE [some 0] 1 E, (hn9), (hO9), rfl⟩
          refine FO_ E E (O_read E (R_loadA E E E E (Ex.mk [.slice A24 x10.plan.Tours.length c24, .slice A25 x10.plan.Left.length c25, .int .i64 x10.cost] ⟨rfl, hc18⟩ ?_)))
          refine ⟨Kp [] 1 E, ?_⟩
          refine P_some E (AN.run (fuel := 0) (listed' := [true, true, true, true, true, true, true, true, true, true, true, true, true, true, true, true, true, true]) Tt_ok [(false, 8), (false, 9), (false, 14), (false, 15), (false, 16), (false, 17)] (by kernel_rfl) (by kernel_rfl) E (PL_f E ?_))
          obtain ⟨a10, cs9, hA29, hr9, _, hc17⟩ := Rds.getI (Own.rds (L := (ch7 :: L)) hO7 0 rfl) hx11
          obtain ⟨A22, c22, A23, c23, rfl, hl21, hA30, hl22, hA31⟩ := hr9
          refine O_read E (R_iaG E E E E E E ⟨(getI_lt hx11).1, lenN hn7 (getI_lt hx11).2.1⟩ hA29 ?_)
          refine ⟨Kp [] 1 E, ?_⟩
          refine P_some E (PL_f E (O_read E (R_loadA E E E E (Ex.mk [.slice A22 x9.plan.Tours.length c22, .slice A23 x9.plan.Left.length c23, .int .i64 x9.cost] ⟨rfl, hc17⟩ ?_))))
          refine ⟨Kp [] 1 E, ?_⟩
          refine P_some E (PL_f E ?_)
          obtain ⟨a12, cs11, hA35, hr11, _, hc19⟩ := Rds.getI (Own.rds (L := (ch7 :: L)) hO7 0 rfl) hx12
          obtain ⟨A26, c26, A27, c27, rfl, hl25, hA36, hl26, hA37⟩ := hr11
          refine O_read E (R_iaG E E E E E E ⟨(getI_lt hx12).1, lenN hn7 (getI_lt hx12).2.1⟩ hA35 ?_)
          refine ⟨Kp [] 1 E, ?_⟩
          refine P_some E (PL_f E (O_store (vs := [.slice A22 x9.plan.Tours.length c22, .slice A23 x9.plan.Left.length c23, .int .i64 x9.cost]) E E E E E E ?_))
          rw [← Addr.add_zero' ((a12.add (k2.toNat * 3)))]
          refine Own.store (μ := μ) (r := r_dispatch_rated) (x' := x9) (o := 0) (sz := 3) 0 rfl hO7 hA35 hx12 rfl rfl (by rintro _ ⟨A28, c28, A29, c29, rfl, hl27, hA38, hl28, hA39⟩; exact ⟨A22, c22, A23, c23, rfl, hl21, hA30, hl22, hA31⟩) fun ch8 hO8 => ?_
          have hn8 := hn7.trans (length_setI data5 k2 x9).symm
          refine ⟨Kp [] 1 E, ?_⟩
          refine P_none (PL_f E ?_)
          obtain ⟨a13, cs12, hA40, hr12, _, hc20⟩ := Rds.getI (Own.rds (L := (ch8 :: L)) hO8 0 rfl) hx14
          obtain ⟨A30, c30, A31, c31, rfl, hl29, hA41, hl30, hA42⟩ := hr12
          refine O_read E (R_iaG E E E E E E ⟨(getI_lt hx14).1, lenN hn8 (getI_lt hx14).2.1⟩ hA40 ?_)
          refine ⟨Kp [] 1 E, ?_⟩
          refine P_some E (PL_f E (O_store (vs := [.slice A24 x10.plan.Tours.length c24, .slice A25 x10.plan.Left.length c25, .int .i64 x10.cost]) E E E E E E ?_))
          rw [← Addr.add_zero' ((a13.add ((w64 (k2 - 1)).toNat * 3)))]
          refine Own.store (μ := μ) (r := r_dispatch_rated) (x' := x10) (o := 0) (sz := 3) 0 rfl hO8 hA40 hx14 rfl rfl (by rintro _ ⟨A32, c32, A33, c33, rfl, hl31, hA43, hl32, hA44⟩; exact ⟨A24, c24, A25, c25, rfl, hl23, hA33, hl24, hA34⟩) fun ch9 hO9 => ?_
          have hn9 := hn8.trans (length_setI (setI data5 k2 x9) (w64 (k2 - 1)) x10).symm
          refine ⟨Kp [] 1 E, ?_⟩
          refine P_none (PL_nil (AN.done0 (by kernel_rfl) ?_))
          cases h32776
          exact Ce E ⟨_, ch9, rfl, fE E, sE [some 0] 1 E, (hn9), (hO9), rfl⟩
        rintro _ _ _ _ hb32508 _ ⟨data6, ch10, rfl, hF32776, hS32776, hn10, hO10, rfl⟩
        refine Atn 1 hF32776 hS32776 E E (G0 6 E ?_)
        cases hb32508
        exact Ce E ⟨_, rfl, ch10, fE E, sE [some 0] 1 E, (hn10), (hO10), rfl⟩
      refine G2 2 [] [110] [] E ?_
      cases hb32508
      have hq_ := hq32508 _ E
      subst hq_
      exact Ce E ⟨_, ch7, rfl, fE E, sE [some 0] 1 E, (hn7), (hO7), rfl⟩
    rintro _ _ _ _ h _ ⟨data7, ch11, rfl, hF31886, hS31886, hn11, hO11, rfl⟩
    refine Atn 1 hF31886 hS31886 E E ?_
    cases h
    exact Rt [] E E (Ug [[0]] 1 (hR _ hO11 hn11))
  refine G2 8 [] [80] [] E (Rdo E E ?_)
  obtain ⟨_, hg3, h⟩ := obind h
  refine R_shrD E E E (guardO_some hg3) (Q0 22 E ?_)
  refine Cut h (fun f l o_ f_ μ_ l_ => ∃ (mid1 : Int) (n2 : Int) (start1 : Int) (r3 : Int), (mid1, n2, start1, r3) = o_ ∧ SubFr ((18, .int .i64 mid1) :: (19, .int .i64 n2) :: (20, .int .i64 start1) :: (21, .int .i64 r3) :: keepF [0, 1, 2, 3, 4] f) f_ ∧ SegSub l l_ ∧ μ = μ_) ?_ ?_
  · intro _ h33131 h
    refine Br h33131 140 E E (fun hc21 h33131 => ?_) (fun hc21 h33131 => ?_)
    · refine G2 12 [140] [] [] E ?_
      cases h33131
      exact Ce E ⟨_, _, _, _, rfl, fE E, sE [some 0] 1 E, rfl⟩
    refine G2 10 [] [140] [] E ?_
    cases h33131
    exact Ce E ⟨_, _, _, _, rfl, fE E, sE [some 0] 1 E, rfl⟩
  rintro _ _ _ _ h _ ⟨mid1, n2, start1, r3, rfl, hF33131, hS33131, rfl⟩
  replace h := oun_mk h
  replace h := oun_mk h
  replace h := oun_mk h
  refine Atn 1 hF33131 hS33131 E E (G0 7 E ?_)
  refine Cut h (fun f l o_ f_ μ_ l_ => ∃ (start3 : Int), start3 = o_ ∧ SubFr ((20, .int .i64 start3) :: keepF [0, 1, 2, 3, 4, 18, 19] f) f_ ∧ SegSub l l_ ∧ μ = μ_) ?_ ?_
  · intro _ h33132 h
    refine Lp h33132 (fun f l (j_ : Int × Int × Int) f_ μ_ l_ => ounP j_ fun start2 j_ => ounP j_ fun r4 p1 => SubFr ((20, .int .i64 start2) :: (21, .int .i64 r4) :: (22, .int .i64 p1) :: keepF [0, 1, 2, 3, 4, 18, 19] f) f_ ∧ SegSub l l_ ∧ μ = μ_) ⟨fE E, sE [some 0] 1 E, E⟩ ?_
    rintro ⟨start2, r4, p1⟩ _ _ _ _ _ ⟨hF33158, hS33158, rfl⟩ hb33158 hq33158
    unfold slices_symMergeCmpFunc_rated_c40_l5 at hb33158
    replace hb33158 := oun_mk hb33158
    replace hb33158 := oun_mk hb33158
    refine Atn 1 hF33158 hS33158 E E (G0 7 E ?_)
    refine Br hb33158 151 E E (fun hc22 hb33158 => ?_) (fun hc22 hb33158 => ?_)
    · refine G2 9 [151] [] [] E (Rdo E E ?_)
      obtain ⟨_, hg4, hb33158⟩ := obind hb33158
      refine R_shrD E E E (guardO_some hg4) (Q0 4 E (Dr _ Kept.refl [(true, 0), (true, 1), (true, 2), (true, 3), (true, 4), (true, 5), (true, 6), (true, 7), (true, 8), (true, 9), (true, 10), (false, 11), (true, 12), (true, 13)] (by kernel_rfl) (G0 5 E (IxN hn1 hb33158 (Own.rds (L := (ch1 :: L)) hO1 0 E) E E fun _ _ _ _ hr13 hc23 _ hb33158 => ?_))))
      obtain ⟨_, _, _, _, rfl, hl33, hA46, hl34, hA47⟩ := hr13
      refine Q3 3 [] [] [64] (Z1 hc23) E (IxN hn1 hb33158 (Own.rds (L := (ch1 :: L)) hO1 0 E) E E fun _ _ _ _ hr14 hc24 _ hb33158 => ?_)
      obtain ⟨_, _, _, _, rfl, hl35, hA49, hl36, hA50⟩ := hr14
      refine Q3 1 [] [] [64] (Z1 hc24) E (Cl E ?_)
      obtain ⟨_, hx17, hb33158⟩ := obind hb33158
      refine dispatch_compare_fn hl33 hA46 hl34 hA47 hl35 hA49 hl36 hA50 hx17 (?_)
      refine ⟨Kept.refl, ?_⟩
      refine Q0 3 E ?_
      refine Br hb33158 171 E E (fun hc25 hb33158 => ?_) (fun hc25 hb33158 => ?_)
      · refine G2 7 [171] [] [] E ?_
        cases hb33158
        exact Ce E ⟨_, rfl, fE E, sE [some 0] 1 E, rfl⟩
      refine G2 6 [] [171] [] E ?_
      cases hb33158
      exact Ce E ⟨_, rfl, fE E, sE [some 0] 1 E, rfl⟩
    refine G2 2 [] [151] [] E ?_
    cases hb33158
    have hq_ := hq33158 _ E
    subst hq_
    exact Ce E ⟨_, rfl, fE E, sE [some 0] 1 E, rfl⟩
  rintro _ _ _ _ h _ ⟨start3, rfl, hF33132, hS33132, rfl⟩
  refine Atn 1 hF33132 hS33132 E E (G0 9 E ?_)
  refine Cut h (fun f l o_ f_ μ_ l_ => ∃ (f_end1 : Int) (v1 : Bool), (f_end1, v1) = o_ ∧ SubFr ((24, .int .i64 f_end1) :: (185, .bool v1) :: keepF [0, 1, 2, 3, 4, 18, 20] f) f_ ∧ SegSub l l_ ∧ μ = μ_) ?_ ?_
  · intro _ h33183 h
    refine G0 5 E ?_
    refine Br h33183 181 E E (fun hc26 h33183 => ?_) (fun hc26 h33183 => ?_)
    · refine G2 5 [181] [] [] E ?_
      cases h33183
      exact Ce E ⟨_, _, rfl, fE E, sE [some 0] 1 E, rfl⟩
    refine G2 5 [] [181] [] E ?_
    cases h33183
    exact Ce E ⟨_, _, rfl, fE E, sE [some 0] 1 E, rfl⟩
  rintro _ _ _ _ h _ ⟨f_end1, v1, rfl, hF33183, hS33183, rfl⟩
  replace h := oun_mk h
  refine Atn 1 hF33183 hS33183 E E ?_
  refine Cut h (fun f l o_ f_ μ_ l_ => ∃ (data8 : (List T_dispatch_rated)) (ch13 : Seg), data8 = o_ ∧ SubFr (keepF [0, 1, 3, 4, 18, 20, 24] f) f_ ∧ SegSub (ch13 :: selS [] 1 l) l_ ∧ data1.length = data8.length ∧ Own r_dispatch_rated 82 μ_ (.slice A1 data1.length c1) data8 ch13 ∧ μ = μ_) ?_ ?_
  · intro _ h33184 h
    refine Br h33184 185 E E (fun hc27 h33184 => ?_) (fun hc27 h33184 => ?_)
    · refine G2 7 [185] [] [] E (Cl E ?_)
      obtain ⟨_, hx18, h33184⟩ := obind h33184
      refine slices_rotateCmpFunc_rated_c40_fn hn1 hO1 hx18 (fun ch12 hO12 hn12 => Q0 1 E ?_)
      cases h33184
      exact Ce E ⟨_, ch12, rfl, fE E, sE [some 0] 1 E, (hn12), (hO12), rfl⟩
    refine G2 2 [] [185] [] E ?_
    cases h33184
    exact Ce E ⟨_, ch1, rfl, fE E, sE [some 0] 1 E, (hn1), (hO1), rfl⟩
  rintro _ _ _ _ h _ ⟨data8, ch13, rfl, hF33184, hS33184, hn13, hO13, rfl⟩
  refine Atn 1 hF33184 hS33184 E E (G0 2 E ?_)
  refine Cut h (fun f l o_ f_ μ_ l_ => ∃ (v2 : Bool), v2 = o_ ∧ SubFr ((199, .bool v2) :: keepF [0, 1, 3, 4, 18, 20, 24] f) f_ ∧ SegSub l l_ ∧ μ = μ_) ?_ ?_
  · intro _ h33187 h
    refine G0 5 E ?_
    refine Br h33187 195 E E (fun hc28 h33187 => ?_) (fun hc28 h33187 => ?_)
    · refine G2 5 [195] [] [] E ?_
      cases h33187
      exact Ce E ⟨_, rfl, fE E, sE [some 0] 1 E, rfl⟩
    refine G2 5 [] [195] [] E ?_
    cases h33187
    exact Ce E ⟨_, rfl, fE E, sE [some 0] 1 E, rfl⟩
  rintro _ _ _ _ h _ ⟨v2, rfl, hF33187, hS33187, rfl⟩
  refine Atn 1 hF33187 hS33187 E E ?_
  refine Cut h (fun f l o_ f_ μ_ l_ => ∃ (data9 : (List T_dispatch_rated)) (ch15 : Seg), data9 = o_ ∧ SubFr (keepF [0, 3, 4, 18, 24] f) f_ ∧ SegSub (ch15 :: selS [] 1 l) l_ ∧ data1.length = data9.length ∧ Own r_dispatch_rated 82 μ_ (.slice A1 data1.length c1) data9 ch15 ∧ μ = μ_) ?_ ?_
  · intro _ h33188 h
    refine Br h33188 199 E E (fun hc29 h33188 => ?_) (fun hc29 h33188 => ?_)
    · refine G2 7 [199] [] [] E (Cl E ?_)
      obtain ⟨_, hx19, h33188⟩ := obind h33188
      refine ih hn13 hO13 hx19 (fun ch14 hO14 hn14 => Q0 1 E ?_)
      cases h33188
      exact Ce E ⟨_, ch14, rfl, fE E, sE [some 0] 1 E, (hn14), (hO14), rfl⟩
    refine G2 2 [] [199] [] E ?_
    cases h33188
    exact Ce E ⟨_, ch13, rfl, fE E, sE [some 0] 1 E, (hn13), (hO13), rfl⟩
  rintro _ _ _ _ h _ ⟨data9, ch15, rfl, hF33188, hS33188, hn15, hO15, rfl⟩
  refine Atn 1 hF33188 hS33188 E E (G0 1 E ?_)
  refine Cut h (fun f l o_ f_ μ_ l_ => ∃ (v3 : Bool), v3 = o_ ∧ SubFr ((213, .bool v3) :: keepF [0, 3, 4, 18, 24] f) f_ ∧ SegSub l l_ ∧ μ = μ_) ?_ ?_
  · intro _ h33191 h
    refine G0 5 E ?_
    refine Br h33191 209 E E (fun hc30 h33191 => ?_) (fun hc30 h33191 => ?_)
    · refine G2 5 [209] [] [] E ?_
      cases h33191
      exact Ce E ⟨_, rfl, fE E, sE [some 0] 1 E, rfl⟩
    refine G2 5 [] [209] [] E ?_
    cases h33191
    exact Ce E ⟨_, rfl, fE E, sE [some 0] 1 E, rfl⟩
  rintro _ _ _ _ h _ ⟨v3, rfl, hF33191, hS33191, rfl⟩
  refine Atn 1 hF33191 hS33191 E E ?_
  refine Cut h (fun f l o_ f_ μ_ l_ => ∃ (data10 : (List T_dispatch_rated)) (ch17 : Seg), data10 = o_ ∧ SubFr ([]) f_ ∧ SegSub (ch17 :: selS [] 1 l) l_ ∧ data1.length = data10.length ∧ Own r_dispatch_rated 82 μ_ (.slice A1 data1.length c1) data10 ch17 ∧ μ = μ_) ?_ ?_
  · intro _ h33192 h
    refine Br h33192 213 E E (fun hc31 h33192 => ?_) (fun hc31 h33192 => ?_)
    · refine G2 7 [213] [] [] E (Cl E ?_)
      obtain ⟨_, hx20, h33192⟩ := obind h33192
      refine ih hn15 hO15 hx20 (fun ch16 hO16 hn16 => Q0 1 E ?_)
      cases h33192
      exact Ce E ⟨_, ch16, rfl, fE E, sE [some 0] 1 E, (hn16), (hO16), rfl⟩
    refine G2 2 [] [213] [] E ?_
    cases h33192
    exact Ce E ⟨_, ch15, rfl, fE E, sE [some 0] 1 E, (hn15), (hO15), rfl⟩
  rintro _ _ _ _ h _ ⟨data10, ch17, rfl, hF33192, hS33192, hn17, hO17, rfl⟩
  refine Atn 1 hF33192 hS33192 E E ?_
  cases h
  exact Rt [] E E (Ug [[0]] 1 (hR _ hO17 hn17))
theorem slices_stableCmpFunc_rated_c40_fn {F : Nat} {data1 : (List T_dispatch_rated)} {n2 : Int} {A1 : Option Addr} {c1 : Nat} {ch1 : Seg} {n1 : Nat} {res1 : (List T_dispatch_rated)}
    (hn1 : n1 = data1.length) (hO1 : Own r_dispatch_rated 82 μ (.slice A1 n1 c1) data1 ch1) (h : slices_stableCmpFunc_rated_c40 F data1 n2 = some res1)
    (hR : ∀ (sp0 : Seg), Own r_dispatch_rated 82 μ (.slice A1 n1 c1) res1 sp0 → n1 = res1.length → R (.tuple #[]) μ (sp0 :: L)) :
    Fn Tryz.prog 63 [.slice A1 n1 c1, .int .i64 n2, .func (.func 40) #[] #[]] μ (ch1 :: L) R := by
  unfold slices_stableCmpFunc_rated_c40 at h
  subst hn1
  have hn1 : data1.length = data1.length := rfl
  refine FnS Tryz.func63 (by kernel_rfl) E Tryz.ntmps63 E E ?_
  refine G0 11 E ?_
  refine Cut h (fun f l o_ f_ μ_ l_ => ∃ (data3 : (List T_dispatch_rated)) (a2 : Int) (ch4 : Seg), (data3, a2) = o_ ∧ SubFr ((7, .int .i64 a2) :: keepF [0, 1, 2, 6] f) f_ ∧ SegSub (ch4 :: selS [] 1 l) l_ ∧ data1.length = data3.length ∧ Own r_dispatch_rated 82 μ_ (.slice A1 data1.length c1) data3 ch4 ∧ μ = μ_) ?_ ?_
  · intro _ h33217 h
    refine Lp h33217 (fun f l (j_ : (List T_dispatch_rated) × Int × Int) f_ μ_ l_ => ounP j_ fun data2 j_ => ounP j_ fun a1 b1 => ∃ (ch2 : Seg), SubFr ((7, .int .i64 a1) :: (8, .int .i64 b1) :: keepF [0, 1, 2, 6] f) f_ ∧ SegSub (ch2 :: selS [] 1 l) l_ ∧ data1.length = data2.length ∧ Own r_dispatch_rated 82 μ_ (.slice A1 data1.length c1) data2 ch2 ∧ μ = μ_) ⟨ch1, fE E, sE [some 0] 1 E, (hn1), (hO1), E⟩ ?_
    rintro ⟨data2, a1, b1⟩ _ _ _ _ _ ⟨ch2, hF33220, hS33220, hn2, hO2, rfl⟩ hb33220 hq33220
    unfold slices_stableCmpFunc_rated_c40_l1 at hb33220
    replace hb33220 := oun_mk hb33220
    replace hb33220 := oun_mk hb33220
    refine Atn 1 hF33220 hS33220 E E (G0 7 E ?_)
    refine Br hb33220 13 E E (fun hc1 hb33220 => ?_) (fun hc1 hb33220 => ?_)
    · refine G2 9 [13] [] [] E (Cl E ?_)
      obtain ⟨_, hx1, hb33220⟩ := obind hb33220
      refine slices_insertionSortCmpFunc_rated_c40_fn hn2 hO2 hx1 (fun ch3 hO3 hn3 => Q0 13 E ?_)
      cases hb33220
      exact Ce E ⟨_, rfl, ch3, fE E, sE [some 0] 1 E, (hn3), (hO3), rfl⟩
    refine G2 2 [] [13] [] E ?_
    cases hb33220
    have hq_ := hq33220 _ E
    subst hq_
    exact Ce E ⟨_, _, ch2, rfl, fE E, sE [some 0] 1 E, (hn2), (hO2), rfl⟩
  rintro _ _ _ _ h _ ⟨data3, a2, ch4, rfl, hF33217, hS33217, hn4, hO4, rfl⟩
  replace h := oun_mk h
  refine Atn 1 hF33217 hS33217 E E (G0 6 E (Cl E ?_))
  obtain ⟨_, hx2, h⟩ := obind h
  refine slices_insertionSortCmpFunc_rated_c40_fn hn4 hO4 hx2 (fun ch5 hO5 hn5 => Q0 1 E ?_)
  refine Cut h (fun f l o_ f_ μ_ l_ => ∃ (data8 : (List T_dispatch_rated)) (ch12 : Seg), data8 = o_ ∧ SubFr ([]) f_ ∧ SegSub (ch12 :: selS [] 1 l) l_ ∧ data1.length = data8.length ∧ Own r_dispatch_rated 82 μ_ (.slice A1 data1.length c1) data8 ch12 ∧ μ = μ_) ?_ ?_
  · intro _ h33225 h
    refine Lp h33225 (fun f l (j_ : (List T_dispatch_rated) × Int) f_ μ_ l_ => ounP j_ fun data4 blockSize1 => ∃ (ch6 : Seg), SubFr ((6, .int .i64 blockSize1) :: keepF [0, 1, 2] f) f_ ∧ SegSub (ch6 :: selS [] 1 l) l_ ∧ data1.length = data4.length ∧ Own r_dispatch_rated 82 μ_ (.slice A1 data1.length c1) data4 ch6 ∧ μ = μ_) ⟨ch5, fE E, sE [some 0] 1 E, (hn5), (hO5), E⟩ ?_
    rintro ⟨data4, blockSize1⟩ _ _ _ _ _ ⟨ch6, hF33237, hS33237, hn6, hO6, rfl⟩ hb33237 hq33237
    unfold slices_stableCmpFunc_rated_c40_l3 at hb33237
    replace hb33237 := oun_mk hb33237
    refine Atn 1 hF33237 hS33237 E E (G0 7 E ?_)
    refine Br hb33237 30 E E (fun hc2 hb33237 => ?_) (fun hc2 hb33237 => ?_)
    · refine G2 11 [30] [] [] E ?_
      refine Cut hb33237 (fun f l o_ f_ μ_ l_ => ∃ (data6 : (List T_dispatch_rated)) (a4 : Int) (ch9 : Seg), (data6, a4) = o_ ∧ SubFr ((7, .int .i64 a4) :: keepF [0, 1, 2, 6] f) f_ ∧ SegSub (ch9 :: selS [] 1 l) l_ ∧ data1.length = data6.length ∧ Own r_dispatch_rated 82 μ_ (.slice A1 data1.length c1) data6 ch9 ∧ μ = μ_) ?_ ?_
      · intro _ h33239 hb33237
        refine Lp h33239 (fun f l (j_ : (List T_dispatch_rated) × Int × Int) f_ μ_ l_ => ounP j_ fun data5 j_ => ounP j_ fun a3 b2 => ∃ (ch7 : Seg), SubFr ((7, .int .i64 a3) :: (8, .int .i64 b2) :: keepF [0, 1, 2, 6] f) f_ ∧ SegSub (ch7 :: selS [] 1 l) l_ ∧ data1.length = data5.length ∧ Own r_dispatch_rated 82 μ_ (.slice A1 data1.length c1) data5 ch7 ∧ μ = μ_) ⟨ch6, fE E, sE [some 0] 1 E, (hn6), (hO6), E⟩ ?_
        rintro ⟨data5, a3, b2⟩ _ _ _ _ _ ⟨ch7, hF33242, hS33242, hn7, hO7, rfl⟩ hb33242 hq33242
        unfold slices_stableCmpFunc_rated_c40_l2 at hb33242
        replace hb33242 := oun_mk hb33242
        replace hb33242 := oun_mk hb33242
        refine Atn 1 hF33242 hS33242 E E (G0 7 E ?_)
        refine Br hb33242 35 E E (fun hc3 hb33242 => ?_) (fun hc3 hb33242 => ?_)
        · refine G2 12 [35] [] [] E (Cl E ?_)
          obtain ⟨_, hx3, hb33242⟩ := obind hb33242
          refine slices_symMergeCmpFunc_rated_c40_fn hn7 hO7 hx3 (fun ch8 hO8 hn8 => Q0 14 E ?_)
          cases hb33242
          exact Ce E ⟨_, rfl, ch8, fE E, sE [some 0] 1 E, (hn8), (hO8), rfl⟩
        refine G2 2 [] [35] [] E ?_
        cases hb33242
        have hq_ := hq33242 _ E
        subst hq_
        exact Ce E ⟨_, _, ch7, rfl, fE E, sE [some 0] 1 E, (hn7), (hO7), rfl⟩
      rintro _ _ _ _ hb33237 _ ⟨data6, a4, ch9, rfl, hF33239, hS33239, hn9, hO9, rfl⟩
      replace hb33237 := oun_mk hb33237
      refine Atn 1 hF33239 hS33239 E E (G0 14 E ?_)
      refine Cut hb33237 (fun f l o_ f_ μ_ l_ => ∃ (data7 : (List T_dispatch_rated)) (ch11 : Seg), data7 = o_ ∧ SubFr (keepF [0, 1, 2, 6] f) f_ ∧ SegSub (ch11 :: selS [] 1 l) l_ ∧ data1.length = data7.length ∧ Own r_dispatch_rated 82 μ_ (.slice A1 data1.length c1) data7 ch11 ∧ μ = μ_) ?_ ?_
      · intro _ h33246 hb33237
        refine Br h33246 54 E E (fun hc4 h33246 => ?_) (fun hc4 h33246 => ?_)
        · refine G2 7 [54] [] [] E (Cl E ?_)
          obtain ⟨_, hx4, h33246⟩ := obind h33246
          refine slices_symMergeCmpFunc_rated_c40_fn hn9 hO9 hx4 (fun ch10 hO10 hn10 => Q0 1 E ?_)
          cases h33246
          exact Ce E ⟨_, ch10, rfl, fE E, sE [some 0] 1 E, (hn10), (hO10), rfl⟩
        refine G2 2 [] [54] [] E ?_
        cases h33246
        exact Ce E ⟨_, ch9, rfl, fE E, sE [some 0] 1 E, (hn9), (hO9), rfl⟩
      rintro _ _ _ _ hb33237 _ ⟨data7, ch11, rfl, hF33246, hS33246, hn11, hO11, rfl⟩
      refine Atn 1 hF33246 hS33246 E E (G0 6 E ?_)
      cases hb33237
      exact Ce E ⟨_, rfl, ch11, fE E, sE [some 0] 1 E, (hn11), (hO11), rfl⟩
    refine G2 2 [] [30] [] E ?_
    cases hb33237
    have hq_ := hq33237 _ E
    subst hq_
    exact Ce E ⟨_, ch6, rfl, fE E, sE [some 0] 1 E, (hn6), (hO6), rfl⟩
  rintro _ _ _ _ h _ ⟨data8, ch12, rfl, hF33225, hS33225, hn12, hO12, rfl⟩
  refine Atn 1 hF33225 hS33225 E E ?_
  cases h
  exact Rt [] E E (Ug [[0]] 1 (hR _ hO12 hn12))
theorem slices_SortStableFunc_rated_c40_fn {F : Nat} {x1 : (List T_dispatch_rated)} {A1 : Option Addr} {c1 : Nat} {ch1 : Seg} {n1 : Nat} {res1 : (List T_dispatch_rated)}
    (hn1 : n1 = x1.length) (hO1 : Own r_dispatch_rated 82 μ (.slice A1 n1 c1) x1 ch1) (h : slices_SortStableFunc_rated_c40 F x1 = some res1)
    (hR : ∀ (sp0 : Seg), Own r_dispatch_rated 82 μ (.slice A1 n1 c1) res1 sp0 → n1 = res1.length → R (.tuple #[]) μ (sp0 :: L)) :
    Fn Tryz.prog 41 [.slice A1 n1 c1, .func (.func 40) #[] #[]] μ (ch1 :: L) R := by
  unfold slices_SortStableFunc_rated_c40 at h
  subst hn1
  have hn1 : x1.length = x1.length := rfl
  refine FnS Tryz.func41 (by kernel_rfl) E Tryz.ntmps41 E E ?_
  refine G0 5 E (Cl E ?_)
  obtain ⟨_, hx1, h⟩ := obind h
  refine slices_stableCmpFunc_rated_c40_fn hn1 hO1 hx1 (fun _ hO2 hn2 => Q0 1 E ?_)
  cases h
  exact Rt [] E E (Ug [[0]] 1 (hR _ hO2 hn2))
theorem dispatch_Moves_fn {F : Nat} {p1 : T_api_Problem} {x1 : T_api_Plan} {A1 : Option Addr} {c1 : Nat} {A2 : Option Addr} {c2 : Nat} {A3 : Option Addr} {c3 : Nat} {A4 : Option Addr} {c4 : Nat} {A5 : Option Addr} {c5 : Nat} {res1 : (List T_api_Plan)} {res2 : Int}
    (hl1 : p1.Road.Edges.length ≤ c1 ∧ c1 ≤ maxLen) (hA1 : ArrR r_api_Edge μ A1 p1.Road.Edges) (hl2 : p1.Vehicles.length ≤ c2 ∧ c2 ≤ maxLen) (hA2 : ArrR r_api_Vehicle μ A2 p1.Vehicles) (hl3 : p1.Demands.length ≤ c3 ∧ c3 ≤ maxLen) (hA3 : ArrR r_api_Demand μ A3 p1.Demands) (hl4 : x1.Tours.length ≤ c4 ∧ c4 ≤ maxLen) (hA4 : ArrR r_api_Tour μ A4 x1.Tours) (hl5 : x1.Left.length ≤ c5 ∧ c5 ≤ maxLen) (hA5 : ArrR rInt μ A5 x1.Left) (h : dispatch_Moves F p1 x1 = some (res1, res2))
    (hR : ∀ (μ' : Gh) (A0 : Option Addr) (c0 : Nat) (ch0 : Seg), μ.le μ' → Own r_api_Plan 33 μ' (.slice A0 res1.length c0) res1 ch0 → R (.tuple #[.slice A0 res1.length c0, .int .i64 res2]) μ' (ch0 :: L)) :
    Fn Tryz.prog 16 [.agg #[.int .i64 p1.Road.Nodes, .slice A1 p1.Road.Edges.length c1, .slice A2 p1.Vehicles.length c2, .slice A3 p1.Demands.length c3, .int .i64 p1.Unload, .int .i64 p1.UnloadSecs], .agg #[.slice A4 x1.Tours.length c4, .slice A5 x1.Left.length c5]] μ (L) R := by
  unfold dispatch_Moves at h
  refine FnR4 Tryz.func16 (by kernel_rfl) E Tryz.ntmps16 E E ?_
  refine G0 1 E (Al E fun g1 => Q0 0 E (Al E fun g2 => Q1 6 [1, 0] E (Cl E ?_)))
  obtain ⟨⟨_, _⟩, hx1, h⟩ := obind h
  replace h := oun_mk h
  refine tour_Total_fn hl1 hA1 hl2 hA2 hl3 hA3 hl4 hA4 hl5 hA5 hx1 (fun v1 hm_1 => ?_)
  replace hA1 := hA1.mono hm_1
  replace hA2 := hA2.mono hm_1
  replace hA3 := hA3.mono hm_1
  replace hA4 := hA4.mono hm_1
  replace hA5 := hA5.mono hm_1
  refine Q0 3 E (Al E fun g3 => Q1 8 [0] E ?_)
  refine Br h 23 E E (fun hc1 h => ?_) (fun hc1 h => ?_)
  · refine G2 7 [23] [] [] E ?_
    cases h
    exact Rt [] E E (Ug [[]] 3 (hR _ none 0 [] hm_1 Own.nil))
  refine G2 3 [] [23] [] E (Al E fun g4 => Q1 4 [3, 2] E (Cl E (FnS Tryz.func39 (by kernel_rfl) E Tryz.ntmps39 E E (G0 2 E (Al E fun _ => Q0 0 E (Al E fun _ => Q0 7 E (Rt [] E E (Upd.done (Q0 1 E (Rg (c := Tryz.f16.body) [(2, .pointer (some ⟨g1, 0, none⟩)), (3, .pointer (some ⟨g2, 0, none⟩)), (6, .pointer (some ⟨g3, 0, none⟩)), (8, .pointer (some ⟨g4, 0, none⟩))] E E E (fg := Tryz.f59) Tryz.func59 E fun _ _ hq1 => ?_))))))))))
  have hP1 : Obj_box_dispatch_rated v1 (.pointer (some ⟨g4, 0, none⟩)) [] _ := ⟨g4, none, 0, [], rfl, rfl, Own.nil⟩
  refine Fn.gp [[0], [7], [6], [5], [4, 99], [3], [2], [1]] 8 8 E ?_
  obtain ⟨_, hx2, h⟩ := obind h
  refine dispatch_moves_1_y16_fn hq1 hl1 hA1 hl2 hA2 hl3 hA3 hl4 hA4 hl5 hA5 hP1 hl1 hA1 hl2 hA2 hl3 hA3 hl4 hA4 hl5 hA5 hx2 (fun _ _ hm_2 hP2 => ?_)
  refine RgE.mk 0 7 E E ?_
  obtain ⟨_, _, _, _, hv1, rfl, hO1⟩ := hP2
  replace hv1 := ptr_inj hv1
  subst hv1
  refine G0 1 E (In Obj_box_dispatch_rated.fl 3 8 E E E (G1 2 [3] E (Cl E (Fn.gp [[4], [0], [1], [2], [3], [5], [6], [7]] 8 8 E ?_))))
  obtain ⟨_, hx3, h⟩ := obind h
  refine slices_SortStableFunc_rated_c40_fn E hO1 hx3 (fun _ hO2 hn1 => ?_)
  rw [hn1] at hO2 ⊢
  refine Q1 12 [4] E ?_
  refine Cut h (fun f l o_ f_ μ_ l_ => ∃ (out2 : (List T_api_Plan)) (A11 : Option Addr) (c11 : Nat) (ch5 : Seg), out2 = o_ ∧ SubFr ((13, .slice A11 out2.length c11) :: []) f_ ∧ SegSub (ch5 :: selS [] 7 l) l_ ∧ Own r_api_Plan 33 μ_ (.slice A11 out2.length c11) out2 ch5) ?_ ?_
  · intro _ h33392 h
    refine Lp h33392 (fun f l (j_ : (List T_api_Plan) × Int) f_ μ_ l_ => ounP j_ fun out1 v3 => ∃ (A7 : Option Addr) (c7 : Nat) (ch3 : Seg), SubFr ((13, .slice A7 out1.length c7) :: (56, .int .i64 v3) :: keepF [54, 55] f) f_ ∧ SegSub (ch3 :: selS [some 0, some 7] 8 l) l_ ∧ Own r_api_Plan 33 μ_ (.slice A7 out1.length c7) out1 ch3) ⟨none, 0, [], fE E, sE [none, some 0, some 7] 8 E, (Own.nil)⟩ ?_
    rintro ⟨out1, v3⟩ _ _ _ _ hm33411 ⟨A7, c7, ch3, hF33411, hS33411, hO3⟩ hb33411 hq33411
    unfold dispatch_Moves_l1 at hb33411
    replace hb33411 := oun_mk hb33411
    replace hO2 := hO2.mono hm33411
    refine Atn 3 hF33411 hS33411 E E (G0 5 E ?_)
    refine Br hb33411 57 E E (fun hc2 hb33411 => ?_) (fun hc2 hb33411 => ?_)
    · refine G2 6 [57] [] [] E (IxA hb33411 (Own.rds hO2 1 E) E E fun x2 _ _ _ hr1 hc3 _ hb33411 => ?_)
      obtain ⟨A8, c8, A9, c9, rfl, hl6, hA7, hl7, hA8⟩ := hr1
      refine Q3 1 [] [] [64] (Z1 hc3) E (Al E fun _ => Q1 6 [0, 0] E (So E (O_bsl (z := [.slice none 0 0, .slice none 0 0]) E E E E E E E (F_cons (cells' := [.slice A8 x2.plan.Tours.length c8, .slice A9 x2.plan.Left.length c9]) E E E E (F_nil (fun g9 => Q0 0 E (So E (O_append E ?_))))))))
      obtain ⟨_, hz1, hb33411⟩ := obind hb33411
      refine sem_appR (r := r_api_Plan) Tt_ok E E E E (by decide) E E 2 E hO3 E (Own.rds (Own.lit (r := r_api_Plan) (e := 33) (g := g9) (xs := [x2.plan]) (cs := [.slice A8 x2.plan.Tours.length c8, .slice A9 x2.plan.Left.length c9]) (css := [[.slice A8 x2.plan.Tours.length c8, .slice A9 x2.plan.Left.length c9]]) E (All2.cons (⟨A8, c8, A9, c9, E, hl6, hA7, hl7, hA8⟩) (All2.nil)) E E) 0 E) hz1 fun A10 c10 ch4 hO4 => Q0 7 E ?_
      cases hb33411
      exact Ce E ⟨_, rfl, A10, c10, ch4, fE E, sE [some 2, some 3, some 4] 5 E, (hO4)⟩
    refine G2 2 [] [57] [] E ?_
    cases hb33411
    have hq_ := hq33411 _ E
    subst hq_
    exact Ce E ⟨_, A7, c7, ch3, rfl, fE E, sE [some 0, some 2] 3 E, (hO3)⟩
  rintro _ _ _ _ h hm33392 ⟨out2, A11, c11, ch5, rfl, hF33392, hS33392, hO5⟩
  refine Atn 2 hF33392 hS33392 E E (G0 6 E ?_)
  cases h
  exact RtM 1 1 [] E E E E (Ug [[0]] 1 (hR _ A11 c11 ch5 (hm_1.trans (hm_2.trans hm33392)) hO5))
theorem dispatch_Plan_fn {F : Nat} {p1 : T_api_Problem} {A1 : Option Addr} {c1 : Nat} {A2 : Option Addr} {c2 : Nat} {A3 : Option Addr} {c3 : Nat} {res1 : T_api_Plan} {res2 : Int}
    (hl1 : p1.Road.Edges.length ≤ c1 ∧ c1 ≤ maxLen) (hA1 : ArrR r_api_Edge μ A1 p1.Road.Edges) (hl2 : p1.Vehicles.length ≤ c2 ∧ c2 ≤ maxLen) (hA2 : ArrR r_api_Vehicle μ A2 p1.Vehicles) (hl3 : p1.Demands.length ≤ c3 ∧ c3 ≤ maxLen) (hA3 : ArrR r_api_Demand μ A3 p1.Demands) (h : dispatch_Plan F p1 = some (res1, res2))
    (hR : ∀ (μ' : Gh) (A0_0 : Option Addr) (c0_0 : Nat) (A0_1 : Option Addr) (c0_1 : Nat), μ.le μ' → (res1.Tours.length ≤ c0_0 ∧ c0_0 ≤ maxLen) → ArrR r_api_Tour μ' A0_0 res1.Tours → (res1.Left.length ≤ c0_1 ∧ c0_1 ≤ maxLen) → ArrR rInt μ' A0_1 res1.Left → R (.tuple #[.agg #[.slice A0_0 res1.Tours.length c0_0, .slice A0_1 res1.Left.length c0_1], .int .i64 res2]) μ' (L)) :
    Fn Tryz.prog 13 [.agg #[.int .i64 p1.Road.Nodes, .slice A1 p1.Road.Edges.length c1, .slice A2 p1.Vehicles.length c2, .slice A3 p1.Demands.length c3, .int .i64 p1.Unload, .int .i64 p1.UnloadSecs]] μ (L) R := by
  unfold dispatch_Plan at h
  refine FnS Tryz.func13 (by kernel_rfl) E Tryz.ntmps13 E E ?_
  refine G0 2 E (Al E fun g1 => Q0 0 E (Al E fun g2 => Q1 5 [1] E (Cl E ?_)))
  obtain ⟨⟨_, _⟩, hx1, h⟩ := obind h
  replace h := oun_mk h
  refine insert_Build_fn hl1 hA1 hl2 hA2 hl3 hA3 hx1 (fun _ A4 c4 A5 c5 hm_1 hl4 hA4 hl5 hA5 => ?_)
  replace hA1 := hA1.mono hm_1
  replace hA2 := hA2.mono hm_1
  replace hA3 := hA3.mono hm_1
  refine Q0 3 E (Al E fun g3 => Q1 9 [0] E ?_)
  refine Br h 14 E E (fun hc1 h => ?_) (fun hc1 h => ?_)
  · refine G2 8 [14] [] [1] E ?_
    cases h
    exact Rt [1] E E (Ug [] 3 (hR _ none 0 none 0 hm_1 ⟨Nat.le_refl _, Nat.zero_le _⟩ ArrR.nil ⟨Nat.le_refl _, Nat.zero_le _⟩ ArrR.nil))
  refine G2 2 [] [14] [] E ?_
  refine Cut h (fun _ _ _ _ _ _ => False) ?_ ?_
  · intro _ h33477 h
    refine Lp h33477 (fun f l (j_ : (List T_api_Tour) × (List Int)) f_ μ_ l_ => ounP j_ fun f1 f2 => ∃ (A6 : Option Addr) (c6 : Nat) (A7 : Option Addr) (c7 : Nat), SubFr (keepF [1, 2, 4] f) f_ ∧ SegSub ([(g1, .cells #[.int .i64 p1.Road.Nodes, .slice A1 p1.Road.Edges.length c1, .slice A2 p1.Vehicles.length c2, .slice A3 p1.Demands.length c3, .int .i64 p1.Unload, .int .i64 p1.UnloadSecs] 28 (0, 0))] :: [(g2, .cells #[.slice none 0 0, .slice none 0 0] 33 (0, 0))] :: [(g3, .cells #[.slice A6 f1.length c6, .slice A7 f2.length c7] 33 (0, 0))] :: selS [] 3 l) l_ ∧ (f1.length ≤ c6 ∧ c6 ≤ maxLen) ∧ ArrR r_api_Tour μ_ A6 f1 ∧ (f2.length ≤ c7 ∧ c7 ≤ maxLen) ∧ ArrR rInt μ_ A7 f2) ⟨A4, c4, A5, c5, fE E, sE [some 2, some 1, some 0] 3 E, (hl4), (hA4), (hl5), (hA5)⟩ ?_
    rintro ⟨f1, f2⟩ _ _ _ _ hm33496 ⟨A6, c6, A7, c7, hF33496, hS33496, hl6, hA6, hl7, hA7⟩ hb33496 hq33496
    unfold dispatch_Plan_l1 at hb33496
    replace hb33496 := oun_mk hb33496
    replace hA1 := hA1.mono hm33496
    replace hA2 := hA2.mono hm33496
    replace hA3 := hA3.mono hm33496
    refine Atn 3 hF33496 hS33496 E E (G1 5 [0, 2] E (Cl E ?_))
    obtain ⟨⟨_, _⟩, hx2, hb33496⟩ := obind hb33496
    replace hb33496 := oun_mk hb33496
    refine dispatch_Moves_fn hl1 hA1 hl2 hA2 hl3 hA3 hl6 hA6 hl7 hA7 hx2 (fun _ _ _ _ hm_2 hO1 => ?_)
    replace hA6 := hA6.mono hm_2
    replace hA7 := hA7.mono hm_2
    refine Q0 12 E ?_
    refine Br hb33496 24 E E (fun hc2 hb33496 => ?_) (fun hc2 hb33496 => ?_)
    · refine G2 8 [24] [] [2] E ?_
      cases hb33496
      have hq_ := hq33496 _ E
      subst hq_
      cases h
      exact Rt [2] E E (Ug [] 4 (hR _ none 0 none 0 (hm_1.trans (hm33496.trans hm_2)) ⟨Nat.le_refl _, Nat.zero_le _⟩ ArrR.nil ⟨Nat.le_refl _, Nat.zero_le _⟩ ArrR.nil))
    refine G2 9 [] [24] [] E ?_
    refine Br hb33496 29 E E (fun hc3 hb33496 => ?_) (fun hc3 hb33496 => ?_)
    · refine G2 7 [29] [] [3, 2] E ?_
      cases hb33496
      have hq_ := hq33496 _ E
      subst hq_
      cases h
      exact Rt [2] E E (Ug [] 4 (hR _ A6 c6 A7 c7 (hm_1.trans (hm33496.trans hm_2)) hl6 hA6 hl7 hA7))
    refine G2 4 [] [29] [] E (IxA hb33496 (Own.rds hO1 0 E) E E fun _ _ _ _ hr1 hc4 _ hb33496 => ?_)
    obtain ⟨A9, c9, A10, c10, rfl, hl8, hA9, hl9, hA10⟩ := hr1
    refine Q3 4 [] [] [64, 3] (Z1 hc4) E ?_
    cases hb33496
    exact Ce E ⟨_, rfl, A9, c9, A10, c10, fE E, sE [some 1, some 2, some 3] 4 E, (hl8), (hA9), (hl9), (hA10)⟩
  exact fun _ _ _ _ _ _ hf_ => hf_.elim
theorem tour_Feasible_fn {F : Nat} {p1 : T_api_Problem} {x1 : T_api_Plan} {A1 : Option Addr} {c1 : Nat} {A2 : Option Addr} {c2 : Nat} {A3 : Option Addr} {c3 : Nat} {A4 : Option Addr} {c4 : Nat} {A5 : Option Addr} {c5 : Nat} {res1 : Int}
    (hl1 : p1.Road.Edges.length ≤ c1 ∧ c1 ≤ maxLen) (hA1 : ArrR r_api_Edge μ A1 p1.Road.Edges) (hl2 : p1.Vehicles.length ≤ c2 ∧ c2 ≤ maxLen) (hA2 : ArrR r_api_Vehicle μ A2 p1.Vehicles) (hl3 : p1.Demands.length ≤ c3 ∧ c3 ≤ maxLen) (hA3 : ArrR r_api_Demand μ A3 p1.Demands) (hl4 : x1.Tours.length ≤ c4 ∧ c4 ≤ maxLen) (hA4 : ArrR r_api_Tour μ A4 x1.Tours) (hl5 : x1.Left.length ≤ c5 ∧ c5 ≤ maxLen) (hA5 : ArrR rInt μ A5 x1.Left) (h : tour_Feasible F p1 x1 = some res1)
    (hR : ∀ (μ' : Gh) , μ.le μ' → R (.int .i64 res1) μ' (L)) :
    Fn Tryz.prog 22 [.agg #[.int .i64 p1.Road.Nodes, .slice A1 p1.Road.Edges.length c1, .slice A2 p1.Vehicles.length c2, .slice A3 p1.Demands.length c3, .int .i64 p1.Unload, .int .i64 p1.UnloadSecs], .agg #[.slice A4 x1.Tours.length c4, .slice A5 x1.Left.length c5]] μ (L) R := by
  unfold tour_Feasible at h
  refine FnS Tryz.func22 (by kernel_rfl) E Tryz.ntmps22 E E ?_
  refine G0 2 E (Al E fun _ => Q0 0 E (Al E fun _ => Q1 6 [1, 0] E (Cl E ?_)))
  obtain ⟨⟨_, _⟩, hx1, h⟩ := obind h
  replace h := oun_mk h
  refine tour_plan_fn hl1 hA1 hl2 hA2 hl3 hA3 hl4 hA4 hl5 hA5 hx1 (fun _ hm_1 => ?_)
  refine Q0 11 E ?_
  cases h
  exact Rt [] E E (Ug [] 2 (hR _ hm_1))
theorem tour_Walk_fn {F : Nat} {p1 : T_api_Problem} {t1 : T_api_Tour} {A1 : Option Addr} {c1 : Nat} {A2 : Option Addr} {c2 : Nat} {A3 : Option Addr} {c3 : Nat} {A4 : Option Addr} {c4 : Nat} {res1 : (List T_api_Visit)} {res2 : Int} {res3 : Int}
    (hl1 : p1.Road.Edges.length ≤ c1 ∧ c1 ≤ maxLen) (hA1 : ArrR r_api_Edge μ A1 p1.Road.Edges) (hl2 : p1.Vehicles.length ≤ c2 ∧ c2 ≤ maxLen) (hA2 : ArrR r_api_Vehicle μ A2 p1.Vehicles) (hl3 : p1.Demands.length ≤ c3 ∧ c3 ≤ maxLen) (hA3 : ArrR r_api_Demand μ A3 p1.Demands) (hl4 : t1.Stops.length ≤ c4 ∧ c4 ≤ maxLen) (hA4 : ArrR rInt μ A4 t1.Stops) (h : tour_Walk F p1 t1 = some (res1, res2, res3))
    (hR : ∀ (μ' : Gh) (A0 : Option Addr) (c0 : Nat) (ch0 : Seg), μ.le μ' → Own r_api_Visit 135 μ' (.slice A0 res1.length c0) res1 ch0 → R (.tuple #[.slice A0 res1.length c0, .int .i64 res2, .int .i64 res3]) μ' (ch0 :: L)) :
    Fn Tryz.prog 26 [.agg #[.int .i64 p1.Road.Nodes, .slice A1 p1.Road.Edges.length c1, .slice A2 p1.Vehicles.length c2, .slice A3 p1.Demands.length c3, .int .i64 p1.Unload, .int .i64 p1.UnloadSecs], .agg #[.int .i64 t1.Vehicle, .slice A4 t1.Stops.length c4]] μ (L) R := by
  unfold tour_Walk at h
  refine FnS Tryz.func26 (by kernel_rfl) E Tryz.ntmps26 E E ?_
  refine G0 2 E (Al E fun _ => Q0 0 E (Al E fun _ => Q1 8 [1] E (Cl E ?_)))
  obtain ⟨_, hx1, h⟩ := obind h
  refine tour_Check_fn hl1 hA1 hl2 hA2 hl3 hA3 hx1 (fun _ hm_1 => ?_)
  replace hA1 := hA1.mono hm_1
  replace hA2 := hA2.mono hm_1
  replace hA3 := hA3.mono hm_1
  replace hA4 := hA4.mono hm_1
  refine Q0 7 E ?_
  refine Br h 14 E E (fun hc1 h => ?_) (fun hc1 h => ?_)
  · refine G2 8 [14] [] [] E ?_
    cases h
    exact Rt [] E E (Ug [[]] 2 (hR _ none 0 [] hm_1 Own.nil))
  refine G2 6 [] [14] [1, 0] E (Cl E ?_)
  obtain ⟨⟨_, _, _⟩, hx2, h⟩ := obind h
  replace h := oun_mk h
  replace h := oun_mk h
  refine tour_follow_fn hl1 hA1 hl2 hA2 hl3 hA3 hl4 hA4 hx2 (fun _ _ _ hm_2 hP1 => ?_)
  refine Q0 14 E ?_
  refine Br h 24 E E (fun hc2 h => ?_) (fun hc2 h => ?_)
  · refine G2 9 [24] [] [] E ?_
    cases h
    exact Rt [] E E (Ug [[]] 3 (hR _ none 0 [] (hm_1.trans hm_2) Own.nil))
  obtain ⟨_, hm_3, h⟩ := obind h
  have hP2 := ObjO.get hP1 hm_3
  obtain ⟨_, _, _, _, _, _, _, _, _, _, A8, c8, ch1, hv1, rfl, ⟨_, _⟩, ⟨_, _⟩, ⟨_, _⟩, _, hO1⟩ := hP2
  subst hv1
  refine G2 3 [] [24] [] E (In Obj_tour_walk.fl 0 5 E E E (G1 9 [0] E ?_))
  cases h
  exact Rt [] E E (Ug [[2]] 5 (hR _ A8 c8 ch1 (hm_1.trans hm_2) hO1))
theorem insert_Options_fn {F : Nat} {p1 : T_api_Problem} {t1 : T_api_Tour} {d1 : Int} {A1 : Option Addr} {c1 : Nat} {A2 : Option Addr} {c2 : Nat} {A3 : Option Addr} {c3 : Nat} {A4 : Option Addr} {c4 : Nat} {res1 : (List T_api_Tour)} {res2 : Int}
    (hl1 : p1.Road.Edges.length ≤ c1 ∧ c1 ≤ maxLen) (hA1 : ArrR r_api_Edge μ A1 p1.Road.Edges) (hl2 : p1.Vehicles.length ≤ c2 ∧ c2 ≤ maxLen) (hA2 : ArrR r_api_Vehicle μ A2 p1.Vehicles) (hl3 : p1.Demands.length ≤ c3 ∧ c3 ≤ maxLen) (hA3 : ArrR r_api_Demand μ A3 p1.Demands) (hl4 : t1.Stops.length ≤ c4 ∧ c4 ≤ maxLen) (hA4 : ArrR rInt μ A4 t1.Stops) (h : insert_Options F p1 t1 d1 = some (res1, res2))
    (hR : ∀ (μ' : Gh) (A0 : Option Addr) (c0 : Nat) (ch0 : Seg), μ.le μ' → Own r_api_Tour 51 μ' (.slice A0 res1.length c0) res1 ch0 → R (.tuple #[.slice A0 res1.length c0, .int .i64 res2]) μ' (ch0 :: L)) :
    Fn Tryz.prog 27 [.agg #[.int .i64 p1.Road.Nodes, .slice A1 p1.Road.Edges.length c1, .slice A2 p1.Vehicles.length c2, .slice A3 p1.Demands.length c3, .int .i64 p1.Unload, .int .i64 p1.UnloadSecs], .agg #[.int .i64 t1.Vehicle, .slice A4 t1.Stops.length c4], .int .i64 d1] μ (L) R := by
  unfold insert_Options at h
  refine FnS Tryz.func27 (by kernel_rfl) E Tryz.ntmps27 E E ?_
  refine G0 2 E (Al E fun _ => Q0 0 E (Al E fun _ => Q1 8 [1, 0] E (Cl E ?_)))
  obtain ⟨⟨_, _⟩, hx1, h⟩ := obind h
  replace h := oun_mk h
  refine insert_options_fn hl1 hA1 hl2 hA2 hl3 hA3 hl4 hA4 hx1 (fun _ _ _ _ hm_1 hO1 => ?_)
  refine Q0 17 E ?_
  refine Cut h (fun f l o_ f_ μ_ l_ => ∃ (out2 : (List T_api_Tour)) (A9 : Option Addr) (c9 : Nat) (ch4 : Seg), out2 = o_ ∧ SubFr ((10, .slice A9 out2.length c9) :: keepF [9] f) f_ ∧ SegSub (ch4 :: selS [] 3 l) l_ ∧ Own r_api_Tour 51 μ_ (.slice A9 out2.length c9) out2 ch4) ?_ ?_
  · intro _ h33751 h
    refine Lp h33751 (fun f l (j_ : (List T_api_Tour) × Int) f_ μ_ l_ => ounP j_ fun out1 v2 => ∃ (A6 : Option Addr) (c6 : Nat) (ch2 : Seg), SubFr ((10, .slice A6 out1.length c6) :: (22, .int .i64 v2) :: keepF [9, 20, 21] f) f_ ∧ SegSub (ch2 :: selS [some 0] 3 l) l_ ∧ Own r_api_Tour 51 μ_ (.slice A6 out1.length c6) out1 ch2) ⟨none, 0, [], fE E, sE [none, some 0] 3 E, (Own.nil)⟩ ?_
    rintro ⟨out1, v2⟩ _ _ _ _ hm33763 ⟨A6, c6, ch2, hF33763, hS33763, hO2⟩ hb33763 hq33763
    unfold insert_Options_l1 at hb33763
    replace hb33763 := oun_mk hb33763
    replace hO1 := hO1.mono hm33763
    refine Atn 2 hF33763 hS33763 E E (G0 5 E ?_)
    refine Br hb33763 23 E E (fun hc1 hb33763 => ?_) (fun hc1 hb33763 => ?_)
    · refine G2 6 [23] [] [] E (IxA hb33763 (Own.rds hO1 1 E) E E fun x1 _ _ _ hr1 hc2 _ hb33763 => ?_)
      obtain ⟨A7, c7, rfl, hl5, hA6⟩ := hr1
      refine Q3 1 [] [] [64] (Z1 hc2) E (Al E fun _ => Q1 6 [0, 0] E (So E (O_bsl (z := [.int .i64 0, .slice none 0 0]) E E E E E E E (F_cons (cells' := [.int .i64 x1.tour.Vehicle, .slice A7 x1.tour.Stops.length c7]) E E E E (F_nil (fun g4 => Q0 0 E (So E (O_append E ?_))))))))
      obtain ⟨_, hz1, hb33763⟩ := obind hb33763
      refine sem_appR (r := r_api_Tour) Tt_ok E E E E (by decide) E E 2 E hO2 E (Own.rds (Own.lit (r := r_api_Tour) (e := 51) (g := g4) (xs := [x1.tour]) (cs := [.int .i64 x1.tour.Vehicle, .slice A7 x1.tour.Stops.length c7]) (css := [[.int .i64 x1.tour.Vehicle, .slice A7 x1.tour.Stops.length c7]]) E (All2.cons (⟨A7, c7, E, hl5, hA6⟩) (All2.nil)) E E) 0 E) hz1 fun A8 c8 ch3 hO3 => Q0 7 E ?_
      cases hb33763
      exact Ce E ⟨_, rfl, A8, c8, ch3, fE E, sE [some 2, some 3] 4 E, (hO3)⟩
    refine G2 2 [] [23] [] E ?_
    cases hb33763
    have hq_ := hq33763 _ E
    subst hq_
    exact Ce E ⟨_, A6, c6, ch2, rfl, fE E, sE [some 0] 2 E, (hO2)⟩
  rintro _ _ _ _ h hm33751 ⟨out2, A9, c9, ch4, rfl, hF33751, hS33751, hO4⟩
  refine Atn 1 hF33751 hS33751 E E (G0 7 E ?_)
  cases h
  exact Rt [] E E (Ug [[0]] 1 (hR _ A9 c9 ch4 (hm_1.trans hm33751) hO4))
theorem dispatch_reason_fn {F : Nat} {p1 : T_api_Problem} {x1 : T_api_Plan} {d1 : Int} {v1 : Int} {A1 : Option Addr} {c1 : Nat} {A2 : Option Addr} {c2 : Nat} {A3 : Option Addr} {c3 : Nat} {A4 : Option Addr} {c4 : Nat} {A5 : Option Addr} {c5 : Nat} {res1 : Int}
    (hl1 : p1.Road.Edges.length ≤ c1 ∧ c1 ≤ maxLen) (hA1 : ArrR r_api_Edge μ A1 p1.Road.Edges) (hl2 : p1.Vehicles.length ≤ c2 ∧ c2 ≤ maxLen) (hA2 : ArrR r_api_Vehicle μ A2 p1.Vehicles) (hl3 : p1.Demands.length ≤ c3 ∧ c3 ≤ maxLen) (hA3 : ArrR r_api_Demand μ A3 p1.Demands) (hl4 : x1.Tours.length ≤ c4 ∧ c4 ≤ maxLen) (hA4 : ArrR r_api_Tour μ A4 x1.Tours) (hl5 : x1.Left.length ≤ c5 ∧ c5 ≤ maxLen) (hA5 : ArrR rInt μ A5 x1.Left) (h : dispatch_reason F p1 x1 d1 v1 = some res1)
    (hR : ∀ (μ' : Gh) , μ.le μ' → R (.int .i64 res1) μ' (L)) :
    Fn Tryz.prog 46 [.agg #[.int .i64 p1.Road.Nodes, .slice A1 p1.Road.Edges.length c1, .slice A2 p1.Vehicles.length c2, .slice A3 p1.Demands.length c3, .int .i64 p1.Unload, .int .i64 p1.UnloadSecs], .agg #[.slice A4 x1.Tours.length c4, .slice A5 x1.Left.length c5], .int .i64 d1, .int .i64 v1] μ (L) R := by
  unfold dispatch_reason at h
  refine FnS Tryz.func46 (by kernel_rfl) E Tryz.ntmps46 E E ?_
  refine G0 2 E (Al E fun _ => Q0 0 E (Al E fun _ => Q0 4 E (Dr _ Kept.refl [(true, 0), (true, 1), (true, 2), (true, 3), (true, 4), (true, 5), (true, 6), (true, 7), (true, 8), (true, 9), (true, 10), (false, 11), (true, 12)] (by kernel_rfl) (G1 3 [1] E (Ix h (ArrR.rds hA2 L) E E fun _ _ _ _ hr1 hc1 _ h => ?_)))))
  obtain rfl := hr1
  refine Q3 4 [] [] [64, 1] (Z1 (hc1.push.push)) E (Ix h (ArrR.rds hA3 L) E E fun _ _ _ _ hr2 hc2 _ h => ?_)
  obtain rfl := hr2
  refine Q3 2 [] [] [66] (Z1 (hc2.push.push)) E (Cl E ?_)
  obtain ⟨_, hx3, h⟩ := obind h
  refine vehicle_Carries_fn  hx3 (?_)
  refine ⟨Kept.refl, ?_⟩
  refine Q0 2 E ?_
  refine Br h 26 E E (fun hc3 h => ?_) (fun hc3 h => ?_)
  · refine G2 5 [26] [] [] E ?_
    cases h
    exact Rt [] E E (Ug [] 2 (hR _ (Gh.le.refl _)))
  refine G2 4 [] [26] [] E (Dr _ Kept.refl [(true, 0), (true, 1), (true, 2), (true, 3), (true, 4), (true, 5), (true, 6), (true, 7), (true, 8), (true, 9), (true, 10), (true, 11), (true, 12)] (by kernel_rfl) (G1 3 [1] E (Ix h (ArrR.rds hA3 L) E E fun _ _ _ _ hr3 hc4 _ h => ?_)))
  obtain rfl := hr3
  refine Q3 5 [] [] [67, 1] (Z1 (hc4.push.push)) E (Ix h (ArrR.rds hA2 L) E E fun _ _ _ _ hr4 hc5 _ h => ?_)
  obtain rfl := hr4
  refine Q3 4 [] [] [68] (Z1 (hc5.push.push)) E ?_
  refine Br h 39 E E (fun hc6 h => ?_) (fun hc6 h => ?_)
  · refine G2 5 [39] [] [] E ?_
    cases h
    exact Rt [] E E (Ug [] 2 (hR _ (Gh.le.refl _)))
  refine G2 8 [] [39] [1] E (So E (O_bsl (z := [.int .i64 0, .int .i64 0]) E E E E E E E (F_cons (cells' := [.int .i64 d1, .int .i64 0]) E E E E (F_cons (cells' := [.int .i64 d1, .int .i64 (-1)]) E E E E (F_nil (fun g3 => Q0 1 E (Cl E ?_)))))))
  have hl6 : [d1, (-1)].length ≤ 2 ∧ 2 ≤ maxLen := ⟨Nat.le_refl _, by unfold maxLen; omega⟩
  refine Fn.pre Tryz.func26 (by kernel_rfl) E (Upd.frzOwn 0 E (Own.lit (r := rInt) (e := 3) (g := g3) (xs := [d1, (-1)]) (cs := [.int .i64 d1, .int .i64 (-1)]) (css := [[.int .i64 d1], [.int .i64 (-1)]]) E (All2.cons (E) (All2.cons (E) (All2.nil))) E E) fun _ hm_1 hA10 => Upd.done ?_)
  replace hA1 := hA1.mono hm_1
  replace hA2 := hA2.mono hm_1
  replace hA3 := hA3.mono hm_1
  replace hA4 := hA4.mono hm_1
  replace hA5 := hA5.mono hm_1
  obtain ⟨⟨_, _, _⟩, hx6, h⟩ := obind h
  replace h := oun_mk h
  replace h := oun_mk h
  refine tour_Walk_fn hl1 hA1 hl2 hA2 hl3 hA3 hl6 hA10 hx6 (fun _ _ _ _ hm_2 _ => ?_)
  replace hA1 := hA1.mono hm_2
  replace hA2 := hA2.mono hm_2
  replace hA3 := hA3.mono hm_2
  replace hA4 := hA4.mono hm_2
  replace hA5 := hA5.mono hm_2
  refine Q0 13 E ?_
  refine Br h 51 E E (fun hc7 h => ?_) (fun hc7 h => ?_)
  · refine G2 6 [51] [] [] E ?_
    cases h
    exact Rt [] E E (Ug [] 4 (hR _ (hm_1.trans hm_2)))
  refine G2 3 [] [51] [] E (Dr _ Kept.refl [(true, 0), (true, 1), (true, 2), (true, 4), (false, 3), (false, 5), (true, 6), (true, 7), (true, 8), (true, 9), (true, 10)] (by kernel_rfl) (G1 4 [3, 2] E (Cl E ?_)))
  obtain ⟨_, hx7, h⟩ := obind h
  refine dispatch_of_fn hl4 hA4 hl5 hA5 hx7 (fun _ _ hl7 hA11 => ?_)
  refine ⟨Kept.refl, ?_⟩
  refine Q0 0 E (Cl E ?_)
  obtain ⟨⟨_, _⟩, hx8, h⟩ := obind h
  replace h := oun_mk h
  refine insert_Options_fn hl1 hA1 hl2 hA2 hl3 hA3 hl7 hA11 hx8 (fun _ _ _ _ hm_3 _ => ?_)
  refine ⟨Kept.more (Kept.refl), ?_⟩
  refine Q0 12 E ?_
  refine Br h 63 E E (fun hc8 h => ?_) (fun hc8 h => ?_)
  · refine G2 6 [63] [] [] E ?_
    cases h
    exact Rt [] E E (Ug [] 5 (hR _ (hm_1.trans (hm_2.trans hm_3))))
  refine G2 9 [] [63] [] E ?_
  refine Br h 67 E E (fun hc9 h => ?_) (fun hc9 h => ?_)
  · refine G2 5 [67] [] [] E ?_
    cases h
    exact Rt [] E E (Ug [] 5 (hR _ (hm_1.trans (hm_2.trans hm_3))))
  refine G2 6 [] [67] [] E ?_
  cases h
  exact Rt [] E E (Ug [] 5 (hR _ (hm_1.trans (hm_2.trans hm_3))))
theorem dispatch_Why_fn {F : Nat} {p1 : T_api_Problem} {x1 : T_api_Plan} {d1 : Int} {A1 : Option Addr} {c1 : Nat} {A2 : Option Addr} {c2 : Nat} {A3 : Option Addr} {c3 : Nat} {A4 : Option Addr} {c4 : Nat} {A5 : Option Addr} {c5 : Nat} {res1 : (List T_api_Reason)} {res2 : Int}
    (hl1 : p1.Road.Edges.length ≤ c1 ∧ c1 ≤ maxLen) (hA1 : ArrR r_api_Edge μ A1 p1.Road.Edges) (hl2 : p1.Vehicles.length ≤ c2 ∧ c2 ≤ maxLen) (hA2 : ArrR r_api_Vehicle μ A2 p1.Vehicles) (hl3 : p1.Demands.length ≤ c3 ∧ c3 ≤ maxLen) (hA3 : ArrR r_api_Demand μ A3 p1.Demands) (hl4 : x1.Tours.length ≤ c4 ∧ c4 ≤ maxLen) (hA4 : ArrR r_api_Tour μ A4 x1.Tours) (hl5 : x1.Left.length ≤ c5 ∧ c5 ≤ maxLen) (hA5 : ArrR rInt μ A5 x1.Left) (h : dispatch_Why F p1 x1 d1 = some (res1, res2))
    (hR : ∀ (μ' : Gh) (A0 : Option Addr) (c0 : Nat) (ch0 : Seg), μ.le μ' → Own r_api_Reason 56 μ' (.slice A0 res1.length c0) res1 ch0 → R (.tuple #[.slice A0 res1.length c0, .int .i64 res2]) μ' (ch0 :: L)) :
    Fn Tryz.prog 18 [.agg #[.int .i64 p1.Road.Nodes, .slice A1 p1.Road.Edges.length c1, .slice A2 p1.Vehicles.length c2, .slice A3 p1.Demands.length c3, .int .i64 p1.Unload, .int .i64 p1.UnloadSecs], .agg #[.slice A4 x1.Tours.length c4, .slice A5 x1.Left.length c5], .int .i64 d1] μ (L) R := by
  unfold dispatch_Why at h
  refine FnS Tryz.func18 (by kernel_rfl) E Tryz.ntmps18 E E ?_
  refine G0 2 E (Al E fun g1 => Q0 0 E (Al E fun g2 => Q1 8 [1, 0] E (Cl E ?_)))
  obtain ⟨_, hx1, h⟩ := obind h
  refine tour_Feasible_fn hl1 hA1 hl2 hA2 hl3 hA3 hl4 hA4 hl5 hA5 hx1 (fun _ hm_1 => ?_)
  replace hA1 := hA1.mono hm_1
  replace hA2 := hA2.mono hm_1
  replace hA3 := hA3.mono hm_1
  replace hA4 := hA4.mono hm_1
  replace hA5 := hA5.mono hm_1
  refine Q0 7 E ?_
  refine Br h 15 E E (fun hc1 h => ?_) (fun hc1 h => ?_)
  · refine G2 7 [15] [] [] E ?_
    cases h
    exact Rt [] E E (Ug [[]] 2 (hR _ none 0 [] hm_1 Own.nil))
  refine G2 4 [] [15] [] E ?_
  refine Cut h (fun f l o_ f_ μ_ l_ => ∃ (v2 : Bool), v2 = o_ ∧ SubFr ((25, .bool v2) :: keepF [2, 3, 4] f) f_ ∧ SegSub (selS [some 1, some 0] 2 l) l_) ?_ ?_
  · intro _ h33839 h
    refine G0 4 E ?_
    refine Br h33839 19 E E (fun hc2 h33839 => ?_) (fun hc2 h33839 => ?_)
    · refine G2 7 [19] [] [] E ?_
      cases h33839
      exact Ce E ⟨_, rfl, fE E, sE [some 1, some 0] 2 E⟩
    refine G2 7 [] [19] [1] E ?_
    cases h33839
    exact Ce E ⟨_, rfl, fE E, sE [some 1, some 0] 2 E⟩
  rintro _ _ _ _ h hm33839 ⟨v2, rfl, hF33839, hS33839⟩
  replace hA1 := hA1.mono hm33839
  replace hA2 := hA2.mono hm33839
  replace hA3 := hA3.mono hm33839
  replace hA4 := hA4.mono hm33839
  replace hA5 := hA5.mono hm33839
  refine Atn 2 hF33839 hS33839 E E ?_
  refine Br h 25 E E (fun hc3 h => ?_) (fun hc3 h => ?_)
  · refine G2 6 [25] [] [] E ?_
    cases h
    exact Rt [] E E (Ug [[]] 2 (hR _ none 0 [] (hm_1.trans hm33839) Own.nil))
  refine G2 8 [] [25] [1] E (Cl E ?_)
  obtain ⟨_, hx2, h⟩ := obind h
  refine slices_Contains_int_fn hl5 (ArrR.rds hA5 _) hx2 ((Q0 2 E ?_))
  refine Br h 30 E E (fun hc4 h => ?_) (fun hc4 h => ?_)
  · refine G2 6 [30] [] [] E ?_
    cases h
    exact Rt [] E E (Ug [[]] 2 (hR _ none 0 [] (hm_1.trans hm33839) Own.nil))
  refine G2 14 [] [30] [0] E ?_
  refine Cut h (fun f l o_ f_ μ_ l_ => ∃ (out2 : (List T_api_Reason)) (A8 : Option Addr) (c8 : Nat) (ch3 : Seg), out2 = o_ ∧ SubFr ((9, .slice A8 out2.length c8) :: []) f_ ∧ SegSub (ch3 :: selS [] 2 l) l_ ∧ Own r_api_Reason 56 μ_ (.slice A8 out2.length c8) out2 ch3) ?_ ?_
  · intro _ h33850 h
    refine Lp h33850 (fun f l (j_ : (List T_api_Reason) × Int) f_ μ_ l_ => ounP j_ fun out1 v3 => ∃ (A6 : Option Addr) (c6 : Nat) (ch1 : Seg), SubFr ((9, .slice A6 out1.length c6) :: (34, .int .i64 v3) :: keepF [2, 3, 4, 33] f) f_ ∧ SegSub ([(g1, .cells #[.int .i64 p1.Road.Nodes, .slice A1 p1.Road.Edges.length c1, .slice A2 p1.Vehicles.length c2, .slice A3 p1.Demands.length c3, .int .i64 p1.Unload, .int .i64 p1.UnloadSecs] 28 (0, 0))] :: [(g2, .cells #[.slice A4 x1.Tours.length c4, .slice A5 x1.Left.length c5] 33 (0, 0))] :: ch1 :: selS [] 2 l) l_ ∧ Own r_api_Reason 56 μ_ (.slice A6 out1.length c6) out1 ch1) ⟨none, 0, [], fE E, sE [some 0, some 1, none] 2 E, (Own.nil)⟩ ?_
    rintro ⟨out1, v3⟩ _ _ _ _ hm33861 ⟨A6, c6, ch1, hF33861, hS33861, hO1⟩ hb33861 hq33861
    unfold dispatch_Why_l1 at hb33861
    replace hb33861 := oun_mk hb33861
    replace hA1 := hA1.mono hm33861
    replace hA2 := hA2.mono hm33861
    replace hA3 := hA3.mono hm33861
    replace hA4 := hA4.mono hm33861
    replace hA5 := hA5.mono hm33861
    refine Atn 3 hF33861 hS33861 E E (G0 5 E ?_)
    refine Br hb33861 35 E E (fun hc5 hb33861 => ?_) (fun hc5 hb33861 => ?_)
    · refine G2 16 [35] [] [0, 1] E (Cl E ?_)
      obtain ⟨r3, hx3, hb33861⟩ := obind hb33861
      refine dispatch_reason_fn hl1 hA1 hl2 hA2 hl3 hA3 hl4 hA4 hl5 hA5 hx3 (fun _ hm_2 => ?_)
      replace hO1 := hO1.mono hm_2
      refine Q0 1 E (So E (O_bsl (z := [.int .i64 0, .int .i64 0]) E E E E E E E (F_cons (cells' := [.int .i64 v3, .int .i64 r3]) E E E E (F_nil (fun g3 => Q0 0 E (So E (O_append E ?_)))))))
      obtain ⟨_, hz1, hb33861⟩ := obind hb33861
      refine sem_appR (r := r_api_Reason) Tt_ok E E E E (by decide) E E 3 E hO1 E (Own.rds (Own.lit (r := r_api_Reason) (e := 56) (g := g3) (xs := [(T_api_Reason.mk v3 r3)]) (cs := [.int .i64 v3, .int .i64 r3]) (css := [[.int .i64 v3, .int .i64 r3]]) E (All2.cons (E) (All2.nil)) E E) 0 E) hz1 fun A7 c7 ch2 hO2 => Q0 7 E ?_
      cases hb33861
      exact Ce E ⟨_, rfl, A7, c7, ch2, fE E, sE [some 1, some 2, some 3] 4 E, (hO2)⟩
    refine G2 2 [] [35] [] E ?_
    cases hb33861
    have hq_ := hq33861 _ E
    subst hq_
    exact Ce E ⟨_, A6, c6, ch1, rfl, fE E, sE [some 2] 3 E, (hO1)⟩
  rintro _ _ _ _ h hm33850 ⟨out2, A8, c8, ch3, rfl, hF33850, hS33850, hO3⟩
  refine Atn 1 hF33850 hS33850 E E (G0 6 E ?_)
  cases h
  exact Rt [] E E (Ug [[0]] 1 (hR _ A8 c8 ch3 (hm_1.trans (hm33839.trans hm33850)) hO3))
end Go.Proofs.YthpgjbbjpfiniaaGreat
