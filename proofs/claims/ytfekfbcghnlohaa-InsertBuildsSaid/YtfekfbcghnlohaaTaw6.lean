/- Printed by gen2.py of this repo: the walks that tie the functions to their specifications. -/
import Derived.Test.YtfekfbcghnlohaaTt
import Derived.Test.YtfekfbcghnlohaaTas
import Derived.Test.YtfekfbcghnlohaaTaw1
import Derived.Test.YtfekfbcghnlohaaTaw2
import Derived.Test.YtfekfbcghnlohaaTaw4
namespace Go.Proofs.Ytfekfbcghnlohaa
open Go.RowKit
set_option linter.unusedSimpArgs false
set_option linter.unusedVariables false
set_option maxHeartbeats 2000000
set_option maxRecDepth 4000
attribute [local irreducible] WP SemOk SemU Fn AN Upd vcR vcO vcOps vcPlan putK fillK resK inBlk forkOne Cell StAt Kept KS

variable {μ : Gh} {L : List Seg} {R : Value → Gh → List Seg → Prop}
theorem recyclingref23_Build_fn {F : Nat} {p1 : T_api_Problem} {A1 : Option Addr} {c1 : Nat} {A2 : Option Addr} {c2 : Nat} {A3 : Option Addr} {c3 : Nat} {res1 : T_api_Plan} {res2 : Int}
    (hl1 : p1.Road.Edges.length ≤ c1 ∧ c1 ≤ maxLen) (hA1 : ArrR r_api_Edge μ A1 p1.Road.Edges) (hl2 : p1.Vehicles.length ≤ c2 ∧ c2 ≤ maxLen) (hA2 : ArrR r_api_Vehicle μ A2 p1.Vehicles) (hl3 : p1.Demands.length ≤ c3 ∧ c3 ≤ maxLen) (hA3 : ArrR r_api_Demand μ A3 p1.Demands) (h : recyclingref23_Build F p1 = some (res1, res2))
    (hR : ∀ (μ' : Gh) (A0_0 : Option Addr) (c0_0 : Nat) (A0_1 : Option Addr) (c0_1 : Nat), μ.le μ' → (res1.Tours.length ≤ c0_0 ∧ c0_0 ≤ maxLen) → ArrR r_api_Tour μ' A0_0 res1.Tours → (res1.Left.length ≤ c0_1 ∧ c0_1 ≤ maxLen) → ArrR rInt μ' A0_1 res1.Left → R (.tuple #[.agg #[.slice A0_0 res1.Tours.length c0_0, .slice A0_1 res1.Left.length c0_1], .int .i64 res2]) μ' (L)) :
    Fn Try.prog 20 [.agg #[.int .i64 p1.Road.Nodes, .slice A1 p1.Road.Edges.length c1, .slice A2 p1.Vehicles.length c2, .slice A3 p1.Demands.length c3, .int .i64 p1.Unload, .int .i64 p1.UnloadSecs]] μ (L) R := by
  unfold recyclingref23_Build at h
  refine FnS Try.func20 (by kernel_rfl) E Try.ntmps20 E E ?_
  refine G0 2 E (Al E fun g1 => Q0 0 E (Al E fun g2 => Q1 5 [1] E (Cl E ?_)))
  obtain ⟨_, hx1, h⟩ := obind h
  refine recyclingref22_Check_fn hl1 hA1 hl2 hA2 hl3 hA3 hx1 ((Q0 8 E ?_))
  refine Br h 23 E E (fun hc1 h => ?_) (fun hc1 h => ?_)
  · refine G2 8 [23] [] [0] E ?_
    cases h
    exact Rt [0] E E (Ug [] 2 (hR _ none 0 none 0 (Gh.le.refl _) ⟨Nat.le_refl _, Nat.zero_le _⟩ ArrR.nil ⟨Nat.le_refl _, Nat.zero_le _⟩ ArrR.nil))
  refine G2 11 [] [23] [] E ?_
  refine Cut h (fun f l o_ f_ μ_ l_ => ∃ (tours2 : (List T_api_Tour)) (A6 : Option Addr) (c6 : Nat) (ch3 : Seg), tours2 = o_ ∧ SubFr ((5, .slice A6 tours2.length c6) :: keepF [1, 2] f) f_ ∧ SegSub ([(g1, .cells #[.int .i64 p1.Road.Nodes, .slice A1 p1.Road.Edges.length c1, .slice A2 p1.Vehicles.length c2, .slice A3 p1.Demands.length c3, .int .i64 p1.Unload, .int .i64 p1.UnloadSecs] 28 (0, 0))] :: [(g2, .cells #[.slice none 0 0, .slice none 0 0] 45 (0, 0))] :: ch3 :: selS [] 2 l) l_ ∧ Own r_api_Tour 31 μ_ (.slice A6 tours2.length c6) tours2 ch3) ?_ ?_
  · intro _ h17218 h
    refine Lp h17218 (fun f l (j_ : (List T_api_Tour) × Int) f_ μ_ l_ => ounP j_ fun tours1 v1 => ∃ (A4 : Option Addr) (c4 : Nat) (ch1 : Seg), SubFr ((5, .slice A4 tours1.length c4) :: (6, .int .i64 v1) :: keepF [1, 2] f) f_ ∧ SegSub ([(g1, .cells #[.int .i64 p1.Road.Nodes, .slice A1 p1.Road.Edges.length c1, .slice A2 p1.Vehicles.length c2, .slice A3 p1.Demands.length c3, .int .i64 p1.Unload, .int .i64 p1.UnloadSecs] 28 (0, 0))] :: [(g2, .cells #[.slice none 0 0, .slice none 0 0] 45 (0, 0))] :: ch1 :: selS [] 2 l) l_ ∧ Own r_api_Tour 31 μ_ (.slice A4 tours1.length c4) tours1 ch1) ⟨none, 0, [], fE E, sE [some 1, some 0, none] 2 E, (Own.nil)⟩ ?_
    rintro ⟨tours1, v1⟩ _ _ _ _ hm17231 ⟨A4, c4, ch1, hF17231, hS17231, hO1⟩ hb17231 hq17231
    unfold recyclingref23_Build_l1 at hb17231
    replace hb17231 := oun_mk hb17231
    replace hA1 := hA1.mono hm17231
    replace hA2 := hA2.mono hm17231
    replace hA3 := hA3.mono hm17231
    refine Atn 3 hF17231 hS17231 E E (G1 9 [0] E ?_)
    refine Br hb17231 30 E E (fun hc2 hb17231 => ?_) (fun hc2 hb17231 => ?_)
    · refine G2 8 [30] [] [] E (So E (O_bsl (z := [.int .i64 0, .slice none 0 0]) E E E E E E E (F_cons (cells' := [.int .i64 v1, .slice none 0 0]) E E E E (F_nil (fun g3 => Q0 0 E (So E (O_append E ?_)))))))
      obtain ⟨_, hz1, hb17231⟩ := obind hb17231
      refine sem_appR (r := r_api_Tour) Tt_ok E E E E (by decide) E E 3 E hO1 E (Own.rds (Own.lit (r := r_api_Tour) (e := 31) (g := g3) (xs := [(T_api_Tour.mk v1 [])]) (cs := [.int .i64 v1, .slice none 0 0]) (css := [[.int .i64 v1, .slice none 0 0]]) E (All2.cons (⟨none, 0, E, ⟨Nat.le_refl _, Nat.zero_le _⟩, ArrR.nil⟩) (All2.nil)) E E) 0 E) hz1 fun A5 c5 ch2 hO2 => Q0 8 E ?_
      cases hb17231
      exact Ce E ⟨_, rfl, A5, c5, ch2, fE E, sE [some 1, some 2, some 3] 4 E, (hO2)⟩
    refine G2 2 [] [30] [] E ?_
    cases hb17231
    have hq_ := hq17231 _ E
    subst hq_
    exact Ce E ⟨_, A4, c4, ch1, rfl, fE E, sE [some 0, some 1, some 2] 3 E, (hO1)⟩
  rintro _ _ _ _ h hm17218 ⟨tours2, A6, c6, ch3, rfl, hF17218, hS17218, hO3⟩
  replace hA1 := hA1.mono hm17218
  replace hA2 := hA2.mono hm17218
  replace hA3 := hA3.mono hm17218
  refine Atn 3 hF17218 hS17218 E E (G0 2 E (Al E fun g4 => Q0 6 E ?_))
  refine Cut h (fun f l o_ f_ μ_ l_ => ∃ (tours5 : (List T_api_Tour)) (f11 : (List Int)) (A21 : Option Addr) (c21 : Nat) (ch10 : Seg) (A22 : Option Addr) (c22 : Nat) (ch11 : Seg), (tours5, f11) = o_ ∧ SubFr ((5, .slice A21 tours5.length c21) :: keepF [2, 7] f) f_ ∧ SegSub ([(g2, .cells #[.slice none 0 0, .slice none 0 0] 45 (0, 0))] :: ch10 :: [(g4, .cells #[.slice none 0 0, .slice A22 f11.length c22] 45 (0, 0))] :: ch11 :: selS [] 4 l) l_ ∧ Own r_api_Tour 31 μ_ (.slice A21 tours5.length c21) tours5 ch10 ∧ Own rInt 3 μ_ (.slice A22 f11.length c22) f11 ch11) ?_ ?_
  · intro _ h17252 h
    refine Lp h17252 (fun f l (j_ : (List T_api_Tour) × (List Int) × Int) f_ μ_ l_ => ounP j_ fun tours3 j_ => ounP j_ fun f1 d1 => ∃ (A7 : Option Addr) (c7 : Nat) (ch4 : Seg) (A8 : Option Addr) (c8 : Nat) (ch5 : Seg), SubFr ((5, .slice A7 tours3.length c7) :: (8, .int .i64 d1) :: keepF [1, 2, 7] f) f_ ∧ SegSub ([(g1, .cells #[.int .i64 p1.Road.Nodes, .slice A1 p1.Road.Edges.length c1, .slice A2 p1.Vehicles.length c2, .slice A3 p1.Demands.length c3, .int .i64 p1.Unload, .int .i64 p1.UnloadSecs] 28 (0, 0))] :: [(g2, .cells #[.slice none 0 0, .slice none 0 0] 45 (0, 0))] :: ch4 :: [(g4, .cells #[.slice none 0 0, .slice A8 f1.length c8] 45 (0, 0))] :: ch5 :: selS [] 4 l) l_ ∧ Own r_api_Tour 31 μ_ (.slice A7 tours3.length c7) tours3 ch4 ∧ Own rInt 3 μ_ (.slice A8 f1.length c8) f1 ch5) ⟨A6, c6, ch3, none, 0, [], fE E, sE [some 1, some 2, some 3, some 0, none] 4 E, (hO3), (Own.nil)⟩ ?_
    rintro ⟨tours3, f1, d1⟩ _ _ _ _ hm17489 ⟨A7, c7, ch4, A8, c8, ch5, hF17489, hS17489, hO4, hO5⟩ hb17489 hq17489
    unfold recyclingref23_Build_l3 at hb17489
    replace hb17489 := oun_mk hb17489
    replace hb17489 := oun_mk hb17489
    replace hA1 := hA1.mono hm17489
    replace hA2 := hA2.mono hm17489
    replace hA3 := hA3.mono hm17489
    refine Atn 5 hF17489 hS17489 E E (G1 9 [0] E ?_)
    refine Br hb17489 42 E E (fun hc3 hb17489 => ?_) (fun hc3 hb17489 => ?_)
    · refine G2 3 [42] [] [] E ?_
      refine Cut hb17489 (fun f l o_ f_ μ_ l_ => ∃ (tours4 : (List T_api_Tour)) (f10 : (List Int)) (A19 : Option Addr) (c19 : Nat) (ch8 : Seg) (A20 : Option Addr) (c20 : Nat) (ch9 : Seg), (tours4, f10) = o_ ∧ SubFr ((5, .slice A19 tours4.length c19) :: keepF [1, 2, 7, 8] f) f_ ∧ SegSub ([(g1, .cells #[.int .i64 p1.Road.Nodes, .slice A1 p1.Road.Edges.length c1, .slice A2 p1.Vehicles.length c2, .slice A3 p1.Demands.length c3, .int .i64 p1.Unload, .int .i64 p1.UnloadSecs] 28 (0, 0))] :: [(g2, .cells #[.slice none 0 0, .slice none 0 0] 45 (0, 0))] :: ch8 :: [(g4, .cells #[.slice none 0 0, .slice A20 f10.length c20] 45 (0, 0))] :: ch9 :: selS [] 5 l) l_ ∧ Own r_api_Tour 31 μ_ (.slice A19 tours4.length c19) tours4 ch8 ∧ Own rInt 3 μ_ (.slice A20 f10.length c20) f10 ch9) ?_ ?_
      · intro _ h17502 hb17489
        refine G0 11 E (Al E fun g5 => Q0 6 E ?_)
        refine Cut h17502 (fun f l o_ f_ μ_ l_ => ∃ (f_at3 : Int) (f8 : Int) (f9 : (List Int)) (A15 : Option Addr) (c15 : Nat), (f_at3, f8, f9) = o_ ∧ SubFr ((9, .int .i64 f_at3) :: keepF [1, 2, 5, 7, 8, 11] f) f_ ∧ SegSub ([(g1, .cells #[.int .i64 p1.Road.Nodes, .slice A1 p1.Road.Edges.length c1, .slice A2 p1.Vehicles.length c2, .slice A3 p1.Demands.length c3, .int .i64 p1.Unload, .int .i64 p1.UnloadSecs] 28 (0, 0))] :: [(g2, .cells #[.slice none 0 0, .slice none 0 0] 45 (0, 0))] :: ch4 :: [(g4, .cells #[.slice none 0 0, .slice A8 f1.length c8] 45 (0, 0))] :: ch5 :: [(g5, .cells #[.int .i64 f8, .slice A15 f9.length c15] 31 (0, 0))] :: selS [] 6 l) l_ ∧ (f9.length ≤ c15 ∧ c15 ≤ maxLen) ∧ ArrR rInt μ_ A15 f9) ?_ ?_
        · intro _ h17505 h17502
          refine Lp h17505 (fun f l (j_ : Int × Int × Int × (List Int) × Int) f_ μ_ l_ => ounP j_ fun f_at1 j_ => ounP j_ fun least1 j_ => ounP j_ fun f2 j_ => ounP j_ fun f3 v2 => ∃ (A9 : Option Addr) (c9 : Nat), SubFr ((9, .int .i64 f_at1) :: (10, .int .i64 least1) :: (12, .int .i64 v2) :: keepF [1, 2, 5, 7, 8, 11] f) f_ ∧ SegSub ([(g1, .cells #[.int .i64 p1.Road.Nodes, .slice A1 p1.Road.Edges.length c1, .slice A2 p1.Vehicles.length c2, .slice A3 p1.Demands.length c3, .int .i64 p1.Unload, .int .i64 p1.UnloadSecs] 28 (0, 0))] :: [(g2, .cells #[.slice none 0 0, .slice none 0 0] 45 (0, 0))] :: ch4 :: [(g4, .cells #[.slice none 0 0, .slice A8 f1.length c8] 45 (0, 0))] :: ch5 :: [(g5, .cells #[.int .i64 f2, .slice A9 f3.length c9] 31 (0, 0))] :: selS [] 6 l) l_ ∧ (f3.length ≤ c9 ∧ c9 ≤ maxLen) ∧ ArrR rInt μ_ A9 f3) ⟨none, 0, fE E, sE [some 1, some 2, some 3, some 4, some 5, some 0] 6 E, (⟨Nat.le_refl _, Nat.zero_le _⟩), (ArrR.nil)⟩ ?_
          rintro ⟨f_at1, least1, f2, f3, v2⟩ _ _ _ _ hm17614 ⟨A9, c9, hF17614, hS17614, hl4, hA4⟩ hb17614 hq17614
          unfold recyclingref23_Build_l2 at hb17614
          replace hb17614 := oun_mk hb17614
          replace hb17614 := oun_mk hb17614
          replace hb17614 := oun_mk hb17614
          replace hb17614 := oun_mk hb17614
          replace hA1 := hA1.mono hm17614
          replace hA2 := hA2.mono hm17614
          replace hA3 := hA3.mono hm17614
          replace hO4 := hO4.mono hm17614
          replace hO5 := hO5.mono hm17614
          refine Atn 6 hF17614 hS17614 E E (G0 8 E ?_)
          refine Br hb17614 48 E E (fun hc4 hb17614 => ?_) (fun hc4 hb17614 => ?_)
          · refine G2 3 [48] [] [] E ?_
            refine Cut hb17614 (fun f l o_ f_ μ_ l_ => ∃ (f_at2 : Int) (least2 : Int) (f6 : Int) (f7 : (List Int)) (A14 : Option Addr) (c14 : Nat), (f_at2, least2, f6, f7) = o_ ∧ SubFr ((9, .int .i64 f_at2) :: (10, .int .i64 least2) :: keepF [1, 2, 5, 7, 8, 11, 12] f) f_ ∧ SegSub ([(g1, .cells #[.int .i64 p1.Road.Nodes, .slice A1 p1.Road.Edges.length c1, .slice A2 p1.Vehicles.length c2, .slice A3 p1.Demands.length c3, .int .i64 p1.Unload, .int .i64 p1.UnloadSecs] 28 (0, 0))] :: [(g2, .cells #[.slice none 0 0, .slice none 0 0] 45 (0, 0))] :: ch4 :: [(g4, .cells #[.slice none 0 0, .slice A8 f1.length c8] 45 (0, 0))] :: ch5 :: [(g5, .cells #[.int .i64 f6, .slice A14 f7.length c14] 31 (0, 0))] :: selS [] 6 l) l_ ∧ (f7.length ≤ c14 ∧ c14 ≤ maxLen) ∧ ArrR rInt μ_ A14 f7) ?_ ?_
            · intro _ h17629 hb17614
              refine G0 2 E ?_
              refine Cut h17629 (fun f l o_ f_ μ_ l_ => ∃ (f4 : Int) (f5 : (List Int)) (e1 : Int) (g7 : Nat) (A12 : Option Addr) (c12 : Nat), (f4, f5, e1) = o_ ∧ SubFr ((13, .pointer (some ⟨g7, 0, none⟩)) :: (14, .int .i64 e1) :: keepF [1, 2, 5, 7, 8, 9, 10, 11, 12] f) f_ ∧ SegSub ([(g1, .cells #[.int .i64 p1.Road.Nodes, .slice A1 p1.Road.Edges.length c1, .slice A2 p1.Vehicles.length c2, .slice A3 p1.Demands.length c3, .int .i64 p1.Unload, .int .i64 p1.UnloadSecs] 28 (0, 0))] :: [(g2, .cells #[.slice none 0 0, .slice none 0 0] 45 (0, 0))] :: ch4 :: [(g4, .cells #[.slice none 0 0, .slice A8 f1.length c8] 45 (0, 0))] :: ch5 :: [(g5, .cells #[.int .i64 f2, .slice A9 f3.length c9] 31 (0, 0))] :: [(g7, .cells #[.int .i64 f4, .slice A12 f5.length c12] 31 (0, 0))] :: selS [] 6 l) l_ ∧ (f5.length ≤ c12 ∧ c12 ≤ maxLen) ∧ ArrR rInt μ_ A12 f5) ?_ ?_
              · intro _ h17649 h17629
                refine Cd (WP.draw (id := 19) wide _ Kept.refl E (AN.run (fuel := 7) (listed' := [true, true, true, true, true, true, false, false, false, false, false, false, false]) Tt_ok [(true, 0), (true, 1), (true, 2), (true, 3), (true, 4), (true, 5)] (by kernel_rfl) (by kernel_rfl) E (PL_t E (R_loadA E E E E (LA_ (vs := [.int .i64 p1.Road.Nodes, .slice A1 p1.Road.Edges.length c1, .slice A2 p1.Vehicles.length c2, .slice A3 p1.Demands.length c3, .int .i64 p1.Unload, .int .i64 p1.UnloadSecs]) 0 0 E E E E (Pt E E (R_move E (Pt E E (R_move E (Pt E E ?_))))))))))
                obtain ⟨x1, hx2, h17649⟩ := obind h17649
                obtain ⟨_, _, hA5, hr1, _, hc5⟩ := Rds.getI (Own.rds (L := ([(g1, .cells #[.int .i64 p1.Road.Nodes, .slice A1 p1.Road.Edges.length c1, .slice A2 p1.Vehicles.length c2, .slice A3 p1.Demands.length c3, .int .i64 p1.Unload, .int .i64 p1.UnloadSecs] 28 (0, 0))] :: [(g2, .cells #[.slice none 0 0, .slice none 0 0] 45 (0, 0))] :: ch4 :: [(g4, .cells #[.slice none 0 0, .slice A8 f1.length c8] 45 (0, 0))] :: ch5 :: [(g5, .cells #[.int .i64 f2, .slice A9 f3.length c9] 31 (0, 0))] :: L)) hO4 2 rfl) hx2
                obtain ⟨A10, c10, rfl, hl5, hA6⟩ := hr1
                refine R_iaG E E E E E E ⟨(getI_lt hx2).1, (getI_lt hx2).2.1⟩ hA5 (Pt E E (R_loadA E E E E (Ex.mk [.int .i64 x1.Vehicle, .slice A10 x1.Stops.length c10] ⟨rfl, hc5⟩ (Pt E E (R_move E (P_some E (PL_nil ?_)))))))
                refine FK_2 Tt_ok (a := 6) (b := 10) (by kernel_rfl) ?_ ?_
                · refine FO_ E E (O_call (all := [.agg #[.int .i64 p1.Road.Nodes, .slice A1 p1.Road.Edges.length c1, .slice A2 p1.Vehicles.length c2, .slice A3 p1.Demands.length c3, .int .i64 p1.Unload, .int .i64 p1.UnloadSecs], .agg #[.int .i64 x1.Vehicle, .slice A10 x1.Stops.length c10], .int .i64 d1]) E E E ?_)
                  obtain ⟨⟨r2, r3⟩, hx3, h17649⟩ := obind h17649
                  replace h17649 := oun_mk h17649
                  refine recyclingref23_Best_fn hl1 hA1 hl2 hA2 hl3 hA3 hl5 hA6 hx3 (fun v3 A11 c11 hm_1 hl6 hA7 => ?_)
                  replace hA1 := hA1.mono hm_1
                  replace hA2 := hA2.mono hm_1
                  replace hA3 := hA3.mono hm_1
                  replace hO4 := hO4.mono hm_1
                  replace hO5 := hO5.mono hm_1
                  replace hA4 := hA4.mono hm_1
                  replace hA6 := hA6.mono hm_1
                  refine ⟨Kept.refl, ?_⟩
                  refine P_some E (AN.run (fuel := 0) (listed' := [true, true, true, true, true, true, true, true, true, true, true, true, true]) Tt_ok [(true, 7), (true, 8), (true, 9), (false, 10), (false, 11), (true, 12)] (by kernel_rfl) (by kernel_rfl) E (PL_t E (R_move E (Pt E E (R_ext E E (Pt E E (R_ext E E (P_some E (PL_f E (O_alloc (cs := #[.int .i64 0, .slice none 0 0]) E E (fun g6 => ?_)))))))))))
                  refine ⟨Kept.more (Kept.refl), ?_⟩
                  refine P_some E (PL_f E (O_store (vs := [.int .i64 r2.Vehicle, .slice A11 r2.Stops.length c11]) E E E E E E (ST_ (L' := ([(g6, .cells #[.int .i64 r2.Vehicle, .slice A11 r2.Stops.length c11] 31 (0, 0))] :: [(g1, .cells #[.int .i64 p1.Road.Nodes, .slice A1 p1.Road.Edges.length c1, .slice A2 p1.Vehicles.length c2, .slice A3 p1.Demands.length c3, .int .i64 p1.Unload, .int .i64 p1.UnloadSecs] 28 (0, 0))] :: [(g2, .cells #[.slice none 0 0, .slice none 0 0] 45 (0, 0))] :: ch4 :: [(g4, .cells #[.slice none 0 0, .slice A8 f1.length c8] 45 (0, 0))] :: ch5 :: [(g5, .cells #[.int .i64 f2, .slice A9 f3.length c9] 31 (0, 0))] :: L)) 0 0 E E E E ?_)))
                  refine ⟨Kept.more (Kept.refl), ?_⟩
                  refine P_none (PL_t E (R_assign E (P_some E (PL_nil (AN.done0 (by kernel_rfl) ?_)))))
                  cases h17649
                  exact Ce E ⟨_, _, _, g6, A11, c11, rfl, fE E, sE [some 1, some 2, some 3, some 4, some 5, some 6, some 0] 7 E, (hl6), (hA7)⟩
                obtain ⟨⟨r2, r3⟩, hx3, h17649⟩ := obind h17649
                replace h17649 := oun_mk h17649
                refine FO_ E E (O_alloc (cs := #[.int .i64 0, .slice none 0 0]) E E (fun g6 => ?_))
                refine ⟨Kept.more (Kept.refl), ?_⟩
                refine P_some E (AN.run (fuel := 0) (listed' := [true, true, true, true, true, true, true, true, true, true, true, true, true]) Tt_ok [(false, 6), (true, 7), (true, 8), (true, 9), (false, 11), (true, 12)] (by kernel_rfl) (by kernel_rfl) E (PL_f E (O_call (all := [.agg #[.int .i64 p1.Road.Nodes, .slice A1 p1.Road.Edges.length c1, .slice A2 p1.Vehicles.length c2, .slice A3 p1.Demands.length c3, .int .i64 p1.Unload, .int .i64 p1.UnloadSecs], .agg #[.int .i64 x1.Vehicle, .slice A10 x1.Stops.length c10], .int .i64 d1]) E E E (recyclingref23_Best_fn hl1 hA1 hl2 hA2 hl3 hA3 hl5 hA6 hx3 (fun v3 A11 c11 hm_1 hl6 hA7 => ?_)))))
                replace hA1 := hA1.mono hm_1
                replace hA2 := hA2.mono hm_1
                replace hA3 := hA3.mono hm_1
                replace hO4 := hO4.mono hm_1
                replace hO5 := hO5.mono hm_1
                replace hA4 := hA4.mono hm_1
                refine ⟨Kept.more (Kept.refl), ?_⟩
                refine Pt E E (R_move E (Pt E E (R_ext E E (Pt E E (R_ext E E (P_some E (PL_f E (O_store (vs := [.int .i64 r2.Vehicle, .slice A11 r2.Stops.length c11]) E E E E E E (ST_ (L' := ([(g6, .cells #[.int .i64 r2.Vehicle, .slice A11 r2.Stops.length c11] 31 (0, 0))] :: [(g1, .cells #[.int .i64 p1.Road.Nodes, .slice A1 p1.Road.Edges.length c1, .slice A2 p1.Vehicles.length c2, .slice A3 p1.Demands.length c3, .int .i64 p1.Unload, .int .i64 p1.UnloadSecs] 28 (0, 0))] :: [(g2, .cells #[.slice none 0 0, .slice none 0 0] 45 (0, 0))] :: ch4 :: [(g4, .cells #[.slice none 0 0, .slice A8 f1.length c8] 45 (0, 0))] :: ch5 :: [(g5, .cells #[.int .i64 f2, .slice A9 f3.length c9] 31 (0, 0))] :: L)) 0 0 E E E E ?_)))))))))
                refine ⟨Kept.more (Kept.refl), ?_⟩
                refine P_none (PL_t E (R_assign E (P_some E (PL_nil (AN.done0 (by kernel_rfl) ?_)))))
                cases h17649
                exact Ce E ⟨_, _, _, g6, A11, c11, rfl, fE E, sE [some 1, some 2, some 3, some 4, some 5, some 6, some 0] 7 E, (hl6), (hA7)⟩
              rintro _ _ _ _ h17629 hm17649 ⟨f4, f5, e1, g7, A12, c12, rfl, hF17649, hS17649, hl7, hA8⟩
              replace h17629 := oun_mk h17629
              replace h17629 := oun_mk h17629
              replace hA1 := hA1.mono hm17649
              replace hA2 := hA2.mono hm17649
              replace hA3 := hA3.mono hm17649
              replace hO4 := hO4.mono hm17649
              replace hO5 := hO5.mono hm17649
              replace hA4 := hA4.mono hm17649
              refine Atn 7 hF17649 hS17649 E E (G0 6 E ?_)
              refine Br h17629 62 E E (fun hc6 h17629 => ?_) (fun hc6 h17629 => ?_)
              · refine G2 2 [62] [] [] E ?_
                cases h17629
                exact Ce E ⟨_, _, _, _, A9, c9, rfl, fE E, sE [some 0, some 1, some 2, some 3, some 4, some 5] 7 E, (hl4), (hA4)⟩
              refine G2 6 [] [62] [0, 6] E (Cl E ?_)
              obtain ⟨⟨_, _⟩, hx4, h17629⟩ := obind h17629
              replace h17629 := oun_mk h17629
              refine recyclingref22_Cost_fn hl1 hA1 hl2 hA2 hl3 hA3 hl7 hA8 hx4 ((Q0 7 E (Dr _ Kept.refl [(true, 0), (true, 1), (true, 2), (true, 3), (true, 4), (false, 5), (true, 6), (true, 7), (true, 8), (true, 9), (true, 10)] (by kernel_rfl) (G1 3 [0] E (Ix h17629 (Own.rds (L := ([(g1, .cells #[.int .i64 p1.Road.Nodes, .slice A1 p1.Road.Edges.length c1, .slice A2 p1.Vehicles.length c2, .slice A3 p1.Demands.length c3, .int .i64 p1.Unload, .int .i64 p1.UnloadSecs] 28 (0, 0))] :: [(g2, .cells #[.slice none 0 0, .slice none 0 0] 45 (0, 0))] :: ch4 :: [(g4, .cells #[.slice none 0 0, .slice A8 f1.length c8] 45 (0, 0))] :: ch5 :: [(g5, .cells #[.int .i64 f2, .slice A9 f3.length c9] 31 (0, 0))] :: [(g7, .cells #[.int .i64 f4, .slice A12 f5.length c12] 31 (0, 0))] :: L)) hO4 2 E) E E fun _ _ _ _ hr2 hc7 _ h17629 => ?_)))))
              obtain ⟨_, _, rfl, hl8, hA10⟩ := hr2
              refine Q3 1 [] [] [64] (Z1 hc7) E (Cl E ?_)
              obtain ⟨⟨_, _⟩, hx6, h17629⟩ := obind h17629
              replace h17629 := oun_mk h17629
              refine recyclingref22_Cost_fn hl1 hA1 hl2 hA2 hl3 hA3 hl8 hA10 hx6 (?_)
              refine ⟨Kept.refl, ?_⟩
              refine Q0 7 E ?_
              refine Cut h17629 (fun f l o_ f_ μ_ l_ => ∃ (v4 : Bool), v4 = o_ ∧ SubFr ((86, .bool v4) :: keepF [1, 2, 5, 7, 8, 9, 10, 11, 12, 13, 15, 17] f) f_ ∧ SegSub l l_) ?_ ?_
              · intro _ h17703 h17629
                refine G0 4 E ?_
                refine Br h17703 80 E E (fun hc8 h17703 => ?_) (fun hc8 h17703 => ?_)
                · refine G2 7 [80] [] [] E ?_
                  cases h17703
                  exact Ce E ⟨_, rfl, fE E, sE [some 0, some 1, some 2, some 3, some 4, some 5, some 6] 7 E⟩
                refine G2 7 [] [80] [] E ?_
                cases h17703
                exact Ce E ⟨_, rfl, fE E, sE [some 0, some 1, some 2, some 3, some 4, some 5, some 6] 7 E⟩
              rintro _ _ _ _ h17629 hm17703 ⟨v4, rfl, hF17703, hS17703⟩
              replace hO4 := hO4.mono hm17703
              replace hO5 := hO5.mono hm17703
              replace hA4 := hA4.mono hm17703
              replace hA8 := hA8.mono hm17703
              refine Atn 7 hF17703 hS17703 E E ?_
              refine Br h17629 86 E E (fun hc9 h17629 => ?_) (fun hc9 h17629 => ?_)
              · refine G2 18 [86] [] [6, 5] E ?_
                cases h17629
                exact Ce E ⟨_, _, _, _, A12, c12, rfl, fE E, sE [some 0, some 1, some 2, some 3, some 4, some 5] 7 E, (hl7), (hA8)⟩
              refine G2 3 [] [86] [] E ?_
              cases h17629
              exact Ce E ⟨_, _, _, _, A9, c9, rfl, fE E, sE [some 0, some 1, some 2, some 3, some 4, some 5] 7 E, (hl4), (hA4)⟩
            rintro _ _ _ _ hb17614 hm17629 ⟨f_at2, least2, f6, f7, A14, c14, rfl, hF17629, hS17629, hl9, hA11⟩
            replace hb17614 := oun_mk hb17614
            replace hb17614 := oun_mk hb17614
            replace hb17614 := oun_mk hb17614
            replace hO4 := hO4.mono hm17629
            replace hO5 := hO5.mono hm17629
            replace hA4 := hA4.mono hm17629
            refine Atn 6 hF17629 hS17629 E E (G0 5 E ?_)
            cases hb17614
            exact Ce E ⟨_, rfl, A14, c14, fE E, sE [some 0, some 1, some 2, some 3, some 4, some 5] 6 E, (hl9), (hA11)⟩
          refine G2 2 [] [48] [] E ?_
          cases hb17614
          have hq_ := hq17614 _ E
          subst hq_
          exact Ce E ⟨_, _, _, A9, c9, rfl, fE E, sE [some 0, some 1, some 2, some 3, some 4, some 5] 6 E, (hl4), (hA4)⟩
        rintro _ _ μ17505 _ h17502 hm17505 ⟨f_at3, f8, f9, A15, c15, rfl, hF17505, hS17505, hl10, hA12⟩
        replace h17502 := oun_mk h17502
        replace h17502 := oun_mk h17502
        replace hO4 := hO4.mono hm17505
        replace hO5 := hO5.mono hm17505
        refine Atn 6 hF17505 hS17505 E E (G0 5 E ?_)
        refine Br h17502 93 E E (fun hc10 h17502 => ?_) (fun hc10 h17502 => ?_)
        · refine G2 5 [93] [] [3] E (So E (O_bsl (z := [.int .i64 0]) E E E E E E E (F_cons (cells' := [.int .i64 d1]) E E E E (F_nil (fun g8 => Q0 0 E (So E (O_append E ?_)))))))
          obtain ⟨_, hz2, h17502⟩ := obind h17502
          refine sem_appR (r := rInt) Tt_ok E E E E (by decide) E E 5 E hO5 E (Own.rds (Own.lit (r := rInt) (e := 3) (g := g8) (xs := [d1]) (cs := [.int .i64 d1]) (css := [[.int .i64 d1]]) E (All2.cons (E) (All2.nil)) E E) 0 E) hz2 fun A16 c16 ch6 hO6 => Q1 4 [4] E ?_
          cases h17502
          exact Ce E ⟨_, _, A7, c7, ch4, A16, c16, ch6, rfl, fE E, sE [some 1, some 2, some 3, some 4, some 5] 7 E, (hO4), (hO6)⟩
        refine G2 5 [] [93] [5] E (IxA h17502 (Own.rds hO4 2 E) E E fun _ a3 _ hx7 hr3 _ hA13 h17502 => ?_)
        obtain ⟨_, _, rfl, _, _⟩ := hr3
        refine Q0 0 E (So E (O_store (vs := [.int .i64 f8, .slice A15 f9.length c15]) E E E E E E ?_))
        rw [← Addr.add_zero' ((a3.add (f_at3.toNat * 2)))]
        refine Own.store (μ := μ17505) (r := r_api_Tour) (x' := (T_api_Tour.mk f8 f9)) (o := 0) (sz := 2) 2 rfl hO4 hA13 hx7 rfl rfl (by rintro _ ⟨A18, c18, rfl, hl12, hA15⟩; exact ⟨A15, c15, rfl, hl10, hA12⟩) fun ch7 hO7 => ?_
        rw [← length_setI tours3 f_at3 (T_api_Tour.mk f8 f9)] at hO7 ⊢
        refine Q0 2 E ?_
        cases h17502
        exact Ce E ⟨_, _, A7, c7, ch7, A8, c8, ch5, rfl, fE E, sE [some 0, some 1, some 2, some 3, some 4] 6 E, (hO7), (hO5)⟩
      rintro _ _ _ _ hb17489 hm17502 ⟨tours4, f10, A19, c19, ch8, A20, c20, ch9, rfl, hF17502, hS17502, hO8, hO9⟩
      replace hb17489 := oun_mk hb17489
      replace hO4 := hO4.mono hm17502
      replace hO5 := hO5.mono hm17502
      refine Atn 5 hF17502 hS17502 E E (G0 5 E ?_)
      cases hb17489
      exact Ce E ⟨_, rfl, A19, c19, ch8, A20, c20, ch9, fE E, sE [some 0, some 1, some 2, some 3, some 4] 5 E, (hO8), (hO9)⟩
    refine G2 2 [] [42] [] E ?_
    cases hb17489
    have hq_ := hq17489 _ E
    subst hq_
    exact Ce E ⟨_, _, A7, c7, ch4, A8, c8, ch5, rfl, fE E, sE [some 1, some 2, some 3, some 4] 5 E, (hO4), (hO5)⟩
  rintro _ _ _ _ h hm17252 ⟨tours5, f11, A21, c21, ch10, A22, c22, ch11, rfl, hF17252, hS17252, hO10, hO11⟩
  replace h := oun_mk h
  refine Atn 4 hF17252 hS17252 E E (G0 5 E ?_)
  refine Cut h (fun f l o_ f_ μ_ l_ => ∃ (f14 : (List T_api_Tour)) (A28 : Option Addr) (c28 : Nat) (ch15 : Seg), f14 = o_ ∧ SubFr (keepF [2, 7] f) f_ ∧ SegSub ([(g2, .cells #[.slice none 0 0, .slice none 0 0] 45 (0, 0))] :: [(g4, .cells #[.slice A28 f14.length c28, .slice A22 f11.length c22] 45 (0, 0))] :: ch15 :: selS [] 3 l) l_ ∧ Own r_api_Tour 31 μ_ (.slice A28 f14.length c28) f14 ch15) ?_ ?_
  · intro _ h17757 h
    refine Lp h17757 (fun f l (j_ : (List T_api_Tour) × Int) f_ μ_ l_ => ounP j_ fun f12 v5 => ∃ (A23 : Option Addr) (c23 : Nat) (ch12 : Seg), SubFr ((19, .int .i64 v5) :: keepF [2, 5, 7] f) f_ ∧ SegSub ([(g2, .cells #[.slice none 0 0, .slice none 0 0] 45 (0, 0))] :: ch10 :: [(g4, .cells #[.slice A23 f12.length c23, .slice A22 f11.length c22] 45 (0, 0))] :: ch12 :: selS [] 3 l) l_ ∧ Own r_api_Tour 31 μ_ (.slice A23 f12.length c23) f12 ch12) ⟨none, 0, [], fE E, sE [some 0, some 1, some 2, none, some 3] 4 E, (Own.nil)⟩ ?_
    rintro ⟨f12, v5⟩ _ _ _ _ hm17811 ⟨A23, c23, ch12, hF17811, hS17811, hO12⟩ hb17811 hq17811
    unfold recyclingref23_Build_l4 at hb17811
    replace hb17811 := oun_mk hb17811
    replace hO10 := hO10.mono hm17811
    replace hO11 := hO11.mono hm17811
    refine Atn 5 hF17811 hS17811 E E (G0 8 E ?_)
    refine Br hb17811 107 E E (fun hc12 hb17811 => ?_) (fun hc12 hb17811 => ?_)
    · refine G2 3 [107] [] [] E ?_
      refine Cut hb17811 (fun f l o_ f_ μ_ l_ => ∃ (f13 : (List T_api_Tour)) (A27 : Option Addr) (c27 : Nat) (ch14 : Seg), f13 = o_ ∧ SubFr (keepF [2, 5, 7, 19] f) f_ ∧ SegSub ([(g2, .cells #[.slice none 0 0, .slice none 0 0] 45 (0, 0))] :: ch10 :: [(g4, .cells #[.slice A27 f13.length c27, .slice A22 f11.length c22] 45 (0, 0))] :: ch14 :: selS [] 4 l) l_ ∧ Own r_api_Tour 31 μ_ (.slice A27 f13.length c27) f13 ch14) ?_ ?_
      · intro _ h17820 hb17811
        refine G0 5 E (IxA h17820 (Own.rds hO10 1 E) E E fun _ _ _ _ hr4 hc13 _ h17820 => ?_)
        obtain ⟨_, _, rfl, _, _⟩ := hr4
        refine Q3 5 [] [] [65] (Z1 hc13) E ?_
        refine Br h17820 116 E E (fun hc14 h17820 => ?_) (fun hc14 h17820 => ?_)
        · refine G2 1 [116] [] [] E (Cd (WP.drawB (id := 34) (l' := List.replicate 9 true ++ [false]) wide Tt_ok ([(g2, .cells #[.slice none 0 0, .slice none 0 0] 45 (0, 0))] :: ch10 :: [(g4, .cells #[.slice A23 f12.length c23, .slice A22 f11.length c22] 45 (0, 0))] :: ch11 :: L) (Kp [0, 1, 2, 4] 5 E) 9 [] [(true, 0), (true, 1), (true, 2), (true, 3), (true, 4), (true, 5), (false, 6), (false, 7), (true, 8)] (by kernel_rfl) (by kernel_rfl) E (by kernel_rfl) (by kernel_rfl) (PL_t E (R_fa0 (o' := 0) E E E E E E (Pt E E (R_load E E E (Ex.mk _ (Cell.seg 2 0 E E E) (Pt E E (R_move E (Pt E E (R_move E (Pt E E ?_))))))))))))
          obtain ⟨x5, hx9, h17820⟩ := obind h17820
          obtain ⟨_, _, hA18, hr5, _, hc15⟩ := Rds.getI (Own.rds (L := ([(g2, .cells #[.slice none 0 0, .slice none 0 0] 45 (0, 0))] :: ch10 :: [(g4, .cells #[.slice A23 f12.length c23, .slice A22 f11.length c22] 45 (0, 0))] :: ch11 :: L)) hO10 1 rfl) hx9
          obtain ⟨A25, c25, rfl, hl14, hA19⟩ := hr5
          refine R_iaG E E E E E E ⟨(getI_lt hx9).1, (getI_lt hx9).2.1⟩ hA18 (Pt E E (R_loadA E E E E (Ex.mk [.int .i64 x5.Vehicle, .slice A25 x5.Stops.length c25] ⟨rfl, hc15⟩ (P_some E (PL_f E (O_bsl (z := [.int .i64 0, .slice none 0 0]) E E E E E E E (F_cons (cells' := [.int .i64 x5.Vehicle, .slice A25 x5.Stops.length c25]) E E E E (F_nil (fun g9 => ?_)))))))))
          refine ⟨Kp [1, 2, 3, 5] 6 E, ?_⟩
          refine P_some E (PL_f E (O_append E ?_))
          obtain ⟨l3, hz3, h17820⟩ := obind h17820
          refine sem_appR (r := r_api_Tour) Tt_ok E E E E (by decide) E E 4 E hO12 E (Own.rds (Own.lit (r := r_api_Tour) (e := 31) (g := g9) (xs := [x5]) (cs := [.int .i64 x5.Vehicle, .slice A25 x5.Stops.length c25]) (css := [[.int .i64 x5.Vehicle, .slice A25 x5.Stops.length c25]]) E (All2.cons (⟨A25, c25, E, hl14, hA19⟩) (All2.nil)) E E) 0 E) hz3 fun A26 c26 ch13 hO13 => ?_
          refine ⟨Kp [1, 2, 3, 5] 6 E, ?_⟩
          refine Pt E E (R_fa0 (o' := 0) E E E E E E (P_some E (PL_nil (last_ E (O_store (vs := [.slice A26 l3.length c26]) E E E E E E (ST_ (L' := ([(g9, .cells #[.int .i64 x5.Vehicle, .slice A25 x5.Stops.length c25] 31 (0, 0))] :: [(g2, .cells #[.slice none 0 0, .slice none 0 0] 45 (0, 0))] :: ch10 :: [(g4, .cells #[.slice A26 l3.length c26, .slice A22 f11.length c22] 45 (0, 0))] :: ch13 :: ch11 :: L)) 3 0 E E E E (P_none (G0 1 E ?_))))))))
          cases h17820
          exact Ce E ⟨_, A26, c26, ch13, rfl, fE E, sE [some 1, some 2, some 3, some 4, some 5] 6 E, (hO13)⟩
        refine G2 3 [] [116] [] E ?_
        cases h17820
        exact Ce E ⟨_, A23, c23, ch12, rfl, fE E, sE [some 0, some 1, some 2, some 3, some 4] 5 E, (hO12)⟩
      rintro _ _ _ _ hb17811 hm17820 ⟨f13, A27, c27, ch14, rfl, hF17820, hS17820, hO14⟩
      replace hO11 := hO11.mono hm17820
      replace hO12 := hO12.mono hm17820
      refine Atn 5 hF17820 hS17820 E E (G0 5 E ?_)
      cases hb17811
      exact Ce E ⟨_, rfl, A27, c27, ch14, fE E, sE [some 0, some 1, some 2, some 3, some 4] 5 E, (hO14)⟩
    refine G2 2 [] [107] [] E ?_
    cases hb17811
    have hq_ := hq17811 _ E
    subst hq_
    exact Ce E ⟨_, A23, c23, ch12, rfl, fE E, sE [some 0, some 2, some 3, some 4] 5 E, (hO12)⟩
  rintro _ _ _ _ h hm17757 ⟨f14, A28, c28, ch15, rfl, hF17757, hS17757, hO15⟩
  replace hO11 := hO11.mono hm17757
  refine Atn 4 hF17757 hS17757 E E (G1 6 [1, 0] E ?_)
  cases h
  refine Rt [0] E E ?_
  have hl15 := Own.lenOk hO15
  refine Upd.frzOwn 2 E hO15 fun _ hm_2 hA20 => ?_
  replace hO11 := hO11.mono hm_2
  have hl16 := Own.lenOk hO11
  refine Upd.frzOwn 3 E hO11 fun _ hm_3 hA21 => ?_
  replace hA20 := hA20.mono hm_3
  exact (Ug [] 4 (hR _ A28 c28 A22 c22 (hm17218.trans (hm17252.trans (hm17757.trans (hm_2.trans hm_3)))) hl15 hA20 hl16 hA21))

theorem recyclinglaw23_InsertBuilds_fn {F : Nat} {p1 : T_api_Problem} {A1 : Option Addr} {c1 : Nat} {A2 : Option Addr} {c2 : Nat} {A3 : Option Addr} {c3 : Nat} {res1 : Bool}
    (hl1 : p1.Road.Edges.length ≤ c1 ∧ c1 ≤ maxLen) (hA1 : ArrR r_api_Edge μ A1 p1.Road.Edges) (hl2 : p1.Vehicles.length ≤ c2 ∧ c2 ≤ maxLen) (hA2 : ArrR r_api_Vehicle μ A2 p1.Vehicles) (hl3 : p1.Demands.length ≤ c3 ∧ c3 ≤ maxLen) (hA3 : ArrR r_api_Demand μ A3 p1.Demands) (h : recyclinglaw23_InsertBuilds F p1 = some res1)
    (hR : ∀ (μ' : Gh) , μ.le μ' → R (.bool res1) μ' (L)) :
    Fn Try.prog 4 [.agg #[.int .i64 p1.Road.Nodes, .slice A1 p1.Road.Edges.length c1, .slice A2 p1.Vehicles.length c2, .slice A3 p1.Demands.length c3, .int .i64 p1.Unload, .int .i64 p1.UnloadSecs]] μ (L) R := by
  unfold recyclinglaw23_InsertBuilds at h
  refine FnS Try.func4 (by kernel_rfl) E Try.ntmps4 E E ?_
  refine G0 2 E (Al E fun _ => Q1 6 [0] E (Cl E ?_))
  obtain ⟨_, hx1, h⟩ := obind h
  refine recyclingref22_Large_fn hl1 hA1 hl2 hA2 hl3 hA3 hx1 ((Q0 1 E ?_))
  refine Br h 8 E E (fun hc1 h => ?_) (fun hc1 h => ?_)
  · refine G2 3 [8] [] [] E (Cl E ?_)
    obtain ⟨_, hx2, h⟩ := obind h
    refine recyclinglaw23_awake_fn  hx2 (fun _ hm_1 => ?_)
    replace hA1 := hA1.mono hm_1
    replace hA2 := hA2.mono hm_1
    replace hA3 := hA3.mono hm_1
    refine Q0 2 E ?_
    cases h
    exact Rt [] E E (Ug [] 1 (hR _ hm_1))
  refine G2 5 [] [8] [0] E (Cl E ?_)
  obtain ⟨⟨_, _⟩, hx3, h⟩ := obind h
  replace h := oun_mk h
  refine insert_Build_fn hl1 hA1 hl2 hA2 hl3 hA3 hx3 (fun _ _ _ _ _ hm_2 hl4 hA4 hl5 hA5 => ?_)
  replace hA1 := hA1.mono hm_2
  replace hA2 := hA2.mono hm_2
  replace hA3 := hA3.mono hm_2
  refine Q0 3 E (Al E fun _ => Q1 6 [0, 1] E (Cl E ?_))
  obtain ⟨⟨_, _⟩, hx4, h⟩ := obind h
  replace h := oun_mk h
  refine recyclingref23_Build_fn hl1 hA1 hl2 hA2 hl3 hA3 hx4 (fun _ _ _ _ _ hm_3 hl6 hA6 hl7 hA7 => ?_)
  replace hA4 := hA4.mono hm_3
  replace hA5 := hA5.mono hm_3
  refine Q0 3 E (Al E fun _ => Q1 4 [0] E ?_)
  refine Cut h (fun f l o_ f_ μ_ l_ => ∃ (v5 : Bool), v5 = o_ ∧ SubFr ((2, .bool v5) :: []) f_ ∧ SegSub (selS [] 3 l) l_) ?_ ?_
  · intro _ h17896 h
    refine G0 5 E ?_
    refine Br h17896 23 E E (fun hc2 h17896 => ?_) (fun hc2 h17896 => ?_)
    · refine G2 4 [23] [] [1, 0] E (Cl E ?_)
      obtain ⟨_, hx5, h17896⟩ := obind h17896
      refine recyclingref23_Same_fn hl4 (ArrR.rds hA4 _) hl6 (ArrR.rds hA6 _) hx5 ((Q2 2 [23] [] [] E ?_))
      refine Br h17896 30 E E (fun hc3 h17896 => ?_) (fun hc3 h17896 => ?_)
      · refine G2 4 [30] [] [1, 0] E (Cl E ?_)
        obtain ⟨_, hx6, h17896⟩ := obind h17896
        refine recyclingref23_Ints_fn hl5 (ArrR.rds hA5 _) hl7 (ArrR.rds hA7 _) hx6 ((Q2 2 [30] [] [] E ?_))
        refine Br h17896 37 E E (fun hc4 h17896 => ?_) (fun hc4 h17896 => ?_)
        · refine Cl E ?_
          obtain ⟨_, hx7, h17896⟩ := obind h17896
          refine recyclinglaw23_awake_fn  hx7 (fun _ _ => ?_)
          refine Q2 3 [37] [] [] E ?_
          cases h17896
          exact Ce E ⟨_, rfl, fE E, sE [] 3 E⟩
        refine G2 4 [] [37] [] E ?_
        cases h17896
        exact Ce E ⟨_, rfl, fE E, sE [] 3 E⟩
      refine G2 11 [] [30, 37] [] E ?_
      cases h17896
      exact Ce E ⟨_, rfl, fE E, sE [] 3 E⟩
    refine G2 18 [] [23, 30, 37] [] E ?_
    cases h17896
    exact Ce E ⟨_, rfl, fE E, sE [] 3 E⟩
  rintro _ _ _ _ h hm17896 ⟨v5, rfl, hF17896, hS17896⟩
  refine Atn 0 hF17896 hS17896 E E ?_
  cases h
  exact Rt [] E E (Ug [] 0 (hR _ (hm_2.trans (hm_3.trans hm17896))))

end Go.Proofs.Ytfekfbcghnlohaa
