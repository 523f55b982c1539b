/- Printed by gen.py of this repo: the walks that tie the functions to their specifications. -/
import Derived.Test.YtjbminmhndgiaaaTt
import Derived.Test.YtjbminmhndgiaaaTas
import Derived.Test.YtjbminmhndgiaaaTaw1
namespace Go.Proofs.Ytjbminmhndgiaaa
open Go.RowKit
set_option linter.unusedSimpArgs false
set_option linter.unusedVariables false
set_option maxRecDepth 4000
attribute [local irreducible] WP SemOk SemU Fn AN Upd vcR vcO vcOps vcPlan putK fillK resK inBlk forkOne Cell StAt Kept KS

theorem tour_plan_fn {μ : Gh} {L : List Seg} {R : Value → Gh → List Seg → Prop} {F : Nat} {p1 : T_api_Problem} {x1 : T_api_Plan} {A1 : Option Addr} {c1 : Nat} {A2 : Option Addr} {c2 : Nat} {A3 : Option Addr} {c3 : Nat} {A4 : Option Addr} {c4 : Nat} {A5 : Option Addr} {c5 : Nat} {res1 : Int} {res2 : Int}
    (hl1 : p1.Road.Edges.length ≤ c1 ∧ c1 ≤ maxLen) (hA1 : ArrR r_api_Edge μ A1 p1.Road.Edges) (hl2 : p1.Vehicles.length ≤ c2 ∧ c2 ≤ maxLen) (hA2 : ArrR r_api_Vehicle μ A2 p1.Vehicles) (hl3 : p1.Demands.length ≤ c3 ∧ c3 ≤ maxLen) (hA3 : ArrR r_api_Demand μ A3 p1.Demands) (hl4 : x1.Tours.length ≤ c4 ∧ c4 ≤ maxLen) (hA4 : ArrR r_api_Tour μ A4 x1.Tours) (hl5 : x1.Left.length ≤ c5 ∧ c5 ≤ maxLen) (hA5 : ArrR rInt μ A5 x1.Left) (h : tour_plan F p1 x1 = some (res1, res2))
    (hR : ∀ (μ' : Gh) , μ.le μ' → R (.tuple #[.int .i64 res1, .int .i64 res2]) μ' (L)) :
    Fn Try.prog 39 [.agg #[.int .i64 p1.Road.Nodes, .slice A1 p1.Road.Edges.length c1, .slice A2 p1.Vehicles.length c2, .slice A3 p1.Demands.length c3, .int .i64 p1.Unload, .int .i64 p1.UnloadSecs], .agg #[.slice A4 x1.Tours.length c4, .slice A5 x1.Left.length c5]] μ (L) R := by
  unfold tour_plan at h
  refine FnS Try.func39 (by kernel_rfl) E Try.ntmps39 E E ?_
  refine G0 2 E (Al E fun g1 => Q0 0 E (Al E fun g2 => Q1 7 [1] E (Cl E ?_)))
  obtain ⟨r1, hx1, h⟩ := obind h
  refine tour_Check_fn hl1 hA1 hl2 hA2 hl3 hA3 hx1 (fun v1 hm_1 => ?_)
  replace hA1 := hA1.mono hm_1
  replace hA2 := hA2.mono hm_1
  replace hA3 := hA3.mono hm_1
  replace hA4 := hA4.mono hm_1
  replace hA5 := hA5.mono hm_1
  refine Q0 7 E ?_
  refine Br h 23 E E (fun hc1 h => ?_) (fun hc1 h => ?_)
  · refine G2 7 [(23, true)] [] E ?_
    cases h
    refine Rt [] E E (Upd.gp [] 2 ?_)
    exact Upd.done (hR _ (hm_1))
  refine G2 14 [(23, false)] [0] E ?_
  refine Cut h (fun f l o_ f_ μ_ l_ => ∃ (sum2 : Int), (.inl sum2) = o_ ∧ SubFr ((7, .int .i64 sum2) :: keepF [2, 3] f) f_ ∧ SegSub (selS [some 1, some 0] 2 l) l_) ?_ ?_
  · intro o4737 h4737 h
    refine Lp h4737 (fun f l (j_ : Int × Int) f_ μ_ l_ => ounP j_ fun sum1 v2 => SubFr ((7, .int .i64 sum1) :: (28, .int .i64 v2) :: keepF [2, 3, 26, 27] f) f_ ∧ SegSub (selS [some 1, some 0] 2 l) l_) ⟨SubFr.of ⟨rfl, E, E, E, E, E, trivial⟩, SegSub.sel _ [some 1, some 0] 2⟩ ?_
    rintro ⟨sum1, v2⟩ q4768 fr4768 μ4768 L4768 hm4768 ⟨hF4768, hS4768⟩ hb4768 hq4768
    unfold tour_plan_l1 at hb4768
    replace hb4768 := oun_mk hb4768
    replace hA1 := hA1.mono hm4768
    replace hA2 := hA2.mono hm4768
    replace hA3 := hA3.mono hm4768
    replace hA4 := hA4.mono hm4768
    replace hA5 := hA5.mono hm4768
    refine Atn 2 hF4768 hS4768 E E (G0 5 E ?_)
    refine Br hb4768 29 E E (fun hc2 hb4768 => ?_) (fun hc2 hb4768 => ?_)
    · refine G2 7 [(29, true)] [] E (Ix hb4768 (ArrR.rds hA4 L) E E fun x2 a1 cs1 hx2 hr1 hc3 hA6 hb4768 => ?_)
      obtain ⟨A6, c6, rfl, hl6, hA7⟩ := hr1
      refine Q3 1 [] [64] (Z1 (hc3.push.push)) E (Al E fun g3 => ?_)
      obtain ⟨l1, hs1, hb4768⟩ := obind hb4768
      refine Q1 9 [0, 2] E (Rdo E E (R_slHiS E E E E E E hl4.1 hs1 ?_))
      have hA8 := ArrR.pre hA4 hs1
      have hl7 := preLen hl4 hs1
      refine Q0 1 E (Cl E ?_)
      obtain ⟨r2, hx3, hb4768⟩ := obind hb4768
      refine slices_ContainsFunc_Tour_c55_fn hl7 (ArrR.rds hA8 ([(g1, .cells #[.int .i64 p1.Road.Nodes, .slice A1 p1.Road.Edges.length c1, .slice A2 p1.Vehicles.length c2, .slice A3 p1.Demands.length c3, .int .i64 p1.Unload, .int .i64 p1.UnloadSecs] 28 (0, 0))] :: [(g2, .cells #[.slice A4 x1.Tours.length c4, .slice A5 x1.Left.length c5] 56 (0, 0))] :: L)) hl6 hA7 hx3 ((Q0 1 E ?_))
      refine Br hb4768 38 E E (fun hc4 hb4768 => ?_) (fun hc4 hb4768 => ?_)
      · refine G2 6 [(38, true)] [] E ?_
        cases hb4768
        have hq_ := hq4768 _ E
        subst hq_
        replace h := osum_r h
        cases h
        refine Rt [] E E (Upd.gp [] 3 ?_)
        exact Upd.done (hR _ (Gh.le.trans hm_1 (hm4768)))
      refine G2 6 [(38, false)] [1, 0] E (Cl E ?_)
      obtain ⟨⟨r3, r4, r5⟩, hx4, hb4768⟩ := obind hb4768
      replace hb4768 := oun_mk hb4768
      replace hb4768 := oun_mk hb4768
      refine tour_follow_fn hl1 hA1 hl2 hA2 hl3 hA3 hl6 hA7 hx4 (fun v3 pv1 so1 hm_2 hP1 => ?_)
      replace hA1 := hA1.mono hm_2
      replace hA2 := hA2.mono hm_2
      replace hA3 := hA3.mono hm_2
      replace hA4 := hA4.mono hm_2
      replace hA5 := hA5.mono hm_2
      replace hA7 := hA7.mono hm_2
      replace hc3 := hc3.lift hm_2
      replace hA8 := hA8.mono hm_2
      refine Q0 14 E ?_
      refine Br hb4768 47 E E (fun hc5 hb4768 => ?_) (fun hc5 hb4768 => ?_)
      · refine G2 7 [(47, true)] [] E ?_
        cases hb4768
        have hq_ := hq4768 _ E
        subst hq_
        replace h := osum_r h
        cases h
        refine Rt [] E E (Upd.gp [] 4 ?_)
        exact Upd.done (hR _ (Gh.le.trans hm_1 (Gh.le.trans hm4768 (hm_2))))
      obtain ⟨q1, hm_3, hb4768⟩ := obind hb4768
      have hP2 := ObjO.get hP1 hm_3
      obtain ⟨g4, A7, c7, A8, c8, A9, c9, g5, es1, cn1, A10, c10, ch1, hv1, rfl, ⟨hl8, hA9⟩, ⟨hl9, hA10⟩, ⟨hl10, hA11⟩, hM1, hO1⟩ := hP2
      subst hv1
      refine G2 2 [(47, false)] [] E (In Obj_tour_walk.fl 0 6 E E E (G1 15 [0] E ?_))
      cases hb4768
      exact Ce E ⟨_, rfl, SubFr.of ⟨rfl, rfl, rfl, rfl, rfl, rfl, trivial⟩, SegSub.sel _ [some 4, some 5] 6⟩
    refine G2 2 [(29, false)] [] E ?_
    cases hb4768
    have hq_ := hq4768 _ E
    subst hq_
    exact Ce E ⟨_, rfl, SubFr.of ⟨rfl, rfl, rfl, trivial⟩, SegSub.sel _ [some 0, some 1] 2⟩
  rintro _ fr4737 μ4737 L4737 h hm4737 ⟨sum2, rfl, hF4737, hS4737⟩
  replace h := osum_l h
  replace hA1 := hA1.mono hm4737
  replace hA2 := hA2.mono hm4737
  replace hA3 := hA3.mono hm4737
  replace hA4 := hA4.mono hm4737
  replace hA5 := hA5.mono hm4737
  refine Atn 2 hF4737 hS4737 E E (G1 5 [0] E (So E (O_mksl E E ?_)))
  obtain ⟨l2, hn1, h⟩ := obind h
  refine sem_mkO (r := rInt) (z := 0) (zc := [.int .i64 0]) Tt_ok E E E E E (E) E hn1 fun A11 c11 ch2 hO2 => Q1 10 [2] E ?_
  refine Cut h (fun f l o_ f_ μ_ l_ => ∃ (times2 : (List Int)) (A13 : Option Addr) (c13 : Nat) (ch5 : Seg), (.inl times2) = o_ ∧ SubFr ((13, .slice A13 times2.length c13) :: keepF [3, 7] f) f_ ∧ SegSub ([(g2, .cells #[.slice A4 x1.Tours.length c4, .slice A5 x1.Left.length c5] 56 (0, 0))] :: ch5 :: selS [] 3 l) l_ ∧ Own rInt 3 μ_ (.slice A13 times2.length c13) times2 ch5) ?_ ?_
  · intro o4803 h4803 h
    refine Lp h4803 (fun f l (j_ : (List Int) × Int) f_ μ_ l_ => ounP j_ fun times1 v4 => ∃ (A12 : Option Addr) (c12 : Nat) (ch3 : Seg), SubFr ((13, .slice A12 times1.length c12) :: (64, .int .i64 v4) :: keepF [3, 7, 62, 63] f) f_ ∧ SegSub ([(g2, .cells #[.slice A4 x1.Tours.length c4, .slice A5 x1.Left.length c5] 56 (0, 0))] :: ch3 :: selS [] 3 l) l_ ∧ Own rInt 3 μ_ (.slice A12 times1.length c12) times1 ch3) ⟨A11, c11, ch2, SubFr.of ⟨rfl, E, E, E, E, E, trivial⟩, SegSub.sel _ [some 2, some 0] 3, (hO2)⟩ ?_
    rintro ⟨times1, v4⟩ q4814 fr4814 μ4814 L4814 hm4814 ⟨A12, c12, ch3, hF4814, hS4814, hO3⟩ hb4814 hq4814
    unfold tour_plan_l2 at hb4814
    replace hb4814 := oun_mk hb4814
    replace hA1 := hA1.mono hm4814
    replace hA2 := hA2.mono hm4814
    replace hA3 := hA3.mono hm4814
    replace hA4 := hA4.mono hm4814
    replace hA5 := hA5.mono hm4814
    replace hO2 := hO2.mono hm4814
    refine Atn 2 hF4814 hS4814 E E (G0 5 E ?_)
    refine Br hb4814 65 E E (fun hc6 hb4814 => ?_) (fun hc6 hb4814 => ?_)
    · refine G2 6 [(65, true)] [] E (Ix hb4814 (ArrR.rds hA5 L) E E fun x3 a2 cs2 hx5 hr2 hc7 hA12 hb4814 => ?_)
      obtain rfl := hr2
      refine Q3 5 [] [64] (Z1 (hc7.push.push)) E ?_
      refine Cut hb4814 (fun f l o_ f_ μ_ l_ => ∃ (v5 : Bool), v5 = o_ ∧ SubFr ((75, .bool v5) :: keepF [3, 7, 13, 15, 62, 63, 64] f) f_ ∧ SegSub l l_) ?_ ?_
      · intro o4820 h4820 hb4814
        refine G0 4 E ?_
        refine Br h4820 70 E E (fun hc8 h4820 => ?_) (fun hc8 h4820 => ?_)
        · refine G2 6 [(70, true)] [] E ?_
          cases h4820
          exact Ce E ⟨_, rfl, SubFr.of ⟨rfl, rfl, rfl, rfl, rfl, rfl, rfl, rfl, trivial⟩, SegSub.sel _ [some 0, some 1] 2⟩
        refine G2 6 [(70, false)] [] E ?_
        cases h4820
        exact Ce E ⟨_, rfl, SubFr.of ⟨rfl, rfl, rfl, rfl, rfl, rfl, rfl, rfl, trivial⟩, SegSub.sel _ [some 0, some 1] 2⟩
      rintro _ fr4820 μ4820 L4820 hb4814 hm4820 ⟨v5, rfl, hF4820, hS4820⟩
      replace hA1 := hA1.mono hm4820
      replace hA2 := hA2.mono hm4820
      replace hA3 := hA3.mono hm4820
      replace hA4 := hA4.mono hm4820
      replace hA5 := hA5.mono hm4820
      replace hO2 := hO2.mono hm4820
      replace hO3 := hO3.mono hm4820
      replace hc7 := hc7.lift hm4820
      refine Atn 2 hF4820 hS4820 E E ?_
      refine Br hb4814 75 E E (fun hc9 hb4814 => ?_) (fun hc9 hb4814 => ?_)
      · refine G2 6 [(75, true)] [] E ?_
        cases hb4814
        have hq_ := hq4814 _ E
        subst hq_
        replace h := osum_r h
        cases h
        refine Rt [] E E (Upd.gp [] 2 ?_)
        exact Upd.done (hR _ (Gh.le.trans hm_1 (Gh.le.trans hm4737 (Gh.le.trans hm4814 (hm4820)))))
      refine G2 5 [(75, false)] [] E (Ix hb4814 (Own.rds (L := ([(g2, .cells #[.slice A4 x1.Tours.length c4, .slice A5 x1.Left.length c5] 56 (0, 0))] :: ch3 :: L)) hO3 1 E) E E fun x4 a3 cs3 hx6 hr3 hc10 hA13 hb4814 => ?_)
      obtain rfl := hr3
      refine Q3 2 [] [64] (Z1 hc10) E (Ix hb4814 (Own.rds (L := ([(g2, .cells #[.slice A4 x1.Tours.length c4, .slice A5 x1.Left.length c5] 56 (0, 0))] :: ch3 :: L)) hO3 1 E) E E fun x5 a4 cs4 hx7 hr4 hc11 hA14 hb4814 => ?_)
      obtain rfl := hr4
      refine Q0 0 E (So E (O_store (vs := [.int .i64 (w64 (x4 + 1))]) E E E E E E ?_))
      rw [← Addr.add_zero' ((a4.add (x3.toNat * 1)))]
      refine Own.store (r := rInt) (x' := w64 (x4 + 1)) (o := 0) (sz := 1) 1 rfl hO3 hA14 hx7 rfl rfl (by rintro _ rfl; rfl) fun ch4 hO4 => ?_
      rw [← length_setI times1 x3 (w64 (x4 + 1))] at hO4 ⊢
      refine Q0 6 E ?_
      cases hb4814
      exact Ce E ⟨_, rfl, A12, c12, ch4, SubFr.of ⟨rfl, rfl, rfl, rfl, rfl, rfl, trivial⟩, SegSub.sel _ [some 0, some 1] 2, (hO4)⟩
    refine G2 2 [(65, false)] [] E ?_
    cases hb4814
    have hq_ := hq4814 _ E
    subst hq_
    exact Ce E ⟨_, A12, c12, ch3, rfl, SubFr.of ⟨rfl, rfl, rfl, trivial⟩, SegSub.sel _ [some 0, some 1] 2, (hO3)⟩
  rintro _ fr4803 μ4803 L4803 h hm4803 ⟨times2, A13, c13, ch5, rfl, hF4803, hS4803, hO5⟩
  replace h := osum_l h
  replace hA1 := hA1.mono hm4803
  replace hA2 := hA2.mono hm4803
  replace hA3 := hA3.mono hm4803
  replace hA4 := hA4.mono hm4803
  replace hA5 := hA5.mono hm4803
  replace hO2 := hO2.mono hm4803
  refine Atn 2 hF4803 hS4803 E E (G1 8 [0] E ?_)
  refine Cut h (fun f l o_ f_ μ_ l_ => ∃ (times8 : (List Int)) (A20 : Option Addr) (c20 : Nat) (ch12 : Seg), times8 = o_ ∧ SubFr ((13, .slice A20 times8.length c20) :: keepF [7] f) f_ ∧ SegSub (ch12 :: selS [] 2 l) l_ ∧ Own rInt 3 μ_ (.slice A20 times8.length c20) times8 ch12) ?_ ?_
  · intro o4828 h4828 h
    refine Lp h4828 (fun f l (j_ : (List Int) × Int) f_ μ_ l_ => ounP j_ fun times3 v6 => ∃ (A14 : Option Addr) (c14 : Nat) (ch6 : Seg), SubFr ((13, .slice A14 times3.length c14) :: (86, .int .i64 v6) :: keepF [7, 84, 85] f) f_ ∧ SegSub (ch6 :: selS [] 2 l) l_ ∧ Own rInt 3 μ_ (.slice A14 times3.length c14) times3 ch6) ⟨A13, c13, ch5, SubFr.of ⟨rfl, E, E, E, E, trivial⟩, SegSub.sel _ [some 1] 2, (hO5)⟩ ?_
    rintro ⟨times3, v6⟩ q4850 fr4850 μ4850 L4850 hm4850 ⟨A14, c14, ch6, hF4850, hS4850, hO6⟩ hb4850 hq4850
    unfold tour_plan_l4 at hb4850
    replace hb4850 := oun_mk hb4850
    replace hA1 := hA1.mono hm4850
    replace hA2 := hA2.mono hm4850
    replace hA3 := hA3.mono hm4850
    replace hA4 := hA4.mono hm4850
    replace hA5 := hA5.mono hm4850
    replace hO2 := hO2.mono hm4850
    replace hO5 := hO5.mono hm4850
    refine Atn 1 hF4850 hS4850 E E (G0 5 E ?_)
    refine Br hb4850 87 E E (fun hc12 hb4850 => ?_) (fun hc12 hb4850 => ?_)
    · refine G2 3 [(87, true)] [] E ?_
      refine Cut hb4850 (fun f l o_ f_ μ_ l_ => ∃ (times7 : (List Int)) (A19 : Option Addr) (c19 : Nat) (ch11 : Seg), times7 = o_ ∧ SubFr ((13, .slice A19 times7.length c19) :: keepF [7, 84, 85, 86] f) f_ ∧ SegSub (ch11 :: selS [] 1 l) l_ ∧ Own rInt 3 μ_ (.slice A19 times7.length c19) times7 ch11) ?_ ?_
      · intro o4853 h4853 hb4850
        refine G0 3 E (Ix h4853 (ArrR.rds hA4 L) E E fun x6 a5 cs5 hx8 hr5 hc13 hA15 h4853 => ?_)
        obtain ⟨A15, c15, rfl, hl11, hA16⟩ := hr5
        refine Q3 1 [] [64] (Z1 (hc13.push)) E (Al E fun g6 => Q1 9 [0, 0] E ?_)
        refine Cut h4853 (fun f l o_ f_ μ_ l_ => ∃ (times6 : (List Int)) (A18 : Option Addr) (c18 : Nat) (ch10 : Seg), times6 = o_ ∧ SubFr ((13, .slice A18 times6.length c18) :: keepF [7, 84, 85, 86] f) f_ ∧ SegSub (ch10 :: selS [] 2 l) l_ ∧ Own rInt 3 μ_ (.slice A18 times6.length c18) times6 ch10) ?_ ?_
        · intro o4858 h4858 h4853
          refine Lp h4858 (fun f l (j_ : (List Int) × Int) f_ μ_ l_ => ounP j_ fun times4 v7 => ∃ (A16 : Option Addr) (c16 : Nat) (ch7 : Seg), SubFr ((13, .slice A16 times4.length c16) :: (93, .int .i64 v7) :: keepF [7, 84, 85, 86, 91, 92] f) f_ ∧ SegSub (ch7 :: selS [] 2 l) l_ ∧ Own rInt 3 μ_ (.slice A16 times4.length c16) times4 ch7) ⟨A14, c14, ch6, SubFr.of ⟨rfl, E, E, E, E, E, E, E, trivial⟩, SegSub.sel _ [some 1] 2, (hO6)⟩ ?_
          rintro ⟨times4, v7⟩ q4864 fr4864 μ4864 L4864 hm4864 ⟨A16, c16, ch7, hF4864, hS4864, hO7⟩ hb4864 hq4864
          unfold tour_plan_l3 at hb4864
          replace hb4864 := oun_mk hb4864
          replace hA1 := hA1.mono hm4864
          replace hA2 := hA2.mono hm4864
          replace hA3 := hA3.mono hm4864
          replace hA4 := hA4.mono hm4864
          replace hA5 := hA5.mono hm4864
          replace hO2 := hO2.mono hm4864
          replace hO5 := hO5.mono hm4864
          replace hO6 := hO6.mono hm4864
          replace hA16 := hA16.mono hm4864
          replace hc13 := hc13.lift hm4864
          refine Atn 1 hF4864 hS4864 E E (G0 5 E ?_)
          refine Br hb4864 94 E E (fun hc14 hb4864 => ?_) (fun hc14 hb4864 => ?_)
          · refine G2 3 [(94, true)] [] E ?_
            refine Cut hb4864 (fun f l o_ f_ μ_ l_ => ∃ (times5 : (List Int)) (A17 : Option Addr) (c17 : Nat) (ch9 : Seg), times5 = o_ ∧ SubFr ((13, .slice A17 times5.length c17) :: keepF [7, 84, 85, 86, 91, 92, 93] f) f_ ∧ SegSub (ch9 :: selS [] 1 l) l_ ∧ Own rInt 3 μ_ (.slice A17 times5.length c17) times5 ch9) ?_ ?_
            · intro o4867 h4867 hb4864
              refine G0 3 E (Ix h4867 (ArrR.rds hA16 L) E E fun x7 a6 cs6 hx9 hr6 hc15 hA17 h4867 => ?_)
              obtain rfl := hr6
              refine Q3 8 [] [64] (Z1 (hc15.push)) E ?_
              refine Br h4867 98 E E (fun hc16 h4867 => ?_) (fun hc16 h4867 => ?_)
              · refine G2 4 [(98, true)] [] E (Ix h4867 (Own.rds (L := (ch7 :: L)) hO7 0 E) E E fun x8 a7 cs7 hx10 hr7 hc17 hA18 h4867 => ?_)
                obtain rfl := hr7
                refine Q3 2 [] [64] (Z1 hc17) E (Ix h4867 (Own.rds (L := (ch7 :: L)) hO7 0 E) E E fun x9 a8 cs8 hx11 hr8 hc18 hA19 h4867 => ?_)
                obtain rfl := hr8
                refine Q0 0 E (So E (O_store (vs := [.int .i64 (w64 (x8 + 1))]) E E E E E E ?_))
                rw [← Addr.add_zero' ((a8.add (x7.toNat * 1)))]
                refine Own.store (r := rInt) (x' := w64 (x8 + 1)) (o := 0) (sz := 1) 0 rfl hO7 hA19 hx11 rfl rfl (by rintro _ rfl; rfl) fun ch8 hO8 => ?_
                rw [← length_setI times4 x7 (w64 (x8 + 1))] at hO8 ⊢
                refine Q0 2 E ?_
                cases h4867
                exact Ce E ⟨_, A16, c16, ch8, rfl, SubFr.of ⟨rfl, rfl, rfl, rfl, rfl, rfl, rfl, rfl, trivial⟩, SegSub.sel _ [some 0] 1, (hO8)⟩
              refine G2 3 [(98, false)] [] E ?_
              cases h4867
              exact Ce E ⟨_, A16, c16, ch7, rfl, SubFr.of ⟨rfl, rfl, rfl, rfl, rfl, rfl, rfl, rfl, trivial⟩, SegSub.sel _ [some 0] 1, (hO7)⟩
            rintro _ fr4867 μ4867 L4867 hb4864 hm4867 ⟨times5, A17, c17, ch9, rfl, hF4867, hS4867, hO9⟩
            replace hA1 := hA1.mono hm4867
            replace hA2 := hA2.mono hm4867
            replace hA3 := hA3.mono hm4867
            replace hA4 := hA4.mono hm4867
            replace hA5 := hA5.mono hm4867
            replace hO2 := hO2.mono hm4867
            replace hO5 := hO5.mono hm4867
            replace hO6 := hO6.mono hm4867
            replace hA16 := hA16.mono hm4867
            replace hc13 := hc13.lift hm4867
            replace hO7 := hO7.mono hm4867
            refine Atn 1 hF4867 hS4867 E E (G0 4 E ?_)
            cases hb4864
            exact Ce E ⟨_, rfl, A17, c17, ch9, SubFr.of ⟨rfl, rfl, rfl, rfl, rfl, rfl, rfl, rfl, trivial⟩, SegSub.sel _ [some 0] 1, (hO9)⟩
          refine G2 2 [(94, false)] [] E ?_
          cases hb4864
          have hq_ := hq4864 _ E
          subst hq_
          exact Ce E ⟨_, A16, c16, ch7, rfl, SubFr.of ⟨rfl, rfl, rfl, rfl, rfl, trivial⟩, SegSub.sel _ [some 0] 1, (hO7)⟩
        rintro _ fr4858 μ4858 L4858 h4853 hm4858 ⟨times6, A18, c18, ch10, rfl, hF4858, hS4858, hO10⟩
        replace hA1 := hA1.mono hm4858
        replace hA2 := hA2.mono hm4858
        replace hA3 := hA3.mono hm4858
        replace hA4 := hA4.mono hm4858
        replace hA5 := hA5.mono hm4858
        replace hO2 := hO2.mono hm4858
        replace hO5 := hO5.mono hm4858
        replace hO6 := hO6.mono hm4858
        replace hA16 := hA16.mono hm4858
        replace hc13 := hc13.lift hm4858
        refine G0 1 E ?_
        cases h4853
        exact Ce E ⟨_, A18, c18, ch10, rfl, hF4858.tr ⟨rfl, rfl, rfl, rfl, rfl, trivial⟩, hS4858.tr (SegSub.sel _ [some 0] 1), (hO10)⟩
      rintro _ fr4853 μ4853 L4853 hb4850 hm4853 ⟨times7, A19, c19, ch11, rfl, hF4853, hS4853, hO11⟩
      replace hA1 := hA1.mono hm4853
      replace hA2 := hA2.mono hm4853
      replace hA3 := hA3.mono hm4853
      replace hA4 := hA4.mono hm4853
      replace hA5 := hA5.mono hm4853
      replace hO2 := hO2.mono hm4853
      replace hO5 := hO5.mono hm4853
      replace hO6 := hO6.mono hm4853
      refine Atn 1 hF4853 hS4853 E E (G0 4 E ?_)
      cases hb4850
      exact Ce E ⟨_, rfl, A19, c19, ch11, SubFr.of ⟨rfl, rfl, rfl, rfl, rfl, trivial⟩, SegSub.sel _ [some 0] 1, (hO11)⟩
    refine G2 2 [(87, false)] [] E ?_
    cases hb4850
    have hq_ := hq4850 _ E
    subst hq_
    exact Ce E ⟨_, A14, c14, ch6, rfl, SubFr.of ⟨rfl, rfl, trivial⟩, SegSub.sel _ [some 0] 1, (hO6)⟩
  rintro _ fr4828 μ4828 L4828 h hm4828 ⟨times8, A20, c20, ch12, rfl, hF4828, hS4828, hO12⟩
  replace hA1 := hA1.mono hm4828
  replace hA2 := hA2.mono hm4828
  replace hA3 := hA3.mono hm4828
  replace hA4 := hA4.mono hm4828
  replace hA5 := hA5.mono hm4828
  replace hO2 := hO2.mono hm4828
  replace hO5 := hO5.mono hm4828
  refine Atn 1 hF4828 hS4828 E E (G0 4 E (Cl E ?_))
  obtain ⟨r6, hx12, h⟩ := obind h
  refine slices_ContainsFunc_int_c57_fn (Own.lenOk hO12) (Own.rds (L := (ch12 :: L)) hO12 0 E) hx12 ((Q0 1 E ?_))
  refine Br h 108 E E (fun hc19 h => ?_) (fun hc19 h => ?_)
  · refine G2 6 [(108, true)] [] E ?_
    cases h
    refine Rt [] E E (Upd.gp [] 1 ?_)
    exact Upd.done (hR _ (Gh.le.trans hm_1 (Gh.le.trans hm4737 (Gh.le.trans hm4803 (hm4828)))))
  refine G2 6 [(108, false)] [] E (Cl E ?_)
  obtain ⟨r7, hx13, h⟩ := obind h
  refine slices_Contains_int_fn (Own.lenOk hO12) (Own.rds (L := (ch12 :: L)) hO12 0 E) hx13 ((Q0 1 E ?_))
  refine Br h 110 E E (fun hc20 h => ?_) (fun hc20 h => ?_)
  · refine G2 6 [(110, true)] [] E ?_
    cases h
    refine Rt [] E E (Upd.gp [] 1 ?_)
    exact Upd.done (hR _ (Gh.le.trans hm_1 (Gh.le.trans hm4737 (Gh.le.trans hm4803 (hm4828)))))
  refine G2 8 [(110, false)] [] E ?_
  cases h
  refine Rt [] E E (Upd.gp [] 1 ?_)
  exact Upd.done (hR _ (Gh.le.trans hm_1 (Gh.le.trans hm4737 (Gh.le.trans hm4803 (hm4828)))))

theorem tour_Feasible_fn {μ : Gh} {L : List Seg} {R : Value → Gh → List Seg → Prop} {F : Nat} {p1 : T_api_Problem} {x1 : T_api_Plan} {A1 : Option Addr} {c1 : Nat} {A2 : Option Addr} {c2 : Nat} {A3 : Option Addr} {c3 : Nat} {A4 : Option Addr} {c4 : Nat} {A5 : Option Addr} {c5 : Nat} {res1 : Int}
    (hl1 : p1.Road.Edges.length ≤ c1 ∧ c1 ≤ maxLen) (hA1 : ArrR r_api_Edge μ A1 p1.Road.Edges) (hl2 : p1.Vehicles.length ≤ c2 ∧ c2 ≤ maxLen) (hA2 : ArrR r_api_Vehicle μ A2 p1.Vehicles) (hl3 : p1.Demands.length ≤ c3 ∧ c3 ≤ maxLen) (hA3 : ArrR r_api_Demand μ A3 p1.Demands) (hl4 : x1.Tours.length ≤ c4 ∧ c4 ≤ maxLen) (hA4 : ArrR r_api_Tour μ A4 x1.Tours) (hl5 : x1.Left.length ≤ c5 ∧ c5 ≤ maxLen) (hA5 : ArrR rInt μ A5 x1.Left) (h : tour_Feasible F p1 x1 = some res1)
    (hR : ∀ (μ' : Gh) , μ.le μ' → R (.int .i64 res1) μ' (L)) :
    Fn Try.prog 25 [.agg #[.int .i64 p1.Road.Nodes, .slice A1 p1.Road.Edges.length c1, .slice A2 p1.Vehicles.length c2, .slice A3 p1.Demands.length c3, .int .i64 p1.Unload, .int .i64 p1.UnloadSecs], .agg #[.slice A4 x1.Tours.length c4, .slice A5 x1.Left.length c5]] μ (L) R := by
  unfold tour_Feasible at h
  refine FnS Try.func25 (by kernel_rfl) E Try.ntmps25 E E ?_
  refine G0 2 E (Al E fun g1 => Q0 0 E (Al E fun g2 => Q1 6 [1, 0] E (Cl E ?_)))
  obtain ⟨⟨r1, r2⟩, hx1, h⟩ := obind h
  replace h := oun_mk h
  refine tour_plan_fn hl1 hA1 hl2 hA2 hl3 hA3 hl4 hA4 hl5 hA5 hx1 (fun v1 hm_1 => ?_)
  replace hA1 := hA1.mono hm_1
  replace hA2 := hA2.mono hm_1
  replace hA3 := hA3.mono hm_1
  replace hA4 := hA4.mono hm_1
  replace hA5 := hA5.mono hm_1
  refine Q0 11 E ?_
  cases h
  refine Rt [] E E (Upd.gp [] 2 ?_)
  exact Upd.done (hR _ (hm_1))

theorem recyclinglaw22_awake_fn {μ : Gh} {L : List Seg} {R : Value → Gh → List Seg → Prop} {F : Nat}   {res1 : Bool}
     (h : recyclinglaw22_awake F = some res1)
    (hR : ∀ (μ' : Gh) , μ.le μ' → R (.bool res1) μ' (L)) :
    Fn Try.prog 12 [] μ (L) R := by
  unfold recyclinglaw22_awake at h
  refine FnS Try.func12 (by kernel_rfl) E Try.ntmps12 E E ?_
  refine G0 6 E (Cl E ?_)
  obtain ⟨r1, hx1, h⟩ := obind h
  refine recyclinglaw22_example_fn  hx1 (fun v1 A1 c1 A2 c2 A3 c3 hm_1 hl1 hA1 hl2 hA2 hl3 hA3 => Q0 0 E (Al E fun g1 => Q1 5 [0, 0] E (So E (O_bsl (z := [.int .i64 0, .int .i64 0]) E E E E E E E (F_cons (cells' := [.int .i64 0, .int .i64 0]) E E E E (F_cons (cells' := [.int .i64 0, .int .i64 (-1)]) E E E E (F_nil (fun g2 => Q0 1 E (Cl E ?_)))))))))
  have hl4 : [0, (-1)].length ≤ 2 ∧ 2 ≤ maxLen := ⟨Nat.le_refl _, by unfold maxLen; omega⟩
  refine Fn.pre Try.func15 (by kernel_rfl) E (Upd.frzOwn 0 E (Own.lit (r := rInt) (e := 3) (g := g2) (xs := [0, (-1)]) (cs := [.int .i64 0, .int .i64 (-1)]) (css := [[.int .i64 0], [.int .i64 (-1)]]) E (All2.cons (E) (All2.cons (E) (All2.nil))) E E) fun v2 hm_2 hA4 => Upd.done ?_)
  replace hA1 := hA1.mono hm_2
  replace hA2 := hA2.mono hm_2
  replace hA3 := hA3.mono hm_2
  obtain ⟨⟨r2, r3, r4⟩, hx2, h⟩ := obind h
  replace h := oun_mk h
  replace h := oun_mk h
  refine tour_Walk_fn hl1 hA1 hl2 hA2 hl3 hA3 hl4 hA4 hx2 (fun v3 A4 c4 ch1 hm_3 hO1 => ?_)
  replace hA1 := hA1.mono hm_3
  replace hA2 := hA2.mono hm_3
  replace hA3 := hA3.mono hm_3
  replace hA4 := hA4.mono hm_3
  refine Q1 11 [2] E (So E (O_bsl (z := [.int .i64 0]) E E E E E E E (F_cons (cells' := [.int .i64 0]) E E E E (F_nil (fun g3 => Q0 1 E (Cl E ?_))))))
  have hl5 : [0].length ≤ 1 ∧ 1 ≤ maxLen := ⟨Nat.le_refl _, by unfold maxLen; omega⟩
  refine Fn.pre Try.func15 (by kernel_rfl) E (Upd.frzOwn 0 E (Own.lit (r := rInt) (e := 3) (g := g3) (xs := [0]) (cs := [.int .i64 0]) (css := [[.int .i64 0]]) E (All2.cons (E) (All2.nil)) E E) fun v4 hm_4 hA5 => Upd.done ?_)
  replace hA1 := hA1.mono hm_4
  replace hA2 := hA2.mono hm_4
  replace hA3 := hA3.mono hm_4
  replace hA4 := hA4.mono hm_4
  replace hO1 := hO1.mono hm_4
  obtain ⟨⟨r5, r6, r7⟩, hx3, h⟩ := obind h
  replace h := oun_mk h
  replace h := oun_mk h
  refine tour_Walk_fn hl1 hA1 hl2 hA2 hl3 hA3 hl5 hA5 hx3 (fun v5 A5 c5 ch2 hm_5 hO2 => ?_)
  replace hA1 := hA1.mono hm_5
  replace hA2 := hA2.mono hm_5
  replace hA3 := hA3.mono hm_5
  replace hA4 := hA4.mono hm_5
  replace hO1 := hO1.mono hm_5
  replace hA5 := hA5.mono hm_5
  refine Q1 11 [4] E (So E (O_bsl (z := [.int .i64 0, .int .i64 0]) E E E E E E E (F_cons (cells' := [.int .i64 0, .int .i64 0]) E E E E (F_cons (cells' := [.int .i64 0, .int .i64 (-1)]) E E E E (F_nil (fun g4 => Q0 1 E (Cl E ?_)))))))
  have hl6 : [0, (-1)].length ≤ 2 ∧ 2 ≤ maxLen := ⟨Nat.le_refl _, by unfold maxLen; omega⟩
  refine Fn.pre Try.func18 (by kernel_rfl) E (Upd.frzOwn 0 E (Own.lit (r := rInt) (e := 3) (g := g4) (xs := [0, (-1)]) (cs := [.int .i64 0, .int .i64 (-1)]) (css := [[.int .i64 0], [.int .i64 (-1)]]) E (All2.cons (E) (All2.cons (E) (All2.nil))) E E) fun v6 hm_6 hA6 => Upd.done ?_)
  replace hA1 := hA1.mono hm_6
  replace hA2 := hA2.mono hm_6
  replace hA3 := hA3.mono hm_6
  replace hA4 := hA4.mono hm_6
  replace hO1 := hO1.mono hm_6
  replace hA5 := hA5.mono hm_6
  replace hO2 := hO2.mono hm_6
  obtain ⟨⟨r8, r9⟩, hx4, h⟩ := obind h
  replace h := oun_mk h
  refine tour_Cost_fn hl1 hA1 hl2 hA2 hl3 hA3 hl6 hA6 hx4 (fun v7 hm_7 => ?_)
  replace hA1 := hA1.mono hm_7
  replace hA2 := hA2.mono hm_7
  replace hA3 := hA3.mono hm_7
  replace hA4 := hA4.mono hm_7
  replace hO1 := hO1.mono hm_7
  replace hA5 := hA5.mono hm_7
  replace hO2 := hO2.mono hm_7
  replace hA6 := hA6.mono hm_7
  refine Q0 11 E (So E (O_bsl (z := [.int .i64 0, .int .i64 0, .int .i64 0, .int .i64 0, .int .i64 0, .int .i64 0, .int .i64 0, .int .i64 0, .int .i64 0, .int .i64 0, .int .i64 0, .int .i64 0, .int .i64 0, .int .i64 0, .int .i64 0, .int .i64 0, .int .i64 0, .int .i64 0]) E E E E E E E (F_cons (cells' := [.int .i64 0, .int .i64 1, .int .i64 1060, .int .i64 1100, .int .i64 1130, .int .i64 300, .int .i64 0, .int .i64 0, .int .i64 0, .int .i64 0, .int .i64 0, .int .i64 0, .int .i64 0, .int .i64 0, .int .i64 0, .int .i64 0, .int .i64 0, .int .i64 0]) E E E E (F_cons (cells' := [.int .i64 0, .int .i64 1, .int .i64 1060, .int .i64 1100, .int .i64 1130, .int .i64 300, .int .i64 (-1), .int .i64 0, .int .i64 1190, .int .i64 1190, .int .i64 1210, .int .i64 0, .int .i64 0, .int .i64 0, .int .i64 0, .int .i64 0, .int .i64 0, .int .i64 0]) E E E E ?_))))
  refine F_cons (cells' := [.int .i64 0, .int .i64 1, .int .i64 1060, .int .i64 1100, .int .i64 1130, .int .i64 300, .int .i64 (-1), .int .i64 0, .int .i64 1190, .int .i64 1190, .int .i64 1210, .int .i64 0, .int .i64 (-2), .int .i64 0, .int .i64 1210, .int .i64 1210, .int .i64 1210, .int .i64 0]) E E E E (F_nil (fun g5 => Q0 3 E ?_))
  refine Cut h (fun f l o_ f_ μ_ l_ => ∃ (v9 : Bool), v9 = o_ ∧ SubFr ((0, .bool v9) :: []) f_ ∧ SegSub (selS [] 7 l) l_) ?_ ?_
  · intro o4906 h4906 h
    refine G0 3 E (Cl E ?_)
    obtain ⟨r10, hx5, h4906⟩ := obind h4906
    refine recyclingref22_Same_fn (Own.lenOk hO1) (Own.rds (L := ([(g5, .cells #[.int .i64 0, .int .i64 1, .int .i64 1060, .int .i64 1100, .int .i64 1130, .int .i64 300, .int .i64 (-1), .int .i64 0, .int .i64 1190, .int .i64 1190, .int .i64 1210, .int .i64 0, .int .i64 (-2), .int .i64 0, .int .i64 1210, .int .i64 1210, .int .i64 1210, .int .i64 0] 48 (0, 0))] :: [] :: ch2 :: [] :: ch1 :: [] :: [(g1, .cells #[.int .i64 r1.Road.Nodes, .slice A1 r1.Road.Edges.length c1, .slice A2 r1.Vehicles.length c2, .slice A3 r1.Demands.length c3, .int .i64 r1.Unload, .int .i64 r1.UnloadSecs] 28 (0, 0))] :: L)) hO1 4 E) (lenLit (c := 3) E E) (Own.rds (L := ([(g5, .cells #[.int .i64 0, .int .i64 1, .int .i64 1060, .int .i64 1100, .int .i64 1130, .int .i64 300, .int .i64 (-1), .int .i64 0, .int .i64 1190, .int .i64 1190, .int .i64 1210, .int .i64 0, .int .i64 (-2), .int .i64 0, .int .i64 1210, .int .i64 1210, .int .i64 1210, .int .i64 0] 48 (0, 0))] :: [] :: ch2 :: [] :: ch1 :: [] :: [(g1, .cells #[.int .i64 r1.Road.Nodes, .slice A1 r1.Road.Edges.length c1, .slice A2 r1.Vehicles.length c2, .slice A3 r1.Demands.length c3, .int .i64 r1.Unload, .int .i64 r1.UnloadSecs] 28 (0, 0))] :: L)) (Own.lit (r := r_api_Visit) (e := 48) (g := g5) (xs := [(T_api_Visit.mk 0 1 1060 1100 1130 300), (T_api_Visit.mk (-1) 0 1190 1190 1210 0), (T_api_Visit.mk (-2) 0 1210 1210 1210 0)]) (cs := [.int .i64 0, .int .i64 1, .int .i64 1060, .int .i64 1100, .int .i64 1130, .int .i64 300, .int .i64 (-1), .int .i64 0, .int .i64 1190, .int .i64 1190, .int .i64 1210, .int .i64 0, .int .i64 (-2), .int .i64 0, .int .i64 1210, .int .i64 1210, .int .i64 1210, .int .i64 0]) (css := [[.int .i64 0, .int .i64 1, .int .i64 1060, .int .i64 1100, .int .i64 1130, .int .i64 300], [.int .i64 (-1), .int .i64 0, .int .i64 1190, .int .i64 1190, .int .i64 1210, .int .i64 0], [.int .i64 (-2), .int .i64 0, .int .i64 1210, .int .i64 1210, .int .i64 1210, .int .i64 0]]) E (All2.cons (E) (All2.cons (E) (All2.cons (E) (All2.nil)))) E E) 0 E) hx5 (?_)
    refine Q0 1 E ?_
    refine Br h4906 42 E E (fun hc1 h4906 => ?_) (fun hc1 h4906 => ?_)
    · refine G2 4 [(42, true)] [] E ?_
      refine Br h4906 46 E E (fun hc2 h4906 => ?_) (fun hc2 h4906 => ?_)
      · refine G2 4 [(46, true)] [] E ?_
        refine Br h4906 50 E E (fun hc3 h4906 => ?_) (fun hc3 h4906 => ?_)
        · refine G2 4 [(50, true)] [] E ?_
          refine Br h4906 54 E E (fun hc4 h4906 => ?_) (fun hc4 h4906 => ?_)
          · refine G2 4 [(54, true)] [] E ?_
            refine Br h4906 58 E E (fun hc5 h4906 => ?_) (fun hc5 h4906 => ?_)
            · refine G2 4 [(58, true)] [] E ?_
              refine Br h4906 62 E E (fun hc6 h4906 => ?_) (fun hc6 h4906 => ?_)
              · refine G2 4 [(62, true)] [] E ?_
                refine Br h4906 66 E E (fun hc7 h4906 => ?_) (fun hc7 h4906 => ?_)
                · refine G2 2 [(66, true)] [6] E (Cl E ?_)
                  obtain ⟨r11, hx6, h4906⟩ := obind h4906
                  refine tour_Feasible_fn hl1 hA1 hl2 hA2 hl3 hA3 ⟨Nat.le_refl _, Nat.zero_le _⟩ ArrR.nil ⟨Nat.le_refl _, Nat.zero_le _⟩ ArrR.nil hx6 (fun v8 hm_8 => ?_)
                  replace hA1 := hA1.mono hm_8
                  replace hA2 := hA2.mono hm_8
                  replace hA3 := hA3.mono hm_8
                  replace hA4 := hA4.mono hm_8
                  replace hO1 := hO1.mono hm_8
                  replace hA5 := hA5.mono hm_8
                  replace hO2 := hO2.mono hm_8
                  replace hA6 := hA6.mono hm_8
                  refine Q2 4 [(66, true)] [] E ?_
                  cases h4906
                  exact Ce E ⟨_, rfl, SubFr.of ⟨rfl, trivial⟩, SegSub.sel _ [] 7⟩
                refine G2 7 [(66, false)] [] E ?_
                cases h4906
                exact Ce E ⟨_, rfl, SubFr.of ⟨rfl, trivial⟩, SegSub.sel _ [] 7⟩
              refine G2 11 [(62, false), (66, false)] [] E ?_
              cases h4906
              exact Ce E ⟨_, rfl, SubFr.of ⟨rfl, trivial⟩, SegSub.sel _ [] 7⟩
            refine G2 15 [(58, false), (62, false), (66, false)] [] E ?_
            cases h4906
            exact Ce E ⟨_, rfl, SubFr.of ⟨rfl, trivial⟩, SegSub.sel _ [] 7⟩
          refine G2 19 [(54, false), (58, false), (62, false), (66, false)] [] E ?_
          cases h4906
          exact Ce E ⟨_, rfl, SubFr.of ⟨rfl, trivial⟩, SegSub.sel _ [] 7⟩
        refine G2 23 [(50, false), (54, false), (58, false), (62, false), (66, false)] [] E ?_
        cases h4906
        exact Ce E ⟨_, rfl, SubFr.of ⟨rfl, trivial⟩, SegSub.sel _ [] 7⟩
      refine G2 27 [(46, false), (50, false), (54, false), (58, false), (62, false), (66, false)] [] E ?_
      cases h4906
      exact Ce E ⟨_, rfl, SubFr.of ⟨rfl, trivial⟩, SegSub.sel _ [] 7⟩
    refine G2 31 [(42, false), (46, false), (50, false), (54, false), (58, false), (62, false), (66, false)] [] E ?_
    cases h4906
    exact Ce E ⟨_, rfl, SubFr.of ⟨rfl, trivial⟩, SegSub.sel _ [] 7⟩
  rintro _ fr4906 μ4906 L4906 h hm4906 ⟨v9, rfl, hF4906, hS4906⟩
  replace hA1 := hA1.mono hm4906
  replace hA2 := hA2.mono hm4906
  replace hA3 := hA3.mono hm4906
  replace hA4 := hA4.mono hm4906
  replace hO1 := hO1.mono hm4906
  replace hA5 := hA5.mono hm4906
  replace hO2 := hO2.mono hm4906
  replace hA6 := hA6.mono hm4906
  refine Atn 0 hF4906 hS4906 E E ?_
  cases h
  refine Rt [] E E (Upd.gp [] 0 ?_)
  exact Upd.done (hR _ (Gh.le.trans hm_1 (Gh.le.trans hm_2 (Gh.le.trans hm_3 (Gh.le.trans hm_4 (Gh.le.trans hm_5 (Gh.le.trans hm_6 (Gh.le.trans hm_7 (hm4906)))))))))

end Go.Proofs.Ytjbminmhndgiaaa
