/- Printed by gen2.py of this repo: the walks that tie the functions to their specifications. -/
import Derived.Test.YtfekfbcghnlohaaTt
import Derived.Test.YtfekfbcghnlohaaTas
import Derived.Test.YtfekfbcghnlohaaTaw1
import Derived.Test.YtfekfbcghnlohaaTaw2
import Derived.Test.YtfekfbcghnlohaaTaw3
namespace Go.Proofs.Ytfekfbcghnlohaa
open Go.RowKit
set_option linter.unusedSimpArgs false
set_option linter.unusedVariables false
set_option maxHeartbeats 2000000
set_option maxRecDepth 4000
attribute [local irreducible] WP SemOk SemU Fn AN Upd vcR vcO vcOps vcPlan putK fillK resK inBlk forkOne Cell StAt Kept KS

variable {μ : Gh} {L : List Seg} {R : Value → Gh → List Seg → Prop}
theorem recyclinglaw23_InsertAll_fn {F : Nat} {p1 : T_api_Problem} {t1 : T_api_Tour} {d1 : Int} {k1 : Int} {A1 : Option Addr} {c1 : Nat} {A2 : Option Addr} {c2 : Nat} {A3 : Option Addr} {c3 : Nat} {A4 : Option Addr} {c4 : Nat} {res1 : Bool}
    (hl1 : p1.Road.Edges.length ≤ c1 ∧ c1 ≤ maxLen) (hA1 : ArrR r_api_Edge μ A1 p1.Road.Edges) (hl2 : p1.Vehicles.length ≤ c2 ∧ c2 ≤ maxLen) (hA2 : ArrR r_api_Vehicle μ A2 p1.Vehicles) (hl3 : p1.Demands.length ≤ c3 ∧ c3 ≤ maxLen) (hA3 : ArrR r_api_Demand μ A3 p1.Demands) (hl4 : t1.Stops.length ≤ c4 ∧ c4 ≤ maxLen) (hA4 : ArrR rInt μ A4 t1.Stops) (h : recyclinglaw23_InsertAll F p1 t1 d1 k1 = some res1)
    (hR : ∀ (μ' : Gh) , μ.le μ' → R (.bool res1) μ' (L)) :
    Fn Try.prog 6 [.agg #[.int .i64 p1.Road.Nodes, .slice A1 p1.Road.Edges.length c1, .slice A2 p1.Vehicles.length c2, .slice A3 p1.Demands.length c3, .int .i64 p1.Unload, .int .i64 p1.UnloadSecs], .agg #[.int .i64 t1.Vehicle, .slice A4 t1.Stops.length c4], .int .i64 d1, .int .i64 k1] μ (L) R := by
  unfold recyclinglaw23_InsertAll at h
  refine FnS Try.func6 (by kernel_rfl) E Try.ntmps6 E E ?_
  refine G0 2 E (Al E fun g1 => Q0 0 E (Al E fun g2 => Q0 4 E ?_))
  refine Cut h (fun f l o_ f_ μ_ l_ => ∃ (v1 : Bool), v1 = o_ ∧ SubFr ((32, .bool v1) :: keepF [2, 3, 4, 5] f) f_ ∧ SegSub (selS [some 1, some 0] 2 l) l_) ?_ ?_
  · intro _ h18430 h
    refine G1 3 [1, 0] E (Cl E ?_)
    obtain ⟨_, hx1, h18430⟩ := obind h18430
    refine recyclinglaw23_light_fn hl1 hA1 hl2 hA2 hl3 hA3 hl4 hA4 hx1 ((Q0 2 E ?_))
    refine Br h18430 22 E E (fun hc1 h18430 => ?_) (fun hc1 h18430 => ?_)
    · refine G2 11 [22, 26] [] [] E ?_
      cases h18430
      exact Ce E ⟨_, rfl, fE E, sE [some 1, some 0] 2 E⟩
    refine G2 4 [] [22] [] E ?_
    refine Br h18430 26 E E (fun hc2 h18430 => ?_) (fun hc2 h18430 => ?_)
    · refine G2 7 [26] [] [] E ?_
      cases h18430
      exact Ce E ⟨_, rfl, fE E, sE [some 1, some 0] 2 E⟩
    refine G2 7 [] [26] [0] E ?_
    cases h18430
    exact Ce E ⟨_, rfl, fE E, sE [some 1, some 0] 2 E⟩
  rintro _ _ _ _ h hm18430 ⟨v1, rfl, hF18430, hS18430⟩
  replace hA1 := hA1.mono hm18430
  replace hA2 := hA2.mono hm18430
  replace hA3 := hA3.mono hm18430
  replace hA4 := hA4.mono hm18430
  refine Atn 2 hF18430 hS18430 E E ?_
  refine Br h 32 E E (fun hc3 h => ?_) (fun hc3 h => ?_)
  · refine G2 3 [32] [] [] E (Cl E ?_)
    obtain ⟨_, hx2, h⟩ := obind h
    refine recyclinglaw23_awake_fn  hx2 (fun _ hm_1 => ?_)
    replace hA1 := hA1.mono hm_1
    replace hA2 := hA2.mono hm_1
    replace hA3 := hA3.mono hm_1
    replace hA4 := hA4.mono hm_1
    refine Q0 2 E ?_
    cases h
    exact Rt [] E E (Ug [] 2 (hR _ (hm18430.trans hm_1)))
  refine G2 7 [] [32] [0, 1] E (Cl E ?_)
  obtain ⟨⟨_, _⟩, hx3, h⟩ := obind h
  replace h := oun_mk h
  refine insert_Options_fn hl1 hA1 hl2 hA2 hl3 hA3 hl4 hA4 hx3 (fun _ _ _ ch1 hm_2 hO1 => ?_)
  replace hA1 := hA1.mono hm_2
  replace hA2 := hA2.mono hm_2
  replace hA3 := hA3.mono hm_2
  replace hA4 := hA4.mono hm_2
  refine Q0 12 E ?_
  refine Br h 42 E E (fun hc4 h => ?_) (fun hc4 h => ?_)
  · refine G2 3 [42] [] [] E (Cl E ?_)
    obtain ⟨_, hx4, h⟩ := obind h
    refine recyclinglaw23_awake_fn  hx4 (fun _ hm_3 => ?_)
    replace hA1 := hA1.mono hm_3
    replace hA2 := hA2.mono hm_3
    replace hA3 := hA3.mono hm_3
    replace hA4 := hA4.mono hm_3
    replace hO1 := hO1.mono hm_3
    refine Q0 2 E ?_
    cases h
    exact Rt [] E E (Ug [] 3 (hR _ (hm18430.trans (hm_2.trans hm_3))))
  obtain ⟨_, hs1, h⟩ := obind h
  refine G2 12 [] [42] [2] E (Rdo E E (R_slHiS E E E E E E hl4.1 hs1 ?_))
  have hA5 := ArrR.pre hA4 hs1
  have hl5 := preLen hl4 hs1
  refine Q0 0 E (So E (O_append E (SemOk.pre (Upd.nilseg (Upd.done ?_)))))
  obtain ⟨_, hz1, h⟩ := obind h
  refine sem_appR (r := rInt) Tt_ok E E E E (by decide) E E 0 E (Own.nil (r := rInt) (e := 3)) E (ArrR.rds hA5 _) hz1 fun _ _ _ hO2 => Q0 6 E (So E (O_bsl (z := [.int .i64 0]) E E E E E E E (F_cons (cells' := [.int .i64 d1]) E E E E (F_nil (fun g3 => Q0 0 E (So E (O_append E ?_)))))))
  obtain ⟨_, hz2, h⟩ := obind h
  refine sem_appR (r := rInt) Tt_ok E E E E (by decide) E E 1 E hO2 E (Own.rds (Own.lit (r := rInt) (e := 3) (g := g3) (xs := [d1]) (cs := [.int .i64 d1]) (css := [[.int .i64 d1]]) E (All2.cons (E) (All2.nil)) E E) 0 E) hz2 fun _ _ _ hO3 => ?_
  obtain ⟨_, hs2, h⟩ := obind h
  refine Q1 8 [4] E (Rdo E E (R_slLoS (r := rInt) E E E E E E E hl4.1 hs2 fun _ hAe1 => ?_))
  have hA6 := ArrR.sub hA4 hl4.1 hs2 hAe1
  have hl6 := subLen hl4 hs2
  refine Q0 0 E (So E (O_append E ?_))
  obtain ⟨_, hz3, h⟩ := obind h
  refine sem_appR (r := rInt) Tt_ok E E E E (by decide) E E 1 E hO3 E (ArrR.rds hA6 _) hz3 fun A9 c8 ch4 hO4 => Q0 9 E (IxA h (Own.rds hO4 1 E) E E fun _ _ _ _ hr1 hc5 _ h => ?_)
  obtain rfl := hr1
  refine Q3 3 [] [] [64] (Z1 hc5) E ?_
  refine Cut h (fun f l o_ f_ μ_ l_ => ∃ (s1 : (List Int)) (A11 : Option Addr) (c10 : Nat) (ch6 : Seg), s1 = o_ ∧ SubFr ((11, .slice A11 s1.length c10) :: keepF [4, 5, 9] f) f_ ∧ SegSub ([(g1, .cells #[.int .i64 p1.Road.Nodes, .slice A1 p1.Road.Edges.length c1, .slice A2 p1.Vehicles.length c2, .slice A3 p1.Demands.length c3, .int .i64 p1.Unload, .int .i64 p1.UnloadSecs] 28 (0, 0))] :: [(g2, .cells #[.int .i64 t1.Vehicle, .slice A4 t1.Stops.length c4] 31 (0, 0))] :: ch1 :: ch6 :: selS [] 5 l) l_ ∧ Own rInt 3 μ_ (.slice A11 s1.length c10) s1 ch6) ?_ ?_
  · intro _ h18445 h
    refine Br h18445 66 E E (fun hc6 h18445 => ?_) (fun hc6 h18445 => ?_)
    · refine G2 3 [66] [] [] E (So E (O_bsl (z := [.int .i64 0]) E E E E E E E (F_cons (cells' := [.int .i64 (-1)]) E E E E (F_nil (fun g4 => Q0 0 E (So E (O_append E ?_)))))))
      obtain ⟨_, hz4, h18445⟩ := obind h18445
      refine sem_appR (r := rInt) Tt_ok E E E E (by decide) E E 2 E hO4 E (Own.rds (Own.lit (r := rInt) (e := 3) (g := g4) (xs := [(-1)]) (cs := [.int .i64 (-1)]) (css := [[.int .i64 (-1)]]) E (All2.cons (E) (All2.nil)) E E) 0 E) hz4 fun A10 c9 ch5 hO5 => Q0 2 E ?_
      cases h18445
      exact Ce E ⟨_, A10, c9, ch5, rfl, fE E, sE [some 4, some 5, some 3, some 2] 6 E, (hO5)⟩
    refine G2 2 [] [66] [] E ?_
    cases h18445
    exact Ce E ⟨_, A9, c8, ch4, rfl, fE E, sE [some 3, some 4, some 2, some 1] 5 E, (hO4)⟩
  rintro _ _ _ _ h hm18445 ⟨s1, A11, c10, ch6, rfl, hF18445, hS18445, hO6⟩
  replace hA1 := hA1.mono hm18445
  replace hA2 := hA2.mono hm18445
  replace hA3 := hA3.mono hm18445
  replace hO1 := hO1.mono hm18445
  refine Atn 4 hF18445 hS18445 E E (G1 7 [0, 1] E (Cl E ?_))
  have hl7 := Own.lenOk hO6
  refine Fn.pre Try.func21 (by kernel_rfl) E (Upd.frzOwn 3 E hO6 fun _ hm_4 hA8 => Upd.done ?_)
  replace hA1 := hA1.mono hm_4
  replace hA2 := hA2.mono hm_4
  replace hA3 := hA3.mono hm_4
  replace hO1 := hO1.mono hm_4
  obtain ⟨⟨_, _⟩, hx6, h⟩ := obind h
  replace h := oun_mk h
  refine tour_Cost_fn hl1 hA1 hl2 hA2 hl3 hA3 hl7 hA8 hx6 (fun _ hm_5 => ?_)
  replace hA1 := hA1.mono hm_5
  replace hA2 := hA2.mono hm_5
  replace hA3 := hA3.mono hm_5
  replace hO1 := hO1.mono hm_5
  replace hA8 := hA8.mono hm_5
  refine Q0 15 E ?_
  refine Cut h (fun f l o_ f_ μ_ l_ => ∃ (there3 : Bool), there3 = o_ ∧ SubFr ((14, .bool there3) :: keepF [4, 9, 12, 13] f) f_ ∧ SegSub (selS [some 0, some 2] 4 l) l_) ?_ ?_
  · intro _ h18458 h
    refine Lp h18458 (fun f l (j_ : Bool × Int) f_ μ_ l_ => ounP j_ fun there1 i1 => SubFr ((14, .bool there1) :: (15, .int .i64 i1) :: keepF [4, 9, 11, 12, 13] f) f_ ∧ SegSub (selS [some 0, some 2] 4 l) l_) ⟨fE E, sE [some 0, some 2] 4 E⟩ ?_
    rintro ⟨there1, i1⟩ _ _ _ _ hm18469 ⟨hF18469, hS18469⟩ hb18469 hq18469
    unfold recyclinglaw23_InsertAll_l1 at hb18469
    replace hb18469 := oun_mk hb18469
    replace hA1 := hA1.mono hm18469
    replace hA2 := hA2.mono hm18469
    replace hA3 := hA3.mono hm18469
    replace hO1 := hO1.mono hm18469
    replace hA8 := hA8.mono hm18469
    refine Atn 2 hF18469 hS18469 E E (G0 8 E ?_)
    refine Br hb18469 82 E E (fun hc7 hb18469 => ?_) (fun hc7 hb18469 => ?_)
    · refine G2 3 [82] [] [] E ?_
      refine Cut hb18469 (fun f l o_ f_ μ_ l_ => ∃ (there2 : Bool), there2 = o_ ∧ SubFr ((14, .bool there2) :: keepF [4, 9, 11, 12, 13, 15] f) f_ ∧ SegSub l l_) ?_ ?_
      · intro _ h18474 hb18469
        refine G0 4 E ?_
        refine Br h18474 86 E E (fun hc8 h18474 => ?_) (fun hc8 h18474 => ?_)
        · refine G2 11 [86] [] [] E ?_
          cases h18474
          exact Ce E ⟨_, rfl, fE E, sE [some 0, some 1] 2 E⟩
        refine G2 2 [] [86] [] E (IxA h18474 (Own.rds hO1 1 E) E E fun _ _ _ _ hr2 hc9 _ h18474 => ?_)
        obtain ⟨_, _, rfl, hl8, hA10⟩ := hr2
        refine Q3 3 [] [86] [65] (Z1 hc9) E (Cl E ?_)
        obtain ⟨_, hx8, h18474⟩ := obind h18474
        refine recyclingref23_Ints_fn hl8 (ArrR.rds hA10 _) hl7 (ArrR.rds hA8 _) hx8 ((Q2 4 [] [86] [] E ?_))
        cases h18474
        exact Ce E ⟨_, rfl, fE E, sE [some 0, some 1] 2 E⟩
      rintro _ _ _ _ hb18469 hm18474 ⟨there2, rfl, hF18474, hS18474⟩
      replace hA1 := hA1.mono hm18474
      replace hA2 := hA2.mono hm18474
      replace hA3 := hA3.mono hm18474
      replace hO1 := hO1.mono hm18474
      refine Atn 2 hF18474 hS18474 E E (G0 5 E ?_)
      cases hb18469
      exact Ce E ⟨_, rfl, fE E, sE [some 0, some 1] 2 E⟩
    refine G2 2 [] [82] [] E ?_
    cases hb18469
    have hq_ := hq18469 _ E
    subst hq_
    exact Ce E ⟨_, rfl, fE E, sE [some 0, some 1] 2 E⟩
  rintro _ _ _ _ h hm18458 ⟨there3, rfl, hF18458, hS18458⟩
  replace hA1 := hA1.mono hm18458
  replace hA2 := hA2.mono hm18458
  replace hA3 := hA3.mono hm18458
  replace hO1 := hO1.mono hm18458
  refine Atn 2 hF18458 hS18458 E E (G0 8 E ?_)
  refine Br h 98 E E (fun hc10 h => ?_) (fun hc10 h => ?_)
  · refine G2 5 [98] [] [] E ?_
    cases h
    exact Rt [] E E (Ug [] 2 (hR _ (hm18430.trans (hm_2.trans (hm18445.trans (hm_4.trans (hm_5.trans hm18458)))))))
  refine G2 8 [] [98] [] E ?_
  refine Br h 100 E E (fun hc11 h => ?_) (fun hc11 h => ?_)
  · refine G2 3 [100] [] [] E (Cl E ?_)
    obtain ⟨_, hx9, h⟩ := obind h
    refine recyclinglaw23_awake_fn  hx9 (fun _ hm_6 => ?_)
    replace hA1 := hA1.mono hm_6
    replace hA2 := hA2.mono hm_6
    replace hA3 := hA3.mono hm_6
    replace hO1 := hO1.mono hm_6
    refine Q0 2 E ?_
    cases h
    exact Rt [] E E (Ug [] 2 (hR _ (hm18430.trans (hm_2.trans (hm18445.trans (hm_4.trans (hm_5.trans (hm18458.trans hm_6))))))))
  refine G2 3 [] [100] [] E (Dr _ Kept.refl [(true, 0), (true, 1), (true, 2), (true, 3), (false, 4), (true, 5), (true, 6), (true, 7), (true, 8), (true, 9)] (by kernel_rfl) (G1 2 [0] E (Ix h (Own.rds (L := ([(g1, .cells #[.int .i64 p1.Road.Nodes, .slice A1 p1.Road.Edges.length c1, .slice A2 p1.Vehicles.length c2, .slice A3 p1.Demands.length c3, .int .i64 p1.Unload, .int .i64 p1.UnloadSecs] 28 (0, 0))] :: ch1 :: L)) hO1 1 E) E E fun _ _ _ _ hr3 hc12 _ h => ?_)))
  obtain ⟨_, _, rfl, hl9, hA12⟩ := hr3
  refine Q3 1 [] [] [64] (Z1 hc12) E (Cl E ?_)
  obtain ⟨⟨_, _⟩, hx11, h⟩ := obind h
  replace h := oun_mk h
  refine tour_Cost_fn hl1 hA1 hl2 hA2 hl3 hA3 hl9 hA12 hx11 (fun _ hm_7 => ?_)
  refine ⟨Kept.refl, ?_⟩
  refine Q0 7 E ?_
  refine Cut h (fun f l o_ f_ μ_ l_ => ∃ (v10 : Bool), v10 = o_ ∧ SubFr ((8, .bool v10) :: []) f_ ∧ SegSub (selS [] 2 l) l_) ?_ ?_
  · intro _ h18486 h
    refine G0 4 E ?_
    refine Br h18486 112 E E (fun hc13 h18486 => ?_) (fun hc13 h18486 => ?_)
    · refine G2 5 [112] [] [] E ?_
      refine Br h18486 117 E E (fun hc14 h18486 => ?_) (fun hc14 h18486 => ?_)
      · refine Cl E ?_
        obtain ⟨_, hx12, h18486⟩ := obind h18486
        refine recyclinglaw23_awake_fn  hx12 (fun _ _ => ?_)
        refine Q2 3 [117] [] [] E ?_
        cases h18486
        exact Ce E ⟨_, rfl, fE E, sE [] 2 E⟩
      refine G2 4 [] [117] [] E ?_
      cases h18486
      exact Ce E ⟨_, rfl, fE E, sE [] 2 E⟩
    refine G2 9 [] [112, 117] [] E ?_
    cases h18486
    exact Ce E ⟨_, rfl, fE E, sE [] 2 E⟩
  rintro _ _ _ _ h hm18486 ⟨v10, rfl, hF18486, hS18486⟩
  refine Atn 0 hF18486 hS18486 E E ?_
  cases h
  exact Rt [] E E (Ug [] 0 (hR _ (hm18430.trans (hm_2.trans (hm18445.trans (hm_4.trans (hm_5.trans (hm18458.trans (hm_7.trans hm18486)))))))))

end Go.Proofs.Ytfekfbcghnlohaa
