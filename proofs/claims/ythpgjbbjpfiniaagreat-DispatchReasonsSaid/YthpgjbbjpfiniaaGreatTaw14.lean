/- Printed by gen2.py of this repo: the walks that tie the functions to their specifications. -/
import Derived.Test.YthpgjbbjpfiniaaGreatTt
import Derived.Test.YthpgjbbjpfiniaaGreatTas
import Derived.Test.YthpgjbbjpfiniaaGreatTaw1
import Derived.Test.YthpgjbbjpfiniaaGreatTaw3
import Derived.Test.YthpgjbbjpfiniaaGreatTaw4
import Derived.Test.YthpgjbbjpfiniaaGreatTaw5
namespace Go.Proofs.YthpgjbbjpfiniaaGreat
open Go.RowKit
set_option linter.unusedSimpArgs false
set_option linter.unusedVariables false
set_option maxHeartbeats 2000000
set_option maxRecDepth 4000
attribute [local irreducible] WP SemOk SemU Fn AN Upd vcR vcO vcOps vcPlan putK fillK resK inBlk forkOne Cell StAt Kept KS
variable {μ : Gh} {L : List Seg} {R : Value → Gh → List Seg → Prop}
theorem recyclinglaw25_DispatchReasons_fn {F : Nat} {p1 : T_api_Problem} {x1 : T_api_Plan} {d1 : Int} {A1 : Option Addr} {c1 : Nat} {A2 : Option Addr} {c2 : Nat} {A3 : Option Addr} {c3 : Nat} {A4 : Option Addr} {c4 : Nat} {A5 : Option Addr} {c5 : Nat} {res1 : Bool}
    (hl1 : p1.Road.Edges.length ≤ c1 ∧ c1 ≤ maxLen) (hA1 : ArrR r_api_Edge μ A1 p1.Road.Edges) (hl2 : p1.Vehicles.length ≤ c2 ∧ c2 ≤ maxLen) (hA2 : ArrR r_api_Vehicle μ A2 p1.Vehicles) (hl3 : p1.Demands.length ≤ c3 ∧ c3 ≤ maxLen) (hA3 : ArrR r_api_Demand μ A3 p1.Demands) (hl4 : x1.Tours.length ≤ c4 ∧ c4 ≤ maxLen) (hA4 : ArrR r_api_Tour μ A4 x1.Tours) (hl5 : x1.Left.length ≤ c5 ∧ c5 ≤ maxLen) (hA5 : ArrR rInt μ A5 x1.Left) (h : recyclinglaw25_DispatchReasons F p1 x1 d1 = some res1)
    (hR : ∀ (μ' : Gh) , μ.le μ' → R (.bool res1) μ' (L)) :
    Fn Tryz.prog 7 [.agg #[.int .i64 p1.Road.Nodes, .slice A1 p1.Road.Edges.length c1, .slice A2 p1.Vehicles.length c2, .slice A3 p1.Demands.length c3, .int .i64 p1.Unload, .int .i64 p1.UnloadSecs], .agg #[.slice A4 x1.Tours.length c4, .slice A5 x1.Left.length c5], .int .i64 d1] μ (L) R := by
  unfold recyclinglaw25_DispatchReasons at h
  refine FnS Tryz.func7 (by kernel_rfl) E Tryz.ntmps7 E E ?_
  refine G0 2 E (Al E fun _ => Q0 0 E (Al E fun _ => Q1 7 [1, 0] E (Cl E ?_)))
  obtain ⟨_, hx1, h⟩ := obind h
  refine recyclingref25_Large_fn hl1 hA1 hl2 hA2 hl3 hA3 hl4 hA4 hl5 hA5 hx1 ((Q0 1 E ?_))
  refine Br h 21 E E (fun hc1 h => ?_) (fun hc1 h => ?_)
  · refine G2 3 [21] [] [] E (Cl E ?_)
    obtain ⟨_, hx2, h⟩ := obind h
    refine recyclinglaw25_awake_fn  hx2 (fun _ hm_1 => ?_)
    replace hA1 := hA1.mono hm_1
    replace hA2 := hA2.mono hm_1
    replace hA3 := hA3.mono hm_1
    replace hA4 := hA4.mono hm_1
    replace hA5 := hA5.mono hm_1
    refine Q0 2 E ?_
    cases h
    exact Rt [] E E (Ug [] 2 (hR _ hm_1))
  refine G2 7 [] [21] [1, 0] E (Cl E ?_)
  obtain ⟨⟨_, _⟩, hx3, h⟩ := obind h
  replace h := oun_mk h
  refine dispatch_Why_fn hl1 hA1 hl2 hA2 hl3 hA3 hl4 hA4 hl5 hA5 hx3 (fun _ _ _ _ hm_2 hO1 => ?_)
  replace hA1 := hA1.mono hm_2
  replace hA2 := hA2.mono hm_2
  replace hA3 := hA3.mono hm_2
  replace hA4 := hA4.mono hm_2
  replace hA5 := hA5.mono hm_2
  refine Q0 12 E ?_
  refine Br h 31 E E (fun hc2 h => ?_) (fun hc2 h => ?_)
  · refine G2 2 [31] [] [] E ?_
    refine Cut h (fun f l o_ f_ μ_ l_ => ∃ (v4 : Bool), v4 = o_ ∧ SubFr ((6, .bool v4) :: []) f_ ∧ SegSub (selS [] 3 l) l_) ?_ ?_
    · intro _ h40347 h
      refine G0 5 E ?_
      refine Br h40347 35 E E (fun hc3 h40347 => ?_) (fun hc3 h40347 => ?_)
      · refine Cl E ?_
        obtain ⟨_, hx4, h40347⟩ := obind h40347
        refine recyclinglaw25_awake_fn  hx4 (fun _ hm_3 => ?_)
        replace hA1 := hA1.mono hm_3
        replace hA2 := hA2.mono hm_3
        replace hA3 := hA3.mono hm_3
        replace hA4 := hA4.mono hm_3
        replace hA5 := hA5.mono hm_3
        replace hO1 := hO1.mono hm_3
        refine Q2 3 [35] [] [] E ?_
        cases h40347
        exact Ce E ⟨_, rfl, fE E, sE [] 3 E⟩
      refine G2 4 [] [35] [] E ?_
      cases h40347
      exact Ce E ⟨_, rfl, fE E, sE [] 3 E⟩
    rintro _ _ _ _ h hm40347 ⟨v4, rfl, hF40347, hS40347⟩
    replace hA1 := hA1.mono hm40347
    replace hA2 := hA2.mono hm40347
    replace hA3 := hA3.mono hm40347
    replace hA4 := hA4.mono hm40347
    replace hA5 := hA5.mono hm40347
    replace hO1 := hO1.mono hm40347
    refine Atn 0 hF40347 hS40347 E E ?_
    cases h
    exact Rt [] E E (Ug [] 0 (hR _ (hm_2.trans hm40347)))
  refine G2 4 [] [31] [] E ?_
  refine Cut h (fun f l o_ f_ μ_ l_ => ∃ (v6 : Bool), v6 = o_ ∧ SubFr ((60, .bool v6) :: keepF [2, 3, 4, 7] f) f_ ∧ SegSub (selS [some 2, some 1, some 0] 3 l) l_) ?_ ?_
  · intro _ h40348 h
    refine G1 3 [2, 1] E (Cl E ?_)
    obtain ⟨_, hx5, h40348⟩ := obind h40348
    refine tour_Feasible_fn hl1 hA1 hl2 hA2 hl3 hA3 hl4 hA4 hl5 hA5 hx5 (fun _ hm_4 => ?_)
    replace hA1 := hA1.mono hm_4
    replace hA2 := hA2.mono hm_4
    replace hA3 := hA3.mono hm_4
    replace hA4 := hA4.mono hm_4
    replace hA5 := hA5.mono hm_4
    replace hO1 := hO1.mono hm_4
    refine Q0 2 E ?_
    refine Br h40348 42 E E (fun hc4 h40348 => ?_) (fun hc4 h40348 => ?_)
    · refine G2 19 [42, 46, 53] [] [] E ?_
      cases h40348
      exact Ce E ⟨_, rfl, fE E, sE [some 2, some 1, some 0] 3 E⟩
    refine G2 4 [] [42] [] E ?_
    refine Br h40348 46 E E (fun hc5 h40348 => ?_) (fun hc5 h40348 => ?_)
    · refine G2 15 [46, 53] [] [] E ?_
      cases h40348
      exact Ce E ⟨_, rfl, fE E, sE [some 2, some 1, some 0] 3 E⟩
    refine G2 7 [] [46] [2] E ?_
    refine Br h40348 53 E E (fun hc6 h40348 => ?_) (fun hc6 h40348 => ?_)
    · refine G2 8 [53] [] [] E ?_
      cases h40348
      exact Ce E ⟨_, rfl, fE E, sE [some 2, some 1, some 0] 3 E⟩
    refine G2 8 [] [53] [2] E ?_
    cases h40348
    exact Ce E ⟨_, rfl, fE E, sE [some 2, some 1, some 0] 3 E⟩
  rintro _ _ _ _ h hm40348 ⟨v6, rfl, hF40348, hS40348⟩
  replace hA1 := hA1.mono hm40348
  replace hA2 := hA2.mono hm40348
  replace hA3 := hA3.mono hm40348
  replace hA4 := hA4.mono hm40348
  replace hA5 := hA5.mono hm40348
  replace hO1 := hO1.mono hm40348
  refine Atn 3 hF40348 hS40348 E E ?_
  refine Br h 60 E E (fun hc7 h => ?_) (fun hc7 h => ?_)
  · refine G2 5 [60] [] [] E ?_
    cases h
    exact Rt [] E E (Ug [] 3 (hR _ (hm_2.trans hm40348)))
  refine G2 9 [] [60] [] E ?_
  refine Cut h (fun f l o_ f_ μ_ l_ => (.inl ()) = o_ ∧ SubFr ([]) f_ ∧ SegSub (selS [] 3 l) l_) ?_ ?_
  · intro _ h40353 h
    refine Lp h40353 (fun f l (v7 : Int) f_ μ_ l_ => SubFr ((63, .int .i64 v7) :: keepF [2, 3, 4, 61, 62] f) f_ ∧ SegSub l l_) ⟨fE E, sE [some 0, some 1, some 2] 3 E⟩ ?_
    rintro v7 _ _ _ _ hm40395 ⟨hF40395, hS40395⟩ hb40395 hq40395
    unfold recyclinglaw25_DispatchReasons_l1 at hb40395
    replace hA1 := hA1.mono hm40395
    replace hA2 := hA2.mono hm40395
    replace hA3 := hA3.mono hm40395
    replace hA4 := hA4.mono hm40395
    replace hA5 := hA5.mono hm40395
    replace hO1 := hO1.mono hm40395
    refine Atn 3 hF40395 hS40395 E E (G0 5 E ?_)
    refine Br hb40395 64 E E (fun hc8 hb40395 => ?_) (fun hc8 hb40395 => ?_)
    · refine G2 7 [64] [] [] E (IxA hb40395 (Own.rds hO1 2 E) E E fun _ _ _ _ hr1 hc9 _ hb40395 => ?_)
      obtain rfl := hr1
      refine Q3 1 [] [] [64] (Z1 hc9) E (Al E fun _ => Q1 4 [0] E (Dr _ Kept.refl [(true, 0), (true, 1), (true, 2), (true, 3), (true, 4), (true, 5), (true, 6), (true, 7), (true, 8), (true, 9), (true, 10), (false, 11), (true, 12)] (by kernel_rfl) (G1 3 [1] E (Ix hb40395 (ArrR.rds hA2 L) E E fun _ _ _ _ hr2 hc10 _ hb40395 => ?_))))
      obtain rfl := hr2
      refine Q3 4 [] [] [64, 1] (Z1 (hc10.push.push.push.push)) E (Ix hb40395 (ArrR.rds hA3 L) E E fun _ _ _ _ hr3 hc11 _ hb40395 => ?_)
      obtain rfl := hr3
      refine Q3 2 [] [] [66] (Z1 (hc11.push.push.push.push)) E (Cl E ?_)
      obtain ⟨_, hx9, hb40395⟩ := obind hb40395
      refine vehicle_Carries_fn  hx9 (?_)
      refine ⟨Kept.refl, ?_⟩
      refine Q0 3 E (Dr _ Kept.refl [(true, 0), (true, 1), (true, 2), (true, 3), (true, 4), (true, 5), (true, 6), (true, 7), (true, 8), (true, 9), (true, 10), (true, 11), (true, 12), (true, 13)] (by kernel_rfl) (G1 3 [1] E (Ix hb40395 (ArrR.rds hA3 L) E E fun _ _ _ _ hr4 hc12 _ hb40395 => ?_)))
      obtain rfl := hr4
      refine Q3 5 [] [] [67, 1] (Z1 (hc12.push.push.push.push)) E (Ix hb40395 (ArrR.rds hA2 L) E E fun _ _ _ _ hr5 hc13 _ hb40395 => ?_)
      obtain rfl := hr5
      refine Q3 10 [] [] [68, 1] (Z1 (hc13.push.push.push.push)) E (So E (O_bsl (z := [.int .i64 0, .int .i64 0]) E E E E E E E (F_cons (cells' := [.int .i64 d1, .int .i64 0]) E E E E (F_cons (cells' := [.int .i64 d1, .int .i64 (-1)]) E E E E (F_nil (fun g4 => Q0 1 E (Cl E ?_)))))))
      have hl6 : [d1, (-1)].length ≤ 2 ∧ 2 ≤ maxLen := ⟨Nat.le_refl _, by unfold maxLen; omega⟩
      refine Fn.pre Tryz.func26 (by kernel_rfl) E (Upd.frzOwn 0 E (Own.lit (r := rInt) (e := 3) (g := g4) (xs := [d1, (-1)]) (cs := [.int .i64 d1, .int .i64 (-1)]) (css := [[.int .i64 d1], [.int .i64 (-1)]]) E (All2.cons (E) (All2.cons (E) (All2.nil))) E E) fun _ hm_5 hA11 => Upd.done ?_)
      replace hA1 := hA1.mono hm_5
      replace hA2 := hA2.mono hm_5
      replace hA3 := hA3.mono hm_5
      replace hA4 := hA4.mono hm_5
      replace hA5 := hA5.mono hm_5
      obtain ⟨⟨_, _, _⟩, hx12, hb40395⟩ := obind hb40395
      replace hb40395 := oun_mk hb40395
      replace hb40395 := oun_mk hb40395
      refine tour_Walk_fn hl1 hA1 hl2 hA2 hl3 hA3 hl6 hA11 hx12 (fun _ _ _ _ hm_6 _ => ?_)
      replace hA1 := hA1.mono hm_6
      replace hA2 := hA2.mono hm_6
      replace hA3 := hA3.mono hm_6
      replace hA4 := hA4.mono hm_6
      replace hA5 := hA5.mono hm_6
      refine Q0 9 E (Dr _ Kept.refl [(true, 0), (true, 1), (true, 2), (true, 4), (false, 3), (false, 5), (true, 6), (true, 7), (true, 8), (true, 9), (true, 10)] (by kernel_rfl) (G1 4 [3, 4] E (Cl E ?_)))
      obtain ⟨_, hx13, hb40395⟩ := obind hb40395
      refine recyclingref25_Of_fn hl4 hA4 hl5 hA5 hx13 (fun _ _ hl7 hA12 => ?_)
      refine ⟨Kept.refl, ?_⟩
      refine Q0 0 E (Cl E ?_)
      obtain ⟨⟨_, _⟩, hx14, hb40395⟩ := obind hb40395
      replace hb40395 := oun_mk hb40395
      refine insert_Options_fn hl1 hA1 hl2 hA2 hl3 hA3 hl7 hA12 hx14 (fun _ _ _ _ hm_7 _ => ?_)
      refine ⟨Kept.more (Kept.refl), ?_⟩
      refine Q0 11 E ?_
      refine Cut hb40395 (fun f l o_ f_ μ_ l_ => ∃ (want1 : Int), want1 = o_ ∧ SubFr ((18, .int .i64 want1) :: keepF [2, 3, 4, 9, 10, 14, 17, 61, 62, 63] f) f_ ∧ SegSub (selS [some 4, some 5, some 3, some 6] 7 l) l_) ?_ ?_
      · intro _ h40424 hb40395
        refine G0 7 E ?_
        refine Br h40424 112 E E (fun hc14 h40424 => ?_) (fun hc14 h40424 => ?_)
        · refine G2 5 [112] [] [] E ?_
          cases h40424
          exact Ce E ⟨_, rfl, fE E, sE [some 4, some 5, some 3, some 6] 7 E⟩
        refine G2 6 [] [112] [] E ?_
        refine Br h40424 115 E E (fun hc15 h40424 => ?_) (fun hc15 h40424 => ?_)
        · refine G2 5 [115] [] [] E ?_
          cases h40424
          exact Ce E ⟨_, rfl, fE E, sE [some 4, some 5, some 3, some 6] 7 E⟩
        refine G2 7 [] [115] [] E ?_
        refine Br h40424 117 E E (fun hc16 h40424 => ?_) (fun hc16 h40424 => ?_)
        · refine G2 6 [117] [] [] E ?_
          cases h40424
          exact Ce E ⟨_, rfl, fE E, sE [some 4, some 5, some 3, some 6] 7 E⟩
        refine G2 8 [] [117] [] E ?_
        refine Br h40424 121 E E (fun hc17 h40424 => ?_) (fun hc17 h40424 => ?_)
        · refine G2 5 [121] [] [] E ?_
          cases h40424
          exact Ce E ⟨_, rfl, fE E, sE [some 4, some 5, some 3, some 6] 7 E⟩
        refine G2 3 [] [121] [] E ?_
        cases h40424
        exact Ce E ⟨_, rfl, fE E, sE [some 4, some 5, some 3, some 6] 7 E⟩
      rintro _ _ _ _ hb40395 hm40424 ⟨want1, rfl, hF40424, hS40424⟩
      refine Atn 4 hF40424 hS40424 E E (G0 1 E ?_)
      refine Cut hb40395 (fun f l o_ f_ μ_ l_ => ∃ (v11 : Bool), v11 = o_ ∧ SubFr ((163, .bool v11) :: keepF [2, 3, 4, 61, 62, 63] f) f_ ∧ SegSub (selS [some 0, some 1, some 3] 4 l) l_) ?_ ?_
      · intro _ h40431 hb40395
        refine G1 6 [2] E ?_
        refine Br h40431 129 E E (fun hc18 h40431 => ?_) (fun hc18 h40431 => ?_)
        · refine G2 35 [129, 135, 139] [] [] E ?_
          cases h40431
          exact Ce E ⟨_, rfl, fE E, sE [some 0, some 1, some 3] 4 E⟩
        refine G2 6 [] [129] [2] E ?_
        refine Br h40431 135 E E (fun hc19 h40431 => ?_) (fun hc19 h40431 => ?_)
        · refine G2 29 [135, 139] [] [] E ?_
          cases h40431
          exact Ce E ⟨_, rfl, fE E, sE [some 0, some 1, some 3] 4 E⟩
        refine G2 4 [] [135] [] E ?_
        refine Br h40431 139 E E (fun hc20 h40431 => ?_) (fun hc20 h40431 => ?_)
        · refine G2 25 [139] [] [] E ?_
          cases h40431
          exact Ce E ⟨_, rfl, fE E, sE [some 0, some 1, some 3] 4 E⟩
        refine G2 4 [] [139] [] E ?_
        refine Br h40431 143 E E (fun hc21 h40431 => ?_) (fun hc21 h40431 => ?_)
        · refine G2 4 [143] [139] [] E ?_
          refine Br h40431 147 E E (fun hc22 h40431 => ?_) (fun hc22 h40431 => ?_)
          · refine G2 4 [147] [139] [] E ?_
            refine Br h40431 151 E E (fun hc23 h40431 => ?_) (fun hc23 h40431 => ?_)
            · refine G2 4 [151] [139] [] E ?_
              refine Br h40431 155 E E (fun hc24 h40431 => ?_) (fun hc24 h40431 => ?_)
              · refine G2 4 [155] [139] [] E ?_
                refine Br h40431 159 E E (fun hc25 h40431 => ?_) (fun hc25 h40431 => ?_)
                · refine G2 5 [159] [139] [] E ?_
                  cases h40431
                  exact Ce E ⟨_, rfl, fE E, sE [some 0, some 1, some 3] 4 E⟩
                refine G2 5 [] [139, 159] [] E ?_
                cases h40431
                exact Ce E ⟨_, rfl, fE E, sE [some 0, some 1, some 3] 4 E⟩
              refine G2 9 [] [139, 155, 159] [] E ?_
              cases h40431
              exact Ce E ⟨_, rfl, fE E, sE [some 0, some 1, some 3] 4 E⟩
            refine G2 13 [] [139, 151, 155, 159] [] E ?_
            cases h40431
            exact Ce E ⟨_, rfl, fE E, sE [some 0, some 1, some 3] 4 E⟩
          refine G2 17 [] [139, 147, 151, 155, 159] [] E ?_
          cases h40431
          exact Ce E ⟨_, rfl, fE E, sE [some 0, some 1, some 3] 4 E⟩
        refine G2 21 [] [139, 143, 147, 151, 155, 159] [] E ?_
        cases h40431
        exact Ce E ⟨_, rfl, fE E, sE [some 0, some 1, some 3] 4 E⟩
      rintro _ _ _ _ hb40395 hm40431 ⟨v11, rfl, hF40431, hS40431⟩
      refine Atn 3 hF40431 hS40431 E E ?_
      refine Br hb40395 163 E E (fun hc26 hb40395 => ?_) (fun hc26 hb40395 => ?_)
      · refine G2 5 [163] [] [] E ?_
        cases hb40395
        have hq_ := hq40395 _ E
        subst hq_
        replace h := osum_r h
        cases h
        exact Rt [] E E (Ug [] 3 (hR _ (hm_2.trans (hm40348.trans (hm40395.trans (hm_5.trans (hm_6.trans (hm_7.trans (hm40424.trans hm40431)))))))))
      refine G2 7 [] [163] [] E ?_
      cases hb40395
      exact Ce E ⟨_, rfl, fE E, sE [some 0, some 1, some 2] 3 E⟩
    refine G2 2 [] [64] [] E ?_
    cases hb40395
    have hq_ := hq40395 _ E
    subst hq_
    exact Ce E ⟨rfl, fE E, sE [] 3 E⟩
  rintro _ _ _ _ h hm40353 ⟨rfl, hF40353, hS40353⟩
  replace h := osum_l h
  refine Atn 0 hF40353 hS40353 E E (G0 2 E (Cl E ?_))
  obtain ⟨_, hx15, h⟩ := obind h
  refine recyclinglaw25_awake_fn  hx15 (fun _ hm_8 => ?_)
  refine Q0 2 E ?_
  cases h
  exact Rt [] E E (Ug [] 0 (hR _ (hm_2.trans (hm40348.trans (hm40353.trans hm_8)))))
end Go.Proofs.YthpgjbbjpfiniaaGreat
