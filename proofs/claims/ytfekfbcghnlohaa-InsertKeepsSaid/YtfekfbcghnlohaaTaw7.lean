/- Printed by gen2.py of this repo: the walks that tie the functions to their specifications. -/
import Derived.Test.YtfekfbcghnlohaaTt
import Derived.Test.YtfekfbcghnlohaaTas
import Derived.Test.YtfekfbcghnlohaaTaw1
import Derived.Test.YtfekfbcghnlohaaTaw2
import Derived.Test.YtfekfbcghnlohaaTaw3
namespace Go.Proofs.Ytfekfbcghnlohaa
open Go.RowKit
set_option linter.unusedSimpArgs false
set_option linter.unusedVariables false
set_option maxHeartbeats 2000000
set_option maxRecDepth 4000
attribute [local irreducible] WP SemOk SemU Fn AN Upd vcR vcO vcOps vcPlan putK fillK resK inBlk forkOne Cell StAt Kept KS

variable {μ : Gh} {L : List Seg} {R : Value → Gh → List Seg → Prop}
theorem recyclingref23_Without_fn  {stops1 : (List Int)} {d1 : Int} {A1 : Option Addr} {c1 : Nat} {res1 : (List Int)}
    (hl1 : stops1.length ≤ c1 ∧ c1 ≤ maxLen) (hA1 : Rds rInt μ L A1 stops1) (h : recyclingref23_Without stops1 d1 = some res1)
    (hR : ∀ (A0 : Option Addr) (c0 : Nat) (ch0 : Seg), Own rInt 3 μ (.slice A0 res1.length c0) res1 ch0 → R (.slice A0 res1.length c0) μ (ch0 :: L)) :
    Fn Try.prog 22 [.slice A1 stops1.length c1, .int .i64 d1] μ (L) R := by
  unfold recyclingref23_Without at h
  refine FnS Try.func22 (by kernel_rfl) E Try.ntmps22 E E ?_
  refine G0 13 E ?_
  refine Cut h (fun f l o_ f_ μ_ l_ => ∃ (out3 : (List Int)) (A5 : Option Addr) (c5 : Nat) (ch4 : Seg), out3 = o_ ∧ SubFr ((5, .slice A5 out3.length c5) :: []) f_ ∧ SegSub (ch4 :: l) l_ ∧ Own rInt 3 μ_ (.slice A5 out3.length c5) out3 ch4 ∧ μ = μ_) ?_ ?_
  · intro _ h17955 h
    refine Lp h17955 (fun f l (j_ : (List Int) × Int) f_ μ_ l_ => ounP j_ fun out1 i1 => ∃ (A2 : Option Addr) (c2 : Nat) (ch1 : Seg), SubFr ((5, .slice A2 out1.length c2) :: (6, .int .i64 i1) :: keepF [0, 1] f) f_ ∧ SegSub (ch1 :: l) l_ ∧ Own rInt 3 μ_ (.slice A2 out1.length c2) out1 ch1 ∧ μ = μ_) ⟨none, 0, [], fE E, sE [none] 0 E, (Own.nil), E⟩ ?_
    rintro ⟨out1, i1⟩ _ _ _ _ _ ⟨A2, c2, ch1, hF17963, hS17963, hO1, rfl⟩ hb17963 hq17963
    unfold recyclingref23_Without_l1 at hb17963
    replace hb17963 := oun_mk hb17963
    refine Atn 1 hF17963 hS17963 E E (G0 8 E ?_)
    refine Br hb17963 10 E E (fun hc1 hb17963 => ?_) (fun hc1 hb17963 => ?_)
    · refine G2 3 [10] [] [] E ?_
      refine Cut hb17963 (fun f l o_ f_ μ_ l_ => ∃ (out2 : (List Int)) (A4 : Option Addr) (c4 : Nat) (ch3 : Seg), out2 = o_ ∧ SubFr ((5, .slice A4 out2.length c4) :: keepF [0, 1, 6] f) f_ ∧ SegSub (ch3 :: selS [] 1 l) l_ ∧ Own rInt 3 μ_ (.slice A4 out2.length c4) out2 ch3 ∧ μ = μ_) ?_ ?_
      · intro _ h17966 hb17963
        refine G0 2 E ?_
        refine Cut h17966 (fun f l o_ f_ μ_ l_ => ∃ (v1 : Bool), v1 = o_ ∧ SubFr ((25, .bool v1) :: keepF [0, 1, 5, 6] f) f_ ∧ SegSub l l_ ∧ μ = μ_) ?_ ?_
        · intro _ h17967 h17966
          refine G0 3 E (Ix h17967 hA1 E E fun _ _ _ _ hr1 hc2 _ h17967 => ?_)
          obtain rfl := hr1
          refine Q3 3 [] [] [64] (Z1 (hc2.push)) E ?_
          refine Br h17967 18 E E (fun hc3 h17967 => ?_) (fun hc3 h17967 => ?_)
          · refine G2 2 [18] [] [] E (Ix h17967 hA1 E E fun _ _ _ _ hr2 hc4 _ h17967 => ?_)
            obtain rfl := hr2
            refine Q3 5 [18] [] [64] (Z1 (hc4.push)) E ?_
            cases h17967
            exact Ce E ⟨_, rfl, fE E, sE [some 0] 1 E, rfl⟩
          refine G2 8 [] [18] [] E ?_
          cases h17967
          exact Ce E ⟨_, rfl, fE E, sE [some 0] 1 E, rfl⟩
        rintro _ _ _ _ h17966 _ ⟨v1, rfl, hF17967, hS17967, rfl⟩
        refine Atn 1 hF17967 hS17967 E E ?_
        refine Br h17966 25 E E (fun hc5 h17966 => ?_) (fun hc5 h17966 => ?_)
        · refine G2 5 [25] [] [] E (Ix h17966 hA1 E E fun x3 _ _ _ hr3 hc6 _ h17966 => ?_)
          obtain rfl := hr3
          refine Q3 1 [] [] [64] (Z1 (hc6.push)) E (So E (O_bsl (z := [.int .i64 0]) E E E E E E E (F_cons (cells' := [.int .i64 x3]) E E E E (F_nil (fun g1 => Q0 0 E (So E (O_append E ?_)))))))
          obtain ⟨_, hz1, h17966⟩ := obind h17966
          refine sem_appR (r := rInt) Tt_ok E E E E (by decide) E E 1 E hO1 E (Own.rds (Own.lit (r := rInt) (e := 3) (g := g1) (xs := [x3]) (cs := [.int .i64 x3]) (css := [[.int .i64 x3]]) E (All2.cons (E) (All2.nil)) E E) 0 E) hz1 fun A3 c3 ch2 hO2 => Q0 3 E ?_
          cases h17966
          exact Ce E ⟨_, A3, c3, ch2, rfl, fE E, sE [some 1] 2 E, (hO2), rfl⟩
        refine G2 3 [] [25] [] E ?_
        cases h17966
        exact Ce E ⟨_, A2, c2, ch1, rfl, fE E, sE [some 0] 1 E, (hO1), rfl⟩
      rintro _ _ _ _ hb17963 _ ⟨out2, A4, c4, ch3, rfl, hF17966, hS17966, hO3, rfl⟩
      refine Atn 1 hF17966 hS17966 E E (G0 5 E ?_)
      cases hb17963
      exact Ce E ⟨_, rfl, A4, c4, ch3, fE E, sE [some 0] 1 E, (hO3), rfl⟩
    refine G2 2 [] [10] [] E ?_
    cases hb17963
    have hq_ := hq17963 _ E
    subst hq_
    exact Ce E ⟨_, A2, c2, ch1, rfl, fE E, sE [some 0] 1 E, (hO1), rfl⟩
  rintro _ _ _ _ h _ ⟨out3, A5, c5, ch4, rfl, hF17955, hS17955, hO4, rfl⟩
  refine Atn 1 hF17955 hS17955 E E (G0 5 E ?_)
  cases h
  exact Rt [] E E (Ug [[0]] 1 (hR A5 c5 ch4 hO4))

theorem recyclinglaw23_InsertKeeps_fn {F : Nat} {p1 : T_api_Problem} {t1 : T_api_Tour} {d1 : Int} {A1 : Option Addr} {c1 : Nat} {A2 : Option Addr} {c2 : Nat} {A3 : Option Addr} {c3 : Nat} {A4 : Option Addr} {c4 : Nat} {res1 : Bool}
    (hl1 : p1.Road.Edges.length ≤ c1 ∧ c1 ≤ maxLen) (hA1 : ArrR r_api_Edge μ A1 p1.Road.Edges) (hl2 : p1.Vehicles.length ≤ c2 ∧ c2 ≤ maxLen) (hA2 : ArrR r_api_Vehicle μ A2 p1.Vehicles) (hl3 : p1.Demands.length ≤ c3 ∧ c3 ≤ maxLen) (hA3 : ArrR r_api_Demand μ A3 p1.Demands) (hl4 : t1.Stops.length ≤ c4 ∧ c4 ≤ maxLen) (hA4 : ArrR rInt μ A4 t1.Stops) (h : recyclinglaw23_InsertKeeps F p1 t1 d1 = some res1)
    (hR : ∀ (μ' : Gh) , μ.le μ' → R (.bool res1) μ' (L)) :
    Fn Try.prog 5 [.agg #[.int .i64 p1.Road.Nodes, .slice A1 p1.Road.Edges.length c1, .slice A2 p1.Vehicles.length c2, .slice A3 p1.Demands.length c3, .int .i64 p1.Unload, .int .i64 p1.UnloadSecs], .agg #[.int .i64 t1.Vehicle, .slice A4 t1.Stops.length c4], .int .i64 d1] μ (L) R := by
  unfold recyclinglaw23_InsertKeeps at h
  refine FnS Try.func5 (by kernel_rfl) E Try.ntmps5 E E ?_
  refine G0 2 E (Al E fun g1 => Q0 0 E (Al E fun g2 => Q1 7 [1, 0] E (Cl E ?_)))
  obtain ⟨_, hx1, h⟩ := obind h
  refine recyclinglaw23_light_fn hl1 hA1 hl2 hA2 hl3 hA3 hl4 hA4 hx1 ((Q0 2 E ?_))
  refine Br h 22 E E (fun hc1 h => ?_) (fun hc1 h => ?_)
  · refine G2 3 [22] [] [] E (Cl E ?_)
    obtain ⟨_, hx2, h⟩ := obind h
    refine recyclinglaw23_awake_fn  hx2 (fun _ hm_1 => ?_)
    replace hA1 := hA1.mono hm_1
    replace hA2 := hA2.mono hm_1
    replace hA3 := hA3.mono hm_1
    replace hA4 := hA4.mono hm_1
    refine Q0 2 E ?_
    cases h
    exact Rt [] E E (Ug [] 2 (hR _ hm_1))
  refine G2 7 [] [22] [1, 0] E (Cl E ?_)
  obtain ⟨⟨_, _⟩, hx3, h⟩ := obind h
  replace h := oun_mk h
  refine insert_Options_fn hl1 hA1 hl2 hA2 hl3 hA3 hl4 hA4 hx3 (fun _ _ _ ch1 hm_2 hO1 => ?_)
  replace hA1 := hA1.mono hm_2
  replace hA2 := hA2.mono hm_2
  replace hA3 := hA3.mono hm_2
  replace hA4 := hA4.mono hm_2
  refine Q1 11 [2, 1] E (Cl E ?_)
  obtain ⟨⟨r5, _⟩, hx4, h⟩ := obind h
  replace h := oun_mk h
  refine insert_Best_fn hl1 hA1 hl2 hA2 hl3 hA3 hl4 hA4 hx4 (fun _ A6 c6 hm_3 hl5 hA5 => ?_)
  replace hA1 := hA1.mono hm_3
  replace hA2 := hA2.mono hm_3
  replace hA3 := hA3.mono hm_3
  replace hA4 := hA4.mono hm_3
  replace hO1 := hO1.mono hm_3
  refine Q0 3 E (Al E fun g3 => Q1 9 [0] E ?_)
  refine Br h 39 E E (fun hc2 h => ?_) (fun hc2 h => ?_)
  · refine G2 2 [39] [] [] E ?_
    refine Cut h (fun f l o_ f_ μ_ l_ => ∃ (v5 : Bool), v5 = o_ ∧ SubFr ((6, .bool v5) :: []) f_ ∧ SegSub (selS [] 4 l) l_) ?_ ?_
    · intro _ h18151 h
      refine G0 5 E ?_
      refine Br h18151 43 E E (fun hc3 h18151 => ?_) (fun hc3 h18151 => ?_)
      · refine G2 5 [43] [] [] E ?_
        refine Br h18151 48 E E (fun hc4 h18151 => ?_) (fun hc4 h18151 => ?_)
        · refine G2 6 [48] [] [0] E ?_
          refine Br h18151 54 E E (fun hc5 h18151 => ?_) (fun hc5 h18151 => ?_)
          · refine Cl E ?_
            obtain ⟨_, hx5, h18151⟩ := obind h18151
            refine recyclinglaw23_awake_fn  hx5 (fun _ hm_4 => ?_)
            replace hA1 := hA1.mono hm_4
            replace hA2 := hA2.mono hm_4
            replace hA3 := hA3.mono hm_4
            replace hA4 := hA4.mono hm_4
            replace hO1 := hO1.mono hm_4
            replace hA5 := hA5.mono hm_4
            refine Q2 3 [54] [] [] E ?_
            cases h18151
            exact Ce E ⟨_, rfl, fE E, sE [] 4 E⟩
          refine G2 4 [] [54] [] E ?_
          cases h18151
          exact Ce E ⟨_, rfl, fE E, sE [] 4 E⟩
        refine G2 10 [] [48, 54] [] E ?_
        cases h18151
        exact Ce E ⟨_, rfl, fE E, sE [] 4 E⟩
      refine G2 15 [] [43, 48, 54] [] E ?_
      cases h18151
      exact Ce E ⟨_, rfl, fE E, sE [] 4 E⟩
    rintro _ _ _ _ h hm18151 ⟨v5, rfl, hF18151, hS18151⟩
    replace hA1 := hA1.mono hm18151
    replace hA2 := hA2.mono hm18151
    replace hA3 := hA3.mono hm18151
    replace hA4 := hA4.mono hm18151
    replace hO1 := hO1.mono hm18151
    replace hA5 := hA5.mono hm18151
    refine Atn 0 hF18151 hS18151 E E ?_
    cases h
    exact Rt [] E E (Ug [] 0 (hR _ (hm_2.trans (hm_3.trans hm18151))))
  refine G2 9 [] [39] [] E ?_
  refine Br h 59 E E (fun hc6 h => ?_) (fun hc6 h => ?_)
  · refine G2 2 [59] [] [] E ?_
    refine Cut h (fun f l o_ f_ μ_ l_ => ∃ (v7 : Bool), v7 = o_ ∧ SubFr ((6, .bool v7) :: []) f_ ∧ SegSub (selS [] 4 l) l_) ?_ ?_
    · intro _ h18152 h
      refine G0 4 E ?_
      refine Br h18152 62 E E (fun hc7 h18152 => ?_) (fun hc7 h18152 => ?_)
      · refine G2 6 [62] [] [0] E ?_
        refine Br h18152 68 E E (fun hc8 h18152 => ?_) (fun hc8 h18152 => ?_)
        · refine Cl E ?_
          obtain ⟨_, hx6, h18152⟩ := obind h18152
          refine recyclinglaw23_awake_fn  hx6 (fun _ hm_5 => ?_)
          replace hA1 := hA1.mono hm_5
          replace hA2 := hA2.mono hm_5
          replace hA3 := hA3.mono hm_5
          replace hA4 := hA4.mono hm_5
          replace hO1 := hO1.mono hm_5
          replace hA5 := hA5.mono hm_5
          refine Q2 3 [68] [] [] E ?_
          cases h18152
          exact Ce E ⟨_, rfl, fE E, sE [] 4 E⟩
        refine G2 4 [] [68] [] E ?_
        cases h18152
        exact Ce E ⟨_, rfl, fE E, sE [] 4 E⟩
      refine G2 10 [] [62, 68] [] E ?_
      cases h18152
      exact Ce E ⟨_, rfl, fE E, sE [] 4 E⟩
    rintro _ _ _ _ h hm18152 ⟨v7, rfl, hF18152, hS18152⟩
    replace hA1 := hA1.mono hm18152
    replace hA2 := hA2.mono hm18152
    replace hA3 := hA3.mono hm18152
    replace hA4 := hA4.mono hm18152
    replace hO1 := hO1.mono hm18152
    replace hA5 := hA5.mono hm18152
    refine Atn 0 hF18152 hS18152 E E ?_
    cases h
    exact Rt [] E E (Ug [] 0 (hR _ (hm_2.trans (hm_3.trans hm18152))))
  refine G2 4 [] [59] [] E ?_
  refine Cut h (fun f l o_ f_ μ_ l_ => ∃ (v8 : Bool), v8 = o_ ∧ SubFr ((90, .bool v8) :: keepF [2, 3, 4, 7] f) f_ ∧ SegSub (selS [some 3, some 2, some 1] 4 l) l_) ?_ ?_
  · intro _ h18159 h
    refine Dr _ Kept.refl [(true, 0), (true, 1), (true, 2), (true, 3), (true, 5), (true, 6), (false, 4), (false, 7), (true, 8), (true, 9), (true, 10), (true, 11), (true, 12), (true, 13), (true, 14), (true, 15), (true, 16), (true, 17), (true, 18), (true, 19)] (by kernel_rfl) (G0 3 E ?_)
    refine Br h18159 73 E E (fun hc9 h18159 => ?_) (fun hc9 h18159 => ?_)
    · refine G2 18 [73, 81] [] [] E ?_
      cases h18159
      exact Ce E ⟨_, rfl, fE E, sE [some 3, some 2, some 1] 4 E⟩
    obtain ⟨_, hs1, h18159⟩ := obind h18159
    refine G2 2 [] [73] [0] E (Rdo E E (R_slHiS E E E E E E (Own.lenOk hO1).1 hs1 ?_))
    have hA6 := Rds.pre (Own.rds (L := ([(g3, .cells #[.int .i64 r5.Vehicle, .slice A6 r5.Stops.length c6] 31 (0, 0))] :: ch1 :: [(g2, .cells #[.int .i64 t1.Vehicle, .slice A4 t1.Stops.length c4] 31 (0, 0))] :: [(g1, .cells #[.int .i64 p1.Road.Nodes, .slice A1 p1.Road.Edges.length c1, .slice A2 p1.Vehicles.length c2, .slice A3 p1.Demands.length c3, .int .i64 p1.Unload, .int .i64 p1.UnloadSecs] 28 (0, 0))] :: L)) hO1 1 E) hs1
    have hl6 := preLen (Own.lenOk hO1) hs1
    refine Q0 0 E (So E (O_bsl (z := [.int .i64 0, .slice none 0 0]) E E E E E E E (F_cons (cells' := [.int .i64 r5.Vehicle, .slice A6 r5.Stops.length c6]) E E E E (F_nil (fun g4 => ?_)))))
    refine ⟨Kept.more (Kept.refl), ?_⟩
    refine Q0 0 E (Cl E ?_)
    obtain ⟨_, hx7, h18159⟩ := obind h18159
    refine recyclingref23_Same_fn (lenLit (c := 1) E E) (Own.rds (Own.lit (r := r_api_Tour) (e := 31) (g := g4) (xs := [r5]) (cs := [.int .i64 r5.Vehicle, .slice A6 r5.Stops.length c6]) (css := [[.int .i64 r5.Vehicle, .slice A6 r5.Stops.length c6]]) E (All2.cons (⟨A6, c6, E, hl5, hA5⟩) (All2.nil)) E E) 0 E) hl6 (Rds.push hA6) hx7 (?_)
    refine ⟨Kept.more (Kept.refl), ?_⟩
    refine Q2 3 [] [73] [] E ?_
    refine Br h18159 81 E E (fun hc10 h18159 => ?_) (fun hc10 h18159 => ?_)
    · refine G2 10 [81] [] [] E ?_
      cases h18159
      exact Ce E ⟨_, rfl, fE E, sE [some 4, some 3, some 2] 5 E⟩
    refine G2 10 [] [81] [2] E ?_
    cases h18159
    exact Ce E ⟨_, rfl, fE E, sE [some 4, some 3, some 2] 5 E⟩
  rintro _ _ _ _ h hm18159 ⟨v8, rfl, hF18159, hS18159⟩
  replace hA1 := hA1.mono hm18159
  replace hA2 := hA2.mono hm18159
  replace hA3 := hA3.mono hm18159
  replace hA4 := hA4.mono hm18159
  replace hO1 := hO1.mono hm18159
  refine Atn 3 hF18159 hS18159 E E ?_
  refine Br h 90 E E (fun hc11 h => ?_) (fun hc11 h => ?_)
  · refine G2 5 [90] [] [] E ?_
    cases h
    exact Rt [] E E (Ug [] 3 (hR _ (hm_2.trans (hm_3.trans hm18159))))
  refine G2 11 [] [90] [] E ?_
  refine Cut h (fun f l o_ f_ μ_ l_ => (.inl ()) = o_ ∧ SubFr ([]) f_ ∧ SegSub (selS [] 3 l) l_) ?_ ?_
  · intro _ h18176 h
    refine Lp h18176 (fun f l (j_ : Int × Int) f_ μ_ l_ => ounP j_ fun last1 i1 => SubFr ((11, .int .i64 last1) :: (12, .int .i64 i1) :: keepF [2, 3, 4, 7] f) f_ ∧ SegSub l l_) ⟨fE E, sE [some 0, some 1, some 2] 3 E⟩ ?_
    rintro ⟨last1, i1⟩ _ _ _ _ hm18269 ⟨hF18269, hS18269⟩ hb18269 hq18269
    unfold recyclinglaw23_InsertKeeps_l3 at hb18269
    replace hb18269 := oun_mk hb18269
    replace hA1 := hA1.mono hm18269
    replace hA2 := hA2.mono hm18269
    replace hA3 := hA3.mono hm18269
    replace hA4 := hA4.mono hm18269
    replace hO1 := hO1.mono hm18269
    refine Atn 3 hF18269 hS18269 E E (G0 8 E ?_)
    refine Br hb18269 94 E E (fun hc12 hb18269 => ?_) (fun hc12 hb18269 => ?_)
    · refine G2 3 [94] [] [] E ?_
      refine Cut hb18269 (fun f l o_ f_ μ_ l_ => ∃ (last2 : Int), (.inl last2) = o_ ∧ SubFr ((11, .int .i64 last2) :: keepF [2, 3, 4, 7, 12] f) f_ ∧ SegSub l l_) ?_ ?_
      · intro _ h18276 hb18269
        refine G0 5 E (IxA h18276 (Own.rds hO1 2 E) E E fun _ _ _ _ hr1 hc13 _ h18276 => ?_)
        obtain ⟨_, _, rfl, hl7, hA8⟩ := hr1
        refine Q3 5 [] [] [65] (Z1 hc13) E (Dr _ Kept.refl [(true, 0), (true, 1), (true, 2), (true, 3), (true, 4), (false, 5), (true, 6), (true, 7), (true, 8), (true, 9), (true, 10)] (by kernel_rfl) (G1 3 [0] E (Ix h18276 (Own.rds (L := ([(g1, .cells #[.int .i64 p1.Road.Nodes, .slice A1 p1.Road.Edges.length c1, .slice A2 p1.Vehicles.length c2, .slice A3 p1.Demands.length c3, .int .i64 p1.Unload, .int .i64 p1.UnloadSecs] 28 (0, 0))] :: [(g2, .cells #[.int .i64 t1.Vehicle, .slice A4 t1.Stops.length c4] 31 (0, 0))] :: ch1 :: L)) hO1 2 E) E E fun _ _ _ _ hr2 hc14 _ h18276 => ?_)))
        obtain ⟨_, _, rfl, hl8, hA10⟩ := hr2
        refine Q3 1 [] [] [64] (Z1 hc14) E (Cl E ?_)
        obtain ⟨⟨_, _⟩, hx10, h18276⟩ := obind h18276
        replace h18276 := oun_mk h18276
        refine tour_Cost_fn hl1 hA1 hl2 hA2 hl3 hA3 hl8 hA10 hx10 (fun _ hm_6 => ?_)
        replace hA4 := hA4.mono hm_6
        replace hO1 := hO1.mono hm_6
        replace hA8 := hA8.mono hm_6
        refine ⟨Kept.refl, ?_⟩
        refine Q0 8 E ?_
        refine Cut h18276 (fun f l o_ f_ μ_ l_ => ∃ (v10 : Bool), v10 = o_ ∧ SubFr ((152, .bool v10) :: keepF [2, 3, 4, 7, 12, 13, 14] f) f_ ∧ SegSub l l_) ?_ ?_
        · intro _ h18290 h18276
          refine Dr _ Kept.refl [(true, 0), (true, 1), (true, 2), (true, 3), (true, 4), (true, 5), (true, 6), (true, 7), (true, 8), (true, 9), (true, 10), (true, 11), (true, 12), (true, 13), (true, 14), (true, 15), (true, 16), (true, 17), (true, 18), (true, 19), (true, 20), (true, 21), (true, 22), (true, 23), (true, 24), (true, 25), (true, 26), (true, 27), (true, 28), (true, 29), (true, 30), (true, 31), (true, 32), (true, 33), (true, 35), (true, 36), (true, 37), (false, 34), (false, 38), (false, 39), (true, 40), (true, 41)] (by kernel_rfl) (G0 3 E ?_)
          refine Br h18290 113 E E (fun hc15 h18290 => ?_) (fun hc15 h18290 => ?_)
          · refine G2 40 [113, 118, 128, 133, 142] [] [] E ?_
            cases h18290
            exact Ce E ⟨_, rfl, fE E, sE [some 0, some 1, some 2] 3 E⟩
          refine G2 5 [] [113] [] E ?_
          refine Br h18290 118 E E (fun hc16 h18290 => ?_) (fun hc16 h18290 => ?_)
          · refine G2 35 [118, 128, 133, 142] [] [] E ?_
            cases h18290
            exact Ce E ⟨_, rfl, fE E, sE [some 0, some 1, some 2] 3 E⟩
          refine G2 2 [] [118] [] E (Ix h18290 (Own.rds (L := ([(g1, .cells #[.int .i64 p1.Road.Nodes, .slice A1 p1.Road.Edges.length c1, .slice A2 p1.Vehicles.length c2, .slice A3 p1.Demands.length c3, .int .i64 p1.Unload, .int .i64 p1.UnloadSecs] 28 (0, 0))] :: [(g2, .cells #[.int .i64 t1.Vehicle, .slice A4 t1.Stops.length c4] 31 (0, 0))] :: ch1 :: L)) hO1 2 E) E E fun _ _ _ _ hr3 hc17 _ h18290 => ?_)
          obtain ⟨_, _, rfl, _, _⟩ := hr3
          refine Q3 7 [] [118] [64, 1] (Z1 hc17) E ?_
          refine Br h18290 128 E E (fun hc18 h18290 => ?_) (fun hc18 h18290 => ?_)
          · refine G2 25 [128, 133, 142] [] [] E ?_
            cases h18290
            exact Ce E ⟨_, rfl, fE E, sE [some 0, some 1, some 2] 3 E⟩
          refine G2 5 [] [128] [] E ?_
          refine Br h18290 133 E E (fun hc19 h18290 => ?_) (fun hc19 h18290 => ?_)
          · refine G2 20 [133, 142] [] [] E ?_
            cases h18290
            exact Ce E ⟨_, rfl, fE E, sE [some 0, some 1, some 2] 3 E⟩
          refine G2 4 [] [133] [] E (Ix h18290 (ArrR.rds hA8 L) E E fun _ _ _ _ hr4 hc20 _ h18290 => ?_)
          obtain rfl := hr4
          refine Q3 4 [] [133] [64] (Z1 (hc20.push.push.push)) E ?_
          refine Br h18290 142 E E (fun hc21 h18290 => ?_) (fun hc21 h18290 => ?_)
          · refine G2 11 [142] [] [] E ?_
            cases h18290
            exact Ce E ⟨_, rfl, fE E, sE [some 0, some 1, some 2] 3 E⟩
          refine G2 5 [] [142] [1] E (Cl E ?_)
          obtain ⟨_, hx13, h18290⟩ := obind h18290
          refine recyclingref23_Without_fn hl7 (ArrR.rds hA8 _) hx13 (fun _ _ _ hO2 => ?_)
          refine ⟨Kept.more (Kept.refl), ?_⟩
          refine Q0 0 E (Cl E ?_)
          obtain ⟨_, hx14, h18290⟩ := obind h18290
          refine recyclingref23_Without_fn hl4 (ArrR.rds hA4 _) hx14 (fun _ _ _ hO3 => ?_)
          refine ⟨Kept.more (Kept.more (Kept.refl)), ?_⟩
          refine Q0 0 E (Cl E ?_)
          obtain ⟨_, hx15, h18290⟩ := obind h18290
          refine recyclingref23_Ints_fn (Own.lenOk hO2) (Own.rds hO2 1 E) (Own.lenOk hO3) (Own.rds hO3 0 E) hx15 (?_)
          refine ⟨Kept.more (Kept.more (Kept.refl)), ?_⟩
          refine Q2 3 [] [142] [] E ?_
          cases h18290
          exact Ce E ⟨_, rfl, fE E, sE [some 2, some 3, some 4] 5 E⟩
        rintro _ _ _ _ h18276 hm18290 ⟨v10, rfl, hF18290, hS18290⟩
        replace hO1 := hO1.mono hm18290
        replace hA8 := hA8.mono hm18290
        refine Atn 3 hF18290 hS18290 E E ?_
        refine Br h18276 152 E E (fun hc22 h18276 => ?_) (fun hc22 h18276 => ?_)
        · refine G2 5 [152] [] [] E ?_
          cases h18276
          replace hb18269 := osum_r hb18269
          cases hb18269
          have hq_ := hq18269 _ E
          subst hq_
          replace h := osum_r h
          cases h
          exact Rt [] E E (Ug [] 3 (hR _ (hm_2.trans (hm_3.trans (hm18159.trans (hm18269.trans (hm_6.trans hm18290)))))))
        refine G2 16 [] [152] [] E ?_
        refine Cut h18276 (fun f l o_ f_ μ_ l_ => ∃ (times3 : Int), times3 = o_ ∧ SubFr ((16, .int .i64 times3) :: keepF [2, 3, 4, 7, 11, 12, 13] f) f_ ∧ SegSub l l_) ?_ ?_
        · intro _ h18307 h18276
          refine Lp h18307 (fun f l (j_ : Int × Int) f_ μ_ l_ => ounP j_ fun times1 k1 => SubFr ((16, .int .i64 times1) :: (17, .int .i64 k1) :: keepF [2, 3, 4, 7, 11, 12, 13] f) f_ ∧ SegSub l l_) ⟨fE E, sE [some 0, some 1, some 2] 3 E⟩ ?_
          rintro ⟨times1, k1⟩ _ _ _ _ hm18320 ⟨hF18320, hS18320⟩ hb18320 hq18320
          unfold recyclinglaw23_InsertKeeps_l1 at hb18320
          replace hb18320 := oun_mk hb18320
          replace hO1 := hO1.mono hm18320
          replace hA8 := hA8.mono hm18320
          refine Atn 3 hF18320 hS18320 E E (G0 8 E ?_)
          refine Br hb18320 157 E E (fun hc23 hb18320 => ?_) (fun hc23 hb18320 => ?_)
          · refine G2 3 [157] [] [] E ?_
            refine Cut hb18320 (fun f l o_ f_ μ_ l_ => ∃ (times2 : Int), times2 = o_ ∧ SubFr ((16, .int .i64 times2) :: keepF [2, 3, 4, 7, 11, 12, 13, 17] f) f_ ∧ SegSub l l_) ?_ ?_
            · intro _ h18327 hb18320
              refine G0 5 E (Ix h18327 (ArrR.rds hA8 L) E E fun _ _ _ _ hr5 hc24 _ h18327 => ?_)
              obtain rfl := hr5
              refine Q3 4 [] [] [64] (Z1 (hc24.push.push.push)) E ?_
              refine Br h18327 165 E E (fun hc25 h18327 => ?_) (fun hc25 h18327 => ?_)
              · refine G2 7 [165] [] [] E ?_
                cases h18327
                exact Ce E ⟨_, rfl, fE E, sE [some 0, some 1, some 2] 3 E⟩
              refine G2 3 [] [165] [] E ?_
              cases h18327
              exact Ce E ⟨_, rfl, fE E, sE [some 0, some 1, some 2] 3 E⟩
            rintro _ _ _ _ hb18320 hm18327 ⟨times2, rfl, hF18327, hS18327⟩
            replace hO1 := hO1.mono hm18327
            replace hA8 := hA8.mono hm18327
            refine Atn 3 hF18327 hS18327 E E (G0 5 E ?_)
            cases hb18320
            exact Ce E ⟨_, rfl, fE E, sE [some 0, some 1, some 2] 3 E⟩
          refine G2 2 [] [157] [] E ?_
          cases hb18320
          have hq_ := hq18320 _ E
          subst hq_
          exact Ce E ⟨_, rfl, fE E, sE [some 0, some 1, some 2] 3 E⟩
        rintro _ _ _ _ h18276 hm18307 ⟨times3, rfl, hF18307, hS18307⟩
        replace hO1 := hO1.mono hm18307
        replace hA8 := hA8.mono hm18307
        refine Atn 3 hF18307 hS18307 E E (G0 6 E ?_)
        refine Br h18276 169 E E (fun hc26 h18276 => ?_) (fun hc26 h18276 => ?_)
        · refine G2 5 [169] [] [] E ?_
          cases h18276
          replace hb18269 := osum_r hb18269
          cases hb18269
          have hq_ := hq18269 _ E
          subst hq_
          replace h := osum_r h
          cases h
          exact Rt [] E E (Ug [] 3 (hR _ (hm_2.trans (hm_3.trans (hm18159.trans (hm18269.trans (hm_6.trans (hm18290.trans hm18307))))))))
        refine G2 6 [] [169] [] E ?_
        refine Cut h18276 (fun f l o_ f_ μ_ l_ => (.inl ()) = o_ ∧ SubFr (keepF [2, 3, 4, 7, 11, 12] f) f_ ∧ SegSub l l_) ?_ ?_
        · intro _ h18336 h18276
          refine Lp h18336 (fun f l (k2 : Int) f_ μ_ l_ => SubFr ((18, .int .i64 k2) :: keepF [2, 3, 4, 7, 11, 12, 13] f) f_ ∧ SegSub l l_) ⟨fE E, sE [some 0, some 1, some 2] 3 E⟩ ?_
          rintro k2 _ _ _ _ hm18345 ⟨hF18345, hS18345⟩ hb18345 hq18345
          unfold recyclinglaw23_InsertKeeps_l2 at hb18345
          replace hO1 := hO1.mono hm18345
          replace hA8 := hA8.mono hm18345
          refine Atn 3 hF18345 hS18345 E E (G0 7 E ?_)
          refine Br hb18345 172 E E (fun hc27 hb18345 => ?_) (fun hc27 hb18345 => ?_)
          · refine G2 8 [172] [] [] E (IxA hb18345 (Own.rds hO1 2 E) E E fun _ _ _ _ hr6 hc28 _ hb18345 => ?_)
            obtain ⟨_, _, rfl, hl10, hA16⟩ := hr6
            refine Q3 3 [] [] [65] (Z1 hc28) E (Cl E ?_)
            obtain ⟨_, hx18, hb18345⟩ := obind hb18345
            refine recyclingref23_Ints_fn hl10 (ArrR.rds hA16 _) hl7 (ArrR.rds hA8 _) hx18 ((Q0 1 E ?_))
            refine Br hb18345 181 E E (fun hc29 hb18345 => ?_) (fun hc29 hb18345 => ?_)
            · refine G2 5 [181] [] [] E ?_
              cases hb18345
              have hq_ := hq18345 _ E
              subst hq_
              replace h18276 := osum_r h18276
              cases h18276
              replace hb18269 := osum_r hb18269
              cases hb18269
              have hq_ := hq18269 _ E
              subst hq_
              replace h := osum_r h
              cases h
              exact Rt [] E E (Ug [] 3 (hR _ (hm_2.trans (hm_3.trans (hm18159.trans (hm18269.trans (hm_6.trans (hm18290.trans (hm18307.trans hm18345)))))))))
            refine G2 8 [] [181] [] E ?_
            cases hb18345
            exact Ce E ⟨_, rfl, fE E, sE [some 0, some 1, some 2] 3 E⟩
          refine G2 2 [] [172] [] E ?_
          cases hb18345
          have hq_ := hq18345 _ E
          subst hq_
          exact Ce E ⟨rfl, fE E, sE [some 0, some 1, some 2] 3 E⟩
        rintro _ _ _ _ h18276 _ ⟨rfl, hF18336, hS18336⟩
        replace h18276 := osum_l h18276
        refine G0 1 E ?_
        cases h18276
        exact Ce E ⟨_, rfl, hF18336.tr E, hS18336.tr (sE [some 0, some 1, some 2] 3 E)⟩
      rintro _ _ _ _ hb18269 _ ⟨last2, rfl, hF18276, hS18276⟩
      replace hb18269 := osum_l hb18269
      refine Atn 3 hF18276 hS18276 E E (G0 5 E ?_)
      cases hb18269
      exact Ce E ⟨_, rfl, fE E, sE [some 0, some 1, some 2] 3 E⟩
    refine G2 2 [] [94] [] E ?_
    cases hb18269
    have hq_ := hq18269 _ E
    subst hq_
    exact Ce E ⟨rfl, fE E, sE [] 3 E⟩
  rintro _ _ _ _ h hm18176 ⟨rfl, hF18176, hS18176⟩
  replace h := osum_l h
  refine Atn 0 hF18176 hS18176 E E (G0 2 E (Cl E ?_))
  obtain ⟨_, hx19, h⟩ := obind h
  refine recyclinglaw23_awake_fn  hx19 (fun _ hm_7 => ?_)
  refine Q0 2 E ?_
  cases h
  exact Rt [] E E (Ug [] 0 (hR _ (hm_2.trans (hm_3.trans (hm18159.trans (hm18176.trans hm_7))))))

end Go.Proofs.Ytfekfbcghnlohaa
