/- Printed by gen2.py of this repo: the walks that tie the functions to their specifications. -/
import Derived.Test.YtfekfbcghnlohaaTt
import Derived.Test.YtfekfbcghnlohaaTas
import Derived.Test.YtfekfbcghnlohaaTaw1
import Derived.Test.YtfekfbcghnlohaaTaw2
namespace Go.Proofs.Ytfekfbcghnlohaa
open Go.RowKit
set_option linter.unusedSimpArgs false
set_option linter.unusedVariables false
set_option maxHeartbeats 2000000
set_option maxRecDepth 4000
attribute [local irreducible] WP SemOk SemU Fn AN Upd vcR vcO vcOps vcPlan putK fillK resK inBlk forkOne Cell StAt Kept KS

variable {μ : Gh} {L : List Seg} {R : Value → Gh → List Seg → Prop}
theorem recyclinglaw23_InsertEmpty_fn {F : Nat} {p1 : T_api_Problem} {v1 : Int} {d1 : Int} {A1 : Option Addr} {c1 : Nat} {A2 : Option Addr} {c2 : Nat} {A3 : Option Addr} {c3 : Nat} {res1 : Bool}
    (hl1 : p1.Road.Edges.length ≤ c1 ∧ c1 ≤ maxLen) (hA1 : ArrR r_api_Edge μ A1 p1.Road.Edges) (hl2 : p1.Vehicles.length ≤ c2 ∧ c2 ≤ maxLen) (hA2 : ArrR r_api_Vehicle μ A2 p1.Vehicles) (hl3 : p1.Demands.length ≤ c3 ∧ c3 ≤ maxLen) (hA3 : ArrR r_api_Demand μ A3 p1.Demands) (h : recyclinglaw23_InsertEmpty F p1 v1 d1 = some res1)
    (hR : ∀ (μ' : Gh) , μ.le μ' → R (.bool res1) μ' (L)) :
    Fn Try.prog 8 [.agg #[.int .i64 p1.Road.Nodes, .slice A1 p1.Road.Edges.length c1, .slice A2 p1.Vehicles.length c2, .slice A3 p1.Demands.length c3, .int .i64 p1.Unload, .int .i64 p1.UnloadSecs], .int .i64 v1, .int .i64 d1] μ (L) R := by
  unfold recyclinglaw23_InsertEmpty at h
  refine FnS Try.func8 (by kernel_rfl) E Try.ntmps8 E E ?_
  refine G0 2 E (Al E fun _ => Q1 6 [0] E (Cl E ?_))
  obtain ⟨_, hx1, h⟩ := obind h
  refine recyclingref22_Large_fn hl1 hA1 hl2 hA2 hl3 hA3 hx1 ((Q0 1 E ?_))
  refine Br h 15 E E (fun hc1 h => ?_) (fun hc1 h => ?_)
  · refine G2 3 [15] [] [] E (Cl E ?_)
    obtain ⟨_, hx2, h⟩ := obind h
    refine recyclinglaw23_awake_fn  hx2 (fun _ hm_1 => ?_)
    replace hA1 := hA1.mono hm_1
    replace hA2 := hA2.mono hm_1
    replace hA3 := hA3.mono hm_1
    refine Q0 2 E ?_
    cases h
    exact Rt [] E E (Ug [] 1 (hR _ hm_1))
  refine G2 8 [] [15] [0] E (Cl E ?_)
  obtain ⟨⟨_, _⟩, hx3, h⟩ := obind h
  replace h := oun_mk h
  refine insert_Options_fn hl1 hA1 hl2 hA2 hl3 hA3 ⟨Nat.le_refl _, Nat.zero_le _⟩ ArrR.nil hx3 (fun _ _ _ _ hm_2 hO1 => ?_)
  replace hA1 := hA1.mono hm_2
  replace hA2 := hA2.mono hm_2
  replace hA3 := hA3.mono hm_2
  refine Q0 12 E ?_
  refine Br h 26 E E (fun hc2 h => ?_) (fun hc2 h => ?_)
  · refine G2 2 [26] [] [] E ?_
    refine Cut h (fun f l o_ f_ μ_ l_ => ∃ (v5 : Bool), v5 = o_ ∧ SubFr ((6, .bool v5) :: []) f_ ∧ SegSub (selS [] 2 l) l_) ?_ ?_
    · intro _ h18700 h
      refine G0 5 E ?_
      refine Br h18700 30 E E (fun hc3 h18700 => ?_) (fun hc3 h18700 => ?_)
      · refine Cl E ?_
        obtain ⟨_, hx4, h18700⟩ := obind h18700
        refine recyclinglaw23_awake_fn  hx4 (fun _ hm_3 => ?_)
        replace hA1 := hA1.mono hm_3
        replace hA2 := hA2.mono hm_3
        replace hA3 := hA3.mono hm_3
        replace hO1 := hO1.mono hm_3
        refine Q2 3 [30] [] [] E ?_
        cases h18700
        exact Ce E ⟨_, rfl, fE E, sE [] 2 E⟩
      refine G2 4 [] [30] [] E ?_
      cases h18700
      exact Ce E ⟨_, rfl, fE E, sE [] 2 E⟩
    rintro _ _ _ _ h hm18700 ⟨v5, rfl, hF18700, hS18700⟩
    replace hA1 := hA1.mono hm18700
    replace hA2 := hA2.mono hm18700
    replace hA3 := hA3.mono hm18700
    replace hO1 := hO1.mono hm18700
    refine Atn 0 hF18700 hS18700 E E ?_
    cases h
    exact Rt [] E E (Ug [] 0 (hR _ (hm_2.trans hm18700)))
  refine G2 6 [] [26] [] E (So E (O_bsl (z := [.int .i64 0, .int .i64 0]) E E E E E E E (F_cons (cells' := [.int .i64 d1, .int .i64 0]) E E E E (F_cons (cells' := [.int .i64 d1, .int .i64 (-1)]) E E E E (F_nil (fun g2 => Q0 1 E (Al E fun _ => Q1 6 [0, 3, 0] E (Cl E ?_))))))))
  have hl4 : [d1, (-1)].length ≤ 2 ∧ 2 ≤ maxLen := ⟨Nat.le_refl _, by unfold maxLen; omega⟩
  refine Fn.pre Try.func21 (by kernel_rfl) E (Upd.frzOwn 1 E (Own.lit (r := rInt) (e := 3) (g := g2) (xs := [d1, (-1)]) (cs := [.int .i64 d1, .int .i64 (-1)]) (css := [[.int .i64 d1], [.int .i64 (-1)]]) E (All2.cons (E) (All2.cons (E) (All2.nil))) E E) fun _ hm_4 hA4 => Upd.done ?_)
  replace hA1 := hA1.mono hm_4
  replace hA2 := hA2.mono hm_4
  replace hA3 := hA3.mono hm_4
  replace hO1 := hO1.mono hm_4
  obtain ⟨⟨_, _⟩, hx5, h⟩ := obind h
  replace h := oun_mk h
  refine tour_Cost_fn hl1 hA1 hl2 hA2 hl3 hA3 hl4 hA4 hx5 (fun _ hm_5 => ?_)
  replace hA1 := hA1.mono hm_5
  replace hA2 := hA2.mono hm_5
  replace hA3 := hA3.mono hm_5
  replace hO1 := hO1.mono hm_5
  replace hA4 := hA4.mono hm_5
  refine Q1 12 [3] E (Cl E ?_)
  obtain ⟨⟨r8, _⟩, hx6, h⟩ := obind h
  replace h := oun_mk h
  refine insert_Best_fn hl1 hA1 hl2 hA2 hl3 hA3 ⟨Nat.le_refl _, Nat.zero_le _⟩ ArrR.nil hx6 (fun _ A5 c5 hm_6 hl5 hA5 => ?_)
  replace hO1 := hO1.mono hm_6
  replace hA4 := hA4.mono hm_6
  refine Q0 3 E (Al E fun _ => Q1 9 [0] E ?_)
  refine Br h 52 E E (fun hc4 h => ?_) (fun hc4 h => ?_)
  · refine G2 2 [52] [] [] E ?_
    refine Cut h (fun f l o_ f_ μ_ l_ => ∃ (v10 : Bool), v10 = o_ ∧ SubFr ((6, .bool v10) :: []) f_ ∧ SegSub (selS [] 5 l) l_) ?_ ?_
    · intro _ h18715 h
      refine G0 5 E ?_
      refine Br h18715 56 E E (fun hc5 h18715 => ?_) (fun hc5 h18715 => ?_)
      · refine G2 4 [56] [] [] E ?_
        refine Br h18715 60 E E (fun hc6 h18715 => ?_) (fun hc6 h18715 => ?_)
        · refine Cl E ?_
          obtain ⟨_, hx7, h18715⟩ := obind h18715
          refine recyclinglaw23_awake_fn  hx7 (fun _ hm_7 => ?_)
          replace hO1 := hO1.mono hm_7
          replace hA4 := hA4.mono hm_7
          replace hA5 := hA5.mono hm_7
          refine Q2 3 [60] [] [] E ?_
          cases h18715
          exact Ce E ⟨_, rfl, fE E, sE [] 5 E⟩
        refine G2 4 [] [60] [] E ?_
        cases h18715
        exact Ce E ⟨_, rfl, fE E, sE [] 5 E⟩
      refine G2 8 [] [56, 60] [] E ?_
      cases h18715
      exact Ce E ⟨_, rfl, fE E, sE [] 5 E⟩
    rintro _ _ _ _ h hm18715 ⟨v10, rfl, hF18715, hS18715⟩
    replace hO1 := hO1.mono hm18715
    replace hA4 := hA4.mono hm18715
    replace hA5 := hA5.mono hm18715
    refine Atn 0 hF18715 hS18715 E E ?_
    cases h
    exact Rt [] E E (Ug [] 0 (hR _ (hm_2.trans (hm_4.trans (hm_5.trans (hm_6.trans hm18715))))))
  refine G2 3 [] [52] [] E ?_
  refine Cut h (fun f l o_ f_ μ_ l_ => ∃ (v12 : Bool), v12 = o_ ∧ SubFr ((6, .bool v12) :: []) f_ ∧ SegSub (selS [] 5 l) l_) ?_ ?_
  · intro _ h18716 h
    refine G1 3 [1] E (So E (O_bsl (z := [.int .i64 0, .slice none 0 0]) E E E E E E E (F_cons (cells' := [.int .i64 v1, .slice (some ⟨g2, 0, none⟩) 2 2]) E E E E (F_nil (fun g5 => Q0 0 E (Cl E ?_))))))
    obtain ⟨_, hx8, h18716⟩ := obind h18716
    refine recyclingref23_Same_fn (Own.lenOk hO1) (Own.rds hO1 4 E) (lenLit (c := 1) E E) (Own.rds (Own.lit (r := r_api_Tour) (e := 31) (g := g5) (xs := [(T_api_Tour.mk v1 [d1, (-1)])]) (cs := [.int .i64 v1, .slice (some ⟨g2, 0, none⟩) 2 2]) (css := [[.int .i64 v1, .slice (some ⟨g2, 0, none⟩) 2 2]]) E (All2.cons (⟨(some ⟨g2, 0, none⟩), 2, E, hl4, hA4⟩) (All2.nil)) E E) 0 E) hx8 ((Q0 1 E ?_))
    refine Br h18716 67 E E (fun hc7 h18716 => ?_) (fun hc7 h18716 => ?_)
    · refine G2 4 [67] [] [] E ?_
      refine Br h18716 71 E E (fun hc8 h18716 => ?_) (fun hc8 h18716 => ?_)
      · refine G2 1 [71] [] [1] E (So E (O_bsl (z := [.int .i64 0, .slice none 0 0]) E E E E E E E (F_cons (cells' := [.int .i64 r8.Vehicle, .slice A5 r8.Stops.length c5]) E E E E (F_nil (fun g6 => Q2 1 [71] [] [] E (Cl E ?_))))))
        obtain ⟨_, hx9, h18716⟩ := obind h18716
        refine recyclingref23_Same_fn (lenLit (c := 1) E E) (Own.rds (Own.lit (r := r_api_Tour) (e := 31) (g := g6) (xs := [r8]) (cs := [.int .i64 r8.Vehicle, .slice A5 r8.Stops.length c5]) (css := [[.int .i64 r8.Vehicle, .slice A5 r8.Stops.length c5]]) E (All2.cons (⟨A5, c5, E, hl5, hA5⟩) (All2.nil)) E E) 0 E) (Own.lenOk hO1) (Own.rds hO1 5 E) hx9 ((Q2 2 [71] [] [] E ?_))
        refine Br h18716 77 E E (fun hc9 h18716 => ?_) (fun hc9 h18716 => ?_)
        · refine Cl E ?_
          obtain ⟨_, hx10, h18716⟩ := obind h18716
          refine recyclinglaw23_awake_fn  hx10 (fun _ _ => ?_)
          refine Q2 3 [77] [] [] E ?_
          cases h18716
          exact Ce E ⟨_, rfl, fE E, sE [] 7 E⟩
        refine G2 4 [] [77] [] E ?_
        cases h18716
        exact Ce E ⟨_, rfl, fE E, sE [] 7 E⟩
      refine G2 10 [] [71, 77] [] E ?_
      cases h18716
      exact Ce E ⟨_, rfl, fE E, sE [] 6 E⟩
    refine G2 14 [] [67, 71, 77] [] E ?_
    cases h18716
    exact Ce E ⟨_, rfl, fE E, sE [] 6 E⟩
  rintro _ _ _ _ h hm18716 ⟨v12, rfl, hF18716, hS18716⟩
  refine Atn 0 hF18716 hS18716 E E ?_
  cases h
  exact Rt [] E E (Ug [] 0 (hR _ (hm_2.trans (hm_4.trans (hm_5.trans (hm_6.trans hm18716))))))

end Go.Proofs.Ytfekfbcghnlohaa
