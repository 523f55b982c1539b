/- Printed by gen2.py of this repo: the walks that tie the functions to their specifications. -/
import Derived.Test.YtjbminmhndgiaaaTt
import Derived.Test.YtjbminmhndgiaaaTas
import Derived.Test.YtjbminmhndgiaaaTaw1
import Derived.Test.YtjbminmhndgiaaaTaw3
namespace Go.Proofs.Ytjbminmhndgiaaa
open Go.RowKit
set_option linter.unusedSimpArgs false
set_option linter.unusedVariables false
set_option maxRecDepth 4000
attribute [local irreducible] WP SemOk SemU Fn AN Upd vcR vcO vcOps vcPlan putK fillK resK inBlk forkOne Cell StAt Kept KS

variable {μ : Gh} {L : List Seg} {R : Value → Gh → List Seg → Prop}
theorem recyclingref19_node_fn  {r1 : T_api_Road} {n1 : Int} {A1 : Option Addr} {c1 : Nat} {res1 : Bool}
    (hl1 : r1.Edges.length ≤ c1 ∧ c1 ≤ maxLen) (hA1 : ArrR r_api_Edge μ A1 r1.Edges) (h : recyclingref19_node r1 n1 = some res1)
    (hR : R (.bool res1) μ (L)) :
    Fn Try.prog 51 [.agg #[.int .i64 r1.Nodes, .slice A1 r1.Edges.length c1], .int .i64 n1] μ (L) R := by
  unfold recyclingref19_node at h
  refine FnS Try.func51 (by kernel_rfl) E Try.ntmps51 E E ?_
  refine G0 2 E (Al E fun _ => Q0 3 E ?_)
  refine Cut h (fun f l o_ f_ μ_ l_ => ∃ (v1 : Bool), v1 = o_ ∧ SubFr ((4, .bool v1) :: []) f_ ∧ SegSub (selS [] 1 l) l_ ∧ μ = μ_) ?_ ?_
  · intro _ h5138 h
    refine G0 4 E ?_
    refine Br h5138 7 E E (fun hc1 h5138 => ?_) (fun hc1 h5138 => ?_)
    · refine G2 7 [7] [] [0] E ?_
      cases h5138
      exact Ce E ⟨_, rfl, fE E, sE [] 1 E, rfl⟩
    refine G2 7 [] [7] [] E ?_
    cases h5138
    exact Ce E ⟨_, rfl, fE E, sE [] 1 E, rfl⟩
  rintro _ _ _ _ h _ ⟨v1, rfl, hF5138, hS5138, rfl⟩
  refine Atn 0 hF5138 hS5138 E E ?_
  cases h
  exact Rt [] E E (Ug [] 0 hR)

theorem recyclingref19_Along_fn  {a1 : T_api_Leg} {b1 : T_api_Leg}  {res1 : T_api_Leg}
     (h : recyclingref19_Along a1 b1 = some res1)
    (hR : R (.agg #[.int .i64 res1.Secs, .int .i64 res1.Meters]) μ (L)) :
    Fn Try.prog 52 [.agg #[.int .i64 a1.Secs, .int .i64 a1.Meters], .agg #[.int .i64 b1.Secs, .int .i64 b1.Meters]] μ (L) R := by
  unfold recyclingref19_Along at h
  refine FnS Try.func52 (by kernel_rfl) E Try.ntmps52 E E ?_
  refine G0 2 E (Al E fun _ => Q0 0 E (Al E fun _ => Q0 0 E (Al E fun _ => Q1 16 [2, 1, 2, 1, 0] E ?_)))
  cases h
  exact Rt [0] E E (Ug [] 3 hR)

theorem recyclingref19_Better_fn  {a1 : T_api_Leg} {b1 : T_api_Leg}  {res1 : Bool}
     (h : recyclingref19_Better a1 b1 = some res1)
    (hR : R (.bool res1) μ (L)) :
    Fn Try.prog 53 [.agg #[.int .i64 a1.Secs, .int .i64 a1.Meters], .agg #[.int .i64 b1.Secs, .int .i64 b1.Meters]] μ (L) R := by
  unfold recyclingref19_Better at h
  refine FnS Try.func53 (by kernel_rfl) E Try.ntmps53 E E ?_
  refine G0 2 E (Al E fun _ => Q0 0 E (Al E fun _ => Q0 4 E ?_))
  refine Cut h (fun f l o_ f_ μ_ l_ => ∃ (v1 : Bool), v1 = o_ ∧ SubFr ((12, .bool v1) :: keepF [2, 3] f) f_ ∧ SegSub (selS [some 1, some 0] 2 l) l_ ∧ μ = μ_) ?_ ?_
  · intro _ h5209 h
    refine G1 5 [1] E ?_
    refine Br h5209 8 E E (fun hc1 h5209 => ?_) (fun hc1 h5209 => ?_)
    · refine G2 5 [8] [] [] E ?_
      cases h5209
      exact Ce E ⟨_, rfl, fE E, sE [some 1, some 0] 2 E, rfl⟩
    refine G2 5 [] [8] [0] E ?_
    cases h5209
    exact Ce E ⟨_, rfl, fE E, sE [some 1, some 0] 2 E, rfl⟩
  rintro _ _ _ _ h _ ⟨v1, rfl, hF5209, hS5209, rfl⟩
  refine Atn 2 hF5209 hS5209 E E ?_
  refine Br h 12 E E (fun hc2 h => ?_) (fun hc2 h => ?_)
  · refine G2 8 [12] [] [0] E ?_
    cases h
    exact Rt [] E E (Ug [] 2 hR)
  refine G2 3 [] [12] [] E ?_
  refine Cut h (fun f l o_ f_ μ_ l_ => ∃ (v2 : Bool), v2 = o_ ∧ SubFr ((4, .bool v2) :: []) f_ ∧ SegSub (selS [] 2 l) l_ ∧ μ = μ_) ?_ ?_
  · intro _ h5214 h
    refine G1 7 [0, 1] E ?_
    refine Br h5214 21 E E (fun hc3 h5214 => ?_) (fun hc3 h5214 => ?_)
    · refine G2 15 [21] [] [] E ?_
      cases h5214
      exact Ce E ⟨_, rfl, fE E, sE [] 2 E, rfl⟩
    refine G2 6 [] [21] [0, 1] E ?_
    refine Br h5214 27 E E (fun hc4 h5214 => ?_) (fun hc4 h5214 => ?_)
    · refine G2 9 [27] [21] [0, 1] E ?_
      cases h5214
      exact Ce E ⟨_, rfl, fE E, sE [] 2 E, rfl⟩
    refine G2 9 [] [21, 27] [] E ?_
    cases h5214
    exact Ce E ⟨_, rfl, fE E, sE [] 2 E, rfl⟩
  rintro _ _ _ _ h _ ⟨v2, rfl, hF5214, hS5214, rfl⟩
  refine Atn 0 hF5214 hS5214 E E ?_
  cases h
  exact Rt [] E E (Ug [] 0 hR)

theorem recyclingref19_Legs_fn  {r1 : T_api_Road} {f_from1 : Int} {A1 : Option Addr} {c1 : Nat} {res1 : (List T_api_Leg)} {res2 : Int}
    (hl1 : r1.Edges.length ≤ c1 ∧ c1 ≤ maxLen) (hA1 : ArrR r_api_Edge μ A1 r1.Edges) (h : recyclingref19_Legs r1 f_from1 = some (res1, res2))
    (hR : ∀ (A0 : Option Addr) (c0 : Nat) (ch0 : Seg), Own r_api_Leg 51 μ (.slice A0 res1.length c0) res1 ch0 → R (.tuple #[.slice A0 res1.length c0, .int .i64 res2]) μ (ch0 :: L)) :
    Fn Try.prog 38 [.agg #[.int .i64 r1.Nodes, .slice A1 r1.Edges.length c1], .int .i64 f_from1] μ (L) R := by
  unfold recyclingref19_Legs at h
  refine FnS Try.func38 (by kernel_rfl) E Try.ntmps38 E E ?_
  refine G0 2 E (Al E fun g1 => Q1 7 [0] E (Cl E ?_))
  obtain ⟨_, hx1, h⟩ := obind h
  refine recyclingref19_Check_fn hl1 hA1 hx1 ((Q0 7 E ?_))
  refine Br h 16 E E (fun hc1 h => ?_) (fun hc1 h => ?_)
  · refine G2 7 [16] [] [] E ?_
    cases h
    exact Rt [] E E (Ug [[]] 1 (hR none 0 [] Own.nil))
  refine G2 7 [] [16] [0] E (Cl E ?_)
  obtain ⟨_, hx2, h⟩ := obind h
  refine recyclingref19_node_fn hl1 hA1 hx2 ((Q0 2 E ?_))
  refine Br h 21 E E (fun hc2 h => ?_) (fun hc2 h => ?_)
  · refine G2 6 [21] [] [] E ?_
    cases h
    exact Rt [] E E (Ug [[]] 1 (hR none 0 [] Own.nil))
  refine G2 6 [] [21] [0] E (So E (O_mksl E E ?_))
  obtain ⟨_, hn1, h⟩ := obind h
  refine sem_mkO (r := r_api_Leg) (z := (T_api_Leg.mk 0 0)) (zc := [.int .i64 0, .int .i64 0]) Tt_ok E E E E E (E) E hn1 fun A2 c2 ch1 hO1 => Q0 9 E ?_
  refine Cut h (fun f l o_ f_ μ_ l_ => ∃ (out2 : (List T_api_Leg)) (A4 : Option Addr) (c4 : Nat) (ch4 : Seg), out2 = o_ ∧ SubFr ((7, .slice A4 out2.length c4) :: keepF [1, 2] f) f_ ∧ SegSub ([(g1, .cells #[.int .i64 r1.Nodes, .slice A1 r1.Edges.length c1] 24 (0, 0))] :: ch4 :: selS [] 2 l) l_ ∧ Own r_api_Leg 51 μ_ (.slice A4 out2.length c4) out2 ch4 ∧ μ = μ_) ?_ ?_
  · intro _ h5142 h
    refine Lp h5142 (fun f l (j_ : (List T_api_Leg) × Int) f_ μ_ l_ => ounP j_ fun out1 v1 => ∃ (A3 : Option Addr) (c3 : Nat) (ch2 : Seg), SubFr ((7, .slice A3 out1.length c3) :: (27, .int .i64 v1) :: keepF [1, 2, 26] f) f_ ∧ SegSub ([(g1, .cells #[.int .i64 r1.Nodes, .slice A1 r1.Edges.length c1] 24 (0, 0))] :: ch2 :: selS [] 2 l) l_ ∧ Own r_api_Leg 51 μ_ (.slice A3 out1.length c3) out1 ch2 ∧ μ = μ_) ⟨A2, c2, ch1, fE E, sE [some 1, some 0] 2 E, (hO1), E⟩ ?_
    rintro ⟨out1, v1⟩ _ _ _ _ _ ⟨A3, c3, ch2, hF5149, hS5149, hO2, rfl⟩ hb5149 hq5149
    unfold recyclingref19_Legs_l1 at hb5149
    replace hb5149 := oun_mk hb5149
    refine Atn 2 hF5149 hS5149 E E (G0 5 E ?_)
    refine Br hb5149 28 E E (fun hc3 hb5149 => ?_) (fun hc3 hb5149 => ?_)
    · refine G2 12 [28] [] [] E (IxA hb5149 (Own.rds hO2 1 E) E E fun x1 a1 _ hx3 hr1 _ hA2 hb5149 => ?_)
      obtain rfl := hr1
      refine Q0 1 E (So E (O_store (vs := [.int .i64 (-1)]) E E E E E E ?_))
      rw [← Addr.add_zero' ((a1.add (v1.toNat * 2)))]
      refine Own.store (r := r_api_Leg) (x' := (T_api_Leg.mk (-1) x1.Meters)) (o := 0) (sz := 2) 1 rfl hO2 hA2 hx3 rfl rfl (by rintro _ rfl; rfl) fun ch3 hO3 => ?_
      rw [← length_setI out1 v1 (T_api_Leg.mk (-1) x1.Meters)] at hO3 ⊢
      refine Q0 6 E ?_
      cases hb5149
      exact Ce E ⟨_, rfl, A3, c3, ch3, fE E, sE [some 0, some 1] 2 E, (hO3), rfl⟩
    refine G2 2 [] [28] [] E ?_
    cases hb5149
    have hq_ := hq5149 _ E
    subst hq_
    exact Ce E ⟨_, A3, c3, ch2, rfl, fE E, sE [some 0, some 1] 2 E, (hO2), rfl⟩
  rintro _ _ _ _ h _ ⟨out2, A4, c4, ch4, rfl, hF5142, hS5142, hO4, rfl⟩
  refine Atn 2 hF5142 hS5142 E E (G0 4 E (IxA h (Own.rds hO4 1 E) E E fun x2 a2 _ hx4 hr2 _ hA3 h => ?_))
  obtain rfl := hr2
  refine Q0 1 E (So E (O_store (vs := [.int .i64 0]) E E E E E E ?_))
  rw [← Addr.add_zero' ((a2.add (f_from1.toNat * 2)))]
  refine Own.store (r := r_api_Leg) (x' := (T_api_Leg.mk 0 x2.Meters)) (o := 0) (sz := 2) 1 rfl hO4 hA3 hx4 rfl rfl (by rintro _ rfl; rfl) fun ch5 hO5 => ?_
  rw [← length_setI out2 f_from1 (T_api_Leg.mk 0 x2.Meters)] at hO5 ⊢
  refine Q0 6 E ?_
  refine Cut h (fun f l o_ f_ μ_ l_ => ∃ (out8 : (List T_api_Leg)) (A10 : Option Addr) (c10 : Nat) (ch12 : Seg), out8 = o_ ∧ SubFr ((7, .slice A10 out8.length c10) :: []) f_ ∧ SegSub (ch12 :: selS [] 2 l) l_ ∧ Own r_api_Leg 51 μ_ (.slice A10 out8.length c10) out8 ch12 ∧ μ = μ_) ?_ ?_
  · intro _ h5161 h
    refine Lp h5161 (fun f l (j_ : (List T_api_Leg) × Int) f_ μ_ l_ => ounP j_ fun out3 n1 => ∃ (A5 : Option Addr) (c5 : Nat) (ch6 : Seg), SubFr ((7, .slice A5 out3.length c5) :: (9, .int .i64 n1) :: keepF [2] f) f_ ∧ SegSub ([(g1, .cells #[.int .i64 r1.Nodes, .slice A1 r1.Edges.length c1] 24 (0, 0))] :: ch6 :: selS [] 2 l) l_ ∧ Own r_api_Leg 51 μ_ (.slice A5 out3.length c5) out3 ch6 ∧ μ = μ_) ⟨A4, c4, ch5, fE E, sE [some 0, some 1] 2 E, (hO5), E⟩ ?_
    rintro ⟨out3, n1⟩ _ _ _ _ _ ⟨A5, c5, ch6, hF5271, hS5271, hO6, rfl⟩ hb5271 hq5271
    unfold recyclingref19_Legs_l3 at hb5271
    replace hb5271 := oun_mk hb5271
    refine Atn 2 hF5271 hS5271 E E (G1 8 [0] E ?_)
    refine Br hb5271 42 E E (fun hc6 hb5271 => ?_) (fun hc6 hb5271 => ?_)
    · refine G2 3 [42] [] [] E ?_
      refine Cut hb5271 (fun f l o_ f_ μ_ l_ => ∃ (out7 : (List T_api_Leg)) (A9 : Option Addr) (c9 : Nat) (ch11 : Seg), out7 = o_ ∧ SubFr ((7, .slice A9 out7.length c9) :: keepF [2, 9] f) f_ ∧ SegSub ([(g1, .cells #[.int .i64 r1.Nodes, .slice A1 r1.Edges.length c1] 24 (0, 0))] :: ch11 :: selS [] 2 l) l_ ∧ Own r_api_Leg 51 μ_ (.slice A9 out7.length c9) out7 ch11 ∧ μ = μ_) ?_ ?_
      · intro _ h5276 hb5271
        refine G1 8 [0] E ?_
        refine Cut h5276 (fun f l o_ f_ μ_ l_ => ∃ (out6 : (List T_api_Leg)) (A8 : Option Addr) (c8 : Nat) (ch10 : Seg), out6 = o_ ∧ SubFr ((7, .slice A8 out6.length c8) :: keepF [2, 9] f) f_ ∧ SegSub ([(g1, .cells #[.int .i64 r1.Nodes, .slice A1 r1.Edges.length c1] 24 (0, 0))] :: ch10 :: selS [] 2 l) l_ ∧ Own r_api_Leg 51 μ_ (.slice A8 out6.length c8) out6 ch10 ∧ μ = μ_) ?_ ?_
        · intro _ h5277 h5276
          refine Lp h5277 (fun f l (j_ : (List T_api_Leg) × Int) f_ μ_ l_ => ounP j_ fun out4 v2 => ∃ (A6 : Option Addr) (c6 : Nat) (ch7 : Seg), SubFr ((7, .slice A6 out4.length c6) :: (48, .int .i64 v2) :: keepF [2, 9, 46, 47] f) f_ ∧ SegSub ([(g1, .cells #[.int .i64 r1.Nodes, .slice A1 r1.Edges.length c1] 24 (0, 0))] :: ch7 :: selS [] 2 l) l_ ∧ Own r_api_Leg 51 μ_ (.slice A6 out4.length c6) out4 ch7 ∧ μ = μ_) ⟨A5, c5, ch6, fE E, sE [some 0, some 1] 2 E, (hO6), E⟩ ?_
          rintro ⟨out4, v2⟩ _ _ _ _ _ ⟨A6, c6, ch7, hF5320, hS5320, hO7, rfl⟩ hb5320 hq5320
          unfold recyclingref19_Legs_l2 at hb5320
          replace hb5320 := oun_mk hb5320
          refine Atn 2 hF5320 hS5320 E E (G0 5 E ?_)
          refine Br hb5320 49 E E (fun hc7 hb5320 => ?_) (fun hc7 hb5320 => ?_)
          · refine G2 3 [49] [] [] E ?_
            refine Cut hb5320 (fun f l o_ f_ μ_ l_ => ∃ (out5 : (List T_api_Leg)) (A7 : Option Addr) (c7 : Nat) (ch9 : Seg), out5 = o_ ∧ SubFr ((7, .slice A7 out5.length c7) :: keepF [2, 9, 46, 47, 48] f) f_ ∧ SegSub ([(g1, .cells #[.int .i64 r1.Nodes, .slice A1 r1.Edges.length c1] 24 (0, 0))] :: ch9 :: selS [] 2 l) l_ ∧ Own r_api_Leg 51 μ_ (.slice A7 out5.length c7) out5 ch9 ∧ μ = μ_) ?_ ?_
            · intro _ h5325 hb5320
              refine G0 3 E (Ix h5325 (ArrR.rds hA1 L) E E fun x3 _ _ _ hr3 hc8 _ h5325 => ?_)
              obtain rfl := hr3
              refine Q3 1 [] [] [64] (Z1 (hc8.push.push)) E (Al E fun g2 => Q1 7 [0, 0] E (IxA h5325 (Own.rds hO7 2 E) E E fun _ _ _ _ hr4 hc9 _ h5325 => ?_))
              obtain rfl := hr4
              refine Q3 4 [] [] [64] (Z1 hc9) E ?_
              refine Br h5325 58 E E (fun hc10 h5325 => ?_) (fun hc10 h5325 => ?_)
              · refine G2 2 [58] [] [] E ?_
                refine Cut h5325 (fun f l o_ f_ μ_ l_ => ∃ (f1 : Int) (f2 : Int) (g4 : Nat), (f1, f2) = o_ ∧ SubFr ((12, .pointer (some ⟨g4, 0, none⟩)) :: keepF [2, 7, 9, 11, 46, 47, 48] f) f_ ∧ SegSub ([(g1, .cells #[.int .i64 r1.Nodes, .slice A1 r1.Edges.length c1] 24 (0, 0))] :: ch7 :: [(g2, .cells #[.int .i64 x3.From, .int .i64 x3.To, .int .i64 x3.Meters, .int .i64 x3.Secs] 86 (0, 0))] :: [(g4, .cells #[.int .i64 f1, .int .i64 f2] 51 (0, 0))] :: selS [] 3 l) l_ ∧ μ = μ_) ?_ ?_
                · intro _ h5335 h5325
                  refine Cd (WP.draw (id := 20) wide _ Kept.refl E (AN.run (fuel := 3) (listed' := [true, true, true, true, true, true, true, true, true, true, false, false, false]) Tt_ok [(true, 0), (true, 1), (true, 2), (true, 3), (true, 4), (true, 5), (true, 6), (true, 7), (true, 8), (true, 9)] (by kernel_rfl) (by kernel_rfl) E (PL_t E (R_move E (Pt E E (R_fa0 (o' := 0) E E E E E E (Pt E E (R_load E E E (Ex.mk _ (Cell.seg 0 0 E E E) (Pt E E ?_))))))))))
                  obtain ⟨x5, hx7, h5335⟩ := obind h5335
                  obtain ⟨_, _, hA6, hr5, _, hc11⟩ := Rds.getI (Own.rds (L := ([(g2, .cells #[.int .i64 x3.From, .int .i64 x3.To, .int .i64 x3.Meters, .int .i64 x3.Secs] 86 (0, 0))] :: [(g1, .cells #[.int .i64 r1.Nodes, .slice A1 r1.Edges.length c1] 24 (0, 0))] :: ch7 :: L)) hO7 2 rfl) hx7
                  obtain rfl := hr5
                  refine R_iaG E E E E E E ⟨(getI_lt hx7).1, (getI_lt hx7).2.1⟩ hA6 (Pt E E (R_loadA E E E E (Ex.mk [.int .i64 x5.Secs, .int .i64 x5.Meters] ⟨rfl, hc11⟩ (Pt E E (R_fa0 (o' := 3) E E E E E E (Pt E E (R_load E E E (Ex.mk _ (Cell.seg 0 0 E E E) (Pt E E (R_fa0 (o' := 2) E E E E E E (Pt E E (R_load E E E ?_))))))))))))
                  refine Ex.mk _ (Cell.seg 0 0 E E E) (Pt E E (R_build E E E E (F_cons (cells' := [.int .i64 x3.Secs, .int .i64 0]) E E E E (F_cons (cells' := [.int .i64 x3.Secs, .int .i64 x3.Meters]) E E E E (F_nil (P_some E (PL_nil ?_)))))))
                  refine FK_2 Tt_ok (a := 10) (b := 11) (by kernel_rfl) ?_ ?_
                  · refine FO_ E E (O_call (all := [.agg #[.int .i64 x5.Secs, .int .i64 x5.Meters], .agg #[.int .i64 x3.Secs, .int .i64 x3.Meters]]) E E E ?_)
                    obtain ⟨r4, hx8, h5335⟩ := obind h5335
                    refine recyclingref19_Along_fn  hx8 (?_)
                    refine ⟨Kept.refl, ?_⟩
                    refine P_some E (AN.run (fuel := 0) (listed' := [true, true, true, true, true, true, true, true, true, true, true, true, true]) Tt_ok [(false, 11), (false, 12)] (by kernel_rfl) (by kernel_rfl) E (PL_f E (O_alloc (cs := #[.int .i64 0, .int .i64 0]) E E (fun g3 => ?_))))
                    refine ⟨Kept.more (Kept.refl), ?_⟩
                    refine P_some E (PL_f E (O_store (vs := [.int .i64 r4.Secs, .int .i64 r4.Meters]) E E E E E E (ST_ (L' := ([(g3, .cells #[.int .i64 r4.Secs, .int .i64 r4.Meters] 51 (0, 0))] :: [(g2, .cells #[.int .i64 x3.From, .int .i64 x3.To, .int .i64 x3.Meters, .int .i64 x3.Secs] 86 (0, 0))] :: [(g1, .cells #[.int .i64 r1.Nodes, .slice A1 r1.Edges.length c1] 24 (0, 0))] :: ch7 :: L)) 0 0 E E E E ?_)))
                    refine ⟨Kept.more (Kept.refl), ?_⟩
                    refine P_none (PL_nil (AN.done0 (by kernel_rfl) ?_))
                    cases h5335
                    exact Ce E ⟨_, _, g3, rfl, fE E, sE [some 2, some 3, some 1, some 0] 4 E, rfl⟩
                  obtain ⟨r4, hx8, h5335⟩ := obind h5335
                  refine FO_ E E (O_alloc (cs := #[.int .i64 0, .int .i64 0]) E E (fun g3 => ?_))
                  refine ⟨Kept.more (Kept.refl), ?_⟩
                  refine P_some E (AN.run (fuel := 0) (listed' := [true, true, true, true, true, true, true, true, true, true, true, true, true]) Tt_ok [(false, 10), (false, 12)] (by kernel_rfl) (by kernel_rfl) E (PL_f E (O_call (all := [.agg #[.int .i64 x5.Secs, .int .i64 x5.Meters], .agg #[.int .i64 x3.Secs, .int .i64 x3.Meters]]) E E E (recyclingref19_Along_fn  hx8 (?_)))))
                  refine ⟨Kept.more (Kept.refl), ?_⟩
                  refine P_some E (PL_f E (O_store (vs := [.int .i64 r4.Secs, .int .i64 r4.Meters]) E E E E E E (ST_ (L' := ([(g3, .cells #[.int .i64 r4.Secs, .int .i64 r4.Meters] 51 (0, 0))] :: [(g2, .cells #[.int .i64 x3.From, .int .i64 x3.To, .int .i64 x3.Meters, .int .i64 x3.Secs] 86 (0, 0))] :: [(g1, .cells #[.int .i64 r1.Nodes, .slice A1 r1.Edges.length c1] 24 (0, 0))] :: ch7 :: L)) 0 0 E E E E ?_)))
                  refine ⟨Kept.more (Kept.refl), ?_⟩
                  refine P_none (PL_nil (AN.done0 (by kernel_rfl) ?_))
                  cases h5335
                  exact Ce E ⟨_, _, g3, rfl, fE E, sE [some 2, some 3, some 1, some 0] 4 E, rfl⟩
                rintro _ _ _ _ h5325 _ ⟨f1, f2, g4, rfl, hF5335, hS5335, rfl⟩
                replace h5325 := oun_mk h5325
                refine Atn 4 hF5335 hS5335 E E (G0 1 E (Dr _ Kept.refl [(true, 0), (true, 1), (true, 2), (true, 3), (true, 4), (true, 5), (false, 6)] (by kernel_rfl) (G1 4 [3, 2] E (Ix h5325 (Own.rds (L := ([(g1, .cells #[.int .i64 r1.Nodes, .slice A1 r1.Edges.length c1] 24 (0, 0))] :: ch7 :: [(g2, .cells #[.int .i64 x3.From, .int .i64 x3.To, .int .i64 x3.Meters, .int .i64 x3.Secs] 86 (0, 0))] :: [(g4, .cells #[.int .i64 f1, .int .i64 f2] 51 (0, 0))] :: L)) hO7 1 E) E E fun _ _ _ _ hr6 hc12 _ h5325 => ?_))))
                obtain rfl := hr6
                refine Q3 1 [] [] [64] (Z1 hc12) E (Cl E ?_)
                obtain ⟨_, hx10, h5325⟩ := obind h5325
                refine recyclingref19_Better_fn  hx10 (?_)
                refine ⟨Kept.refl, ?_⟩
                refine Q0 1 E ?_
                refine Br h5325 76 E E (fun hc13 h5325 => ?_) (fun hc13 h5325 => ?_)
                · refine G2 6 [76] [] [2, 3] E (IxA h5325 (Own.rds hO7 1 E) E E fun _ a7 _ hx11 hr7 _ hA8 h5325 => ?_)
                  obtain rfl := hr7
                  refine Q0 0 E (So E (O_store (vs := [.int .i64 f1, .int .i64 f2]) E E E E E E ?_))
                  rw [← Addr.add_zero' ((a7.add (x3.To.toNat * 2)))]
                  refine Own.store (r := r_api_Leg) (x' := (T_api_Leg.mk f1 f2)) (o := 0) (sz := 2) 1 rfl hO7 hA8 hx11 rfl rfl (by rintro _ rfl; rfl) fun ch8 hO8 => ?_
                  rw [← length_setI out4 x3.To (T_api_Leg.mk f1 f2)] at hO8 ⊢
                  refine Q0 2 E ?_
                  cases h5325
                  exact Ce E ⟨_, A6, c6, ch8, rfl, fE E, sE [some 0, some 1] 4 E, (hO8), rfl⟩
                refine G2 3 [] [76] [] E ?_
                cases h5325
                exact Ce E ⟨_, A6, c6, ch7, rfl, fE E, sE [some 0, some 1] 4 E, (hO7), rfl⟩
              refine G2 3 [] [58] [] E ?_
              cases h5325
              exact Ce E ⟨_, A6, c6, ch7, rfl, fE E, sE [some 1, some 2] 3 E, (hO7), rfl⟩
            rintro _ _ _ _ hb5320 _ ⟨out5, A7, c7, ch9, rfl, hF5325, hS5325, hO9, rfl⟩
            refine Atn 2 hF5325 hS5325 E E (G0 4 E ?_)
            cases hb5320
            exact Ce E ⟨_, rfl, A7, c7, ch9, fE E, sE [some 0, some 1] 2 E, (hO9), rfl⟩
          refine G2 2 [] [49] [] E ?_
          cases hb5320
          have hq_ := hq5320 _ E
          subst hq_
          exact Ce E ⟨_, A6, c6, ch7, rfl, fE E, sE [some 0, some 1] 2 E, (hO7), rfl⟩
        rintro _ _ _ _ h5276 _ ⟨out6, A8, c8, ch10, rfl, hF5277, hS5277, hO10, rfl⟩
        refine G0 1 E ?_
        cases h5276
        exact Ce E ⟨_, A8, c8, ch10, rfl, hF5277.tr E, hS5277.tr (sE [some 0, some 1] 2 E), (hO10), rfl⟩
      rintro _ _ _ _ hb5271 _ ⟨out7, A9, c9, ch11, rfl, hF5276, hS5276, hO11, rfl⟩
      refine Atn 2 hF5276 hS5276 E E (G0 5 E ?_)
      cases hb5271
      exact Ce E ⟨_, rfl, A9, c9, ch11, fE E, sE [some 0, some 1] 2 E, (hO11), rfl⟩
    refine G2 2 [] [42] [] E ?_
    cases hb5271
    have hq_ := hq5271 _ E
    subst hq_
    exact Ce E ⟨_, A5, c5, ch6, rfl, fE E, sE [some 1] 2 E, (hO6), rfl⟩
  rintro _ _ _ _ h _ ⟨out8, A10, c10, ch12, rfl, hF5161, hS5161, hO12, rfl⟩
  refine Atn 1 hF5161 hS5161 E E (G0 6 E ?_)
  cases h
  exact Rt [] E E (Ug [[0]] 1 (hR A10 c10 ch12 hO12))

theorem recyclingref22_Leg_fn  {p1 : T_api_Problem} {f_from1 : Int} {f_to1 : Int} {A1 : Option Addr} {c1 : Nat} {A2 : Option Addr} {c2 : Nat} {A3 : Option Addr} {c3 : Nat} {res1 : T_api_Leg}
    (hl1 : p1.Road.Edges.length ≤ c1 ∧ c1 ≤ maxLen) (hA1 : ArrR r_api_Edge μ A1 p1.Road.Edges) (hl2 : p1.Vehicles.length ≤ c2 ∧ c2 ≤ maxLen) (hA2 : ArrR r_api_Vehicle μ A2 p1.Vehicles) (hl3 : p1.Demands.length ≤ c3 ∧ c3 ≤ maxLen) (hA3 : ArrR r_api_Demand μ A3 p1.Demands) (h : recyclingref22_Leg p1 f_from1 f_to1 = some res1)
    (hR : R (.agg #[.int .i64 res1.Secs, .int .i64 res1.Meters]) μ (L)) :
    Fn Try.prog 21 [.agg #[.int .i64 p1.Road.Nodes, .slice A1 p1.Road.Edges.length c1, .slice A2 p1.Vehicles.length c2, .slice A3 p1.Demands.length c3, .int .i64 p1.Unload, .int .i64 p1.UnloadSecs], .int .i64 f_from1, .int .i64 f_to1] μ (L) R := by
  unfold recyclingref22_Leg at h
  refine FnS Try.func21 (by kernel_rfl) E Try.ntmps21 E E ?_
  refine G0 2 E (Al E fun _ => Q0 0 E (Al E fun _ => Q1 6 [1] E (Cl E ?_)))
  obtain ⟨⟨_, _⟩, hx1, h⟩ := obind h
  replace h := oun_mk h
  refine recyclingref19_Legs_fn hl1 hA1 hx1 (fun _ _ _ hO1 => Q0 8 E ?_)
  refine Cut h (fun f l o_ f_ μ_ l_ => ∃ (v1 : Bool), v1 = o_ ∧ SubFr ((27, .bool v1) :: keepF [2, 6, 7] f) f_ ∧ SegSub (selS [some 1, some 0] 3 l) l_ ∧ μ = μ_) ?_ ?_
  · intro _ h5371 h
    refine G0 4 E ?_
    refine Br h5371 18 E E (fun hc1 h5371 => ?_) (fun hc1 h5371 => ?_)
    · refine G2 10 [18, 22] [] [] E ?_
      cases h5371
      exact Ce E ⟨_, rfl, fE E, sE [some 1, some 0] 3 E, rfl⟩
    refine G2 4 [] [18] [] E ?_
    refine Br h5371 22 E E (fun hc2 h5371 => ?_) (fun hc2 h5371 => ?_)
    · refine G2 6 [22] [] [] E ?_
      cases h5371
      exact Ce E ⟨_, rfl, fE E, sE [some 1, some 0] 3 E, rfl⟩
    refine G2 6 [] [22] [] E ?_
    cases h5371
    exact Ce E ⟨_, rfl, fE E, sE [some 1, some 0] 3 E, rfl⟩
  rintro _ _ _ _ h _ ⟨v1, rfl, hF5371, hS5371, rfl⟩
  refine Atn 2 hF5371 hS5371 E E ?_
  refine Br h 27 E E (fun hc3 h => ?_) (fun hc3 h => ?_)
  · refine G2 6 [27] [] [0] E ?_
    cases h
    exact Rt [0] E E (Ug [] 2 hR)
  refine G2 6 [] [27] [] E (IxA h (Own.rds hO1 1 E) E E fun _ _ _ _ hr1 hc4 _ h => ?_)
  obtain rfl := hr1
  refine Q3 3 [] [] [64, 0] (Z1 hc4) E ?_
  cases h
  exact Rt [0] E E (Ug [] 2 hR)

end Go.Proofs.Ytjbminmhndgiaaa
