/- Printed by gen2.py of this repo: the walks that tie the functions to their specifications. -/
import Derived.Test.YtfekfbcghnlohaaTt
import Derived.Test.YtfekfbcghnlohaaTas
import Derived.Test.YtfekfbcghnlohaaTaw1
namespace Go.Proofs.Ytfekfbcghnlohaa
open Go.RowKit
set_option linter.unusedSimpArgs false
set_option linter.unusedVariables false
set_option maxHeartbeats 2000000
set_option maxRecDepth 4000
attribute [local irreducible] WP SemOk SemU Fn AN Upd vcR vcO vcOps vcPlan putK fillK resK inBlk forkOne Cell StAt Kept KS

variable {μ : Gh} {L : List Seg} {R : Value → Gh → List Seg → Prop}
theorem recyclingref19_Check_fn  {r1 : T_api_Road} {A1 : Option Addr} {c1 : Nat} {res1 : Int}
    (hl1 : r1.Edges.length ≤ c1 ∧ c1 ≤ maxLen) (hA1 : ArrR r_api_Edge μ A1 r1.Edges) (h : recyclingref19_Check r1 = some res1)
    (hR : R (.int .i64 res1) μ (L)) :
    Fn Try.prog 39 [.agg #[.int .i64 r1.Nodes, .slice A1 r1.Edges.length c1]] μ (L) R := by
  unfold recyclingref19_Check at h
  refine FnS Try.func39 (by kernel_rfl) E Try.ntmps39 E E ?_
  refine G0 2 E (Al E fun _ => Q0 4 E ?_)
  refine Cut h (fun f l o_ f_ μ_ l_ => ∃ (v1 : Bool), v1 = o_ ∧ SubFr ((12, .bool v1) :: keepF [1] f) f_ ∧ SegSub l l_ ∧ μ = μ_) ?_ ?_
  · intro _ h15222 h
    refine G1 5 [0] E ?_
    refine Br h15222 8 E E (fun hc1 h15222 => ?_) (fun hc1 h15222 => ?_)
    · refine G2 5 [8] [] [] E ?_
      cases h15222
      exact Ce E ⟨_, rfl, fE E, sE [some 0] 1 E, rfl⟩
    refine G2 5 [] [8] [0] E ?_
    cases h15222
    exact Ce E ⟨_, rfl, fE E, sE [some 0] 1 E, rfl⟩
  rintro _ _ _ _ h _ ⟨v1, rfl, hF15222, hS15222, rfl⟩
  refine Atn 1 hF15222 hS15222 E E ?_
  refine Br h 12 E E (fun hc2 h => ?_) (fun hc2 h => ?_)
  · refine G2 5 [12] [] [] E ?_
    cases h
    exact Rt [] E E (Ug [] 1 hR)
  refine G2 10 [] [12] [0] E ?_
  refine Br h 16 E E (fun hc3 h => ?_) (fun hc3 h => ?_)
  · refine G2 5 [16] [] [] E ?_
    cases h
    exact Rt [] E E (Ug [] 1 hR)
  refine G2 10 [] [16] [0] E ?_
  refine Cut h (fun f l o_ f_ μ_ l_ => (.inl ()) = o_ ∧ SubFr ([]) f_ ∧ SegSub (selS [] 1 l) l_ ∧ μ = μ_) ?_ ?_
  · intro _ h15225 h
    refine Lp h15225 (fun f l (v2 : Int) f_ μ_ l_ => SubFr ((20, .int .i64 v2) :: keepF [1, 18, 19] f) f_ ∧ SegSub l l_ ∧ μ = μ_) ⟨fE E, sE [some 0] 1 E, E⟩ ?_
    rintro v2 _ _ _ _ _ ⟨hF15240, hS15240, rfl⟩ hb15240 hq15240
    unfold recyclingref19_Check_l1 at hb15240
    refine Atn 1 hF15240 hS15240 E E (G0 5 E ?_)
    refine Br hb15240 21 E E (fun hc4 hb15240 => ?_) (fun hc4 hb15240 => ?_)
    · refine G2 6 [21] [] [] E (Ix hb15240 (ArrR.rds hA1 L) E E fun _ _ _ _ hr1 hc5 _ hb15240 => ?_)
      obtain rfl := hr1
      refine Q3 1 [] [] [64] (Z1 (hc5.push)) E (Al E fun _ => Q1 4 [0] E ?_)
      refine Cut hb15240 (fun f l o_ f_ μ_ l_ => ∃ (v3 : Bool), v3 = o_ ∧ SubFr ((45, .bool v3) :: keepF [1, 4, 18, 19, 20] f) f_ ∧ SegSub (selS [some 1, some 0] 2 l) l_ ∧ μ = μ_) ?_ ?_
      · intro _ h15246 hb15240
        refine G1 5 [0] E ?_
        refine Br h15246 27 E E (fun hc6 h15246 => ?_) (fun hc6 h15246 => ?_)
        · refine G2 19 [27, 34, 39] [] [] E ?_
          cases h15246
          exact Ce E ⟨_, rfl, fE E, sE [some 1, some 0] 2 E, rfl⟩
        refine G2 7 [] [27] [0, 1] E ?_
        refine Br h15246 34 E E (fun hc7 h15246 => ?_) (fun hc7 h15246 => ?_)
        · refine G2 12 [34, 39] [] [] E ?_
          cases h15246
          exact Ce E ⟨_, rfl, fE E, sE [some 1, some 0] 2 E, rfl⟩
        refine G2 5 [] [34] [0] E ?_
        refine Br h15246 39 E E (fun hc8 h15246 => ?_) (fun hc8 h15246 => ?_)
        · refine G2 7 [39] [] [] E ?_
          cases h15246
          exact Ce E ⟨_, rfl, fE E, sE [some 1, some 0] 2 E, rfl⟩
        refine G2 7 [] [39] [0, 1] E ?_
        cases h15246
        exact Ce E ⟨_, rfl, fE E, sE [some 1, some 0] 2 E, rfl⟩
      rintro _ _ _ _ hb15240 _ ⟨v3, rfl, hF15246, hS15246, rfl⟩
      refine Atn 2 hF15246 hS15246 E E ?_
      refine Br hb15240 45 E E (fun hc9 hb15240 => ?_) (fun hc9 hb15240 => ?_)
      · refine G2 5 [45] [] [] E ?_
        cases hb15240
        have hq_ := hq15240 _ E
        subst hq_
        replace h := osum_r h
        cases h
        exact Rt [] E E (Ug [] 2 hR)
      refine G2 3 [] [45] [] E ?_
      refine Cut hb15240 (fun f l o_ f_ μ_ l_ => ∃ (v4 : Bool), v4 = o_ ∧ SubFr ((70, .bool v4) :: keepF [1, 18, 19, 20] f) f_ ∧ SegSub (selS [some 0] 2 l) l_ ∧ μ = μ_) ?_ ?_
      · intro _ h15251 hb15240
        refine G1 7 [1, 1] E ?_
        refine Br h15251 51 E E (fun hc10 h15251 => ?_) (fun hc10 h15251 => ?_)
        · refine G2 20 [51, 56, 61, 66] [] [] E ?_
          cases h15251
          exact Ce E ⟨_, rfl, fE E, sE [some 0] 2 E, rfl⟩
        refine G2 5 [] [51] [1] E ?_
        refine Br h15251 56 E E (fun hc11 h15251 => ?_) (fun hc11 h15251 => ?_)
        · refine G2 15 [56, 61, 66] [] [] E ?_
          cases h15251
          exact Ce E ⟨_, rfl, fE E, sE [some 0] 2 E, rfl⟩
        refine G2 5 [] [56] [1] E ?_
        refine Br h15251 61 E E (fun hc12 h15251 => ?_) (fun hc12 h15251 => ?_)
        · refine G2 10 [61, 66] [] [] E ?_
          cases h15251
          exact Ce E ⟨_, rfl, fE E, sE [some 0] 2 E, rfl⟩
        refine G2 5 [] [61] [1] E ?_
        refine Br h15251 66 E E (fun hc13 h15251 => ?_) (fun hc13 h15251 => ?_)
        · refine G2 5 [66] [] [] E ?_
          cases h15251
          exact Ce E ⟨_, rfl, fE E, sE [some 0] 2 E, rfl⟩
        refine G2 5 [] [66] [1] E ?_
        cases h15251
        exact Ce E ⟨_, rfl, fE E, sE [some 0] 2 E, rfl⟩
      rintro _ _ _ _ hb15240 _ ⟨v4, rfl, hF15251, hS15251, rfl⟩
      refine Atn 1 hF15251 hS15251 E E ?_
      refine Br hb15240 70 E E (fun hc14 hb15240 => ?_) (fun hc14 hb15240 => ?_)
      · refine G2 5 [70] [] [] E ?_
        cases hb15240
        have hq_ := hq15240 _ E
        subst hq_
        replace h := osum_r h
        cases h
        exact Rt [] E E (Ug [] 1 hR)
      refine G2 7 [] [70] [] E ?_
      cases hb15240
      exact Ce E ⟨_, rfl, fE E, sE [some 0] 1 E, rfl⟩
    refine G2 2 [] [21] [] E ?_
    cases hb15240
    have hq_ := hq15240 _ E
    subst hq_
    exact Ce E ⟨rfl, fE E, sE [] 1 E, rfl⟩
  rintro _ _ _ _ h _ ⟨rfl, hF15225, hS15225, rfl⟩
  replace h := osum_l h
  refine Atn 0 hF15225 hS15225 E E (G0 4 E ?_)
  cases h
  exact Rt [] E E (Ug [] 0 hR)

theorem recyclingref04_letter_fn  {c1 : Int}  {res1 : Bool}
     (h : recyclingref04_letter c1 = some res1)
    (hR : R (.bool res1) μ (L)) :
    Fn Try.prog 83 [.int .u8 c1] μ (L) R := by
  unfold recyclingref04_letter at h
  refine FnS Try.func83 (by kernel_rfl) E Try.ntmps83 E E ?_
  refine G0 5 E ?_
  refine Cut h (fun f l o_ f_ μ_ l_ => ∃ (v1 : Bool), v1 = o_ ∧ SubFr ((2, .bool v1) :: []) f_ ∧ SegSub l l_ ∧ μ = μ_) ?_ ?_
  · intro _ h15260 h
    refine G0 4 E ?_
    refine Br h15260 5 E E (fun hc1 h15260 => ?_) (fun hc1 h15260 => ?_)
    · refine G2 4 [5] [] [] E ?_
      refine Br h15260 9 E E (fun hc2 h15260 => ?_) (fun hc2 h15260 => ?_)
      · refine G2 9 [9] [] [] E ?_
        cases h15260
        exact Ce E ⟨_, rfl, fE E, sE [] 0 E, rfl⟩
      refine G2 3 [] [9] [] E ?_
      refine Br h15260 12 E E (fun hc3 h15260 => ?_) (fun hc3 h15260 => ?_)
      · refine G2 6 [12] [9] [] E ?_
        cases h15260
        exact Ce E ⟨_, rfl, fE E, sE [] 0 E, rfl⟩
      refine G2 6 [] [9, 12] [] E ?_
      cases h15260
      exact Ce E ⟨_, rfl, fE E, sE [] 0 E, rfl⟩
    refine G2 7 [] [5, 9] [] E ?_
    refine Br h15260 12 E E (fun hc4 h15260 => ?_) (fun hc4 h15260 => ?_)
    · refine G2 6 [12] [9] [] E ?_
      cases h15260
      exact Ce E ⟨_, rfl, fE E, sE [] 0 E, rfl⟩
    refine G2 6 [] [9, 12] [] E ?_
    cases h15260
    exact Ce E ⟨_, rfl, fE E, sE [] 0 E, rfl⟩
  rintro _ _ _ _ h _ ⟨v1, rfl, hF15260, hS15260, rfl⟩
  refine Atn 0 hF15260 hS15260 E E ?_
  cases h
  exact Rt [] E E (Ug [] 0 hR)

theorem recyclingref04_Valid_fn  {s1 : ByteArray}  {res1 : Bool}
     (h : recyclingref04_Valid s1 = some res1)
    (hR : R (.bool res1) μ (L)) :
    Fn Try.prog 75 [.string s1] μ (L) R := by
  unfold recyclingref04_Valid at h
  refine FnS Try.func75 (by kernel_rfl) E Try.ntmps75 E E ?_
  refine G0 6 E ?_
  refine Cut h (fun f l o_ f_ μ_ l_ => ∃ (v1 : Bool), v1 = o_ ∧ SubFr ((18, .bool v1) :: keepF [0] f) f_ ∧ SegSub l l_ ∧ μ = μ_) ?_ ?_
  · intro _ h15259 h
    refine G0 5 E ?_
    refine Br h15259 8 E E (fun hc1 h15259 => ?_) (fun hc1 h15259 => ?_)
    · refine G2 11 [8, 13] [] [] E ?_
      cases h15259
      exact Ce E ⟨_, rfl, fE E, sE [] 0 E, rfl⟩
    refine G2 5 [] [8] [] E ?_
    refine Br h15259 13 E E (fun hc2 h15259 => ?_) (fun hc2 h15259 => ?_)
    · refine G2 6 [13] [] [] E ?_
      cases h15259
      exact Ce E ⟨_, rfl, fE E, sE [] 0 E, rfl⟩
    obtain ⟨_, hb1, h15259⟩ := obind h15259
    refine G2 1 [] [13] [] E (Rdo E E (R_idxB Tt_ok E E E E hb1 (Q0 0 E (Cl E ?_))))
    obtain ⟨_, hx1, h15259⟩ := obind h15259
    refine recyclingref04_letter_fn  hx1 ((Q2 3 [] [13] [] E ?_))
    cases h15259
    exact Ce E ⟨_, rfl, fE E, sE [] 0 E, rfl⟩
  rintro _ _ _ _ h _ ⟨v1, rfl, hF15259, hS15259, rfl⟩
  refine Atn 0 hF15259 hS15259 E E ?_
  refine Br h 18 E E (fun hc3 h => ?_) (fun hc3 h => ?_)
  · refine G2 5 [18] [] [] E ?_
    cases h
    exact Rt [] E E (Ug [] 0 hR)
  refine G2 7 [] [18] [] E ?_
  refine Cut h (fun f l o_ f_ μ_ l_ => (.inl ()) = o_ ∧ SubFr ([]) f_ ∧ SegSub l l_ ∧ μ = μ_) ?_ ?_
  · intro _ h15261 h
    refine Lp h15261 (fun f l (i1 : Int) f_ μ_ l_ => SubFr ((3, .int .i64 i1) :: keepF [0] f) f_ ∧ SegSub l l_ ∧ μ = μ_) ⟨fE E, sE [] 0 E, E⟩ ?_
    rintro i1 _ _ _ _ _ ⟨hF15264, hS15264, rfl⟩ hb15264 hq15264
    unfold recyclingref04_Valid_l1 at hb15264
    refine Atn 0 hF15264 hS15264 E E (G0 8 E ?_)
    refine Br hb15264 22 E E (fun hc4 hb15264 => ?_) (fun hc4 hb15264 => ?_)
    · obtain ⟨_, hb2, hb15264⟩ := obind hb15264
      refine G2 8 [22] [] [] E (Rdo E E (R_idxB Tt_ok E E E E hb2 (Q0 3 E ?_)))
      refine Cut hb15264 (fun f l o_ f_ μ_ l_ => ∃ (v2 : Bool), v2 = o_ ∧ SubFr ((50, .bool v2) :: keepF [0, 3] f) f_ ∧ SegSub l l_ ∧ μ = μ_) ?_ ?_
      · intro _ h15265 hb15264
        refine G0 2 E (Cl E ?_)
        obtain ⟨_, hx2, h15265⟩ := obind h15265
        refine recyclingref04_letter_fn  hx2 ((Q0 2 E ?_))
        refine Br h15265 31 E E (fun hc5 h15265 => ?_) (fun hc5 h15265 => ?_)
        · refine G2 3 [31] [] [] E ?_
          refine Br h15265 34 E E (fun hc6 h15265 => ?_) (fun hc6 h15265 => ?_)
          · refine G2 9 [31, 34, 39] [] [] E ?_
            refine Br h15265 43 E E (fun hc7 h15265 => ?_) (fun hc7 h15265 => ?_)
            · refine G2 4 [43] [] [] E ?_
              refine Br h15265 47 E E (fun hc8 h15265 => ?_) (fun hc8 h15265 => ?_)
              · refine G2 4 [47] [] [] E ?_
                cases h15265
                exact Ce E ⟨_, rfl, fE E, sE [] 0 E, rfl⟩
              refine G2 4 [] [47] [] E ?_
              cases h15265
              exact Ce E ⟨_, rfl, fE E, sE [] 0 E, rfl⟩
            refine G2 8 [] [43, 47] [] E ?_
            cases h15265
            exact Ce E ⟨_, rfl, fE E, sE [] 0 E, rfl⟩
          refine G2 5 [31] [34] [] E ?_
          refine Br h15265 39 E E (fun hc9 h15265 => ?_) (fun hc9 h15265 => ?_)
          · refine G2 4 [39] [] [] E ?_
            refine Br h15265 43 E E (fun hc10 h15265 => ?_) (fun hc10 h15265 => ?_)
            · refine G2 4 [43] [] [] E ?_
              refine Br h15265 47 E E (fun hc11 h15265 => ?_) (fun hc11 h15265 => ?_)
              · refine G2 4 [47] [] [] E ?_
                cases h15265
                exact Ce E ⟨_, rfl, fE E, sE [] 0 E, rfl⟩
              refine G2 4 [] [47] [] E ?_
              cases h15265
              exact Ce E ⟨_, rfl, fE E, sE [] 0 E, rfl⟩
            refine G2 8 [] [43, 47] [] E ?_
            cases h15265
            exact Ce E ⟨_, rfl, fE E, sE [] 0 E, rfl⟩
          refine G2 12 [] [39, 43, 47] [] E ?_
          cases h15265
          exact Ce E ⟨_, rfl, fE E, sE [] 0 E, rfl⟩
        refine G2 20 [] [31, 39, 43, 47] [] E ?_
        cases h15265
        exact Ce E ⟨_, rfl, fE E, sE [] 0 E, rfl⟩
      rintro _ _ _ _ hb15264 _ ⟨v2, rfl, hF15265, hS15265, rfl⟩
      refine Atn 0 hF15265 hS15265 E E ?_
      refine Br hb15264 50 E E (fun hc12 hb15264 => ?_) (fun hc12 hb15264 => ?_)
      · refine G2 5 [50] [] [] E ?_
        cases hb15264
        have hq_ := hq15264 _ E
        subst hq_
        replace h := osum_r h
        cases h
        exact Rt [] E E (Ug [] 0 hR)
      refine G2 8 [] [50] [] E ?_
      cases hb15264
      exact Ce E ⟨_, rfl, fE E, sE [] 0 E, rfl⟩
    refine G2 2 [] [22] [] E ?_
    cases hb15264
    have hq_ := hq15264 _ E
    subst hq_
    exact Ce E ⟨rfl, fE E, sE [] 0 E, rfl⟩
  rintro _ _ _ _ h _ ⟨rfl, hF15261, hS15261, rfl⟩
  replace h := osum_l h
  refine Atn 0 hF15261 hS15261 E E (G0 4 E ?_)
  cases h
  exact Rt [] E E (Ug [] 0 hR)

theorem recyclingref20_one_fn  {v1 : T_api_Vehicle} {nodes1 : Int} {materials1 : Int}  {res1 : Int}
     (h : recyclingref20_one v1 nodes1 materials1 = some res1)
    (hR : R (.int .i64 res1) μ (L)) :
    Fn Try.prog 59 [.agg #[.string v1.ID, .int .i64 v1.Depot, .int .i64 v1.Shift.From, .int .i64 v1.Shift.To, .int .i64 v1.Grams, .int .i64 v1.Kinds], .int .i64 nodes1, .int .i64 materials1] μ (L) R := by
  unfold recyclingref20_one at h
  refine FnS Try.func59 (by kernel_rfl) E Try.ntmps59 E E ?_
  refine G0 2 E (Al E fun _ => Q1 7 [0] E (Cl E ?_))
  obtain ⟨_, hx1, h⟩ := obind h
  refine recyclingref04_Valid_fn  hx1 ((Q0 2 E ?_))
  refine Br h 10 E E (fun hc1 h => ?_) (fun hc1 h => ?_)
  · refine G2 5 [10] [] [] E ?_
    cases h
    exact Rt [] E E (Ug [] 1 hR)
  refine G2 4 [] [10] [] E ?_
  refine Cut h (fun f l o_ f_ μ_ l_ => ∃ (v2 : Bool), v2 = o_ ∧ SubFr ((19, .bool v2) :: keepF [2, 3] f) f_ ∧ SegSub l l_ ∧ μ = μ_) ?_ ?_
  · intro _ h15266 h
    refine G1 5 [0] E ?_
    refine Br h15266 14 E E (fun hc2 h15266 => ?_) (fun hc2 h15266 => ?_)
    · refine G2 6 [14] [] [] E ?_
      cases h15266
      exact Ce E ⟨_, rfl, fE E, sE [some 0] 1 E, rfl⟩
    refine G2 6 [] [14] [0] E ?_
    cases h15266
    exact Ce E ⟨_, rfl, fE E, sE [some 0] 1 E, rfl⟩
  rintro _ _ _ _ h _ ⟨v2, rfl, hF15266, hS15266, rfl⟩
  refine Atn 1 hF15266 hS15266 E E ?_
  refine Br h 19 E E (fun hc3 h => ?_) (fun hc3 h => ?_)
  · refine G2 5 [19] [] [] E ?_
    cases h
    exact Rt [] E E (Ug [] 1 hR)
  refine G2 4 [] [19] [] E ?_
  refine Cut h (fun f l o_ f_ μ_ l_ => ∃ (v3 : Bool), v3 = o_ ∧ SubFr ((38, .bool v3) :: keepF [2, 3] f) f_ ∧ SegSub l l_ ∧ μ = μ_) ?_ ?_
  · intro _ h15269 h
    refine G1 6 [0] E ?_
    refine Br h15269 24 E E (fun hc4 h15269 => ?_) (fun hc4 h15269 => ?_)
    · refine G2 15 [24, 33] [] [] E ?_
      cases h15269
      exact Ce E ⟨_, rfl, fE E, sE [some 0] 1 E, rfl⟩
    refine G2 9 [] [24] [0, 0] E ?_
    refine Br h15269 33 E E (fun hc5 h15269 => ?_) (fun hc5 h15269 => ?_)
    · refine G2 6 [33] [] [] E ?_
      cases h15269
      exact Ce E ⟨_, rfl, fE E, sE [some 0] 1 E, rfl⟩
    refine G2 6 [] [33] [0] E ?_
    cases h15269
    exact Ce E ⟨_, rfl, fE E, sE [some 0] 1 E, rfl⟩
  rintro _ _ _ _ h _ ⟨v3, rfl, hF15269, hS15269, rfl⟩
  refine Atn 1 hF15269 hS15269 E E ?_
  refine Br h 38 E E (fun hc6 h => ?_) (fun hc6 h => ?_)
  · refine G2 5 [38] [] [] E ?_
    cases h
    exact Rt [] E E (Ug [] 1 hR)
  refine G2 4 [] [38] [] E ?_
  refine Cut h (fun f l o_ f_ μ_ l_ => ∃ (v4 : Bool), v4 = o_ ∧ SubFr ((46, .bool v4) :: keepF [2, 3] f) f_ ∧ SegSub l l_ ∧ μ = μ_) ?_ ?_
  · intro _ h15272 h
    refine G1 5 [0] E ?_
    refine Br h15272 42 E E (fun hc7 h15272 => ?_) (fun hc7 h15272 => ?_)
    · refine G2 5 [42] [] [] E ?_
      cases h15272
      exact Ce E ⟨_, rfl, fE E, sE [some 0] 1 E, rfl⟩
    refine G2 5 [] [42] [0] E ?_
    cases h15272
    exact Ce E ⟨_, rfl, fE E, sE [some 0] 1 E, rfl⟩
  rintro _ _ _ _ h _ ⟨v4, rfl, hF15272, hS15272, rfl⟩
  refine Atn 1 hF15272 hS15272 E E ?_
  refine Br h 46 E E (fun hc8 h => ?_) (fun hc8 h => ?_)
  · refine G2 5 [46] [] [] E ?_
    cases h
    exact Rt [] E E (Ug [] 1 hR)
  refine G2 4 [] [46] [] E ?_
  refine Cut h (fun f l o_ f_ μ_ l_ => ∃ (v5 : Bool), v5 = o_ ∧ SubFr ((56, .bool v5) :: []) f_ ∧ SegSub (selS [] 1 l) l_ ∧ μ = μ_) ?_ ?_
  · intro _ h15275 h
    refine Dr _ Kept.refl [(true, 0), (true, 1), (true, 2), (true, 3), (true, 4), (true, 5), (true, 6), (true, 7), (true, 8), (true, 9)] (by kernel_rfl) (G1 4 [0] E ?_)
    refine Br h15275 50 E E (fun hc9 h15275 => ?_) (fun hc9 h15275 => ?_)
    · refine G2 7 [50] [] [] E ?_
      cases h15275
      exact Ce E ⟨_, rfl, fE E, sE [] 1 E, rfl⟩
    refine G2 3 [] [50] [0] E (Rdo E E ?_)
    obtain ⟨_, hg1, h15275⟩ := obind h15275
    refine R_shlD E E E (guardO_some hg1) (Q2 3 [] [50] [] E ?_)
    cases h15275
    exact Ce E ⟨_, rfl, fE E, sE [] 1 E, rfl⟩
  rintro _ _ _ _ h _ ⟨v5, rfl, hF15275, hS15275, rfl⟩
  refine Atn 0 hF15275 hS15275 E E ?_
  refine Br h 56 E E (fun hc10 h => ?_) (fun hc10 h => ?_)
  · refine G2 5 [56] [] [] E ?_
    cases h
    exact Rt [] E E (Ug [] 0 hR)
  refine G2 6 [] [56] [] E ?_
  cases h
  exact Rt [] E E (Ug [] 0 hR)

theorem recyclingref20_Check_fn  {l1 : (List T_api_Vehicle)} {nodes1 : Int} {materials1 : Int} {A1 : Option Addr} {c1 : Nat} {res1 : Int}
    (hl1 : l1.length ≤ c1 ∧ c1 ≤ maxLen) (hA1 : Rds r_api_Vehicle μ L A1 l1) (h : recyclingref20_Check l1 nodes1 materials1 = some res1)
    (hR : R (.int .i64 res1) μ (L)) :
    Fn Try.prog 40 [.slice A1 l1.length c1, .int .i64 nodes1, .int .i64 materials1] μ (L) R := by
  unfold recyclingref20_Check at h
  refine FnS Try.func40 (by kernel_rfl) E Try.ntmps40 E E ?_
  refine G0 6 E ?_
  refine Cut h (fun f l o_ f_ μ_ l_ => ∃ (v1 : Bool), v1 = o_ ∧ SubFr ((24, .bool v1) :: keepF [0, 1, 2] f) f_ ∧ SegSub l l_ ∧ μ = μ_) ?_ ?_
  · intro _ h15255 h
    refine G0 4 E ?_
    refine Br h15255 13 E E (fun hc1 h15255 => ?_) (fun hc1 h15255 => ?_)
    · refine G2 12 [13, 17, 21] [] [] E ?_
      cases h15255
      exact Ce E ⟨_, rfl, fE E, sE [] 0 E, rfl⟩
    refine G2 4 [] [13] [] E ?_
    refine Br h15255 17 E E (fun hc2 h15255 => ?_) (fun hc2 h15255 => ?_)
    · refine G2 8 [17, 21] [] [] E ?_
      cases h15255
      exact Ce E ⟨_, rfl, fE E, sE [] 0 E, rfl⟩
    refine G2 4 [] [17] [] E ?_
    refine Br h15255 21 E E (fun hc3 h15255 => ?_) (fun hc3 h15255 => ?_)
    · refine G2 4 [21] [] [] E ?_
      cases h15255
      exact Ce E ⟨_, rfl, fE E, sE [] 0 E, rfl⟩
    refine G2 4 [] [21] [] E ?_
    cases h15255
    exact Ce E ⟨_, rfl, fE E, sE [] 0 E, rfl⟩
  rintro _ _ _ _ h _ ⟨v1, rfl, hF15255, hS15255, rfl⟩
  refine Atn 0 hF15255 hS15255 E E ?_
  refine Br h 24 E E (fun hc4 h => ?_) (fun hc4 h => ?_)
  · refine G2 5 [24] [] [] E ?_
    cases h
    exact Rt [] E E (Ug [] 0 hR)
  refine G2 9 [] [24] [] E ?_
  refine Br h 27 E E (fun hc5 h => ?_) (fun hc5 h => ?_)
  · refine G2 5 [27] [] [] E ?_
    cases h
    exact Rt [] E E (Ug [] 0 hR)
  refine G2 9 [] [27] [] E ?_
  refine Br h 30 E E (fun hc6 h => ?_) (fun hc6 h => ?_)
  · refine G2 5 [30] [] [] E ?_
    cases h
    exact Rt [] E E (Ug [] 0 hR)
  refine G2 7 [] [30] [] E ?_
  refine Cut h (fun f l o_ f_ μ_ l_ => (.inl ()) = o_ ∧ SubFr (keepF [0] f) f_ ∧ SegSub l l_ ∧ μ = μ_) ?_ ?_
  · intro _ h15256 h
    refine Lp h15256 (fun f l (i1 : Int) f_ μ_ l_ => SubFr ((7, .int .i64 i1) :: keepF [0, 1, 2] f) f_ ∧ SegSub l l_ ∧ μ = μ_) ⟨fE E, sE [] 0 E, E⟩ ?_
    rintro i1 _ _ _ _ _ ⟨hF15276, hS15276, rfl⟩ hb15276 hq15276
    unfold recyclingref20_Check_l1 at hb15276
    refine Atn 0 hF15276 hS15276 E E (G0 8 E ?_)
    refine Br hb15276 34 E E (fun hc7 hb15276 => ?_) (fun hc7 hb15276 => ?_)
    · refine G2 8 [34] [] [] E (Ix hb15276 hA1 E E fun _ _ _ _ hr1 hc8 _ hb15276 => ?_)
      obtain rfl := hr1
      refine Q3 3 [] [] [64] (Z1 hc8) E (Cl E ?_)
      obtain ⟨_, hx2, hb15276⟩ := obind hb15276
      refine recyclingref20_one_fn  hx2 ((Q0 7 E ?_))
      refine Br hb15276 45 E E (fun hc9 hb15276 => ?_) (fun hc9 hb15276 => ?_)
      · refine G2 6 [45] [] [] E ?_
        cases hb15276
        have hq_ := hq15276 _ E
        subst hq_
        replace h := osum_r h
        cases h
        exact Rt [] E E (Ug [] 0 hR)
      refine G2 8 [] [45] [] E ?_
      cases hb15276
      exact Ce E ⟨_, rfl, fE E, sE [] 0 E, rfl⟩
    refine G2 2 [] [34] [] E ?_
    cases hb15276
    have hq_ := hq15276 _ E
    subst hq_
    exact Ce E ⟨rfl, fE E, sE [] 0 E, rfl⟩
  rintro _ _ _ _ h _ ⟨rfl, hF15256, hS15256, rfl⟩
  replace h := osum_l h
  refine Atn 0 hF15256 hS15256 E E (G0 5 E ?_)
  refine Cut h (fun f l o_ f_ μ_ l_ => (.inl ()) = o_ ∧ SubFr ([]) f_ ∧ SegSub l l_ ∧ μ = μ_) ?_ ?_
  · intro _ h15277 h
    refine Lp h15277 (fun f l (i2 : Int) f_ μ_ l_ => SubFr ((9, .int .i64 i2) :: keepF [0] f) f_ ∧ SegSub l l_ ∧ μ = μ_) ⟨fE E, sE [] 0 E, E⟩ ?_
    rintro i2 _ _ _ _ _ ⟨hF15283, hS15283, rfl⟩ hb15283 hq15283
    unfold recyclingref20_Check_l3 at hb15283
    refine Atn 0 hF15283 hS15283 E E (G0 8 E ?_)
    refine Br hb15283 50 E E (fun hc10 hb15283 => ?_) (fun hc10 hb15283 => ?_)
    · refine G2 3 [50] [] [] E ?_
      refine Cut hb15283 (fun f l o_ f_ μ_ l_ => (.inl ()) = o_ ∧ SubFr (keepF [0, 9] f) f_ ∧ SegSub l l_ ∧ μ = μ_) ?_ ?_
      · intro _ h15284 hb15283
        refine G0 5 E ?_
        refine Cut h15284 (fun f l o_ f_ μ_ l_ => (.inl ()) = o_ ∧ SubFr (keepF [0, 9] f) f_ ∧ SegSub l l_ ∧ μ = μ_) ?_ ?_
        · intro _ h15285 h15284
          refine Lp h15285 (fun f l (k1 : Int) f_ μ_ l_ => SubFr ((10, .int .i64 k1) :: keepF [0, 9] f) f_ ∧ SegSub l l_ ∧ μ = μ_) ⟨fE E, sE [] 0 E, E⟩ ?_
          rintro k1 _ _ _ _ _ ⟨hF15287, hS15287, rfl⟩ hb15287 hq15287
          unfold recyclingref20_Check_l2 at hb15287
          refine Atn 0 hF15287 hS15287 E E (G0 7 E ?_)
          refine Br hb15287 55 E E (fun hc11 hb15287 => ?_) (fun hc11 hb15287 => ?_)
          · refine G2 5 [55] [] [] E (Dr _ Kept.refl [(true, 0), (true, 1), (true, 2), (true, 3), (true, 4), (true, 5), (true, 6), (true, 7), (true, 8), (true, 9), (true, 10)] (by kernel_rfl) (G0 2 E (Ix hb15287 hA1 E E fun _ _ _ _ hr2 hc12 _ hb15287 => ?_)))
            obtain rfl := hr2
            refine Q3 4 [] [] [64] (Z1 hc12) E (Ix hb15287 hA1 E E fun _ _ _ _ hr3 hc13 _ hb15287 => ?_)
            obtain rfl := hr3
            refine Q3 2 [] [] [64] (Z1 hc13) E (Rdo E E (R_eqSg Tt_ok E E E E (Q0 1 E ?_)))
            refine Br hb15287 68 E E (fun hc14 hb15287 => ?_) (fun hc14 hb15287 => ?_)
            · refine G2 5 [68] [] [] E ?_
              cases hb15287
              have hq_ := hq15287 _ E
              subst hq_
              replace h15284 := osum_r h15284
              cases h15284
              replace hb15283 := osum_r hb15283
              cases hb15283
              have hq_ := hq15283 _ E
              subst hq_
              replace h := osum_r h
              cases h
              exact Rt [] E E (Ug [] 0 hR)
            refine G2 8 [] [68] [] E ?_
            cases hb15287
            exact Ce E ⟨_, rfl, fE E, sE [] 0 E, rfl⟩
          refine G2 2 [] [55] [] E ?_
          cases hb15287
          have hq_ := hq15287 _ E
          subst hq_
          exact Ce E ⟨rfl, fE E, sE [] 0 E, rfl⟩
        rintro _ _ _ _ h15284 _ ⟨rfl, hF15285, hS15285, rfl⟩
        replace h15284 := osum_l h15284
        refine G0 1 E ?_
        cases h15284
        exact Ce E ⟨rfl, hF15285.tr E, hS15285.tr (sE [] 0 E), rfl⟩
      rintro _ _ _ _ hb15283 _ ⟨rfl, hF15284, hS15284, rfl⟩
      replace hb15283 := osum_l hb15283
      refine Atn 0 hF15284 hS15284 E E (G0 5 E ?_)
      cases hb15283
      exact Ce E ⟨_, rfl, fE E, sE [] 0 E, rfl⟩
    refine G2 2 [] [50] [] E ?_
    cases hb15283
    have hq_ := hq15283 _ E
    subst hq_
    exact Ce E ⟨rfl, fE E, sE [] 0 E, rfl⟩
  rintro _ _ _ _ h _ ⟨rfl, hF15277, hS15277, rfl⟩
  replace h := osum_l h
  refine Atn 0 hF15277 hS15277 E E (G0 4 E ?_)
  cases h
  exact Rt [] E E (Ug [] 0 hR)

theorem recyclingref21_Check_fn  {l1 : (List T_api_Demand)} {nodes1 : Int} {materials1 : Int} {A1 : Option Addr} {c1 : Nat} {res1 : Int}
    (hl1 : l1.length ≤ c1 ∧ c1 ≤ maxLen) (hA1 : Rds r_api_Demand μ L A1 l1) (h : recyclingref21_Check l1 nodes1 materials1 = some res1)
    (hR : R (.int .i64 res1) μ (L)) :
    Fn Try.prog 41 [.slice A1 l1.length c1, .int .i64 nodes1, .int .i64 materials1] μ (L) R := by
  unfold recyclingref21_Check at h
  refine FnS Try.func41 (by kernel_rfl) E Try.ntmps41 E E ?_
  refine G0 11 E ?_
  refine Br h 13 E E (fun hc1 h => ?_) (fun hc1 h => ?_)
  · refine G2 5 [13] [] [] E ?_
    cases h
    exact Rt [] E E (Ug [] 0 hR)
  refine G2 7 [] [13] [] E ?_
  refine Cut h (fun f l o_ f_ μ_ l_ => (.inl ()) = o_ ∧ SubFr (keepF [0] f) f_ ∧ SegSub l l_ ∧ μ = μ_) ?_ ?_
  · intro _ h15289 h
    refine Lp h15289 (fun f l (i1 : Int) f_ μ_ l_ => SubFr ((7, .int .i64 i1) :: keepF [0, 1, 2] f) f_ ∧ SegSub l l_ ∧ μ = μ_) ⟨fE E, sE [] 0 E, E⟩ ?_
    rintro i1 _ _ _ _ _ ⟨hF15297, hS15297, rfl⟩ hb15297 hq15297
    unfold recyclingref21_Check_l1 at hb15297
    refine Atn 0 hF15297 hS15297 E E (G0 8 E ?_)
    refine Br hb15297 17 E E (fun hc2 hb15297 => ?_) (fun hc2 hb15297 => ?_)
    · refine G2 8 [17] [] [] E (Ix hb15297 hA1 E E fun _ _ _ _ hr1 hc3 _ hb15297 => ?_)
      obtain rfl := hr1
      refine Q3 1 [] [] [64] (Z1 hc3) E (Al E fun _ => Q1 4 [0] E ?_)
      refine Cut hb15297 (fun f l o_ f_ μ_ l_ => ∃ (v1 : Bool), v1 = o_ ∧ SubFr ((53, .bool v1) :: keepF [0, 1, 2, 7, 8] f) f_ ∧ SegSub l l_ ∧ μ = μ_) ?_ ?_
      · intro _ h15300 hb15297
        refine G1 5 [0] E ?_
        refine Br h15300 27 E E (fun hc4 h15300 => ?_) (fun hc4 h15300 => ?_)
        · refine G2 27 [27, 32, 37, 43, 48] [] [] E ?_
          cases h15300
          exact Ce E ⟨_, rfl, fE E, sE [some 0] 1 E, rfl⟩
        refine G2 5 [] [27] [0] E ?_
        refine Br h15300 32 E E (fun hc5 h15300 => ?_) (fun hc5 h15300 => ?_)
        · refine G2 22 [32, 37, 43, 48] [] [] E ?_
          cases h15300
          exact Ce E ⟨_, rfl, fE E, sE [some 0] 1 E, rfl⟩
        refine G2 5 [] [32] [0] E ?_
        refine Br h15300 37 E E (fun hc6 h15300 => ?_) (fun hc6 h15300 => ?_)
        · refine G2 17 [37, 43, 48] [] [] E ?_
          cases h15300
          exact Ce E ⟨_, rfl, fE E, sE [some 0] 1 E, rfl⟩
        refine G2 6 [] [37] [0] E ?_
        refine Br h15300 43 E E (fun hc7 h15300 => ?_) (fun hc7 h15300 => ?_)
        · refine G2 11 [43, 48] [] [] E ?_
          cases h15300
          exact Ce E ⟨_, rfl, fE E, sE [some 0] 1 E, rfl⟩
        refine G2 5 [] [43] [0] E ?_
        refine Br h15300 48 E E (fun hc8 h15300 => ?_) (fun hc8 h15300 => ?_)
        · refine G2 6 [48] [] [] E ?_
          cases h15300
          exact Ce E ⟨_, rfl, fE E, sE [some 0] 1 E, rfl⟩
        refine G2 6 [] [48] [0] E ?_
        cases h15300
        exact Ce E ⟨_, rfl, fE E, sE [some 0] 1 E, rfl⟩
      rintro _ _ _ _ hb15297 _ ⟨v1, rfl, hF15300, hS15300, rfl⟩
      refine Atn 1 hF15300 hS15300 E E ?_
      refine Br hb15297 53 E E (fun hc9 hb15297 => ?_) (fun hc9 hb15297 => ?_)
      · refine G2 5 [53] [] [] E ?_
        cases hb15297
        have hq_ := hq15297 _ E
        subst hq_
        replace h := osum_r h
        cases h
        exact Rt [] E E (Ug [] 1 hR)
      refine G2 3 [] [53] [] E ?_
      refine Cut hb15297 (fun f l o_ f_ μ_ l_ => ∃ (v2 : Bool), v2 = o_ ∧ SubFr ((92, .bool v2) :: keepF [0, 1, 2, 7] f) f_ ∧ SegSub (selS [] 1 l) l_ ∧ μ = μ_) ?_ ?_
      · intro _ h15303 hb15297
        refine G1 5 [0] E ?_
        refine Br h15303 57 E E (fun hc10 h15303 => ?_) (fun hc10 h15303 => ?_)
        · refine G2 36 [57, 62, 68, 77, 83, 88] [] [] E ?_
          cases h15303
          exact Ce E ⟨_, rfl, fE E, sE [] 1 E, rfl⟩
        refine G2 5 [] [57] [0] E ?_
        refine Br h15303 62 E E (fun hc11 h15303 => ?_) (fun hc11 h15303 => ?_)
        · refine G2 31 [62, 68, 77, 83, 88] [] [] E ?_
          cases h15303
          exact Ce E ⟨_, rfl, fE E, sE [] 1 E, rfl⟩
        refine G2 6 [] [62] [0] E ?_
        refine Br h15303 68 E E (fun hc12 h15303 => ?_) (fun hc12 h15303 => ?_)
        · refine G2 25 [68, 77, 83, 88] [] [] E ?_
          cases h15303
          exact Ce E ⟨_, rfl, fE E, sE [] 1 E, rfl⟩
        refine G2 9 [] [68] [0, 0] E ?_
        refine Br h15303 77 E E (fun hc13 h15303 => ?_) (fun hc13 h15303 => ?_)
        · refine G2 16 [77, 83, 88] [] [] E ?_
          cases h15303
          exact Ce E ⟨_, rfl, fE E, sE [] 1 E, rfl⟩
        refine G2 6 [] [77] [0] E ?_
        refine Br h15303 83 E E (fun hc14 h15303 => ?_) (fun hc14 h15303 => ?_)
        · refine G2 10 [83, 88] [] [] E ?_
          cases h15303
          exact Ce E ⟨_, rfl, fE E, sE [] 1 E, rfl⟩
        refine G2 5 [] [83] [0] E ?_
        refine Br h15303 88 E E (fun hc15 h15303 => ?_) (fun hc15 h15303 => ?_)
        · refine G2 5 [88] [] [] E ?_
          cases h15303
          exact Ce E ⟨_, rfl, fE E, sE [] 1 E, rfl⟩
        refine G2 5 [] [88] [0] E ?_
        cases h15303
        exact Ce E ⟨_, rfl, fE E, sE [] 1 E, rfl⟩
      rintro _ _ _ _ hb15297 _ ⟨v2, rfl, hF15303, hS15303, rfl⟩
      refine Atn 0 hF15303 hS15303 E E ?_
      refine Br hb15297 92 E E (fun hc16 hb15297 => ?_) (fun hc16 hb15297 => ?_)
      · refine G2 5 [92] [] [] E ?_
        cases hb15297
        have hq_ := hq15297 _ E
        subst hq_
        replace h := osum_r h
        cases h
        exact Rt [] E E (Ug [] 0 hR)
      refine G2 8 [] [92] [] E ?_
      cases hb15297
      exact Ce E ⟨_, rfl, fE E, sE [] 0 E, rfl⟩
    refine G2 2 [] [17] [] E ?_
    cases hb15297
    have hq_ := hq15297 _ E
    subst hq_
    exact Ce E ⟨rfl, fE E, sE [] 0 E, rfl⟩
  rintro _ _ _ _ h _ ⟨rfl, hF15289, hS15289, rfl⟩
  replace h := osum_l h
  refine Atn 0 hF15289 hS15289 E E (G0 5 E ?_)
  refine Cut h (fun f l o_ f_ μ_ l_ => (.inl ()) = o_ ∧ SubFr ([]) f_ ∧ SegSub l l_ ∧ μ = μ_) ?_ ?_
  · intro _ h15304 h
    refine Lp h15304 (fun f l (i2 : Int) f_ μ_ l_ => SubFr ((9, .int .i64 i2) :: keepF [0] f) f_ ∧ SegSub l l_ ∧ μ = μ_) ⟨fE E, sE [] 0 E, E⟩ ?_
    rintro i2 _ _ _ _ _ ⟨hF15310, hS15310, rfl⟩ hb15310 hq15310
    unfold recyclingref21_Check_l3 at hb15310
    refine Atn 0 hF15310 hS15310 E E (G0 8 E ?_)
    refine Br hb15310 96 E E (fun hc17 hb15310 => ?_) (fun hc17 hb15310 => ?_)
    · refine G2 3 [96] [] [] E ?_
      refine Cut hb15310 (fun f l o_ f_ μ_ l_ => (.inl ()) = o_ ∧ SubFr (keepF [0, 9] f) f_ ∧ SegSub l l_ ∧ μ = μ_) ?_ ?_
      · intro _ h15311 hb15310
        refine G0 5 E ?_
        refine Cut h15311 (fun f l o_ f_ μ_ l_ => (.inl ()) = o_ ∧ SubFr (keepF [0, 9] f) f_ ∧ SegSub l l_ ∧ μ = μ_) ?_ ?_
        · intro _ h15312 h15311
          refine Lp h15312 (fun f l (k1 : Int) f_ μ_ l_ => SubFr ((10, .int .i64 k1) :: keepF [0, 9] f) f_ ∧ SegSub l l_ ∧ μ = μ_) ⟨fE E, sE [] 0 E, E⟩ ?_
          rintro k1 _ _ _ _ _ ⟨hF15314, hS15314, rfl⟩ hb15314 hq15314
          unfold recyclingref21_Check_l2 at hb15314
          refine Atn 0 hF15314 hS15314 E E (G0 7 E ?_)
          refine Br hb15314 101 E E (fun hc18 hb15314 => ?_) (fun hc18 hb15314 => ?_)
          · refine G2 5 [101] [] [] E (Dr _ Kept.refl [(true, 0), (true, 1), (true, 2), (true, 3), (true, 4), (true, 5), (true, 6), (true, 7), (true, 8), (true, 9), (true, 10)] (by kernel_rfl) (G0 2 E (Ix hb15314 hA1 E E fun _ _ _ _ hr2 hc19 _ hb15314 => ?_)))
            obtain rfl := hr2
            refine Q3 4 [] [] [64] (Z1 hc19) E (Ix hb15314 hA1 E E fun _ _ _ _ hr3 hc20 _ hb15314 => ?_)
            obtain rfl := hr3
            refine Q3 4 [] [] [64] (Z1 hc20) E ?_
            refine Br hb15314 114 E E (fun hc21 hb15314 => ?_) (fun hc21 hb15314 => ?_)
            · refine G2 5 [114] [] [] E ?_
              cases hb15314
              have hq_ := hq15314 _ E
              subst hq_
              replace h15311 := osum_r h15311
              cases h15311
              replace hb15310 := osum_r hb15310
              cases hb15310
              have hq_ := hq15310 _ E
              subst hq_
              replace h := osum_r h
              cases h
              exact Rt [] E E (Ug [] 0 hR)
            refine G2 8 [] [114] [] E ?_
            cases hb15314
            exact Ce E ⟨_, rfl, fE E, sE [] 0 E, rfl⟩
          refine G2 2 [] [101] [] E ?_
          cases hb15314
          have hq_ := hq15314 _ E
          subst hq_
          exact Ce E ⟨rfl, fE E, sE [] 0 E, rfl⟩
        rintro _ _ _ _ h15311 _ ⟨rfl, hF15312, hS15312, rfl⟩
        replace h15311 := osum_l h15311
        refine G0 1 E ?_
        cases h15311
        exact Ce E ⟨rfl, hF15312.tr E, hS15312.tr (sE [] 0 E), rfl⟩
      rintro _ _ _ _ hb15310 _ ⟨rfl, hF15311, hS15311, rfl⟩
      replace hb15310 := osum_l hb15310
      refine Atn 0 hF15311 hS15311 E E (G0 5 E ?_)
      cases hb15310
      exact Ce E ⟨_, rfl, fE E, sE [] 0 E, rfl⟩
    refine G2 2 [] [96] [] E ?_
    cases hb15310
    have hq_ := hq15310 _ E
    subst hq_
    exact Ce E ⟨rfl, fE E, sE [] 0 E, rfl⟩
  rintro _ _ _ _ h _ ⟨rfl, hF15304, hS15304, rfl⟩
  replace h := osum_l h
  refine Atn 0 hF15304 hS15304 E E (G0 4 E ?_)
  cases h
  exact Rt [] E E (Ug [] 0 hR)

theorem recyclingref22_Check_fn  {p1 : T_api_Problem} {A1 : Option Addr} {c1 : Nat} {A2 : Option Addr} {c2 : Nat} {A3 : Option Addr} {c3 : Nat} {res1 : Int}
    (hl1 : p1.Road.Edges.length ≤ c1 ∧ c1 ≤ maxLen) (hA1 : ArrR r_api_Edge μ A1 p1.Road.Edges) (hl2 : p1.Vehicles.length ≤ c2 ∧ c2 ≤ maxLen) (hA2 : ArrR r_api_Vehicle μ A2 p1.Vehicles) (hl3 : p1.Demands.length ≤ c3 ∧ c3 ≤ maxLen) (hA3 : ArrR r_api_Demand μ A3 p1.Demands) (h : recyclingref22_Check p1 = some res1)
    (hR : R (.int .i64 res1) μ (L)) :
    Fn Try.prog 27 [.agg #[.int .i64 p1.Road.Nodes, .slice A1 p1.Road.Edges.length c1, .slice A2 p1.Vehicles.length c2, .slice A3 p1.Demands.length c3, .int .i64 p1.Unload, .int .i64 p1.UnloadSecs]] μ (L) R := by
  unfold recyclingref22_Check at h
  refine FnS Try.func27 (by kernel_rfl) E Try.ntmps27 E E ?_
  refine G0 2 E (Al E fun _ => Q1 7 [0] E (Cl E ?_))
  obtain ⟨_, hx1, h⟩ := obind h
  refine recyclingref19_Check_fn hl1 hA1 hx1 ((Q0 7 E ?_))
  refine Br h 10 E E (fun hc1 h => ?_) (fun hc1 h => ?_)
  · refine G2 6 [10] [] [] E ?_
    cases h
    exact Rt [] E E (Ug [] 1 hR)
  refine G2 10 [] [10] [0, 0] E (Cl E ?_)
  obtain ⟨_, hx2, h⟩ := obind h
  refine recyclingref20_Check_fn hl2 (ArrR.rds hA2 _) hx2 ((Q0 7 E ?_))
  refine Br h 19 E E (fun hc2 h => ?_) (fun hc2 h => ?_)
  · refine G2 6 [19] [] [] E ?_
    cases h
    exact Rt [] E E (Ug [] 1 hR)
  refine G2 10 [] [19] [0, 0] E (Cl E ?_)
  obtain ⟨_, hx3, h⟩ := obind h
  refine recyclingref21_Check_fn hl3 (ArrR.rds hA3 _) hx3 ((Q0 7 E ?_))
  refine Br h 28 E E (fun hc3 h => ?_) (fun hc3 h => ?_)
  · refine G2 6 [28] [] [] E ?_
    cases h
    exact Rt [] E E (Ug [] 1 hR)
  refine G2 4 [] [28] [] E ?_
  refine Cut h (fun f l o_ f_ μ_ l_ => ∃ (v1 : Bool), v1 = o_ ∧ SubFr ((40, .bool v1) :: keepF [1] f) f_ ∧ SegSub l l_ ∧ μ = μ_) ?_ ?_
  · intro _ h15315 h
    refine G1 5 [0] E ?_
    refine Br h15315 33 E E (fun hc4 h15315 => ?_) (fun hc4 h15315 => ?_)
    · refine G2 8 [33] [] [] E ?_
      cases h15315
      exact Ce E ⟨_, rfl, fE E, sE [some 0] 1 E, rfl⟩
    refine G2 8 [] [33] [0, 0] E ?_
    cases h15315
    exact Ce E ⟨_, rfl, fE E, sE [some 0] 1 E, rfl⟩
  rintro _ _ _ _ h _ ⟨v1, rfl, hF15315, hS15315, rfl⟩
  refine Atn 1 hF15315 hS15315 E E ?_
  refine Br h 40 E E (fun hc5 h => ?_) (fun hc5 h => ?_)
  · refine G2 5 [40] [] [] E ?_
    cases h
    exact Rt [] E E (Ug [] 1 hR)
  refine G2 4 [] [40] [] E ?_
  refine Cut h (fun f l o_ f_ μ_ l_ => ∃ (v2 : Bool), v2 = o_ ∧ SubFr ((48, .bool v2) :: []) f_ ∧ SegSub (selS [] 1 l) l_ ∧ μ = μ_) ?_ ?_
  · intro _ h15318 h
    refine G1 5 [0] E ?_
    refine Br h15318 44 E E (fun hc6 h15318 => ?_) (fun hc6 h15318 => ?_)
    · refine G2 5 [44] [] [] E ?_
      cases h15318
      exact Ce E ⟨_, rfl, fE E, sE [] 1 E, rfl⟩
    refine G2 5 [] [44] [0] E ?_
    cases h15318
    exact Ce E ⟨_, rfl, fE E, sE [] 1 E, rfl⟩
  rintro _ _ _ _ h _ ⟨v2, rfl, hF15318, hS15318, rfl⟩
  refine Atn 0 hF15318 hS15318 E E ?_
  refine Br h 48 E E (fun hc7 h => ?_) (fun hc7 h => ?_)
  · refine G2 5 [48] [] [] E ?_
    cases h
    exact Rt [] E E (Ug [] 0 hR)
  refine G2 6 [] [48] [] E ?_
  cases h
  exact Rt [] E E (Ug [] 0 hR)

theorem recyclingref23_candidate_fn  {stops1 : (List Int)} {d1 : Int} {k1 : Int} {unload1 : Bool} {A1 : Option Addr} {c1 : Nat} {res1 : (List Int)}
    (hl1 : stops1.length ≤ c1 ∧ c1 ≤ maxLen) (hA1 : Rds rInt μ L A1 stops1) (h : recyclingref23_candidate stops1 d1 k1 unload1 = some res1)
    (hR : ∀ (A0 : Option Addr) (c0 : Nat) (ch0 : Seg), Own rInt 3 μ (.slice A0 res1.length c0) res1 ch0 → R (.slice A0 res1.length c0) μ (ch0 :: L)) :
    Fn Try.prog 28 [.slice A1 stops1.length c1, .int .i64 d1, .int .i64 k1, .bool unload1] μ (L) R := by
  unfold recyclingref23_candidate at h
  refine FnS Try.func28 (by kernel_rfl) E Try.ntmps28 E E ?_
  obtain ⟨_, hs1, h⟩ := obind h
  refine G0 13 E (Rdo E E (R_slHiS E E E E E E hl1.1 hs1 ?_))
  have hA2 := Rds.pre hA1 hs1
  have hl2 := preLen hl1 hs1
  refine Q0 0 E (So E (O_append E (SemOk.pre (Upd.nilseg (Upd.done ?_)))))
  obtain ⟨_, hz1, h⟩ := obind h
  refine sem_appR (r := rInt) Tt_ok E E E E (by decide) E E 0 E (Own.nil (r := rInt) (e := 3)) E (Rds.push hA2) hz1 fun _ _ _ hO1 => Q0 6 E (So E (O_bsl (z := [.int .i64 0]) E E E E E E E (F_cons (cells' := [.int .i64 d1]) E E E E (F_nil (fun g1 => Q0 0 E (So E (O_append E ?_)))))))
  obtain ⟨_, hz2, h⟩ := obind h
  refine sem_appR (r := rInt) Tt_ok E E E E (by decide) E E 1 E hO1 E (Own.rds (Own.lit (r := rInt) (e := 3) (g := g1) (xs := [d1]) (cs := [.int .i64 d1]) (css := [[.int .i64 d1]]) E (All2.cons (E) (All2.nil)) E E) 0 E) hz2 fun A3 c3 ch2 hO2 => Q0 7 E ?_
  refine Cut h (fun f l o_ f_ μ_ l_ => ∃ (l5 : (List Int)) (A5 : Option Addr) (c5 : Nat) (ch4 : Seg), l5 = o_ ∧ SubFr ((9, .slice A5 l5.length c5) :: keepF [0, 2] f) f_ ∧ SegSub (ch4 :: selS [] 2 l) l_ ∧ Own rInt 3 μ_ (.slice A5 l5.length c5) l5 ch4 ∧ μ = μ_) ?_ ?_
  · intro _ h15374 h
    refine Br h15374 19 E E (fun hc1 h15374 => ?_) (fun hc1 h15374 => ?_)
    · refine G2 3 [19] [] [] E (So E (O_bsl (z := [.int .i64 0]) E E E E E E E (F_cons (cells' := [.int .i64 (-1)]) E E E E (F_nil (fun g2 => Q0 0 E (So E (O_append E ?_)))))))
      obtain ⟨_, hz3, h15374⟩ := obind h15374
      refine sem_appR (r := rInt) Tt_ok E E E E (by decide) E E 2 E hO2 E (Own.rds (Own.lit (r := rInt) (e := 3) (g := g2) (xs := [(-1)]) (cs := [.int .i64 (-1)]) (css := [[.int .i64 (-1)]]) E (All2.cons (E) (All2.nil)) E E) 0 E) hz3 fun A4 c4 ch3 hO3 => Q0 2 E ?_
      cases h15374
      exact Ce E ⟨_, A4, c4, ch3, rfl, fE E, sE [some 2] 3 E, (hO3), rfl⟩
    refine G2 2 [] [19] [] E ?_
    cases h15374
    exact Ce E ⟨_, A3, c3, ch2, rfl, fE E, sE [some 1] 2 E, (hO2), rfl⟩
  rintro _ _ _ _ h _ ⟨l5, A5, c5, ch4, rfl, hF15374, hS15374, hO4, rfl⟩
  obtain ⟨_, hs2, h⟩ := obind h
  refine Atn 1 hF15374 hS15374 E E (G0 5 E (Rdo E E (R_slLoS (r := rInt) E E E E E E E hl1.1 hs2 fun _ hAe1 => ?_)))
  have hA3 := Rds.sub hA1 hl1.1 hs2 hAe1
  have hl3 := subLen hl1 hs2
  refine Q0 0 E (So E (O_append E ?_))
  obtain ⟨_, hz4, h⟩ := obind h
  refine sem_appR (r := rInt) Tt_ok E E E E (by decide) E E 0 E hO4 E (Rds.push hA3) hz4 fun A7 c6 ch5 hO5 => Q0 9 E (IxA h (Own.rds hO5 0 E) E E fun _ _ _ _ hr1 hc2 _ h => ?_)
  obtain rfl := hr1
  refine Q3 3 [] [] [64] (Z1 hc2) E ?_
  refine Cut h (fun f l o_ f_ μ_ l_ => ∃ (l9 : (List Int)) (A9 : Option Addr) (c8 : Nat) (ch7 : Seg), l9 = o_ ∧ SubFr ((9, .slice A9 l9.length c8) :: []) f_ ∧ SegSub (ch7 :: selS [] 1 l) l_ ∧ Own rInt 3 μ_ (.slice A9 l9.length c8) l9 ch7 ∧ μ = μ_) ?_ ?_
  · intro _ h15380 h
    refine Br h15380 34 E E (fun hc3 h15380 => ?_) (fun hc3 h15380 => ?_)
    · refine G2 3 [34] [] [] E (So E (O_bsl (z := [.int .i64 0]) E E E E E E E (F_cons (cells' := [.int .i64 (-1)]) E E E E (F_nil (fun g3 => Q0 0 E (So E (O_append E ?_)))))))
      obtain ⟨_, hz5, h15380⟩ := obind h15380
      refine sem_appR (r := rInt) Tt_ok E E E E (by decide) E E 1 E hO5 E (Own.rds (Own.lit (r := rInt) (e := 3) (g := g3) (xs := [(-1)]) (cs := [.int .i64 (-1)]) (css := [[.int .i64 (-1)]]) E (All2.cons (E) (All2.nil)) E E) 0 E) hz5 fun A8 c7 ch6 hO6 => Q0 2 E ?_
      cases h15380
      exact Ce E ⟨_, A8, c7, ch6, rfl, fE E, sE [some 1] 2 E, (hO6), rfl⟩
    refine G2 2 [] [34] [] E ?_
    cases h15380
    exact Ce E ⟨_, A7, c6, ch5, rfl, fE E, sE [some 0] 1 E, (hO5), rfl⟩
  rintro _ _ _ _ h _ ⟨l9, A9, c8, ch7, rfl, hF15380, hS15380, hO7, rfl⟩
  refine Atn 1 hF15380 hS15380 E E (G0 5 E ?_)
  cases h
  exact Rt [] E E (Ug [[0]] 1 (hR A9 c8 ch7 hO7))

theorem recyclingref20_Carries_fn  {v1 : T_api_Vehicle} {kind1 : Int}  {res1 : Bool}
     (h : recyclingref20_Carries v1 kind1 = some res1)
    (hR : R (.bool res1) μ (L)) :
    Fn Try.prog 76 [.agg #[.string v1.ID, .int .i64 v1.Depot, .int .i64 v1.Shift.From, .int .i64 v1.Shift.To, .int .i64 v1.Grams, .int .i64 v1.Kinds], .int .i64 kind1] μ (L) R := by
  unfold recyclingref20_Carries at h
  refine FnS Try.func76 (by kernel_rfl) E Try.ntmps76 E E ?_
  refine G0 2 E (Al E fun _ => Q0 4 E ?_)
  refine Cut h (fun f l o_ f_ μ_ l_ => ∃ (v2 : Bool), v2 = o_ ∧ SubFr ((10, .bool v2) :: keepF [1, 2] f) f_ ∧ SegSub l l_ ∧ μ = μ_) ?_ ?_
  · intro _ h15522 h
    refine G0 4 E ?_
    refine Br h15522 7 E E (fun hc1 h15522 => ?_) (fun hc1 h15522 => ?_)
    · refine G2 4 [7] [] [] E ?_
      cases h15522
      exact Ce E ⟨_, rfl, fE E, sE [some 0] 1 E, rfl⟩
    refine G2 4 [] [7] [] E ?_
    cases h15522
    exact Ce E ⟨_, rfl, fE E, sE [some 0] 1 E, rfl⟩
  rintro _ _ _ _ h _ ⟨v2, rfl, hF15522, hS15522, rfl⟩
  refine Atn 1 hF15522 hS15522 E E ?_
  refine Br h 10 E E (fun hc2 h => ?_) (fun hc2 h => ?_)
  · refine G2 5 [10] [] [] E ?_
    cases h
    exact Rt [] E E (Ug [] 1 hR)
  refine G2 8 [] [10] [0] E (Rdo E E ?_)
  obtain ⟨_, hg1, h⟩ := obind h
  refine R_shrD E E E (guardO_some hg1) (Q1 4 [0] E ?_)
  cases h
  exact Rt [] E E (Ug [] 1 hR)

theorem recyclingref22_right_fn  {p1 : T_api_Problem} {v1 : T_api_Vehicle} {stops1 : (List Int)} {i1 : Int} {A1 : Option Addr} {c1 : Nat} {A2 : Option Addr} {c2 : Nat} {A3 : Option Addr} {c3 : Nat} {A4 : Option Addr} {c4 : Nat} {res1 : Int}
    (hl1 : p1.Road.Edges.length ≤ c1 ∧ c1 ≤ maxLen) (hA1 : ArrR r_api_Edge μ A1 p1.Road.Edges) (hl2 : p1.Vehicles.length ≤ c2 ∧ c2 ≤ maxLen) (hA2 : ArrR r_api_Vehicle μ A2 p1.Vehicles) (hl3 : p1.Demands.length ≤ c3 ∧ c3 ≤ maxLen) (hA3 : ArrR r_api_Demand μ A3 p1.Demands) (hl4 : stops1.length ≤ c4 ∧ c4 ≤ maxLen) (hA4 : Rds rInt μ L A4 stops1) (h : recyclingref22_right p1 v1 stops1 i1 = some res1)
    (hR : R (.int .i64 res1) μ (L)) :
    Fn Try.prog 60 [.agg #[.int .i64 p1.Road.Nodes, .slice A1 p1.Road.Edges.length c1, .slice A2 p1.Vehicles.length c2, .slice A3 p1.Demands.length c3, .int .i64 p1.Unload, .int .i64 p1.UnloadSecs], .agg #[.string v1.ID, .int .i64 v1.Depot, .int .i64 v1.Shift.From, .int .i64 v1.Shift.To, .int .i64 v1.Grams, .int .i64 v1.Kinds], .slice A4 stops1.length c4, .int .i64 i1] μ (L) R := by
  unfold recyclingref22_right at h
  refine FnS Try.func60 (by kernel_rfl) E Try.ntmps60 E E ?_
  refine G0 2 E (Al E fun _ => Q0 0 E (Al E fun _ => Q0 6 E (Ix h hA4 E E fun _ _ _ _ hr1 hc1 _ h => ?_)))
  obtain rfl := hr1
  refine Q3 9 [] [] [64] (Z1 (hc1.push.push)) E ?_
  refine Br h 16 E E (fun hc2 h => ?_) (fun hc2 h => ?_)
  · refine G2 5 [16] [] [] E ?_
    cases h
    exact Rt [] E E (Ug [] 2 hR)
  refine G2 4 [] [16] [] E ?_
  refine Cut h (fun f l o_ f_ μ_ l_ => ∃ (v2 : Bool), v2 = o_ ∧ SubFr ((25, .bool v2) :: keepF [2, 3, 4, 5, 9] f) f_ ∧ SegSub (selS [some 1, some 0] 2 l) l_ ∧ μ = μ_) ?_ ?_
  · intro _ h15497 h
    refine G0 4 E ?_
    refine Br h15497 19 E E (fun hc3 h15497 => ?_) (fun hc3 h15497 => ?_)
    · refine G2 7 [19] [] [] E ?_
      cases h15497
      exact Ce E ⟨_, rfl, fE E, sE [some 1, some 0] 2 E, rfl⟩
    refine G2 7 [] [19] [1] E ?_
    cases h15497
    exact Ce E ⟨_, rfl, fE E, sE [some 1, some 0] 2 E, rfl⟩
  rintro _ _ _ _ h _ ⟨v2, rfl, hF15497, hS15497, rfl⟩
  refine Atn 2 hF15497 hS15497 E E ?_
  refine Br h 25 E E (fun hc4 h => ?_) (fun hc4 h => ?_)
  · refine G2 5 [25] [] [] E ?_
    cases h
    exact Rt [] E E (Ug [] 2 hR)
  refine G2 7 [] [25] [] E ?_
  refine Cut h (fun f l o_ f_ μ_ l_ => (.inl ()) = o_ ∧ SubFr (keepF [4, 5, 9] f) f_ ∧ SegSub l l_ ∧ μ = μ_) ?_ ?_
  · intro _ h15502 h
    refine Lp h15502 (fun f l (k1 : Int) f_ μ_ l_ => SubFr ((10, .int .i64 k1) :: keepF [2, 3, 4, 5, 9] f) f_ ∧ SegSub l l_ ∧ μ = μ_) ⟨fE E, sE [some 0, some 1] 2 E, E⟩ ?_
    rintro k1 _ _ _ _ _ ⟨hF15510, hS15510, rfl⟩ hb15510 hq15510
    unfold recyclingref22_right_l1 at hb15510
    refine Atn 2 hF15510 hS15510 E E (G0 7 E ?_)
    refine Br hb15510 28 E E (fun hc5 hb15510 => ?_) (fun hc5 hb15510 => ?_)
    · refine G2 8 [28] [] [] E (Ix hb15510 hA4 E E fun _ _ _ _ hr2 hc6 _ hb15510 => ?_)
      obtain rfl := hr2
      refine Q3 4 [] [] [64] (Z1 (hc6.push.push)) E ?_
      refine Br hb15510 36 E E (fun hc7 hb15510 => ?_) (fun hc7 hb15510 => ?_)
      · refine G2 5 [36] [] [] E ?_
        cases hb15510
        have hq_ := hq15510 _ E
        subst hq_
        replace h := osum_r h
        cases h
        exact Rt [] E E (Ug [] 2 hR)
      refine G2 8 [] [36] [] E ?_
      cases hb15510
      exact Ce E ⟨_, rfl, fE E, sE [some 0, some 1] 2 E, rfl⟩
    refine G2 2 [] [28] [] E ?_
    cases hb15510
    have hq_ := hq15510 _ E
    subst hq_
    exact Ce E ⟨rfl, fE E, sE [some 0, some 1] 2 E, rfl⟩
  rintro _ _ _ _ h _ ⟨rfl, hF15502, hS15502, rfl⟩
  replace h := osum_l h
  refine Atn 2 hF15502 hS15502 E E (G0 2 E (Dr _ Kept.refl [(true, 0), (true, 1), (true, 2), (true, 3), (true, 4), (true, 5), (true, 6), (false, 7), (true, 8)] (by kernel_rfl) (G1 4 [1, 0] E (Ix h (ArrR.rds hA3 L) E E fun _ _ _ _ hr3 hc8 _ h => ?_))))
  obtain rfl := hr3
  refine Q3 2 [] [] [66] (Z1 (hc8.push.push)) E (Cl E ?_)
  obtain ⟨_, hx4, h⟩ := obind h
  refine recyclingref20_Carries_fn  hx4 (?_)
  refine ⟨Kept.refl, ?_⟩
  refine Q0 2 E ?_
  refine Br h 45 E E (fun hc9 h => ?_) (fun hc9 h => ?_)
  · refine G2 5 [45] [] [] E ?_
    cases h
    exact Rt [] E E (Ug [] 2 hR)
  refine G2 6 [] [45] [] E ?_
  cases h
  exact Rt [] E E (Ug [] 2 hR)

theorem recyclingref19_node_fn  {r1 : T_api_Road} {n1 : Int} {A1 : Option Addr} {c1 : Nat} {res1 : Bool}
    (hl1 : r1.Edges.length ≤ c1 ∧ c1 ≤ maxLen) (hA1 : ArrR r_api_Edge μ A1 r1.Edges) (h : recyclingref19_node r1 n1 = some res1)
    (hR : R (.bool res1) μ (L)) :
    Fn Try.prog 77 [.agg #[.int .i64 r1.Nodes, .slice A1 r1.Edges.length c1], .int .i64 n1] μ (L) R := by
  unfold recyclingref19_node at h
  refine FnS Try.func77 (by kernel_rfl) E Try.ntmps77 E E ?_
  refine G0 2 E (Al E fun _ => Q0 3 E ?_)
  refine Cut h (fun f l o_ f_ μ_ l_ => ∃ (v1 : Bool), v1 = o_ ∧ SubFr ((4, .bool v1) :: []) f_ ∧ SegSub (selS [] 1 l) l_ ∧ μ = μ_) ?_ ?_
  · intro _ h15560 h
    refine G0 4 E ?_
    refine Br h15560 7 E E (fun hc1 h15560 => ?_) (fun hc1 h15560 => ?_)
    · refine G2 7 [7] [] [0] E ?_
      cases h15560
      exact Ce E ⟨_, rfl, fE E, sE [] 1 E, rfl⟩
    refine G2 7 [] [7] [] E ?_
    cases h15560
    exact Ce E ⟨_, rfl, fE E, sE [] 1 E, rfl⟩
  rintro _ _ _ _ h _ ⟨v1, rfl, hF15560, hS15560, rfl⟩
  refine Atn 0 hF15560 hS15560 E E ?_
  cases h
  exact Rt [] E E (Ug [] 0 hR)

theorem recyclingref19_Along_fn  {a1 : T_api_Leg} {b1 : T_api_Leg}  {res1 : T_api_Leg}
     (h : recyclingref19_Along a1 b1 = some res1)
    (hR : R (.agg #[.int .i64 res1.Secs, .int .i64 res1.Meters]) μ (L)) :
    Fn Try.prog 78 [.agg #[.int .i64 a1.Secs, .int .i64 a1.Meters], .agg #[.int .i64 b1.Secs, .int .i64 b1.Meters]] μ (L) R := by
  unfold recyclingref19_Along at h
  refine FnS Try.func78 (by kernel_rfl) E Try.ntmps78 E E ?_
  refine G0 2 E (Al E fun _ => Q0 0 E (Al E fun _ => Q0 0 E (Al E fun _ => Q1 16 [2, 1, 2, 1, 0] E ?_)))
  cases h
  exact Rt [0] E E (Ug [] 3 hR)

theorem recyclingref19_Better_fn  {a1 : T_api_Leg} {b1 : T_api_Leg}  {res1 : Bool}
     (h : recyclingref19_Better a1 b1 = some res1)
    (hR : R (.bool res1) μ (L)) :
    Fn Try.prog 79 [.agg #[.int .i64 a1.Secs, .int .i64 a1.Meters], .agg #[.int .i64 b1.Secs, .int .i64 b1.Meters]] μ (L) R := by
  unfold recyclingref19_Better at h
  refine FnS Try.func79 (by kernel_rfl) E Try.ntmps79 E E ?_
  refine G0 2 E (Al E fun _ => Q0 0 E (Al E fun _ => Q0 4 E ?_))
  refine Cut h (fun f l o_ f_ μ_ l_ => ∃ (v1 : Bool), v1 = o_ ∧ SubFr ((12, .bool v1) :: keepF [2, 3] f) f_ ∧ SegSub (selS [some 1, some 0] 2 l) l_ ∧ μ = μ_) ?_ ?_
  · intro _ h15631 h
    refine G1 5 [1] E ?_
    refine Br h15631 8 E E (fun hc1 h15631 => ?_) (fun hc1 h15631 => ?_)
    · refine G2 5 [8] [] [] E ?_
      cases h15631
      exact Ce E ⟨_, rfl, fE E, sE [some 1, some 0] 2 E, rfl⟩
    refine G2 5 [] [8] [0] E ?_
    cases h15631
    exact Ce E ⟨_, rfl, fE E, sE [some 1, some 0] 2 E, rfl⟩
  rintro _ _ _ _ h _ ⟨v1, rfl, hF15631, hS15631, rfl⟩
  refine Atn 2 hF15631 hS15631 E E ?_
  refine Br h 12 E E (fun hc2 h => ?_) (fun hc2 h => ?_)
  · refine G2 8 [12] [] [0] E ?_
    cases h
    exact Rt [] E E (Ug [] 2 hR)
  refine G2 3 [] [12] [] E ?_
  refine Cut h (fun f l o_ f_ μ_ l_ => ∃ (v2 : Bool), v2 = o_ ∧ SubFr ((4, .bool v2) :: []) f_ ∧ SegSub (selS [] 2 l) l_ ∧ μ = μ_) ?_ ?_
  · intro _ h15636 h
    refine G1 7 [0, 1] E ?_
    refine Br h15636 21 E E (fun hc3 h15636 => ?_) (fun hc3 h15636 => ?_)
    · refine G2 15 [21] [] [] E ?_
      cases h15636
      exact Ce E ⟨_, rfl, fE E, sE [] 2 E, rfl⟩
    refine G2 6 [] [21] [0, 1] E ?_
    refine Br h15636 27 E E (fun hc4 h15636 => ?_) (fun hc4 h15636 => ?_)
    · refine G2 9 [27] [21] [0, 1] E ?_
      cases h15636
      exact Ce E ⟨_, rfl, fE E, sE [] 2 E, rfl⟩
    refine G2 9 [] [21, 27] [] E ?_
    cases h15636
    exact Ce E ⟨_, rfl, fE E, sE [] 2 E, rfl⟩
  rintro _ _ _ _ h _ ⟨v2, rfl, hF15636, hS15636, rfl⟩
  refine Atn 0 hF15636 hS15636 E E ?_
  cases h
  exact Rt [] E E (Ug [] 0 hR)

theorem recyclingref19_Legs_fn  {r1 : T_api_Road} {f_from1 : Int} {A1 : Option Addr} {c1 : Nat} {res1 : (List T_api_Leg)} {res2 : Int}
    (hl1 : r1.Edges.length ≤ c1 ∧ c1 ≤ maxLen) (hA1 : ArrR r_api_Edge μ A1 r1.Edges) (h : recyclingref19_Legs r1 f_from1 = some (res1, res2))
    (hR : ∀ (A0 : Option Addr) (c0 : Nat) (ch0 : Seg), Own r_api_Leg 93 μ (.slice A0 res1.length c0) res1 ch0 → R (.tuple #[.slice A0 res1.length c0, .int .i64 res2]) μ (ch0 :: L)) :
    Fn Try.prog 63 [.agg #[.int .i64 r1.Nodes, .slice A1 r1.Edges.length c1], .int .i64 f_from1] μ (L) R := by
  unfold recyclingref19_Legs at h
  refine FnS Try.func63 (by kernel_rfl) E Try.ntmps63 E E ?_
  refine G0 2 E (Al E fun g1 => Q1 7 [0] E (Cl E ?_))
  obtain ⟨_, hx1, h⟩ := obind h
  refine recyclingref19_Check_fn hl1 hA1 hx1 ((Q0 7 E ?_))
  refine Br h 16 E E (fun hc1 h => ?_) (fun hc1 h => ?_)
  · refine G2 7 [16] [] [] E ?_
    cases h
    exact Rt [] E E (Ug [[]] 1 (hR none 0 [] Own.nil))
  refine G2 7 [] [16] [0] E (Cl E ?_)
  obtain ⟨_, hx2, h⟩ := obind h
  refine recyclingref19_node_fn hl1 hA1 hx2 ((Q0 2 E ?_))
  refine Br h 21 E E (fun hc2 h => ?_) (fun hc2 h => ?_)
  · refine G2 6 [21] [] [] E ?_
    cases h
    exact Rt [] E E (Ug [[]] 1 (hR none 0 [] Own.nil))
  refine G2 6 [] [21] [0] E (So E (O_mksl E E ?_))
  obtain ⟨_, hn1, h⟩ := obind h
  refine sem_mkO (r := r_api_Leg) (z := (T_api_Leg.mk 0 0)) (zc := [.int .i64 0, .int .i64 0]) Tt_ok E E E E E (E) E hn1 fun A2 c2 ch1 hO1 => Q0 9 E ?_
  refine Cut h (fun f l o_ f_ μ_ l_ => ∃ (out2 : (List T_api_Leg)) (A4 : Option Addr) (c4 : Nat) (ch4 : Seg), out2 = o_ ∧ SubFr ((7, .slice A4 out2.length c4) :: keepF [1, 2] f) f_ ∧ SegSub ([(g1, .cells #[.int .i64 r1.Nodes, .slice A1 r1.Edges.length c1] 24 (0, 0))] :: ch4 :: selS [] 2 l) l_ ∧ Own r_api_Leg 93 μ_ (.slice A4 out2.length c4) out2 ch4 ∧ μ = μ_) ?_ ?_
  · intro _ h15564 h
    refine Lp h15564 (fun f l (j_ : (List T_api_Leg) × Int) f_ μ_ l_ => ounP j_ fun out1 v1 => ∃ (A3 : Option Addr) (c3 : Nat) (ch2 : Seg), SubFr ((7, .slice A3 out1.length c3) :: (27, .int .i64 v1) :: keepF [1, 2, 26] f) f_ ∧ SegSub ([(g1, .cells #[.int .i64 r1.Nodes, .slice A1 r1.Edges.length c1] 24 (0, 0))] :: ch2 :: selS [] 2 l) l_ ∧ Own r_api_Leg 93 μ_ (.slice A3 out1.length c3) out1 ch2 ∧ μ = μ_) ⟨A2, c2, ch1, fE E, sE [some 1, some 0] 2 E, (hO1), E⟩ ?_
    rintro ⟨out1, v1⟩ _ _ _ _ _ ⟨A3, c3, ch2, hF15571, hS15571, hO2, rfl⟩ hb15571 hq15571
    unfold recyclingref19_Legs_l1 at hb15571
    replace hb15571 := oun_mk hb15571
    refine Atn 2 hF15571 hS15571 E E (G0 5 E ?_)
    refine Br hb15571 28 E E (fun hc3 hb15571 => ?_) (fun hc3 hb15571 => ?_)
    · refine G2 12 [28] [] [] E (IxA hb15571 (Own.rds hO2 1 E) E E fun x1 a1 _ hx3 hr1 _ hA2 hb15571 => ?_)
      obtain rfl := hr1
      refine Q0 1 E (So E (O_store (vs := [.int .i64 (-1)]) E E E E E E ?_))
      rw [← Addr.add_zero' ((a1.add (v1.toNat * 2)))]
      refine Own.store (μ := μ) (r := r_api_Leg) (x' := (T_api_Leg.mk (-1) x1.Meters)) (o := 0) (sz := 2) 1 rfl hO2 hA2 hx3 rfl rfl (by rintro _ rfl; rfl) fun ch3 hO3 => ?_
      rw [← length_setI out1 v1 (T_api_Leg.mk (-1) x1.Meters)] at hO3 ⊢
      refine Q0 6 E ?_
      cases hb15571
      exact Ce E ⟨_, rfl, A3, c3, ch3, fE E, sE [some 0, some 1] 2 E, (hO3), rfl⟩
    refine G2 2 [] [28] [] E ?_
    cases hb15571
    have hq_ := hq15571 _ E
    subst hq_
    exact Ce E ⟨_, A3, c3, ch2, rfl, fE E, sE [some 0, some 1] 2 E, (hO2), rfl⟩
  rintro _ _ _ _ h _ ⟨out2, A4, c4, ch4, rfl, hF15564, hS15564, hO4, rfl⟩
  refine Atn 2 hF15564 hS15564 E E (G0 4 E (IxA h (Own.rds hO4 1 E) E E fun x2 a2 _ hx4 hr2 _ hA3 h => ?_))
  obtain rfl := hr2
  refine Q0 1 E (So E (O_store (vs := [.int .i64 0]) E E E E E E ?_))
  rw [← Addr.add_zero' ((a2.add (f_from1.toNat * 2)))]
  refine Own.store (μ := μ) (r := r_api_Leg) (x' := (T_api_Leg.mk 0 x2.Meters)) (o := 0) (sz := 2) 1 rfl hO4 hA3 hx4 rfl rfl (by rintro _ rfl; rfl) fun ch5 hO5 => ?_
  rw [← length_setI out2 f_from1 (T_api_Leg.mk 0 x2.Meters)] at hO5 ⊢
  refine Q0 6 E ?_
  refine Cut h (fun f l o_ f_ μ_ l_ => ∃ (out8 : (List T_api_Leg)) (A10 : Option Addr) (c10 : Nat) (ch12 : Seg), out8 = o_ ∧ SubFr ((7, .slice A10 out8.length c10) :: []) f_ ∧ SegSub (ch12 :: selS [] 2 l) l_ ∧ Own r_api_Leg 93 μ_ (.slice A10 out8.length c10) out8 ch12 ∧ μ = μ_) ?_ ?_
  · intro _ h15583 h
    refine Lp h15583 (fun f l (j_ : (List T_api_Leg) × Int) f_ μ_ l_ => ounP j_ fun out3 n1 => ∃ (A5 : Option Addr) (c5 : Nat) (ch6 : Seg), SubFr ((7, .slice A5 out3.length c5) :: (9, .int .i64 n1) :: keepF [2] f) f_ ∧ SegSub ([(g1, .cells #[.int .i64 r1.Nodes, .slice A1 r1.Edges.length c1] 24 (0, 0))] :: ch6 :: selS [] 2 l) l_ ∧ Own r_api_Leg 93 μ_ (.slice A5 out3.length c5) out3 ch6 ∧ μ = μ_) ⟨A4, c4, ch5, fE E, sE [some 0, some 1] 2 E, (hO5), E⟩ ?_
    rintro ⟨out3, n1⟩ _ _ _ _ _ ⟨A5, c5, ch6, hF15693, hS15693, hO6, rfl⟩ hb15693 hq15693
    unfold recyclingref19_Legs_l3 at hb15693
    replace hb15693 := oun_mk hb15693
    refine Atn 2 hF15693 hS15693 E E (G1 8 [0] E ?_)
    refine Br hb15693 42 E E (fun hc6 hb15693 => ?_) (fun hc6 hb15693 => ?_)
    · refine G2 3 [42] [] [] E ?_
      refine Cut hb15693 (fun f l o_ f_ μ_ l_ => ∃ (out7 : (List T_api_Leg)) (A9 : Option Addr) (c9 : Nat) (ch11 : Seg), out7 = o_ ∧ SubFr ((7, .slice A9 out7.length c9) :: keepF [2, 9] f) f_ ∧ SegSub ([(g1, .cells #[.int .i64 r1.Nodes, .slice A1 r1.Edges.length c1] 24 (0, 0))] :: ch11 :: selS [] 2 l) l_ ∧ Own r_api_Leg 93 μ_ (.slice A9 out7.length c9) out7 ch11 ∧ μ = μ_) ?_ ?_
      · intro _ h15698 hb15693
        refine G1 8 [0] E ?_
        refine Cut h15698 (fun f l o_ f_ μ_ l_ => ∃ (out6 : (List T_api_Leg)) (A8 : Option Addr) (c8 : Nat) (ch10 : Seg), out6 = o_ ∧ SubFr ((7, .slice A8 out6.length c8) :: keepF [2, 9] f) f_ ∧ SegSub ([(g1, .cells #[.int .i64 r1.Nodes, .slice A1 r1.Edges.length c1] 24 (0, 0))] :: ch10 :: selS [] 2 l) l_ ∧ Own r_api_Leg 93 μ_ (.slice A8 out6.length c8) out6 ch10 ∧ μ = μ_) ?_ ?_
        · intro _ h15699 h15698
          refine Lp h15699 (fun f l (j_ : (List T_api_Leg) × Int) f_ μ_ l_ => ounP j_ fun out4 v2 => ∃ (A6 : Option Addr) (c6 : Nat) (ch7 : Seg), SubFr ((7, .slice A6 out4.length c6) :: (48, .int .i64 v2) :: keepF [2, 9, 46, 47] f) f_ ∧ SegSub ([(g1, .cells #[.int .i64 r1.Nodes, .slice A1 r1.Edges.length c1] 24 (0, 0))] :: ch7 :: selS [] 2 l) l_ ∧ Own r_api_Leg 93 μ_ (.slice A6 out4.length c6) out4 ch7 ∧ μ = μ_) ⟨A5, c5, ch6, fE E, sE [some 0, some 1] 2 E, (hO6), E⟩ ?_
          rintro ⟨out4, v2⟩ _ _ _ _ _ ⟨A6, c6, ch7, hF15742, hS15742, hO7, rfl⟩ hb15742 hq15742
          unfold recyclingref19_Legs_l2 at hb15742
          replace hb15742 := oun_mk hb15742
          refine Atn 2 hF15742 hS15742 E E (G0 5 E ?_)
          refine Br hb15742 49 E E (fun hc7 hb15742 => ?_) (fun hc7 hb15742 => ?_)
          · refine G2 3 [49] [] [] E ?_
            refine Cut hb15742 (fun f l o_ f_ μ_ l_ => ∃ (out5 : (List T_api_Leg)) (A7 : Option Addr) (c7 : Nat) (ch9 : Seg), out5 = o_ ∧ SubFr ((7, .slice A7 out5.length c7) :: keepF [2, 9, 46, 47, 48] f) f_ ∧ SegSub ([(g1, .cells #[.int .i64 r1.Nodes, .slice A1 r1.Edges.length c1] 24 (0, 0))] :: ch9 :: selS [] 2 l) l_ ∧ Own r_api_Leg 93 μ_ (.slice A7 out5.length c7) out5 ch9 ∧ μ = μ_) ?_ ?_
            · intro _ h15747 hb15742
              refine G0 3 E (Ix h15747 (ArrR.rds hA1 L) E E fun x3 _ _ _ hr3 hc8 _ h15747 => ?_)
              obtain rfl := hr3
              refine Q3 1 [] [] [64] (Z1 (hc8.push.push)) E (Al E fun g2 => Q1 7 [0, 0] E (IxA h15747 (Own.rds hO7 2 E) E E fun _ _ _ _ hr4 hc9 _ h15747 => ?_))
              obtain rfl := hr4
              refine Q3 4 [] [] [64] (Z1 hc9) E ?_
              refine Br h15747 58 E E (fun hc10 h15747 => ?_) (fun hc10 h15747 => ?_)
              · refine G2 2 [58] [] [] E ?_
                refine Cut h15747 (fun f l o_ f_ μ_ l_ => ∃ (f1 : Int) (f2 : Int) (g4 : Nat), (f1, f2) = o_ ∧ SubFr ((12, .pointer (some ⟨g4, 0, none⟩)) :: keepF [2, 7, 9, 11, 46, 47, 48] f) f_ ∧ SegSub ([(g1, .cells #[.int .i64 r1.Nodes, .slice A1 r1.Edges.length c1] 24 (0, 0))] :: ch7 :: [(g2, .cells #[.int .i64 x3.From, .int .i64 x3.To, .int .i64 x3.Meters, .int .i64 x3.Secs] 81 (0, 0))] :: [(g4, .cells #[.int .i64 f1, .int .i64 f2] 93 (0, 0))] :: selS [] 3 l) l_ ∧ μ = μ_) ?_ ?_
                · intro _ h15757 h15747
                  refine Cd (WP.draw (id := 20) wide _ Kept.refl E (AN.run (fuel := 3) (listed' := [true, true, true, true, true, true, true, true, true, true, false, false, false]) Tt_ok [(true, 0), (true, 1), (true, 2), (true, 3), (true, 4), (true, 5), (true, 6), (true, 7), (true, 8), (true, 9)] (by kernel_rfl) (by kernel_rfl) E (PL_t E (R_move E (Pt E E (R_fa0 (o' := 0) E E E E E E (Pt E E (R_load E E E (Ex.mk _ (Cell.seg 0 0 E E E) (Pt E E ?_))))))))))
                  obtain ⟨x5, hx7, h15757⟩ := obind h15757
                  obtain ⟨_, _, hA6, hr5, _, hc11⟩ := Rds.getI (Own.rds (L := ([(g2, .cells #[.int .i64 x3.From, .int .i64 x3.To, .int .i64 x3.Meters, .int .i64 x3.Secs] 81 (0, 0))] :: [(g1, .cells #[.int .i64 r1.Nodes, .slice A1 r1.Edges.length c1] 24 (0, 0))] :: ch7 :: L)) hO7 2 rfl) hx7
                  obtain rfl := hr5
                  refine R_iaG E E E E E E ⟨(getI_lt hx7).1, (getI_lt hx7).2.1⟩ hA6 (Pt E E (R_loadA E E E E (Ex.mk [.int .i64 x5.Secs, .int .i64 x5.Meters] ⟨rfl, hc11⟩ (Pt E E (R_fa0 (o' := 3) E E E E E E (Pt E E (R_load E E E (Ex.mk _ (Cell.seg 0 0 E E E) (Pt E E (R_fa0 (o' := 2) E E E E E E (Pt E E (R_load E E E ?_))))))))))))
                  refine Ex.mk _ (Cell.seg 0 0 E E E) (Pt E E (R_build E E E E (F_cons (cells' := [.int .i64 x3.Secs, .int .i64 0]) E E E E (F_cons (cells' := [.int .i64 x3.Secs, .int .i64 x3.Meters]) E E E E (F_nil (P_some E (PL_nil ?_)))))))
                  refine FK_2 Tt_ok (a := 10) (b := 11) (by kernel_rfl) ?_ ?_
                  · refine FO_ E E (O_call (all := [.agg #[.int .i64 x5.Secs, .int .i64 x5.Meters], .agg #[.int .i64 x3.Secs, .int .i64 x3.Meters]]) E E E ?_)
                    obtain ⟨r4, hx8, h15757⟩ := obind h15757
                    refine recyclingref19_Along_fn  hx8 (?_)
                    refine ⟨Kept.refl, ?_⟩
                    refine P_some E (AN.run (fuel := 0) (listed' := [true, true, true, true, true, true, true, true, true, true, true, true, true]) Tt_ok [(false, 11), (false, 12)] (by kernel_rfl) (by kernel_rfl) E (PL_f E (O_alloc (cs := #[.int .i64 0, .int .i64 0]) E E (fun g3 => ?_))))
                    refine ⟨Kept.more (Kept.refl), ?_⟩
                    refine P_some E (PL_f E (O_store (vs := [.int .i64 r4.Secs, .int .i64 r4.Meters]) E E E E E E (ST_ (L' := ([(g3, .cells #[.int .i64 r4.Secs, .int .i64 r4.Meters] 93 (0, 0))] :: [(g2, .cells #[.int .i64 x3.From, .int .i64 x3.To, .int .i64 x3.Meters, .int .i64 x3.Secs] 81 (0, 0))] :: [(g1, .cells #[.int .i64 r1.Nodes, .slice A1 r1.Edges.length c1] 24 (0, 0))] :: ch7 :: L)) 0 0 E E E E ?_)))
                    refine ⟨Kept.more (Kept.refl), ?_⟩
                    refine P_none (PL_nil (AN.done0 (by kernel_rfl) ?_))
                    cases h15757
                    exact Ce E ⟨_, _, g3, rfl, fE E, sE [some 2, some 3, some 1, some 0] 4 E, rfl⟩
                  obtain ⟨r4, hx8, h15757⟩ := obind h15757
                  refine FO_ E E (O_alloc (cs := #[.int .i64 0, .int .i64 0]) E E (fun g3 => ?_))
                  refine ⟨Kept.more (Kept.refl), ?_⟩
                  refine P_some E (AN.run (fuel := 0) (listed' := [true, true, true, true, true, true, true, true, true, true, true, true, true]) Tt_ok [(false, 10), (false, 12)] (by kernel_rfl) (by kernel_rfl) E (PL_f E (O_call (all := [.agg #[.int .i64 x5.Secs, .int .i64 x5.Meters], .agg #[.int .i64 x3.Secs, .int .i64 x3.Meters]]) E E E (recyclingref19_Along_fn  hx8 (?_)))))
                  refine ⟨Kept.more (Kept.refl), ?_⟩
                  refine P_some E (PL_f E (O_store (vs := [.int .i64 r4.Secs, .int .i64 r4.Meters]) E E E E E E (ST_ (L' := ([(g3, .cells #[.int .i64 r4.Secs, .int .i64 r4.Meters] 93 (0, 0))] :: [(g2, .cells #[.int .i64 x3.From, .int .i64 x3.To, .int .i64 x3.Meters, .int .i64 x3.Secs] 81 (0, 0))] :: [(g1, .cells #[.int .i64 r1.Nodes, .slice A1 r1.Edges.length c1] 24 (0, 0))] :: ch7 :: L)) 0 0 E E E E ?_)))
                  refine ⟨Kept.more (Kept.refl), ?_⟩
                  refine P_none (PL_nil (AN.done0 (by kernel_rfl) ?_))
                  cases h15757
                  exact Ce E ⟨_, _, g3, rfl, fE E, sE [some 2, some 3, some 1, some 0] 4 E, rfl⟩
                rintro _ _ _ _ h15747 _ ⟨f1, f2, g4, rfl, hF15757, hS15757, rfl⟩
                replace h15747 := oun_mk h15747
                refine Atn 4 hF15757 hS15757 E E (G0 1 E (Dr _ Kept.refl [(true, 0), (true, 1), (true, 2), (true, 3), (true, 4), (true, 5), (false, 6)] (by kernel_rfl) (G1 4 [3, 2] E (Ix h15747 (Own.rds (L := ([(g1, .cells #[.int .i64 r1.Nodes, .slice A1 r1.Edges.length c1] 24 (0, 0))] :: ch7 :: [(g2, .cells #[.int .i64 x3.From, .int .i64 x3.To, .int .i64 x3.Meters, .int .i64 x3.Secs] 81 (0, 0))] :: [(g4, .cells #[.int .i64 f1, .int .i64 f2] 93 (0, 0))] :: L)) hO7 1 E) E E fun _ _ _ _ hr6 hc12 _ h15747 => ?_))))
                obtain rfl := hr6
                refine Q3 1 [] [] [64] (Z1 hc12) E (Cl E ?_)
                obtain ⟨_, hx10, h15747⟩ := obind h15747
                refine recyclingref19_Better_fn  hx10 (?_)
                refine ⟨Kept.refl, ?_⟩
                refine Q0 1 E ?_
                refine Br h15747 76 E E (fun hc13 h15747 => ?_) (fun hc13 h15747 => ?_)
                · refine G2 6 [76] [] [2, 3] E (IxA h15747 (Own.rds hO7 1 E) E E fun _ a7 _ hx11 hr7 _ hA8 h15747 => ?_)
                  obtain rfl := hr7
                  refine Q0 0 E (So E (O_store (vs := [.int .i64 f1, .int .i64 f2]) E E E E E E ?_))
                  rw [← Addr.add_zero' ((a7.add (x3.To.toNat * 2)))]
                  refine Own.store (μ := μ) (r := r_api_Leg) (x' := (T_api_Leg.mk f1 f2)) (o := 0) (sz := 2) 1 rfl hO7 hA8 hx11 rfl rfl (by rintro _ rfl; rfl) fun ch8 hO8 => ?_
                  rw [← length_setI out4 x3.To (T_api_Leg.mk f1 f2)] at hO8 ⊢
                  refine Q0 2 E ?_
                  cases h15747
                  exact Ce E ⟨_, A6, c6, ch8, rfl, fE E, sE [some 0, some 1] 4 E, (hO8), rfl⟩
                refine G2 3 [] [76] [] E ?_
                cases h15747
                exact Ce E ⟨_, A6, c6, ch7, rfl, fE E, sE [some 0, some 1] 4 E, (hO7), rfl⟩
              refine G2 3 [] [58] [] E ?_
              cases h15747
              exact Ce E ⟨_, A6, c6, ch7, rfl, fE E, sE [some 1, some 2] 3 E, (hO7), rfl⟩
            rintro _ _ _ _ hb15742 _ ⟨out5, A7, c7, ch9, rfl, hF15747, hS15747, hO9, rfl⟩
            refine Atn 2 hF15747 hS15747 E E (G0 4 E ?_)
            cases hb15742
            exact Ce E ⟨_, rfl, A7, c7, ch9, fE E, sE [some 0, some 1] 2 E, (hO9), rfl⟩
          refine G2 2 [] [49] [] E ?_
          cases hb15742
          have hq_ := hq15742 _ E
          subst hq_
          exact Ce E ⟨_, A6, c6, ch7, rfl, fE E, sE [some 0, some 1] 2 E, (hO7), rfl⟩
        rintro _ _ _ _ h15698 _ ⟨out6, A8, c8, ch10, rfl, hF15699, hS15699, hO10, rfl⟩
        refine G0 1 E ?_
        cases h15698
        exact Ce E ⟨_, A8, c8, ch10, rfl, hF15699.tr E, hS15699.tr (sE [some 0, some 1] 2 E), (hO10), rfl⟩
      rintro _ _ _ _ hb15693 _ ⟨out7, A9, c9, ch11, rfl, hF15698, hS15698, hO11, rfl⟩
      refine Atn 2 hF15698 hS15698 E E (G0 5 E ?_)
      cases hb15693
      exact Ce E ⟨_, rfl, A9, c9, ch11, fE E, sE [some 0, some 1] 2 E, (hO11), rfl⟩
    refine G2 2 [] [42] [] E ?_
    cases hb15693
    have hq_ := hq15693 _ E
    subst hq_
    exact Ce E ⟨_, A5, c5, ch6, rfl, fE E, sE [some 1] 2 E, (hO6), rfl⟩
  rintro _ _ _ _ h _ ⟨out8, A10, c10, ch12, rfl, hF15583, hS15583, hO12, rfl⟩
  refine Atn 1 hF15583 hS15583 E E (G0 6 E ?_)
  cases h
  exact Rt [] E E (Ug [[0]] 1 (hR A10 c10 ch12 hO12))

theorem recyclingref22_Leg_fn  {p1 : T_api_Problem} {f_from1 : Int} {f_to1 : Int} {A1 : Option Addr} {c1 : Nat} {A2 : Option Addr} {c2 : Nat} {A3 : Option Addr} {c3 : Nat} {res1 : T_api_Leg}
    (hl1 : p1.Road.Edges.length ≤ c1 ∧ c1 ≤ maxLen) (hA1 : ArrR r_api_Edge μ A1 p1.Road.Edges) (hl2 : p1.Vehicles.length ≤ c2 ∧ c2 ≤ maxLen) (hA2 : ArrR r_api_Vehicle μ A2 p1.Vehicles) (hl3 : p1.Demands.length ≤ c3 ∧ c3 ≤ maxLen) (hA3 : ArrR r_api_Demand μ A3 p1.Demands) (h : recyclingref22_Leg p1 f_from1 f_to1 = some res1)
    (hR : R (.agg #[.int .i64 res1.Secs, .int .i64 res1.Meters]) μ (L)) :
    Fn Try.prog 43 [.agg #[.int .i64 p1.Road.Nodes, .slice A1 p1.Road.Edges.length c1, .slice A2 p1.Vehicles.length c2, .slice A3 p1.Demands.length c3, .int .i64 p1.Unload, .int .i64 p1.UnloadSecs], .int .i64 f_from1, .int .i64 f_to1] μ (L) R := by
  unfold recyclingref22_Leg at h
  refine FnS Try.func43 (by kernel_rfl) E Try.ntmps43 E E ?_
  refine G0 2 E (Al E fun _ => Q0 0 E (Al E fun _ => Q1 6 [1] E (Cl E ?_)))
  obtain ⟨⟨_, _⟩, hx1, h⟩ := obind h
  replace h := oun_mk h
  refine recyclingref19_Legs_fn hl1 hA1 hx1 (fun _ _ _ hO1 => Q0 8 E ?_)
  refine Cut h (fun f l o_ f_ μ_ l_ => ∃ (v1 : Bool), v1 = o_ ∧ SubFr ((27, .bool v1) :: keepF [2, 6, 7] f) f_ ∧ SegSub (selS [some 1, some 0] 3 l) l_ ∧ μ = μ_) ?_ ?_
  · intro _ h15793 h
    refine G0 4 E ?_
    refine Br h15793 18 E E (fun hc1 h15793 => ?_) (fun hc1 h15793 => ?_)
    · refine G2 10 [18, 22] [] [] E ?_
      cases h15793
      exact Ce E ⟨_, rfl, fE E, sE [some 1, some 0] 3 E, rfl⟩
    refine G2 4 [] [18] [] E ?_
    refine Br h15793 22 E E (fun hc2 h15793 => ?_) (fun hc2 h15793 => ?_)
    · refine G2 6 [22] [] [] E ?_
      cases h15793
      exact Ce E ⟨_, rfl, fE E, sE [some 1, some 0] 3 E, rfl⟩
    refine G2 6 [] [22] [] E ?_
    cases h15793
    exact Ce E ⟨_, rfl, fE E, sE [some 1, some 0] 3 E, rfl⟩
  rintro _ _ _ _ h _ ⟨v1, rfl, hF15793, hS15793, rfl⟩
  refine Atn 2 hF15793 hS15793 E E ?_
  refine Br h 27 E E (fun hc3 h => ?_) (fun hc3 h => ?_)
  · refine G2 6 [27] [] [0] E ?_
    cases h
    exact Rt [0] E E (Ug [] 2 hR)
  refine G2 6 [] [27] [] E (IxA h (Own.rds hO1 1 E) E E fun _ _ _ _ hr1 hc4 _ h => ?_)
  obtain rfl := hr1
  refine Q3 3 [] [] [64, 0] (Z1 hc4) E ?_
  cases h
  exact Rt [0] E E (Ug [] 2 hR)

theorem recyclingref22_visit_fn  {p1 : T_api_Problem} {v1 : T_api_Vehicle} {x1 : T_api_Visit} {s1 : Int} {A1 : Option Addr} {c1 : Nat} {A2 : Option Addr} {c2 : Nat} {A3 : Option Addr} {c3 : Nat} {res1 : T_api_Visit} {res2 : Int}
    (hl1 : p1.Road.Edges.length ≤ c1 ∧ c1 ≤ maxLen) (hA1 : ArrR r_api_Edge μ A1 p1.Road.Edges) (hl2 : p1.Vehicles.length ≤ c2 ∧ c2 ≤ maxLen) (hA2 : ArrR r_api_Vehicle μ A2 p1.Vehicles) (hl3 : p1.Demands.length ≤ c3 ∧ c3 ≤ maxLen) (hA3 : ArrR r_api_Demand μ A3 p1.Demands) (h : recyclingref22_visit p1 v1 x1 s1 = some (res1, res2))
    (hR : R (.tuple #[.agg #[.int .i64 res1.Stop, .int .i64 res1.Node, .int .i64 res1.Arrive, .int .i64 res1.Start, .int .i64 res1.Leave, .int .i64 res1.Load], .int .i64 res2]) μ (L)) :
    Fn Try.prog 61 [.agg #[.int .i64 p1.Road.Nodes, .slice A1 p1.Road.Edges.length c1, .slice A2 p1.Vehicles.length c2, .slice A3 p1.Demands.length c3, .int .i64 p1.Unload, .int .i64 p1.UnloadSecs], .agg #[.string v1.ID, .int .i64 v1.Depot, .int .i64 v1.Shift.From, .int .i64 v1.Shift.To, .int .i64 v1.Grams, .int .i64 v1.Kinds], .agg #[.int .i64 x1.Stop, .int .i64 x1.Node, .int .i64 x1.Arrive, .int .i64 x1.Start, .int .i64 x1.Leave, .int .i64 x1.Load], .int .i64 s1] μ (L) R := by
  unfold recyclingref22_visit at h
  refine FnS Try.func61 (by kernel_rfl) E Try.ntmps61 E E ?_
  refine G0 2 E (Al E fun g1 => Q0 0 E (Al E fun g2 => Q0 0 E (Al E fun g3 => Q0 0 E (Al E fun g4 => Q1 8 [3] E (Al E fun g5 => Q1 8 [0] E ?_)))))
  refine Cut h (fun f l o_ f_ μ_ l_ => ∃ (f1 : Int), f1 = o_ ∧ SubFr (keepF [3, 4, 5, 6, 8, 10] f) f_ ∧ SegSub ([(g1, .cells #[.int .i64 p1.Road.Nodes, .slice A1 p1.Road.Edges.length c1, .slice A2 p1.Vehicles.length c2, .slice A3 p1.Demands.length c3, .int .i64 p1.Unload, .int .i64 p1.UnloadSecs] 28 (0, 0))] :: [(g2, .cells #[.string v1.ID, .int .i64 v1.Depot, .int .i64 v1.Shift.From, .int .i64 v1.Shift.To, .int .i64 v1.Grams, .int .i64 v1.Kinds] 55 (0, 0))] :: [(g3, .cells #[.int .i64 x1.Stop, .int .i64 x1.Node, .int .i64 x1.Arrive, .int .i64 x1.Start, .int .i64 x1.Leave, .int .i64 x1.Load] 91 (0, 0))] :: [(g4, .cells #[.int .i64 0, .int .i64 0, .int .i64 0, .int .i64 0, .int .i64 0, .int .i64 0] 91 (0, 0))] :: [(g5, .cells #[.int .i64 s1, .int .i64 f1, .int .i64 0, .int .i64 0, .int .i64 0, .int .i64 0] 91 (0, 0))] :: selS [] 5 l) l_ ∧ μ = μ_) ?_ ?_
  · intro _ h15535 h
    refine Br h15535 18 E E (fun hc1 h15535 => ?_) (fun hc1 h15535 => ?_)
    · refine G2 5 [18] [] [4] E (Ix h15535 (ArrR.rds hA3 L) E E fun _ _ _ _ hr1 hc2 _ h15535 => ?_)
      obtain rfl := hr1
      refine Q3 5 [] [] [65, 0] (Z1 (hc2.push.push.push.push.push)) E ?_
      cases h15535
      exact Ce E ⟨_, rfl, fE E, sE [some 4, some 3, some 2, some 1, some 0] 5 E, rfl⟩
    refine G2 2 [] [18] [] E ?_
    cases h15535
    exact Ce E ⟨_, rfl, fE E, sE [some 4, some 3, some 2, some 1, some 0] 5 E, rfl⟩
  rintro _ _ _ _ h _ ⟨f1, rfl, hF15535, hS15535, rfl⟩
  refine Atn 5 hF15535 hS15535 E E (G1 7 [0, 2, 4] E (Cl E ?_))
  obtain ⟨_, hx2, h⟩ := obind h
  refine recyclingref22_Leg_fn hl1 hA1 hl2 hA2 hl3 hA3 hx2 ((Q0 0 E (Al E fun _ => Q1 9 [0, 0] E ?_)))
  refine Br h 34 E E (fun hc3 h => ?_) (fun hc3 h => ?_)
  · refine G2 7 [34] [] [4] E ?_
    cases h
    exact Rt [4] E E (Ug [] 6 hR)
  refine G2 25 [] [34] [3, 0, 5, 5, 5] E ?_
  refine Br h 46 E E (fun hc4 h => ?_) (fun hc4 h => ?_)
  · refine G2 17 [46] [] [5, 1, 5, 5, 4] E ?_
    cases h
    exact Rt [4] E E (Ug [] 6 hR)
  refine G2 7 [] [46] [1] E (Ix h (ArrR.rds hA3 L) E E fun _ _ _ _ hr2 hc5 _ h => ?_)
  obtain rfl := hr2
  refine Q3 1 [] [] [64] (Z1 (hc5.push.push.push.push.push.push)) E (Al E fun _ => Q1 23 [0, 6, 0, 6, 6, 0] E ?_)
  refine Br h 71 E E (fun hc6 h => ?_) (fun hc6 h => ?_)
  · refine G2 7 [71] [] [5] E ?_
    cases h
    exact Rt [5] E E (Ug [] 7 hR)
  refine G2 31 [] [71] [6, 0, 6, 4, 0, 6, 6, 3] E ?_
  refine Br h 89 E E (fun hc7 h => ?_) (fun hc7 h => ?_)
  · refine G2 7 [89] [] [5] E ?_
    cases h
    exact Rt [5] E E (Ug [] 7 hR)
  refine G2 8 [] [89] [6, 5] E ?_
  cases h
  exact Rt [5] E E (Ug [] 7 hR)

theorem recyclingref22_home_fn  {p1 : T_api_Problem} {v1 : T_api_Vehicle} {x1 : T_api_Visit} {A1 : Option Addr} {c1 : Nat} {A2 : Option Addr} {c2 : Nat} {A3 : Option Addr} {c3 : Nat} {res1 : T_api_Visit} {res2 : Int}
    (hl1 : p1.Road.Edges.length ≤ c1 ∧ c1 ≤ maxLen) (hA1 : ArrR r_api_Edge μ A1 p1.Road.Edges) (hl2 : p1.Vehicles.length ≤ c2 ∧ c2 ≤ maxLen) (hA2 : ArrR r_api_Vehicle μ A2 p1.Vehicles) (hl3 : p1.Demands.length ≤ c3 ∧ c3 ≤ maxLen) (hA3 : ArrR r_api_Demand μ A3 p1.Demands) (h : recyclingref22_home p1 v1 x1 = some (res1, res2))
    (hR : R (.tuple #[.agg #[.int .i64 res1.Stop, .int .i64 res1.Node, .int .i64 res1.Arrive, .int .i64 res1.Start, .int .i64 res1.Leave, .int .i64 res1.Load], .int .i64 res2]) μ (L)) :
    Fn Try.prog 62 [.agg #[.int .i64 p1.Road.Nodes, .slice A1 p1.Road.Edges.length c1, .slice A2 p1.Vehicles.length c2, .slice A3 p1.Demands.length c3, .int .i64 p1.Unload, .int .i64 p1.UnloadSecs], .agg #[.string v1.ID, .int .i64 v1.Depot, .int .i64 v1.Shift.From, .int .i64 v1.Shift.To, .int .i64 v1.Grams, .int .i64 v1.Kinds], .agg #[.int .i64 x1.Stop, .int .i64 x1.Node, .int .i64 x1.Arrive, .int .i64 x1.Start, .int .i64 x1.Leave, .int .i64 x1.Load]] μ (L) R := by
  unfold recyclingref22_home at h
  refine FnS Try.func62 (by kernel_rfl) E Try.ntmps62 E E ?_
  refine G0 2 E (Al E fun _ => Q0 0 E (Al E fun _ => Q0 0 E (Al E fun _ => Q0 0 E (Al E fun _ => Q1 9 [3, 1, 2] E (Cl E ?_)))))
  obtain ⟨_, hx1, h⟩ := obind h
  refine recyclingref22_Leg_fn hl1 hA1 hl2 hA2 hl3 hA3 hx1 ((Q0 0 E (Al E fun _ => Q1 9 [0, 0] E ?_)))
  refine Br h 18 E E (fun hc1 h => ?_) (fun hc1 h => ?_)
  · refine G2 7 [18] [] [1] E ?_
    cases h
    exact Rt [1] E E (Ug [] 5 hR)
  refine G2 9 [] [18] [2] E ?_
  refine Br h 22 E E (fun hc2 h => ?_) (fun hc2 h => ?_)
  · refine G2 7 [22] [] [1] E ?_
    cases h
    exact Rt [1] E E (Ug [] 5 hR)
  refine G2 20 [] [22] [2, 0, 3] E ?_
  refine Br h 33 E E (fun hc3 h => ?_) (fun hc3 h => ?_)
  · refine G2 7 [33] [] [1] E ?_
    cases h
    exact Rt [1] E E (Ug [] 5 hR)
  refine G2 13 [] [33] [3, 1] E ?_
  cases h
  exact Rt [1] E E (Ug [] 5 hR)

theorem recyclingref22_Walk_fn  {p1 : T_api_Problem} {t1 : T_api_Tour} {A1 : Option Addr} {c1 : Nat} {A2 : Option Addr} {c2 : Nat} {A3 : Option Addr} {c3 : Nat} {A4 : Option Addr} {c4 : Nat} {res1 : (List T_api_Visit)} {res2 : Int} {res3 : Int}
    (hl1 : p1.Road.Edges.length ≤ c1 ∧ c1 ≤ maxLen) (hA1 : ArrR r_api_Edge μ A1 p1.Road.Edges) (hl2 : p1.Vehicles.length ≤ c2 ∧ c2 ≤ maxLen) (hA2 : ArrR r_api_Vehicle μ A2 p1.Vehicles) (hl3 : p1.Demands.length ≤ c3 ∧ c3 ≤ maxLen) (hA3 : ArrR r_api_Demand μ A3 p1.Demands) (hl4 : t1.Stops.length ≤ c4 ∧ c4 ≤ maxLen) (hA4 : ArrR rInt μ A4 t1.Stops) (h : recyclingref22_Walk p1 t1 = some (res1, res2, res3))
    (hR : ∀ (A0 : Option Addr) (c0 : Nat) (ch0 : Seg), Own r_api_Visit 91 μ (.slice A0 res1.length c0) res1 ch0 → R (.tuple #[.slice A0 res1.length c0, .int .i64 res2, .int .i64 res3]) μ (ch0 :: L)) :
    Fn Try.prog 42 [.agg #[.int .i64 p1.Road.Nodes, .slice A1 p1.Road.Edges.length c1, .slice A2 p1.Vehicles.length c2, .slice A3 p1.Demands.length c3, .int .i64 p1.Unload, .int .i64 p1.UnloadSecs], .agg #[.int .i64 t1.Vehicle, .slice A4 t1.Stops.length c4]] μ (L) R := by
  unfold recyclingref22_Walk at h
  refine FnS Try.func42 (by kernel_rfl) E Try.ntmps42 E E ?_
  refine G0 2 E (Al E fun g1 => Q0 0 E (Al E fun g2 => Q1 8 [1] E (Cl E ?_)))
  obtain ⟨_, hx1, h⟩ := obind h
  refine recyclingref22_Check_fn hl1 hA1 hl2 hA2 hl3 hA3 hx1 ((Q0 7 E ?_))
  refine Br h 18 E E (fun hc1 h => ?_) (fun hc1 h => ?_)
  · refine G2 8 [18] [] [] E ?_
    cases h
    exact Rt [] E E (Ug [[]] 2 (hR none 0 [] Own.nil))
  refine G2 4 [] [18] [] E ?_
  refine Cut h (fun f l o_ f_ μ_ l_ => ∃ (v1 : Bool), v1 = o_ ∧ SubFr ((30, .bool v1) :: keepF [2, 3] f) f_ ∧ SegSub (selS [some 1, some 0] 2 l) l_ ∧ μ = μ_) ?_ ?_
  · intro _ h15462 h
    refine G1 5 [0] E ?_
    refine Br h15462 23 E E (fun hc2 h15462 => ?_) (fun hc2 h15462 => ?_)
    · refine G2 8 [23] [] [] E ?_
      cases h15462
      exact Ce E ⟨_, rfl, fE E, sE [some 1, some 0] 2 E, rfl⟩
    refine G2 8 [] [23] [0, 1] E ?_
    cases h15462
    exact Ce E ⟨_, rfl, fE E, sE [some 1, some 0] 2 E, rfl⟩
  rintro _ _ _ _ h _ ⟨v1, rfl, hF15462, hS15462, rfl⟩
  refine Atn 2 hF15462 hS15462 E E ?_
  refine Br h 30 E E (fun hc3 h => ?_) (fun hc3 h => ?_)
  · refine G2 7 [30] [] [] E ?_
    cases h
    exact Rt [] E E (Ug [[]] 2 (hR none 0 [] Own.nil))
  refine G2 10 [] [30] [1] E ?_
  refine Br h 34 E E (fun hc4 h => ?_) (fun hc4 h => ?_)
  · refine G2 7 [34] [] [] E ?_
    cases h
    exact Rt [] E E (Ug [[]] 2 (hR none 0 [] Own.nil))
  refine G2 8 [] [34] [0, 1] E (Ix h (ArrR.rds hA2 L) E E fun x1 _ _ _ hr1 hc5 _ h => ?_)
  obtain rfl := hr1
  refine Q3 1 [] [] [64] (Z1 (hc5.push.push)) E (Al E fun g3 => Q1 10 [0, 0, 0] E (Al E fun g4 => Q1 14 [0, 3] E ?_))
  refine Cut h (fun f l o_ f_ μ_ l_ => ∃ (f13 : Int) (f14 : Int) (f15 : Int) (f16 : Int) (f17 : Int) (f18 : Int) (out2 : (List T_api_Visit)) (A7 : Option Addr) (c7 : Nat) (ch3 : Seg), (.inl (f13, f14, f15, f16, f17, f18, out2)) = o_ ∧ SubFr ((10, .slice A7 out2.length c7) :: keepF [2, 3, 8, 9] f) f_ ∧ SegSub ([(g1, .cells #[.int .i64 p1.Road.Nodes, .slice A1 p1.Road.Edges.length c1, .slice A2 p1.Vehicles.length c2, .slice A3 p1.Demands.length c3, .int .i64 p1.Unload, .int .i64 p1.UnloadSecs] 28 (0, 0))] :: [(g2, .cells #[.int .i64 t1.Vehicle, .slice A4 t1.Stops.length c4] 31 (0, 0))] :: [(g3, .cells #[.string x1.ID, .int .i64 x1.Depot, .int .i64 x1.Shift.From, .int .i64 x1.Shift.To, .int .i64 x1.Grams, .int .i64 x1.Kinds] 55 (0, 0))] :: [(g4, .cells #[.int .i64 f13, .int .i64 f14, .int .i64 f15, .int .i64 f16, .int .i64 f17, .int .i64 f18] 91 (0, 0))] :: ch3 :: selS [] 4 l) l_ ∧ Own r_api_Visit 91 μ_ (.slice A7 out2.length c7) out2 ch3 ∧ μ = μ_) ?_ ?_
  · intro _ h15477 h
    refine Lp h15477 (fun f l (j_ : Int × Int × Int × Int × Int × Int × (List T_api_Visit) × Int) f_ μ_ l_ => ounP j_ fun f1 j_ => ounP j_ fun f2 j_ => ounP j_ fun f3 j_ => ounP j_ fun f4 j_ => ounP j_ fun f5 j_ => ounP j_ fun f6 j_ => ounP j_ fun out1 v2 => ∃ (A5 : Option Addr) (c5 : Nat) (ch1 : Seg), SubFr ((10, .slice A5 out1.length c5) :: (50, .int .i64 v2) :: keepF [2, 3, 8, 9, 48, 49] f) f_ ∧ SegSub ([(g1, .cells #[.int .i64 p1.Road.Nodes, .slice A1 p1.Road.Edges.length c1, .slice A2 p1.Vehicles.length c2, .slice A3 p1.Demands.length c3, .int .i64 p1.Unload, .int .i64 p1.UnloadSecs] 28 (0, 0))] :: [(g2, .cells #[.int .i64 t1.Vehicle, .slice A4 t1.Stops.length c4] 31 (0, 0))] :: [(g3, .cells #[.string x1.ID, .int .i64 x1.Depot, .int .i64 x1.Shift.From, .int .i64 x1.Shift.To, .int .i64 x1.Grams, .int .i64 x1.Kinds] 55 (0, 0))] :: [(g4, .cells #[.int .i64 f1, .int .i64 f2, .int .i64 f3, .int .i64 f4, .int .i64 f5, .int .i64 f6] 91 (0, 0))] :: ch1 :: selS [] 4 l) l_ ∧ Own r_api_Visit 91 μ_ (.slice A5 out1.length c5) out1 ch1 ∧ μ = μ_) ⟨none, 0, [], fE E, sE [some 2, some 3, some 1, some 0, none] 4 E, (Own.nil), E⟩ ?_
    rintro ⟨f1, f2, f3, f4, f5, f6, out1, v2⟩ _ _ _ _ _ ⟨A5, c5, ch1, hF15827, hS15827, hO1, rfl⟩ hb15827 hq15827
    unfold recyclingref22_Walk_l1 at hb15827
    replace hb15827 := oun_mk hb15827
    replace hb15827 := oun_mk hb15827
    replace hb15827 := oun_mk hb15827
    replace hb15827 := oun_mk hb15827
    replace hb15827 := oun_mk hb15827
    replace hb15827 := oun_mk hb15827
    replace hb15827 := oun_mk hb15827
    refine Atn 5 hF15827 hS15827 E E (G0 5 E ?_)
    refine Br hb15827 51 E E (fun hc6 hb15827 => ?_) (fun hc6 hb15827 => ?_)
    · refine G2 7 [51] [] [] E (Ix hb15827 (ArrR.rds hA4 L) E E fun _ _ _ _ hr2 hc7 _ hb15827 => ?_)
      obtain rfl := hr2
      refine Q3 11 [] [] [64, 0, 2, 1] (Z1 (hc7.push.push.push.push.push)) E (Cl E ?_)
      obtain ⟨_, hx4, hb15827⟩ := obind hb15827
      refine recyclingref22_right_fn hl1 hA1 hl2 hA2 hl3 hA3 hl4 (ArrR.rds hA4 _) hx4 ((Q0 8 E ?_))
      refine Cut hb15827 (fun f l o_ f_ μ_ l_ => ∃ (f7 : Int) (f8 : Int) (f9 : Int) (f10 : Int) (f11 : Int) (f12 : Int) (e1 : Int), (f7, f8, f9, f10, f11, f12, e1) = o_ ∧ SubFr ((13, .int .i64 e1) :: keepF [2, 3, 8, 9, 10, 11, 48, 49, 50] f) f_ ∧ SegSub ([(g1, .cells #[.int .i64 p1.Road.Nodes, .slice A1 p1.Road.Edges.length c1, .slice A2 p1.Vehicles.length c2, .slice A3 p1.Demands.length c3, .int .i64 p1.Unload, .int .i64 p1.UnloadSecs] 28 (0, 0))] :: [(g2, .cells #[.int .i64 t1.Vehicle, .slice A4 t1.Stops.length c4] 31 (0, 0))] :: [(g3, .cells #[.string x1.ID, .int .i64 x1.Depot, .int .i64 x1.Shift.From, .int .i64 x1.Shift.To, .int .i64 x1.Grams, .int .i64 x1.Kinds] 55 (0, 0))] :: [(g4, .cells #[.int .i64 f7, .int .i64 f8, .int .i64 f9, .int .i64 f10, .int .i64 f11, .int .i64 f12] 91 (0, 0))] :: selS [] 4 l) l_ ∧ μ = μ_) ?_ ?_
      · intro _ h15842 hb15827
        refine Br h15842 62 E E (fun hc8 h15842 => ?_) (fun hc8 h15842 => ?_)
        · refine G2 6 [62] [] [0, 2, 3] E (Cl E ?_)
          obtain ⟨⟨_, _⟩, hx5, h15842⟩ := obind h15842
          replace h15842 := oun_mk h15842
          refine recyclingref22_visit_fn hl1 hA1 hl2 hA2 hl3 hA3 hx5 ((Q1 6 [3] E ?_))
          cases h15842
          exact Ce E ⟨_, _, _, _, _, _, _, rfl, fE E, sE [some 0, some 1, some 2, some 3, some 4] 5 E, rfl⟩
        refine G2 2 [] [62] [] E ?_
        cases h15842
        exact Ce E ⟨_, _, _, _, _, _, _, rfl, fE E, sE [some 0, some 1, some 2, some 3, some 4] 5 E, rfl⟩
      rintro _ _ _ _ hb15827 _ ⟨f7, f8, f9, f10, f11, f12, e1, rfl, hF15842, hS15842, rfl⟩
      replace hb15827 := oun_mk hb15827
      replace hb15827 := oun_mk hb15827
      replace hb15827 := oun_mk hb15827
      replace hb15827 := oun_mk hb15827
      replace hb15827 := oun_mk hb15827
      replace hb15827 := oun_mk hb15827
      refine Atn 5 hF15842 hS15842 E E (G0 6 E ?_)
      refine Br hb15827 72 E E (fun hc9 hb15827 => ?_) (fun hc9 hb15827 => ?_)
      · refine G2 9 [72] [] [] E ?_
        cases hb15827
        have hq_ := hq15827 _ E
        subst hq_
        replace h := osum_r h
        cases h
        exact Rt [] E E (Ug [[]] 5 (hR none 0 [] Own.nil))
      refine G2 5 [] [72] [3] E (So E (O_bsl (z := [.int .i64 0, .int .i64 0, .int .i64 0, .int .i64 0, .int .i64 0, .int .i64 0]) E E E E E E E (F_cons (cells' := [.int .i64 f7, .int .i64 f8, .int .i64 f9, .int .i64 f10, .int .i64 f11, .int .i64 f12]) E E E E (F_nil (fun g5 => Q0 0 E (So E (O_append E ?_)))))))
      obtain ⟨_, hz1, hb15827⟩ := obind hb15827
      refine sem_appR (r := r_api_Visit) Tt_ok E E E E (by decide) E E 5 E hO1 E (Own.rds (Own.lit (r := r_api_Visit) (e := 91) (g := g5) (xs := [(T_api_Visit.mk f7 f8 f9 f10 f11 f12)]) (cs := [.int .i64 f7, .int .i64 f8, .int .i64 f9, .int .i64 f10, .int .i64 f11, .int .i64 f12]) (css := [[.int .i64 f7, .int .i64 f8, .int .i64 f9, .int .i64 f10, .int .i64 f11, .int .i64 f12]]) E (All2.cons (E) (All2.nil)) E E) 0 E) hz1 fun A6 c6 ch2 hO2 => Q0 7 E ?_
      cases hb15827
      exact Ce E ⟨_, rfl, A6, c6, ch2, fE E, sE [some 1, some 2, some 3, some 4, some 5] 6 E, (hO2), rfl⟩
    refine G2 2 [] [51] [] E ?_
    cases hb15827
    have hq_ := hq15827 _ E
    subst hq_
    exact Ce E ⟨_, _, _, _, _, _, _, A5, c5, ch1, rfl, fE E, sE [some 0, some 1, some 2, some 3, some 4] 5 E, (hO1), rfl⟩
  rintro _ _ _ _ h _ ⟨f13, f14, f15, f16, f17, f18, out2, A7, c7, ch3, rfl, hF15477, hS15477, hO3, rfl⟩
  replace h := osum_l h
  replace h := oun_mk h
  replace h := oun_mk h
  replace h := oun_mk h
  replace h := oun_mk h
  replace h := oun_mk h
  replace h := oun_mk h
  refine Atn 5 hF15477 hS15477 E E (G1 5 [0, 2, 3] E (Cl E ?_))
  obtain ⟨⟨r5, _⟩, hx6, h⟩ := obind h
  replace h := oun_mk h
  refine recyclingref22_home_fn hl1 hA1 hl2 hA2 hl3 hA3 hx6 ((Q1 12 [3] E ?_))
  refine Br h 88 E E (fun hc10 h => ?_) (fun hc10 h => ?_)
  · refine G2 2 [88] [] [] E (Dr _ Kept.refl [(true, 0), (true, 1), (true, 2), (true, 3), (true, 4), (true, 5), (true, 6)] (by kernel_rfl) (G1 8 [1] E ?_))
    cases h
    exact Rt [] E E (Ug [[]] 5 (hR none 0 [] Own.nil))
  refine G2 6 [] [88] [3] E (So E (O_bsl (z := [.int .i64 0, .int .i64 0, .int .i64 0, .int .i64 0, .int .i64 0, .int .i64 0]) E E E E E E E (F_cons (cells' := [.int .i64 r5.Stop, .int .i64 r5.Node, .int .i64 r5.Arrive, .int .i64 r5.Start, .int .i64 r5.Leave, .int .i64 r5.Load]) E E E E (F_nil (fun g6 => Q0 0 E (So E (O_append E ?_)))))))
  obtain ⟨_, hz2, h⟩ := obind h
  refine sem_appR (r := r_api_Visit) Tt_ok E E E E (by decide) E E 5 E hO3 E (Own.rds (Own.lit (r := r_api_Visit) (e := 91) (g := g6) (xs := [r5]) (cs := [.int .i64 r5.Stop, .int .i64 r5.Node, .int .i64 r5.Arrive, .int .i64 r5.Start, .int .i64 r5.Leave, .int .i64 r5.Load]) (css := [[.int .i64 r5.Stop, .int .i64 r5.Node, .int .i64 r5.Arrive, .int .i64 r5.Start, .int .i64 r5.Leave, .int .i64 r5.Load]]) E (All2.cons (E) (All2.nil)) E E) 0 E) hz2 fun A8 c8 ch4 hO4 => Q0 4 E ?_
  cases h
  exact Rt [] E E (Ug [[5]] 6 (hR A8 c8 ch4 hO4))

theorem recyclingref22_Cost_fn  {p1 : T_api_Problem} {t1 : T_api_Tour} {A1 : Option Addr} {c1 : Nat} {A2 : Option Addr} {c2 : Nat} {A3 : Option Addr} {c3 : Nat} {A4 : Option Addr} {c4 : Nat} {res1 : Int} {res2 : Int}
    (hl1 : p1.Road.Edges.length ≤ c1 ∧ c1 ≤ maxLen) (hA1 : ArrR r_api_Edge μ A1 p1.Road.Edges) (hl2 : p1.Vehicles.length ≤ c2 ∧ c2 ≤ maxLen) (hA2 : ArrR r_api_Vehicle μ A2 p1.Vehicles) (hl3 : p1.Demands.length ≤ c3 ∧ c3 ≤ maxLen) (hA3 : ArrR r_api_Demand μ A3 p1.Demands) (hl4 : t1.Stops.length ≤ c4 ∧ c4 ≤ maxLen) (hA4 : ArrR rInt μ A4 t1.Stops) (h : recyclingref22_Cost p1 t1 = some (res1, res2))
    (hR : R (.tuple #[.int .i64 res1, .int .i64 res2]) μ (L)) :
    Fn Try.prog 29 [.agg #[.int .i64 p1.Road.Nodes, .slice A1 p1.Road.Edges.length c1, .slice A2 p1.Vehicles.length c2, .slice A3 p1.Demands.length c3, .int .i64 p1.Unload, .int .i64 p1.UnloadSecs], .agg #[.int .i64 t1.Vehicle, .slice A4 t1.Stops.length c4]] μ (L) R := by
  unfold recyclingref22_Cost at h
  refine FnS Try.func29 (by kernel_rfl) E Try.ntmps29 E E ?_
  refine G0 2 E (Al E fun _ => Q0 0 E (Al E fun _ => Q1 7 [1, 0] E (Cl E ?_)))
  obtain ⟨⟨_, _, _⟩, hx1, h⟩ := obind h
  replace h := oun_mk h
  replace h := oun_mk h
  refine recyclingref22_Walk_fn hl1 hA1 hl2 hA2 hl3 hA3 hl4 hA4 hx1 (fun _ _ _ hO1 => Q0 14 E ?_)
  refine Br h 21 E E (fun hc1 h => ?_) (fun hc1 h => ?_)
  · refine G2 7 [21] [] [] E ?_
    cases h
    exact Rt [] E E (Ug [] 3 hR)
  refine G2 12 [] [21] [2, 1] E (Ix h (ArrR.rds hA2 L) E E fun _ _ _ _ hr1 hc2 _ h => ?_)
  obtain rfl := hr1
  refine Q3 11 [] [] [65] (Z1 (hc2.push.push.push)) E ?_
  refine Cut h (fun f l o_ f_ μ_ l_ => ∃ (sum2 : Int), sum2 = o_ ∧ SubFr ((9, .int .i64 sum2) :: []) f_ ∧ SegSub (selS [] 3 l) l_ ∧ μ = μ_) ?_ ?_
  · intro _ h15894 h
    refine Lp h15894 (fun f l (j_ : Int × Int × Int) f_ μ_ l_ => ounP j_ fun sum1 j_ => ounP j_ fun f_at1 v1 => SubFr ((9, .int .i64 sum1) :: (10, .int .i64 f_at1) :: (32, .int .i64 v1) :: keepF [2, 30, 31] f) f_ ∧ SegSub (selS [some 2, some 0] 3 l) l_ ∧ μ = μ_) ⟨fE E, sE [some 2, some 0] 3 E, E⟩ ?_
    rintro ⟨sum1, f_at1, v1⟩ _ _ _ _ _ ⟨hF15902, hS15902, rfl⟩ hb15902 hq15902
    unfold recyclingref22_Cost_l1 at hb15902
    replace hb15902 := oun_mk hb15902
    replace hb15902 := oun_mk hb15902
    refine Atn 2 hF15902 hS15902 E E (G0 5 E ?_)
    refine Br hb15902 33 E E (fun hc3 hb15902 => ?_) (fun hc3 hb15902 => ?_)
    · refine G2 6 [33] [] [] E (IxA hb15902 (Own.rds hO1 1 E) E E fun _ _ _ _ hr2 hc4 _ hb15902 => ?_)
      obtain rfl := hr2
      refine Q3 1 [] [] [64] (Z1 hc4) E (Al E fun _ => Q1 9 [0, 1, 0] E (Cl E ?_))
      obtain ⟨_, hx4, hb15902⟩ := obind hb15902
      refine recyclingref22_Leg_fn hl1 hA1 hl2 hA2 hl3 hA3 hx4 ((Q1 14 [0] E ?_))
      cases hb15902
      exact Ce E ⟨_, rfl, fE E, sE [some 1, some 2] 3 E, rfl⟩
    refine G2 2 [] [33] [] E ?_
    cases hb15902
    have hq_ := hq15902 _ E
    subst hq_
    exact Ce E ⟨_, rfl, fE E, sE [] 2 E, rfl⟩
  rintro _ _ _ _ h _ ⟨sum2, rfl, hF15894, hS15894, rfl⟩
  refine Atn 0 hF15894 hS15894 E E (G0 6 E ?_)
  cases h
  exact Rt [] E E (Ug [] 0 hR)

theorem recyclingref23_Options_fn {F : Nat} {p1 : T_api_Problem} {t1 : T_api_Tour} {d1 : Int} {A1 : Option Addr} {c1 : Nat} {A2 : Option Addr} {c2 : Nat} {A3 : Option Addr} {c3 : Nat} {A4 : Option Addr} {c4 : Nat} {res1 : (List T_api_Tour)} {res2 : Int}
    (hl1 : p1.Road.Edges.length ≤ c1 ∧ c1 ≤ maxLen) (hA1 : ArrR r_api_Edge μ A1 p1.Road.Edges) (hl2 : p1.Vehicles.length ≤ c2 ∧ c2 ≤ maxLen) (hA2 : ArrR r_api_Vehicle μ A2 p1.Vehicles) (hl3 : p1.Demands.length ≤ c3 ∧ c3 ≤ maxLen) (hA3 : ArrR r_api_Demand μ A3 p1.Demands) (hl4 : t1.Stops.length ≤ c4 ∧ c4 ≤ maxLen) (hA4 : ArrR rInt μ A4 t1.Stops) (h : recyclingref23_Options F p1 t1 d1 = some (res1, res2))
    (hR : ∀ (μ' : Gh) (A0 : Option Addr) (c0 : Nat) (ch0 : Seg), μ.le μ' → Own r_api_Tour 31 μ' (.slice A0 res1.length c0) res1 ch0 → R (.tuple #[.slice A0 res1.length c0, .int .i64 res2]) μ' (ch0 :: L)) :
    Fn Try.prog 13 [.agg #[.int .i64 p1.Road.Nodes, .slice A1 p1.Road.Edges.length c1, .slice A2 p1.Vehicles.length c2, .slice A3 p1.Demands.length c3, .int .i64 p1.Unload, .int .i64 p1.UnloadSecs], .agg #[.int .i64 t1.Vehicle, .slice A4 t1.Stops.length c4], .int .i64 d1] μ (L) R := by
  unfold recyclingref23_Options at h
  refine FnS Try.func13 (by kernel_rfl) E Try.ntmps13 E E ?_
  refine G0 2 E (Al E fun g1 => Q0 0 E (Al E fun g2 => Q1 6 [1] E (Cl E ?_)))
  obtain ⟨_, hx1, h⟩ := obind h
  refine recyclingref22_Check_fn hl1 hA1 hl2 hA2 hl3 hA3 hx1 ((Q0 8 E ?_))
  refine Br h 22 E E (fun hc1 h => ?_) (fun hc1 h => ?_)
  · refine G2 7 [22] [] [] E ?_
    cases h
    exact Rt [] E E (Ug [[]] 2 (hR _ none 0 [] (Gh.le.refl _) Own.nil))
  refine G2 4 [] [22] [] E ?_
  refine Cut h (fun f l o_ f_ μ_ l_ => ∃ (v1 : Bool), v1 = o_ ∧ SubFr ((45, .bool v1) :: keepF [2, 3, 4] f) f_ ∧ SegSub (selS [some 1, some 0] 2 l) l_) ?_ ?_
  · intro _ h16138 h
    refine G1 5 [0] E ?_
    refine Br h16138 27 E E (fun hc2 h16138 => ?_) (fun hc2 h16138 => ?_)
    · refine G2 19 [27, 35, 39] [] [] E ?_
      cases h16138
      exact Ce E ⟨_, rfl, fE E, sE [some 1, some 0] 2 E⟩
    refine G2 8 [] [27] [0, 1] E ?_
    refine Br h16138 35 E E (fun hc3 h16138 => ?_) (fun hc3 h16138 => ?_)
    · refine G2 11 [35, 39] [] [] E ?_
      cases h16138
      exact Ce E ⟨_, rfl, fE E, sE [some 1, some 0] 2 E⟩
    refine G2 4 [] [35] [] E ?_
    refine Br h16138 39 E E (fun hc4 h16138 => ?_) (fun hc4 h16138 => ?_)
    · refine G2 7 [39] [] [] E ?_
      cases h16138
      exact Ce E ⟨_, rfl, fE E, sE [some 1, some 0] 2 E⟩
    refine G2 7 [] [39] [1] E ?_
    cases h16138
    exact Ce E ⟨_, rfl, fE E, sE [some 1, some 0] 2 E⟩
  rintro _ _ _ _ h hm16138 ⟨v1, rfl, hF16138, hS16138⟩
  replace hA1 := hA1.mono hm16138
  replace hA2 := hA2.mono hm16138
  replace hA3 := hA3.mono hm16138
  replace hA4 := hA4.mono hm16138
  refine Atn 2 hF16138 hS16138 E E ?_
  refine Br h 45 E E (fun hc5 h => ?_) (fun hc5 h => ?_)
  · refine G2 6 [45] [] [] E ?_
    cases h
    exact Rt [] E E (Ug [[]] 2 (hR _ none 0 [] hm16138 Own.nil))
  refine G2 7 [] [45] [] E ?_
  refine Cut h (fun f l o_ f_ μ_ l_ => (.inl ()) = o_ ∧ SubFr (keepF [2, 3, 4] f) f_ ∧ SegSub l l_) ?_ ?_
  · intro _ h16145 h
    refine Lp h16145 (fun f l (i1 : Int) f_ μ_ l_ => SubFr ((9, .int .i64 i1) :: keepF [2, 3, 4] f) f_ ∧ SegSub l l_) ⟨fE E, sE [some 0, some 1] 2 E⟩ ?_
    rintro i1 _ _ _ _ hm16155 ⟨hF16155, hS16155⟩ hb16155 hq16155
    unfold recyclingref23_Options_l1 at hb16155
    replace hA1 := hA1.mono hm16155
    replace hA2 := hA2.mono hm16155
    replace hA3 := hA3.mono hm16155
    replace hA4 := hA4.mono hm16155
    refine Atn 2 hF16155 hS16155 E E (G1 9 [1] E ?_)
    refine Br hb16155 50 E E (fun hc6 hb16155 => ?_) (fun hc6 hb16155 => ?_)
    · refine G2 9 [50] [] [1] E (Ix hb16155 (ArrR.rds hA4 L) E E fun _ _ _ _ hr1 hc7 _ hb16155 => ?_)
      obtain rfl := hr1
      refine Q3 4 [] [] [64] (Z1 (hc7.push.push)) E ?_
      refine Br hb16155 59 E E (fun hc8 hb16155 => ?_) (fun hc8 hb16155 => ?_)
      · refine G2 6 [59] [] [] E ?_
        cases hb16155
        have hq_ := hq16155 _ E
        subst hq_
        replace h := osum_r h
        cases h
        exact Rt [] E E (Ug [[]] 2 (hR _ none 0 [] (hm16138.trans hm16155) Own.nil))
      refine G2 8 [] [59] [] E ?_
      cases hb16155
      exact Ce E ⟨_, rfl, fE E, sE [some 0, some 1] 2 E⟩
    refine G2 2 [] [50] [] E ?_
    cases hb16155
    have hq_ := hq16155 _ E
    subst hq_
    exact Ce E ⟨rfl, fE E, sE [some 0, some 1] 2 E⟩
  rintro _ _ _ _ h hm16145 ⟨rfl, hF16145, hS16145⟩
  replace h := osum_l h
  replace hA1 := hA1.mono hm16145
  replace hA2 := hA2.mono hm16145
  replace hA3 := hA3.mono hm16145
  replace hA4 := hA4.mono hm16145
  refine Atn 2 hF16145 hS16145 E E (G0 13 E ?_)
  refine Cut h (fun f l o_ f_ μ_ l_ => ∃ (out3 : (List T_api_Tour)) (A19 : Option Addr) (c17 : Nat) (ch13 : Seg), out3 = o_ ∧ SubFr ((10, .slice A19 out3.length c17) :: []) f_ ∧ SegSub (ch13 :: selS [] 2 l) l_ ∧ Own r_api_Tour 31 μ_ (.slice A19 out3.length c17) out3 ch13) ?_ ?_
  · intro _ h16172 h
    refine Lp h16172 (fun f l (j_ : (List T_api_Tour) × (List Int) × Int) f_ μ_ l_ => ounP j_ fun out1 j_ => ounP j_ fun costs1 i2 => ∃ (A5 : Option Addr) (c5 : Nat) (ch1 : Seg) (A6 : Option Addr) (c6 : Nat) (ch2 : Seg), SubFr ((10, .slice A5 out1.length c5) :: (11, .slice A6 costs1.length c6) :: (12, .int .i64 i2) :: keepF [2, 3, 4] f) f_ ∧ SegSub ([(g1, .cells #[.int .i64 p1.Road.Nodes, .slice A1 p1.Road.Edges.length c1, .slice A2 p1.Vehicles.length c2, .slice A3 p1.Demands.length c3, .int .i64 p1.Unload, .int .i64 p1.UnloadSecs] 28 (0, 0))] :: [(g2, .cells #[.int .i64 t1.Vehicle, .slice A4 t1.Stops.length c4] 31 (0, 0))] :: ch1 :: ch2 :: selS [] 2 l) l_ ∧ Own r_api_Tour 31 μ_ (.slice A5 out1.length c5) out1 ch1 ∧ Own rInt 3 μ_ (.slice A6 costs1.length c6) costs1 ch2) ⟨none, 0, [], none, 0, [], fE E, sE [some 0, some 1, none, none] 2 E, (Own.nil), (Own.nil)⟩ ?_
    rintro ⟨out1, costs1, i2⟩ _ _ _ _ hm16316 ⟨A5, c5, ch1, A6, c6, ch2, hF16316, hS16316, hO1, hO2⟩ hb16316 hq16316
    unfold recyclingref23_Options_l3 at hb16316
    replace hb16316 := oun_mk hb16316
    replace hb16316 := oun_mk hb16316
    replace hA1 := hA1.mono hm16316
    replace hA2 := hA2.mono hm16316
    replace hA3 := hA3.mono hm16316
    replace hA4 := hA4.mono hm16316
    refine Atn 4 hF16316 hS16316 E E (G1 10 [1] E ?_)
    refine Br hb16316 65 E E (fun hc9 hb16316 => ?_) (fun hc9 hb16316 => ?_)
    · refine G2 3 [65] [] [] E ?_
      refine Cut hb16316 (fun f l o_ f_ μ_ l_ => ∃ (out2 : (List T_api_Tour)) (costs2 : (List Int)) (A17 : Option Addr) (c15 : Nat) (ch11 : Seg) (A18 : Option Addr) (c16 : Nat) (ch12 : Seg), (out2, costs2) = o_ ∧ SubFr ((10, .slice A17 out2.length c15) :: (11, .slice A18 costs2.length c16) :: keepF [2, 3, 4, 12] f) f_ ∧ SegSub ([(g1, .cells #[.int .i64 p1.Road.Nodes, .slice A1 p1.Road.Edges.length c1, .slice A2 p1.Vehicles.length c2, .slice A3 p1.Demands.length c3, .int .i64 p1.Unload, .int .i64 p1.UnloadSecs] 28 (0, 0))] :: [(g2, .cells #[.int .i64 t1.Vehicle, .slice A4 t1.Stops.length c4] 31 (0, 0))] :: ch11 :: ch12 :: selS [] 4 l) l_ ∧ Own r_api_Tour 31 μ_ (.slice A17 out2.length c15) out2 ch11 ∧ Own rInt 3 μ_ (.slice A18 costs2.length c16) costs2 ch12) ?_ ?_
      · intro _ h16327 hb16316
        refine G0 2 E ?_
        refine Cut h16327 (fun f l o_ f_ μ_ l_ => ∃ (f1 : (List Int)) (g4 : Nat) (A8 : Option Addr) (c8 : Nat) (ch4 : Seg), f1 = o_ ∧ SubFr ((13, .pointer (some ⟨g4, 0, none⟩)) :: keepF [2, 3, 4, 10, 11, 12] f) f_ ∧ SegSub ([(g1, .cells #[.int .i64 p1.Road.Nodes, .slice A1 p1.Road.Edges.length c1, .slice A2 p1.Vehicles.length c2, .slice A3 p1.Demands.length c3, .int .i64 p1.Unload, .int .i64 p1.UnloadSecs] 28 (0, 0))] :: [(g2, .cells #[.int .i64 t1.Vehicle, .slice A4 t1.Stops.length c4] 31 (0, 0))] :: ch1 :: ch2 :: [(g4, .cells #[.int .i64 t1.Vehicle, .slice A8 f1.length c8] 31 (0, 0))] :: ch4 :: selS [] 4 l) l_ ∧ Own rInt 3 μ_ (.slice A8 f1.length c8) f1 ch4) ?_ ?_
        · intro _ h16347 h16327
          refine Cd (WP.draw (id := 16) wide _ Kept.refl E (AN.run (fuel := 4) (listed' := [true, true, true, true, true, true, true, true, true, true, false, false, false, false]) Tt_ok [(true, 0), (true, 1), (true, 2), (true, 3), (true, 4), (true, 5), (true, 6), (true, 7), (true, 8), (true, 9)] (by kernel_rfl) (by kernel_rfl) E (PL_t E (R_fa0 (o' := 0) E E E E E E (Pt E E (R_load E E E (Ex.mk _ (Cell.seg 1 0 E E E) (Pt E E (R_fa0 (o' := 1) E E E E E E (Pt E E (R_load E E E (Ex.mk _ (Cell.seg 1 0 E E E) (Pt E E ?_)))))))))))))
          refine R_move E (Pt E E (R_move E (Pt E E (R_quo E E ?_))))
          refine ⟨by decide, ?_⟩
          refine Pt E E (R_move E (Pt E E (R_rem E E ?_)))
          refine ⟨by decide, ?_⟩
          refine Pt E E (R_eqlD E E (P_some E (PL_nil ?_)))
          refine FK_2 Tt_ok (a := 10) (b := 12) (by kernel_rfl) ?_ ?_
          · refine FO_ E E (O_call (all := [.slice A4 t1.Stops.length c4, .int .i64 d1, .int .i64 (w64 (Int.tdiv i2 2)), .bool (decide ((Int.tmod i2 2) = 1))]) E E E ?_)
            obtain ⟨r2, hx3, h16347⟩ := obind h16347
            refine recyclingref23_candidate_fn hl4 (ArrR.rds hA4 _) hx3 (fun A7 c7 ch3 hO3 => ?_)
            refine ⟨Kept.more (Kept.refl), ?_⟩
            refine P_some E (AN.run (fuel := 0) (listed' := [true, true, true, true, true, true, true, true, true, true, true, true, true, true]) Tt_ok [(true, 11), (false, 12), (false, 13)] (by kernel_rfl) (by kernel_rfl) E (PL_t E (R_build E E E E (F_cons (cells' := [.int .i64 t1.Vehicle, .slice none 0 0]) E E E E (F_cons (cells' := [.int .i64 t1.Vehicle, .slice A7 r2.length c7]) E E E E (F_nil (P_some E (PL_f E (O_alloc (cs := #[.int .i64 0, .slice none 0 0]) E E (fun g3 => ?_))))))))))
            refine ⟨Kept.more (Kept.more (Kept.refl)), ?_⟩
            refine P_some E (PL_f E (O_store (vs := [.int .i64 t1.Vehicle, .slice A7 r2.length c7]) E E E E E E (ST_ (L' := ([(g3, .cells #[.int .i64 t1.Vehicle, .slice A7 r2.length c7] 31 (0, 0))] :: ch3 :: [(g1, .cells #[.int .i64 p1.Road.Nodes, .slice A1 p1.Road.Edges.length c1, .slice A2 p1.Vehicles.length c2, .slice A3 p1.Demands.length c3, .int .i64 p1.Unload, .int .i64 p1.UnloadSecs] 28 (0, 0))] :: [(g2, .cells #[.int .i64 t1.Vehicle, .slice A4 t1.Stops.length c4] 31 (0, 0))] :: ch1 :: ch2 :: L)) 0 0 E E E E ?_)))
            refine ⟨Kept.more (Kept.more (Kept.refl)), ?_⟩
            refine P_none (PL_nil (AN.done0 (by kernel_rfl) ?_))
            cases h16347
            exact Ce E ⟨_, g3, A7, c7, ch3, rfl, fE E, sE [some 2, some 3, some 4, some 5, some 0, some 1] 6 E, (hO3)⟩
          obtain ⟨r2, hx3, h16347⟩ := obind h16347
          refine FO_ E E (O_alloc (cs := #[.int .i64 0, .slice none 0 0]) E E (fun g3 => ?_))
          refine ⟨Kept.more (Kept.refl), ?_⟩
          refine P_some E (AN.run (fuel := 0) (listed' := [true, true, true, true, true, true, true, true, true, true, true, true, true, true]) Tt_ok [(false, 10), (true, 11), (false, 13)] (by kernel_rfl) (by kernel_rfl) E (PL_f E (O_call (all := [.slice A4 t1.Stops.length c4, .int .i64 d1, .int .i64 (w64 (Int.tdiv i2 2)), .bool (decide ((Int.tmod i2 2) = 1))]) E E E (recyclingref23_candidate_fn hl4 (ArrR.rds hA4 _) hx3 (fun A7 c7 ch3 hO3 => ?_)))))
          refine ⟨Kept.more (Kept.more (Kept.refl)), ?_⟩
          refine Pt E E (R_build E E E E (F_cons (cells' := [.int .i64 t1.Vehicle, .slice none 0 0]) E E E E (F_cons (cells' := [.int .i64 t1.Vehicle, .slice A7 r2.length c7]) E E E E (F_nil (P_some E (PL_f E (O_store (vs := [.int .i64 t1.Vehicle, .slice A7 r2.length c7]) E E E E E E (ST_ (L' := (ch3 :: [(g3, .cells #[.int .i64 t1.Vehicle, .slice A7 r2.length c7] 31 (0, 0))] :: [(g1, .cells #[.int .i64 p1.Road.Nodes, .slice A1 p1.Road.Edges.length c1, .slice A2 p1.Vehicles.length c2, .slice A3 p1.Demands.length c3, .int .i64 p1.Unload, .int .i64 p1.UnloadSecs] 28 (0, 0))] :: [(g2, .cells #[.int .i64 t1.Vehicle, .slice A4 t1.Stops.length c4] 31 (0, 0))] :: ch1 :: ch2 :: L)) 1 0 E E E E ?_))))))))
          refine ⟨Kept.more (Kept.more (Kept.refl)), ?_⟩
          refine P_none (PL_nil (AN.done0 (by kernel_rfl) ?_))
          cases h16347
          exact Ce E ⟨_, g3, A7, c7, ch3, rfl, fE E, sE [some 2, some 3, some 4, some 5, some 1, some 0] 6 E, (hO3)⟩
        rintro _ _ _ _ h16327 hm16347 ⟨f1, g4, A8, c8, ch4, rfl, hF16347, hS16347, hO4⟩
        replace hA1 := hA1.mono hm16347
        replace hA2 := hA2.mono hm16347
        replace hA3 := hA3.mono hm16347
        replace hO1 := hO1.mono hm16347
        replace hO2 := hO2.mono hm16347
        refine Atn 6 hF16347 hS16347 E E (G1 4 [0, 4] E (Cl E ?_))
        have hl5 := Own.lenOk hO4
        refine Fn.pre Try.func29 (by kernel_rfl) E (Upd.frzOwn 5 E hO4 fun _ hm_1 hA6 => Upd.done ?_)
        replace hA1 := hA1.mono hm_1
        replace hA2 := hA2.mono hm_1
        replace hA3 := hA3.mono hm_1
        replace hO1 := hO1.mono hm_1
        replace hO2 := hO2.mono hm_1
        obtain ⟨⟨r3, _⟩, hx4, h16327⟩ := obind h16327
        replace h16327 := oun_mk h16327
        refine recyclingref22_Cost_fn hl1 hA1 hl2 hA2 hl3 hA3 hl5 hA6 hx4 ((Q0 12 E ?_))
        refine Br h16327 87 E E (fun hc10 h16327 => ?_) (fun hc10 h16327 => ?_)
        · refine G2 2 [87] [] [] E ?_
          cases h16327
          exact Ce E ⟨_, _, A5, c5, ch1, A6, c6, ch2, rfl, fE E, sE [some 0, some 1, some 2, some 3] 6 E, (hO1), (hO2)⟩
        refine G2 9 [] [87] [] E ?_
        refine Cut h16327 (fun f l o_ f_ μ_ l_ => ∃ (f_at2 : Int), f_at2 = o_ ∧ SubFr ((16, .int .i64 f_at2) :: keepF [2, 3, 4, 10, 11, 12, 13, 14] f) f_ ∧ SegSub (selS [some 0, some 1, some 2, some 3, some 4] 6 l) l_) ?_ ?_
        · intro _ h16395 h16327
          refine Lp h16395 (fun f l (f_at1 : Int) f_ μ_ l_ => SubFr ((16, .int .i64 f_at1) :: keepF [2, 3, 4, 10, 11, 12, 13, 14] f) f_ ∧ SegSub (selS [some 0, some 1, some 2, some 3, some 4] 6 l) l_) ⟨fE E, sE [some 0, some 1, some 2, some 3, some 4] 6 E⟩ ?_
          rintro f_at1 _ _ _ _ hm16413 ⟨hF16413, hS16413⟩ hb16413 hq16413
          unfold recyclingref23_Options_l2 at hb16413
          replace hO1 := hO1.mono hm16413
          replace hO2 := hO2.mono hm16413
          replace hA6 := hA6.mono hm16413
          refine Atn 5 hF16413 hS16413 E E (G0 2 E ?_)
          refine Cut hb16413 (fun f l o_ f_ μ_ l_ => ∃ (v3 : Bool), v3 = o_ ∧ SubFr ((100, .bool v3) :: keepF [2, 3, 4, 10, 11, 12, 13, 14, 16] f) f_ ∧ SegSub l l_) ?_ ?_
          · intro _ h16423 hb16413
            refine G0 4 E ?_
            refine Br h16423 92 E E (fun hc11 h16423 => ?_) (fun hc11 h16423 => ?_)
            · refine G2 4 [92] [] [] E (IxA h16423 (Own.rds hO2 3 E) E E fun _ _ _ _ hr2 hc12 _ h16423 => ?_)
              obtain rfl := hr2
              refine Q3 4 [92] [] [64] (Z1 hc12) E ?_
              cases h16423
              exact Ce E ⟨_, rfl, fE E, sE [some 0, some 1, some 2, some 3, some 4] 5 E⟩
            refine G2 9 [] [92] [] E ?_
            cases h16423
            exact Ce E ⟨_, rfl, fE E, sE [some 0, some 1, some 2, some 3, some 4] 5 E⟩
          rintro _ _ _ _ hb16413 hm16423 ⟨v3, rfl, hF16423, hS16423⟩
          replace hO1 := hO1.mono hm16423
          replace hO2 := hO2.mono hm16423
          replace hA6 := hA6.mono hm16423
          refine Atn 5 hF16423 hS16423 E E ?_
          refine Br hb16413 100 E E (fun hc13 hb16413 => ?_) (fun hc13 hb16413 => ?_)
          · refine G2 9 [100] [] [] E ?_
            cases hb16413
            exact Ce E ⟨_, rfl, fE E, sE [some 0, some 1, some 2, some 3, some 4] 5 E⟩
          refine G2 2 [] [100] [] E ?_
          cases hb16413
          have hq_ := hq16413 _ E
          subst hq_
          exact Ce E ⟨_, rfl, fE E, sE [some 0, some 1, some 2, some 3, some 4] 5 E⟩
        rintro _ _ _ _ h16327 hm16395 ⟨f_at2, rfl, hF16395, hS16395⟩
        replace hO1 := hO1.mono hm16395
        replace hO2 := hO2.mono hm16395
        replace hA6 := hA6.mono hm16395
        obtain ⟨_, hs1, h16327⟩ := obind h16327
        refine Atn 5 hF16395 hS16395 E E (G0 9 E (Rdo E E (R_slHiS E E E E E E (Own.lenOk hO1).1 hs1 ?_)))
        have hA8 := Rds.pre (Own.rds (L := ([(g1, .cells #[.int .i64 p1.Road.Nodes, .slice A1 p1.Road.Edges.length c1, .slice A2 p1.Vehicles.length c2, .slice A3 p1.Demands.length c3, .int .i64 p1.Unload, .int .i64 p1.UnloadSecs] 28 (0, 0))] :: [(g2, .cells #[.int .i64 t1.Vehicle, .slice A4 t1.Stops.length c4] 31 (0, 0))] :: ch1 :: ch2 :: [(g4, .cells #[.int .i64 t1.Vehicle, .slice A8 f1.length c8] 31 (0, 0))] :: L)) hO1 2 E) hs1
        have hl6 := preLen (Own.lenOk hO1) hs1
        refine Q0 0 E (So E (O_append E (SemOk.pre (Upd.nilseg (Upd.done ?_)))))
        obtain ⟨_, hz1, h16327⟩ := obind h16327
        refine sem_appR (r := r_api_Tour) Tt_ok E E E E (by decide) E E 0 E (Own.nil (r := r_api_Tour) (e := 31)) E (Rds.push hA8) hz1 fun _ _ _ hO5 => Q1 6 [5] E (So E (O_bsl (z := [.int .i64 0, .slice none 0 0]) E E E E E E E (F_cons (cells' := [.int .i64 t1.Vehicle, .slice A8 f1.length c8]) E E E E (F_nil (fun g5 => Q0 0 E (So E (O_append E ?_)))))))
        obtain ⟨_, hz2, h16327⟩ := obind h16327
        refine sem_appR (r := r_api_Tour) Tt_ok E E E E (by decide) E E 1 E hO5 E (Own.rds (Own.lit (r := r_api_Tour) (e := 31) (g := g5) (xs := [(T_api_Tour.mk t1.Vehicle f1)]) (cs := [.int .i64 t1.Vehicle, .slice A8 f1.length c8]) (css := [[.int .i64 t1.Vehicle, .slice A8 f1.length c8]]) E (All2.cons (⟨A8, c8, E, hl5, hA6⟩) (All2.nil)) E E) 0 E) hz2 fun _ _ ch6 hO6 => ?_
        obtain ⟨_, hs2, h16327⟩ := obind h16327
        refine Q0 7 E (Rdo E E (R_slLoS (r := r_api_Tour) E E E E E E E (Own.lenOk hO1).1 hs2 fun _ hAe1 => ?_))
        have hA9 := Rds.sub (Own.rds (L := ([(g5, .cells #[.int .i64 t1.Vehicle, .slice A8 f1.length c8] 31 (0, 0))] :: ch6 :: [(g1, .cells #[.int .i64 p1.Road.Nodes, .slice A1 p1.Road.Edges.length c1, .slice A2 p1.Vehicles.length c2, .slice A3 p1.Demands.length c3, .int .i64 p1.Unload, .int .i64 p1.UnloadSecs] 28 (0, 0))] :: [(g2, .cells #[.int .i64 t1.Vehicle, .slice A4 t1.Stops.length c4] 31 (0, 0))] :: ch1 :: ch2 :: [(g4, .cells #[.int .i64 t1.Vehicle, .slice A8 f1.length c8] 31 (0, 0))] :: L)) hO1 4 E) (Own.lenOk hO1).1 hs2 hAe1
        have hl7 := subLen (Own.lenOk hO1) hs2
        refine Q0 0 E (So E (O_append E ?_))
        obtain ⟨_, hz3, h16327⟩ := obind h16327
        refine sem_appR (r := r_api_Tour) Tt_ok E E E E (by decide) E E 1 E hO6 E hA9 hz3 fun A12 c11 ch7 hO7 => ?_
        obtain ⟨_, hs3, h16327⟩ := obind h16327
        refine Q0 11 E (Rdo E E (R_slHiS E E E E E E (Own.lenOk hO2).1 hs3 ?_))
        have hA10 := Rds.pre (Own.rds (L := ([(g5, .cells #[.int .i64 t1.Vehicle, .slice A8 f1.length c8] 31 (0, 0))] :: ch7 :: [(g1, .cells #[.int .i64 p1.Road.Nodes, .slice A1 p1.Road.Edges.length c1, .slice A2 p1.Vehicles.length c2, .slice A3 p1.Demands.length c3, .int .i64 p1.Unload, .int .i64 p1.UnloadSecs] 28 (0, 0))] :: [(g2, .cells #[.int .i64 t1.Vehicle, .slice A4 t1.Stops.length c4] 31 (0, 0))] :: ch1 :: ch2 :: [(g4, .cells #[.int .i64 t1.Vehicle, .slice A8 f1.length c8] 31 (0, 0))] :: L)) hO2 5 E) hs3
        have hl8 := preLen (Own.lenOk hO2) hs3
        refine Q0 0 E (So E (O_append E (SemOk.pre (Upd.nilseg (Upd.done ?_)))))
        obtain ⟨_, hz4, h16327⟩ := obind h16327
        refine sem_appR (r := rInt) Tt_ok E E E E (by decide) E E 0 E (Own.nil (r := rInt) (e := 3)) E (Rds.push hA10) hz4 fun _ _ _ hO8 => Q0 6 E (So E (O_bsl (z := [.int .i64 0]) E E E E E E E (F_cons (cells' := [.int .i64 r3]) E E E E (F_nil (fun g6 => Q0 0 E (So E (O_append E ?_)))))))
        obtain ⟨_, hz5, h16327⟩ := obind h16327
        refine sem_appR (r := rInt) Tt_ok E E E E (by decide) E E 1 E hO8 E (Own.rds (Own.lit (r := rInt) (e := 3) (g := g6) (xs := [r3]) (cs := [.int .i64 r3]) (css := [[.int .i64 r3]]) E (All2.cons (E) (All2.nil)) E E) 0 E) hz5 fun _ _ ch9 hO9 => ?_
        obtain ⟨_, hs4, h16327⟩ := obind h16327
        refine Q0 6 E (Rdo E E (R_slLoS (r := rInt) E E E E E E E (Own.lenOk hO2).1 hs4 fun _ hAe2 => ?_))
        have hA11 := Rds.sub (Own.rds (L := ([(g6, .cells #[.int .i64 r3] 3 (0, 0))] :: ch9 :: [(g5, .cells #[.int .i64 t1.Vehicle, .slice A8 f1.length c8] 31 (0, 0))] :: ch7 :: [(g1, .cells #[.int .i64 p1.Road.Nodes, .slice A1 p1.Road.Edges.length c1, .slice A2 p1.Vehicles.length c2, .slice A3 p1.Demands.length c3, .int .i64 p1.Unload, .int .i64 p1.UnloadSecs] 28 (0, 0))] :: [(g2, .cells #[.int .i64 t1.Vehicle, .slice A4 t1.Stops.length c4] 31 (0, 0))] :: ch1 :: ch2 :: [(g4, .cells #[.int .i64 t1.Vehicle, .slice A8 f1.length c8] 31 (0, 0))] :: L)) hO2 7 E) (Own.lenOk hO2).1 hs4 hAe2
        have hl9 := subLen (Own.lenOk hO2) hs4
        refine Q0 0 E (So E (O_append E ?_))
        obtain ⟨_, hz6, h16327⟩ := obind h16327
        refine sem_appR (r := rInt) Tt_ok E E E E (by decide) E E 1 E hO9 E hA11 hz6 fun A16 c14 ch10 hO10 => Q0 3 E ?_
        cases h16327
        exact Ce E ⟨_, _, A12, c11, ch7, A16, c14, ch10, rfl, fE E, sE [some 4, some 5, some 3, some 1] 9 E, (hO7), (hO10)⟩
      rintro _ _ _ _ hb16316 hm16327 ⟨out2, costs2, A17, c15, ch11, A18, c16, ch12, rfl, hF16327, hS16327, hO11, hO12⟩
      replace hb16316 := oun_mk hb16316
      replace hO1 := hO1.mono hm16327
      refine Atn 4 hF16327 hS16327 E E (G0 5 E ?_)
      cases hb16316
      exact Ce E ⟨_, rfl, A17, c15, ch11, A18, c16, ch12, fE E, sE [some 0, some 1, some 2, some 3] 4 E, (hO11), (hO12)⟩
    refine G2 2 [] [65] [] E ?_
    cases hb16316
    have hq_ := hq16316 _ E
    subst hq_
    exact Ce E ⟨_, A5, c5, ch1, rfl, fE E, sE [some 2] 4 E, (hO1)⟩
  rintro _ _ _ _ h hm16172 ⟨out3, A19, c17, ch13, rfl, hF16172, hS16172, hO13⟩
  refine Atn 1 hF16172 hS16172 E E (G0 6 E ?_)
  cases h
  exact Rt [] E E (Ug [[0]] 1 (hR _ A19 c17 ch13 (hm16138.trans (hm16145.trans hm16172)) hO13))

theorem recyclingref23_Best_fn {F : Nat} {p1 : T_api_Problem} {t1 : T_api_Tour} {d1 : Int} {A1 : Option Addr} {c1 : Nat} {A2 : Option Addr} {c2 : Nat} {A3 : Option Addr} {c3 : Nat} {A4 : Option Addr} {c4 : Nat} {res1 : T_api_Tour} {res2 : Int}
    (hl1 : p1.Road.Edges.length ≤ c1 ∧ c1 ≤ maxLen) (hA1 : ArrR r_api_Edge μ A1 p1.Road.Edges) (hl2 : p1.Vehicles.length ≤ c2 ∧ c2 ≤ maxLen) (hA2 : ArrR r_api_Vehicle μ A2 p1.Vehicles) (hl3 : p1.Demands.length ≤ c3 ∧ c3 ≤ maxLen) (hA3 : ArrR r_api_Demand μ A3 p1.Demands) (hl4 : t1.Stops.length ≤ c4 ∧ c4 ≤ maxLen) (hA4 : ArrR rInt μ A4 t1.Stops) (h : recyclingref23_Best F p1 t1 d1 = some (res1, res2))
    (hR : ∀ (μ' : Gh) (A0_1 : Option Addr) (c0_1 : Nat), μ.le μ' → (res1.Stops.length ≤ c0_1 ∧ c0_1 ≤ maxLen) → ArrR rInt μ' A0_1 res1.Stops → R (.tuple #[.agg #[.int .i64 res1.Vehicle, .slice A0_1 res1.Stops.length c0_1], .int .i64 res2]) μ' (L)) :
    Fn Try.prog 16 [.agg #[.int .i64 p1.Road.Nodes, .slice A1 p1.Road.Edges.length c1, .slice A2 p1.Vehicles.length c2, .slice A3 p1.Demands.length c3, .int .i64 p1.Unload, .int .i64 p1.UnloadSecs], .agg #[.int .i64 t1.Vehicle, .slice A4 t1.Stops.length c4], .int .i64 d1] μ (L) R := by
  unfold recyclingref23_Best at h
  refine FnS Try.func16 (by kernel_rfl) E Try.ntmps16 E E ?_
  refine G0 2 E (Al E fun _ => Q0 0 E (Al E fun _ => Q0 0 E (Al E fun _ => Q1 7 [2, 1] E (Cl E ?_))))
  obtain ⟨⟨_, _⟩, hx1, h⟩ := obind h
  replace h := oun_mk h
  refine recyclingref23_Options_fn hl1 hA1 hl2 hA2 hl3 hA3 hl4 hA4 hx1 (fun _ _ _ _ hm_1 hO1 => ?_)
  refine Q0 12 E ?_
  refine Br h 18 E E (fun hc1 h => ?_) (fun hc1 h => ?_)
  · refine G2 8 [18] [] [1] E ?_
    cases h
    exact Rt [1] E E (Ug [] 4 (hR _ none 0 hm_1 ⟨Nat.le_refl _, Nat.zero_le _⟩ ArrR.nil))
  refine G2 9 [] [18] [] E ?_
  refine Br h 23 E E (fun hc2 h => ?_) (fun hc2 h => ?_)
  · refine G2 7 [23] [] [1] E ?_
    cases h
    exact Rt [1] E E (Ug [] 4 (hR _ none 0 hm_1 ⟨Nat.le_refl _, Nat.zero_le _⟩ ArrR.nil))
  refine G2 5 [] [23] [] E (IxA h (Own.rds hO1 0 E) E E fun _ _ _ _ hr1 hc3 _ h => ?_)
  obtain ⟨A6, c6, rfl, hl5, hA6⟩ := hr1
  refine Q3 4 [] [] [64, 1] (Z1 hc3) E ?_
  cases h
  exact Rt [1] E E (Ug [] 4 (hR _ A6 c6 hm_1 hl5 hA6))

end Go.Proofs.Ytfekfbcghnlohaa
