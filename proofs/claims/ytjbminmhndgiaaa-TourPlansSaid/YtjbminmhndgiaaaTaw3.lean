/- Printed by gen2.py of this repo: the walks that tie the functions to their specifications. -/
import Derived.Test.YtjbminmhndgiaaaTt
import Derived.Test.YtjbminmhndgiaaaTas
import Derived.Test.YtjbminmhndgiaaaTaw1
namespace Go.Proofs.Ytjbminmhndgiaaa
open Go.RowKit
set_option linter.unusedSimpArgs false
set_option linter.unusedVariables false
set_option maxRecDepth 4000
attribute [local irreducible] WP SemOk SemU Fn AN Upd vcR vcO vcOps vcPlan putK fillK resK inBlk forkOne Cell StAt Kept KS

variable {μ : Gh} {L : List Seg} {R : Value → Gh → List Seg → Prop}
theorem recyclingref19_Check_fn  {r1 : T_api_Road} {A1 : Option Addr} {c1 : Nat} {res1 : Int}
    (hl1 : r1.Edges.length ≤ c1 ∧ c1 ≤ maxLen) (hA1 : ArrR r_api_Edge μ A1 r1.Edges) (h : recyclingref19_Check r1 = some res1)
    (hR : R (.int .i64 res1) μ (L)) :
    Fn Try.prog 31 [.agg #[.int .i64 r1.Nodes, .slice A1 r1.Edges.length c1]] μ (L) R := by
  unfold recyclingref19_Check at h
  refine FnS Try.func31 (by kernel_rfl) E Try.ntmps31 E E ?_
  refine G0 2 E (Al E fun _ => Q0 4 E ?_)
  refine Cut h (fun f l o_ f_ μ_ l_ => ∃ (v1 : Bool), v1 = o_ ∧ SubFr ((12, .bool v1) :: keepF [1] f) f_ ∧ SegSub l l_ ∧ μ = μ_) ?_ ?_
  · intro _ h4915 h
    refine G1 5 [0] E ?_
    refine Br h4915 8 E E (fun hc1 h4915 => ?_) (fun hc1 h4915 => ?_)
    · refine G2 5 [8] [] [] E ?_
      cases h4915
      exact Ce E ⟨_, rfl, fE E, sE [some 0] 1 E, rfl⟩
    refine G2 5 [] [8] [0] E ?_
    cases h4915
    exact Ce E ⟨_, rfl, fE E, sE [some 0] 1 E, rfl⟩
  rintro _ _ _ _ h _ ⟨v1, rfl, hF4915, hS4915, rfl⟩
  refine Atn 1 hF4915 hS4915 E E ?_
  refine Br h 12 E E (fun hc2 h => ?_) (fun hc2 h => ?_)
  · refine G2 5 [12] [] [] E ?_
    cases h
    exact Rt [] E E (Ug [] 1 hR)
  refine G2 10 [] [12] [0] E ?_
  refine Br h 16 E E (fun hc3 h => ?_) (fun hc3 h => ?_)
  · refine G2 5 [16] [] [] E ?_
    cases h
    exact Rt [] E E (Ug [] 1 hR)
  refine G2 10 [] [16] [0] E ?_
  refine Cut h (fun f l o_ f_ μ_ l_ => (.inl ()) = o_ ∧ SubFr ([]) f_ ∧ SegSub (selS [] 1 l) l_ ∧ μ = μ_) ?_ ?_
  · intro _ h4918 h
    refine Lp h4918 (fun f l (v2 : Int) f_ μ_ l_ => SubFr ((20, .int .i64 v2) :: keepF [1, 18, 19] f) f_ ∧ SegSub l l_ ∧ μ = μ_) ⟨fE E, sE [some 0] 1 E, E⟩ ?_
    rintro v2 _ _ _ _ _ ⟨hF4933, hS4933, rfl⟩ hb4933 hq4933
    unfold recyclingref19_Check_l1 at hb4933
    refine Atn 1 hF4933 hS4933 E E (G0 5 E ?_)
    refine Br hb4933 21 E E (fun hc4 hb4933 => ?_) (fun hc4 hb4933 => ?_)
    · refine G2 6 [21] [] [] E (Ix hb4933 (ArrR.rds hA1 L) E E fun _ _ _ _ hr1 hc5 _ hb4933 => ?_)
      obtain rfl := hr1
      refine Q3 1 [] [] [64] (Z1 (hc5.push)) E (Al E fun _ => Q1 4 [0] E ?_)
      refine Cut hb4933 (fun f l o_ f_ μ_ l_ => ∃ (v3 : Bool), v3 = o_ ∧ SubFr ((45, .bool v3) :: keepF [1, 4, 18, 19, 20] f) f_ ∧ SegSub (selS [some 1, some 0] 2 l) l_ ∧ μ = μ_) ?_ ?_
      · intro _ h4939 hb4933
        refine G1 5 [0] E ?_
        refine Br h4939 27 E E (fun hc6 h4939 => ?_) (fun hc6 h4939 => ?_)
        · refine G2 19 [27, 34, 39] [] [] E ?_
          cases h4939
          exact Ce E ⟨_, rfl, fE E, sE [some 1, some 0] 2 E, rfl⟩
        refine G2 7 [] [27] [0, 1] E ?_
        refine Br h4939 34 E E (fun hc7 h4939 => ?_) (fun hc7 h4939 => ?_)
        · refine G2 12 [34, 39] [] [] E ?_
          cases h4939
          exact Ce E ⟨_, rfl, fE E, sE [some 1, some 0] 2 E, rfl⟩
        refine G2 5 [] [34] [0] E ?_
        refine Br h4939 39 E E (fun hc8 h4939 => ?_) (fun hc8 h4939 => ?_)
        · refine G2 7 [39] [] [] E ?_
          cases h4939
          exact Ce E ⟨_, rfl, fE E, sE [some 1, some 0] 2 E, rfl⟩
        refine G2 7 [] [39] [0, 1] E ?_
        cases h4939
        exact Ce E ⟨_, rfl, fE E, sE [some 1, some 0] 2 E, rfl⟩
      rintro _ _ _ _ hb4933 _ ⟨v3, rfl, hF4939, hS4939, rfl⟩
      refine Atn 2 hF4939 hS4939 E E ?_
      refine Br hb4933 45 E E (fun hc9 hb4933 => ?_) (fun hc9 hb4933 => ?_)
      · refine G2 5 [45] [] [] E ?_
        cases hb4933
        have hq_ := hq4933 _ E
        subst hq_
        replace h := osum_r h
        cases h
        exact Rt [] E E (Ug [] 2 hR)
      refine G2 3 [] [45] [] E ?_
      refine Cut hb4933 (fun f l o_ f_ μ_ l_ => ∃ (v4 : Bool), v4 = o_ ∧ SubFr ((70, .bool v4) :: keepF [1, 18, 19, 20] f) f_ ∧ SegSub (selS [some 0] 2 l) l_ ∧ μ = μ_) ?_ ?_
      · intro _ h4944 hb4933
        refine G1 7 [1, 1] E ?_
        refine Br h4944 51 E E (fun hc10 h4944 => ?_) (fun hc10 h4944 => ?_)
        · refine G2 20 [51, 56, 61, 66] [] [] E ?_
          cases h4944
          exact Ce E ⟨_, rfl, fE E, sE [some 0] 2 E, rfl⟩
        refine G2 5 [] [51] [1] E ?_
        refine Br h4944 56 E E (fun hc11 h4944 => ?_) (fun hc11 h4944 => ?_)
        · refine G2 15 [56, 61, 66] [] [] E ?_
          cases h4944
          exact Ce E ⟨_, rfl, fE E, sE [some 0] 2 E, rfl⟩
        refine G2 5 [] [56] [1] E ?_
        refine Br h4944 61 E E (fun hc12 h4944 => ?_) (fun hc12 h4944 => ?_)
        · refine G2 10 [61, 66] [] [] E ?_
          cases h4944
          exact Ce E ⟨_, rfl, fE E, sE [some 0] 2 E, rfl⟩
        refine G2 5 [] [61] [1] E ?_
        refine Br h4944 66 E E (fun hc13 h4944 => ?_) (fun hc13 h4944 => ?_)
        · refine G2 5 [66] [] [] E ?_
          cases h4944
          exact Ce E ⟨_, rfl, fE E, sE [some 0] 2 E, rfl⟩
        refine G2 5 [] [66] [1] E ?_
        cases h4944
        exact Ce E ⟨_, rfl, fE E, sE [some 0] 2 E, rfl⟩
      rintro _ _ _ _ hb4933 _ ⟨v4, rfl, hF4944, hS4944, rfl⟩
      refine Atn 1 hF4944 hS4944 E E ?_
      refine Br hb4933 70 E E (fun hc14 hb4933 => ?_) (fun hc14 hb4933 => ?_)
      · refine G2 5 [70] [] [] E ?_
        cases hb4933
        have hq_ := hq4933 _ E
        subst hq_
        replace h := osum_r h
        cases h
        exact Rt [] E E (Ug [] 1 hR)
      refine G2 7 [] [70] [] E ?_
      cases hb4933
      exact Ce E ⟨_, rfl, fE E, sE [some 0] 1 E, rfl⟩
    refine G2 2 [] [21] [] E ?_
    cases hb4933
    have hq_ := hq4933 _ E
    subst hq_
    exact Ce E ⟨rfl, fE E, sE [] 1 E, rfl⟩
  rintro _ _ _ _ h _ ⟨rfl, hF4918, hS4918, rfl⟩
  replace h := osum_l h
  refine Atn 0 hF4918 hS4918 E E (G0 4 E ?_)
  cases h
  exact Rt [] E E (Ug [] 0 hR)

theorem recyclingref04_letter_fn  {c1 : Int}  {res1 : Bool}
     (h : recyclingref04_letter c1 = some res1)
    (hR : R (.bool res1) μ (L)) :
    Fn Try.prog 71 [.int .u8 c1] μ (L) R := by
  unfold recyclingref04_letter at h
  refine FnS Try.func71 (by kernel_rfl) E Try.ntmps71 E E ?_
  refine G2 5 [] [13] [] E ?_
  refine Cut h (fun f l o_ f_ μ_ l_ => ∃ (v1 : Bool), v1 = o_ ∧ SubFr ((2, .bool v1) :: []) f_ ∧ SegSub l l_ ∧ μ = μ_) ?_ ?_
  · intro _ h4953 h
    refine G0 4 E ?_
    refine Br h4953 5 E E (fun hc1 h4953 => ?_) (fun hc1 h4953 => ?_)
    · refine G2 4 [5] [] [] E ?_
      refine Br h4953 9 E E (fun hc2 h4953 => ?_) (fun hc2 h4953 => ?_)
      · refine G2 9 [9] [] [] E ?_
        cases h4953
        exact Ce E ⟨_, rfl, fE E, sE [] 0 E, rfl⟩
      refine G2 3 [] [9] [] E ?_
      refine Br h4953 12 E E (fun hc3 h4953 => ?_) (fun hc3 h4953 => ?_)
      · refine G2 6 [12] [9] [] E ?_
        cases h4953
        exact Ce E ⟨_, rfl, fE E, sE [] 0 E, rfl⟩
      refine G2 6 [] [9, 12] [] E ?_
      cases h4953
      exact Ce E ⟨_, rfl, fE E, sE [] 0 E, rfl⟩
    refine G2 7 [] [5, 9] [] E ?_
    refine Br h4953 12 E E (fun hc4 h4953 => ?_) (fun hc4 h4953 => ?_)
    · refine G2 6 [12] [9] [] E ?_
      cases h4953
      exact Ce E ⟨_, rfl, fE E, sE [] 0 E, rfl⟩
    refine G2 6 [] [9, 12] [] E ?_
    cases h4953
    exact Ce E ⟨_, rfl, fE E, sE [] 0 E, rfl⟩
  rintro _ _ _ _ h _ ⟨v1, rfl, hF4953, hS4953, rfl⟩
  refine Atn 0 hF4953 hS4953 E E ?_
  cases h
  exact Rt [] E E (Ug [] 0 hR)

theorem recyclingref04_Valid_fn  {s1 : ByteArray}  {res1 : Bool}
     (h : recyclingref04_Valid s1 = some res1)
    (hR : R (.bool res1) μ (L)) :
    Fn Try.prog 62 [.string s1] μ (L) R := by
  unfold recyclingref04_Valid at h
  refine FnS Try.func62 (by kernel_rfl) E Try.ntmps62 E E ?_
  refine G0 6 E ?_
  refine Cut h (fun f l o_ f_ μ_ l_ => ∃ (v1 : Bool), v1 = o_ ∧ SubFr ((18, .bool v1) :: keepF [0] f) f_ ∧ SegSub l l_ ∧ μ = μ_) ?_ ?_
  · intro _ h4952 h
    refine G0 5 E ?_
    refine Br h4952 8 E E (fun hc1 h4952 => ?_) (fun hc1 h4952 => ?_)
    · refine G2 11 [8, 13] [] [] E ?_
      cases h4952
      exact Ce E ⟨_, rfl, fE E, sE [] 0 E, rfl⟩
    refine G2 5 [] [8] [] E ?_
    refine Br h4952 13 E E (fun hc2 h4952 => ?_) (fun hc2 h4952 => ?_)
    · refine G2 6 [13] [] [] E ?_
      cases h4952
      exact Ce E ⟨_, rfl, fE E, sE [] 0 E, rfl⟩
    obtain ⟨_, hb1, h4952⟩ := obind h4952
    refine G2 1 [] [13] [] E (Rdo E E (R_idxB Tt_ok E E E E hb1 (Q0 0 E (Cl E ?_))))
    obtain ⟨_, hx1, h4952⟩ := obind h4952
    refine recyclingref04_letter_fn  hx1 ((Q2 3 [] [13] [] E ?_))
    cases h4952
    exact Ce E ⟨_, rfl, fE E, sE [] 0 E, rfl⟩
  rintro _ _ _ _ h _ ⟨v1, rfl, hF4952, hS4952, rfl⟩
  refine Atn 0 hF4952 hS4952 E E ?_
  refine Br h 18 E E (fun hc3 h => ?_) (fun hc3 h => ?_)
  · refine G2 5 [18] [] [] E ?_
    cases h
    exact Rt [] E E (Ug [] 0 hR)
  refine G2 7 [] [18] [] E ?_
  refine Cut h (fun f l o_ f_ μ_ l_ => (.inl ()) = o_ ∧ SubFr ([]) f_ ∧ SegSub l l_ ∧ μ = μ_) ?_ ?_
  · intro _ h4954 h
    refine Lp h4954 (fun f l (i1 : Int) f_ μ_ l_ => SubFr ((3, .int .i64 i1) :: keepF [0] f) f_ ∧ SegSub l l_ ∧ μ = μ_) ⟨fE E, sE [] 0 E, E⟩ ?_
    rintro i1 _ _ _ _ _ ⟨hF4957, hS4957, rfl⟩ hb4957 hq4957
    unfold recyclingref04_Valid_l1 at hb4957
    refine Atn 0 hF4957 hS4957 E E (G0 8 E ?_)
    refine Br hb4957 22 E E (fun hc4 hb4957 => ?_) (fun hc4 hb4957 => ?_)
    · obtain ⟨_, hb2, hb4957⟩ := obind hb4957
      refine G2 8 [22] [] [] E (Rdo E E (R_idxB Tt_ok E E E E hb2 (Q0 3 E ?_)))
      refine Cut hb4957 (fun f l o_ f_ μ_ l_ => ∃ (v2 : Bool), v2 = o_ ∧ SubFr ((50, .bool v2) :: keepF [0, 3] f) f_ ∧ SegSub l l_ ∧ μ = μ_) ?_ ?_
      · intro _ h4958 hb4957
        refine G0 2 E (Cl E ?_)
        obtain ⟨_, hx2, h4958⟩ := obind h4958
        refine recyclingref04_letter_fn  hx2 ((Q0 2 E ?_))
        refine Br h4958 31 E E (fun hc5 h4958 => ?_) (fun hc5 h4958 => ?_)
        · refine G2 3 [31] [] [] E ?_
          refine Br h4958 34 E E (fun hc6 h4958 => ?_) (fun hc6 h4958 => ?_)
          · refine G2 9 [31, 34, 39] [] [] E ?_
            refine Br h4958 43 E E (fun hc7 h4958 => ?_) (fun hc7 h4958 => ?_)
            · refine G2 4 [43] [] [] E ?_
              refine Br h4958 47 E E (fun hc8 h4958 => ?_) (fun hc8 h4958 => ?_)
              · refine G2 4 [47] [] [] E ?_
                cases h4958
                exact Ce E ⟨_, rfl, fE E, sE [] 0 E, rfl⟩
              refine G2 4 [] [47] [] E ?_
              cases h4958
              exact Ce E ⟨_, rfl, fE E, sE [] 0 E, rfl⟩
            refine G2 8 [] [43, 47] [] E ?_
            cases h4958
            exact Ce E ⟨_, rfl, fE E, sE [] 0 E, rfl⟩
          refine G2 5 [31] [34] [] E ?_
          refine Br h4958 39 E E (fun hc9 h4958 => ?_) (fun hc9 h4958 => ?_)
          · refine G2 4 [39] [] [] E ?_
            refine Br h4958 43 E E (fun hc10 h4958 => ?_) (fun hc10 h4958 => ?_)
            · refine G2 4 [43] [] [] E ?_
              refine Br h4958 47 E E (fun hc11 h4958 => ?_) (fun hc11 h4958 => ?_)
              · refine G2 4 [47] [] [] E ?_
                cases h4958
                exact Ce E ⟨_, rfl, fE E, sE [] 0 E, rfl⟩
              refine G2 4 [] [47] [] E ?_
              cases h4958
              exact Ce E ⟨_, rfl, fE E, sE [] 0 E, rfl⟩
            refine G2 8 [] [43, 47] [] E ?_
            cases h4958
            exact Ce E ⟨_, rfl, fE E, sE [] 0 E, rfl⟩
          refine G2 12 [] [39, 43, 47] [] E ?_
          cases h4958
          exact Ce E ⟨_, rfl, fE E, sE [] 0 E, rfl⟩
        refine G2 20 [] [31, 39, 43, 47] [] E ?_
        cases h4958
        exact Ce E ⟨_, rfl, fE E, sE [] 0 E, rfl⟩
      rintro _ _ _ _ hb4957 _ ⟨v2, rfl, hF4958, hS4958, rfl⟩
      refine Atn 0 hF4958 hS4958 E E ?_
      refine Br hb4957 50 E E (fun hc12 hb4957 => ?_) (fun hc12 hb4957 => ?_)
      · refine G2 5 [50] [] [] E ?_
        cases hb4957
        have hq_ := hq4957 _ E
        subst hq_
        replace h := osum_r h
        cases h
        exact Rt [] E E (Ug [] 0 hR)
      refine G2 8 [] [50] [] E ?_
      cases hb4957
      exact Ce E ⟨_, rfl, fE E, sE [] 0 E, rfl⟩
    refine G2 2 [] [22] [] E ?_
    cases hb4957
    have hq_ := hq4957 _ E
    subst hq_
    exact Ce E ⟨rfl, fE E, sE [] 0 E, rfl⟩
  rintro _ _ _ _ h _ ⟨rfl, hF4954, hS4954, rfl⟩
  replace h := osum_l h
  refine Atn 0 hF4954 hS4954 E E (G0 4 E ?_)
  cases h
  exact Rt [] E E (Ug [] 0 hR)

theorem recyclingref20_one_fn  {v1 : T_api_Vehicle} {nodes1 : Int} {materials1 : Int}  {res1 : Int}
     (h : recyclingref20_one v1 nodes1 materials1 = some res1)
    (hR : R (.int .i64 res1) μ (L)) :
    Fn Try.prog 47 [.agg #[.string v1.ID, .int .i64 v1.Depot, .int .i64 v1.Shift.From, .int .i64 v1.Shift.To, .int .i64 v1.Grams, .int .i64 v1.Kinds], .int .i64 nodes1, .int .i64 materials1] μ (L) R := by
  unfold recyclingref20_one at h
  refine FnS Try.func47 (by kernel_rfl) E Try.ntmps47 E E ?_
  refine G0 2 E (Al E fun _ => Q1 7 [0] E (Cl E ?_))
  obtain ⟨_, hx1, h⟩ := obind h
  refine recyclingref04_Valid_fn  hx1 ((Q0 2 E ?_))
  refine Br h 10 E E (fun hc1 h => ?_) (fun hc1 h => ?_)
  · refine G2 5 [10] [] [] E ?_
    cases h
    exact Rt [] E E (Ug [] 1 hR)
  refine G2 4 [] [10] [] E ?_
  refine Cut h (fun f l o_ f_ μ_ l_ => ∃ (v2 : Bool), v2 = o_ ∧ SubFr ((19, .bool v2) :: keepF [2, 3] f) f_ ∧ SegSub l l_ ∧ μ = μ_) ?_ ?_
  · intro _ h4959 h
    refine G1 5 [0] E ?_
    refine Br h4959 14 E E (fun hc2 h4959 => ?_) (fun hc2 h4959 => ?_)
    · refine G2 6 [14] [] [] E ?_
      cases h4959
      exact Ce E ⟨_, rfl, fE E, sE [some 0] 1 E, rfl⟩
    refine G2 6 [] [14] [0] E ?_
    cases h4959
    exact Ce E ⟨_, rfl, fE E, sE [some 0] 1 E, rfl⟩
  rintro _ _ _ _ h _ ⟨v2, rfl, hF4959, hS4959, rfl⟩
  refine Atn 1 hF4959 hS4959 E E ?_
  refine Br h 19 E E (fun hc3 h => ?_) (fun hc3 h => ?_)
  · refine G2 5 [19] [] [] E ?_
    cases h
    exact Rt [] E E (Ug [] 1 hR)
  refine G2 4 [] [19] [] E ?_
  refine Cut h (fun f l o_ f_ μ_ l_ => ∃ (v3 : Bool), v3 = o_ ∧ SubFr ((38, .bool v3) :: keepF [2, 3] f) f_ ∧ SegSub l l_ ∧ μ = μ_) ?_ ?_
  · intro _ h4962 h
    refine G1 6 [0] E ?_
    refine Br h4962 24 E E (fun hc4 h4962 => ?_) (fun hc4 h4962 => ?_)
    · refine G2 15 [24, 33] [] [] E ?_
      cases h4962
      exact Ce E ⟨_, rfl, fE E, sE [some 0] 1 E, rfl⟩
    refine G2 9 [] [24] [0, 0] E ?_
    refine Br h4962 33 E E (fun hc5 h4962 => ?_) (fun hc5 h4962 => ?_)
    · refine G2 6 [33] [] [] E ?_
      cases h4962
      exact Ce E ⟨_, rfl, fE E, sE [some 0] 1 E, rfl⟩
    refine G2 6 [] [33] [0] E ?_
    cases h4962
    exact Ce E ⟨_, rfl, fE E, sE [some 0] 1 E, rfl⟩
  rintro _ _ _ _ h _ ⟨v3, rfl, hF4962, hS4962, rfl⟩
  refine Atn 1 hF4962 hS4962 E E ?_
  refine Br h 38 E E (fun hc6 h => ?_) (fun hc6 h => ?_)
  · refine G2 5 [38] [] [] E ?_
    cases h
    exact Rt [] E E (Ug [] 1 hR)
  refine G2 4 [] [38] [] E ?_
  refine Cut h (fun f l o_ f_ μ_ l_ => ∃ (v4 : Bool), v4 = o_ ∧ SubFr ((46, .bool v4) :: keepF [2, 3] f) f_ ∧ SegSub l l_ ∧ μ = μ_) ?_ ?_
  · intro _ h4965 h
    refine G1 5 [0] E ?_
    refine Br h4965 42 E E (fun hc7 h4965 => ?_) (fun hc7 h4965 => ?_)
    · refine G2 5 [42] [] [] E ?_
      cases h4965
      exact Ce E ⟨_, rfl, fE E, sE [some 0] 1 E, rfl⟩
    refine G2 5 [] [42] [0] E ?_
    cases h4965
    exact Ce E ⟨_, rfl, fE E, sE [some 0] 1 E, rfl⟩
  rintro _ _ _ _ h _ ⟨v4, rfl, hF4965, hS4965, rfl⟩
  refine Atn 1 hF4965 hS4965 E E ?_
  refine Br h 46 E E (fun hc8 h => ?_) (fun hc8 h => ?_)
  · refine G2 5 [46] [] [] E ?_
    cases h
    exact Rt [] E E (Ug [] 1 hR)
  refine G2 4 [] [46] [] E ?_
  refine Cut h (fun f l o_ f_ μ_ l_ => ∃ (v5 : Bool), v5 = o_ ∧ SubFr ((56, .bool v5) :: []) f_ ∧ SegSub (selS [] 1 l) l_ ∧ μ = μ_) ?_ ?_
  · intro _ h4968 h
    refine Dr _ Kept.refl [(true, 0), (true, 1), (true, 2), (true, 3), (true, 4), (true, 5), (true, 6), (true, 7), (true, 8), (true, 9)] (by kernel_rfl) (G1 4 [0] E ?_)
    refine Br h4968 50 E E (fun hc9 h4968 => ?_) (fun hc9 h4968 => ?_)
    · refine G2 7 [50] [] [] E ?_
      cases h4968
      exact Ce E ⟨_, rfl, fE E, sE [] 1 E, rfl⟩
    refine G2 3 [] [50] [0] E (Rdo E E ?_)
    obtain ⟨_, hg1, h4968⟩ := obind h4968
    refine R_shlD E E E (guardO_some hg1) (Q2 3 [] [50] [] E ?_)
    cases h4968
    exact Ce E ⟨_, rfl, fE E, sE [] 1 E, rfl⟩
  rintro _ _ _ _ h _ ⟨v5, rfl, hF4968, hS4968, rfl⟩
  refine Atn 0 hF4968 hS4968 E E ?_
  refine Br h 56 E E (fun hc10 h => ?_) (fun hc10 h => ?_)
  · refine G2 5 [56] [] [] E ?_
    cases h
    exact Rt [] E E (Ug [] 0 hR)
  refine G2 6 [] [56] [] E ?_
  cases h
  exact Rt [] E E (Ug [] 0 hR)

theorem recyclingref20_Check_fn  {l1 : (List T_api_Vehicle)} {nodes1 : Int} {materials1 : Int} {A1 : Option Addr} {c1 : Nat} {res1 : Int}
    (hl1 : l1.length ≤ c1 ∧ c1 ≤ maxLen) (hA1 : Rds r_api_Vehicle μ L A1 l1) (h : recyclingref20_Check l1 nodes1 materials1 = some res1)
    (hR : R (.int .i64 res1) μ (L)) :
    Fn Try.prog 32 [.slice A1 l1.length c1, .int .i64 nodes1, .int .i64 materials1] μ (L) R := by
  unfold recyclingref20_Check at h
  refine FnS Try.func32 (by kernel_rfl) E Try.ntmps32 E E ?_
  refine G0 6 E ?_
  refine Cut h (fun f l o_ f_ μ_ l_ => ∃ (v1 : Bool), v1 = o_ ∧ SubFr ((24, .bool v1) :: keepF [0, 1, 2] f) f_ ∧ SegSub l l_ ∧ μ = μ_) ?_ ?_
  · intro _ h4948 h
    refine G0 4 E ?_
    refine Br h4948 13 E E (fun hc1 h4948 => ?_) (fun hc1 h4948 => ?_)
    · refine G2 12 [13, 17, 21] [] [] E ?_
      cases h4948
      exact Ce E ⟨_, rfl, fE E, sE [] 0 E, rfl⟩
    refine G2 4 [] [13] [] E ?_
    refine Br h4948 17 E E (fun hc2 h4948 => ?_) (fun hc2 h4948 => ?_)
    · refine G2 8 [17, 21] [] [] E ?_
      cases h4948
      exact Ce E ⟨_, rfl, fE E, sE [] 0 E, rfl⟩
    refine G2 4 [] [17] [] E ?_
    refine Br h4948 21 E E (fun hc3 h4948 => ?_) (fun hc3 h4948 => ?_)
    · refine G2 4 [21] [] [] E ?_
      cases h4948
      exact Ce E ⟨_, rfl, fE E, sE [] 0 E, rfl⟩
    refine G2 4 [] [21] [] E ?_
    cases h4948
    exact Ce E ⟨_, rfl, fE E, sE [] 0 E, rfl⟩
  rintro _ _ _ _ h _ ⟨v1, rfl, hF4948, hS4948, rfl⟩
  refine Atn 0 hF4948 hS4948 E E ?_
  refine Br h 24 E E (fun hc4 h => ?_) (fun hc4 h => ?_)
  · refine G2 5 [24] [] [] E ?_
    cases h
    exact Rt [] E E (Ug [] 0 hR)
  refine G2 9 [] [24] [] E ?_
  refine Br h 27 E E (fun hc5 h => ?_) (fun hc5 h => ?_)
  · refine G2 5 [27] [] [] E ?_
    cases h
    exact Rt [] E E (Ug [] 0 hR)
  refine G2 9 [] [27] [] E ?_
  refine Br h 30 E E (fun hc6 h => ?_) (fun hc6 h => ?_)
  · refine G2 5 [30] [] [] E ?_
    cases h
    exact Rt [] E E (Ug [] 0 hR)
  refine G2 7 [] [30] [] E ?_
  refine Cut h (fun f l o_ f_ μ_ l_ => (.inl ()) = o_ ∧ SubFr (keepF [0] f) f_ ∧ SegSub l l_ ∧ μ = μ_) ?_ ?_
  · intro _ h4949 h
    refine Lp h4949 (fun f l (i1 : Int) f_ μ_ l_ => SubFr ((7, .int .i64 i1) :: keepF [0, 1, 2] f) f_ ∧ SegSub l l_ ∧ μ = μ_) ⟨fE E, sE [] 0 E, E⟩ ?_
    rintro i1 _ _ _ _ _ ⟨hF4969, hS4969, rfl⟩ hb4969 hq4969
    unfold recyclingref20_Check_l1 at hb4969
    refine Atn 0 hF4969 hS4969 E E (G0 8 E ?_)
    refine Br hb4969 34 E E (fun hc7 hb4969 => ?_) (fun hc7 hb4969 => ?_)
    · refine G2 8 [34] [] [] E (Ix hb4969 hA1 E E fun _ _ _ _ hr1 hc8 _ hb4969 => ?_)
      obtain rfl := hr1
      refine Q3 3 [] [] [64] (Z1 hc8) E (Cl E ?_)
      obtain ⟨_, hx2, hb4969⟩ := obind hb4969
      refine recyclingref20_one_fn  hx2 ((Q0 7 E ?_))
      refine Br hb4969 45 E E (fun hc9 hb4969 => ?_) (fun hc9 hb4969 => ?_)
      · refine G2 6 [45] [] [] E ?_
        cases hb4969
        have hq_ := hq4969 _ E
        subst hq_
        replace h := osum_r h
        cases h
        exact Rt [] E E (Ug [] 0 hR)
      refine G2 8 [] [45] [] E ?_
      cases hb4969
      exact Ce E ⟨_, rfl, fE E, sE [] 0 E, rfl⟩
    refine G2 2 [] [34] [] E ?_
    cases hb4969
    have hq_ := hq4969 _ E
    subst hq_
    exact Ce E ⟨rfl, fE E, sE [] 0 E, rfl⟩
  rintro _ _ _ _ h _ ⟨rfl, hF4949, hS4949, rfl⟩
  replace h := osum_l h
  refine Atn 0 hF4949 hS4949 E E (G0 5 E ?_)
  refine Cut h (fun f l o_ f_ μ_ l_ => (.inl ()) = o_ ∧ SubFr ([]) f_ ∧ SegSub l l_ ∧ μ = μ_) ?_ ?_
  · intro _ h4970 h
    refine Lp h4970 (fun f l (i2 : Int) f_ μ_ l_ => SubFr ((9, .int .i64 i2) :: keepF [0] f) f_ ∧ SegSub l l_ ∧ μ = μ_) ⟨fE E, sE [] 0 E, E⟩ ?_
    rintro i2 _ _ _ _ _ ⟨hF4976, hS4976, rfl⟩ hb4976 hq4976
    unfold recyclingref20_Check_l3 at hb4976
    refine Atn 0 hF4976 hS4976 E E (G0 8 E ?_)
    refine Br hb4976 50 E E (fun hc10 hb4976 => ?_) (fun hc10 hb4976 => ?_)
    · refine G2 3 [50] [] [] E ?_
      refine Cut hb4976 (fun f l o_ f_ μ_ l_ => (.inl ()) = o_ ∧ SubFr (keepF [0, 9] f) f_ ∧ SegSub l l_ ∧ μ = μ_) ?_ ?_
      · intro _ h4977 hb4976
        refine G0 5 E ?_
        refine Cut h4977 (fun f l o_ f_ μ_ l_ => (.inl ()) = o_ ∧ SubFr (keepF [0, 9] f) f_ ∧ SegSub l l_ ∧ μ = μ_) ?_ ?_
        · intro _ h4978 h4977
          refine Lp h4978 (fun f l (k1 : Int) f_ μ_ l_ => SubFr ((10, .int .i64 k1) :: keepF [0, 9] f) f_ ∧ SegSub l l_ ∧ μ = μ_) ⟨fE E, sE [] 0 E, E⟩ ?_
          rintro k1 _ _ _ _ _ ⟨hF4980, hS4980, rfl⟩ hb4980 hq4980
          unfold recyclingref20_Check_l2 at hb4980
          refine Atn 0 hF4980 hS4980 E E (G0 7 E ?_)
          refine Br hb4980 55 E E (fun hc11 hb4980 => ?_) (fun hc11 hb4980 => ?_)
          · refine G2 5 [55] [] [] E (Dr _ Kept.refl [(true, 0), (true, 1), (true, 2), (true, 3), (true, 4), (true, 5), (true, 6), (true, 7), (true, 8), (true, 9), (true, 10)] (by kernel_rfl) (G0 2 E (Ix hb4980 hA1 E E fun _ _ _ _ hr2 hc12 _ hb4980 => ?_)))
            obtain rfl := hr2
            refine Q3 4 [] [] [64] (Z1 hc12) E (Ix hb4980 hA1 E E fun _ _ _ _ hr3 hc13 _ hb4980 => ?_)
            obtain rfl := hr3
            refine Q3 2 [] [] [64] (Z1 hc13) E (Rdo E E (R_eqSg Tt_ok E E E E (Q0 1 E ?_)))
            refine Br hb4980 68 E E (fun hc14 hb4980 => ?_) (fun hc14 hb4980 => ?_)
            · refine G2 5 [68] [] [] E ?_
              cases hb4980
              have hq_ := hq4980 _ E
              subst hq_
              replace h4977 := osum_r h4977
              cases h4977
              replace hb4976 := osum_r hb4976
              cases hb4976
              have hq_ := hq4976 _ E
              subst hq_
              replace h := osum_r h
              cases h
              exact Rt [] E E (Ug [] 0 hR)
            refine G2 8 [] [68] [] E ?_
            cases hb4980
            exact Ce E ⟨_, rfl, fE E, sE [] 0 E, rfl⟩
          refine G2 2 [] [55] [] E ?_
          cases hb4980
          have hq_ := hq4980 _ E
          subst hq_
          exact Ce E ⟨rfl, fE E, sE [] 0 E, rfl⟩
        rintro _ _ _ _ h4977 _ ⟨rfl, hF4978, hS4978, rfl⟩
        replace h4977 := osum_l h4977
        refine G0 1 E ?_
        cases h4977
        exact Ce E ⟨rfl, hF4978.tr E, hS4978.tr (sE [] 0 E), rfl⟩
      rintro _ _ _ _ hb4976 _ ⟨rfl, hF4977, hS4977, rfl⟩
      replace hb4976 := osum_l hb4976
      refine Atn 0 hF4977 hS4977 E E (G0 5 E ?_)
      cases hb4976
      exact Ce E ⟨_, rfl, fE E, sE [] 0 E, rfl⟩
    refine G2 2 [] [50] [] E ?_
    cases hb4976
    have hq_ := hq4976 _ E
    subst hq_
    exact Ce E ⟨rfl, fE E, sE [] 0 E, rfl⟩
  rintro _ _ _ _ h _ ⟨rfl, hF4970, hS4970, rfl⟩
  replace h := osum_l h
  refine Atn 0 hF4970 hS4970 E E (G0 4 E ?_)
  cases h
  exact Rt [] E E (Ug [] 0 hR)

theorem recyclingref21_Check_fn  {l1 : (List T_api_Demand)} {nodes1 : Int} {materials1 : Int} {A1 : Option Addr} {c1 : Nat} {res1 : Int}
    (hl1 : l1.length ≤ c1 ∧ c1 ≤ maxLen) (hA1 : Rds r_api_Demand μ L A1 l1) (h : recyclingref21_Check l1 nodes1 materials1 = some res1)
    (hR : R (.int .i64 res1) μ (L)) :
    Fn Try.prog 33 [.slice A1 l1.length c1, .int .i64 nodes1, .int .i64 materials1] μ (L) R := by
  unfold recyclingref21_Check at h
  refine FnS Try.func33 (by kernel_rfl) E Try.ntmps33 E E ?_
  refine G0 11 E ?_
  refine Br h 13 E E (fun hc1 h => ?_) (fun hc1 h => ?_)
  · refine G2 5 [13] [] [] E ?_
    cases h
    exact Rt [] E E (Ug [] 0 hR)
  refine G2 7 [] [13] [] E ?_
  refine Cut h (fun f l o_ f_ μ_ l_ => (.inl ()) = o_ ∧ SubFr (keepF [0] f) f_ ∧ SegSub l l_ ∧ μ = μ_) ?_ ?_
  · intro _ h4982 h
    refine Lp h4982 (fun f l (i1 : Int) f_ μ_ l_ => SubFr ((7, .int .i64 i1) :: keepF [0, 1, 2] f) f_ ∧ SegSub l l_ ∧ μ = μ_) ⟨fE E, sE [] 0 E, E⟩ ?_
    rintro i1 _ _ _ _ _ ⟨hF4990, hS4990, rfl⟩ hb4990 hq4990
    unfold recyclingref21_Check_l1 at hb4990
    refine Atn 0 hF4990 hS4990 E E (G0 8 E ?_)
    refine Br hb4990 17 E E (fun hc2 hb4990 => ?_) (fun hc2 hb4990 => ?_)
    · refine G2 8 [17] [] [] E (Ix hb4990 hA1 E E fun _ _ _ _ hr1 hc3 _ hb4990 => ?_)
      obtain rfl := hr1
      refine Q3 1 [] [] [64] (Z1 hc3) E (Al E fun _ => Q1 4 [0] E ?_)
      refine Cut hb4990 (fun f l o_ f_ μ_ l_ => ∃ (v1 : Bool), v1 = o_ ∧ SubFr ((53, .bool v1) :: keepF [0, 1, 2, 7, 8] f) f_ ∧ SegSub l l_ ∧ μ = μ_) ?_ ?_
      · intro _ h4993 hb4990
        refine G1 5 [0] E ?_
        refine Br h4993 27 E E (fun hc4 h4993 => ?_) (fun hc4 h4993 => ?_)
        · refine G2 27 [27, 32, 37, 43, 48] [] [] E ?_
          cases h4993
          exact Ce E ⟨_, rfl, fE E, sE [some 0] 1 E, rfl⟩
        refine G2 5 [] [27] [0] E ?_
        refine Br h4993 32 E E (fun hc5 h4993 => ?_) (fun hc5 h4993 => ?_)
        · refine G2 22 [32, 37, 43, 48] [] [] E ?_
          cases h4993
          exact Ce E ⟨_, rfl, fE E, sE [some 0] 1 E, rfl⟩
        refine G2 5 [] [32] [0] E ?_
        refine Br h4993 37 E E (fun hc6 h4993 => ?_) (fun hc6 h4993 => ?_)
        · refine G2 17 [37, 43, 48] [] [] E ?_
          cases h4993
          exact Ce E ⟨_, rfl, fE E, sE [some 0] 1 E, rfl⟩
        refine G2 6 [] [37] [0] E ?_
        refine Br h4993 43 E E (fun hc7 h4993 => ?_) (fun hc7 h4993 => ?_)
        · refine G2 11 [43, 48] [] [] E ?_
          cases h4993
          exact Ce E ⟨_, rfl, fE E, sE [some 0] 1 E, rfl⟩
        refine G2 5 [] [43] [0] E ?_
        refine Br h4993 48 E E (fun hc8 h4993 => ?_) (fun hc8 h4993 => ?_)
        · refine G2 6 [48] [] [] E ?_
          cases h4993
          exact Ce E ⟨_, rfl, fE E, sE [some 0] 1 E, rfl⟩
        refine G2 6 [] [48] [0] E ?_
        cases h4993
        exact Ce E ⟨_, rfl, fE E, sE [some 0] 1 E, rfl⟩
      rintro _ _ _ _ hb4990 _ ⟨v1, rfl, hF4993, hS4993, rfl⟩
      refine Atn 1 hF4993 hS4993 E E ?_
      refine Br hb4990 53 E E (fun hc9 hb4990 => ?_) (fun hc9 hb4990 => ?_)
      · refine G2 5 [53] [] [] E ?_
        cases hb4990
        have hq_ := hq4990 _ E
        subst hq_
        replace h := osum_r h
        cases h
        exact Rt [] E E (Ug [] 1 hR)
      refine G2 3 [] [53] [] E ?_
      refine Cut hb4990 (fun f l o_ f_ μ_ l_ => ∃ (v2 : Bool), v2 = o_ ∧ SubFr ((92, .bool v2) :: keepF [0, 1, 2, 7] f) f_ ∧ SegSub (selS [] 1 l) l_ ∧ μ = μ_) ?_ ?_
      · intro _ h4996 hb4990
        refine G1 5 [0] E ?_
        refine Br h4996 57 E E (fun hc10 h4996 => ?_) (fun hc10 h4996 => ?_)
        · refine G2 36 [57, 62, 68, 77, 83, 88] [] [] E ?_
          cases h4996
          exact Ce E ⟨_, rfl, fE E, sE [] 1 E, rfl⟩
        refine G2 5 [] [57] [0] E ?_
        refine Br h4996 62 E E (fun hc11 h4996 => ?_) (fun hc11 h4996 => ?_)
        · refine G2 31 [62, 68, 77, 83, 88] [] [] E ?_
          cases h4996
          exact Ce E ⟨_, rfl, fE E, sE [] 1 E, rfl⟩
        refine G2 6 [] [62] [0] E ?_
        refine Br h4996 68 E E (fun hc12 h4996 => ?_) (fun hc12 h4996 => ?_)
        · refine G2 25 [68, 77, 83, 88] [] [] E ?_
          cases h4996
          exact Ce E ⟨_, rfl, fE E, sE [] 1 E, rfl⟩
        refine G2 9 [] [68] [0, 0] E ?_
        refine Br h4996 77 E E (fun hc13 h4996 => ?_) (fun hc13 h4996 => ?_)
        · refine G2 16 [77, 83, 88] [] [] E ?_
          cases h4996
          exact Ce E ⟨_, rfl, fE E, sE [] 1 E, rfl⟩
        refine G2 6 [] [77] [0] E ?_
        refine Br h4996 83 E E (fun hc14 h4996 => ?_) (fun hc14 h4996 => ?_)
        · refine G2 10 [83, 88] [] [] E ?_
          cases h4996
          exact Ce E ⟨_, rfl, fE E, sE [] 1 E, rfl⟩
        refine G2 5 [] [83] [0] E ?_
        refine Br h4996 88 E E (fun hc15 h4996 => ?_) (fun hc15 h4996 => ?_)
        · refine G2 5 [88] [] [] E ?_
          cases h4996
          exact Ce E ⟨_, rfl, fE E, sE [] 1 E, rfl⟩
        refine G2 5 [] [88] [0] E ?_
        cases h4996
        exact Ce E ⟨_, rfl, fE E, sE [] 1 E, rfl⟩
      rintro _ _ _ _ hb4990 _ ⟨v2, rfl, hF4996, hS4996, rfl⟩
      refine Atn 0 hF4996 hS4996 E E ?_
      refine Br hb4990 92 E E (fun hc16 hb4990 => ?_) (fun hc16 hb4990 => ?_)
      · refine G2 5 [92] [] [] E ?_
        cases hb4990
        have hq_ := hq4990 _ E
        subst hq_
        replace h := osum_r h
        cases h
        exact Rt [] E E (Ug [] 0 hR)
      refine G2 8 [] [92] [] E ?_
      cases hb4990
      exact Ce E ⟨_, rfl, fE E, sE [] 0 E, rfl⟩
    refine G2 2 [] [17] [] E ?_
    cases hb4990
    have hq_ := hq4990 _ E
    subst hq_
    exact Ce E ⟨rfl, fE E, sE [] 0 E, rfl⟩
  rintro _ _ _ _ h _ ⟨rfl, hF4982, hS4982, rfl⟩
  replace h := osum_l h
  refine Atn 0 hF4982 hS4982 E E (G0 5 E ?_)
  refine Cut h (fun f l o_ f_ μ_ l_ => (.inl ()) = o_ ∧ SubFr ([]) f_ ∧ SegSub l l_ ∧ μ = μ_) ?_ ?_
  · intro _ h4997 h
    refine Lp h4997 (fun f l (i2 : Int) f_ μ_ l_ => SubFr ((9, .int .i64 i2) :: keepF [0] f) f_ ∧ SegSub l l_ ∧ μ = μ_) ⟨fE E, sE [] 0 E, E⟩ ?_
    rintro i2 _ _ _ _ _ ⟨hF5003, hS5003, rfl⟩ hb5003 hq5003
    unfold recyclingref21_Check_l3 at hb5003
    refine Atn 0 hF5003 hS5003 E E (G0 8 E ?_)
    refine Br hb5003 96 E E (fun hc17 hb5003 => ?_) (fun hc17 hb5003 => ?_)
    · refine G2 3 [96] [] [] E ?_
      refine Cut hb5003 (fun f l o_ f_ μ_ l_ => (.inl ()) = o_ ∧ SubFr (keepF [0, 9] f) f_ ∧ SegSub l l_ ∧ μ = μ_) ?_ ?_
      · intro _ h5004 hb5003
        refine G0 5 E ?_
        refine Cut h5004 (fun f l o_ f_ μ_ l_ => (.inl ()) = o_ ∧ SubFr (keepF [0, 9] f) f_ ∧ SegSub l l_ ∧ μ = μ_) ?_ ?_
        · intro _ h5005 h5004
          refine Lp h5005 (fun f l (k1 : Int) f_ μ_ l_ => SubFr ((10, .int .i64 k1) :: keepF [0, 9] f) f_ ∧ SegSub l l_ ∧ μ = μ_) ⟨fE E, sE [] 0 E, E⟩ ?_
          rintro k1 _ _ _ _ _ ⟨hF5007, hS5007, rfl⟩ hb5007 hq5007
          unfold recyclingref21_Check_l2 at hb5007
          refine Atn 0 hF5007 hS5007 E E (G0 7 E ?_)
          refine Br hb5007 101 E E (fun hc18 hb5007 => ?_) (fun hc18 hb5007 => ?_)
          · refine G2 5 [101] [] [] E (Dr _ Kept.refl [(true, 0), (true, 1), (true, 2), (true, 3), (true, 4), (true, 5), (true, 6), (true, 7), (true, 8), (true, 9), (true, 10)] (by kernel_rfl) (G0 2 E (Ix hb5007 hA1 E E fun _ _ _ _ hr2 hc19 _ hb5007 => ?_)))
            obtain rfl := hr2
            refine Q3 4 [] [] [64] (Z1 hc19) E (Ix hb5007 hA1 E E fun _ _ _ _ hr3 hc20 _ hb5007 => ?_)
            obtain rfl := hr3
            refine Q3 4 [] [] [64] (Z1 hc20) E ?_
            refine Br hb5007 114 E E (fun hc21 hb5007 => ?_) (fun hc21 hb5007 => ?_)
            · refine G2 5 [114] [] [] E ?_
              cases hb5007
              have hq_ := hq5007 _ E
              subst hq_
              replace h5004 := osum_r h5004
              cases h5004
              replace hb5003 := osum_r hb5003
              cases hb5003
              have hq_ := hq5003 _ E
              subst hq_
              replace h := osum_r h
              cases h
              exact Rt [] E E (Ug [] 0 hR)
            refine G2 8 [] [114] [] E ?_
            cases hb5007
            exact Ce E ⟨_, rfl, fE E, sE [] 0 E, rfl⟩
          refine G2 2 [] [101] [] E ?_
          cases hb5007
          have hq_ := hq5007 _ E
          subst hq_
          exact Ce E ⟨rfl, fE E, sE [] 0 E, rfl⟩
        rintro _ _ _ _ h5004 _ ⟨rfl, hF5005, hS5005, rfl⟩
        replace h5004 := osum_l h5004
        refine G0 1 E ?_
        cases h5004
        exact Ce E ⟨rfl, hF5005.tr E, hS5005.tr (sE [] 0 E), rfl⟩
      rintro _ _ _ _ hb5003 _ ⟨rfl, hF5004, hS5004, rfl⟩
      replace hb5003 := osum_l hb5003
      refine Atn 0 hF5004 hS5004 E E (G0 5 E ?_)
      cases hb5003
      exact Ce E ⟨_, rfl, fE E, sE [] 0 E, rfl⟩
    refine G2 2 [] [96] [] E ?_
    cases hb5003
    have hq_ := hq5003 _ E
    subst hq_
    exact Ce E ⟨rfl, fE E, sE [] 0 E, rfl⟩
  rintro _ _ _ _ h _ ⟨rfl, hF4997, hS4997, rfl⟩
  replace h := osum_l h
  refine Atn 0 hF4997 hS4997 E E (G0 4 E ?_)
  cases h
  exact Rt [] E E (Ug [] 0 hR)

theorem recyclingref22_Check_fn  {p1 : T_api_Problem} {A1 : Option Addr} {c1 : Nat} {A2 : Option Addr} {c2 : Nat} {A3 : Option Addr} {c3 : Nat} {res1 : Int}
    (hl1 : p1.Road.Edges.length ≤ c1 ∧ c1 ≤ maxLen) (hA1 : ArrR r_api_Edge μ A1 p1.Road.Edges) (hl2 : p1.Vehicles.length ≤ c2 ∧ c2 ≤ maxLen) (hA2 : ArrR r_api_Vehicle μ A2 p1.Vehicles) (hl3 : p1.Demands.length ≤ c3 ∧ c3 ≤ maxLen) (hA3 : ArrR r_api_Demand μ A3 p1.Demands) (h : recyclingref22_Check p1 = some res1)
    (hR : R (.int .i64 res1) μ (L)) :
    Fn Try.prog 14 [.agg #[.int .i64 p1.Road.Nodes, .slice A1 p1.Road.Edges.length c1, .slice A2 p1.Vehicles.length c2, .slice A3 p1.Demands.length c3, .int .i64 p1.Unload, .int .i64 p1.UnloadSecs]] μ (L) R := by
  unfold recyclingref22_Check at h
  refine FnS Try.func14 (by kernel_rfl) E Try.ntmps14 E E ?_
  refine G0 2 E (Al E fun _ => Q1 7 [0] E (Cl E ?_))
  obtain ⟨_, hx1, h⟩ := obind h
  refine recyclingref19_Check_fn hl1 hA1 hx1 ((Q0 7 E ?_))
  refine Br h 10 E E (fun hc1 h => ?_) (fun hc1 h => ?_)
  · refine G2 6 [10] [] [] E ?_
    cases h
    exact Rt [] E E (Ug [] 1 hR)
  refine G2 10 [] [10] [0, 0] E (Cl E ?_)
  obtain ⟨_, hx2, h⟩ := obind h
  refine recyclingref20_Check_fn hl2 (ArrR.rds hA2 _) hx2 ((Q0 7 E ?_))
  refine Br h 19 E E (fun hc2 h => ?_) (fun hc2 h => ?_)
  · refine G2 6 [19] [] [] E ?_
    cases h
    exact Rt [] E E (Ug [] 1 hR)
  refine G2 10 [] [19] [0, 0] E (Cl E ?_)
  obtain ⟨_, hx3, h⟩ := obind h
  refine recyclingref21_Check_fn hl3 (ArrR.rds hA3 _) hx3 ((Q0 7 E ?_))
  refine Br h 28 E E (fun hc3 h => ?_) (fun hc3 h => ?_)
  · refine G2 6 [28] [] [] E ?_
    cases h
    exact Rt [] E E (Ug [] 1 hR)
  refine G2 4 [] [28] [] E ?_
  refine Cut h (fun f l o_ f_ μ_ l_ => ∃ (v1 : Bool), v1 = o_ ∧ SubFr ((40, .bool v1) :: keepF [1] f) f_ ∧ SegSub l l_ ∧ μ = μ_) ?_ ?_
  · intro _ h5008 h
    refine G1 5 [0] E ?_
    refine Br h5008 33 E E (fun hc4 h5008 => ?_) (fun hc4 h5008 => ?_)
    · refine G2 8 [33] [] [] E ?_
      cases h5008
      exact Ce E ⟨_, rfl, fE E, sE [some 0] 1 E, rfl⟩
    refine G2 8 [] [33] [0, 0] E ?_
    cases h5008
    exact Ce E ⟨_, rfl, fE E, sE [some 0] 1 E, rfl⟩
  rintro _ _ _ _ h _ ⟨v1, rfl, hF5008, hS5008, rfl⟩
  refine Atn 1 hF5008 hS5008 E E ?_
  refine Br h 40 E E (fun hc5 h => ?_) (fun hc5 h => ?_)
  · refine G2 5 [40] [] [] E ?_
    cases h
    exact Rt [] E E (Ug [] 1 hR)
  refine G2 4 [] [40] [] E ?_
  refine Cut h (fun f l o_ f_ μ_ l_ => ∃ (v2 : Bool), v2 = o_ ∧ SubFr ((48, .bool v2) :: []) f_ ∧ SegSub (selS [] 1 l) l_ ∧ μ = μ_) ?_ ?_
  · intro _ h5011 h
    refine G1 5 [0] E ?_
    refine Br h5011 44 E E (fun hc6 h5011 => ?_) (fun hc6 h5011 => ?_)
    · refine G2 5 [44] [] [] E ?_
      cases h5011
      exact Ce E ⟨_, rfl, fE E, sE [] 1 E, rfl⟩
    refine G2 5 [] [44] [0] E ?_
    cases h5011
    exact Ce E ⟨_, rfl, fE E, sE [] 1 E, rfl⟩
  rintro _ _ _ _ h _ ⟨v2, rfl, hF5011, hS5011, rfl⟩
  refine Atn 0 hF5011 hS5011 E E ?_
  refine Br h 48 E E (fun hc7 h => ?_) (fun hc7 h => ?_)
  · refine G2 5 [48] [] [] E ?_
    cases h
    exact Rt [] E E (Ug [] 0 hR)
  refine G2 6 [] [48] [] E ?_
  cases h
  exact Rt [] E E (Ug [] 0 hR)

end Go.Proofs.Ytjbminmhndgiaaa
