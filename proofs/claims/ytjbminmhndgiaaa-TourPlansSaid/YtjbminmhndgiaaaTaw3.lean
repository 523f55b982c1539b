/- Printed by gen.py of this repo: the walks that tie the functions to their specifications. -/
import Derived.Test.YtjbminmhndgiaaaTt
import Derived.Test.YtjbminmhndgiaaaTas
import Derived.Test.YtjbminmhndgiaaaTaw1
namespace Go.Proofs.Ytjbminmhndgiaaa
open Go.RowKit
set_option linter.unusedSimpArgs false
set_option linter.unusedVariables false
set_option maxRecDepth 4000
attribute [local irreducible] WP SemOk SemU Fn AN Upd vcR vcO vcOps vcPlan putK fillK resK inBlk forkOne Cell StAt Kept KS

theorem recyclingref19_Check_fn {μ : Gh} {L : List Seg} {R : Value → Gh → List Seg → Prop}  {r1 : T_api_Road} {A1 : Option Addr} {c1 : Nat} {res1 : Int}
    (hl1 : r1.Edges.length ≤ c1 ∧ c1 ≤ maxLen) (hA1 : ArrR r_api_Edge μ A1 r1.Edges) (h : recyclingref19_Check r1 = some res1)
    (hR : R (.int .i64 res1) μ (L)) :
    Fn Try.prog 31 [.agg #[.int .i64 r1.Nodes, .slice A1 r1.Edges.length c1]] μ (L) R := by
  unfold recyclingref19_Check at h
  refine FnS Try.func31 (by kernel_rfl) E Try.ntmps31 E E ?_
  refine G0 2 E (Al E fun g1 => Q0 4 E ?_)
  refine Cut h (fun f l o_ f_ μ_ l_ => ∃ (v1 : Bool), v1 = o_ ∧ SubFr ((12, .bool v1) :: keepF [1] f) f_ ∧ SegSub l l_ ∧ μ = μ_) ?_ ?_
  · intro o4915 h4915 h
    refine G1 5 [0] E ?_
    refine Br h4915 8 E E (fun hc1 h4915 => ?_) (fun hc1 h4915 => ?_)
    · refine G2 5 [(8, true)] [] E ?_
      cases h4915
      exact Ce E ⟨_, rfl, SubFr.of ⟨rfl, rfl, trivial⟩, SegSub.sel _ [some 0] 1, rfl⟩
    refine G2 5 [(8, false)] [0] E ?_
    cases h4915
    exact Ce E ⟨_, rfl, SubFr.of ⟨rfl, rfl, trivial⟩, SegSub.sel _ [some 0] 1, rfl⟩
  rintro _ fr4915 μ4915 L4915 h hm4915 ⟨v1, rfl, hF4915, hS4915, rfl⟩
  refine Atn 1 hF4915 hS4915 E E ?_
  refine Br h 12 E E (fun hc2 h => ?_) (fun hc2 h => ?_)
  · refine G2 5 [(12, true)] [] E ?_
    cases h
    refine Rt [] E E (Upd.gp [] 1 ?_)
    exact Upd.done hR
  refine G2 10 [(12, false)] [0] E ?_
  refine Br h 16 E E (fun hc3 h => ?_) (fun hc3 h => ?_)
  · refine G2 5 [(16, true)] [] E ?_
    cases h
    refine Rt [] E E (Upd.gp [] 1 ?_)
    exact Upd.done hR
  refine G2 10 [(16, false)] [0] E ?_
  refine Cut h (fun f l o_ f_ μ_ l_ => (.inl ()) = o_ ∧ SubFr ([]) f_ ∧ SegSub (selS [] 1 l) l_ ∧ μ = μ_) ?_ ?_
  · intro o4918 h4918 h
    refine Lp h4918 (fun f l (v2 : Int) f_ μ_ l_ => SubFr ((20, .int .i64 v2) :: keepF [1, 18, 19] f) f_ ∧ SegSub l l_ ∧ μ = μ_) ⟨SubFr.of ⟨rfl, E, E, E, trivial⟩, SegSub.sel _ [some 0] 1, E⟩ ?_
    rintro v2 q4933 fr4933 μ4933 L4933 hm4933 ⟨hF4933, hS4933, rfl⟩ hb4933 hq4933
    unfold recyclingref19_Check_l1 at hb4933
    refine Atn 1 hF4933 hS4933 E E (G0 5 E ?_)
    refine Br hb4933 21 E E (fun hc4 hb4933 => ?_) (fun hc4 hb4933 => ?_)
    · refine G2 6 [(21, true)] [] E (Ix hb4933 (ArrR.rds hA1 L) E E fun x1 a1 cs1 hx1 hr1 hc5 hA2 hb4933 => ?_)
      obtain rfl := hr1
      refine Q3 1 [] [64] (Z1 (hc5.push)) E (Al E fun g2 => Q1 4 [0] E ?_)
      refine Cut hb4933 (fun f l o_ f_ μ_ l_ => ∃ (v3 : Bool), v3 = o_ ∧ SubFr ((45, .bool v3) :: keepF [1, 4, 18, 19, 20] f) f_ ∧ SegSub (selS [some 1, some 0] 2 l) l_ ∧ μ = μ_) ?_ ?_
      · intro o4939 h4939 hb4933
        refine G1 5 [0] E ?_
        refine Br h4939 27 E E (fun hc6 h4939 => ?_) (fun hc6 h4939 => ?_)
        · refine G2 19 [(27, true), (34, true), (39, true)] [] E ?_
          cases h4939
          exact Ce E ⟨_, rfl, SubFr.of ⟨rfl, rfl, rfl, rfl, rfl, rfl, trivial⟩, SegSub.sel _ [some 1, some 0] 2, rfl⟩
        refine G2 7 [(27, false)] [0, 1] E ?_
        refine Br h4939 34 E E (fun hc7 h4939 => ?_) (fun hc7 h4939 => ?_)
        · refine G2 12 [(34, true), (39, true)] [] E ?_
          cases h4939
          exact Ce E ⟨_, rfl, SubFr.of ⟨rfl, rfl, rfl, rfl, rfl, rfl, trivial⟩, SegSub.sel _ [some 1, some 0] 2, rfl⟩
        refine G2 5 [(34, false)] [0] E ?_
        refine Br h4939 39 E E (fun hc8 h4939 => ?_) (fun hc8 h4939 => ?_)
        · refine G2 7 [(39, true)] [] E ?_
          cases h4939
          exact Ce E ⟨_, rfl, SubFr.of ⟨rfl, rfl, rfl, rfl, rfl, rfl, trivial⟩, SegSub.sel _ [some 1, some 0] 2, rfl⟩
        refine G2 7 [(39, false)] [0, 1] E ?_
        cases h4939
        exact Ce E ⟨_, rfl, SubFr.of ⟨rfl, rfl, rfl, rfl, rfl, rfl, trivial⟩, SegSub.sel _ [some 1, some 0] 2, rfl⟩
      rintro _ fr4939 μ4939 L4939 hb4933 hm4939 ⟨v3, rfl, hF4939, hS4939, rfl⟩
      refine Atn 2 hF4939 hS4939 E E ?_
      refine Br hb4933 45 E E (fun hc9 hb4933 => ?_) (fun hc9 hb4933 => ?_)
      · refine G2 5 [(45, true)] [] E ?_
        cases hb4933
        have hq_ := hq4933 _ E
        subst hq_
        replace h := osum_r h
        cases h
        refine Rt [] E E (Upd.gp [] 2 ?_)
        exact Upd.done hR
      refine G2 3 [(45, false)] [] E ?_
      refine Cut hb4933 (fun f l o_ f_ μ_ l_ => ∃ (v4 : Bool), v4 = o_ ∧ SubFr ((70, .bool v4) :: keepF [1, 18, 19, 20] f) f_ ∧ SegSub (selS [some 0] 2 l) l_ ∧ μ = μ_) ?_ ?_
      · intro o4944 h4944 hb4933
        refine G1 7 [1, 1] E ?_
        refine Br h4944 51 E E (fun hc10 h4944 => ?_) (fun hc10 h4944 => ?_)
        · refine G2 20 [(51, true), (56, true), (61, true), (66, true)] [] E ?_
          cases h4944
          exact Ce E ⟨_, rfl, SubFr.of ⟨rfl, rfl, rfl, rfl, rfl, trivial⟩, SegSub.sel _ [some 0] 2, rfl⟩
        refine G2 5 [(51, false)] [1] E ?_
        refine Br h4944 56 E E (fun hc11 h4944 => ?_) (fun hc11 h4944 => ?_)
        · refine G2 15 [(56, true), (61, true), (66, true)] [] E ?_
          cases h4944
          exact Ce E ⟨_, rfl, SubFr.of ⟨rfl, rfl, rfl, rfl, rfl, trivial⟩, SegSub.sel _ [some 0] 2, rfl⟩
        refine G2 5 [(56, false)] [1] E ?_
        refine Br h4944 61 E E (fun hc12 h4944 => ?_) (fun hc12 h4944 => ?_)
        · refine G2 10 [(61, true), (66, true)] [] E ?_
          cases h4944
          exact Ce E ⟨_, rfl, SubFr.of ⟨rfl, rfl, rfl, rfl, rfl, trivial⟩, SegSub.sel _ [some 0] 2, rfl⟩
        refine G2 5 [(61, false)] [1] E ?_
        refine Br h4944 66 E E (fun hc13 h4944 => ?_) (fun hc13 h4944 => ?_)
        · refine G2 5 [(66, true)] [] E ?_
          cases h4944
          exact Ce E ⟨_, rfl, SubFr.of ⟨rfl, rfl, rfl, rfl, rfl, trivial⟩, SegSub.sel _ [some 0] 2, rfl⟩
        refine G2 5 [(66, false)] [1] E ?_
        cases h4944
        exact Ce E ⟨_, rfl, SubFr.of ⟨rfl, rfl, rfl, rfl, rfl, trivial⟩, SegSub.sel _ [some 0] 2, rfl⟩
      rintro _ fr4944 μ4944 L4944 hb4933 hm4944 ⟨v4, rfl, hF4944, hS4944, rfl⟩
      refine Atn 1 hF4944 hS4944 E E ?_
      refine Br hb4933 70 E E (fun hc14 hb4933 => ?_) (fun hc14 hb4933 => ?_)
      · refine G2 5 [(70, true)] [] E ?_
        cases hb4933
        have hq_ := hq4933 _ E
        subst hq_
        replace h := osum_r h
        cases h
        refine Rt [] E E (Upd.gp [] 1 ?_)
        exact Upd.done hR
      refine G2 7 [(70, false)] [] E ?_
      cases hb4933
      exact Ce E ⟨_, rfl, SubFr.of ⟨rfl, rfl, rfl, rfl, trivial⟩, SegSub.sel _ [some 0] 1, rfl⟩
    refine G2 2 [(21, false)] [] E ?_
    cases hb4933
    have hq_ := hq4933 _ E
    subst hq_
    exact Ce E ⟨rfl, SubFr.of trivial, SegSub.sel _ [] 1, rfl⟩
  rintro _ fr4918 μ4918 L4918 h hm4918 ⟨rfl, hF4918, hS4918, rfl⟩
  replace h := osum_l h
  refine Atn 0 hF4918 hS4918 E E (G0 4 E ?_)
  cases h
  refine Rt [] E E (Upd.gp [] 0 ?_)
  exact Upd.done hR

theorem recyclingref04_letter_fn {μ : Gh} {L : List Seg} {R : Value → Gh → List Seg → Prop}  {c1 : Int}  {res1 : Bool}
     (h : recyclingref04_letter c1 = some res1)
    (hR : R (.bool res1) μ (L)) :
    Fn Try.prog 71 [.int .u8 c1] μ (L) R := by
  unfold recyclingref04_letter at h
  refine FnS Try.func71 (by kernel_rfl) E Try.ntmps71 E E ?_
  refine G2 5 [(13, false)] [] E ?_
  refine Cut h (fun f l o_ f_ μ_ l_ => ∃ (v1 : Bool), v1 = o_ ∧ SubFr ((2, .bool v1) :: []) f_ ∧ SegSub l l_ ∧ μ = μ_) ?_ ?_
  · intro o4953 h4953 h
    refine G0 4 E ?_
    refine Br h4953 5 E E (fun hc1 h4953 => ?_) (fun hc1 h4953 => ?_)
    · refine G2 4 [(5, true)] [] E ?_
      refine Br h4953 9 E E (fun hc2 h4953 => ?_) (fun hc2 h4953 => ?_)
      · refine G2 9 [(9, true)] [] E ?_
        cases h4953
        exact Ce E ⟨_, rfl, SubFr.of ⟨rfl, trivial⟩, SegSub.sel _ [] 0, rfl⟩
      refine G2 3 [(9, false)] [] E ?_
      refine Br h4953 12 E E (fun hc3 h4953 => ?_) (fun hc3 h4953 => ?_)
      · refine G2 6 [(9, false), (12, true)] [] E ?_
        cases h4953
        exact Ce E ⟨_, rfl, SubFr.of ⟨rfl, trivial⟩, SegSub.sel _ [] 0, rfl⟩
      refine G2 6 [(9, false), (12, false)] [] E ?_
      cases h4953
      exact Ce E ⟨_, rfl, SubFr.of ⟨rfl, trivial⟩, SegSub.sel _ [] 0, rfl⟩
    refine G2 7 [(5, false), (9, false)] [] E ?_
    refine Br h4953 12 E E (fun hc4 h4953 => ?_) (fun hc4 h4953 => ?_)
    · refine G2 6 [(9, false), (12, true)] [] E ?_
      cases h4953
      exact Ce E ⟨_, rfl, SubFr.of ⟨rfl, trivial⟩, SegSub.sel _ [] 0, rfl⟩
    refine G2 6 [(9, false), (12, false)] [] E ?_
    cases h4953
    exact Ce E ⟨_, rfl, SubFr.of ⟨rfl, trivial⟩, SegSub.sel _ [] 0, rfl⟩
  rintro _ fr4953 μ4953 L4953 h hm4953 ⟨v1, rfl, hF4953, hS4953, rfl⟩
  refine Atn 0 hF4953 hS4953 E E ?_
  cases h
  refine Rt [] E E (Upd.gp [] 0 ?_)
  exact Upd.done hR

theorem recyclingref04_Valid_fn {μ : Gh} {L : List Seg} {R : Value → Gh → List Seg → Prop}  {s1 : ByteArray}  {res1 : Bool}
     (h : recyclingref04_Valid s1 = some res1)
    (hR : R (.bool res1) μ (L)) :
    Fn Try.prog 62 [.string s1] μ (L) R := by
  unfold recyclingref04_Valid at h
  refine FnS Try.func62 (by kernel_rfl) E Try.ntmps62 E E ?_
  refine G0 6 E ?_
  refine Cut h (fun f l o_ f_ μ_ l_ => ∃ (v1 : Bool), v1 = o_ ∧ SubFr ((18, .bool v1) :: keepF [0] f) f_ ∧ SegSub l l_ ∧ μ = μ_) ?_ ?_
  · intro o4952 h4952 h
    refine G0 5 E ?_
    refine Br h4952 8 E E (fun hc1 h4952 => ?_) (fun hc1 h4952 => ?_)
    · refine G2 11 [(8, true), (13, true)] [] E ?_
      cases h4952
      exact Ce E ⟨_, rfl, SubFr.of ⟨rfl, rfl, trivial⟩, SegSub.sel _ [] 0, rfl⟩
    refine G2 5 [(8, false)] [] E ?_
    refine Br h4952 13 E E (fun hc2 h4952 => ?_) (fun hc2 h4952 => ?_)
    · refine G2 6 [(13, true)] [] E ?_
      cases h4952
      exact Ce E ⟨_, rfl, SubFr.of ⟨rfl, rfl, trivial⟩, SegSub.sel _ [] 0, rfl⟩
    obtain ⟨x1, hb1, h4952⟩ := obind h4952
    refine G2 1 [(13, false)] [] E (Rdo E E (R_idxB Tt_ok E E E E hb1 (Q0 0 E (Cl E ?_))))
    obtain ⟨r1, hx1, h4952⟩ := obind h4952
    refine recyclingref04_letter_fn  hx1 ((Q2 3 [(13, false)] [] E ?_))
    cases h4952
    exact Ce E ⟨_, rfl, SubFr.of ⟨rfl, rfl, trivial⟩, SegSub.sel _ [] 0, rfl⟩
  rintro _ fr4952 μ4952 L4952 h hm4952 ⟨v1, rfl, hF4952, hS4952, rfl⟩
  refine Atn 0 hF4952 hS4952 E E ?_
  refine Br h 18 E E (fun hc3 h => ?_) (fun hc3 h => ?_)
  · refine G2 5 [(18, true)] [] E ?_
    cases h
    refine Rt [] E E (Upd.gp [] 0 ?_)
    exact Upd.done hR
  refine G2 7 [(18, false)] [] E ?_
  refine Cut h (fun f l o_ f_ μ_ l_ => (.inl ()) = o_ ∧ SubFr ([]) f_ ∧ SegSub l l_ ∧ μ = μ_) ?_ ?_
  · intro o4954 h4954 h
    refine Lp h4954 (fun f l (i1 : Int) f_ μ_ l_ => SubFr ((3, .int .i64 i1) :: keepF [0] f) f_ ∧ SegSub l l_ ∧ μ = μ_) ⟨SubFr.of ⟨rfl, E, trivial⟩, SegSub.sel _ [] 0, E⟩ ?_
    rintro i1 q4957 fr4957 μ4957 L4957 hm4957 ⟨hF4957, hS4957, rfl⟩ hb4957 hq4957
    unfold recyclingref04_Valid_l1 at hb4957
    refine Atn 0 hF4957 hS4957 E E (G0 8 E ?_)
    refine Br hb4957 22 E E (fun hc4 hb4957 => ?_) (fun hc4 hb4957 => ?_)
    · obtain ⟨x2, hb2, hb4957⟩ := obind hb4957
      refine G2 8 [(22, true)] [] E (Rdo E E (R_idxB Tt_ok E E E E hb2 (Q0 3 E ?_)))
      refine Cut hb4957 (fun f l o_ f_ μ_ l_ => ∃ (v2 : Bool), v2 = o_ ∧ SubFr ((50, .bool v2) :: keepF [0, 3] f) f_ ∧ SegSub l l_ ∧ μ = μ_) ?_ ?_
      · intro o4958 h4958 hb4957
        refine G0 2 E (Cl E ?_)
        obtain ⟨r2, hx2, h4958⟩ := obind h4958
        refine recyclingref04_letter_fn  hx2 ((Q0 2 E ?_))
        refine Br h4958 31 E E (fun hc5 h4958 => ?_) (fun hc5 h4958 => ?_)
        · refine G2 3 [(31, true)] [] E ?_
          refine Br h4958 34 E E (fun hc6 h4958 => ?_) (fun hc6 h4958 => ?_)
          · refine G2 9 [(31, true), (34, true), (39, true)] [] E ?_
            refine Br h4958 43 E E (fun hc7 h4958 => ?_) (fun hc7 h4958 => ?_)
            · refine G2 4 [(43, true)] [] E ?_
              refine Br h4958 47 E E (fun hc8 h4958 => ?_) (fun hc8 h4958 => ?_)
              · refine G2 4 [(47, true)] [] E ?_
                cases h4958
                exact Ce E ⟨_, rfl, SubFr.of ⟨rfl, rfl, rfl, trivial⟩, SegSub.sel _ [] 0, rfl⟩
              refine G2 4 [(47, false)] [] E ?_
              cases h4958
              exact Ce E ⟨_, rfl, SubFr.of ⟨rfl, rfl, rfl, trivial⟩, SegSub.sel _ [] 0, rfl⟩
            refine G2 8 [(43, false), (47, false)] [] E ?_
            cases h4958
            exact Ce E ⟨_, rfl, SubFr.of ⟨rfl, rfl, rfl, trivial⟩, SegSub.sel _ [] 0, rfl⟩
          refine G2 5 [(31, true), (34, false)] [] E ?_
          refine Br h4958 39 E E (fun hc9 h4958 => ?_) (fun hc9 h4958 => ?_)
          · refine G2 4 [(39, true)] [] E ?_
            refine Br h4958 43 E E (fun hc10 h4958 => ?_) (fun hc10 h4958 => ?_)
            · refine G2 4 [(43, true)] [] E ?_
              refine Br h4958 47 E E (fun hc11 h4958 => ?_) (fun hc11 h4958 => ?_)
              · refine G2 4 [(47, true)] [] E ?_
                cases h4958
                exact Ce E ⟨_, rfl, SubFr.of ⟨rfl, rfl, rfl, trivial⟩, SegSub.sel _ [] 0, rfl⟩
              refine G2 4 [(47, false)] [] E ?_
              cases h4958
              exact Ce E ⟨_, rfl, SubFr.of ⟨rfl, rfl, rfl, trivial⟩, SegSub.sel _ [] 0, rfl⟩
            refine G2 8 [(43, false), (47, false)] [] E ?_
            cases h4958
            exact Ce E ⟨_, rfl, SubFr.of ⟨rfl, rfl, rfl, trivial⟩, SegSub.sel _ [] 0, rfl⟩
          refine G2 12 [(39, false), (43, false), (47, false)] [] E ?_
          cases h4958
          exact Ce E ⟨_, rfl, SubFr.of ⟨rfl, rfl, rfl, trivial⟩, SegSub.sel _ [] 0, rfl⟩
        refine G2 20 [(31, false), (39, false), (43, false), (47, false)] [] E ?_
        cases h4958
        exact Ce E ⟨_, rfl, SubFr.of ⟨rfl, rfl, rfl, trivial⟩, SegSub.sel _ [] 0, rfl⟩
      rintro _ fr4958 μ4958 L4958 hb4957 hm4958 ⟨v2, rfl, hF4958, hS4958, rfl⟩
      refine Atn 0 hF4958 hS4958 E E ?_
      refine Br hb4957 50 E E (fun hc12 hb4957 => ?_) (fun hc12 hb4957 => ?_)
      · refine G2 5 [(50, true)] [] E ?_
        cases hb4957
        have hq_ := hq4957 _ E
        subst hq_
        replace h := osum_r h
        cases h
        refine Rt [] E E (Upd.gp [] 0 ?_)
        exact Upd.done hR
      refine G2 8 [(50, false)] [] E ?_
      cases hb4957
      exact Ce E ⟨_, rfl, SubFr.of ⟨rfl, rfl, trivial⟩, SegSub.sel _ [] 0, rfl⟩
    refine G2 2 [(22, false)] [] E ?_
    cases hb4957
    have hq_ := hq4957 _ E
    subst hq_
    exact Ce E ⟨rfl, SubFr.of trivial, SegSub.sel _ [] 0, rfl⟩
  rintro _ fr4954 μ4954 L4954 h hm4954 ⟨rfl, hF4954, hS4954, rfl⟩
  replace h := osum_l h
  refine Atn 0 hF4954 hS4954 E E (G0 4 E ?_)
  cases h
  refine Rt [] E E (Upd.gp [] 0 ?_)
  exact Upd.done hR

theorem recyclingref20_one_fn {μ : Gh} {L : List Seg} {R : Value → Gh → List Seg → Prop}  {v1 : T_api_Vehicle} {nodes1 : Int} {materials1 : Int}  {res1 : Int}
     (h : recyclingref20_one v1 nodes1 materials1 = some res1)
    (hR : R (.int .i64 res1) μ (L)) :
    Fn Try.prog 47 [.agg #[.string v1.ID, .int .i64 v1.Depot, .int .i64 v1.Shift.From, .int .i64 v1.Shift.To, .int .i64 v1.Grams, .int .i64 v1.Kinds], .int .i64 nodes1, .int .i64 materials1] μ (L) R := by
  unfold recyclingref20_one at h
  refine FnS Try.func47 (by kernel_rfl) E Try.ntmps47 E E ?_
  refine G0 2 E (Al E fun g1 => Q1 7 [0] E (Cl E ?_))
  obtain ⟨r1, hx1, h⟩ := obind h
  refine recyclingref04_Valid_fn  hx1 ((Q0 2 E ?_))
  refine Br h 10 E E (fun hc1 h => ?_) (fun hc1 h => ?_)
  · refine G2 5 [(10, true)] [] E ?_
    cases h
    refine Rt [] E E (Upd.gp [] 1 ?_)
    exact Upd.done hR
  refine G2 4 [(10, false)] [] E ?_
  refine Cut h (fun f l o_ f_ μ_ l_ => ∃ (v2 : Bool), v2 = o_ ∧ SubFr ((19, .bool v2) :: keepF [2, 3] f) f_ ∧ SegSub l l_ ∧ μ = μ_) ?_ ?_
  · intro o4959 h4959 h
    refine G1 5 [0] E ?_
    refine Br h4959 14 E E (fun hc2 h4959 => ?_) (fun hc2 h4959 => ?_)
    · refine G2 6 [(14, true)] [] E ?_
      cases h4959
      exact Ce E ⟨_, rfl, SubFr.of ⟨rfl, rfl, rfl, trivial⟩, SegSub.sel _ [some 0] 1, rfl⟩
    refine G2 6 [(14, false)] [0] E ?_
    cases h4959
    exact Ce E ⟨_, rfl, SubFr.of ⟨rfl, rfl, rfl, trivial⟩, SegSub.sel _ [some 0] 1, rfl⟩
  rintro _ fr4959 μ4959 L4959 h hm4959 ⟨v2, rfl, hF4959, hS4959, rfl⟩
  refine Atn 1 hF4959 hS4959 E E ?_
  refine Br h 19 E E (fun hc3 h => ?_) (fun hc3 h => ?_)
  · refine G2 5 [(19, true)] [] E ?_
    cases h
    refine Rt [] E E (Upd.gp [] 1 ?_)
    exact Upd.done hR
  refine G2 4 [(19, false)] [] E ?_
  refine Cut h (fun f l o_ f_ μ_ l_ => ∃ (v3 : Bool), v3 = o_ ∧ SubFr ((38, .bool v3) :: keepF [2, 3] f) f_ ∧ SegSub l l_ ∧ μ = μ_) ?_ ?_
  · intro o4962 h4962 h
    refine G1 6 [0] E ?_
    refine Br h4962 24 E E (fun hc4 h4962 => ?_) (fun hc4 h4962 => ?_)
    · refine G2 15 [(24, true), (33, true)] [] E ?_
      cases h4962
      exact Ce E ⟨_, rfl, SubFr.of ⟨rfl, rfl, rfl, trivial⟩, SegSub.sel _ [some 0] 1, rfl⟩
    refine G2 9 [(24, false)] [0, 0] E ?_
    refine Br h4962 33 E E (fun hc5 h4962 => ?_) (fun hc5 h4962 => ?_)
    · refine G2 6 [(33, true)] [] E ?_
      cases h4962
      exact Ce E ⟨_, rfl, SubFr.of ⟨rfl, rfl, rfl, trivial⟩, SegSub.sel _ [some 0] 1, rfl⟩
    refine G2 6 [(33, false)] [0] E ?_
    cases h4962
    exact Ce E ⟨_, rfl, SubFr.of ⟨rfl, rfl, rfl, trivial⟩, SegSub.sel _ [some 0] 1, rfl⟩
  rintro _ fr4962 μ4962 L4962 h hm4962 ⟨v3, rfl, hF4962, hS4962, rfl⟩
  refine Atn 1 hF4962 hS4962 E E ?_
  refine Br h 38 E E (fun hc6 h => ?_) (fun hc6 h => ?_)
  · refine G2 5 [(38, true)] [] E ?_
    cases h
    refine Rt [] E E (Upd.gp [] 1 ?_)
    exact Upd.done hR
  refine G2 4 [(38, false)] [] E ?_
  refine Cut h (fun f l o_ f_ μ_ l_ => ∃ (v4 : Bool), v4 = o_ ∧ SubFr ((46, .bool v4) :: keepF [2, 3] f) f_ ∧ SegSub l l_ ∧ μ = μ_) ?_ ?_
  · intro o4965 h4965 h
    refine G1 5 [0] E ?_
    refine Br h4965 42 E E (fun hc7 h4965 => ?_) (fun hc7 h4965 => ?_)
    · refine G2 5 [(42, true)] [] E ?_
      cases h4965
      exact Ce E ⟨_, rfl, SubFr.of ⟨rfl, rfl, rfl, trivial⟩, SegSub.sel _ [some 0] 1, rfl⟩
    refine G2 5 [(42, false)] [0] E ?_
    cases h4965
    exact Ce E ⟨_, rfl, SubFr.of ⟨rfl, rfl, rfl, trivial⟩, SegSub.sel _ [some 0] 1, rfl⟩
  rintro _ fr4965 μ4965 L4965 h hm4965 ⟨v4, rfl, hF4965, hS4965, rfl⟩
  refine Atn 1 hF4965 hS4965 E E ?_
  refine Br h 46 E E (fun hc8 h => ?_) (fun hc8 h => ?_)
  · refine G2 5 [(46, true)] [] E ?_
    cases h
    refine Rt [] E E (Upd.gp [] 1 ?_)
    exact Upd.done hR
  refine G2 4 [(46, false)] [] E ?_
  refine Cut h (fun f l o_ f_ μ_ l_ => ∃ (v5 : Bool), v5 = o_ ∧ SubFr ((56, .bool v5) :: []) f_ ∧ SegSub (selS [] 1 l) l_ ∧ μ = μ_) ?_ ?_
  · intro o4968 h4968 h
    refine Dr _ Kept.refl [(true, 0), (true, 1), (true, 2), (true, 3), (true, 4), (true, 5), (true, 6), (true, 7), (true, 8), (true, 9)] (by kernel_rfl) (G1 4 [0] E ?_)
    refine Br h4968 50 E E (fun hc9 h4968 => ?_) (fun hc9 h4968 => ?_)
    · refine G2 7 [(50, true)] [] E ?_
      cases h4968
      exact Ce E ⟨_, rfl, SubFr.of ⟨rfl, trivial⟩, SegSub.sel _ [] 1, rfl⟩
    refine G2 3 [(50, false)] [0] E (Rdo E E ?_)
    obtain ⟨u1, hg1, h4968⟩ := obind h4968
    refine R_shlD E E E (guardO_some hg1) (Q2 3 [(50, false)] [] E ?_)
    cases h4968
    exact Ce E ⟨_, rfl, SubFr.of ⟨rfl, trivial⟩, SegSub.sel _ [] 1, rfl⟩
  rintro _ fr4968 μ4968 L4968 h hm4968 ⟨v5, rfl, hF4968, hS4968, rfl⟩
  refine Atn 0 hF4968 hS4968 E E ?_
  refine Br h 56 E E (fun hc10 h => ?_) (fun hc10 h => ?_)
  · refine G2 5 [(56, true)] [] E ?_
    cases h
    refine Rt [] E E (Upd.gp [] 0 ?_)
    exact Upd.done hR
  refine G2 6 [(56, false)] [] E ?_
  cases h
  refine Rt [] E E (Upd.gp [] 0 ?_)
  exact Upd.done hR

theorem recyclingref20_Check_fn {μ : Gh} {L : List Seg} {R : Value → Gh → List Seg → Prop}  {l1 : (List T_api_Vehicle)} {nodes1 : Int} {materials1 : Int} {A1 : Option Addr} {c1 : Nat} {res1 : Int}
    (hl1 : l1.length ≤ c1 ∧ c1 ≤ maxLen) (hA1 : Rds r_api_Vehicle μ L A1 l1) (h : recyclingref20_Check l1 nodes1 materials1 = some res1)
    (hR : R (.int .i64 res1) μ (L)) :
    Fn Try.prog 32 [.slice A1 l1.length c1, .int .i64 nodes1, .int .i64 materials1] μ (L) R := by
  unfold recyclingref20_Check at h
  refine FnS Try.func32 (by kernel_rfl) E Try.ntmps32 E E ?_
  refine G0 6 E ?_
  refine Cut h (fun f l o_ f_ μ_ l_ => ∃ (v1 : Bool), v1 = o_ ∧ SubFr ((24, .bool v1) :: keepF [0, 1, 2] f) f_ ∧ SegSub l l_ ∧ μ = μ_) ?_ ?_
  · intro o4948 h4948 h
    refine G0 4 E ?_
    refine Br h4948 13 E E (fun hc1 h4948 => ?_) (fun hc1 h4948 => ?_)
    · refine G2 12 [(13, true), (17, true), (21, true)] [] E ?_
      cases h4948
      exact Ce E ⟨_, rfl, SubFr.of ⟨rfl, rfl, rfl, rfl, trivial⟩, SegSub.sel _ [] 0, rfl⟩
    refine G2 4 [(13, false)] [] E ?_
    refine Br h4948 17 E E (fun hc2 h4948 => ?_) (fun hc2 h4948 => ?_)
    · refine G2 8 [(17, true), (21, true)] [] E ?_
      cases h4948
      exact Ce E ⟨_, rfl, SubFr.of ⟨rfl, rfl, rfl, rfl, trivial⟩, SegSub.sel _ [] 0, rfl⟩
    refine G2 4 [(17, false)] [] E ?_
    refine Br h4948 21 E E (fun hc3 h4948 => ?_) (fun hc3 h4948 => ?_)
    · refine G2 4 [(21, true)] [] E ?_
      cases h4948
      exact Ce E ⟨_, rfl, SubFr.of ⟨rfl, rfl, rfl, rfl, trivial⟩, SegSub.sel _ [] 0, rfl⟩
    refine G2 4 [(21, false)] [] E ?_
    cases h4948
    exact Ce E ⟨_, rfl, SubFr.of ⟨rfl, rfl, rfl, rfl, trivial⟩, SegSub.sel _ [] 0, rfl⟩
  rintro _ fr4948 μ4948 L4948 h hm4948 ⟨v1, rfl, hF4948, hS4948, rfl⟩
  refine Atn 0 hF4948 hS4948 E E ?_
  refine Br h 24 E E (fun hc4 h => ?_) (fun hc4 h => ?_)
  · refine G2 5 [(24, true)] [] E ?_
    cases h
    refine Rt [] E E (Upd.gp [] 0 ?_)
    exact Upd.done hR
  refine G2 9 [(24, false)] [] E ?_
  refine Br h 27 E E (fun hc5 h => ?_) (fun hc5 h => ?_)
  · refine G2 5 [(27, true)] [] E ?_
    cases h
    refine Rt [] E E (Upd.gp [] 0 ?_)
    exact Upd.done hR
  refine G2 9 [(27, false)] [] E ?_
  refine Br h 30 E E (fun hc6 h => ?_) (fun hc6 h => ?_)
  · refine G2 5 [(30, true)] [] E ?_
    cases h
    refine Rt [] E E (Upd.gp [] 0 ?_)
    exact Upd.done hR
  refine G2 7 [(30, false)] [] E ?_
  refine Cut h (fun f l o_ f_ μ_ l_ => (.inl ()) = o_ ∧ SubFr (keepF [0] f) f_ ∧ SegSub l l_ ∧ μ = μ_) ?_ ?_
  · intro o4949 h4949 h
    refine Lp h4949 (fun f l (i1 : Int) f_ μ_ l_ => SubFr ((7, .int .i64 i1) :: keepF [0, 1, 2] f) f_ ∧ SegSub l l_ ∧ μ = μ_) ⟨SubFr.of ⟨rfl, E, E, E, trivial⟩, SegSub.sel _ [] 0, E⟩ ?_
    rintro i1 q4969 fr4969 μ4969 L4969 hm4969 ⟨hF4969, hS4969, rfl⟩ hb4969 hq4969
    unfold recyclingref20_Check_l1 at hb4969
    refine Atn 0 hF4969 hS4969 E E (G0 8 E ?_)
    refine Br hb4969 34 E E (fun hc7 hb4969 => ?_) (fun hc7 hb4969 => ?_)
    · refine G2 8 [(34, true)] [] E (Ix hb4969 hA1 E E fun x1 a1 cs1 hx1 hr1 hc8 hA2 hb4969 => ?_)
      obtain rfl := hr1
      refine Q3 3 [] [64] (Z1 hc8) E (Cl E ?_)
      obtain ⟨r1, hx2, hb4969⟩ := obind hb4969
      refine recyclingref20_one_fn  hx2 ((Q0 7 E ?_))
      refine Br hb4969 45 E E (fun hc9 hb4969 => ?_) (fun hc9 hb4969 => ?_)
      · refine G2 6 [(45, true)] [] E ?_
        cases hb4969
        have hq_ := hq4969 _ E
        subst hq_
        replace h := osum_r h
        cases h
        refine Rt [] E E (Upd.gp [] 0 ?_)
        exact Upd.done hR
      refine G2 8 [(45, false)] [] E ?_
      cases hb4969
      exact Ce E ⟨_, rfl, SubFr.of ⟨rfl, rfl, rfl, rfl, trivial⟩, SegSub.sel _ [] 0, rfl⟩
    refine G2 2 [(34, false)] [] E ?_
    cases hb4969
    have hq_ := hq4969 _ E
    subst hq_
    exact Ce E ⟨rfl, SubFr.of ⟨rfl, trivial⟩, SegSub.sel _ [] 0, rfl⟩
  rintro _ fr4949 μ4949 L4949 h hm4949 ⟨rfl, hF4949, hS4949, rfl⟩
  replace h := osum_l h
  refine Atn 0 hF4949 hS4949 E E (G0 5 E ?_)
  refine Cut h (fun f l o_ f_ μ_ l_ => (.inl ()) = o_ ∧ SubFr ([]) f_ ∧ SegSub l l_ ∧ μ = μ_) ?_ ?_
  · intro o4970 h4970 h
    refine Lp h4970 (fun f l (i2 : Int) f_ μ_ l_ => SubFr ((9, .int .i64 i2) :: keepF [0] f) f_ ∧ SegSub l l_ ∧ μ = μ_) ⟨SubFr.of ⟨rfl, E, trivial⟩, SegSub.sel _ [] 0, E⟩ ?_
    rintro i2 q4976 fr4976 μ4976 L4976 hm4976 ⟨hF4976, hS4976, rfl⟩ hb4976 hq4976
    unfold recyclingref20_Check_l3 at hb4976
    refine Atn 0 hF4976 hS4976 E E (G0 8 E ?_)
    refine Br hb4976 50 E E (fun hc10 hb4976 => ?_) (fun hc10 hb4976 => ?_)
    · refine G2 3 [(50, true)] [] E ?_
      refine Cut hb4976 (fun f l o_ f_ μ_ l_ => (.inl ()) = o_ ∧ SubFr (keepF [0, 9] f) f_ ∧ SegSub l l_ ∧ μ = μ_) ?_ ?_
      · intro o4977 h4977 hb4976
        refine G0 5 E ?_
        refine Cut h4977 (fun f l o_ f_ μ_ l_ => (.inl ()) = o_ ∧ SubFr (keepF [0, 9] f) f_ ∧ SegSub l l_ ∧ μ = μ_) ?_ ?_
        · intro o4978 h4978 h4977
          refine Lp h4978 (fun f l (k1 : Int) f_ μ_ l_ => SubFr ((10, .int .i64 k1) :: keepF [0, 9] f) f_ ∧ SegSub l l_ ∧ μ = μ_) ⟨SubFr.of ⟨rfl, E, E, trivial⟩, SegSub.sel _ [] 0, E⟩ ?_
          rintro k1 q4980 fr4980 μ4980 L4980 hm4980 ⟨hF4980, hS4980, rfl⟩ hb4980 hq4980
          unfold recyclingref20_Check_l2 at hb4980
          refine Atn 0 hF4980 hS4980 E E (G0 7 E ?_)
          refine Br hb4980 55 E E (fun hc11 hb4980 => ?_) (fun hc11 hb4980 => ?_)
          · refine G2 5 [(55, true)] [] E (Dr _ Kept.refl [(true, 0), (true, 1), (true, 2), (true, 3), (true, 4), (true, 5), (true, 6), (true, 7), (true, 8), (true, 9), (true, 10)] (by kernel_rfl) (G0 2 E (Ix hb4980 hA1 E E fun x2 a2 cs2 hx3 hr2 hc12 hA3 hb4980 => ?_)))
            obtain rfl := hr2
            refine Q3 4 [] [64] (Z1 hc12) E (Ix hb4980 hA1 E E fun x3 a3 cs3 hx4 hr3 hc13 hA4 hb4980 => ?_)
            obtain rfl := hr3
            refine Q3 2 [] [64] (Z1 hc13) E (Rdo E E (R_eqSg Tt_ok E E E E (Q0 1 E ?_)))
            refine Br hb4980 68 E E (fun hc14 hb4980 => ?_) (fun hc14 hb4980 => ?_)
            · refine G2 5 [(68, true)] [] E ?_
              cases hb4980
              have hq_ := hq4980 _ E
              subst hq_
              replace h4977 := osum_r h4977
              cases h4977
              replace hb4976 := osum_r hb4976
              cases hb4976
              have hq_ := hq4976 _ E
              subst hq_
              replace h := osum_r h
              cases h
              refine Rt [] E E (Upd.gp [] 0 ?_)
              exact Upd.done hR
            refine G2 8 [(68, false)] [] E ?_
            cases hb4980
            exact Ce E ⟨_, rfl, SubFr.of ⟨rfl, rfl, rfl, trivial⟩, SegSub.sel _ [] 0, rfl⟩
          refine G2 2 [(55, false)] [] E ?_
          cases hb4980
          have hq_ := hq4980 _ E
          subst hq_
          exact Ce E ⟨rfl, SubFr.of ⟨rfl, rfl, trivial⟩, SegSub.sel _ [] 0, rfl⟩
        rintro _ fr4978 μ4978 L4978 h4977 hm4978 ⟨rfl, hF4978, hS4978, rfl⟩
        replace h4977 := osum_l h4977
        refine G0 1 E ?_
        cases h4977
        exact Ce E ⟨rfl, hF4978.tr ⟨rfl, rfl, trivial⟩, hS4978.tr (SegSub.sel _ [] 0), rfl⟩
      rintro _ fr4977 μ4977 L4977 hb4976 hm4977 ⟨rfl, hF4977, hS4977, rfl⟩
      replace hb4976 := osum_l hb4976
      refine Atn 0 hF4977 hS4977 E E (G0 5 E ?_)
      cases hb4976
      exact Ce E ⟨_, rfl, SubFr.of ⟨rfl, rfl, trivial⟩, SegSub.sel _ [] 0, rfl⟩
    refine G2 2 [(50, false)] [] E ?_
    cases hb4976
    have hq_ := hq4976 _ E
    subst hq_
    exact Ce E ⟨rfl, SubFr.of trivial, SegSub.sel _ [] 0, rfl⟩
  rintro _ fr4970 μ4970 L4970 h hm4970 ⟨rfl, hF4970, hS4970, rfl⟩
  replace h := osum_l h
  refine Atn 0 hF4970 hS4970 E E (G0 4 E ?_)
  cases h
  refine Rt [] E E (Upd.gp [] 0 ?_)
  exact Upd.done hR

theorem recyclingref21_Check_fn {μ : Gh} {L : List Seg} {R : Value → Gh → List Seg → Prop}  {l1 : (List T_api_Demand)} {nodes1 : Int} {materials1 : Int} {A1 : Option Addr} {c1 : Nat} {res1 : Int}
    (hl1 : l1.length ≤ c1 ∧ c1 ≤ maxLen) (hA1 : Rds r_api_Demand μ L A1 l1) (h : recyclingref21_Check l1 nodes1 materials1 = some res1)
    (hR : R (.int .i64 res1) μ (L)) :
    Fn Try.prog 33 [.slice A1 l1.length c1, .int .i64 nodes1, .int .i64 materials1] μ (L) R := by
  unfold recyclingref21_Check at h
  refine FnS Try.func33 (by kernel_rfl) E Try.ntmps33 E E ?_
  refine G0 11 E ?_
  refine Br h 13 E E (fun hc1 h => ?_) (fun hc1 h => ?_)
  · refine G2 5 [(13, true)] [] E ?_
    cases h
    refine Rt [] E E (Upd.gp [] 0 ?_)
    exact Upd.done hR
  refine G2 7 [(13, false)] [] E ?_
  refine Cut h (fun f l o_ f_ μ_ l_ => (.inl ()) = o_ ∧ SubFr (keepF [0] f) f_ ∧ SegSub l l_ ∧ μ = μ_) ?_ ?_
  · intro o4982 h4982 h
    refine Lp h4982 (fun f l (i1 : Int) f_ μ_ l_ => SubFr ((7, .int .i64 i1) :: keepF [0, 1, 2] f) f_ ∧ SegSub l l_ ∧ μ = μ_) ⟨SubFr.of ⟨rfl, E, E, E, trivial⟩, SegSub.sel _ [] 0, E⟩ ?_
    rintro i1 q4990 fr4990 μ4990 L4990 hm4990 ⟨hF4990, hS4990, rfl⟩ hb4990 hq4990
    unfold recyclingref21_Check_l1 at hb4990
    refine Atn 0 hF4990 hS4990 E E (G0 8 E ?_)
    refine Br hb4990 17 E E (fun hc2 hb4990 => ?_) (fun hc2 hb4990 => ?_)
    · refine G2 8 [(17, true)] [] E (Ix hb4990 hA1 E E fun x1 a1 cs1 hx1 hr1 hc3 hA2 hb4990 => ?_)
      obtain rfl := hr1
      refine Q3 1 [] [64] (Z1 hc3) E (Al E fun g1 => Q1 4 [0] E ?_)
      refine Cut hb4990 (fun f l o_ f_ μ_ l_ => ∃ (v1 : Bool), v1 = o_ ∧ SubFr ((53, .bool v1) :: keepF [0, 1, 2, 7, 8] f) f_ ∧ SegSub l l_ ∧ μ = μ_) ?_ ?_
      · intro o4993 h4993 hb4990
        refine G1 5 [0] E ?_
        refine Br h4993 27 E E (fun hc4 h4993 => ?_) (fun hc4 h4993 => ?_)
        · refine G2 27 [(27, true), (32, true), (37, true), (43, true), (48, true)] [] E ?_
          cases h4993
          exact Ce E ⟨_, rfl, SubFr.of ⟨rfl, rfl, rfl, rfl, rfl, rfl, trivial⟩, SegSub.sel _ [some 0] 1, rfl⟩
        refine G2 5 [(27, false)] [0] E ?_
        refine Br h4993 32 E E (fun hc5 h4993 => ?_) (fun hc5 h4993 => ?_)
        · refine G2 22 [(32, true), (37, true), (43, true), (48, true)] [] E ?_
          cases h4993
          exact Ce E ⟨_, rfl, SubFr.of ⟨rfl, rfl, rfl, rfl, rfl, rfl, trivial⟩, SegSub.sel _ [some 0] 1, rfl⟩
        refine G2 5 [(32, false)] [0] E ?_
        refine Br h4993 37 E E (fun hc6 h4993 => ?_) (fun hc6 h4993 => ?_)
        · refine G2 17 [(37, true), (43, true), (48, true)] [] E ?_
          cases h4993
          exact Ce E ⟨_, rfl, SubFr.of ⟨rfl, rfl, rfl, rfl, rfl, rfl, trivial⟩, SegSub.sel _ [some 0] 1, rfl⟩
        refine G2 6 [(37, false)] [0] E ?_
        refine Br h4993 43 E E (fun hc7 h4993 => ?_) (fun hc7 h4993 => ?_)
        · refine G2 11 [(43, true), (48, true)] [] E ?_
          cases h4993
          exact Ce E ⟨_, rfl, SubFr.of ⟨rfl, rfl, rfl, rfl, rfl, rfl, trivial⟩, SegSub.sel _ [some 0] 1, rfl⟩
        refine G2 5 [(43, false)] [0] E ?_
        refine Br h4993 48 E E (fun hc8 h4993 => ?_) (fun hc8 h4993 => ?_)
        · refine G2 6 [(48, true)] [] E ?_
          cases h4993
          exact Ce E ⟨_, rfl, SubFr.of ⟨rfl, rfl, rfl, rfl, rfl, rfl, trivial⟩, SegSub.sel _ [some 0] 1, rfl⟩
        refine G2 6 [(48, false)] [0] E ?_
        cases h4993
        exact Ce E ⟨_, rfl, SubFr.of ⟨rfl, rfl, rfl, rfl, rfl, rfl, trivial⟩, SegSub.sel _ [some 0] 1, rfl⟩
      rintro _ fr4993 μ4993 L4993 hb4990 hm4993 ⟨v1, rfl, hF4993, hS4993, rfl⟩
      refine Atn 1 hF4993 hS4993 E E ?_
      refine Br hb4990 53 E E (fun hc9 hb4990 => ?_) (fun hc9 hb4990 => ?_)
      · refine G2 5 [(53, true)] [] E ?_
        cases hb4990
        have hq_ := hq4990 _ E
        subst hq_
        replace h := osum_r h
        cases h
        refine Rt [] E E (Upd.gp [] 1 ?_)
        exact Upd.done hR
      refine G2 3 [(53, false)] [] E ?_
      refine Cut hb4990 (fun f l o_ f_ μ_ l_ => ∃ (v2 : Bool), v2 = o_ ∧ SubFr ((92, .bool v2) :: keepF [0, 1, 2, 7] f) f_ ∧ SegSub (selS [] 1 l) l_ ∧ μ = μ_) ?_ ?_
      · intro o4996 h4996 hb4990
        refine G1 5 [0] E ?_
        refine Br h4996 57 E E (fun hc10 h4996 => ?_) (fun hc10 h4996 => ?_)
        · refine G2 36 [(57, true), (62, true), (68, true), (77, true), (83, true), (88, true)] [] E ?_
          cases h4996
          exact Ce E ⟨_, rfl, SubFr.of ⟨rfl, rfl, rfl, rfl, rfl, trivial⟩, SegSub.sel _ [] 1, rfl⟩
        refine G2 5 [(57, false)] [0] E ?_
        refine Br h4996 62 E E (fun hc11 h4996 => ?_) (fun hc11 h4996 => ?_)
        · refine G2 31 [(62, true), (68, true), (77, true), (83, true), (88, true)] [] E ?_
          cases h4996
          exact Ce E ⟨_, rfl, SubFr.of ⟨rfl, rfl, rfl, rfl, rfl, trivial⟩, SegSub.sel _ [] 1, rfl⟩
        refine G2 6 [(62, false)] [0] E ?_
        refine Br h4996 68 E E (fun hc12 h4996 => ?_) (fun hc12 h4996 => ?_)
        · refine G2 25 [(68, true), (77, true), (83, true), (88, true)] [] E ?_
          cases h4996
          exact Ce E ⟨_, rfl, SubFr.of ⟨rfl, rfl, rfl, rfl, rfl, trivial⟩, SegSub.sel _ [] 1, rfl⟩
        refine G2 9 [(68, false)] [0, 0] E ?_
        refine Br h4996 77 E E (fun hc13 h4996 => ?_) (fun hc13 h4996 => ?_)
        · refine G2 16 [(77, true), (83, true), (88, true)] [] E ?_
          cases h4996
          exact Ce E ⟨_, rfl, SubFr.of ⟨rfl, rfl, rfl, rfl, rfl, trivial⟩, SegSub.sel _ [] 1, rfl⟩
        refine G2 6 [(77, false)] [0] E ?_
        refine Br h4996 83 E E (fun hc14 h4996 => ?_) (fun hc14 h4996 => ?_)
        · refine G2 10 [(83, true), (88, true)] [] E ?_
          cases h4996
          exact Ce E ⟨_, rfl, SubFr.of ⟨rfl, rfl, rfl, rfl, rfl, trivial⟩, SegSub.sel _ [] 1, rfl⟩
        refine G2 5 [(83, false)] [0] E ?_
        refine Br h4996 88 E E (fun hc15 h4996 => ?_) (fun hc15 h4996 => ?_)
        · refine G2 5 [(88, true)] [] E ?_
          cases h4996
          exact Ce E ⟨_, rfl, SubFr.of ⟨rfl, rfl, rfl, rfl, rfl, trivial⟩, SegSub.sel _ [] 1, rfl⟩
        refine G2 5 [(88, false)] [0] E ?_
        cases h4996
        exact Ce E ⟨_, rfl, SubFr.of ⟨rfl, rfl, rfl, rfl, rfl, trivial⟩, SegSub.sel _ [] 1, rfl⟩
      rintro _ fr4996 μ4996 L4996 hb4990 hm4996 ⟨v2, rfl, hF4996, hS4996, rfl⟩
      refine Atn 0 hF4996 hS4996 E E ?_
      refine Br hb4990 92 E E (fun hc16 hb4990 => ?_) (fun hc16 hb4990 => ?_)
      · refine G2 5 [(92, true)] [] E ?_
        cases hb4990
        have hq_ := hq4990 _ E
        subst hq_
        replace h := osum_r h
        cases h
        refine Rt [] E E (Upd.gp [] 0 ?_)
        exact Upd.done hR
      refine G2 8 [(92, false)] [] E ?_
      cases hb4990
      exact Ce E ⟨_, rfl, SubFr.of ⟨rfl, rfl, rfl, rfl, trivial⟩, SegSub.sel _ [] 0, rfl⟩
    refine G2 2 [(17, false)] [] E ?_
    cases hb4990
    have hq_ := hq4990 _ E
    subst hq_
    exact Ce E ⟨rfl, SubFr.of ⟨rfl, trivial⟩, SegSub.sel _ [] 0, rfl⟩
  rintro _ fr4982 μ4982 L4982 h hm4982 ⟨rfl, hF4982, hS4982, rfl⟩
  replace h := osum_l h
  refine Atn 0 hF4982 hS4982 E E (G0 5 E ?_)
  refine Cut h (fun f l o_ f_ μ_ l_ => (.inl ()) = o_ ∧ SubFr ([]) f_ ∧ SegSub l l_ ∧ μ = μ_) ?_ ?_
  · intro o4997 h4997 h
    refine Lp h4997 (fun f l (i2 : Int) f_ μ_ l_ => SubFr ((9, .int .i64 i2) :: keepF [0] f) f_ ∧ SegSub l l_ ∧ μ = μ_) ⟨SubFr.of ⟨rfl, E, trivial⟩, SegSub.sel _ [] 0, E⟩ ?_
    rintro i2 q5003 fr5003 μ5003 L5003 hm5003 ⟨hF5003, hS5003, rfl⟩ hb5003 hq5003
    unfold recyclingref21_Check_l3 at hb5003
    refine Atn 0 hF5003 hS5003 E E (G0 8 E ?_)
    refine Br hb5003 96 E E (fun hc17 hb5003 => ?_) (fun hc17 hb5003 => ?_)
    · refine G2 3 [(96, true)] [] E ?_
      refine Cut hb5003 (fun f l o_ f_ μ_ l_ => (.inl ()) = o_ ∧ SubFr (keepF [0, 9] f) f_ ∧ SegSub l l_ ∧ μ = μ_) ?_ ?_
      · intro o5004 h5004 hb5003
        refine G0 5 E ?_
        refine Cut h5004 (fun f l o_ f_ μ_ l_ => (.inl ()) = o_ ∧ SubFr (keepF [0, 9] f) f_ ∧ SegSub l l_ ∧ μ = μ_) ?_ ?_
        · intro o5005 h5005 h5004
          refine Lp h5005 (fun f l (k1 : Int) f_ μ_ l_ => SubFr ((10, .int .i64 k1) :: keepF [0, 9] f) f_ ∧ SegSub l l_ ∧ μ = μ_) ⟨SubFr.of ⟨rfl, E, E, trivial⟩, SegSub.sel _ [] 0, E⟩ ?_
          rintro k1 q5007 fr5007 μ5007 L5007 hm5007 ⟨hF5007, hS5007, rfl⟩ hb5007 hq5007
          unfold recyclingref21_Check_l2 at hb5007
          refine Atn 0 hF5007 hS5007 E E (G0 7 E ?_)
          refine Br hb5007 101 E E (fun hc18 hb5007 => ?_) (fun hc18 hb5007 => ?_)
          · refine G2 5 [(101, true)] [] E (Dr _ Kept.refl [(true, 0), (true, 1), (true, 2), (true, 3), (true, 4), (true, 5), (true, 6), (true, 7), (true, 8), (true, 9), (true, 10)] (by kernel_rfl) (G0 2 E (Ix hb5007 hA1 E E fun x2 a2 cs2 hx2 hr2 hc19 hA3 hb5007 => ?_)))
            obtain rfl := hr2
            refine Q3 4 [] [64] (Z1 hc19) E (Ix hb5007 hA1 E E fun x3 a3 cs3 hx3 hr3 hc20 hA4 hb5007 => ?_)
            obtain rfl := hr3
            refine Q3 4 [] [64] (Z1 hc20) E ?_
            refine Br hb5007 114 E E (fun hc21 hb5007 => ?_) (fun hc21 hb5007 => ?_)
            · refine G2 5 [(114, true)] [] E ?_
              cases hb5007
              have hq_ := hq5007 _ E
              subst hq_
              replace h5004 := osum_r h5004
              cases h5004
              replace hb5003 := osum_r hb5003
              cases hb5003
              have hq_ := hq5003 _ E
              subst hq_
              replace h := osum_r h
              cases h
              refine Rt [] E E (Upd.gp [] 0 ?_)
              exact Upd.done hR
            refine G2 8 [(114, false)] [] E ?_
            cases hb5007
            exact Ce E ⟨_, rfl, SubFr.of ⟨rfl, rfl, rfl, trivial⟩, SegSub.sel _ [] 0, rfl⟩
          refine G2 2 [(101, false)] [] E ?_
          cases hb5007
          have hq_ := hq5007 _ E
          subst hq_
          exact Ce E ⟨rfl, SubFr.of ⟨rfl, rfl, trivial⟩, SegSub.sel _ [] 0, rfl⟩
        rintro _ fr5005 μ5005 L5005 h5004 hm5005 ⟨rfl, hF5005, hS5005, rfl⟩
        replace h5004 := osum_l h5004
        refine G0 1 E ?_
        cases h5004
        exact Ce E ⟨rfl, hF5005.tr ⟨rfl, rfl, trivial⟩, hS5005.tr (SegSub.sel _ [] 0), rfl⟩
      rintro _ fr5004 μ5004 L5004 hb5003 hm5004 ⟨rfl, hF5004, hS5004, rfl⟩
      replace hb5003 := osum_l hb5003
      refine Atn 0 hF5004 hS5004 E E (G0 5 E ?_)
      cases hb5003
      exact Ce E ⟨_, rfl, SubFr.of ⟨rfl, rfl, trivial⟩, SegSub.sel _ [] 0, rfl⟩
    refine G2 2 [(96, false)] [] E ?_
    cases hb5003
    have hq_ := hq5003 _ E
    subst hq_
    exact Ce E ⟨rfl, SubFr.of trivial, SegSub.sel _ [] 0, rfl⟩
  rintro _ fr4997 μ4997 L4997 h hm4997 ⟨rfl, hF4997, hS4997, rfl⟩
  replace h := osum_l h
  refine Atn 0 hF4997 hS4997 E E (G0 4 E ?_)
  cases h
  refine Rt [] E E (Upd.gp [] 0 ?_)
  exact Upd.done hR

theorem recyclingref22_Check_fn {μ : Gh} {L : List Seg} {R : Value → Gh → List Seg → Prop}  {p1 : T_api_Problem} {A1 : Option Addr} {c1 : Nat} {A2 : Option Addr} {c2 : Nat} {A3 : Option Addr} {c3 : Nat} {res1 : Int}
    (hl1 : p1.Road.Edges.length ≤ c1 ∧ c1 ≤ maxLen) (hA1 : ArrR r_api_Edge μ A1 p1.Road.Edges) (hl2 : p1.Vehicles.length ≤ c2 ∧ c2 ≤ maxLen) (hA2 : ArrR r_api_Vehicle μ A2 p1.Vehicles) (hl3 : p1.Demands.length ≤ c3 ∧ c3 ≤ maxLen) (hA3 : ArrR r_api_Demand μ A3 p1.Demands) (h : recyclingref22_Check p1 = some res1)
    (hR : R (.int .i64 res1) μ (L)) :
    Fn Try.prog 14 [.agg #[.int .i64 p1.Road.Nodes, .slice A1 p1.Road.Edges.length c1, .slice A2 p1.Vehicles.length c2, .slice A3 p1.Demands.length c3, .int .i64 p1.Unload, .int .i64 p1.UnloadSecs]] μ (L) R := by
  unfold recyclingref22_Check at h
  refine FnS Try.func14 (by kernel_rfl) E Try.ntmps14 E E ?_
  refine G0 2 E (Al E fun g1 => Q1 7 [0] E (Cl E ?_))
  obtain ⟨r1, hx1, h⟩ := obind h
  refine recyclingref19_Check_fn hl1 hA1 hx1 ((Q0 7 E ?_))
  refine Br h 10 E E (fun hc1 h => ?_) (fun hc1 h => ?_)
  · refine G2 6 [(10, true)] [] E ?_
    cases h
    refine Rt [] E E (Upd.gp [] 1 ?_)
    exact Upd.done hR
  refine G2 10 [(10, false)] [0, 0] E (Cl E ?_)
  obtain ⟨r2, hx2, h⟩ := obind h
  refine recyclingref20_Check_fn hl2 (ArrR.rds hA2 ([(g1, .cells #[.int .i64 p1.Road.Nodes, .slice A1 p1.Road.Edges.length c1, .slice A2 p1.Vehicles.length c2, .slice A3 p1.Demands.length c3, .int .i64 p1.Unload, .int .i64 p1.UnloadSecs] 28 (0, 0))] :: L)) hx2 ((Q0 7 E ?_))
  refine Br h 19 E E (fun hc2 h => ?_) (fun hc2 h => ?_)
  · refine G2 6 [(19, true)] [] E ?_
    cases h
    refine Rt [] E E (Upd.gp [] 1 ?_)
    exact Upd.done hR
  refine G2 10 [(19, false)] [0, 0] E (Cl E ?_)
  obtain ⟨r3, hx3, h⟩ := obind h
  refine recyclingref21_Check_fn hl3 (ArrR.rds hA3 ([(g1, .cells #[.int .i64 p1.Road.Nodes, .slice A1 p1.Road.Edges.length c1, .slice A2 p1.Vehicles.length c2, .slice A3 p1.Demands.length c3, .int .i64 p1.Unload, .int .i64 p1.UnloadSecs] 28 (0, 0))] :: L)) hx3 ((Q0 7 E ?_))
  refine Br h 28 E E (fun hc3 h => ?_) (fun hc3 h => ?_)
  · refine G2 6 [(28, true)] [] E ?_
    cases h
    refine Rt [] E E (Upd.gp [] 1 ?_)
    exact Upd.done hR
  refine G2 4 [(28, false)] [] E ?_
  refine Cut h (fun f l o_ f_ μ_ l_ => ∃ (v1 : Bool), v1 = o_ ∧ SubFr ((40, .bool v1) :: keepF [1] f) f_ ∧ SegSub l l_ ∧ μ = μ_) ?_ ?_
  · intro o5008 h5008 h
    refine G1 5 [0] E ?_
    refine Br h5008 33 E E (fun hc4 h5008 => ?_) (fun hc4 h5008 => ?_)
    · refine G2 8 [(33, true)] [] E ?_
      cases h5008
      exact Ce E ⟨_, rfl, SubFr.of ⟨rfl, rfl, trivial⟩, SegSub.sel _ [some 0] 1, rfl⟩
    refine G2 8 [(33, false)] [0, 0] E ?_
    cases h5008
    exact Ce E ⟨_, rfl, SubFr.of ⟨rfl, rfl, trivial⟩, SegSub.sel _ [some 0] 1, rfl⟩
  rintro _ fr5008 μ5008 L5008 h hm5008 ⟨v1, rfl, hF5008, hS5008, rfl⟩
  refine Atn 1 hF5008 hS5008 E E ?_
  refine Br h 40 E E (fun hc5 h => ?_) (fun hc5 h => ?_)
  · refine G2 5 [(40, true)] [] E ?_
    cases h
    refine Rt [] E E (Upd.gp [] 1 ?_)
    exact Upd.done hR
  refine G2 4 [(40, false)] [] E ?_
  refine Cut h (fun f l o_ f_ μ_ l_ => ∃ (v2 : Bool), v2 = o_ ∧ SubFr ((48, .bool v2) :: []) f_ ∧ SegSub (selS [] 1 l) l_ ∧ μ = μ_) ?_ ?_
  · intro o5011 h5011 h
    refine G1 5 [0] E ?_
    refine Br h5011 44 E E (fun hc6 h5011 => ?_) (fun hc6 h5011 => ?_)
    · refine G2 5 [(44, true)] [] E ?_
      cases h5011
      exact Ce E ⟨_, rfl, SubFr.of ⟨rfl, trivial⟩, SegSub.sel _ [] 1, rfl⟩
    refine G2 5 [(44, false)] [0] E ?_
    cases h5011
    exact Ce E ⟨_, rfl, SubFr.of ⟨rfl, trivial⟩, SegSub.sel _ [] 1, rfl⟩
  rintro _ fr5011 μ5011 L5011 h hm5011 ⟨v2, rfl, hF5011, hS5011, rfl⟩
  refine Atn 0 hF5011 hS5011 E E ?_
  refine Br h 48 E E (fun hc7 h => ?_) (fun hc7 h => ?_)
  · refine G2 5 [(48, true)] [] E ?_
    cases h
    refine Rt [] E E (Upd.gp [] 0 ?_)
    exact Upd.done hR
  refine G2 6 [(48, false)] [] E ?_
  cases h
  refine Rt [] E E (Upd.gp [] 0 ?_)
  exact Upd.done hR

end Go.Proofs.Ytjbminmhndgiaaa
