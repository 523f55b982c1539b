/- Printed by gen2.py of this repo: the walks that tie the functions to their specifications. -/
import Derived.Test.YthpgjbbjpfiniaaGreatTt
import Derived.Test.YthpgjbbjpfiniaaGreatTas
import Derived.Test.YthpgjbbjpfiniaaGreatTaw1
import Derived.Test.YthpgjbbjpfiniaaGreatTaw3
namespace Go.Proofs.YthpgjbbjpfiniaaGreat
open Go.RowKit
set_option linter.unusedSimpArgs false
set_option linter.unusedVariables false
set_option maxHeartbeats 2000000
set_option maxRecDepth 4000
attribute [local irreducible] WP SemOk SemU Fn AN Upd vcR vcO vcOps vcPlan putK fillK resK inBlk forkOne Cell StAt Kept KS
variable {μ : Gh} {L : List Seg} {R : Value → Gh → List Seg → Prop}
theorem recyclingref23_Ints_fn  {a1 : (List Int)} {b1 : (List Int)} {A1 : Option Addr} {c1 : Nat} {A2 : Option Addr} {c2 : Nat} {res1 : Bool}
    (hl1 : a1.length ≤ c1 ∧ c1 ≤ maxLen) (hA1 : Rds rInt μ L A1 a1) (hl2 : b1.length ≤ c2 ∧ c2 ≤ maxLen) (hA2 : Rds rInt μ L A2 b1) (h : recyclingref23_Ints a1 b1 = some res1)
    (hR : R (.bool res1) μ (L)) :
    Fn Tryz.prog 38 [.slice A1 a1.length c1, .slice A2 b1.length c2] μ (L) R := by
  unfold recyclingref23_Ints at h
  refine FnS Tryz.func38 (by kernel_rfl) E Tryz.ntmps38 E E ?_
  refine G0 13 E ?_
  refine Br h 10 E E (fun hc1 h => ?_) (fun hc1 h => ?_)
  · refine G2 5 [10] [] [] E ?_
    cases h
    exact Rt [] E E (Ug [] 0 hR)
  refine G2 7 [] [10] [] E ?_
  refine Cut h (fun f l o_ f_ μ_ l_ => (.inl ()) = o_ ∧ SubFr ([]) f_ ∧ SegSub l l_ ∧ μ = μ_) ?_ ?_
  · intro _ h33978 h
    refine Lp h33978 (fun f l (i1 : Int) f_ μ_ l_ => SubFr ((5, .int .i64 i1) :: keepF [0, 1] f) f_ ∧ SegSub l l_ ∧ μ = μ_) ⟨fE E, sE [] 0 E, E⟩ ?_
    rintro i1 _ _ _ _ _ ⟨hF33980, hS33980, rfl⟩ hb33980 hq33980
    unfold recyclingref23_Ints_l1 at hb33980
    refine Atn 0 hF33980 hS33980 E E (G0 8 E ?_)
    refine Br hb33980 14 E E (fun hc2 hb33980 => ?_) (fun hc2 hb33980 => ?_)
    · refine G2 5 [14] [] [] E (Dr _ Kept.refl [(true, 0), (true, 1), (true, 2), (true, 3), (true, 4), (true, 5), (true, 6), (true, 7), (true, 8)] (by kernel_rfl) (G0 2 E (Ix hb33980 hA1 E E fun _ _ _ _ hr1 hc3 _ hb33980 => ?_)))
      obtain rfl := hr1
      refine Q3 3 [] [] [64] (Z1 hc3) E (Ix hb33980 hA2 E E fun _ _ _ _ hr2 hc4 _ hb33980 => ?_)
      obtain rfl := hr2
      refine Q3 3 [] [] [64] (Z1 hc4) E ?_
      refine Br hb33980 25 E E (fun hc5 hb33980 => ?_) (fun hc5 hb33980 => ?_)
      · refine G2 5 [25] [] [] E ?_
        cases hb33980
        have hq_ := hq33980 _ E
        subst hq_
        replace h := osum_r h
        cases h
        exact Rt [] E E (Ug [] 0 hR)
      refine G2 8 [] [25] [] E ?_
      cases hb33980
      exact Ce E ⟨_, rfl, fE E, sE [] 0 E, rfl⟩
    refine G2 2 [] [14] [] E ?_
    cases hb33980
    have hq_ := hq33980 _ E
    subst hq_
    exact Ce E ⟨rfl, fE E, sE [] 0 E, rfl⟩
  rintro _ _ _ _ h _ ⟨rfl, hF33978, hS33978, rfl⟩
  replace h := osum_l h
  refine Atn 0 hF33978 hS33978 E E (G0 4 E ?_)
  cases h
  exact Rt [] E E (Ug [] 0 hR)
theorem recyclingref23_Same_fn  {a1 : (List T_api_Tour)} {b1 : (List T_api_Tour)} {A1 : Option Addr} {c1 : Nat} {A2 : Option Addr} {c2 : Nat} {res1 : Bool}
    (hl1 : a1.length ≤ c1 ∧ c1 ≤ maxLen) (hA1 : Rds r_api_Tour μ L A1 a1) (hl2 : b1.length ≤ c2 ∧ c2 ≤ maxLen) (hA2 : Rds r_api_Tour μ L A2 b1) (h : recyclingref23_Same a1 b1 = some res1)
    (hR : R (.bool res1) μ (L)) :
    Fn Tryz.prog 37 [.slice A1 a1.length c1, .slice A2 b1.length c2] μ (L) R := by
  unfold recyclingref23_Same at h
  refine FnS Tryz.func37 (by kernel_rfl) E Tryz.ntmps37 E E ?_
  refine G0 13 E ?_
  refine Br h 10 E E (fun hc1 h => ?_) (fun hc1 h => ?_)
  · refine G2 5 [10] [] [] E ?_
    cases h
    exact Rt [] E E (Ug [] 0 hR)
  refine G2 7 [] [10] [] E ?_
  refine Cut h (fun f l o_ f_ μ_ l_ => (.inl ()) = o_ ∧ SubFr ([]) f_ ∧ SegSub l l_ ∧ μ = μ_) ?_ ?_
  · intro _ h33970 h
    refine Lp h33970 (fun f l (i1 : Int) f_ μ_ l_ => SubFr ((5, .int .i64 i1) :: keepF [0, 1] f) f_ ∧ SegSub l l_ ∧ μ = μ_) ⟨fE E, sE [] 0 E, E⟩ ?_
    rintro i1 _ _ _ _ _ ⟨hF34002, hS34002, rfl⟩ hb34002 hq34002
    unfold recyclingref23_Same_l1 at hb34002
    refine Atn 0 hF34002 hS34002 E E (G0 8 E ?_)
    refine Br hb34002 14 E E (fun hc2 hb34002 => ?_) (fun hc2 hb34002 => ?_)
    · refine G2 5 [14] [] [] E ?_
      refine Cut hb34002 (fun f l o_ f_ μ_ l_ => ∃ (v1 : Bool), v1 = o_ ∧ SubFr ((41, .bool v1) :: keepF [0, 1, 5] f) f_ ∧ SegSub l l_ ∧ μ = μ_) ?_ ?_
      · intro _ h34011 hb34002
        refine Dr _ Kept.refl [(true, 0), (true, 1), (true, 2), (true, 3), (true, 4), (true, 5), (true, 6), (true, 7), (true, 8), (true, 9), (true, 10), (true, 11), (true, 12), (true, 13), (true, 14), (true, 15), (true, 16), (true, 17), (true, 18), (true, 19), (true, 20), (true, 21), (false, 22), (true, 23), (true, 24)] (by kernel_rfl) (G0 2 E (Ix h34011 hA1 E E fun _ _ _ _ hr1 hc3 _ h34011 => ?_))
        obtain ⟨_, _, rfl, _, _⟩ := hr1
        refine Q3 4 [] [] [64] (Z1 hc3) E (Ix h34011 hA2 E E fun _ _ _ _ hr2 hc4 _ h34011 => ?_)
        obtain ⟨_, _, rfl, _, _⟩ := hr2
        refine Q3 4 [] [] [64] (Z1 hc4) E ?_
        refine Br h34011 28 E E (fun hc5 h34011 => ?_) (fun hc5 h34011 => ?_)
        · refine G2 14 [28] [] [] E ?_
          cases h34011
          exact Ce E ⟨_, rfl, fE E, sE [] 0 E, rfl⟩
        refine G2 2 [] [28] [] E (Ix h34011 hA1 E E fun _ _ _ _ hr3 hc6 _ h34011 => ?_)
        obtain ⟨_, _, rfl, hl5, hA8⟩ := hr3
        refine Q3 4 [] [28] [65] (Z1 hc6) E (Ix h34011 hA2 E E fun _ _ _ _ hr4 hc7 _ h34011 => ?_)
        obtain ⟨_, _, rfl, hl6, hA10⟩ := hr4
        refine Q3 2 [] [28] [65] (Z1 hc7) E (Cl E ?_)
        obtain ⟨_, hx5, h34011⟩ := obind h34011
        refine recyclingref23_Ints_fn hl5 (ArrR.rds hA8 _) hl6 (ArrR.rds hA10 _) hx5 (?_)
        refine ⟨Kept.refl, ?_⟩
        refine Q2 3 [] [28] [] E ?_
        cases h34011
        exact Ce E ⟨_, rfl, fE E, sE [] 0 E, rfl⟩
      rintro _ _ _ _ hb34002 _ ⟨v1, rfl, hF34011, hS34011, rfl⟩
      refine Atn 0 hF34011 hS34011 E E ?_
      refine Br hb34002 41 E E (fun hc8 hb34002 => ?_) (fun hc8 hb34002 => ?_)
      · refine G2 5 [41] [] [] E ?_
        cases hb34002
        have hq_ := hq34002 _ E
        subst hq_
        replace h := osum_r h
        cases h
        exact Rt [] E E (Ug [] 0 hR)
      refine G2 8 [] [41] [] E ?_
      cases hb34002
      exact Ce E ⟨_, rfl, fE E, sE [] 0 E, rfl⟩
    refine G2 2 [] [14] [] E ?_
    cases hb34002
    have hq_ := hq34002 _ E
    subst hq_
    exact Ce E ⟨rfl, fE E, sE [] 0 E, rfl⟩
  rintro _ _ _ _ h _ ⟨rfl, hF33970, hS33970, rfl⟩
  replace h := osum_l h
  refine Atn 0 hF33970 hS33970 E E (G0 4 E ?_)
  cases h
  exact Rt [] E E (Ug [] 0 hR)
theorem recyclingref25_Same_fn  {a1 : T_api_Plan} {b1 : T_api_Plan} {A1 : Option Addr} {c1 : Nat} {A2 : Option Addr} {c2 : Nat} {A3 : Option Addr} {c3 : Nat} {A4 : Option Addr} {c4 : Nat} {res1 : Bool}
    (hl1 : a1.Tours.length ≤ c1 ∧ c1 ≤ maxLen) (hA1 : ArrR r_api_Tour μ A1 a1.Tours) (hl2 : a1.Left.length ≤ c2 ∧ c2 ≤ maxLen) (hA2 : ArrR rInt μ A2 a1.Left) (hl3 : b1.Tours.length ≤ c3 ∧ c3 ≤ maxLen) (hA3 : ArrR r_api_Tour μ A3 b1.Tours) (hl4 : b1.Left.length ≤ c4 ∧ c4 ≤ maxLen) (hA4 : ArrR rInt μ A4 b1.Left) (h : recyclingref25_Same a1 b1 = some res1)
    (hR : R (.bool res1) μ (L)) :
    Fn Tryz.prog 15 [.agg #[.slice A1 a1.Tours.length c1, .slice A2 a1.Left.length c2], .agg #[.slice A3 b1.Tours.length c3, .slice A4 b1.Left.length c4]] μ (L) R := by
  unfold recyclingref25_Same at h
  refine FnS Tryz.func15 (by kernel_rfl) E Tryz.ntmps15 E E ?_
  refine G0 2 E (Al E fun _ => Q0 0 E (Al E fun _ => Q0 3 E ?_))
  refine Cut h (fun f l o_ f_ μ_ l_ => ∃ (v1 : Bool), v1 = o_ ∧ SubFr ((4, .bool v1) :: []) f_ ∧ SegSub (selS [] 2 l) l_ ∧ μ = μ_) ?_ ?_
  · intro _ h33967 h
    refine G1 5 [1, 0] E (Cl E ?_)
    obtain ⟨_, hx1, h33967⟩ := obind h33967
    refine recyclingref23_Same_fn hl1 (ArrR.rds hA1 _) hl3 (ArrR.rds hA3 _) hx1 ((Q0 1 E ?_))
    refine Br h33967 10 E E (fun hc1 h33967 => ?_) (fun hc1 h33967 => ?_)
    · refine G2 4 [10] [] [1, 0] E (Cl E ?_)
      obtain ⟨_, hx2, h33967⟩ := obind h33967
      refine recyclingref23_Ints_fn hl2 (ArrR.rds hA2 _) hl4 (ArrR.rds hA4 _) hx2 ((Q2 3 [10] [] [] E ?_))
      cases h33967
      exact Ce E ⟨_, rfl, fE E, sE [] 2 E, rfl⟩
    refine G2 8 [] [10] [] E ?_
    cases h33967
    exact Ce E ⟨_, rfl, fE E, sE [] 2 E, rfl⟩
  rintro _ _ _ _ h _ ⟨v1, rfl, hF33967, hS33967, rfl⟩
  refine Atn 0 hF33967 hS33967 E E ?_
  cases h
  exact Rt [] E E (Ug [] 0 hR)
theorem recyclingref25_SameReasons_fn  {a1 : (List T_api_Reason)} {b1 : (List T_api_Reason)} {A1 : Option Addr} {c1 : Nat} {A2 : Option Addr} {c2 : Nat} {res1 : Bool}
    (hl1 : a1.length ≤ c1 ∧ c1 ≤ maxLen) (hA1 : Rds r_api_Reason μ L A1 a1) (hl2 : b1.length ≤ c2 ∧ c2 ≤ maxLen) (hA2 : Rds r_api_Reason μ L A2 b1) (h : recyclingref25_SameReasons a1 b1 = some res1)
    (hR : R (.bool res1) μ (L)) :
    Fn Tryz.prog 20 [.slice A1 a1.length c1, .slice A2 b1.length c2] μ (L) R := by
  unfold recyclingref25_SameReasons at h
  refine FnS Tryz.func20 (by kernel_rfl) E Tryz.ntmps20 E E ?_
  refine G0 13 E ?_
  refine Br h 10 E E (fun hc1 h => ?_) (fun hc1 h => ?_)
  · refine G2 5 [10] [] [] E ?_
    cases h
    exact Rt [] E E (Ug [] 0 hR)
  refine G2 9 [] [10] [] E ?_
  refine Cut h (fun f l o_ f_ μ_ l_ => (.inl ()) = o_ ∧ SubFr ([]) f_ ∧ SegSub l l_ ∧ μ = μ_) ?_ ?_
  · intro _ h34053 h
    refine Lp h34053 (fun f l (v1 : Int) f_ μ_ l_ => SubFr ((13, .int .i64 v1) :: keepF [0, 1, 12] f) f_ ∧ SegSub l l_ ∧ μ = μ_) ⟨fE E, sE [] 0 E, E⟩ ?_
    rintro v1 _ _ _ _ _ ⟨hF34055, hS34055, rfl⟩ hb34055 hq34055
    unfold recyclingref25_SameReasons_l1 at hb34055
    refine Atn 0 hF34055 hS34055 E E (G0 5 E ?_)
    refine Br hb34055 14 E E (fun hc2 hb34055 => ?_) (fun hc2 hb34055 => ?_)
    · refine G2 10 [14] [] [] E (Dr _ Kept.refl [(true, 0), (true, 1), (true, 2), (true, 3), (true, 4), (true, 5), (true, 6), (true, 7), (true, 8)] (by kernel_rfl) (G0 2 E (Ix hb34055 hA1 E E fun x1 _ _ _ hr1 hc3 _ hb34055 => ?_)))
      obtain rfl := hr1
      refine Q3 3 [] [] [64] (Z1 hc3) E (Ix hb34055 hA2 E E fun x2 _ _ _ hr2 hc4 _ hb34055 => ?_)
      obtain rfl := hr2
      refine Q3 1 [] [] [64] (Z1 hc4) E (Rdo E E (R_agg E E (Ex.mk _ (neRun_T_api_Reason x1 x2) (Q0 1 E ?_))))
      refine Br hb34055 24 E E (fun hc5 hb34055 => ?_) (fun hc5 hb34055 => ?_)
      · refine G2 5 [24] [] [] E ?_
        cases hb34055
        have hq_ := hq34055 _ E
        subst hq_
        replace h := osum_r h
        cases h
        exact Rt [] E E (Ug [] 0 hR)
      refine G2 7 [] [24] [] E ?_
      cases hb34055
      exact Ce E ⟨_, rfl, fE E, sE [] 0 E, rfl⟩
    refine G2 2 [] [14] [] E ?_
    cases hb34055
    have hq_ := hq34055 _ E
    subst hq_
    exact Ce E ⟨rfl, fE E, sE [] 0 E, rfl⟩
  rintro _ _ _ _ h _ ⟨rfl, hF34053, hS34053, rfl⟩
  replace h := osum_l h
  refine Atn 0 hF34053 hS34053 E E (G0 4 E ?_)
  cases h
  exact Rt [] E E (Ug [] 0 hR)
theorem recyclinglaw25_awake_fn {F : Nat}   {res1 : Bool}
     (h : recyclinglaw25_awake F = some res1)
    (hR : ∀ (μ' : Gh) , μ.le μ' → R (.bool res1) μ' (L)) :
    Fn Tryz.prog 12 [] μ (L) R := by
  unfold recyclinglaw25_awake at h
  refine FnS Tryz.func12 (by kernel_rfl) E Tryz.ntmps12 E E ?_
  refine G0 6 E (So E (O_bsl (z := [.int .i64 0, .int .i64 0]) E E E E E E E (F_cons (cells' := [.int .i64 0, .int .i64 0]) E E E E (F_cons (cells' := [.int .i64 0, .int .i64 (-1)]) E E E E (F_nil (fun g1 => Q0 1 E (So E (O_bsl (z := [.int .i64 0, .slice none 0 0]) E E E E E E E (F_cons (cells' := [.int .i64 0, .slice (some ⟨g1, 0, none⟩) 2 2]) E E E E (F_nil (fun g2 => Q0 1 E (Al E fun g3 => Q1 4 [0] E (Cl E (FnS Tryz.func35 (by kernel_rfl) E Tryz.ntmps35 E E (G0 2 E (Al E fun g4 => ?_))))))))))))))))
  refine Q0 5 E (So E (O_bsl (z := [.int .i64 0, .int .i64 0, .int .i64 0, .int .i64 0, .int .i64 0, .int .i64 0, .int .i64 0, .int .i64 0]) E E E E E E E (F_cons (cells' := [.int .i64 0, .int .i64 1, .int .i64 500, .int .i64 60, .int .i64 0, .int .i64 0, .int .i64 0, .int .i64 0]) E E E E (F_cons (cells' := [.int .i64 0, .int .i64 1, .int .i64 500, .int .i64 60, .int .i64 1, .int .i64 0, .int .i64 500, .int .i64 60]) E E E E (F_nil (fun g5 => Q0 3 E (So E (O_bsl (z := [.string ⟨#[]⟩, .int .i64 0, .int .i64 0, .int .i64 0, .int .i64 0, .int .i64 0]) E E E E E E E (F_cons (cells' := [.string ⟨#[118]⟩, .int .i64 0, .int .i64 1000, .int .i64 2000, .int .i64 1000, .int .i64 1]) E E E E (F_nil (fun g6 => Q0 2 E (So E (O_bsl (z := [.int .i64 0, .int .i64 0, .int .i64 0, .int .i64 0, .int .i64 0, .int .i64 0, .int .i64 0]) E E E E E E E ?_)))))))))))))
  refine F_cons (cells' := [.int .i64 0, .int .i64 1, .int .i64 0, .int .i64 300, .int .i64 1100, .int .i64 1200, .int .i64 30]) E E E E (F_nil (fun g7 => Q1 3 [3] E (Rt [3] E E (Upd.done (Q0 0 E (Cl E ?_))))))
  have hl1 : [(T_api_Edge.mk 0 1 500 60), (T_api_Edge.mk 1 0 500 60)].length ≤ 2 ∧ 2 ≤ maxLen := ⟨Nat.le_refl _, by unfold maxLen; omega⟩
  refine Fn.pre Tryz.func13 (by kernel_rfl) E (Upd.frzOwn 2 E (Own.lit (r := r_api_Edge) (e := 106) (g := g5) (xs := [(T_api_Edge.mk 0 1 500 60), (T_api_Edge.mk 1 0 500 60)]) (cs := [.int .i64 0, .int .i64 1, .int .i64 500, .int .i64 60, .int .i64 1, .int .i64 0, .int .i64 500, .int .i64 60]) (css := [[.int .i64 0, .int .i64 1, .int .i64 500, .int .i64 60], [.int .i64 1, .int .i64 0, .int .i64 500, .int .i64 60]]) E (All2.cons (E) (All2.cons (E) (All2.nil))) E E) fun _ hm_1 hA1 => Upd.done ?_)
  have hl2 : [(T_api_Vehicle.mk ⟨#[118]⟩ 0 (T_api_Window.mk 1000 2000) 1000 1)].length ≤ 1 ∧ 1 ≤ maxLen := ⟨Nat.le_refl _, by unfold maxLen; omega⟩
  refine Fn.pre Tryz.func13 (by kernel_rfl) E (Upd.frzOwn 1 E (Own.lit (r := r_api_Vehicle) (e := 61) (g := g6) (xs := [(T_api_Vehicle.mk ⟨#[118]⟩ 0 (T_api_Window.mk 1000 2000) 1000 1)]) (cs := [.string ⟨#[118]⟩, .int .i64 0, .int .i64 1000, .int .i64 2000, .int .i64 1000, .int .i64 1]) (css := [[.string ⟨#[118]⟩, .int .i64 0, .int .i64 1000, .int .i64 2000, .int .i64 1000, .int .i64 1]]) E (All2.cons (E) (All2.nil)) E E) fun _ hm_2 hA2 => Upd.done ?_)
  replace hA1 := hA1.mono hm_2
  have hl3 : [(T_api_Demand.mk 0 1 0 300 (T_api_Window.mk 1100 1200) 30)].length ≤ 1 ∧ 1 ≤ maxLen := ⟨Nat.le_refl _, by unfold maxLen; omega⟩
  refine Fn.pre Tryz.func13 (by kernel_rfl) E (Upd.frzOwn 0 E (Own.lit (r := r_api_Demand) (e := 63) (g := g7) (xs := [(T_api_Demand.mk 0 1 0 300 (T_api_Window.mk 1100 1200) 30)]) (cs := [.int .i64 0, .int .i64 1, .int .i64 0, .int .i64 300, .int .i64 1100, .int .i64 1200, .int .i64 30]) (css := [[.int .i64 0, .int .i64 1, .int .i64 0, .int .i64 300, .int .i64 1100, .int .i64 1200, .int .i64 30]]) E (All2.cons (E) (All2.nil)) E E) fun _ hm_3 hA3 => Upd.done ?_)
  replace hA1 := hA1.mono hm_3
  replace hA2 := hA2.mono hm_3
  obtain ⟨⟨r1, _⟩, hx1, h⟩ := obind h
  replace h := oun_mk h
  refine dispatch_Plan_fn hl1 hA1 hl2 hA2 hl3 hA3 hx1 (fun _ A1 c1 A2 c2 hm_4 hl4 hA4 hl5 hA5 => ?_)
  refine Q0 3 E (Al E fun g8 => Q1 5 [0] E (Cl E (FnS Tryz.func35 (by kernel_rfl) E Tryz.ntmps35 E E (G0 2 E (Al E fun g9 => Q0 5 E (So E (O_bsl (z := [.int .i64 0, .int .i64 0, .int .i64 0, .int .i64 0, .int .i64 0, .int .i64 0, .int .i64 0, .int .i64 0]) E E E E E E E (F_cons (cells' := [.int .i64 0, .int .i64 1, .int .i64 500, .int .i64 60, .int .i64 0, .int .i64 0, .int .i64 0, .int .i64 0]) E E E E (F_cons (cells' := [.int .i64 0, .int .i64 1, .int .i64 500, .int .i64 60, .int .i64 1, .int .i64 0, .int .i64 500, .int .i64 60]) E E E E (F_nil (fun g10 => Q0 3 E (So E (O_bsl (z := [.string ⟨#[]⟩, .int .i64 0, .int .i64 0, .int .i64 0, .int .i64 0, .int .i64 0]) E E E E E E E (F_cons (cells' := [.string ⟨#[118]⟩, .int .i64 0, .int .i64 1000, .int .i64 2000, .int .i64 1000, .int .i64 1]) E E E E ?_))))))))))))))
  refine F_nil (fun g11 => Q0 2 E (So E (O_bsl (z := [.int .i64 0, .int .i64 0, .int .i64 0, .int .i64 0, .int .i64 0, .int .i64 0, .int .i64 0]) E E E E E E E (F_cons (cells' := [.int .i64 0, .int .i64 1, .int .i64 0, .int .i64 300, .int .i64 1100, .int .i64 1200, .int .i64 30]) E E E E (F_nil (fun g12 => Q1 3 [3] E (Rt [3] E E (Upd.done (Q0 0 E (So E (O_bsl (z := [.int .i64 0]) E E E E E E E (F_cons (cells' := [.int .i64 0]) E E E E (F_nil (fun g13 => Q0 1 E (Cl E ?_)))))))))))))))
  have hl6 : [(T_api_Edge.mk 0 1 500 60), (T_api_Edge.mk 1 0 500 60)].length ≤ 2 ∧ 2 ≤ maxLen := ⟨Nat.le_refl _, by unfold maxLen; omega⟩
  refine Fn.pre Tryz.func16 (by kernel_rfl) E (Upd.frzOwn 3 E (Own.lit (r := r_api_Edge) (e := 106) (g := g10) (xs := [(T_api_Edge.mk 0 1 500 60), (T_api_Edge.mk 1 0 500 60)]) (cs := [.int .i64 0, .int .i64 1, .int .i64 500, .int .i64 60, .int .i64 1, .int .i64 0, .int .i64 500, .int .i64 60]) (css := [[.int .i64 0, .int .i64 1, .int .i64 500, .int .i64 60], [.int .i64 1, .int .i64 0, .int .i64 500, .int .i64 60]]) E (All2.cons (E) (All2.cons (E) (All2.nil))) E E) fun _ hm_5 hA6 => Upd.done ?_)
  replace hA4 := hA4.mono hm_5
  replace hA5 := hA5.mono hm_5
  have hl7 : [(T_api_Vehicle.mk ⟨#[118]⟩ 0 (T_api_Window.mk 1000 2000) 1000 1)].length ≤ 1 ∧ 1 ≤ maxLen := ⟨Nat.le_refl _, by unfold maxLen; omega⟩
  refine Fn.pre Tryz.func16 (by kernel_rfl) E (Upd.frzOwn 2 E (Own.lit (r := r_api_Vehicle) (e := 61) (g := g11) (xs := [(T_api_Vehicle.mk ⟨#[118]⟩ 0 (T_api_Window.mk 1000 2000) 1000 1)]) (cs := [.string ⟨#[118]⟩, .int .i64 0, .int .i64 1000, .int .i64 2000, .int .i64 1000, .int .i64 1]) (css := [[.string ⟨#[118]⟩, .int .i64 0, .int .i64 1000, .int .i64 2000, .int .i64 1000, .int .i64 1]]) E (All2.cons (E) (All2.nil)) E E) fun _ hm_6 hA7 => Upd.done ?_)
  replace hA4 := hA4.mono hm_6
  replace hA5 := hA5.mono hm_6
  replace hA6 := hA6.mono hm_6
  have hl8 : [(T_api_Demand.mk 0 1 0 300 (T_api_Window.mk 1100 1200) 30)].length ≤ 1 ∧ 1 ≤ maxLen := ⟨Nat.le_refl _, by unfold maxLen; omega⟩
  refine Fn.pre Tryz.func16 (by kernel_rfl) E (Upd.frzOwn 1 E (Own.lit (r := r_api_Demand) (e := 63) (g := g12) (xs := [(T_api_Demand.mk 0 1 0 300 (T_api_Window.mk 1100 1200) 30)]) (cs := [.int .i64 0, .int .i64 1, .int .i64 0, .int .i64 300, .int .i64 1100, .int .i64 1200, .int .i64 30]) (css := [[.int .i64 0, .int .i64 1, .int .i64 0, .int .i64 300, .int .i64 1100, .int .i64 1200, .int .i64 30]]) E (All2.cons (E) (All2.nil)) E E) fun _ hm_7 hA8 => Upd.done ?_)
  replace hA4 := hA4.mono hm_7
  replace hA5 := hA5.mono hm_7
  replace hA6 := hA6.mono hm_7
  replace hA7 := hA7.mono hm_7
  have hl9 : [0].length ≤ 1 ∧ 1 ≤ maxLen := ⟨Nat.le_refl _, by unfold maxLen; omega⟩
  refine Fn.pre Tryz.func16 (by kernel_rfl) E (Upd.frzOwn 0 E (Own.lit (r := rInt) (e := 3) (g := g13) (xs := [0]) (cs := [.int .i64 0]) (css := [[.int .i64 0]]) E (All2.cons (E) (All2.nil)) E E) fun _ hm_8 hA9 => Upd.done ?_)
  replace hA4 := hA4.mono hm_8
  replace hA5 := hA5.mono hm_8
  replace hA6 := hA6.mono hm_8
  replace hA7 := hA7.mono hm_8
  replace hA8 := hA8.mono hm_8
  obtain ⟨⟨_, _⟩, hx2, h⟩ := obind h
  replace h := oun_mk h
  refine dispatch_Moves_fn hl6 hA6 hl7 hA7 hl8 hA8 ⟨Nat.le_refl _, Nat.zero_le _⟩ ArrR.nil hl9 hA9 hx2 (fun _ _ _ ch1 hm_9 hO1 => ?_)
  replace hA4 := hA4.mono hm_9
  replace hA5 := hA5.mono hm_9
  refine Q0 8 E (Cl E (FnS Tryz.func35 (by kernel_rfl) E Tryz.ntmps35 E E (G0 2 E (Al E fun g14 => Q0 5 E (So E (O_bsl (z := [.int .i64 0, .int .i64 0, .int .i64 0, .int .i64 0, .int .i64 0, .int .i64 0, .int .i64 0, .int .i64 0]) E E E E E E E (F_cons (cells' := [.int .i64 0, .int .i64 1, .int .i64 500, .int .i64 60, .int .i64 0, .int .i64 0, .int .i64 0, .int .i64 0]) E E E E (F_cons (cells' := [.int .i64 0, .int .i64 1, .int .i64 500, .int .i64 60, .int .i64 1, .int .i64 0, .int .i64 500, .int .i64 60]) E E E E (F_nil (fun g15 => Q0 3 E (So E (O_bsl (z := [.string ⟨#[]⟩, .int .i64 0, .int .i64 0, .int .i64 0, .int .i64 0, .int .i64 0]) E E E E E E E (F_cons (cells' := [.string ⟨#[118]⟩, .int .i64 0, .int .i64 1000, .int .i64 2000, .int .i64 1000, .int .i64 1]) E E E E ?_)))))))))))))
  refine F_nil (fun g16 => Q0 2 E (So E (O_bsl (z := [.int .i64 0, .int .i64 0, .int .i64 0, .int .i64 0, .int .i64 0, .int .i64 0, .int .i64 0]) E E E E E E E (F_cons (cells' := [.int .i64 0, .int .i64 1, .int .i64 0, .int .i64 300, .int .i64 1100, .int .i64 1200, .int .i64 30]) E E E E (F_nil (fun g17 => Q1 3 [3] E (Rt [3] E E (Upd.done (Q0 0 E (So E (O_bsl (z := [.int .i64 0]) E E E E E E E (F_cons (cells' := [.int .i64 0]) E E E E (F_nil (fun g18 => Q0 1 E (Cl E ?_)))))))))))))))
  have hl10 : [(T_api_Edge.mk 0 1 500 60), (T_api_Edge.mk 1 0 500 60)].length ≤ 2 ∧ 2 ≤ maxLen := ⟨Nat.le_refl _, by unfold maxLen; omega⟩
  refine Fn.pre Tryz.func18 (by kernel_rfl) E (Upd.frzOwn 3 E (Own.lit (r := r_api_Edge) (e := 106) (g := g15) (xs := [(T_api_Edge.mk 0 1 500 60), (T_api_Edge.mk 1 0 500 60)]) (cs := [.int .i64 0, .int .i64 1, .int .i64 500, .int .i64 60, .int .i64 1, .int .i64 0, .int .i64 500, .int .i64 60]) (css := [[.int .i64 0, .int .i64 1, .int .i64 500, .int .i64 60], [.int .i64 1, .int .i64 0, .int .i64 500, .int .i64 60]]) E (All2.cons (E) (All2.cons (E) (All2.nil))) E E) fun _ hm_10 hA10 => Upd.done ?_)
  replace hA4 := hA4.mono hm_10
  replace hA5 := hA5.mono hm_10
  replace hO1 := hO1.mono hm_10
  have hl11 : [(T_api_Vehicle.mk ⟨#[118]⟩ 0 (T_api_Window.mk 1000 2000) 1000 1)].length ≤ 1 ∧ 1 ≤ maxLen := ⟨Nat.le_refl _, by unfold maxLen; omega⟩
  refine Fn.pre Tryz.func18 (by kernel_rfl) E (Upd.frzOwn 2 E (Own.lit (r := r_api_Vehicle) (e := 61) (g := g16) (xs := [(T_api_Vehicle.mk ⟨#[118]⟩ 0 (T_api_Window.mk 1000 2000) 1000 1)]) (cs := [.string ⟨#[118]⟩, .int .i64 0, .int .i64 1000, .int .i64 2000, .int .i64 1000, .int .i64 1]) (css := [[.string ⟨#[118]⟩, .int .i64 0, .int .i64 1000, .int .i64 2000, .int .i64 1000, .int .i64 1]]) E (All2.cons (E) (All2.nil)) E E) fun _ hm_11 hA11 => Upd.done ?_)
  replace hA4 := hA4.mono hm_11
  replace hA5 := hA5.mono hm_11
  replace hO1 := hO1.mono hm_11
  replace hA10 := hA10.mono hm_11
  have hl12 : [(T_api_Demand.mk 0 1 0 300 (T_api_Window.mk 1100 1200) 30)].length ≤ 1 ∧ 1 ≤ maxLen := ⟨Nat.le_refl _, by unfold maxLen; omega⟩
  refine Fn.pre Tryz.func18 (by kernel_rfl) E (Upd.frzOwn 1 E (Own.lit (r := r_api_Demand) (e := 63) (g := g17) (xs := [(T_api_Demand.mk 0 1 0 300 (T_api_Window.mk 1100 1200) 30)]) (cs := [.int .i64 0, .int .i64 1, .int .i64 0, .int .i64 300, .int .i64 1100, .int .i64 1200, .int .i64 30]) (css := [[.int .i64 0, .int .i64 1, .int .i64 0, .int .i64 300, .int .i64 1100, .int .i64 1200, .int .i64 30]]) E (All2.cons (E) (All2.nil)) E E) fun _ hm_12 hA12 => Upd.done ?_)
  replace hA4 := hA4.mono hm_12
  replace hA5 := hA5.mono hm_12
  replace hO1 := hO1.mono hm_12
  replace hA10 := hA10.mono hm_12
  replace hA11 := hA11.mono hm_12
  have hl13 : [0].length ≤ 1 ∧ 1 ≤ maxLen := ⟨Nat.le_refl _, by unfold maxLen; omega⟩
  refine Fn.pre Tryz.func18 (by kernel_rfl) E (Upd.frzOwn 0 E (Own.lit (r := rInt) (e := 3) (g := g18) (xs := [0]) (cs := [.int .i64 0]) (css := [[.int .i64 0]]) E (All2.cons (E) (All2.nil)) E E) fun _ hm_13 hA13 => Upd.done ?_)
  replace hA4 := hA4.mono hm_13
  replace hA5 := hA5.mono hm_13
  replace hO1 := hO1.mono hm_13
  replace hA10 := hA10.mono hm_13
  replace hA11 := hA11.mono hm_13
  replace hA12 := hA12.mono hm_13
  obtain ⟨⟨_, _⟩, hx3, h⟩ := obind h
  replace h := oun_mk h
  refine dispatch_Why_fn hl10 hA10 hl11 hA11 hl12 hA12 ⟨Nat.le_refl _, Nat.zero_le _⟩ ArrR.nil hl13 hA13 hx3 (fun v14 _ _ ch2 hm_14 hO2 => ?_)
  replace hA4 := hA4.mono hm_14
  replace hA5 := hA5.mono hm_14
  replace hO1 := hO1.mono hm_14
  refine Q0 8 E (Cl E (FnS Tryz.func35 (by kernel_rfl) E Tryz.ntmps35 E E (G0 2 E (Al E fun g19 => Q0 5 E (So E (O_bsl (z := [.int .i64 0, .int .i64 0, .int .i64 0, .int .i64 0, .int .i64 0, .int .i64 0, .int .i64 0, .int .i64 0]) E E E E E E E (F_cons (cells' := [.int .i64 0, .int .i64 1, .int .i64 500, .int .i64 60, .int .i64 0, .int .i64 0, .int .i64 0, .int .i64 0]) E E E E (F_cons (cells' := [.int .i64 0, .int .i64 1, .int .i64 500, .int .i64 60, .int .i64 1, .int .i64 0, .int .i64 500, .int .i64 60]) E E E E (F_nil (fun g20 => Q0 3 E (So E (O_bsl (z := [.string ⟨#[]⟩, .int .i64 0, .int .i64 0, .int .i64 0, .int .i64 0, .int .i64 0]) E E E E E E E (F_cons (cells' := [.string ⟨#[118]⟩, .int .i64 0, .int .i64 1000, .int .i64 2000, .int .i64 1000, .int .i64 1]) E E E E ?_)))))))))))))
  refine F_nil (fun g21 => Q0 2 E (So E (O_bsl (z := [.int .i64 0, .int .i64 0, .int .i64 0, .int .i64 0, .int .i64 0, .int .i64 0, .int .i64 0]) E E E E E E E (F_cons (cells' := [.int .i64 0, .int .i64 1, .int .i64 0, .int .i64 300, .int .i64 1100, .int .i64 1200, .int .i64 30]) E E E E (F_nil (fun g22 => Q1 3 [3] E (Rt [3] E E (Upd.done (Q0 0 E (Al E fun g23 => Q1 6 [0, 0] E (IxA h (Own.rds (Own.lit (r := r_api_Vehicle) (e := 61) (g := g21) (xs := [(T_api_Vehicle.mk ⟨#[118]⟩ 0 (T_api_Window.mk 1000 2000) 1000 1)]) (cs := [.string ⟨#[118]⟩, .int .i64 0, .int .i64 1000, .int .i64 2000, .int .i64 1000, .int .i64 1]) (css := [[.string ⟨#[118]⟩, .int .i64 0, .int .i64 1000, .int .i64 2000, .int .i64 1000, .int .i64 1]]) E (All2.cons (E) (All2.nil)) E E) 2 E) E E fun x1 _ _ hx4 hr1 _ hA14 h => ?_)))))))))))
  obtain rfl := hr1
  refine Q0 1 E (So E (O_store (vs := [.int .i64 299]) rfl rfl rfl rfl rfl rfl (Own.store (μ := v14) (r := r_api_Vehicle) (x' := (T_api_Vehicle.mk x1.ID x1.Depot x1.Shift 299 x1.Kinds)) (o := 4) (sz := 6) 2 rfl (Own.lit (r := r_api_Vehicle) (e := 61) (g := g21) (xs := [(T_api_Vehicle.mk ⟨#[118]⟩ 0 (T_api_Window.mk 1000 2000) 1000 1)]) (cs := [.string ⟨#[118]⟩, .int .i64 0, .int .i64 1000, .int .i64 2000, .int .i64 1000, .int .i64 1]) (css := [[.string ⟨#[118]⟩, .int .i64 0, .int .i64 1000, .int .i64 2000, .int .i64 1000, .int .i64 1]]) rfl (All2.cons (rfl) (All2.nil)) rfl rfl) hA14 hx4 rfl rfl (by rintro _ rfl; rfl) fun _ hO3 => Q1 4 [0] E (Cl E ?_))))
  have hl14 : [(T_api_Edge.mk 0 1 500 60), (T_api_Edge.mk 1 0 500 60)].length ≤ 2 ∧ 2 ≤ maxLen := ⟨Nat.le_refl _, by unfold maxLen; omega⟩
  refine Fn.pre Tryz.func13 (by kernel_rfl) E (Upd.frzOwn 3 E (Own.lit (r := r_api_Edge) (e := 106) (g := g20) (xs := [(T_api_Edge.mk 0 1 500 60), (T_api_Edge.mk 1 0 500 60)]) (cs := [.int .i64 0, .int .i64 1, .int .i64 500, .int .i64 60, .int .i64 1, .int .i64 0, .int .i64 500, .int .i64 60]) (css := [[.int .i64 0, .int .i64 1, .int .i64 500, .int .i64 60], [.int .i64 1, .int .i64 0, .int .i64 500, .int .i64 60]]) E (All2.cons (E) (All2.cons (E) (All2.nil))) E E) fun _ hm_15 hA15 => Upd.done ?_)
  replace hA4 := hA4.mono hm_15
  replace hA5 := hA5.mono hm_15
  replace hO1 := hO1.mono hm_15
  replace hO2 := hO2.mono hm_15
  replace hO3 := hO3.mono hm_15
  have hl15 := Own.lenOk hO3
  refine Fn.pre Tryz.func13 (by kernel_rfl) E (Upd.frzOwn 2 E hO3 fun _ hm_16 hA16 => Upd.done ?_)
  replace hA4 := hA4.mono hm_16
  replace hA5 := hA5.mono hm_16
  replace hO1 := hO1.mono hm_16
  replace hO2 := hO2.mono hm_16
  replace hA15 := hA15.mono hm_16
  have hl16 : [(T_api_Demand.mk 0 1 0 300 (T_api_Window.mk 1100 1200) 30)].length ≤ 1 ∧ 1 ≤ maxLen := ⟨Nat.le_refl _, by unfold maxLen; omega⟩
  refine Fn.pre Tryz.func13 (by kernel_rfl) E (Upd.frzOwn 1 E (Own.lit (r := r_api_Demand) (e := 63) (g := g22) (xs := [(T_api_Demand.mk 0 1 0 300 (T_api_Window.mk 1100 1200) 30)]) (cs := [.int .i64 0, .int .i64 1, .int .i64 0, .int .i64 300, .int .i64 1100, .int .i64 1200, .int .i64 30]) (css := [[.int .i64 0, .int .i64 1, .int .i64 0, .int .i64 300, .int .i64 1100, .int .i64 1200, .int .i64 30]]) E (All2.cons (E) (All2.nil)) E E) fun _ hm_17 hA17 => Upd.done ?_)
  replace hA4 := hA4.mono hm_17
  replace hA5 := hA5.mono hm_17
  replace hO1 := hO1.mono hm_17
  replace hO2 := hO2.mono hm_17
  replace hA15 := hA15.mono hm_17
  replace hA16 := hA16.mono hm_17
  obtain ⟨⟨r7, _⟩, hx5, h⟩ := obind h
  replace h := oun_mk h
  refine dispatch_Plan_fn (p1 := (T_api_Problem.mk (T_api_Road.mk 2 [(T_api_Edge.mk 0 1 500 60), (T_api_Edge.mk 1 0 500 60)]) (setI [(T_api_Vehicle.mk ⟨#[118]⟩ 0 (T_api_Window.mk 1000 2000) 1000 1)] 0 (T_api_Vehicle.mk x1.ID x1.Depot x1.Shift 299 x1.Kinds)) [(T_api_Demand.mk 0 1 0 300 (T_api_Window.mk 1100 1200) 30)] 0 20)) hl14 hA15 hl15 hA16 hl16 hA17 hx5 (fun _ A5 c5 A6 c6 hm_18 hl17 hA18 hl18 hA19 => ?_)
  replace hA4 := hA4.mono hm_18
  replace hA5 := hA5.mono hm_18
  replace hO1 := hO1.mono hm_18
  replace hO2 := hO2.mono hm_18
  replace hA15 := hA15.mono hm_18
  replace hA16 := hA16.mono hm_18
  replace hA17 := hA17.mono hm_18
  refine Q0 3 E (Al E fun g24 => Q1 7 [0, 1, 0] E (Cl E ?_))
  obtain ⟨⟨_, _⟩, hx6, h⟩ := obind h
  replace h := oun_mk h
  refine dispatch_Why_fn (p1 := (T_api_Problem.mk (T_api_Road.mk 2 [(T_api_Edge.mk 0 1 500 60), (T_api_Edge.mk 1 0 500 60)]) (setI [(T_api_Vehicle.mk ⟨#[118]⟩ 0 (T_api_Window.mk 1000 2000) 1000 1)] 0 (T_api_Vehicle.mk x1.ID x1.Depot x1.Shift 299 x1.Kinds)) [(T_api_Demand.mk 0 1 0 300 (T_api_Window.mk 1100 1200) 30)] 0 20)) hl14 hA15 hl15 hA16 hl16 hA17 hl17 hA18 hl18 hA19 hx6 (fun _ _ _ ch4 hm_19 hO4 => ?_)
  replace hA4 := hA4.mono hm_19
  replace hA5 := hA5.mono hm_19
  replace hO1 := hO1.mono hm_19
  replace hO2 := hO2.mono hm_19
  replace hA18 := hA18.mono hm_19
  replace hA19 := hA19.mono hm_19
  refine Q0 7 E ?_
  refine Cut h (fun f l o_ f_ μ_ l_ => ∃ (v23 : Bool), v23 = o_ ∧ SubFr ((0, .bool v23) :: []) f_ ∧ SegSub (selS [] 27 l) l_) ?_ ?_
  · intro _ h34453 h
    have hl19 : [0, (-1)].length ≤ 2 ∧ 2 ≤ maxLen := ⟨Nat.le_refl _, by unfold maxLen; omega⟩
    refine KS.upd E (Upd.frzOwn 26 E (Own.lit (r := rInt) (e := 3) (g := g1) (xs := [0, (-1)]) (cs := [.int .i64 0, .int .i64 (-1)]) (css := [[.int .i64 0], [.int .i64 (-1)]]) E (All2.cons (E) (All2.cons (E) (All2.nil))) E E) fun _ hm_20 hA20 => Upd.done ?_)
    replace hA4 := hA4.mono hm_20
    replace hA5 := hA5.mono hm_20
    replace hO1 := hO1.mono hm_20
    replace hO2 := hO2.mono hm_20
    replace hA18 := hA18.mono hm_20
    replace hA19 := hA19.mono hm_20
    replace hO4 := hO4.mono hm_20
    have hl20 : [(T_api_Tour.mk 0 [0, (-1)])].length ≤ 1 ∧ 1 ≤ maxLen := ⟨Nat.le_refl _, by unfold maxLen; omega⟩
    refine KS.upd E (Upd.frzOwn 25 E (Own.lit (r := r_api_Tour) (e := 51) (g := g2) (xs := [(T_api_Tour.mk 0 [0, (-1)])]) (cs := [.int .i64 0, .slice (some ⟨g1, 0, none⟩) 2 2]) (css := [[.int .i64 0, .slice (some ⟨g1, 0, none⟩) 2 2]]) E (All2.cons (⟨(some ⟨g1, 0, none⟩), 2, E, hl19, hA20⟩) (All2.nil)) E E) fun _ hm_21 hA21 => Upd.done ?_)
    replace hA4 := hA4.mono hm_21
    replace hA5 := hA5.mono hm_21
    replace hO1 := hO1.mono hm_21
    replace hO2 := hO2.mono hm_21
    replace hA18 := hA18.mono hm_21
    replace hA19 := hA19.mono hm_21
    replace hO4 := hO4.mono hm_21
    refine Dr _ Kept.refl [(true, 0), (true, 1), (false, 2), (true, 3), (true, 4), (true, 5), (true, 6), (true, 7), (true, 8), (true, 9), (true, 10), (true, 11), (true, 12), (true, 13), (true, 14), (true, 15), (true, 16), (false, 17), (true, 18), (true, 19), (true, 20), (true, 21), (true, 22), (true, 23), (true, 24), (true, 25), (false, 26), (false, 27), (true, 28), (true, 29), (true, 30), (true, 31), (true, 32), (true, 33), (true, 34), (false, 35), (true, 36), (false, 37), (true, 38), (true, 39), (true, 40), (true, 41), (true, 42), (true, 43), (true, 44), (true, 45), (false, 46), (false, 47), (true, 48), (true, 49), (true, 50), (true, 51), (true, 52), (true, 53)] (by kernel_rfl) (G1 2 [19, 24] E (Cl E ?_))
    obtain ⟨_, hx7, h34453⟩ := obind h34453
    refine recyclingref25_Same_fn hl4 hA4 hl5 hA5 hl20 hA21 ⟨Nat.le_refl _, Nat.zero_le _⟩ ArrR.nil hx7 (?_)
    refine ⟨Kept.refl, ?_⟩
    refine Q0 1 E ?_
    refine Br h34453 55 E E (fun hc2 h34453 => ?_) (fun hc2 h34453 => ?_)
    · refine G2 4 [55] [] [] E ?_
      refine Br h34453 59 E E (fun hc3 h34453 => ?_) (fun hc3 h34453 => ?_)
      · refine G2 5 [59] [] [] E ?_
        refine Br h34453 64 E E (fun hc4 h34453 => ?_) (fun hc4 h34453 => ?_)
        · refine G2 1 [64] [] [] E (Ix h34453 (Own.rds (L := (ch4 :: [(g24, .cells #[.slice A5 r7.Tours.length c5, .slice A6 r7.Left.length c6] 33 (0, 0))] :: [(g23, .cells #[.int .i64 2, .slice (some ⟨g20, 0, none⟩) 2 2, .slice (some ⟨g21, 0, none⟩) 1 1, .slice (some ⟨g22, 0, none⟩) 1 1, .int .i64 0, .int .i64 20] 28 (0, 0))] :: [] :: [] :: [] :: [(g19, .cells #[.int .i64 2, .slice (some ⟨g20, 0, none⟩) 2 2, .slice (some ⟨g21, 0, none⟩) 1 1, .slice (some ⟨g22, 0, none⟩) 1 1, .int .i64 0, .int .i64 20] 28 (0, 0))] :: ch2 :: [] :: [] :: [] :: [] :: [(g14, .cells #[.int .i64 2, .slice (some ⟨g15, 0, none⟩) 2 2, .slice (some ⟨g16, 0, none⟩) 1 1, .slice (some ⟨g17, 0, none⟩) 1 1, .int .i64 0, .int .i64 20] 28 (0, 0))] :: ch1 :: [] :: [] :: [] :: [] :: [(g9, .cells #[.int .i64 2, .slice (some ⟨g10, 0, none⟩) 2 2, .slice (some ⟨g11, 0, none⟩) 1 1, .slice (some ⟨g12, 0, none⟩) 1 1, .int .i64 0, .int .i64 20] 28 (0, 0))] :: [(g8, .cells #[.slice A1 r1.Tours.length c1, .slice A2 r1.Left.length c2] 33 (0, 0))] :: [] :: [] :: [] :: [(g4, .cells #[.int .i64 2, .slice (some ⟨g5, 0, none⟩) 2 2, .slice (some ⟨g6, 0, none⟩) 1 1, .slice (some ⟨g7, 0, none⟩) 1 1, .int .i64 0, .int .i64 20] 28 (0, 0))] :: [(g3, .cells #[.slice (some ⟨g2, 0, none⟩) 1 1, .slice none 0 0] 33 (0, 0))] :: [] :: [] :: L)) hO1 13 E) E E fun _ _ _ _ hr2 hc5 _ h34453 => ?_)
          obtain ⟨_, _, _, _, rfl, hl21, hA23, hl22, hA24⟩ := hr2
          refine Q3 2 [64] [] [64, 24] (Z1 hc5) E (Cl E ?_)
          obtain ⟨_, hx9, h34453⟩ := obind h34453
          refine recyclingref25_Same_fn hl21 hA23 hl22 hA24 hl20 hA21 ⟨Nat.le_refl _, Nat.zero_le _⟩ ArrR.nil hx9 (?_)
          refine ⟨Kept.refl, ?_⟩
          refine Q2 2 [64] [] [] E ?_
          refine Br h34453 71 E E (fun hc6 h34453 => ?_) (fun hc6 h34453 => ?_)
          · refine G2 4 [71] [] [] E ?_
            refine Br h34453 75 E E (fun hc7 h34453 => ?_) (fun hc7 h34453 => ?_)
            · refine G2 2 [75] [] [] E (So E (O_bsl (z := [.int .i64 0, .int .i64 0]) E E E E E E E (F_cons (cells' := [.int .i64 0, .int .i64 0]) E E E E (F_nil (fun g25 => ?_)))))
              refine ⟨Kept.more (Kept.refl), ?_⟩
              refine Q0 0 E (Cl E ?_)
              obtain ⟨_, hx10, h34453⟩ := obind h34453
              refine recyclingref25_SameReasons_fn (Own.lenOk hO2) (Own.rds hO2 8 E) (lenLit (c := 1) E E) (Own.rds (Own.lit (r := r_api_Reason) (e := 56) (g := g25) (xs := [(T_api_Reason.mk 0 0)]) (cs := [.int .i64 0, .int .i64 0]) (css := [[.int .i64 0, .int .i64 0]]) E (All2.cons (E) (All2.nil)) E E) 0 E) hx10 (?_)
              refine ⟨Kept.more (Kept.refl), ?_⟩
              refine Q2 2 [75] [] [] E ?_
              refine Br h34453 81 E E (fun hc8 h34453 => ?_) (fun hc8 h34453 => ?_)
              · refine G2 4 [81] [] [] E ?_
                refine Br h34453 85 E E (fun hc9 h34453 => ?_) (fun hc9 h34453 => ?_)
                · refine G2 1 [85] [] [1] E (So E (O_bsl (z := [.int .i64 0]) E E E E E E E (F_cons (cells' := [.int .i64 0]) E E E E (F_nil (fun g26 => ?_)))))
                  refine ⟨Kept.more (Kept.more (Kept.refl)), ?_⟩
                  refine Q2 1 [85] [] [] E (Cl E ?_)
                  have hl23 : [0].length ≤ 1 ∧ 1 ≤ maxLen := ⟨Nat.le_refl _, by unfold maxLen; omega⟩
                  refine Fn.pre Tryz.func15 (by kernel_rfl) E (Upd.frzOwn 0 E (Own.lit (r := rInt) (e := 3) (g := g26) (xs := [0]) (cs := [.int .i64 0]) (css := [[.int .i64 0]]) E (All2.cons (E) (All2.nil)) E E) fun _ hm_22 hA25 => Upd.done ?_)
                  replace hA18 := hA18.mono hm_22
                  replace hA19 := hA19.mono hm_22
                  replace hO4 := hO4.mono hm_22
                  obtain ⟨_, hx11, h34453⟩ := obind h34453
                  refine recyclingref25_Same_fn hl17 hA18 hl18 hA19 ⟨Nat.le_refl _, Nat.zero_le _⟩ ArrR.nil hl23 hA25 hx11 (?_)
                  refine ⟨Kept.more (Kept.more (Kept.refl)), ?_⟩
                  refine Q2 2 [85] [] [] E ?_
                  refine Br h34453 91 E E (fun hc10 h34453 => ?_) (fun hc10 h34453 => ?_)
                  · refine G2 4 [91] [] [] E ?_
                    refine Br h34453 95 E E (fun hc11 h34453 => ?_) (fun hc11 h34453 => ?_)
                    · refine G2 2 [95] [] [] E (So E (O_bsl (z := [.int .i64 0, .int .i64 0]) E E E E E E E (F_cons (cells' := [.int .i64 0, .int .i64 20]) E E E E (F_nil (fun g27 => ?_)))))
                      refine ⟨Kept.more (Kept.more (Kept.more (Kept.refl))), ?_⟩
                      refine Q0 0 E (Cl E ?_)
                      obtain ⟨_, hx12, h34453⟩ := obind h34453
                      refine recyclingref25_SameReasons_fn (Own.lenOk hO4) (Own.rds hO4 3 E) (lenLit (c := 1) E E) (Own.rds (Own.lit (r := r_api_Reason) (e := 56) (g := g27) (xs := [(T_api_Reason.mk 0 20)]) (cs := [.int .i64 0, .int .i64 20]) (css := [[.int .i64 0, .int .i64 20]]) E (All2.cons (E) (All2.nil)) E E) 0 E) hx12 (?_)
                      refine ⟨Kept.more (Kept.more (Kept.more (Kept.refl))), ?_⟩
                      refine Q2 2 [95] [] [] E ?_
                      refine Br h34453 101 E E (fun hc12 h34453 => ?_) (fun hc12 h34453 => ?_)
                      · refine G2 5 [101] [] [] E ?_
                        cases h34453
                        exact Ce E ⟨_, rfl, fE E, sE [] 30 E⟩
                      refine G2 5 [] [101] [] E ?_
                      cases h34453
                      exact Ce E ⟨_, rfl, fE E, sE [] 30 E⟩
                    refine G2 11 [] [95, 101] [] E ?_
                    cases h34453
                    exact Ce E ⟨_, rfl, fE E, sE [] 29 E⟩
                  refine G2 15 [] [91, 95, 101] [] E ?_
                  cases h34453
                  exact Ce E ⟨_, rfl, fE E, sE [] 29 E⟩
                refine G2 21 [] [85, 91, 95, 101] [] E ?_
                cases h34453
                exact Ce E ⟨_, rfl, fE E, sE [] 28 E⟩
              refine G2 25 [] [81, 85, 91, 95, 101] [] E ?_
              cases h34453
              exact Ce E ⟨_, rfl, fE E, sE [] 28 E⟩
            refine G2 31 [] [75, 81, 85, 91, 95, 101] [] E ?_
            cases h34453
            exact Ce E ⟨_, rfl, fE E, sE [] 27 E⟩
          refine G2 35 [] [71, 75, 81, 85, 91, 95, 101] [] E ?_
          cases h34453
          exact Ce E ⟨_, rfl, fE E, sE [] 27 E⟩
        refine G2 42 [] [64, 71, 75, 81, 85, 91, 95, 101] [] E ?_
        cases h34453
        exact Ce E ⟨_, rfl, fE E, sE [] 27 E⟩
      refine G2 47 [] [59, 64, 71, 75, 81, 85, 91, 95, 101] [] E ?_
      cases h34453
      exact Ce E ⟨_, rfl, fE E, sE [] 27 E⟩
    refine G2 51 [] [55, 59, 64, 71, 75, 81, 85, 91, 95, 101] [] E ?_
    cases h34453
    exact Ce E ⟨_, rfl, fE E, sE [] 27 E⟩
  rintro _ _ _ _ h hm34453 ⟨v23, rfl, hF34453, hS34453⟩
  refine Atn 0 hF34453 hS34453 E E ?_
  cases h
  exact Rt [] E E (Ug [] 0 (hR _ (hm_1.trans (hm_2.trans (hm_3.trans (hm_4.trans (hm_5.trans (hm_6.trans (hm_7.trans (hm_8.trans (hm_9.trans (hm_10.trans (hm_11.trans (hm_12.trans (hm_13.trans (hm_14.trans (hm_15.trans (hm_16.trans (hm_17.trans (hm_18.trans (hm_19.trans hm34453)))))))))))))))))))))
end Go.Proofs.YthpgjbbjpfiniaaGreat
