/- Printed by gen2.py of this repo: the walks that tie the functions to their specifications. -/
import Derived.Test.YtjbminmhndgiaaaTt
import Derived.Test.YtjbminmhndgiaaaTas
import Derived.Test.YtjbminmhndgiaaaTaw1
namespace Go.Proofs.Ytjbminmhndgiaaa
open Go.RowKit
set_option linter.unusedSimpArgs false
set_option linter.unusedVariables false
set_option maxRecDepth 4000
attribute [local irreducible] WP SemOk SemU Fn AN Upd vcR vcO vcOps vcPlan putK fillK resK inBlk forkOne Cell StAt Kept KS

variable {μ : Gh} {L : List Seg} {R : Value → Gh → List Seg → Prop}
theorem recyclinglaw22_awake_fn {F : Nat}   {res1 : Bool}
     (h : recyclinglaw22_awake F = some res1)
    (hR : ∀ (μ' : Gh) , μ.le μ' → R (.bool res1) μ' (L)) :
    Fn Try.prog 12 [] μ (L) R := by
  unfold recyclinglaw22_awake at h
  refine FnS Try.func12 (by kernel_rfl) E Try.ntmps12 E E ?_
  refine G0 6 E (Cl E ?_)
  obtain ⟨_, hx1, h⟩ := obind h
  refine recyclinglaw22_example_fn  hx1 (fun _ _ _ _ _ _ _ hm_1 hl1 hA1 hl2 hA2 hl3 hA3 => Q0 0 E (Al E fun _ => Q1 5 [0, 0] E (So E (O_bsl (z := [.int .i64 0, .int .i64 0]) E E E E E E E (F_cons (cells' := [.int .i64 0, .int .i64 0]) E E E E (F_cons (cells' := [.int .i64 0, .int .i64 (-1)]) E E E E (F_nil (fun g2 => Q0 1 E (Cl E ?_)))))))))
  have hl4 : [0, (-1)].length ≤ 2 ∧ 2 ≤ maxLen := ⟨Nat.le_refl _, by unfold maxLen; omega⟩
  refine Fn.pre Try.func15 (by kernel_rfl) E (Upd.frzOwn 0 E (Own.lit (r := rInt) (e := 3) (g := g2) (xs := [0, (-1)]) (cs := [.int .i64 0, .int .i64 (-1)]) (css := [[.int .i64 0], [.int .i64 (-1)]]) E (All2.cons (E) (All2.cons (E) (All2.nil))) E E) fun _ hm_2 hA4 => Upd.done ?_)
  replace hA1 := hA1.mono hm_2
  replace hA2 := hA2.mono hm_2
  replace hA3 := hA3.mono hm_2
  obtain ⟨⟨_, _, _⟩, hx2, h⟩ := obind h
  replace h := oun_mk h
  replace h := oun_mk h
  refine tour_Walk_fn hl1 hA1 hl2 hA2 hl3 hA3 hl4 hA4 hx2 (fun _ _ _ _ hm_3 hO1 => ?_)
  replace hA1 := hA1.mono hm_3
  replace hA2 := hA2.mono hm_3
  replace hA3 := hA3.mono hm_3
  refine Q1 11 [2] E (So E (O_bsl (z := [.int .i64 0]) E E E E E E E (F_cons (cells' := [.int .i64 0]) E E E E (F_nil (fun g3 => Q0 1 E (Cl E ?_))))))
  have hl5 : [0].length ≤ 1 ∧ 1 ≤ maxLen := ⟨Nat.le_refl _, by unfold maxLen; omega⟩
  refine Fn.pre Try.func15 (by kernel_rfl) E (Upd.frzOwn 0 E (Own.lit (r := rInt) (e := 3) (g := g3) (xs := [0]) (cs := [.int .i64 0]) (css := [[.int .i64 0]]) E (All2.cons (E) (All2.nil)) E E) fun _ hm_4 hA5 => Upd.done ?_)
  replace hA1 := hA1.mono hm_4
  replace hA2 := hA2.mono hm_4
  replace hA3 := hA3.mono hm_4
  replace hO1 := hO1.mono hm_4
  obtain ⟨⟨_, _, _⟩, hx3, h⟩ := obind h
  replace h := oun_mk h
  replace h := oun_mk h
  refine tour_Walk_fn hl1 hA1 hl2 hA2 hl3 hA3 hl5 hA5 hx3 (fun _ _ _ _ hm_5 _ => ?_)
  replace hA1 := hA1.mono hm_5
  replace hA2 := hA2.mono hm_5
  replace hA3 := hA3.mono hm_5
  replace hO1 := hO1.mono hm_5
  refine Q1 11 [4] E (So E (O_bsl (z := [.int .i64 0, .int .i64 0]) E E E E E E E (F_cons (cells' := [.int .i64 0, .int .i64 0]) E E E E (F_cons (cells' := [.int .i64 0, .int .i64 (-1)]) E E E E (F_nil (fun g4 => Q0 1 E (Cl E ?_)))))))
  have hl6 : [0, (-1)].length ≤ 2 ∧ 2 ≤ maxLen := ⟨Nat.le_refl _, by unfold maxLen; omega⟩
  refine Fn.pre Try.func18 (by kernel_rfl) E (Upd.frzOwn 0 E (Own.lit (r := rInt) (e := 3) (g := g4) (xs := [0, (-1)]) (cs := [.int .i64 0, .int .i64 (-1)]) (css := [[.int .i64 0], [.int .i64 (-1)]]) E (All2.cons (E) (All2.cons (E) (All2.nil))) E E) fun _ hm_6 hA6 => Upd.done ?_)
  replace hA1 := hA1.mono hm_6
  replace hA2 := hA2.mono hm_6
  replace hA3 := hA3.mono hm_6
  replace hO1 := hO1.mono hm_6
  obtain ⟨⟨_, _⟩, hx4, h⟩ := obind h
  replace h := oun_mk h
  refine tour_Cost_fn hl1 hA1 hl2 hA2 hl3 hA3 hl6 hA6 hx4 (fun _ hm_7 => ?_)
  replace hA1 := hA1.mono hm_7
  replace hA2 := hA2.mono hm_7
  replace hA3 := hA3.mono hm_7
  replace hO1 := hO1.mono hm_7
  refine Q0 11 E (So E (O_bsl (z := [.int .i64 0, .int .i64 0, .int .i64 0, .int .i64 0, .int .i64 0, .int .i64 0, .int .i64 0, .int .i64 0, .int .i64 0, .int .i64 0, .int .i64 0, .int .i64 0, .int .i64 0, .int .i64 0, .int .i64 0, .int .i64 0, .int .i64 0, .int .i64 0]) E E E E E E E (F_cons (cells' := [.int .i64 0, .int .i64 1, .int .i64 1060, .int .i64 1100, .int .i64 1130, .int .i64 300, .int .i64 0, .int .i64 0, .int .i64 0, .int .i64 0, .int .i64 0, .int .i64 0, .int .i64 0, .int .i64 0, .int .i64 0, .int .i64 0, .int .i64 0, .int .i64 0]) E E E E (F_cons (cells' := [.int .i64 0, .int .i64 1, .int .i64 1060, .int .i64 1100, .int .i64 1130, .int .i64 300, .int .i64 (-1), .int .i64 0, .int .i64 1190, .int .i64 1190, .int .i64 1210, .int .i64 0, .int .i64 0, .int .i64 0, .int .i64 0, .int .i64 0, .int .i64 0, .int .i64 0]) E E E E ?_))))
  refine F_cons (cells' := [.int .i64 0, .int .i64 1, .int .i64 1060, .int .i64 1100, .int .i64 1130, .int .i64 300, .int .i64 (-1), .int .i64 0, .int .i64 1190, .int .i64 1190, .int .i64 1210, .int .i64 0, .int .i64 (-2), .int .i64 0, .int .i64 1210, .int .i64 1210, .int .i64 1210, .int .i64 0]) E E E E (F_nil (fun g5 => Q0 3 E ?_))
  refine Cut h (fun f l o_ f_ μ_ l_ => ∃ (v9 : Bool), v9 = o_ ∧ SubFr ((0, .bool v9) :: []) f_ ∧ SegSub (selS [] 7 l) l_) ?_ ?_
  · intro _ h4906 h
    refine G0 3 E (Cl E ?_)
    obtain ⟨_, hx5, h4906⟩ := obind h4906
    refine recyclingref22_Same_fn (Own.lenOk hO1) (Own.rds hO1 4 E) (lenLit (c := 3) E E) (Own.rds (Own.lit (r := r_api_Visit) (e := 48) (g := g5) (xs := [(T_api_Visit.mk 0 1 1060 1100 1130 300), (T_api_Visit.mk (-1) 0 1190 1190 1210 0), (T_api_Visit.mk (-2) 0 1210 1210 1210 0)]) (cs := [.int .i64 0, .int .i64 1, .int .i64 1060, .int .i64 1100, .int .i64 1130, .int .i64 300, .int .i64 (-1), .int .i64 0, .int .i64 1190, .int .i64 1190, .int .i64 1210, .int .i64 0, .int .i64 (-2), .int .i64 0, .int .i64 1210, .int .i64 1210, .int .i64 1210, .int .i64 0]) (css := [[.int .i64 0, .int .i64 1, .int .i64 1060, .int .i64 1100, .int .i64 1130, .int .i64 300], [.int .i64 (-1), .int .i64 0, .int .i64 1190, .int .i64 1190, .int .i64 1210, .int .i64 0], [.int .i64 (-2), .int .i64 0, .int .i64 1210, .int .i64 1210, .int .i64 1210, .int .i64 0]]) E (All2.cons (E) (All2.cons (E) (All2.cons (E) (All2.nil)))) E E) 0 E) hx5 (?_)
    refine Q0 1 E ?_
    refine Br h4906 42 E E (fun hc1 h4906 => ?_) (fun hc1 h4906 => ?_)
    · refine G2 4 [42] [] [] E ?_
      refine Br h4906 46 E E (fun hc2 h4906 => ?_) (fun hc2 h4906 => ?_)
      · refine G2 4 [46] [] [] E ?_
        refine Br h4906 50 E E (fun hc3 h4906 => ?_) (fun hc3 h4906 => ?_)
        · refine G2 4 [50] [] [] E ?_
          refine Br h4906 54 E E (fun hc4 h4906 => ?_) (fun hc4 h4906 => ?_)
          · refine G2 4 [54] [] [] E ?_
            refine Br h4906 58 E E (fun hc5 h4906 => ?_) (fun hc5 h4906 => ?_)
            · refine G2 4 [58] [] [] E ?_
              refine Br h4906 62 E E (fun hc6 h4906 => ?_) (fun hc6 h4906 => ?_)
              · refine G2 4 [62] [] [] E ?_
                refine Br h4906 66 E E (fun hc7 h4906 => ?_) (fun hc7 h4906 => ?_)
                · refine G2 2 [66] [] [6] E (Cl E ?_)
                  obtain ⟨_, hx6, h4906⟩ := obind h4906
                  refine tour_Feasible_fn hl1 hA1 hl2 hA2 hl3 hA3 ⟨Nat.le_refl _, Nat.zero_le _⟩ ArrR.nil ⟨Nat.le_refl _, Nat.zero_le _⟩ ArrR.nil hx6 (fun _ _ => ?_)
                  refine Q2 4 [66] [] [] E ?_
                  cases h4906
                  exact Ce E ⟨_, rfl, fE E, sE [] 7 E⟩
                refine G2 7 [] [66] [] E ?_
                cases h4906
                exact Ce E ⟨_, rfl, fE E, sE [] 7 E⟩
              refine G2 11 [] [62, 66] [] E ?_
              cases h4906
              exact Ce E ⟨_, rfl, fE E, sE [] 7 E⟩
            refine G2 15 [] [58, 62, 66] [] E ?_
            cases h4906
            exact Ce E ⟨_, rfl, fE E, sE [] 7 E⟩
          refine G2 19 [] [54, 58, 62, 66] [] E ?_
          cases h4906
          exact Ce E ⟨_, rfl, fE E, sE [] 7 E⟩
        refine G2 23 [] [50, 54, 58, 62, 66] [] E ?_
        cases h4906
        exact Ce E ⟨_, rfl, fE E, sE [] 7 E⟩
      refine G2 27 [] [46, 50, 54, 58, 62, 66] [] E ?_
      cases h4906
      exact Ce E ⟨_, rfl, fE E, sE [] 7 E⟩
    refine G2 31 [] [42, 46, 50, 54, 58, 62, 66] [] E ?_
    cases h4906
    exact Ce E ⟨_, rfl, fE E, sE [] 7 E⟩
  rintro _ _ _ _ h hm4906 ⟨v9, rfl, hF4906, hS4906⟩
  refine Atn 0 hF4906 hS4906 E E ?_
  cases h
  exact Rt [] E E (Ug [] 0 (hR _ (hm_1.trans (hm_2.trans (hm_3.trans (hm_4.trans (hm_5.trans (hm_6.trans (hm_7.trans hm4906)))))))))

end Go.Proofs.Ytjbminmhndgiaaa
