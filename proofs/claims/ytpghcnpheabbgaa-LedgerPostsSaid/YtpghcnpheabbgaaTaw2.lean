/- Printed by gen.py of this repo: the walks that tie the functions to their specifications. -/
import Derived.Test.YtpghcnpheabbgaaTt
import Derived.Test.YtpghcnpheabbgaaTaw1
namespace Go.Proofs.Ytpghcnpheabbgaa
open Go.RowKit
set_option linter.unusedSimpArgs false
set_option linter.unusedVariables false
attribute [local irreducible] WP SemOk SemU Fn AN Upd vcR vcO vcOps vcPlan putK fillK resK inBlk forkOne Cell StAt Kept

theorem recyclingref48_Balance_fn {μ : Gh} {L : List Seg} {R : Value → Gh → List Seg → Prop} {F : Nat} {l1 : (List T_api_Posting)} {account1 : Int} {t1 : Int} {A1 : Option Addr} {c1 : Nat} {res1 : Int}
    (hl1 : l1.length ≤ c1 ∧ c1 ≤ maxLen) (hA1 : Rds r_api_Posting μ L A1 l1) (h : recyclingref48_Balance F l1 account1 t1 = some res1)
    (hR : R (.int .i64 res1) μ (L)) :
    Fn Try.prog 25 [.slice A1 l1.length c1, .int .i64 account1, .int .i64 t1] μ (L) R := by
  unfold recyclingref48_Balance at h
  refine Fn.of_body Tt_ok Try.func25 (by kernel_rfl) rfl Try.ntmps25 (by simp) ?_
  simp only [Try.f25, argFr, List.zipIdx, List.map, Nat.reduceAdd]
  refine WP.seq_k (fun K1637 hK1637 => WP.region Tt_ok (O_cons (O_read rfl (R_assign rfl (P_some rfl (O_nil (hK1637 _ _ _ (WP.seq_k (fun K1638 hK1638 => WP.region Tt_ok (O_cons (O_read rfl (R_assign rfl (P_some rfl ?_)))))))))))))
  refine O_nil (hK1638 _ _ _ (WP.seq_k (fun K1639 hK1639 => WP.seq_k (fun K1640 hK1640 => WP.region Tt_ok (O_cons (O_read rfl (R_assign rfl (P_some rfl (O_nil (hK1640 _ _ _ ?_))))))))))
  obtain ⟨o1641, h1641, h⟩ := obind h
  refine WP.cutK (fun fr_ μ_ L_ => ∃ (sum6 : Int), sum6 = o1641 ∧ SubFr [(7, .int .i64 sum6)] fr_ ∧ SegSub (L) L_ ∧ μ = μ_) ?_ ?_
  · refine WP.block (WP.iter h1641 (fun (j_ : Int × Int) fr_ μ_ L_ => ounP j_ fun sum1 i1 => SubFr [(0, .slice A1 l1.length c1), (1, .int .i64 account1), (2, .int .i64 t1), (7, .int .i64 sum1), (8, .int .i64 i1)] fr_ ∧ SegSub (L) L_ ∧ μ = μ_) ⟨SubFr.of ⟨rfl, rfl, rfl, rfl, rfl, trivial⟩, SegSub.sel _ [] 0, rfl⟩ ?_)
    rintro ⟨sum1, i1⟩ q1671 fr1671 μ1671 L1671 hm1671 ⟨hF1671, hS1671, hu1671⟩ hb1671 hq1671
    unfold recyclingref48_Balance_l2 at hb1671
    replace hb1671 := oun_mk hb1671
    subst hu1671
    refine WP.at hF1671 hS1671 (WP.seq_k (fun K1672 hK1672 => WP.seq_k (fun K1673 hK1673 => WP.region Tt_ok (O_cons (O_read rfl (R_move rfl (P_some rfl (O_cons (O_read rfl (R_move rfl (P_some rfl (O_cons (O_read rfl ?_)))))))))))))
    refine R_lenS rfl rfl rfl (P_some rfl (O_cons (O_read rfl (R_lssD rfl rfl (P_some rfl (O_nil (hK1673 _ _ _ ?_)))))))
    refine W_cond_v (b := (decide (i1 < ((l1.length : Nat) : Int)))) rfl (fun hc1 => ?_) (fun hc1 => ?_)
    · replace hb1671 := cond_t hc1 hb1671
      refine WP.skip (hK1672 _ _ _ (WP.seq_k (fun K1674 hK1674 => ?_)))
      obtain ⟨o1675, h1675, hb1671⟩ := obind hb1671
      refine WP.cutK (fun fr_ μ_ L_ => ∃ (sum5 : Int), sum5 = o1675 ∧ SubFr [(0, .slice A1 l1.length c1), (1, .int .i64 account1), (2, .int .i64 t1), (7, .int .i64 sum5), (8, .int .i64 i1)] fr_ ∧ SegSub (L) L_ ∧ μ = μ_) ?_ ?_
      · refine WP.block (WP.seq_k (fun K1676 hK1676 => WP.region Tt_ok (O_cons (O_read rfl (R_assign rfl (P_some rfl (O_nil (hK1676 _ _ _ ?_))))))))
        obtain ⟨o1677, h1677, h1675⟩ := obind h1675
        refine WP.cutK (fun fr_ μ_ L_ => ∃ (sum4 : Int), sum4 = o1677 ∧ SubFr [(0, .slice A1 l1.length c1), (1, .int .i64 account1), (2, .int .i64 t1), (7, .int .i64 sum4), (8, .int .i64 i1)] fr_ ∧ SegSub (L) L_ ∧ μ = μ_) ?_ ?_
        · refine WP.block (WP.iter h1677 (fun (j_ : Int × Int) fr_ μ_ L_ => ounP j_ fun sum2 k1 => SubFr [(0, .slice A1 l1.length c1), (1, .int .i64 account1), (2, .int .i64 t1), (7, .int .i64 sum2), (8, .int .i64 i1), (9, .int .i64 k1)] fr_ ∧ SegSub (L) L_ ∧ μ = μ_) ⟨SubFr.of ⟨rfl, rfl, rfl, rfl, rfl, rfl, trivial⟩, SegSub.sel _ [] 0, rfl⟩ ?_)
          rintro ⟨sum2, k1⟩ q1689 fr1689 μ1689 L1689 hm1689 ⟨hF1689, hS1689, hu1689⟩ hb1689 hq1689
          unfold recyclingref48_Balance_l1 at hb1689
          replace hb1689 := oun_mk hb1689
          subst hu1689
          refine WP.at hF1689 hS1689 (WP.seq_k (fun K1690 hK1690 => WP.seq_k (fun K1691 hK1691 => WP.region Tt_ok (O_cons (O_read rfl (R_move rfl (P_some rfl (O_cons (O_read rfl (R_move rfl (P_some rfl (O_cons (O_read rfl ?_)))))))))))))
          refine R_move rfl (P_some rfl (O_cons ?_))
          obtain ⟨x1, hx1, hb1689⟩ := obind hb1689
          obtain ⟨a1, cs1, hA2, hr1, _, hc2⟩ := Rds.getI hA1 hx1
          obtain ⟨A2, c2, rfl, hl2, hA3⟩ := hr1
          refine O_read rfl (R_iaG rfl rfl rfl rfl rfl rfl ⟨(getI_lt hx1).1, (getI_lt hx1).2.1⟩ hA2 (P_some rfl (O_cons (O_read rfl (R_fa rfl rfl rfl rfl rfl (P_some rfl (O_cons (O_read rfl (R_load rfl rfl rfl (Ex.mk _ (Cell.of_cells hc2 2 rfl) (P_some rfl (O_cons (O_read rfl ?_)))))))))))))
          refine R_lenS rfl rfl rfl (P_some rfl (O_cons (O_read rfl (R_lssD rfl rfl (P_some rfl (O_nil (hK1691 _ _ _ ?_)))))))
          refine W_cond_v (b := (decide (k1 < ((x1.Lines.length : Nat) : Int)))) rfl (fun hc3 => ?_) (fun hc3 => ?_)
          · replace hb1689 := cond_t hc3 hb1689
            refine WP.skip (hK1690 _ _ _ (WP.seq_k (fun K1693 hK1693 => ?_)))
            obtain ⟨o1694, h1694, hb1689⟩ := obind hb1689
            refine WP.cutK (fun fr_ μ_ L_ => ∃ (sum3 : Int), sum3 = o1694 ∧ SubFr [(0, .slice A1 l1.length c1), (1, .int .i64 account1), (2, .int .i64 t1), (7, .int .i64 sum3), (8, .int .i64 i1), (9, .int .i64 k1)] fr_ ∧ SegSub (L) L_ ∧ μ = μ_) ?_ ?_
            · refine WP.block (WP.seq_k (fun K1695 hK1695 => ?_))
              obtain ⟨o1696, h1696, h1694⟩ := obind h1694
              refine WP.cutK (fun fr_ μ_ L_ => ∃ (v1 : Bool), v1 = o1696 ∧ SubFr [(0, .slice A1 l1.length c1), (1, .int .i64 account1), (2, .int .i64 t1), (7, .int .i64 sum2), (8, .int .i64 i1), (9, .int .i64 k1), (45, .bool v1)] fr_ ∧ SegSub (L) L_ ∧ μ = μ_) ?_ ?_
              · refine WP.region Tt_ok (O_cons (O_read rfl (R_move rfl (P_some rfl (O_cons (O_read rfl (R_move rfl (P_some rfl (O_cons ?_)))))))))
                obtain ⟨x2, hx2, h1696⟩ := obind h1696
                obtain ⟨a2, cs2, hA4, hr2, _, hc4⟩ := Rds.getI hA1 hx2
                obtain ⟨A3, c3, rfl, hl3, hA5⟩ := hr2
                refine O_read rfl (R_iaG rfl rfl rfl rfl rfl rfl ⟨(getI_lt hx2).1, (getI_lt hx2).2.1⟩ hA4 (P_some rfl (O_cons (O_read rfl (R_fa rfl rfl rfl rfl rfl (P_some rfl (O_cons (O_read rfl (R_load rfl rfl rfl (Ex.mk _ (Cell.of_cells hc4 1 rfl) (P_some rfl (O_cons (O_read rfl ?_)))))))))))))
                refine R_move rfl (P_some rfl (O_cons (O_read rfl (R_leqD rfl rfl (P_some rfl (O_cons (O_read rfl (R_move rfl (P_some rfl ?_)))))))))
                refine O_gv (z := (decide (x2.At ≤ t1))) rfl rfl (fun hc5 => ?_) (fun hc5 => ?_)
                · replace h1696 := cond_t hc5 h1696
                  refine O_read rfl (R_move rfl (P_some rfl (O_gY rfl rfl hc5 (O_read rfl (R_move rfl (P_some rfl (O_gY rfl rfl hc5 ?_)))))))
                  obtain ⟨x3, hx3, h1696⟩ := obind h1696
                  obtain ⟨a3, cs3, hA6, hr3, _, hc6⟩ := Rds.getI hA1 hx3
                  obtain ⟨A4, c4, rfl, hl4, hA7⟩ := hr3
                  refine O_read rfl (R_iaG rfl rfl rfl rfl rfl rfl ⟨(getI_lt hx3).1, (getI_lt hx3).2.1⟩ hA6 (P_some rfl (O_gY rfl rfl hc5 (O_read rfl (R_fa rfl rfl rfl rfl rfl (P_some rfl (O_gY rfl rfl hc5 (O_read rfl (R_load rfl rfl rfl (Ex.mk _ (Cell.of_cells hc6 2 rfl) (P_some rfl (O_gY rfl rfl hc5 (O_read rfl ?_)))))))))))))
                  refine R_move rfl (P_some rfl (O_gY rfl rfl hc5 ?_))
                  obtain ⟨x4, hx4, h1696⟩ := obind h1696
                  obtain ⟨a4, cs4, hA8, hr4, _, hc7⟩ := Rds.getI (ArrR.rds hA7 L) hx4
                  obtain rfl := hr4
                  refine O_read rfl (R_iaG rfl rfl rfl rfl rfl rfl ⟨(getI_lt hx4).1, (getI_lt hx4).2.1⟩ hA8 (P_some rfl (O_gY rfl rfl hc5 (O_read rfl (R_faz rfl rfl rfl rfl rfl (P_some rfl (O_gY rfl rfl hc5 (O_read rfl (R_load rfl rfl rfl (Ex.mk _ (Cell.of_cells0 hc7 rfl) (P_some rfl (O_gY rfl rfl hc5 (O_read rfl ?_)))))))))))))
                  refine R_move rfl (P_some rfl (O_gY rfl rfl hc5 (O_read rfl (R_eqlD rfl rfl (P_some rfl (O_cons (O_read rfl (R_pick_T rfl hc5 rfl (P_some rfl (O_nil ?_))))))))))
                  have e_ := Option.some.inj h1696
                  subst e_
                  exact ⟨(decide (x4.Account = account1)), rfl, SubFr.of ⟨rfl, rfl, rfl, rfl, rfl, rfl, rfl, trivial⟩, SegSub.sel _ [] 0, rfl⟩
                replace h1696 := cond_f hc5 h1696
                refine P_some rfl (O_gN rfl rfl hc5 (P_some rfl (O_gN rfl rfl hc5 (P_some rfl (O_gN rfl rfl hc5 (P_some rfl (O_gN rfl rfl hc5 (P_some rfl (O_gN rfl rfl hc5 (P_some rfl (O_gN rfl rfl hc5 (P_some rfl (O_gN rfl rfl hc5 ?_)))))))))))))
                refine P_some rfl (O_gN rfl rfl hc5 (P_some rfl (O_gN rfl rfl hc5 (P_some rfl (O_gN rfl rfl hc5 (P_some rfl (O_cons (O_read rfl (R_pick_F rfl hc5 rfl (P_some rfl (O_nil ?_)))))))))))
                have e_ := Option.some.inj h1696
                subst e_
                exact ⟨false, rfl, SubFr.of ⟨rfl, rfl, rfl, rfl, rfl, rfl, rfl, trivial⟩, SegSub.sel _ [] 0, rfl⟩
              rintro fr1696 μ1696 L1696 hm1696 ⟨v1, ho1696, hF1696, hS1696, hu1696⟩
              subst ho1696
              subst hu1696
              refine hK1695 _ _ _ (WP.at hF1696 hS1696 ?_)
              refine W_cond_v (b := v1) rfl (fun hc8 => ?_) (fun hc8 => ?_)
              · replace h1694 := cond_t hc8 h1694
                refine WP.region Tt_ok (O_cons (O_read rfl (R_move rfl (P_some rfl (O_cons (O_read rfl (R_move rfl (P_some rfl (O_cons (O_read rfl (R_move rfl (P_some rfl (O_cons ?_)))))))))))))
                obtain ⟨x5, hx5, h1694⟩ := obind h1694
                obtain ⟨a5, cs5, hA9, hr5, _, hc9⟩ := Rds.getI hA1 hx5
                obtain ⟨A5, c5, rfl, hl5, hA10⟩ := hr5
                refine O_read rfl (R_iaG rfl rfl rfl rfl rfl rfl ⟨(getI_lt hx5).1, (getI_lt hx5).2.1⟩ hA9 (P_some rfl (O_cons (O_read rfl (R_fa rfl rfl rfl rfl rfl (P_some rfl (O_cons (O_read rfl (R_load rfl rfl rfl (Ex.mk _ (Cell.of_cells hc9 2 rfl) (P_some rfl (O_cons (O_read rfl ?_)))))))))))))
                refine R_move rfl (P_some rfl (O_cons ?_))
                obtain ⟨x6, hx6, h1694⟩ := obind h1694
                obtain ⟨a6, cs6, hA11, hr6, _, hc10⟩ := Rds.getI (ArrR.rds hA10 L) hx6
                obtain rfl := hr6
                refine O_read rfl (R_iaG rfl rfl rfl rfl rfl rfl ⟨(getI_lt hx6).1, (getI_lt hx6).2.1⟩ hA11 (P_some rfl (O_cons (O_read rfl (R_fa rfl rfl rfl rfl rfl (P_some rfl (O_cons (O_read rfl (R_load rfl rfl rfl (Ex.mk _ (Cell.of_cells hc10 1 rfl) (P_some rfl (O_cons (O_read rfl ?_)))))))))))))
                refine R_add rfl rfl (P_some rfl (O_cons (O_read rfl (R_assign rfl (P_some rfl (O_nil ?_))))))
                have e_ := Option.some.inj h1694
                subst e_
                exact ⟨w64 (sum2 + x6.Amount), rfl, SubFr.of ⟨rfl, rfl, rfl, rfl, rfl, rfl, trivial⟩, SegSub.sel _ [] 0, rfl⟩
              replace h1694 := cond_f hc8 h1694
              apply WP.skip
              have e_ := Option.some.inj h1694
              subst e_
              exact ⟨sum2, rfl, SubFr.of ⟨rfl, rfl, rfl, rfl, rfl, rfl, trivial⟩, SegSub.sel _ [] 0, rfl⟩
            rintro fr1694 μ1694 L1694 hm1694 ⟨sum3, ho1694, hF1694, hS1694, hu1694⟩
            subst ho1694
            subst hu1694
            refine hK1693 _ _ _ (WP.at hF1694 hS1694 (WP.region Tt_ok (O_cons (O_read rfl (R_move rfl (P_some rfl (O_cons (O_read rfl (R_add rfl rfl (P_some rfl (O_cons (O_read rfl (R_assign rfl ?_)))))))))))))
            refine P_some rfl (O_nil ?_)
            have e_ := Option.some.inj hb1689
            subst e_
            exact ⟨_, rfl, SubFr.of ⟨rfl, rfl, rfl, rfl, rfl, rfl, trivial⟩, SegSub.sel _ [] 0, rfl⟩
          replace hb1689 := cond_f hc3 hb1689
          refine WP.exit (B_here ?_)
          have e_ := Option.some.inj hb1689
          subst e_
          have hq_ := hq1689 _ rfl
          subst hq_
          exact ⟨sum2, rfl, SubFr.of ⟨rfl, rfl, rfl, rfl, rfl, trivial⟩, SegSub.sel _ [] 0, rfl⟩
        rintro fr1677 μ1677 L1677 hm1677 ⟨sum4, ho1677, hF1677, hS1677, hu1677⟩
        subst ho1677
        subst hu1677
        have e_ := Option.some.inj h1675
        subst e_
        exact ⟨sum4, rfl, SubFr.trans (fr := [(0, .slice A1 l1.length c1), (1, .int .i64 account1), (2, .int .i64 t1), (7, .int .i64 sum4), (8, .int .i64 i1)]) (SubFr.of ⟨rfl, rfl, rfl, rfl, rfl, trivial⟩) hF1677, SegSub.trans (M := (L)) (SegSub.sel _ [] 0) hS1677, rfl⟩
      rintro fr1675 μ1675 L1675 hm1675 ⟨sum5, ho1675, hF1675, hS1675, hu1675⟩
      subst ho1675
      subst hu1675
      refine hK1674 _ _ _ (WP.at hF1675 hS1675 (WP.region Tt_ok (O_cons (O_read rfl (R_move rfl (P_some rfl (O_cons (O_read rfl (R_add rfl rfl (P_some rfl (O_cons (O_read rfl (R_assign rfl ?_)))))))))))))
      refine P_some rfl (O_nil ?_)
      have e_ := Option.some.inj hb1671
      subst e_
      exact ⟨_, rfl, SubFr.of ⟨rfl, rfl, rfl, rfl, rfl, trivial⟩, SegSub.sel _ [] 0, rfl⟩
    replace hb1671 := cond_f hc1 hb1671
    refine WP.exit (B_here ?_)
    have e_ := Option.some.inj hb1671
    subst e_
    have hq_ := hq1671 _ rfl
    subst hq_
    exact ⟨sum1, rfl, SubFr.of ⟨rfl, trivial⟩, SegSub.sel _ [] 0, rfl⟩
  rintro fr1641 μ1641 L1641 hm1641 ⟨sum6, ho1641, hF1641, hS1641, hu1641⟩
  subst ho1641
  subst hu1641
  refine hK1639 _ _ _ (WP.at hF1641 hS1641 (WP.seq_k (fun K1700 hK1700 => WP.region Tt_ok (O_cons (O_read rfl (R_move rfl (P_some rfl (O_cons (O_read rfl (R_assign rfl (P_some rfl (O_nil (hK1700 _ _ _ ?_)))))))))))))
  apply WP.ret
  have e_ := Option.some.inj h
  subst e_
  refine S_tmp rfl (S_nil (Upd.selS [] 0 ?_))
  exact Upd.done hR

theorem recyclingref48_Post_fn {μ : Gh} {L : List Seg} {R : Value → Gh → List Seg → Prop} {F : Nat} {l1 : (List T_api_Posting)} {p1 : T_api_Posting} {A1 : Option Addr} {c1 : Nat} {A2 : Option Addr} {c2 : Nat} {res1 : (List T_api_Posting)} {res2 : Int}
    (hl1 : l1.length ≤ c1 ∧ c1 ≤ maxLen) (hA1 : ArrR r_api_Posting μ A1 l1) (hl2 : p1.Lines.length ≤ c2 ∧ c2 ≤ maxLen) (hA2 : ArrR r_api_Line μ A2 p1.Lines) (h : recyclingref48_Post F l1 p1 = some (res1, res2))
    (hR : ∀ (μ' : Gh) (A0_0 : Option Addr) (c0_0 : Nat), μ.le μ' → (res1.length ≤ c0_0 ∧ c0_0 ≤ maxLen) → ArrR r_api_Posting μ' A0_0 res1 → R (.tuple #[.slice A0_0 res1.length c0_0, .int .i64 res2]) μ' (L)) :
    Fn Try.prog 17 [.slice A1 l1.length c1, .agg #[.int .i64 p1.ID, .int .i64 p1.At, .slice A2 p1.Lines.length c2]] μ (L) R := by
  unfold recyclingref48_Post at h
  refine Fn.of_body Tt_ok Try.func17 (by kernel_rfl) rfl Try.ntmps17 (by simp) ?_
  simp only [Try.f17, argFr, List.zipIdx, List.map, Nat.reduceAdd]
  refine WP.seq_k (fun K1724 hK1724 => WP.region Tt_ok (O_cons (O_box (cs := #[.int .i64 p1.ID, .int .i64 p1.At, .slice A2 p1.Lines.length c2]) rfl rfl (fun g1 => P_some rfl (O_cons (O_read rfl (R_assign rfl (P_some rfl (O_cons (O_read rfl (R_assign rfl (P_some rfl (O_nil ?_)))))))))))))
  refine hK1724 _ _ _ (WP.seq_k (fun K1728 hK1728 => WP.seq_k (fun K1729 hK1729 => WP.region Tt_ok (O_cons (O_read rfl (R_loadA rfl rfl rfl rfl (LA_ (vs := [.int .i64 p1.ID, .int .i64 p1.At, .slice A2 p1.Lines.length c2]) 0 0 rfl rfl rfl rfl (P_some rfl (O_cons (O_call (all := [.agg #[.int .i64 p1.ID, .int .i64 p1.At, .slice A2 p1.Lines.length c2]]) rfl rfl rfl ?_))))))))))
  obtain ⟨r1, hx1, h⟩ := obind h
  refine recyclingref48_Check_fn hl2 hA2 hx1 ((P_some rfl (O_cons (O_read rfl (R_assign rfl (P_some rfl (O_nil (hK1729 _ _ _ (WP.seq_k (fun K1730 hK1730 => WP.region Tt_ok (O_cons (O_read rfl (R_move rfl (P_some rfl ?_))))))))))))))
  refine O_cons (O_read rfl (R_neqD rfl rfl (P_some rfl (O_nil (hK1730 _ _ _ ?_)))))
  refine W_cond_v (b := !(decide (r1 = 0))) rfl (fun hc1 => ?_) (fun hc1 => ?_)
  · replace h := cond_t hc1 h
    refine WP.seq_k (fun K1731 hK1731 => WP.region Tt_ok (O_cons (O_read rfl (R_move rfl (P_some rfl (O_cons (O_read rfl (R_move rfl (P_some rfl (O_cons (O_read rfl (R_assign rfl (P_some rfl ?_)))))))))))))
    refine O_cons (O_read rfl (R_assign rfl (P_some rfl (O_nil (hK1731 _ _ _ (WP.ret ?_))))))
    have e_ := Option.some.inj h
    obtain ⟨e0a_, e0b_⟩ := Prod.mk.inj e_
    clear e_
    subst e0a_
    subst e0b_
    refine S_tmp rfl (S_tmp rfl (S_nil (Upd.selS [] 1 ?_)))
    exact Upd.done (hR _ A1 c1 (Gh.le.refl _) (hl1) (hA1))
  replace h := cond_f hc1 h
  refine WP.skip (hK1728 _ _ _ (WP.seq_k (fun K1732 hK1732 => WP.seq_k (fun K1733 hK1733 => WP.region Tt_ok (O_cons (O_read rfl (R_assign rfl (P_some rfl (O_nil (hK1733 _ _ _ ?_))))))))))
  obtain ⟨o1734, h1734, h⟩ := obind h
  refine WP.cutK (fun fr_ μ_ L_ => (.inl ()) = o1734 ∧ SubFr [(0, .slice A1 l1.length c1), (3, .pointer (some ⟨g1, 0, none⟩))] fr_ ∧ SegSub ([(g1, .cells #[.int .i64 p1.ID, .int .i64 p1.At, .slice A2 p1.Lines.length c2] 24 (0, 0))] :: L) L_) ?_ ?_
  · refine WP.block (WP.iter h1734 (fun (i1 : Int) fr_ μ_ L_ => SubFr [(0, .slice A1 l1.length c1), (3, .pointer (some ⟨g1, 0, none⟩)), (7, .int .i64 i1)] fr_ ∧ SegSub ([(g1, .cells #[.int .i64 p1.ID, .int .i64 p1.At, .slice A2 p1.Lines.length c2] 24 (0, 0))] :: L) L_) ⟨SubFr.of ⟨rfl, rfl, rfl, trivial⟩, SegSub.sel _ [some 0] 1⟩ ?_)
    rintro i1 q1750 fr1750 μ1750 L1750 hm1750 ⟨hF1750, hS1750⟩ hb1750 hq1750
    unfold recyclingref48_Post_l1 at hb1750
    replace hA1 := hA1.mono hm1750
    replace hA2 := hA2.mono hm1750
    refine WP.at hF1750 hS1750 (WP.seq_k (fun K1754 hK1754 => WP.seq_k (fun K1755 hK1755 => WP.region Tt_ok (O_cons (O_read rfl (R_move rfl (P_some rfl (O_cons (O_read rfl (R_move rfl (P_some rfl (O_cons (O_read rfl ?_)))))))))))))
    refine R_lenS rfl rfl rfl (P_some rfl (O_cons (O_read rfl (R_lssD rfl rfl (P_some rfl (O_nil (hK1755 _ _ _ ?_)))))))
    refine W_cond_v (b := (decide (i1 < ((l1.length : Nat) : Int)))) rfl (fun hc2 => ?_) (fun hc2 => ?_)
    · replace hb1750 := cond_t hc2 hb1750
      refine WP.skip (hK1754 _ _ _ (WP.seq_k (fun K1756 hK1756 => WP.block (WP.seq_k (fun K1757 hK1757 => WP.drawn (id := 7) (l' := List.replicate 8 true) wide Tt_ok _ Kept.refl [(true, 0), (true, 1), (true, 2), (true, 3), (true, 4), (true, 5), (true, 6), (true, 7)] (by kernel_rfl) (by kernel_rfl) rfl (PL_t rfl (R_move rfl (P_some rfl (PL_t rfl (R_move rfl (P_some rfl (PL_t rfl ?_))))))))))))
      obtain ⟨x1, hx2, hb1750⟩ := obind hb1750
      obtain ⟨a1, cs1, hA3, hr1, _, hc3⟩ := Rds.getI (ArrR.rds hA1 L) hx2
      obtain ⟨A3, c3, rfl, hl3, hA4⟩ := hr1
      refine R_iaG rfl rfl rfl rfl rfl rfl ⟨(getI_lt hx2).1, (getI_lt hx2).2.1⟩ hA3 (P_some rfl (PL_t rfl (R_faz rfl rfl rfl rfl rfl (P_some rfl (PL_t rfl (R_load rfl rfl rfl (Ex.mk _ (Cell.of_cells0 (hc3.push) rfl) (P_some rfl (PL_t rfl (R_fa0 (o' := 0) rfl rfl rfl rfl rfl rfl (P_some rfl (PL_t rfl (R_load rfl rfl rfl ?_)))))))))))))
      refine Ex.mk _ (Cell.seg 0 0 rfl rfl rfl) (P_some rfl (PL_t rfl (R_eqlD rfl rfl (P_some rfl (PL_nil (AN.done0 (by kernel_rfl) (hK1757 _ _ _ ?_)))))))
      refine W_cond_v (b := (decide (x1.ID = p1.ID))) rfl (fun hc4 => ?_) (fun hc4 => ?_)
      · replace hb1750 := cond_t hc4 hb1750
        refine WP.seq_k (fun K1764 hK1764 => WP.region Tt_ok (O_cons (O_read rfl (R_move rfl (P_some rfl (O_cons (O_read rfl (R_assign rfl (P_some rfl (O_cons (O_read rfl (R_assign rfl (P_some rfl ?_)))))))))))))
        refine O_nil (hK1764 _ _ _ (WP.ret ?_))
        have e_ := Option.some.inj hb1750
        subst e_
        have hq_ := hq1750 _ rfl
        subst hq_
        replace h := osum_r h
        have e_ := Option.some.inj h
        obtain ⟨e0a_, e0b_⟩ := Prod.mk.inj e_
        clear e_
        subst e0a_
        subst e0b_
        refine S_tmp rfl (S_tmp rfl (S_nil (Upd.selS [] 1 ?_)))
        exact Upd.done (hR _ A1 c1 (hm1750) (hl1) (hA1))
      replace hb1750 := cond_f hc4 hb1750
      refine WP.skip (hK1756 _ _ _ (WP.region Tt_ok (O_cons (O_read rfl (R_move rfl (P_some rfl (O_cons (O_read rfl (R_add rfl rfl (P_some rfl (O_cons (O_read rfl (R_assign rfl ?_)))))))))))))
      refine P_some rfl (O_nil ?_)
      have e_ := Option.some.inj hb1750
      subst e_
      exact ⟨_, rfl, SubFr.of ⟨rfl, rfl, rfl, trivial⟩, SegSub.sel _ [some 0] 1⟩
    replace hb1750 := cond_f hc2 hb1750
    refine WP.exit (B_here ?_)
    have e_ := Option.some.inj hb1750
    subst e_
    have hq_ := hq1750 _ rfl
    subst hq_
    exact ⟨rfl, SubFr.of ⟨rfl, rfl, trivial⟩, SegSub.sel _ [some 0] 1⟩
  rintro fr1734 μ1734 L1734 hm1734 ⟨ho1734, hF1734, hS1734⟩
  subst ho1734
  replace h := osum_l h
  replace hA1 := hA1.mono hm1734
  replace hA2 := hA2.mono hm1734
  refine hK1732 _ _ _ (WP.at hF1734 hS1734 (WP.seq_k (fun K1767 hK1767 => WP.seq_k (fun K1768 hK1768 => ?_))))
  obtain ⟨o1771, h1771, h⟩ := obind h
  refine WP.cutK (fun fr_ μ_ L_ => ∃ (v1 : Bool), v1 = o1771 ∧ SubFr [(0, .slice A1 l1.length c1), (3, .pointer (some ⟨g1, 0, none⟩)), (46, .bool v1)] fr_ ∧ SegSub ([(g1, .cells #[.int .i64 p1.ID, .int .i64 p1.At, .slice A2 p1.Lines.length c2] 24 (0, 0))] :: L) L_) ?_ ?_
  · refine WP.drawn (id := 9) (l' := List.replicate 15 true) wide Tt_ok _ Kept.refl [(true, 0), (true, 1), (true, 2), (true, 3), (true, 4), (true, 5), (true, 6), (true, 7), (true, 8), (true, 9), (true, 10), (true, 11), (true, 12), (true, 13), (true, 14)] (by kernel_rfl) (by kernel_rfl) rfl (PL_t rfl (R_move rfl (P_some rfl (PL_t rfl (R_lenS rfl rfl rfl (P_some rfl (PL_t rfl (R_gtrD rfl rfl (P_some rfl (PL_t rfl (R_move rfl (P_some rfl ?_))))))))))))
    refine PL_tv (z := (decide (0 < ((l1.length : Nat) : Int)))) rfl rfl rfl (fun hc5 => ?_) (fun hc5 => ?_)
    · replace h1771 := cond_t hc5 h1771
      refine R_fa0 (o' := 1) rfl rfl rfl rfl rfl rfl (P_some rfl (PL_tY rfl rfl rfl hc5 (R_load rfl rfl rfl (Ex.mk _ (Cell.seg 0 0 rfl rfl rfl) (P_some rfl (PL_tY rfl rfl rfl hc5 (R_move rfl (P_some rfl (PL_tY rfl rfl rfl hc5 (R_move rfl (P_some rfl (PL_tY rfl rfl rfl hc5 (R_lenS rfl rfl rfl ?_)))))))))))))
      refine P_some rfl (PL_tY rfl rfl rfl hc5 (R_sub rfl rfl (P_some rfl (PL_tY rfl rfl rfl hc5 ?_))))
      obtain ⟨x2, hx3, h1771⟩ := obind h1771
      obtain ⟨a2, cs2, hA5, hr2, _, hc6⟩ := Rds.getI (ArrR.rds hA1 L) hx3
      obtain ⟨A4, c4, rfl, hl4, hA6⟩ := hr2
      refine R_iaG rfl rfl rfl rfl rfl rfl ⟨(getI_lt hx3).1, (getI_lt hx3).2.1⟩ hA5 (P_some rfl (PL_tY rfl rfl rfl hc5 (R_fa rfl rfl rfl rfl rfl (P_some rfl (PL_tY rfl rfl rfl hc5 (R_load rfl rfl rfl (Ex.mk _ (Cell.of_cells (hc6.push) 1 rfl) (P_some rfl (PL_tY rfl rfl rfl hc5 (R_lssD rfl rfl (P_some rfl (PL_t rfl (R_pick_T rfl hc5 rfl ?_)))))))))))))
      refine P_some rfl (PL_nil (AN.done0 (by kernel_rfl) ?_))
      have e_ := Option.some.inj h1771
      subst e_
      exact ⟨(decide (p1.At < x2.At)), rfl, SubFr.of ⟨rfl, rfl, rfl, trivial⟩, SegSub.sel _ [some 0] 1⟩
    replace h1771 := cond_f hc5 h1771
    refine P_some rfl (PL_tN rfl rfl rfl hc5 (P_some rfl (PL_tN rfl rfl rfl hc5 (P_some rfl (PL_tN rfl rfl rfl hc5 (P_some rfl (PL_tN rfl rfl rfl hc5 (P_some rfl (PL_tN rfl rfl rfl hc5 (P_some rfl (PL_tN rfl rfl rfl hc5 (P_some rfl (PL_tN rfl rfl rfl hc5 ?_)))))))))))))
    refine P_some rfl (PL_tN rfl rfl rfl hc5 (P_some rfl (PL_tN rfl rfl rfl hc5 (P_some rfl (PL_t rfl (R_pick_F rfl hc5 rfl (P_some rfl (PL_nil (AN.done0 (by kernel_rfl) ?_)))))))))
    have e_ := Option.some.inj h1771
    subst e_
    exact ⟨false, rfl, SubFr.of ⟨rfl, rfl, rfl, trivial⟩, SegSub.sel _ [some 0] 1⟩
  rintro fr1771 μ1771 L1771 hm1771 ⟨v1, ho1771, hF1771, hS1771⟩
  subst ho1771
  replace hA1 := hA1.mono hm1771
  replace hA2 := hA2.mono hm1771
  refine hK1768 _ _ _ (WP.at hF1771 hS1771 ?_)
  refine W_cond_v (b := v1) rfl (fun hc7 => ?_) (fun hc7 => ?_)
  · replace h := cond_t hc7 h
    refine WP.seq_k (fun K1778 hK1778 => WP.region Tt_ok (O_cons (O_read rfl (R_move rfl (P_some rfl (O_cons (O_read rfl (R_assign rfl (P_some rfl (O_cons (O_read rfl (R_assign rfl (P_some rfl ?_)))))))))))))
    refine O_nil (hK1778 _ _ _ (WP.ret ?_))
    have e_ := Option.some.inj h
    obtain ⟨e0a_, e0b_⟩ := Prod.mk.inj e_
    clear e_
    subst e0a_
    subst e0b_
    refine S_tmp rfl (S_tmp rfl (S_nil (Upd.selS [] 1 ?_)))
    exact Upd.done (hR _ A1 c1 (Gh.le.trans hm1734 (hm1771)) (hl1) (hA1))
  replace h := cond_f hc7 h
  refine WP.skip (hK1767 _ _ _ (WP.seq_k (fun K1779 hK1779 => WP.seq_k (fun K1780 hK1780 => WP.region Tt_ok (O_cons (O_read rfl (R_move rfl (P_some rfl (O_cons (O_read rfl (R_lenS rfl rfl rfl (P_some rfl (O_cons ?_)))))))))))))
  refine O_read rfl (R_geqD rfl rfl (P_some rfl (O_nil (hK1780 _ _ _ ?_))))
  refine W_cond_v (b := (decide (512 ≤ ((l1.length : Nat) : Int)))) rfl (fun hc8 => ?_) (fun hc8 => ?_)
  · replace h := cond_t hc8 h
    refine WP.seq_k (fun K1781 hK1781 => WP.region Tt_ok (O_cons (O_read rfl (R_move rfl (P_some rfl (O_cons (O_read rfl (R_assign rfl (P_some rfl (O_cons (O_read rfl (R_assign rfl (P_some rfl ?_)))))))))))))
    refine O_nil (hK1781 _ _ _ (WP.ret ?_))
    have e_ := Option.some.inj h
    obtain ⟨e0a_, e0b_⟩ := Prod.mk.inj e_
    clear e_
    subst e0a_
    subst e0b_
    refine S_tmp rfl (S_tmp rfl (S_nil (Upd.selS [] 1 ?_)))
    exact Upd.done (hR _ A1 c1 (Gh.le.trans hm1734 (hm1771)) (hl1) (hA1))
  replace h := cond_f hc8 h
  refine WP.skip (hK1779 _ _ _ (WP.seq_k (fun K1782 hK1782 => ?_)))
  obtain ⟨o1805, h1805, h⟩ := obind h
  refine WP.cutK (fun fr_ μ_ L_ => ∃ (next1 : (List T_api_Posting)) (A7 : Option Addr) (c7 : Nat) (ch3 : Seg), next1 = o1805 ∧ SubFr [(0, .slice A1 l1.length c1), (3, .pointer (some ⟨g1, 0, none⟩)), (8, .slice A7 next1.length c7)] fr_ ∧ SegSub ([(g1, .cells #[.int .i64 p1.ID, .int .i64 p1.At, .slice A2 p1.Lines.length c2] 24 (0, 0))] :: ch3 :: L) L_ ∧ Own r_api_Posting 24 μ_ (.slice A7 next1.length c7) next1 ch3) ?_ ?_
  · refine WP.draw (id := 13) wide _ Kept.refl rfl (AN.run (fuel := 5) (listed' := [false, true, false, true, false, false, false]) Tt_ok [(true, 1), (true, 3)] (by kernel_rfl) (by kernel_rfl) rfl (PL_t rfl (R_move rfl (P_some rfl (PL_t rfl (R_loadA rfl rfl rfl rfl (LA_ (vs := [.int .i64 p1.ID, .int .i64 p1.At, .slice A2 p1.Lines.length c2]) 0 0 rfl rfl rfl rfl (P_some rfl (PL_nil ?_)))))))))
    refine FK_2 Tt_ok (a := 0) (b := 4) (by kernel_rfl) ?_ ?_
    · refine FO_ rfl rfl (O_bsl (z := []) rfl rfl rfl rfl rfl rfl rfl (F_nil (fun g2 => ?_)))
      refine ⟨Kept.more (Kept.refl), ?_⟩
      apply P_some; exact rfl
      refine FK_2 Tt_ok (a := 2) (b := 4) (by kernel_rfl) ?_ ?_
      · refine FO_ rfl rfl (O_append rfl ?_)
        obtain ⟨l2, hz1, h1805⟩ := obind h1805
        refine sem_appR (r := r_api_Posting) Tt_ok rfl rfl rfl rfl (by decide) rfl rfl 0 rfl (Own.empty (r := r_api_Posting) (e := 24) (g := g2)) rfl (ArrR.rds hA1 ([(g2, .cells #[] 24 (0, 0))] :: [(g1, .cells #[.int .i64 p1.ID, .int .i64 p1.At, .slice A2 p1.Lines.length c2] 24 (0, 0))] :: L)) hz1 fun A5 c5 ch1 hO1 => ?_
        refine ⟨Kept.more (Kept.refl), ?_⟩
        refine P_some rfl (AN.run (fuel := 0) (listed' := [true, true, true, true, true, true, true]) Tt_ok [(false, 4), (false, 5), (true, 6)] (by kernel_rfl) (by kernel_rfl) rfl (PL_f rfl (O_bsl (z := [.int .i64 0, .int .i64 0, .slice none 0 0]) rfl rfl rfl rfl rfl rfl rfl (F_cons (cells' := [.int .i64 p1.ID, .int .i64 p1.At, .slice A2 p1.Lines.length c2]) rfl rfl rfl rfl (F_nil (fun g3 => ?_))))))
        refine ⟨Kept.more (Kept.more (Kept.refl)), ?_⟩
        refine P_some rfl (PL_f rfl (O_append rfl ?_))
        obtain ⟨l3, hz2, h1805⟩ := obind h1805
        refine sem_appR (r := r_api_Posting) Tt_ok rfl rfl rfl rfl (by decide) rfl rfl 1 rfl hO1 rfl (Own.rds (L := ([(g3, .cells #[.int .i64 p1.ID, .int .i64 p1.At, .slice A2 p1.Lines.length c2] 24 (0, 0))] :: ch1 :: [(g1, .cells #[.int .i64 p1.ID, .int .i64 p1.At, .slice A2 p1.Lines.length c2] 24 (0, 0))] :: L)) (Own.lit (r := r_api_Posting) (e := 24) (g := g3) (xs := [p1]) (cs := [.int .i64 p1.ID, .int .i64 p1.At, .slice A2 p1.Lines.length c2]) (css := [[.int .i64 p1.ID, .int .i64 p1.At, .slice A2 p1.Lines.length c2]]) rfl (All2.cons (⟨A2, c2, rfl, hl2, hA2⟩) (All2.nil)) rfl rfl) 0 rfl) hz2 fun A6 c6 ch2 hO2 => ?_
        refine ⟨Kept.more (Kept.more (Kept.refl)), ?_⟩
        refine P_some rfl (PL_t rfl (R_assign rfl (P_some rfl (PL_nil (AN.done0 (by kernel_rfl) ?_)))))
        have e_ := Option.some.inj h1805
        subst e_
        exact ⟨l3, A6, c6, ch2, rfl, SubFr.of ⟨rfl, rfl, rfl, trivial⟩, SegSub.sel _ [some 2, some 1] 3, (hO2)⟩
      obtain ⟨l2, hz1, h1805⟩ := obind h1805
      obtain ⟨l3, hz2, h1805⟩ := obind h1805
      refine FO_ rfl rfl (O_bsl (z := [.int .i64 0, .int .i64 0, .slice none 0 0]) rfl rfl rfl rfl rfl rfl rfl (F_cons (cells' := [.int .i64 p1.ID, .int .i64 p1.At, .slice A2 p1.Lines.length c2]) rfl rfl rfl rfl (F_nil (fun g3 => ?_))))
      refine ⟨Kept.more (Kept.more (Kept.refl)), ?_⟩
      refine P_some rfl (AN.run (fuel := 0) (listed' := [true, true, true, true, true, true, true]) Tt_ok [(false, 2), (false, 5), (true, 6)] (by kernel_rfl) (by kernel_rfl) rfl (PL_f rfl (O_append rfl (sem_appR (r := r_api_Posting) Tt_ok rfl rfl rfl rfl (by decide) rfl rfl 1 rfl (Own.empty (r := r_api_Posting) (e := 24) (g := g2)) rfl (ArrR.rds hA1 ([(g3, .cells #[.int .i64 p1.ID, .int .i64 p1.At, .slice A2 p1.Lines.length c2] 24 (0, 0))] :: [(g2, .cells #[] 24 (0, 0))] :: [(g1, .cells #[.int .i64 p1.ID, .int .i64 p1.At, .slice A2 p1.Lines.length c2] 24 (0, 0))] :: L)) hz1 fun A5 c5 ch1 hO1 => ?_))))
      refine ⟨Kept.more (Kept.more (Kept.refl)), ?_⟩
      refine P_some rfl (PL_f rfl (O_append rfl (sem_appR (r := r_api_Posting) Tt_ok rfl rfl rfl rfl (by decide) rfl rfl 1 rfl hO1 rfl (Own.rds (L := ([(g3, .cells #[.int .i64 p1.ID, .int .i64 p1.At, .slice A2 p1.Lines.length c2] 24 (0, 0))] :: ch1 :: [(g1, .cells #[.int .i64 p1.ID, .int .i64 p1.At, .slice A2 p1.Lines.length c2] 24 (0, 0))] :: L)) (Own.lit (r := r_api_Posting) (e := 24) (g := g3) (xs := [p1]) (cs := [.int .i64 p1.ID, .int .i64 p1.At, .slice A2 p1.Lines.length c2]) (css := [[.int .i64 p1.ID, .int .i64 p1.At, .slice A2 p1.Lines.length c2]]) rfl (All2.cons (⟨A2, c2, rfl, hl2, hA2⟩) (All2.nil)) rfl rfl) 0 rfl) hz2 fun A6 c6 ch2 hO2 => ?_)))
      refine ⟨Kept.more (Kept.more (Kept.refl)), ?_⟩
      refine P_some rfl (PL_t rfl (R_assign rfl (P_some rfl (PL_nil (AN.done0 (by kernel_rfl) ?_)))))
      have e_ := Option.some.inj h1805
      subst e_
      exact ⟨l3, A6, c6, ch2, rfl, SubFr.of ⟨rfl, rfl, rfl, trivial⟩, SegSub.sel _ [some 2, some 1] 3, (hO2)⟩
    obtain ⟨l2, hz1, h1805⟩ := obind h1805
    obtain ⟨l3, hz2, h1805⟩ := obind h1805
    refine FO_ rfl rfl (O_bsl (z := [.int .i64 0, .int .i64 0, .slice none 0 0]) rfl rfl rfl rfl rfl rfl rfl (F_cons (cells' := [.int .i64 p1.ID, .int .i64 p1.At, .slice A2 p1.Lines.length c2]) rfl rfl rfl rfl (F_nil (fun g3 => ?_))))
    refine ⟨Kept.more (Kept.refl), ?_⟩
    refine P_some rfl (AN.run (fuel := 0) (listed' := [true, true, true, true, true, true, true]) Tt_ok [(false, 0), (false, 2), (false, 5), (true, 6)] (by kernel_rfl) (by kernel_rfl) rfl (PL_f rfl (O_bsl (z := []) rfl rfl rfl rfl rfl rfl rfl (F_nil (fun g2 => ?_)))))
    refine ⟨Kept.more (Kept.more (Kept.refl)), ?_⟩
    refine P_some rfl (PL_f rfl (O_append rfl (sem_appR (r := r_api_Posting) Tt_ok rfl rfl rfl rfl (by decide) rfl rfl 0 rfl (Own.empty (r := r_api_Posting) (e := 24) (g := g2)) rfl (ArrR.rds hA1 ([(g2, .cells #[] 24 (0, 0))] :: [(g3, .cells #[.int .i64 p1.ID, .int .i64 p1.At, .slice A2 p1.Lines.length c2] 24 (0, 0))] :: [(g1, .cells #[.int .i64 p1.ID, .int .i64 p1.At, .slice A2 p1.Lines.length c2] 24 (0, 0))] :: L)) hz1 fun A5 c5 ch1 hO1 => ?_)))
    refine ⟨Kept.more (Kept.more (Kept.refl)), ?_⟩
    refine P_some rfl (PL_f rfl (O_append rfl (sem_appR (r := r_api_Posting) Tt_ok rfl rfl rfl rfl (by decide) rfl rfl 0 rfl hO1 rfl (Own.rds (L := (ch1 :: [(g3, .cells #[.int .i64 p1.ID, .int .i64 p1.At, .slice A2 p1.Lines.length c2] 24 (0, 0))] :: [(g1, .cells #[.int .i64 p1.ID, .int .i64 p1.At, .slice A2 p1.Lines.length c2] 24 (0, 0))] :: L)) (Own.lit (r := r_api_Posting) (e := 24) (g := g3) (xs := [p1]) (cs := [.int .i64 p1.ID, .int .i64 p1.At, .slice A2 p1.Lines.length c2]) (css := [[.int .i64 p1.ID, .int .i64 p1.At, .slice A2 p1.Lines.length c2]]) rfl (All2.cons (⟨A2, c2, rfl, hl2, hA2⟩) (All2.nil)) rfl rfl) 1 rfl) hz2 fun A6 c6 ch2 hO2 => ?_)))
    refine ⟨Kept.more (Kept.more (Kept.refl)), ?_⟩
    refine P_some rfl (PL_t rfl (R_assign rfl (P_some rfl (PL_nil (AN.done0 (by kernel_rfl) ?_)))))
    have e_ := Option.some.inj h1805
    subst e_
    exact ⟨l3, A6, c6, ch2, rfl, SubFr.of ⟨rfl, rfl, rfl, trivial⟩, SegSub.sel _ [some 2, some 0] 3, (hO2)⟩
  rintro fr1805 μ1805 L1805 hm1805 ⟨next1, A7, c7, ch3, ho1805, hF1805, hS1805, hO3⟩
  subst ho1805
  replace hA1 := hA1.mono hm1805
  replace hA2 := hA2.mono hm1805
  refine hK1782 _ _ _ (WP.at hF1805 hS1805 (WP.seq_k (fun K1853 hK1853 => WP.seq_k (fun K1854 hK1854 => WP.region Tt_ok (O_cons (O_read rfl (R_assign rfl (P_some rfl (O_nil (hK1854 _ _ _ ?_))))))))))
  obtain ⟨o1855, h1855, h⟩ := obind h
  refine WP.cutK (fun fr_ μ_ L_ => (.inl ()) = o1855 ∧ SubFr [(8, .slice A7 next1.length c7)] fr_ ∧ SegSub (ch3 :: L) L_) ?_ ?_
  · refine WP.block (WP.iter h1855 (fun (k1 : Int) fr_ μ_ L_ => SubFr [(0, .slice A1 l1.length c1), (3, .pointer (some ⟨g1, 0, none⟩)), (8, .slice A7 next1.length c7), (9, .int .i64 k1)] fr_ ∧ SegSub ([(g1, .cells #[.int .i64 p1.ID, .int .i64 p1.At, .slice A2 p1.Lines.length c2] 24 (0, 0))] :: ch3 :: L) L_) ⟨SubFr.of ⟨rfl, rfl, rfl, rfl, trivial⟩, SegSub.sel _ [some 0, some 1] 2⟩ ?_)
    rintro k1 q1869 fr1869 μ1869 L1869 hm1869 ⟨hF1869, hS1869⟩ hb1869 hq1869
    unfold recyclingref48_Post_l2 at hb1869
    replace hA1 := hA1.mono hm1869
    replace hA2 := hA2.mono hm1869
    replace hO3 := hO3.mono hm1869
    refine WP.at hF1869 hS1869 (WP.seq_k (fun K1873 hK1873 => WP.seq_k (fun K1874 hK1874 => WP.region Tt_ok (O_cons (O_read rfl (R_move rfl (P_some rfl (O_cons (O_read rfl (R_fa0 (o' := 2) rfl rfl rfl rfl rfl rfl (P_some rfl (O_cons (O_read rfl ?_)))))))))))))
    refine R_load rfl rfl rfl (Ex.mk _ (Cell.seg 0 0 rfl rfl rfl) (P_some rfl (O_cons (O_read rfl (R_lenS rfl rfl rfl (P_some rfl (O_cons (O_read rfl (R_lssD rfl rfl (P_some rfl (O_nil (hK1874 _ _ _ ?_))))))))))))
    refine W_cond_v (b := (decide (k1 < ((p1.Lines.length : Nat) : Int)))) rfl (fun hc9 => ?_) (fun hc9 => ?_)
    · replace hb1869 := cond_t hc9 hb1869
      refine WP.skip (hK1873 _ _ _ (WP.seq_k (fun K1875 hK1875 => WP.block (WP.seq_k (fun K1876 hK1876 => WP.region Tt_ok (O_cons (O_read rfl (R_move rfl (P_some rfl (O_cons (O_read rfl (R_fa0 (o' := 2) rfl rfl rfl rfl rfl rfl (P_some rfl ?_)))))))))))))
      refine O_cons (O_read rfl (R_load rfl rfl rfl (Ex.mk _ (Cell.seg 0 0 rfl rfl rfl) (P_some rfl (O_cons (O_read rfl (R_move rfl (P_some rfl (O_cons ?_)))))))))
      obtain ⟨x3, hx4, hb1869⟩ := obind hb1869
      obtain ⟨a3, cs3, hA7, hr3, _, hc10⟩ := Rds.getI (ArrR.rds hA2 L) hx4
      obtain rfl := hr3
      refine O_read rfl (R_iaG rfl rfl rfl rfl rfl rfl ⟨(getI_lt hx4).1, (getI_lt hx4).2.1⟩ hA7 (P_some rfl (O_cons (O_read rfl (R_faz rfl rfl rfl rfl rfl (P_some rfl (O_cons (O_read rfl (R_load rfl rfl rfl (Ex.mk _ (Cell.of_cells0 (hc10.push.push) rfl) (P_some rfl (O_cons (O_call (all := [.slice A7 next1.length c7, .int .i64 x3.Account, .int .i64 3155759999]) rfl rfl rfl ?_)))))))))))))
      obtain ⟨r2, hx5, hb1869⟩ := obind hb1869
      refine recyclingref48_Balance_fn (Own.lenOk hO3) (Own.rds (L := ([(g1, .cells #[.int .i64 p1.ID, .int .i64 p1.At, .slice A2 p1.Lines.length c2] 24 (0, 0))] :: ch3 :: L)) hO3 1 rfl) hx5 ((P_some rfl (O_cons (O_read rfl (R_assign rfl (P_some rfl (O_nil (hK1876 _ _ _ (WP.seq_k (fun K1877 hK1877 => ?_))))))))))
      obtain ⟨o1878, h1878, hb1869⟩ := obind hb1869
      refine WP.cutK (fun fr_ μ_ L_ => ∃ (v2 : Bool), v2 = o1878 ∧ SubFr [(0, .slice A1 l1.length c1), (3, .pointer (some ⟨g1, 0, none⟩)), (8, .slice A7 next1.length c7), (9, .int .i64 k1), (78, .bool v2)] fr_ ∧ SegSub ([(g1, .cells #[.int .i64 p1.ID, .int .i64 p1.At, .slice A2 p1.Lines.length c2] 24 (0, 0))] :: ch3 :: L) L_) ?_ ?_
      · refine WP.region Tt_ok (O_cons (O_read rfl (R_move rfl (P_some rfl (O_cons (O_read rfl (R_lssD rfl rfl (P_some rfl (O_cons (O_read rfl (R_move rfl (P_some rfl ?_))))))))))))
        refine O_gv (z := (decide (r2 < (-1000000000000)))) rfl rfl (fun hc11 => ?_) (fun hc11 => ?_)
        · replace h1878 := cond_f hc11 h1878
          refine O_read rfl (R_move rfl (P_some rfl (O_gY rfl rfl hc11 (O_read rfl (R_gtrD rfl rfl (P_some rfl (O_cons (O_read rfl (R_pick_F rfl hc11 rfl (P_some rfl (O_nil ?_)))))))))))
          have e_ := Option.some.inj h1878
          subst e_
          exact ⟨(decide (1000000000000 < r2)), rfl, SubFr.of ⟨rfl, rfl, rfl, rfl, rfl, trivial⟩, SegSub.sel _ [some 0, some 1] 2⟩
        replace h1878 := cond_t hc11 h1878
        refine P_some rfl (O_gN rfl rfl hc11 (P_some rfl (O_cons (O_read rfl (R_pick_T rfl hc11 rfl (P_some rfl (O_nil ?_)))))))
        have e_ := Option.some.inj h1878
        subst e_
        exact ⟨true, rfl, SubFr.of ⟨rfl, rfl, rfl, rfl, rfl, trivial⟩, SegSub.sel _ [some 0, some 1] 2⟩
      rintro fr1878 μ1878 L1878 hm1878 ⟨v2, ho1878, hF1878, hS1878⟩
      subst ho1878
      replace hA1 := hA1.mono hm1878
      replace hA2 := hA2.mono hm1878
      replace hO3 := hO3.mono hm1878
      replace hc10 := hc10.lift hm1878
      refine hK1877 _ _ _ (WP.at hF1878 hS1878 ?_)
      refine W_cond_v (b := v2) rfl (fun hc12 => ?_) (fun hc12 => ?_)
      · replace hb1869 := cond_t hc12 hb1869
        refine WP.seq_k (fun K1881 hK1881 => WP.region Tt_ok (O_cons (O_read rfl (R_move rfl (P_some rfl (O_cons (O_read rfl (R_assign rfl (P_some rfl (O_cons (O_read rfl (R_assign rfl (P_some rfl ?_)))))))))))))
        refine O_nil (hK1881 _ _ _ (WP.ret ?_))
        have e_ := Option.some.inj hb1869
        subst e_
        have hq_ := hq1869 _ rfl
        subst hq_
        replace h := osum_r h
        have e_ := Option.some.inj h
        obtain ⟨e0a_, e0b_⟩ := Prod.mk.inj e_
        clear e_
        subst e0a_
        subst e0b_
        refine S_tmp rfl (S_tmp rfl (S_nil (Upd.selS [] 2 ?_)))
        exact Upd.done (hR _ A1 c1 (Gh.le.trans hm1734 (Gh.le.trans hm1771 (Gh.le.trans hm1805 (Gh.le.trans hm1869 (hm1878))))) (hl1) (hA1))
      replace hb1869 := cond_f hc12 hb1869
      refine WP.skip (hK1875 _ _ _ (WP.region Tt_ok (O_cons (O_read rfl (R_move rfl (P_some rfl (O_cons (O_read rfl (R_add rfl rfl (P_some rfl (O_cons (O_read rfl (R_assign rfl ?_)))))))))))))
      refine P_some rfl (O_nil ?_)
      have e_ := Option.some.inj hb1869
      subst e_
      exact ⟨_, rfl, SubFr.of ⟨rfl, rfl, rfl, rfl, trivial⟩, SegSub.sel _ [some 0, some 1] 2⟩
    replace hb1869 := cond_f hc9 hb1869
    refine WP.exit (B_here ?_)
    have e_ := Option.some.inj hb1869
    subst e_
    have hq_ := hq1869 _ rfl
    subst hq_
    exact ⟨rfl, SubFr.of ⟨rfl, trivial⟩, SegSub.sel _ [some 1] 2⟩
  rintro fr1855 μ1855 L1855 hm1855 ⟨ho1855, hF1855, hS1855⟩
  subst ho1855
  replace h := osum_l h
  replace hA1 := hA1.mono hm1855
  replace hA2 := hA2.mono hm1855
  replace hO3 := hO3.mono hm1855
  refine hK1853 _ _ _ (WP.at hF1855 hS1855 (WP.seq_k (fun K1882 hK1882 => WP.region Tt_ok (O_cons (O_read rfl (R_move rfl (P_some rfl (O_cons (O_read rfl (R_assign rfl (P_some rfl (O_cons (O_read rfl ?_)))))))))))))
  refine R_assign rfl (P_some rfl (O_nil (hK1882 _ _ _ (WP.ret ?_))))
  have e_ := Option.some.inj h
  obtain ⟨e0a_, e0b_⟩ := Prod.mk.inj e_
  clear e_
  subst e0a_
  subst e0b_
  refine S_tmp rfl (S_tmp rfl (S_nil ?_))
  have hl5 := Own.lenOk hO3
  refine Upd.frzOwn 0 rfl hO3 fun v3 hm_1 hA8 => ?_
  replace hA1 := hA1.mono hm_1
  replace hA2 := hA2.mono hm_1
  replace hO3 := hO3.mono hm_1
  refine Upd.selS [] 1 ?_
  exact Upd.done (hR _ A7 c7 (Gh.le.trans hm1734 (Gh.le.trans hm1771 (Gh.le.trans hm1805 (Gh.le.trans hm1855 (hm_1))))) (hl5) (hA8))

theorem recyclingref48_SameOne_fn {μ : Gh} {L : List Seg} {R : Value → Gh → List Seg → Prop}  {a1 : T_api_Posting} {b1 : T_api_Posting} {A1 : Option Addr} {c1 : Nat} {A2 : Option Addr} {c2 : Nat} {res1 : Bool}
    (hl1 : a1.Lines.length ≤ c1 ∧ c1 ≤ maxLen) (hA1 : ArrR r_api_Line μ A1 a1.Lines) (hl2 : b1.Lines.length ≤ c2 ∧ c2 ≤ maxLen) (hA2 : ArrR r_api_Line μ A2 b1.Lines) (h : recyclingref48_SameOne a1 b1 = some res1)
    (hR : R (.bool res1) μ (L)) :
    Fn Try.prog 27 [.agg #[.int .i64 a1.ID, .int .i64 a1.At, .slice A1 a1.Lines.length c1], .agg #[.int .i64 b1.ID, .int .i64 b1.At, .slice A2 b1.Lines.length c2]] μ (L) R := by
  unfold recyclingref48_SameOne at h
  refine Fn.of_body Tt_ok Try.func27 (by kernel_rfl) rfl Try.ntmps27 (by simp) ?_
  simp only [Try.f27, argFr, List.zipIdx, List.map, Nat.reduceAdd]
  refine WP.seq_k (fun K1935 hK1935 => WP.region Tt_ok (O_cons (O_box (cs := #[.int .i64 a1.ID, .int .i64 a1.At, .slice A1 a1.Lines.length c1]) rfl rfl (fun g1 => P_some rfl (O_cons (O_box (cs := #[.int .i64 b1.ID, .int .i64 b1.At, .slice A2 b1.Lines.length c2]) rfl rfl (fun g2 => P_some rfl (O_cons (O_read rfl (R_assign rfl (P_some rfl (O_nil (hK1935 _ _ _ ?_)))))))))))))
  refine WP.seq_k (fun K1938 hK1938 => WP.seq_k (fun K1939 hK1939 => ?_))
  obtain ⟨o1940, h1940, h⟩ := obind h
  refine WP.cutK (fun fr_ μ_ L_ => ∃ (v1 : Bool), v1 = o1940 ∧ SubFr [(2, .pointer (some ⟨g1, 0, none⟩)), (3, .pointer (some ⟨g2, 0, none⟩)), (26, .bool v1)] fr_ ∧ SegSub ([(g1, .cells #[.int .i64 a1.ID, .int .i64 a1.At, .slice A1 a1.Lines.length c1] 24 (0, 0))] :: [(g2, .cells #[.int .i64 b1.ID, .int .i64 b1.At, .slice A2 b1.Lines.length c2] 24 (0, 0))] :: L) L_ ∧ μ = μ_) ?_ ?_
  · refine WP.region Tt_ok (O_cons (O_read rfl (R_fa0 (o' := 0) rfl rfl rfl rfl rfl rfl (P_some rfl (O_cons (O_read rfl (R_load rfl rfl rfl (Ex.mk _ (Cell.seg 1 0 rfl rfl rfl) (P_some rfl (O_cons (O_read rfl (R_fa0 (o' := 0) rfl rfl rfl rfl rfl rfl (P_some rfl ?_)))))))))))))
    refine O_cons (O_read rfl (R_load rfl rfl rfl (Ex.mk _ (Cell.seg 0 0 rfl rfl rfl) (P_some rfl (O_cons (O_read rfl (R_neqD rfl rfl (P_some rfl (O_cons (O_read rfl (R_move rfl (P_some rfl ?_))))))))))))
    refine O_gv (z := !(decide (a1.ID = b1.ID))) rfl rfl (fun hc1 => ?_) (fun hc1 => ?_)
    · replace h1940 := cond_f hc1 h1940
      refine O_read rfl (R_fa0 (o' := 1) rfl rfl rfl rfl rfl rfl (P_some rfl (O_gY rfl rfl hc1 (O_read rfl (R_load rfl rfl rfl (Ex.mk _ (Cell.seg 1 0 rfl rfl rfl) (P_some rfl (O_gY rfl rfl hc1 (O_read rfl (R_fa0 (o' := 1) rfl rfl rfl rfl rfl rfl (P_some rfl (O_gY rfl rfl hc1 (O_read rfl ?_)))))))))))))
      refine R_load rfl rfl rfl (Ex.mk _ (Cell.seg 0 0 rfl rfl rfl) (P_some rfl (O_gY rfl rfl hc1 (O_read rfl (R_neqD rfl rfl (P_some rfl (O_cons (O_read rfl (R_pick_F rfl hc1 rfl (P_some rfl (O_cons (O_read rfl (R_move rfl ?_)))))))))))))
      apply P_some; exact rfl
      refine O_gv (z := !(decide (a1.At = b1.At))) rfl rfl (fun hc2 => ?_) (fun hc2 => ?_)
      · replace h1940 := cond_f hc2 h1940
        refine O_read rfl (R_fa0 (o' := 2) rfl rfl rfl rfl rfl rfl (P_some rfl (O_gY rfl rfl hc2 (O_read rfl (R_load rfl rfl rfl (Ex.mk _ (Cell.seg 1 0 rfl rfl rfl) (P_some rfl (O_gY rfl rfl hc2 (O_read rfl (R_lenS rfl rfl rfl (P_some rfl (O_gY rfl rfl hc2 (O_read rfl ?_)))))))))))))
        refine R_fa0 (o' := 2) rfl rfl rfl rfl rfl rfl (P_some rfl (O_gY rfl rfl hc2 (O_read rfl (R_load rfl rfl rfl (Ex.mk _ (Cell.seg 0 0 rfl rfl rfl) (P_some rfl (O_gY rfl rfl hc2 (O_read rfl (R_lenS rfl rfl rfl (P_some rfl (O_gY rfl rfl hc2 (O_read rfl (R_neqD rfl rfl ?_)))))))))))))
        refine P_some rfl (O_cons (O_read rfl (R_pick_F rfl hc2 rfl (P_some rfl (O_nil ?_)))))
        have e_ := Option.some.inj h1940
        subst e_
        exact ⟨!(decide (((a1.Lines.length : Nat) : Int) = ((b1.Lines.length : Nat) : Int))), rfl, SubFr.of ⟨rfl, rfl, rfl, trivial⟩, SegSub.sel _ [some 1, some 0] 2, rfl⟩
      replace h1940 := cond_t hc2 h1940
      refine P_some rfl (O_gN rfl rfl hc2 (P_some rfl (O_gN rfl rfl hc2 (P_some rfl (O_gN rfl rfl hc2 (P_some rfl (O_gN rfl rfl hc2 (P_some rfl (O_gN rfl rfl hc2 (P_some rfl (O_gN rfl rfl hc2 (P_some rfl (O_cons ?_)))))))))))))
      refine O_read rfl (R_pick_T rfl hc2 rfl (P_some rfl (O_nil ?_)))
      have e_ := Option.some.inj h1940
      subst e_
      exact ⟨true, rfl, SubFr.of ⟨rfl, rfl, rfl, trivial⟩, SegSub.sel _ [some 1, some 0] 2, rfl⟩
    replace h1940 := cond_t hc1 h1940
    refine P_some rfl (O_gN rfl rfl hc1 (P_some rfl (O_gN rfl rfl hc1 (P_some rfl (O_gN rfl rfl hc1 (P_some rfl (O_gN rfl rfl hc1 (P_some rfl (O_cons (O_read rfl (R_pick_T rfl hc1 rfl (P_some rfl (O_cons ?_)))))))))))))
    refine O_read rfl (R_move rfl (P_some rfl (O_gN rfl rfl rfl (P_some rfl (O_gN rfl rfl rfl (P_some rfl (O_gN rfl rfl rfl (P_some rfl (O_gN rfl rfl rfl (P_some rfl (O_gN rfl rfl rfl (P_some rfl (O_gN rfl rfl rfl ?_)))))))))))))
    refine P_some rfl (O_gN rfl rfl rfl (P_some rfl (O_cons (O_read rfl (R_pick_T rfl rfl rfl (P_some rfl (O_nil ?_)))))))
    have e_ := Option.some.inj h1940
    subst e_
    exact ⟨true, rfl, SubFr.of ⟨rfl, rfl, rfl, trivial⟩, SegSub.sel _ [some 1, some 0] 2, rfl⟩
  rintro fr1940 μ1940 L1940 hm1940 ⟨v1, ho1940, hF1940, hS1940, hu1940⟩
  subst ho1940
  subst hu1940
  refine hK1939 _ _ _ (WP.at hF1940 hS1940 ?_)
  refine W_cond_v (b := v1) rfl (fun hc3 => ?_) (fun hc3 => ?_)
  · replace h := cond_t hc3 h
    refine WP.seq_k (fun K1945 hK1945 => WP.region Tt_ok (O_cons (O_read rfl (R_assign rfl (P_some rfl (O_nil (hK1945 _ _ _ (WP.ret ?_))))))))
    have e_ := Option.some.inj h
    subst e_
    refine S_tmp rfl (S_nil (Upd.selS [] 2 ?_))
    exact Upd.done hR
  replace h := cond_f hc3 h
  refine WP.skip (hK1938 _ _ _ (WP.seq_k (fun K1946 hK1946 => WP.seq_k (fun K1947 hK1947 => WP.region Tt_ok (O_cons (O_read rfl (R_assign rfl (P_some rfl (O_nil (hK1947 _ _ _ ?_))))))))))
  obtain ⟨o1948, h1948, h⟩ := obind h
  refine WP.cutK (fun fr_ μ_ L_ => (.inl ()) = o1948 ∧ SubFr [] fr_ ∧ SegSub (L) L_ ∧ μ = μ_) ?_ ?_
  · refine WP.block (WP.iter h1948 (fun (i1 : Int) fr_ μ_ L_ => SubFr [(2, .pointer (some ⟨g1, 0, none⟩)), (3, .pointer (some ⟨g2, 0, none⟩)), (5, .int .i64 i1)] fr_ ∧ SegSub ([(g1, .cells #[.int .i64 a1.ID, .int .i64 a1.At, .slice A1 a1.Lines.length c1] 24 (0, 0))] :: [(g2, .cells #[.int .i64 b1.ID, .int .i64 b1.At, .slice A2 b1.Lines.length c2] 24 (0, 0))] :: L) L_ ∧ μ = μ_) ⟨SubFr.of ⟨rfl, rfl, rfl, trivial⟩, SegSub.sel _ [some 0, some 1] 2, rfl⟩ ?_)
    rintro i1 q1961 fr1961 μ1961 L1961 hm1961 ⟨hF1961, hS1961, hu1961⟩ hb1961 hq1961
    unfold recyclingref48_SameOne_l1 at hb1961
    subst hu1961
    refine WP.at hF1961 hS1961 (WP.seq_k (fun K1968 hK1968 => WP.seq_k (fun K1969 hK1969 => WP.region Tt_ok (O_cons (O_read rfl (R_move rfl (P_some rfl (O_cons (O_read rfl (R_fa0 (o' := 2) rfl rfl rfl rfl rfl rfl (P_some rfl (O_cons (O_read rfl ?_)))))))))))))
    refine R_load rfl rfl rfl (Ex.mk _ (Cell.seg 0 0 rfl rfl rfl) (P_some rfl (O_cons (O_read rfl (R_lenS rfl rfl rfl (P_some rfl (O_cons (O_read rfl (R_lssD rfl rfl (P_some rfl (O_nil (hK1969 _ _ _ ?_))))))))))))
    refine W_cond_v (b := (decide (i1 < ((a1.Lines.length : Nat) : Int)))) rfl (fun hc4 => ?_) (fun hc4 => ?_)
    · replace hb1961 := cond_t hc4 hb1961
      refine WP.skip (hK1968 _ _ _ (WP.seq_k (fun K1970 hK1970 => WP.block (WP.seq_k (fun K1971 hK1971 => WP.drawn (id := 6) (l' := List.replicate 11 true) wide Tt_ok _ Kept.refl [(true, 0), (true, 1), (true, 2), (true, 3), (true, 4), (true, 5), (true, 6), (true, 7), (true, 8), (true, 9), (true, 10)] (by kernel_rfl) (by kernel_rfl) rfl (PL_t rfl (R_fa0 (o' := 2) rfl rfl rfl rfl rfl rfl (P_some rfl (PL_t rfl (R_load rfl rfl rfl (Ex.mk _ (Cell.seg 0 0 rfl rfl rfl) (P_some rfl (PL_t rfl ?_)))))))))))))
      refine R_move rfl (P_some rfl (PL_t rfl ?_))
      obtain ⟨x1, hx1, hb1961⟩ := obind hb1961
      obtain ⟨a2, cs1, hA3, hr1, _, hc5⟩ := Rds.getI (ArrR.rds hA1 L) hx1
      obtain rfl := hr1
      refine R_iaG rfl rfl rfl rfl rfl rfl ⟨(getI_lt hx1).1, (getI_lt hx1).2.1⟩ hA3 (P_some rfl (PL_t rfl (R_loadA rfl rfl rfl rfl (Ex.mk [.int .i64 x1.Account, .int .i64 x1.Amount] ⟨rfl, (hc5.push.push)⟩ (P_some rfl (PL_t rfl (R_fa0 (o' := 2) rfl rfl rfl rfl rfl rfl (P_some rfl (PL_t rfl (R_load rfl rfl rfl (Ex.mk _ (Cell.seg 1 0 rfl rfl rfl) (P_some rfl (PL_t rfl ?_)))))))))))))
      refine R_move rfl (P_some rfl (PL_t rfl ?_))
      obtain ⟨x2, hx2, hb1961⟩ := obind hb1961
      obtain ⟨a3, cs2, hA4, hr2, _, hc6⟩ := Rds.getI (ArrR.rds hA2 L) hx2
      obtain rfl := hr2
      refine R_iaG rfl rfl rfl rfl rfl rfl ⟨(getI_lt hx2).1, (getI_lt hx2).2.1⟩ hA4 (P_some rfl (PL_t rfl (R_loadA rfl rfl rfl rfl (Ex.mk [.int .i64 x2.Account, .int .i64 x2.Amount] ⟨rfl, (hc6.push.push)⟩ (P_some rfl (PL_t rfl (R_agg rfl rfl (Ex.mk _ (neRun_T_api_Line x1 x2) (P_some rfl (PL_nil (AN.done0 (by kernel_rfl) (hK1971 _ _ _ ?_))))))))))))
      refine W_cond_v (b := !(decide (x1 = x2))) rfl (fun hc7 => ?_) (fun hc7 => ?_)
      · replace hb1961 := cond_t hc7 hb1961
        refine WP.seq_k (fun K1972 hK1972 => WP.region Tt_ok (O_cons (O_read rfl (R_assign rfl (P_some rfl (O_nil (hK1972 _ _ _ (WP.ret ?_))))))))
        have e_ := Option.some.inj hb1961
        subst e_
        have hq_ := hq1961 _ rfl
        subst hq_
        replace h := osum_r h
        have e_ := Option.some.inj h
        subst e_
        refine S_tmp rfl (S_nil (Upd.selS [] 2 ?_))
        exact Upd.done hR
      replace hb1961 := cond_f hc7 hb1961
      refine WP.skip (hK1970 _ _ _ (WP.region Tt_ok (O_cons (O_read rfl (R_move rfl (P_some rfl (O_cons (O_read rfl (R_add rfl rfl (P_some rfl (O_cons (O_read rfl (R_assign rfl ?_)))))))))))))
      refine P_some rfl (O_nil ?_)
      have e_ := Option.some.inj hb1961
      subst e_
      exact ⟨_, rfl, SubFr.of ⟨rfl, rfl, rfl, trivial⟩, SegSub.sel _ [some 0, some 1] 2, rfl⟩
    replace hb1961 := cond_f hc4 hb1961
    refine WP.exit (B_here ?_)
    have e_ := Option.some.inj hb1961
    subst e_
    have hq_ := hq1961 _ rfl
    subst hq_
    exact ⟨rfl, SubFr.of trivial, SegSub.sel _ [] 2, rfl⟩
  rintro fr1948 μ1948 L1948 hm1948 ⟨ho1948, hF1948, hS1948, hu1948⟩
  subst ho1948
  replace h := osum_l h
  subst hu1948
  refine hK1946 _ _ _ (WP.at hF1948 hS1948 (WP.seq_k (fun K1973 hK1973 => WP.region Tt_ok (O_cons (O_read rfl (R_assign rfl (P_some rfl (O_nil (hK1973 _ _ _ (WP.ret ?_))))))))))
  have e_ := Option.some.inj h
  subst e_
  refine S_tmp rfl (S_nil (Upd.selS [] 0 ?_))
  exact Upd.done hR

theorem recyclingref48_Same_fn {μ : Gh} {L : List Seg} {R : Value → Gh → List Seg → Prop}  {a1 : (List T_api_Posting)} {b1 : (List T_api_Posting)} {A1 : Option Addr} {c1 : Nat} {A2 : Option Addr} {c2 : Nat} {res1 : Bool}
    (hl1 : a1.length ≤ c1 ∧ c1 ≤ maxLen) (hA1 : Rds r_api_Posting μ L A1 a1) (hl2 : b1.length ≤ c2 ∧ c2 ≤ maxLen) (hA2 : Rds r_api_Posting μ L A2 b1) (h : recyclingref48_Same a1 b1 = some res1)
    (hR : R (.bool res1) μ (L)) :
    Fn Try.prog 18 [.slice A1 a1.length c1, .slice A2 b1.length c2] μ (L) R := by
  unfold recyclingref48_Same at h
  refine Fn.of_body Tt_ok Try.func18 (by kernel_rfl) rfl Try.ntmps18 (by simp) ?_
  simp only [Try.f18, argFr, List.zipIdx, List.map, Nat.reduceAdd]
  refine WP.seq_k (fun K1919 hK1919 => WP.region Tt_ok (O_cons (O_read rfl (R_assign rfl (P_some rfl (O_nil (hK1919 _ _ _ (WP.seq_k (fun K1920 hK1920 => WP.seq_k (fun K1921 hK1921 => WP.region Tt_ok (O_cons (O_read rfl (R_move rfl ?_)))))))))))))
  refine P_some rfl (O_cons (O_read rfl (R_lenS rfl rfl rfl (P_some rfl (O_cons (O_read rfl (R_move rfl (P_some rfl (O_cons (O_read rfl (R_lenS rfl rfl rfl (P_some rfl (O_cons ?_)))))))))))))
  refine O_read rfl (R_neqD rfl rfl (P_some rfl (O_nil (hK1921 _ _ _ ?_))))
  refine W_cond_v (b := !(decide (((a1.length : Nat) : Int) = ((b1.length : Nat) : Int)))) rfl (fun hc1 => ?_) (fun hc1 => ?_)
  · replace h := cond_t hc1 h
    refine WP.seq_k (fun K1922 hK1922 => WP.region Tt_ok (O_cons (O_read rfl (R_assign rfl (P_some rfl (O_nil (hK1922 _ _ _ (WP.ret ?_))))))))
    have e_ := Option.some.inj h
    subst e_
    refine S_tmp rfl (S_nil (Upd.selS [] 0 ?_))
    exact Upd.done hR
  replace h := cond_f hc1 h
  refine WP.skip (hK1920 _ _ _ (WP.seq_k (fun K1923 hK1923 => WP.seq_k (fun K1924 hK1924 => WP.region Tt_ok (O_cons (O_read rfl (R_assign rfl (P_some rfl (O_nil (hK1924 _ _ _ ?_))))))))))
  obtain ⟨o1925, h1925, h⟩ := obind h
  refine WP.cutK (fun fr_ μ_ L_ => (.inl ()) = o1925 ∧ SubFr [] fr_ ∧ SegSub (L) L_ ∧ μ = μ_) ?_ ?_
  · refine WP.block (WP.iter h1925 (fun (i1 : Int) fr_ μ_ L_ => SubFr [(0, .slice A1 a1.length c1), (1, .slice A2 b1.length c2), (5, .int .i64 i1)] fr_ ∧ SegSub (L) L_ ∧ μ = μ_) ⟨SubFr.of ⟨rfl, rfl, rfl, trivial⟩, SegSub.sel _ [] 0, rfl⟩ ?_)
    rintro i1 q1985 fr1985 μ1985 L1985 hm1985 ⟨hF1985, hS1985, hu1985⟩ hb1985 hq1985
    unfold recyclingref48_Same_l1 at hb1985
    subst hu1985
    refine WP.at hF1985 hS1985 (WP.seq_k (fun K1986 hK1986 => WP.seq_k (fun K1987 hK1987 => WP.region Tt_ok (O_cons (O_read rfl (R_move rfl (P_some rfl (O_cons (O_read rfl (R_move rfl (P_some rfl (O_cons (O_read rfl ?_)))))))))))))
    refine R_lenS rfl rfl rfl (P_some rfl (O_cons (O_read rfl (R_lssD rfl rfl (P_some rfl (O_nil (hK1987 _ _ _ ?_)))))))
    refine W_cond_v (b := (decide (i1 < ((a1.length : Nat) : Int)))) rfl (fun hc2 => ?_) (fun hc2 => ?_)
    · replace hb1985 := cond_t hc2 hb1985
      refine WP.skip (hK1986 _ _ _ (WP.seq_k (fun K1988 hK1988 => WP.block (WP.seq_k (fun K1989 hK1989 => WP.drawn (id := 6) (l' := List.replicate 10 true) wide Tt_ok _ Kept.refl [(true, 0), (true, 1), (true, 2), (true, 3), (true, 4), (true, 5), (true, 6), (true, 7), (false, 8), (true, 9)] (by kernel_rfl) (by kernel_rfl) rfl (PL_t rfl (R_move rfl (P_some rfl (PL_t rfl (R_move rfl (P_some rfl (PL_t rfl ?_))))))))))))
      obtain ⟨x1, hx1, hb1985⟩ := obind hb1985
      obtain ⟨a2, cs1, hA3, hr1, _, hc3⟩ := Rds.getI hA1 hx1
      obtain ⟨A3, c3, rfl, hl3, hA4⟩ := hr1
      refine R_iaG rfl rfl rfl rfl rfl rfl ⟨(getI_lt hx1).1, (getI_lt hx1).2.1⟩ hA3 (P_some rfl (PL_t rfl (R_loadA rfl rfl rfl rfl (Ex.mk [.int .i64 x1.ID, .int .i64 x1.At, .slice A3 x1.Lines.length c3] ⟨rfl, hc3⟩ (P_some rfl (PL_t rfl (R_move rfl (P_some rfl (PL_t rfl (R_move rfl (P_some rfl (PL_t rfl ?_))))))))))))
      obtain ⟨x2, hx2, hb1985⟩ := obind hb1985
      obtain ⟨a3, cs2, hA5, hr2, _, hc4⟩ := Rds.getI hA2 hx2
      obtain ⟨A4, c4, rfl, hl4, hA6⟩ := hr2
      refine R_iaG rfl rfl rfl rfl rfl rfl ⟨(getI_lt hx2).1, (getI_lt hx2).2.1⟩ hA5 (P_some rfl (PL_t rfl (R_loadA rfl rfl rfl rfl (Ex.mk [.int .i64 x2.ID, .int .i64 x2.At, .slice A4 x2.Lines.length c4] ⟨rfl, hc4⟩ (P_some rfl (PL_f rfl (O_call (all := [.agg #[.int .i64 x1.ID, .int .i64 x1.At, .slice A3 x1.Lines.length c3], .agg #[.int .i64 x2.ID, .int .i64 x2.At, .slice A4 x2.Lines.length c4]]) rfl rfl rfl ?_)))))))
      obtain ⟨r1, hx3, hb1985⟩ := obind hb1985
      refine recyclingref48_SameOne_fn hl3 hA4 hl4 hA6 hx3 (?_)
      refine ⟨Kept.refl, ?_⟩
      refine P_some rfl (PL_t rfl (R_not rfl (P_some rfl (PL_nil (AN.done0 (by kernel_rfl) (hK1989 _ _ _ ?_))))))
      refine W_cond_v (b := !r1) rfl (fun hc5 => ?_) (fun hc5 => ?_)
      · replace hb1985 := cond_t hc5 hb1985
        refine WP.seq_k (fun K2002 hK2002 => WP.region Tt_ok (O_cons (O_read rfl (R_assign rfl (P_some rfl (O_nil (hK2002 _ _ _ (WP.ret ?_))))))))
        have e_ := Option.some.inj hb1985
        subst e_
        have hq_ := hq1985 _ rfl
        subst hq_
        replace h := osum_r h
        have e_ := Option.some.inj h
        subst e_
        refine S_tmp rfl (S_nil (Upd.selS [] 0 ?_))
        exact Upd.done hR
      replace hb1985 := cond_f hc5 hb1985
      refine WP.skip (hK1988 _ _ _ (WP.region Tt_ok (O_cons (O_read rfl (R_move rfl (P_some rfl (O_cons (O_read rfl (R_add rfl rfl (P_some rfl (O_cons (O_read rfl (R_assign rfl ?_)))))))))))))
      refine P_some rfl (O_nil ?_)
      have e_ := Option.some.inj hb1985
      subst e_
      exact ⟨_, rfl, SubFr.of ⟨rfl, rfl, rfl, trivial⟩, SegSub.sel _ [] 0, rfl⟩
    replace hb1985 := cond_f hc2 hb1985
    refine WP.exit (B_here ?_)
    have e_ := Option.some.inj hb1985
    subst e_
    have hq_ := hq1985 _ rfl
    subst hq_
    exact ⟨rfl, SubFr.of trivial, SegSub.sel _ [] 0, rfl⟩
  rintro fr1925 μ1925 L1925 hm1925 ⟨ho1925, hF1925, hS1925, hu1925⟩
  subst ho1925
  replace h := osum_l h
  subst hu1925
  refine hK1923 _ _ _ (WP.at hF1925 hS1925 (WP.seq_k (fun K2003 hK2003 => WP.region Tt_ok (O_cons (O_read rfl (R_assign rfl (P_some rfl (O_nil (hK2003 _ _ _ (WP.ret ?_))))))))))
  have e_ := Option.some.inj h
  subst e_
  refine S_tmp rfl (S_nil (Upd.selS [] 0 ?_))
  exact Upd.done hR

theorem recyclingref48_Accounts_fn {μ : Gh} {L : List Seg} {R : Value → Gh → List Seg → Prop} {F : Nat} {l1 : (List T_api_Posting)} {A1 : Option Addr} {c1 : Nat} {res1 : (List Int)}
    (hl1 : l1.length ≤ c1 ∧ c1 ≤ maxLen) (hA1 : Rds r_api_Posting μ L A1 l1) (h : recyclingref48_Accounts F l1 = some res1)
    (hR : ∀ (A0 : Option Addr) (c0 : Nat) (ch0 : Seg), Own rInt 3 μ (.slice A0 res1.length c0) res1 ch0 → R (.slice A0 res1.length c0) μ (ch0 :: L)) :
    Fn Try.prog 22 [.slice A1 l1.length c1] μ (L) R := by
  unfold recyclingref48_Accounts at h
  refine Fn.of_body Tt_ok Try.func22 (by kernel_rfl) rfl Try.ntmps22 (by simp) ?_
  simp only [Try.f22, argFr, List.zipIdx, List.map, Nat.reduceAdd]
  refine WP.seq_k (fun K2007 hK2007 => WP.region Tt_ok (O_cons (O_read rfl (R_assign rfl (P_some rfl (O_nil (hK2007 _ _ _ (WP.seq_k (fun K2010 hK2010 => WP.region Tt_ok (O_cons (O_bsl (z := []) rfl rfl rfl rfl rfl rfl rfl (F_nil (fun g1 => P_some rfl ?_)))))))))))))
  refine O_cons (O_read rfl (R_assign rfl (P_some rfl (O_nil (hK2010 _ _ _ (WP.seq_k (fun K2012 hK2012 => WP.seq_k (fun K2013 hK2013 => WP.region Tt_ok (O_cons (O_read rfl (R_assign rfl (P_some rfl (O_nil ?_)))))))))))))
  refine hK2013 _ _ _ ?_
  obtain ⟨o2014, h2014, h⟩ := obind h
  refine WP.cutK (fun fr_ μ_ L_ => ∃ (out6 : (List Int)) (A13 : Option Addr) (c12 : Nat) (ch9 : Seg), out6 = o2014 ∧ SubFr [(3, .slice A13 out6.length c12)] fr_ ∧ SegSub (ch9 :: L) L_ ∧ Own rInt 3 μ_ (.slice A13 out6.length c12) out6 ch9 ∧ μ = μ_) ?_ ?_
  · refine WP.block (WP.iter h2014 (fun (j_ : (List Int) × Int) fr_ μ_ L_ => ounP j_ fun out1 i1 => ∃ (A2 : Option Addr) (c2 : Nat) (ch1 : Seg), SubFr [(0, .slice A1 l1.length c1), (3, .slice A2 out1.length c2), (4, .int .i64 i1)] fr_ ∧ SegSub (ch1 :: L) L_ ∧ Own rInt 3 μ_ (.slice A2 out1.length c2) out1 ch1 ∧ μ = μ_) ⟨(some ⟨g1, 0, none⟩), 0, [(g1, .cells #[] 3 (0, 0))], SubFr.of ⟨rfl, rfl, rfl, trivial⟩, SegSub.sel _ [some 0] 1, ((Own.empty (r := rInt) (e := 3) (g := g1))), rfl⟩ ?_)
    rintro ⟨out1, i1⟩ q2087 fr2087 μ2087 L2087 hm2087 ⟨A2, c2, ch1, hF2087, hS2087, hO1, hu2087⟩ hb2087 hq2087
    unfold recyclingref48_Accounts_l3 at hb2087
    replace hb2087 := oun_mk hb2087
    subst hu2087
    refine WP.at hF2087 hS2087 (WP.seq_k (fun K2089 hK2089 => WP.seq_k (fun K2090 hK2090 => WP.region Tt_ok (O_cons (O_read rfl (R_move rfl (P_some rfl (O_cons (O_read rfl (R_move rfl (P_some rfl (O_cons (O_read rfl ?_)))))))))))))
    refine R_lenS rfl rfl rfl (P_some rfl (O_cons (O_read rfl (R_lssD rfl rfl (P_some rfl (O_nil (hK2090 _ _ _ ?_)))))))
    refine W_cond_v (b := (decide (i1 < ((l1.length : Nat) : Int)))) rfl (fun hc1 => ?_) (fun hc1 => ?_)
    · replace hb2087 := cond_t hc1 hb2087
      refine WP.skip (hK2089 _ _ _ (WP.seq_k (fun K2091 hK2091 => ?_)))
      obtain ⟨o2092, h2092, hb2087⟩ := obind hb2087
      refine WP.cutK (fun fr_ μ_ L_ => ∃ (out5 : (List Int)) (A12 : Option Addr) (c11 : Nat) (ch8 : Seg), out5 = o2092 ∧ SubFr [(0, .slice A1 l1.length c1), (3, .slice A12 out5.length c11), (4, .int .i64 i1)] fr_ ∧ SegSub (ch8 :: L) L_ ∧ Own rInt 3 μ_ (.slice A12 out5.length c11) out5 ch8 ∧ μ = μ_) ?_ ?_
      · refine WP.block (WP.seq_k (fun K2093 hK2093 => WP.region Tt_ok (O_cons (O_read rfl (R_assign rfl (P_some rfl (O_nil (hK2093 _ _ _ ?_))))))))
        obtain ⟨o2094, h2094, h2092⟩ := obind h2092
        refine WP.cutK (fun fr_ μ_ L_ => ∃ (out4 : (List Int)) (A11 : Option Addr) (c10 : Nat) (ch7 : Seg), out4 = o2094 ∧ SubFr [(0, .slice A1 l1.length c1), (3, .slice A11 out4.length c10), (4, .int .i64 i1)] fr_ ∧ SegSub (ch7 :: L) L_ ∧ Own rInt 3 μ_ (.slice A11 out4.length c10) out4 ch7 ∧ μ = μ_) ?_ ?_
        · refine WP.block (WP.iter h2094 (fun (j_ : (List Int) × Int) fr_ μ_ L_ => ounP j_ fun out2 j1 => ∃ (A3 : Option Addr) (c3 : Nat) (ch2 : Seg), SubFr [(0, .slice A1 l1.length c1), (3, .slice A3 out2.length c3), (4, .int .i64 i1), (5, .int .i64 j1)] fr_ ∧ SegSub (ch2 :: L) L_ ∧ Own rInt 3 μ_ (.slice A3 out2.length c3) out2 ch2 ∧ μ = μ_) ⟨A2, c2, ch1, SubFr.of ⟨rfl, rfl, rfl, rfl, trivial⟩, SegSub.sel _ [some 0] 1, (hO1), rfl⟩ ?_)
          rintro ⟨out2, j1⟩ q2126 fr2126 μ2126 L2126 hm2126 ⟨A3, c3, ch2, hF2126, hS2126, hO2, hu2126⟩ hb2126 hq2126
          unfold recyclingref48_Accounts_l2 at hb2126
          replace hb2126 := oun_mk hb2126
          subst hu2126
          refine WP.at hF2126 hS2126 (WP.seq_k (fun K2128 hK2128 => WP.seq_k (fun K2129 hK2129 => WP.region Tt_ok (O_cons (O_read rfl (R_move rfl (P_some rfl (O_cons (O_read rfl (R_move rfl (P_some rfl (O_cons (O_read rfl ?_)))))))))))))
          refine R_move rfl (P_some rfl (O_cons ?_))
          obtain ⟨x1, hx1, hb2126⟩ := obind hb2126
          obtain ⟨a1, cs1, hA2, hr1, _, hc2⟩ := Rds.getI hA1 hx1
          obtain ⟨A4, c4, rfl, hl2, hA3⟩ := hr1
          refine O_read rfl (R_iaG rfl rfl rfl rfl rfl rfl ⟨(getI_lt hx1).1, (getI_lt hx1).2.1⟩ hA2 (P_some rfl (O_cons (O_read rfl (R_fa rfl rfl rfl rfl rfl (P_some rfl (O_cons (O_read rfl (R_load rfl rfl rfl (Ex.mk _ (Cell.of_cells (hc2.push) 2 rfl) (P_some rfl (O_cons (O_read rfl ?_)))))))))))))
          refine R_lenS rfl rfl rfl (P_some rfl (O_cons (O_read rfl (R_lssD rfl rfl (P_some rfl (O_nil (hK2129 _ _ _ ?_)))))))
          refine W_cond_v (b := (decide (j1 < ((x1.Lines.length : Nat) : Int)))) rfl (fun hc3 => ?_) (fun hc3 => ?_)
          · replace hb2126 := cond_t hc3 hb2126
            refine WP.skip (hK2128 _ _ _ (WP.seq_k (fun K2131 hK2131 => ?_)))
            obtain ⟨o2132, h2132, hb2126⟩ := obind hb2126
            refine WP.cutK (fun fr_ μ_ L_ => ∃ (out3 : (List Int)) (A10 : Option Addr) (c9 : Nat) (ch6 : Seg), out3 = o2132 ∧ SubFr [(0, .slice A1 l1.length c1), (3, .slice A10 out3.length c9), (4, .int .i64 i1), (5, .int .i64 j1)] fr_ ∧ SegSub (ch6 :: L) L_ ∧ Own rInt 3 μ_ (.slice A10 out3.length c9) out3 ch6 ∧ μ = μ_) ?_ ?_
            · refine WP.block (WP.seq_k (fun K2133 hK2133 => WP.region Tt_ok (O_cons (O_read rfl (R_move rfl (P_some rfl (O_cons (O_read rfl (R_move rfl (P_some rfl (O_cons ?_)))))))))))
              obtain ⟨x2, hx2, h2132⟩ := obind h2132
              obtain ⟨a2, cs2, hA4, hr2, _, hc4⟩ := Rds.getI hA1 hx2
              obtain ⟨A5, c5, rfl, hl3, hA5⟩ := hr2
              refine O_read rfl (R_iaG rfl rfl rfl rfl rfl rfl ⟨(getI_lt hx2).1, (getI_lt hx2).2.1⟩ hA4 (P_some rfl (O_cons (O_read rfl (R_fa rfl rfl rfl rfl rfl (P_some rfl (O_cons (O_read rfl (R_load rfl rfl rfl (Ex.mk _ (Cell.of_cells (hc4.push) 2 rfl) (P_some rfl (O_cons (O_read rfl ?_)))))))))))))
              refine R_move rfl (P_some rfl (O_cons ?_))
              obtain ⟨x3, hx3, h2132⟩ := obind h2132
              obtain ⟨a3, cs3, hA6, hr3, _, hc5⟩ := Rds.getI (ArrR.rds hA5 L) hx3
              obtain rfl := hr3
              refine O_read rfl (R_iaG rfl rfl rfl rfl rfl rfl ⟨(getI_lt hx3).1, (getI_lt hx3).2.1⟩ hA6 (P_some rfl (O_cons (O_read rfl (R_faz rfl rfl rfl rfl rfl (P_some rfl (O_cons (O_read rfl (R_load rfl rfl rfl (Ex.mk _ (Cell.of_cells0 (hc5.push) rfl) (P_some rfl (O_cons (O_read rfl ?_)))))))))))))
              refine R_assign rfl (P_some rfl (O_nil (hK2133 _ _ _ (WP.seq_k (fun K2135 hK2135 => WP.region Tt_ok (O_cons (O_read rfl (R_assign rfl (P_some rfl (O_nil (hK2135 _ _ _ (WP.seq_k (fun K2136 hK2136 => ?_)))))))))))))
              obtain ⟨o2137, h2137, h2132⟩ := obind h2132
              refine WP.cutK (fun fr_ μ_ L_ => ∃ (k2 : Int), k2 = o2137 ∧ SubFr [(0, .slice A1 l1.length c1), (3, .slice A3 out2.length c3), (4, .int .i64 i1), (5, .int .i64 j1), (6, .int .i64 x3.Account), (7, .int .i64 k2)] fr_ ∧ SegSub (ch2 :: L) L_ ∧ μ = μ_) ?_ ?_
              · refine WP.block (WP.iter h2137 (fun (k1 : Int) fr_ μ_ L_ => SubFr [(0, .slice A1 l1.length c1), (3, .slice A3 out2.length c3), (4, .int .i64 i1), (5, .int .i64 j1), (6, .int .i64 x3.Account), (7, .int .i64 k1)] fr_ ∧ SegSub (ch2 :: L) L_ ∧ μ = μ_) ⟨SubFr.of ⟨rfl, rfl, rfl, rfl, rfl, rfl, trivial⟩, SegSub.sel _ [some 0] 1, rfl⟩ ?_)
                rintro k1 q2142 fr2142 μ2142 L2142 hm2142 ⟨hF2142, hS2142, hu2142⟩ hb2142 hq2142
                unfold recyclingref48_Accounts_l1 at hb2142
                subst hu2142
                refine WP.at hF2142 hS2142 (WP.seq_k (fun K2143 hK2143 => WP.seq_k (fun K2144 hK2144 => ?_)))
                obtain ⟨o2145, h2145, hb2142⟩ := obind hb2142
                refine WP.cutK (fun fr_ μ_ L_ => ∃ (v1 : Bool), v1 = o2145 ∧ SubFr [(0, .slice A1 l1.length c1), (3, .slice A3 out2.length c3), (4, .int .i64 i1), (5, .int .i64 j1), (6, .int .i64 x3.Account), (7, .int .i64 k1), (46, .bool v1)] fr_ ∧ SegSub (ch2 :: L) L_ ∧ μ = μ_) ?_ ?_
                · refine WP.region Tt_ok (O_cons (O_read rfl (R_move rfl (P_some rfl (O_cons (O_read rfl (R_move rfl (P_some rfl (O_cons (O_read rfl (R_lenS rfl rfl rfl (P_some rfl (O_cons ?_)))))))))))))
                  refine O_read rfl (R_lssD rfl rfl (P_some rfl (O_cons (O_read rfl (R_move rfl (P_some rfl ?_))))))
                  refine O_gv (z := (decide (k1 < ((out2.length : Nat) : Int)))) rfl rfl (fun hc6 => ?_) (fun hc6 => ?_)
                  · replace h2145 := cond_t hc6 h2145
                    refine O_read rfl (R_move rfl (P_some rfl (O_gY rfl rfl hc6 (O_read rfl (R_move rfl (P_some rfl (O_gY rfl rfl hc6 ?_)))))))
                    obtain ⟨x4, hx4, h2145⟩ := obind h2145
                    obtain ⟨a4, cs4, hA7, hr4, _, hc7⟩ := Rds.getI (Own.rds (L := (ch2 :: L)) hO2 0 rfl) hx4
                    obtain rfl := hr4
                    refine O_read rfl (R_iaG rfl rfl rfl rfl rfl rfl ⟨(getI_lt hx4).1, (getI_lt hx4).2.1⟩ hA7 (P_some rfl (O_gY rfl rfl hc6 (O_read rfl (R_load rfl rfl rfl (Ex.mk _ (Cell.of_cells0 hc7 rfl) (P_some rfl (O_gY rfl rfl hc6 (O_read rfl (R_move rfl (P_some rfl (O_gY rfl rfl hc6 (O_read rfl ?_)))))))))))))
                    refine R_lssD rfl rfl (P_some rfl (O_cons (O_read rfl (R_pick_T rfl hc6 rfl (P_some rfl (O_nil ?_))))))
                    have e_ := Option.some.inj h2145
                    subst e_
                    exact ⟨(decide (x4 < x3.Account)), rfl, SubFr.of ⟨rfl, rfl, rfl, rfl, rfl, rfl, rfl, trivial⟩, SegSub.sel _ [some 0] 1, rfl⟩
                  replace h2145 := cond_f hc6 h2145
                  refine P_some rfl (O_gN rfl rfl hc6 (P_some rfl (O_gN rfl rfl hc6 (P_some rfl (O_gN rfl rfl hc6 (P_some rfl (O_gN rfl rfl hc6 (P_some rfl (O_gN rfl rfl hc6 (P_some rfl (O_cons (O_read rfl (R_pick_F rfl hc6 rfl ?_)))))))))))))
                  refine P_some rfl (O_nil ?_)
                  have e_ := Option.some.inj h2145
                  subst e_
                  exact ⟨false, rfl, SubFr.of ⟨rfl, rfl, rfl, rfl, rfl, rfl, rfl, trivial⟩, SegSub.sel _ [some 0] 1, rfl⟩
                rintro fr2145 μ2145 L2145 hm2145 ⟨v1, ho2145, hF2145, hS2145, hu2145⟩
                subst ho2145
                subst hu2145
                refine hK2144 _ _ _ (WP.at hF2145 hS2145 ?_)
                refine W_cond_v (b := v1) rfl (fun hc8 => ?_) (fun hc8 => ?_)
                · replace hb2142 := cond_t hc8 hb2142
                  refine WP.skip (hK2143 _ _ _ (WP.block (WP.region Tt_ok (O_cons (O_read rfl (R_move rfl (P_some rfl (O_cons (O_read rfl (R_add rfl rfl (P_some rfl (O_cons (O_read rfl ?_)))))))))))))
                  refine R_assign rfl (P_some rfl (O_nil ?_))
                  have e_ := Option.some.inj hb2142
                  subst e_
                  exact ⟨_, rfl, SubFr.of ⟨rfl, rfl, rfl, rfl, rfl, rfl, trivial⟩, SegSub.sel _ [some 0] 1, rfl⟩
                replace hb2142 := cond_f hc8 hb2142
                refine WP.exit (B_here ?_)
                have e_ := Option.some.inj hb2142
                subst e_
                have hq_ := hq2142 _ rfl
                subst hq_
                exact ⟨k1, rfl, SubFr.of ⟨rfl, rfl, rfl, rfl, rfl, rfl, trivial⟩, SegSub.sel _ [some 0] 1, rfl⟩
              rintro fr2137 μ2137 L2137 hm2137 ⟨k2, ho2137, hF2137, hS2137, hu2137⟩
              subst ho2137
              subst hu2137
              refine hK2136 _ _ _ (WP.at hF2137 hS2137 (WP.seq_k (fun K2146 hK2146 => WP.seq_k (fun K2147 hK2147 => ?_))))
              obtain ⟨o2148, h2148, h2132⟩ := obind h2132
              refine WP.cutK (fun fr_ μ_ L_ => ∃ (v2 : Bool), v2 = o2148 ∧ SubFr [(0, .slice A1 l1.length c1), (3, .slice A3 out2.length c3), (4, .int .i64 i1), (5, .int .i64 j1), (6, .int .i64 x3.Account), (7, .int .i64 k2), (60, .bool v2)] fr_ ∧ SegSub (ch2 :: L) L_ ∧ μ = μ_) ?_ ?_
              · refine WP.region Tt_ok (O_cons (O_read rfl (R_move rfl (P_some rfl (O_cons (O_read rfl (R_move rfl (P_some rfl (O_cons (O_read rfl (R_lenS rfl rfl rfl (P_some rfl (O_cons ?_)))))))))))))
                refine O_read rfl (R_lssD rfl rfl (P_some rfl (O_cons (O_read rfl (R_move rfl (P_some rfl ?_))))))
                refine O_gv (z := (decide (k2 < ((out2.length : Nat) : Int)))) rfl rfl (fun hc9 => ?_) (fun hc9 => ?_)
                · replace h2148 := cond_t hc9 h2148
                  refine O_read rfl (R_move rfl (P_some rfl (O_gY rfl rfl hc9 (O_read rfl (R_move rfl (P_some rfl (O_gY rfl rfl hc9 ?_)))))))
                  obtain ⟨x5, hx5, h2148⟩ := obind h2148
                  obtain ⟨a5, cs5, hA8, hr5, _, hc10⟩ := Rds.getI (Own.rds (L := (ch2 :: L)) hO2 0 rfl) hx5
                  obtain rfl := hr5
                  refine O_read rfl (R_iaG rfl rfl rfl rfl rfl rfl ⟨(getI_lt hx5).1, (getI_lt hx5).2.1⟩ hA8 (P_some rfl (O_gY rfl rfl hc9 (O_read rfl (R_load rfl rfl rfl (Ex.mk _ (Cell.of_cells0 hc10 rfl) (P_some rfl (O_gY rfl rfl hc9 (O_read rfl (R_move rfl (P_some rfl (O_gY rfl rfl hc9 (O_read rfl ?_)))))))))))))
                  refine R_eqlD rfl rfl (P_some rfl (O_cons (O_read rfl (R_pick_T rfl hc9 rfl (P_some rfl (O_nil ?_))))))
                  have e_ := Option.some.inj h2148
                  subst e_
                  exact ⟨(decide (x5 = x3.Account)), rfl, SubFr.of ⟨rfl, rfl, rfl, rfl, rfl, rfl, rfl, trivial⟩, SegSub.sel _ [some 0] 1, rfl⟩
                replace h2148 := cond_f hc9 h2148
                refine P_some rfl (O_gN rfl rfl hc9 (P_some rfl (O_gN rfl rfl hc9 (P_some rfl (O_gN rfl rfl hc9 (P_some rfl (O_gN rfl rfl hc9 (P_some rfl (O_gN rfl rfl hc9 (P_some rfl (O_cons (O_read rfl (R_pick_F rfl hc9 rfl ?_)))))))))))))
                refine P_some rfl (O_nil ?_)
                have e_ := Option.some.inj h2148
                subst e_
                exact ⟨false, rfl, SubFr.of ⟨rfl, rfl, rfl, rfl, rfl, rfl, rfl, trivial⟩, SegSub.sel _ [some 0] 1, rfl⟩
              rintro fr2148 μ2148 L2148 hm2148 ⟨v2, ho2148, hF2148, hS2148, hu2148⟩
              subst ho2148
              subst hu2148
              refine hK2147 _ _ _ (WP.at hF2148 hS2148 ?_)
              refine W_cond_v (b := v2) rfl (fun hc11 => ?_) (fun hc11 => ?_)
              · replace h2132 := cond_t hc11 h2132
                refine WP.exit (B_here ?_)
                have e_ := Option.some.inj h2132
                subst e_
                exact ⟨out2, A3, c3, ch2, rfl, SubFr.of ⟨rfl, rfl, rfl, rfl, trivial⟩, SegSub.sel _ [some 0] 1, (hO2), rfl⟩
              replace h2132 := cond_f hc11 h2132
              refine WP.skip (hK2146 _ _ _ (WP.seq_k (fun K2149 hK2149 => WP.region Tt_ok (O_cons (O_bsl (z := []) rfl rfl rfl rfl rfl rfl rfl (F_nil (fun g2 => P_some rfl (O_cons (O_read rfl (R_move rfl (P_some rfl (O_cons (O_read rfl ?_)))))))))))))
              refine R_move rfl (P_some rfl (O_cons ?_))
              obtain ⟨l2, hs1, h2132⟩ := obind h2132
              refine O_read rfl (R_slLoS (r := rInt) rfl rfl rfl rfl rfl rfl rfl (Own.lenOk hO2).1 hs1 fun A6 hAe1 => ?_)
              have hA9 := Rds.sub (Own.rds (L := ([(g2, .cells #[] 3 (0, 0))] :: ch2 :: L)) hO2 1 rfl) (Own.lenOk hO2).1 hs1 hAe1
              have hl4 := subLen (Own.lenOk hO2) hs1
              refine P_some rfl (O_cons (O_append rfl ?_))
              obtain ⟨l3, hz1, h2132⟩ := obind h2132
              refine sem_appR (r := rInt) Tt_ok rfl rfl rfl rfl (by decide) rfl rfl 0 rfl (Own.empty (r := rInt) (e := 3) (g := g2)) rfl hA9 hz1 fun A7 c6 ch3 hO3 => P_some rfl (O_cons (O_read rfl (R_assign rfl (P_some rfl (O_nil (hK2149 _ _ _ (WP.region Tt_ok (O_cons (O_read rfl (R_move rfl (P_some rfl (O_cons ?_))))))))))))
              refine O_read rfl (R_move rfl (P_some rfl (O_cons (O_read rfl (R_move rfl (P_some rfl (O_cons ?_)))))))
              obtain ⟨l4, hs2, h2132⟩ := obind h2132
              refine O_read rfl (R_slHi3S rfl rfl rfl rfl rfl rfl rfl (Own.lenOk hO2).1 hs2 ?_)
              have hA10 := Rds.pre (Own.rds (L := (ch3 :: ch2 :: L)) hO2 1 rfl) hs2
              have hl5 := fullLen (Own.lenOk hO2) hs2
              refine P_some rfl (O_cons (O_read rfl (R_move rfl (P_some rfl (O_cons (O_bsl (z := [.int .i64 0]) rfl rfl rfl rfl rfl rfl rfl (F_cons (cells' := [.int .i64 x3.Account]) rfl rfl rfl rfl (F_nil (fun g3 => P_some rfl (O_cons (O_append rfl ?_)))))))))))
              obtain ⟨l5, hz2, h2132⟩ := obind h2132
              refine sem_appF (r := rInt) Tt_ok rfl rfl rfl rfl (by decide) rfl rfl (Rds.push hA10) rfl (Own.rds (L := ([(g3, .cells #[.int .i64 x3.Account] 3 (0, 0))] :: ch3 :: ch2 :: L)) (Own.lit (r := rInt) (e := 3) (g := g3) (xs := [x3.Account]) (cs := [.int .i64 x3.Account]) (css := [[.int .i64 x3.Account]]) rfl (All2.cons (rfl) (All2.nil)) rfl rfl) 0 rfl) (by decide) hz2 fun A8 c7 ch4 hO4 => P_some rfl (O_cons (O_read rfl (R_move rfl (P_some rfl (O_cons (O_append rfl ?_))))))
              obtain ⟨l6, hz3, h2132⟩ := obind h2132
              refine sem_appR (r := rInt) Tt_ok rfl rfl rfl rfl (by decide) rfl rfl 0 rfl hO4 rfl (Own.rds (L := (ch4 :: [(g3, .cells #[.int .i64 x3.Account] 3 (0, 0))] :: ch3 :: ch2 :: L)) hO3 2 rfl) hz3 fun A9 c8 ch5 hO5 => P_some rfl (O_cons (O_read rfl (R_assign rfl (P_some rfl (O_nil ?_)))))
              have e_ := Option.some.inj h2132
              subst e_
              exact ⟨l6, A9, c8, ch5, rfl, SubFr.of ⟨rfl, rfl, rfl, rfl, trivial⟩, SegSub.sel _ [some 0] 4, (hO5), rfl⟩
            rintro fr2132 μ2132 L2132 hm2132 ⟨out3, A10, c9, ch6, ho2132, hF2132, hS2132, hO6, hu2132⟩
            subst ho2132
            subst hu2132
            refine hK2131 _ _ _ (WP.at hF2132 hS2132 (WP.region Tt_ok (O_cons (O_read rfl (R_move rfl (P_some rfl (O_cons (O_read rfl (R_add rfl rfl (P_some rfl (O_cons (O_read rfl (R_assign rfl ?_)))))))))))))
            refine P_some rfl (O_nil ?_)
            have e_ := Option.some.inj hb2126
            subst e_
            exact ⟨_, rfl, A10, c9, ch6, SubFr.of ⟨rfl, rfl, rfl, rfl, trivial⟩, SegSub.sel _ [some 0] 1, (hO6), rfl⟩
          replace hb2126 := cond_f hc3 hb2126
          refine WP.exit (B_here ?_)
          have e_ := Option.some.inj hb2126
          subst e_
          have hq_ := hq2126 _ rfl
          subst hq_
          exact ⟨out2, A3, c3, ch2, rfl, SubFr.of ⟨rfl, rfl, rfl, trivial⟩, SegSub.sel _ [some 0] 1, (hO2), rfl⟩
        rintro fr2094 μ2094 L2094 hm2094 ⟨out4, A11, c10, ch7, ho2094, hF2094, hS2094, hO7, hu2094⟩
        subst ho2094
        subst hu2094
        have e_ := Option.some.inj h2092
        subst e_
        exact ⟨out4, A11, c10, ch7, rfl, SubFr.trans (fr := [(0, .slice A1 l1.length c1), (3, .slice A11 out4.length c10), (4, .int .i64 i1)]) (SubFr.of ⟨rfl, rfl, rfl, trivial⟩) hF2094, SegSub.trans (M := (ch7 :: L)) (SegSub.sel _ [some 0] 1) hS2094, (hO7), rfl⟩
      rintro fr2092 μ2092 L2092 hm2092 ⟨out5, A12, c11, ch8, ho2092, hF2092, hS2092, hO8, hu2092⟩
      subst ho2092
      subst hu2092
      refine hK2091 _ _ _ (WP.at hF2092 hS2092 (WP.region Tt_ok (O_cons (O_read rfl (R_move rfl (P_some rfl (O_cons (O_read rfl (R_add rfl rfl (P_some rfl (O_cons (O_read rfl (R_assign rfl ?_)))))))))))))
      refine P_some rfl (O_nil ?_)
      have e_ := Option.some.inj hb2087
      subst e_
      exact ⟨_, rfl, A12, c11, ch8, SubFr.of ⟨rfl, rfl, rfl, trivial⟩, SegSub.sel _ [some 0] 1, (hO8), rfl⟩
    replace hb2087 := cond_f hc1 hb2087
    refine WP.exit (B_here ?_)
    have e_ := Option.some.inj hb2087
    subst e_
    have hq_ := hq2087 _ rfl
    subst hq_
    exact ⟨out1, A2, c2, ch1, rfl, SubFr.of ⟨rfl, trivial⟩, SegSub.sel _ [some 0] 1, (hO1), rfl⟩
  rintro fr2014 μ2014 L2014 hm2014 ⟨out6, A13, c12, ch9, ho2014, hF2014, hS2014, hO9, hu2014⟩
  subst ho2014
  subst hu2014
  refine hK2012 _ _ _ (WP.at hF2014 hS2014 (WP.seq_k (fun K2161 hK2161 => WP.region Tt_ok (O_cons (O_read rfl (R_move rfl (P_some rfl (O_cons (O_read rfl (R_assign rfl (P_some rfl (O_nil (hK2161 _ _ _ ?_)))))))))))))
  apply WP.ret
  have e_ := Option.some.inj h
  subst e_
  refine S_tmp rfl (S_nil (Upd.selS [some 0] 1 ?_))
  exact Upd.done (hR A13 c12 ch9 (hO9))

theorem recyclinglaw48_LedgerPosts_fn {μ : Gh} {L : List Seg} {R : Value → Gh → List Seg → Prop} {F : Nat} {l1 : (List T_api_Posting)} {A1 : Option Addr} {c1 : Nat} {res1 : Bool}
    (hl1 : l1.length ≤ c1 ∧ c1 ≤ maxLen) (hA1 : Rds r_api_Posting μ L A1 l1) (h : recyclinglaw48_LedgerPosts F l1 = some res1)
    (hR : ∀ (μ' : Gh) , μ.le μ' → R (.bool res1) μ' (L)) :
    Fn Try.prog 4 [.slice A1 l1.length c1] μ (L) R := by
  unfold recyclinglaw48_LedgerPosts at h
  refine Fn.of_body Tt_ok Try.func4 (by kernel_rfl) rfl Try.ntmps4 (by simp) ?_
  simp only [Try.f4, argFr, List.zipIdx, List.map, Nat.reduceAdd]
  refine WP.seq_k (fun K2169 hK2169 => WP.region Tt_ok (O_cons (O_read rfl (R_assign rfl (P_some rfl (O_nil (hK2169 _ _ _ (WP.seq_k (fun K2170 hK2170 => WP.seq_k (fun K2171 hK2171 => WP.region Tt_ok (O_cons (O_read rfl (R_move rfl ?_)))))))))))))
  refine P_some rfl (O_cons (O_call (all := [.slice A1 l1.length c1]) rfl rfl rfl ?_))
  obtain ⟨r1, hx1, h⟩ := obind h
  refine recyclinglaw48_great_fn hl1 hA1 hx1 ((P_some rfl (O_nil (hK2171 _ _ _ ?_))))
  refine W_cond_v (b := r1) rfl (fun hc1 => ?_) (fun hc1 => ?_)
  · replace h := cond_t hc1 h
    refine WP.seq_k (fun K2172 hK2172 => WP.region Tt_ok (O_cons (O_call (all := []) rfl rfl rfl ?_)))
    obtain ⟨r2, hx2, h⟩ := obind h
    refine recyclinglaw48_awake_fn  hx2 (fun v1 hm_1 => ?_)
    replace hA1 := hA1.mono hm_1
    refine P_some rfl (O_cons (O_read rfl (R_assign rfl (P_some rfl (O_nil (hK2172 _ _ _ (WP.ret ?_)))))))
    have e_ := Option.some.inj h
    subst e_
    refine S_tmp rfl (S_nil (Upd.selS [] 0 ?_))
    exact Upd.done (hR _ (hm_1))
  replace h := cond_f hc1 h
  refine WP.skip (hK2170 _ _ _ (WP.seq_k (fun K2173 hK2173 => WP.region Tt_ok (O_cons (O_call (all := []) rfl rfl rfl ?_)))))
  obtain ⟨r3, hx3, h⟩ := obind h
  refine ledger_New_fn  hx3 (fun pv1 so1 hP1 => P_some rfl (O_cons (O_read rfl (R_assign rfl (P_some rfl (O_nil (hK2173 _ _ _ (WP.seq_k (fun K2175 hK2175 => WP.seq_k (fun K2176 hK2176 => ?_))))))))))
  obtain ⟨g1, A2, c2, ch1, g2, es1, cn1, hv1, rfl, hO1, hM1⟩ := hP1
  subst hv1
  refine WP.seg (L2 := ([(g1, .cells #[.slice A2 r3.postings.length c2, .map (some g2)] 60 (0, 0))] :: ch1 :: [(g2, .map es1 cn1)] :: L)) (SegSub.flat (by simp)) (WP.region Tt_ok (O_cons (O_read rfl (R_move rfl (P_some rfl (O_cons (O_read rfl (R_eqP1 rfl rfl rfl rfl (P_some rfl (O_nil (hK2176 _ _ _ (W_cond_f rfl (WP.skip ?_)))))))))))))
  refine hK2175 _ _ _ (WP.seq_k (fun K2181 hK2181 => WP.region Tt_ok (O_cons (O_read rfl (R_assign rfl (P_some rfl (O_nil (hK2181 _ _ _ (WP.seq_k (fun K2184 hK2184 => WP.seq_k (fun K2185 hK2185 => WP.region Tt_ok (O_cons (O_read rfl ?_)))))))))))))
  refine R_assign rfl (P_some rfl (O_nil (hK2185 _ _ _ ?_)))
  have hP2 : Obj_ledger_Ledger μ (.pointer (some ⟨g1, 0, none⟩)) r3 ((g1, Obj.cells #[.slice A2 r3.postings.length c2, .map (some g2)] 60 (0, 0)) :: (ch1 ++ ((g2, Obj.map es1 cn1) :: []))) := ⟨g1, A2, c2, ch1, g2, es1, cn1, rfl, rfl, hO1, hM1⟩
  refine WP.seg (L2 := (((g1, Obj.cells #[.slice A2 r3.postings.length c2, .map (some g2)] 60 (0, 0)) :: (ch1 ++ ((g2, Obj.map es1 cn1) :: []))) :: L)) (SegSub.trans (SegSub.flat (by simp [selS])) (SegSub.sel _ [some 0, some 1, some 2] 3)) ?_
  obtain ⟨o2187, h2187, h⟩ := obind h
  refine WP.cutK (fun fr_ μ_ L_ => ∃ (q2 : T_ledger_Ledger) (f_have2 : (List T_api_Posting)) (so4 : Seg) (A7 : Option Addr) (c7 : Nat), (.inl (q2, f_have2)) = o2187 ∧ SubFr [(3, .pointer (some ⟨g1, 0, none⟩)), (4, .slice A7 f_have2.length c7)] fr_ ∧ SegSub (so4 :: L) L_ ∧ Obj_ledger_Ledger μ_ (.pointer (some ⟨g1, 0, none⟩)) q2 so4 ∧ (f_have2.length ≤ c7 ∧ c7 ≤ maxLen) ∧ ArrR r_api_Posting μ_ A7 f_have2) ?_ ?_
  · refine WP.block (WP.iter h2187 (fun (j_ : T_ledger_Ledger × (List T_api_Posting) × Int) fr_ μ_ L_ => ounP j_ fun q1 j_ => ounP j_ fun f_have1 i1 => ∃ (so2 : Seg) (A3 : Option Addr) (c3 : Nat), SubFr [(0, .slice A1 l1.length c1), (3, .pointer (some ⟨g1, 0, none⟩)), (4, .slice A3 f_have1.length c3), (5, .int .i64 i1)] fr_ ∧ SegSub (so2 :: L) L_ ∧ Obj_ledger_Ledger μ_ (.pointer (some ⟨g1, 0, none⟩)) q1 so2 ∧ (f_have1.length ≤ c3 ∧ c3 ≤ maxLen) ∧ ArrR r_api_Posting μ_ A3 f_have1) ⟨((g1, Obj.cells #[.slice A2 r3.postings.length c2, .map (some g2)] 60 (0, 0)) :: (ch1 ++ ((g2, Obj.map es1 cn1) :: []))), none, 0, SubFr.of ⟨rfl, rfl, rfl, rfl, trivial⟩, SegSub.sel _ [some 0] 1, (hP2), (⟨Nat.le_refl _, Nat.zero_le _⟩), (ArrR.nil)⟩ ?_)
    rintro ⟨q1, f_have1, i1⟩ q2205 fr2205 μ2205 L2205 hm2205 ⟨so2, A3, c3, hF2205, hS2205, hP3, hl2, hA2⟩ hb2205 hq2205
    unfold recyclinglaw48_LedgerPosts_l1 at hb2205
    replace hb2205 := oun_mk hb2205
    replace hb2205 := oun_mk hb2205
    replace hA1 := hA1.mono hm2205
    replace hO1 := hO1.mono hm2205
    replace hP2 := hP2.mono hm2205
    refine WP.at hF2205 hS2205 (WP.seq_k (fun K2210 hK2210 => WP.seq_k (fun K2211 hK2211 => WP.region Tt_ok (O_cons (O_read rfl (R_move rfl (P_some rfl (O_cons (O_read rfl (R_move rfl (P_some rfl (O_cons (O_read rfl ?_)))))))))))))
    refine R_lenS rfl rfl rfl (P_some rfl (O_cons (O_read rfl (R_lssD rfl rfl (P_some rfl (O_nil (hK2211 _ _ _ ?_)))))))
    refine W_cond_v (b := (decide (i1 < ((l1.length : Nat) : Int)))) rfl (fun hc2 => ?_) (fun hc2 => ?_)
    · replace hb2205 := cond_t hc2 hb2205
      refine WP.skip (hK2210 _ _ _ (WP.seq_k (fun K2212 hK2212 => WP.block (WP.seq_k (fun K2213 hK2213 => WP.region Tt_ok (O_cons (O_read rfl (R_move rfl (P_some rfl (O_cons (O_read rfl (R_move rfl (P_some rfl ?_)))))))))))))
      refine O_cons (O_read rfl (R_move rfl (P_some rfl (O_cons ?_))))
      obtain ⟨x1, hx4, hb2205⟩ := obind hb2205
      obtain ⟨a1, cs1, hA3, hr1, _, hc3⟩ := Rds.getI hA1 hx4
      obtain ⟨A4, c4, rfl, hl3, hA4⟩ := hr1
      refine O_read rfl (R_iaG rfl rfl rfl rfl rfl rfl ⟨(getI_lt hx4).1, (getI_lt hx4).2.1⟩ hA3 (P_some rfl (O_cons (O_read rfl (R_loadA rfl rfl rfl rfl (Ex.mk [.int .i64 x1.ID, .int .i64 x1.At, .slice A4 x1.Lines.length c4] ⟨rfl, (hc3.push)⟩ (P_some rfl (O_cons (O_call (all := [.pointer (some ⟨g1, 0, none⟩), .agg #[.int .i64 x1.ID, .int .i64 x1.At, .slice A4 x1.Lines.length c4]]) rfl rfl rfl ?_)))))))))
      obtain ⟨⟨r4, r5⟩, hx5, hb2205⟩ := obind hb2205
      replace hb2205 := oun_mk hb2205
      refine ledger_Ledger_Post_fn hP3 hl3 hA4 hx5 (fun v2 so3 hm_2 hP4 => ?_)
      replace hA1 := hA1.mono hm_2
      replace hO1 := hO1.mono hm_2
      replace hP2 := hP2.mono hm_2
      replace hP3 := hP3.mono hm_2
      replace hA2 := hA2.mono hm_2
      replace hA4 := hA4.mono hm_2
      replace hc3 := hc3.lift hm_2
      refine P_some rfl (O_cons (O_read rfl (R_assign rfl (P_some rfl (O_nil (hK2213 _ _ _ (WP.seq_k (fun K2218 hK2218 => WP.region Tt_ok (O_cons (O_read rfl (R_assign rfl (P_some rfl (O_nil ?_)))))))))))))
      refine hK2218 _ _ _ (WP.seq_k (fun K2219 hK2219 => WP.region Tt_ok (O_cons (O_read rfl (R_move rfl (P_some rfl (O_cons (O_read rfl (R_move rfl (P_some rfl (O_cons (O_read rfl (R_move rfl ?_)))))))))))))
      refine P_some rfl (O_cons ?_)
      obtain ⟨x2, hx6, hb2205⟩ := obind hb2205
      obtain ⟨a2, cs2, hA5, hr2, _, hc4⟩ := Rds.getI hA1 hx6
      obtain ⟨A5, c5, rfl, hl4, hA6⟩ := hr2
      refine O_read rfl (R_iaG rfl rfl rfl rfl rfl rfl ⟨(getI_lt hx6).1, (getI_lt hx6).2.1⟩ hA5 (P_some rfl (O_cons (O_read rfl (R_loadA rfl rfl rfl rfl (Ex.mk [.int .i64 x2.ID, .int .i64 x2.At, .slice A5 x2.Lines.length c5] ⟨rfl, (hc4.push)⟩ (P_some rfl (O_cons (O_call (all := [.slice A3 f_have1.length c3, .agg #[.int .i64 x2.ID, .int .i64 x2.At, .slice A5 x2.Lines.length c5]]) rfl rfl rfl ?_)))))))))
      obtain ⟨⟨r6, r7⟩, hx7, hb2205⟩ := obind hb2205
      replace hb2205 := oun_mk hb2205
      refine recyclingref48_Post_fn hl2 hA2 hl4 hA6 hx7 (fun v3 A6 c6 hm_3 hl5 hA7 => ?_)
      replace hA1 := hA1.mono hm_3
      replace hO1 := hO1.mono hm_3
      replace hP2 := hP2.mono hm_3
      replace hP3 := hP3.mono hm_3
      replace hA2 := hA2.mono hm_3
      replace hA4 := hA4.mono hm_3
      replace hc3 := hc3.lift hm_3
      replace hP4 := hP4.mono hm_3
      replace hA6 := hA6.mono hm_3
      replace hc4 := hc4.lift hm_3
      refine P_some rfl (O_cons (O_read rfl (R_move rfl (P_some rfl (O_cons (O_read rfl (R_ext rfl rfl (P_some rfl (O_cons (O_read rfl (R_ext rfl rfl (P_some rfl (O_cons ?_)))))))))))))
      refine O_read rfl (R_assign rfl (P_some rfl (O_cons (O_read rfl (R_assign rfl (P_some rfl (O_nil (hK2219 _ _ _ (WP.seq_k (fun K2224 hK2224 => WP.region Tt_ok (O_cons (O_read rfl (R_move rfl ?_)))))))))))))
      refine P_some rfl (O_cons (O_read rfl (R_move rfl (P_some rfl (O_cons (O_read rfl (R_neqD rfl rfl (P_some rfl (O_nil (hK2224 _ _ _ ?_))))))))))
      refine W_cond_v (b := !(decide (r4 = r7))) rfl (fun hc5 => ?_) (fun hc5 => ?_)
      · replace hb2205 := cond_t hc5 hb2205
        refine WP.seq_k (fun K2225 hK2225 => WP.region Tt_ok (O_cons (O_read rfl (R_assign rfl (P_some rfl (O_nil (hK2225 _ _ _ (WP.ret ?_))))))))
        have e_ := Option.some.inj hb2205
        subst e_
        have hq_ := hq2205 _ rfl
        subst hq_
        replace h := osum_r h
        have e_ := Option.some.inj h
        subst e_
        refine S_tmp rfl (S_nil (Upd.selS [] 1 ?_))
        exact Upd.done (hR _ (Gh.le.trans hm2205 (Gh.le.trans hm_2 (hm_3))))
      replace hb2205 := cond_f hc5 hb2205
      refine WP.skip (hK2212 _ _ _ (WP.region Tt_ok (O_cons (O_read rfl (R_move rfl (P_some rfl (O_cons (O_read rfl (R_add rfl rfl (P_some rfl (O_cons (O_read rfl (R_assign rfl ?_)))))))))))))
      refine P_some rfl (O_nil ?_)
      have e_ := Option.some.inj hb2205
      subst e_
      exact ⟨_, rfl, so3, A6, c6, SubFr.of ⟨rfl, rfl, rfl, rfl, trivial⟩, SegSub.sel _ [some 0] 1, (hP4), (hl5), (hA7)⟩
    replace hb2205 := cond_f hc2 hb2205
    refine WP.exit (B_here ?_)
    have e_ := Option.some.inj hb2205
    subst e_
    have hq_ := hq2205 _ rfl
    subst hq_
    exact ⟨q1, f_have1, so2, A3, c3, rfl, SubFr.of ⟨rfl, rfl, trivial⟩, SegSub.sel _ [some 0] 1, (hP3), (hl2), (hA2)⟩
  rintro fr2187 μ2187 L2187 hm2187 ⟨q2, f_have2, so4, A7, c7, ho2187, hF2187, hS2187, hP5, hl6, hA8⟩
  subst ho2187
  replace h := osum_l h
  replace h := oun_mk h
  replace hA1 := hA1.mono hm2187
  replace hO1 := hO1.mono hm2187
  replace hP2 := hP2.mono hm2187
  refine hK2184 _ _ _ (WP.at hF2187 hS2187 (WP.seq_k (fun K2228 hK2228 => ?_)))
  obtain ⟨o2229, h2229, h⟩ := obind h
  refine WP.cutK (fun fr_ μ_ L_ => ∃ (v6 : Bool), v6 = o2229 ∧ SubFr [(2, .bool v6)] fr_ ∧ SegSub (L) L_) ?_ ?_
  · refine WP.region Tt_ok (O_cons (O_read rfl (R_move rfl (P_some rfl (O_cons (O_call (all := [.pointer (some ⟨g1, 0, none⟩)]) rfl rfl rfl ?_))))))
    obtain ⟨⟨r8, r9⟩, hx8, h2229⟩ := obind h2229
    replace h2229 := oun_mk h2229
    refine ledger_Ledger_Postings_fn hP5 hx8 (fun v4 A8 c8 ch2 so5 hm_4 hO2 hP6 => ?_)
    replace hA1 := hA1.mono hm_4
    replace hO1 := hO1.mono hm_4
    replace hP2 := hP2.mono hm_4
    replace hP5 := hP5.mono hm_4
    replace hA8 := hA8.mono hm_4
    refine P_some rfl (O_cons (O_read rfl (R_move rfl (P_some rfl (O_cons (O_call (all := [.slice A8 r8.length c8, .slice A7 f_have2.length c7]) rfl rfl rfl ?_))))))
    obtain ⟨r10, hx9, h2229⟩ := obind h2229
    refine recyclingref48_Same_fn (Own.lenOk hO2) (Own.rds (L := (ch2 :: so5 :: L)) hO2 0 rfl) hl6 (ArrR.rds hA8 (ch2 :: so5 :: L)) hx9 ((P_some rfl (O_cons (O_read rfl (R_move rfl (P_some rfl ?_))))))
    refine O_gv (z := r10) rfl rfl (fun hc6 => ?_) (fun hc6 => ?_)
    · replace h2229 := cond_t hc6 h2229
      refine O_read rfl (R_move rfl (P_some rfl (O_gY rfl rfl hc6 (O_call (all := [.pointer (some ⟨g1, 0, none⟩)]) rfl rfl rfl (Fn.seg (L2 := (so5 :: ch2 :: L)) (SegSub.sel _ [some 1, some 0] 2) ?_)))))
      obtain ⟨⟨r11, r12⟩, hx10, h2229⟩ := obind h2229
      replace h2229 := oun_mk h2229
      refine ledger_Ledger_Accounts_fn hP6 hx10 (fun A9 c9 ch3 so6 hO3 hP7 => P_some rfl (O_gY rfl rfl hc6 (O_read rfl (R_move rfl (P_some rfl (O_gY rfl rfl hc6 (O_call (all := [.slice A7 f_have2.length c7]) rfl rfl rfl ?_)))))))
      obtain ⟨r13, hx11, h2229⟩ := obind h2229
      refine recyclingref48_Accounts_fn hl6 (ArrR.rds hA8 (ch3 :: so6 :: ch2 :: L)) hx11 (fun A10 c10 ch4 hO4 => P_some rfl (O_gY rfl rfl hc6 (O_call (all := [.slice A9 r11.length c9, .slice A10 r13.length c10]) rfl rfl rfl ?_)))
      obtain ⟨r14, hx12, h2229⟩ := obind h2229
      refine recyclingref48_SameInts_fn (Own.lenOk hO3) (Own.rds (L := (ch4 :: ch3 :: so6 :: ch2 :: L)) hO3 1 rfl) (Own.lenOk hO4) (Own.rds (L := (ch4 :: ch3 :: so6 :: ch2 :: L)) hO4 0 rfl) hx12 ((P_some rfl (O_cons (O_read rfl (R_pick_T rfl hc6 rfl (P_some rfl (O_cons (O_read rfl (R_move rfl (P_some rfl ?_))))))))))
      refine O_gv (z := r14) rfl rfl (fun hc7 => ?_) (fun hc7 => ?_)
      · replace h2229 := cond_t hc7 h2229
        apply O_call (all := []); exact rfl; exact rfl; exact rfl
        obtain ⟨r15, hx13, h2229⟩ := obind h2229
        refine recyclinglaw48_awake_fn  hx13 (fun v5 hm_5 => ?_)
        replace hA1 := hA1.mono hm_5
        replace hO1 := hO1.mono hm_5
        replace hP2 := hP2.mono hm_5
        replace hP5 := hP5.mono hm_5
        replace hA8 := hA8.mono hm_5
        replace hO2 := hO2.mono hm_5
        replace hP6 := hP6.mono hm_5
        replace hO3 := hO3.mono hm_5
        replace hP7 := hP7.mono hm_5
        replace hO4 := hO4.mono hm_5
        refine P_some rfl (O_cons (O_read rfl (R_pick_T rfl hc7 rfl (P_some rfl (O_cons (O_read rfl (R_assign rfl (P_some rfl (O_nil ?_)))))))))
        have e_ := Option.some.inj h2229
        subst e_
        exact ⟨r15, rfl, SubFr.of ⟨rfl, trivial⟩, SegSub.sel _ [] 4⟩
      replace h2229 := cond_f hc7 h2229
      refine P_some rfl (O_cons (O_read rfl (R_pick_F rfl hc7 rfl (P_some rfl (O_cons (O_read rfl (R_assign rfl (P_some rfl (O_nil ?_)))))))))
      have e_ := Option.some.inj h2229
      subst e_
      exact ⟨false, rfl, SubFr.of ⟨rfl, trivial⟩, SegSub.sel _ [] 4⟩
    replace h2229 := cond_f hc6 h2229
    refine P_some rfl (O_gN rfl rfl hc6 (P_some rfl (O_gN rfl rfl hc6 (P_some rfl (O_gN rfl rfl hc6 (P_some rfl (O_gN rfl rfl hc6 (P_some rfl (O_cons (O_read rfl (R_pick_F rfl hc6 rfl (P_some rfl (O_cons ?_)))))))))))))
    refine O_read rfl (R_move rfl (P_some rfl (O_gN rfl rfl rfl (P_some rfl (O_cons (O_read rfl (R_pick_F rfl rfl rfl (P_some rfl (O_cons (O_read rfl (R_assign rfl (P_some rfl (O_nil ?_)))))))))))))
    have e_ := Option.some.inj h2229
    subst e_
    exact ⟨false, rfl, SubFr.of ⟨rfl, trivial⟩, SegSub.sel _ [] 2⟩
  rintro fr2229 μ2229 L2229 hm2229 ⟨v6, ho2229, hF2229, hS2229⟩
  subst ho2229
  replace hA1 := hA1.mono hm2229
  replace hO1 := hO1.mono hm2229
  replace hP2 := hP2.mono hm2229
  replace hP5 := hP5.mono hm2229
  replace hA8 := hA8.mono hm2229
  refine hK2228 _ _ _ (WP.at hF2229 hS2229 (WP.ret ?_))
  have e_ := Option.some.inj h
  subst e_
  refine S_tmp rfl (S_nil (Upd.selS [] 0 ?_))
  exact Upd.done (hR _ (Gh.le.trans hm2187 (hm2229)))

theorem recyclinglaw48_filled_fn {μ : Gh} {L : List Seg} {R : Value → Gh → List Seg → Prop} {F : Nat} {l1 : (List T_api_Posting)} {A1 : Option Addr} {c1 : Nat} {res1 : T_ledger_Ledger} {res2 : (List T_api_Posting)}
    (hl1 : l1.length ≤ c1 ∧ c1 ≤ maxLen) (hA1 : Rds r_api_Posting μ L A1 l1) (h : recyclinglaw48_filled F l1 = some (res1, res2))
    (hR : ∀ (μ' : Gh) (v0 : Value) (so0 : Seg) (A1_0 : Option Addr) (c1_0 : Nat), μ.le μ' → Obj_ledger_Ledger μ' v0 res1 so0 → (res2.length ≤ c1_0 ∧ c1_0 ≤ maxLen) → ArrR r_api_Posting μ' A1_0 res2 → R (.tuple #[v0, .slice A1_0 res2.length c1_0]) μ' (so0 :: L)) :
    Fn Try.prog 23 [.slice A1 l1.length c1] μ (L) R := by
  unfold recyclinglaw48_filled at h
  refine Fn.of_body Tt_ok Try.func23 (by kernel_rfl) rfl Try.ntmps23 (by simp) ?_
  simp only [Try.f23, argFr, List.zipIdx, List.map, Nat.reduceAdd]
  refine WP.seq_k (fun K2294 hK2294 => WP.region Tt_ok (O_cons (O_read rfl (R_assign rfl (P_some rfl (O_cons (O_read rfl (R_assign rfl (P_some rfl (O_nil (hK2294 _ _ _ (WP.seq_k (fun K2297 hK2297 => WP.region Tt_ok ?_)))))))))))))
  refine O_cons (O_call (all := []) rfl rfl rfl ?_)
  obtain ⟨r1, hx1, h⟩ := obind h
  refine ledger_New_fn  hx1 (fun pv1 so1 hP1 => P_some rfl (O_cons (O_read rfl (R_assign rfl (P_some rfl (O_nil (hK2297 _ _ _ (WP.seq_k (fun K2299 hK2299 => WP.region Tt_ok (O_cons (O_read rfl (R_assign rfl (P_some rfl ?_)))))))))))))
  refine O_nil (hK2299 _ _ _ (WP.seq_k (fun K2304 hK2304 => WP.seq_k (fun K2305 hK2305 => WP.region Tt_ok (O_cons (O_read rfl (R_assign rfl (P_some rfl (O_nil (hK2305 _ _ _ ?_))))))))))
  obtain ⟨o2306, h2306, h⟩ := obind h
  refine WP.cutK (fun fr_ μ_ L_ => ∃ (q2 : T_ledger_Ledger) (f_have2 : (List T_api_Posting)) (so4 : Seg) (A6 : Option Addr) (c6 : Nat), (q2, f_have2) = o2306 ∧ SubFr [(4, pv1), (5, .slice A6 f_have2.length c6)] fr_ ∧ SegSub (so4 :: L) L_ ∧ Obj_ledger_Ledger μ_ pv1 q2 so4 ∧ (f_have2.length ≤ c6 ∧ c6 ≤ maxLen) ∧ ArrR r_api_Posting μ_ A6 f_have2) ?_ ?_
  · refine WP.block (WP.iter h2306 (fun (j_ : T_ledger_Ledger × (List T_api_Posting) × Int) fr_ μ_ L_ => ounP j_ fun q1 j_ => ounP j_ fun f_have1 i1 => ∃ (so2 : Seg) (A2 : Option Addr) (c2 : Nat), SubFr [(0, .slice A1 l1.length c1), (4, pv1), (5, .slice A2 f_have1.length c2), (6, .int .i64 i1)] fr_ ∧ SegSub (so2 :: L) L_ ∧ Obj_ledger_Ledger μ_ pv1 q1 so2 ∧ (f_have1.length ≤ c2 ∧ c2 ≤ maxLen) ∧ ArrR r_api_Posting μ_ A2 f_have1) ⟨so1, none, 0, SubFr.of ⟨rfl, rfl, rfl, rfl, trivial⟩, SegSub.sel _ [some 0] 1, (hP1), (⟨Nat.le_refl _, Nat.zero_le _⟩), (ArrR.nil)⟩ ?_)
    rintro ⟨q1, f_have1, i1⟩ q2320 fr2320 μ2320 L2320 hm2320 ⟨so2, A2, c2, hF2320, hS2320, hP2, hl2, hA2⟩ hb2320 hq2320
    unfold recyclinglaw48_filled_l1 at hb2320
    replace hb2320 := oun_mk hb2320
    replace hb2320 := oun_mk hb2320
    replace hA1 := hA1.mono hm2320
    replace hP1 := hP1.mono hm2320
    refine WP.at hF2320 hS2320 (WP.seq_k (fun K2325 hK2325 => WP.seq_k (fun K2326 hK2326 => WP.region Tt_ok (O_cons (O_read rfl (R_move rfl (P_some rfl (O_cons (O_read rfl (R_move rfl (P_some rfl (O_cons (O_read rfl ?_)))))))))))))
    refine R_lenS rfl rfl rfl (P_some rfl (O_cons (O_read rfl (R_lssD rfl rfl (P_some rfl (O_nil (hK2326 _ _ _ ?_)))))))
    refine W_cond_v (b := (decide (i1 < ((l1.length : Nat) : Int)))) rfl (fun hc1 => ?_) (fun hc1 => ?_)
    · replace hb2320 := cond_t hc1 hb2320
      refine WP.skip (hK2325 _ _ _ (WP.seq_k (fun K2327 hK2327 => WP.block (WP.seq_k (fun K2328 hK2328 => WP.region Tt_ok (O_cons (O_read rfl (R_move rfl (P_some rfl (O_cons (O_read rfl (R_move rfl (P_some rfl ?_)))))))))))))
      refine O_cons (O_read rfl (R_move rfl (P_some rfl (O_cons ?_))))
      obtain ⟨x1, hx2, hb2320⟩ := obind hb2320
      obtain ⟨a1, cs1, hA3, hr1, _, hc2⟩ := Rds.getI hA1 hx2
      obtain ⟨A3, c3, rfl, hl3, hA4⟩ := hr1
      refine O_read rfl (R_iaG rfl rfl rfl rfl rfl rfl ⟨(getI_lt hx2).1, (getI_lt hx2).2.1⟩ hA3 (P_some rfl (O_cons (O_read rfl (R_loadA rfl rfl rfl rfl (Ex.mk [.int .i64 x1.ID, .int .i64 x1.At, .slice A3 x1.Lines.length c3] ⟨rfl, (hc2.push)⟩ (P_some rfl (O_cons (O_call (all := [pv1, .agg #[.int .i64 x1.ID, .int .i64 x1.At, .slice A3 x1.Lines.length c3]]) rfl rfl rfl ?_)))))))))
      obtain ⟨⟨r2, r3⟩, hx3, hb2320⟩ := obind hb2320
      replace hb2320 := oun_mk hb2320
      refine ledger_Ledger_Post_fn hP2 hl3 hA4 hx3 (fun v1 so3 hm_1 hP3 => ?_)
      replace hA1 := hA1.mono hm_1
      replace hP1 := hP1.mono hm_1
      replace hP2 := hP2.mono hm_1
      replace hA2 := hA2.mono hm_1
      replace hA4 := hA4.mono hm_1
      replace hc2 := hc2.lift hm_1
      refine P_some rfl (O_nil (hK2328 _ _ _ (WP.region Tt_ok (O_cons (O_read rfl (R_move rfl (P_some rfl (O_cons (O_read rfl (R_move rfl (P_some rfl (O_cons (O_read rfl ?_)))))))))))))
      refine R_move rfl (P_some rfl (O_cons ?_))
      obtain ⟨x2, hx4, hb2320⟩ := obind hb2320
      obtain ⟨a2, cs2, hA5, hr2, _, hc3⟩ := Rds.getI hA1 hx4
      obtain ⟨A4, c4, rfl, hl4, hA6⟩ := hr2
      refine O_read rfl (R_iaG rfl rfl rfl rfl rfl rfl ⟨(getI_lt hx4).1, (getI_lt hx4).2.1⟩ hA5 (P_some rfl (O_cons (O_read rfl (R_loadA rfl rfl rfl rfl (Ex.mk [.int .i64 x2.ID, .int .i64 x2.At, .slice A4 x2.Lines.length c4] ⟨rfl, (hc3.push)⟩ (P_some rfl (O_cons (O_call (all := [.slice A2 f_have1.length c2, .agg #[.int .i64 x2.ID, .int .i64 x2.At, .slice A4 x2.Lines.length c4]]) rfl rfl rfl ?_)))))))))
      obtain ⟨⟨r4, r5⟩, hx5, hb2320⟩ := obind hb2320
      replace hb2320 := oun_mk hb2320
      refine recyclingref48_Post_fn hl2 hA2 hl4 hA6 hx5 (fun v2 A5 c5 hm_2 hl5 hA7 => ?_)
      replace hA1 := hA1.mono hm_2
      replace hP1 := hP1.mono hm_2
      replace hP2 := hP2.mono hm_2
      replace hA2 := hA2.mono hm_2
      replace hA4 := hA4.mono hm_2
      replace hc2 := hc2.lift hm_2
      replace hP3 := hP3.mono hm_2
      replace hA6 := hA6.mono hm_2
      replace hc3 := hc3.lift hm_2
      refine P_some rfl (O_cons (O_read rfl (R_move rfl (P_some rfl (O_cons (O_read rfl (R_ext rfl rfl (P_some rfl (O_cons (O_read rfl (R_ext rfl rfl (P_some rfl (O_cons ?_)))))))))))))
      refine O_read rfl (R_assign rfl (P_some rfl (O_nil (hK2327 _ _ _ (WP.region Tt_ok (O_cons (O_read rfl (R_move rfl (P_some rfl (O_cons (O_read rfl (R_add rfl rfl (P_some rfl ?_)))))))))))))
      refine O_cons (O_read rfl (R_assign rfl (P_some rfl (O_nil ?_))))
      have e_ := Option.some.inj hb2320
      subst e_
      exact ⟨_, rfl, so3, A5, c5, SubFr.of ⟨rfl, rfl, rfl, rfl, trivial⟩, SegSub.sel _ [some 0] 1, (hP3), (hl5), (hA7)⟩
    replace hb2320 := cond_f hc1 hb2320
    refine WP.exit (B_here ?_)
    have e_ := Option.some.inj hb2320
    subst e_
    have hq_ := hq2320 _ rfl
    subst hq_
    exact ⟨q1, f_have1, so2, A2, c2, rfl, SubFr.of ⟨rfl, rfl, trivial⟩, SegSub.sel _ [some 0] 1, (hP2), (hl2), (hA2)⟩
  rintro fr2306 μ2306 L2306 hm2306 ⟨q2, f_have2, so4, A6, c6, ho2306, hF2306, hS2306, hP4, hl6, hA8⟩
  subst ho2306
  replace h := oun_mk h
  replace hA1 := hA1.mono hm2306
  replace hP1 := hP1.mono hm2306
  refine hK2304 _ _ _ (WP.at hF2306 hS2306 (WP.seq_k (fun K2339 hK2339 => WP.region Tt_ok (O_cons (O_read rfl (R_move rfl (P_some rfl (O_cons (O_read rfl (R_move rfl (P_some rfl (O_cons (O_read rfl ?_)))))))))))))
  refine R_assign rfl (P_some rfl (O_cons (O_read rfl (R_assign rfl (P_some rfl (O_nil (hK2339 _ _ _ (WP.ret ?_))))))))
  have e_ := Option.some.inj h
  obtain ⟨e0a_, e0b_⟩ := Prod.mk.inj e_
  clear e_
  subst e0a_
  subst e0b_
  refine S_tmp rfl (S_tmp rfl (S_nil (Upd.selS [some 0] 1 ?_)))
  exact Upd.done (hR _ pv1 so4 A6 c6 (hm2306) (hP4) (hl6) (hA8))

theorem recyclinglaw48_LedgerBalances_fn {μ : Gh} {L : List Seg} {R : Value → Gh → List Seg → Prop} {F : Nat} {l1 : (List T_api_Posting)} {account1 : Int} {t1 : Int} {A1 : Option Addr} {c1 : Nat} {res1 : Bool}
    (hl1 : l1.length ≤ c1 ∧ c1 ≤ maxLen) (hA1 : Rds r_api_Posting μ L A1 l1) (h : recyclinglaw48_LedgerBalances F l1 account1 t1 = some res1)
    (hR : ∀ (μ' : Gh) , μ.le μ' → R (.bool res1) μ' (L)) :
    Fn Try.prog 5 [.slice A1 l1.length c1, .int .i64 account1, .int .i64 t1] μ (L) R := by
  unfold recyclinglaw48_LedgerBalances at h
  refine Fn.of_body Tt_ok Try.func5 (by kernel_rfl) rfl Try.ntmps5 (by simp) ?_
  simp only [Try.f5, argFr, List.zipIdx, List.map, Nat.reduceAdd]
  refine WP.seq_k (fun K2349 hK2349 => WP.region Tt_ok (O_cons (O_read rfl (R_assign rfl (P_some rfl (O_nil (hK2349 _ _ _ (WP.seq_k (fun K2350 hK2350 => WP.seq_k (fun K2351 hK2351 => WP.region Tt_ok (O_cons (O_read rfl (R_move rfl ?_)))))))))))))
  refine P_some rfl (O_cons (O_call (all := [.slice A1 l1.length c1]) rfl rfl rfl ?_))
  obtain ⟨r1, hx1, h⟩ := obind h
  refine recyclinglaw48_great_fn hl1 hA1 hx1 ((P_some rfl (O_nil (hK2351 _ _ _ ?_))))
  refine W_cond_v (b := r1) rfl (fun hc1 => ?_) (fun hc1 => ?_)
  · replace h := cond_t hc1 h
    refine WP.seq_k (fun K2352 hK2352 => WP.region Tt_ok (O_cons (O_call (all := []) rfl rfl rfl ?_)))
    obtain ⟨r2, hx2, h⟩ := obind h
    refine recyclinglaw48_awake_fn  hx2 (fun v1 hm_1 => ?_)
    replace hA1 := hA1.mono hm_1
    refine P_some rfl (O_cons (O_read rfl (R_assign rfl (P_some rfl (O_nil (hK2352 _ _ _ (WP.ret ?_)))))))
    have e_ := Option.some.inj h
    subst e_
    refine S_tmp rfl (S_nil (Upd.selS [] 0 ?_))
    exact Upd.done (hR _ (hm_1))
  replace h := cond_f hc1 h
  refine WP.skip (hK2350 _ _ _ (WP.seq_k (fun K2353 hK2353 => WP.region Tt_ok (O_cons (O_read rfl (R_move rfl (P_some rfl (O_cons (O_call (all := [.slice A1 l1.length c1]) rfl rfl rfl ?_)))))))))
  obtain ⟨⟨r3, r4⟩, hx3, h⟩ := obind h
  replace h := oun_mk h
  refine recyclinglaw48_filled_fn hl1 hA1 hx3 (fun v2 pv1 so1 A2 c2 hm_2 hP1 hl2 hA2 => ?_)
  replace hA1 := hA1.mono hm_2
  refine P_some rfl (O_cons (O_read rfl (R_move rfl (P_some rfl (O_cons (O_read rfl (R_ext rfl rfl (P_some rfl (O_cons (O_read rfl (R_ext rfl rfl (P_some rfl (O_cons ?_)))))))))))))
  refine O_read rfl (R_assign rfl (P_some rfl (O_cons (O_read rfl (R_assign rfl (P_some rfl (O_nil (hK2353 _ _ _ (WP.seq_k (fun K2356 hK2356 => ?_))))))))))
  obtain ⟨o2357, h2357, h⟩ := obind h
  refine WP.cutK (fun fr_ μ_ L_ => ∃ (v4 : Bool), v4 = o2357 ∧ SubFr [(6, .bool v4)] fr_ ∧ SegSub (L) L_) ?_ ?_
  · refine WP.region Tt_ok (O_cons (O_read rfl (R_move rfl (P_some rfl (O_cons (O_read rfl (R_move rfl (P_some rfl (O_cons (O_call (all := [pv1, .int .i64 account1]) rfl rfl rfl ?_))))))))))
    obtain ⟨⟨r5, r6⟩, hx4, h2357⟩ := obind h2357
    replace h2357 := oun_mk h2357
    refine ledger_Ledger_Balance_fn hP1 hx4 (fun so2 hP2 => P_some rfl (O_cons (O_read rfl (R_move rfl (P_some rfl (O_cons (O_read rfl (R_move rfl (P_some rfl (O_cons (O_call (all := [.slice A2 r4.length c2, .int .i64 account1, .int .i64 3155759999]) rfl rfl rfl ?_)))))))))))
    obtain ⟨r7, hx5, h2357⟩ := obind h2357
    refine recyclingref48_Balance_fn hl2 (ArrR.rds hA2 (so2 :: L)) hx5 ((P_some rfl (O_cons (O_read rfl (R_eqlD rfl rfl (P_some rfl (O_cons (O_read rfl (R_move rfl (P_some rfl ?_))))))))))
    refine O_gv (z := (decide (r5 = r7))) rfl rfl (fun hc2 => ?_) (fun hc2 => ?_)
    · replace h2357 := cond_t hc2 h2357
      refine O_read rfl (R_move rfl (P_some rfl (O_gY rfl rfl hc2 (O_read rfl (R_move rfl (P_some rfl (O_gY rfl rfl hc2 (O_read rfl (R_move rfl (P_some rfl (O_gY rfl rfl hc2 (O_call (all := [pv1, .int .i64 account1, .int .i64 t1]) rfl rfl rfl ?_))))))))))))
      obtain ⟨⟨r8, r9⟩, hx6, h2357⟩ := obind h2357
      replace h2357 := oun_mk h2357
      refine ledger_Ledger_At_fn hP2 hx6 (fun so3 hP3 => P_some rfl (O_gY rfl rfl hc2 (O_read rfl (R_move rfl (P_some rfl (O_gY rfl rfl hc2 (O_read rfl (R_move rfl (P_some rfl (O_gY rfl rfl hc2 (O_read rfl (R_move rfl (P_some rfl ?_)))))))))))))
      refine O_gY rfl rfl hc2 (O_call (all := [.slice A2 r4.length c2, .int .i64 account1, .int .i64 t1]) rfl rfl rfl ?_)
      obtain ⟨r10, hx7, h2357⟩ := obind h2357
      refine recyclingref48_Balance_fn hl2 (ArrR.rds hA2 (so3 :: L)) hx7 ((P_some rfl (O_gY rfl rfl hc2 (O_read rfl (R_eqlD rfl rfl (P_some rfl (O_cons (O_read rfl (R_pick_T rfl hc2 rfl (P_some rfl (O_cons (O_read rfl (R_move rfl (P_some rfl ?_))))))))))))))
      refine O_gv (z := (decide (r8 = r10))) rfl rfl (fun hc3 => ?_) (fun hc3 => ?_)
      · replace h2357 := cond_t hc3 h2357
        apply O_call (all := []); exact rfl; exact rfl; exact rfl
        obtain ⟨r11, hx8, h2357⟩ := obind h2357
        refine recyclinglaw48_awake_fn  hx8 (fun v3 hm_3 => ?_)
        replace hA1 := hA1.mono hm_3
        replace hP1 := hP1.mono hm_3
        replace hA2 := hA2.mono hm_3
        replace hP2 := hP2.mono hm_3
        replace hP3 := hP3.mono hm_3
        refine P_some rfl (O_cons (O_read rfl (R_pick_T rfl hc3 rfl (P_some rfl (O_cons (O_read rfl (R_assign rfl (P_some rfl (O_nil ?_)))))))))
        have e_ := Option.some.inj h2357
        subst e_
        exact ⟨r11, rfl, SubFr.of ⟨rfl, trivial⟩, SegSub.sel _ [] 1⟩
      replace h2357 := cond_f hc3 h2357
      refine P_some rfl (O_cons (O_read rfl (R_pick_F rfl hc3 rfl (P_some rfl (O_cons (O_read rfl (R_assign rfl (P_some rfl (O_nil ?_)))))))))
      have e_ := Option.some.inj h2357
      subst e_
      exact ⟨false, rfl, SubFr.of ⟨rfl, trivial⟩, SegSub.sel _ [] 1⟩
    replace h2357 := cond_f hc2 h2357
    refine P_some rfl (O_gN rfl rfl hc2 (P_some rfl (O_gN rfl rfl hc2 (P_some rfl (O_gN rfl rfl hc2 (P_some rfl (O_gN rfl rfl hc2 (P_some rfl (O_gN rfl rfl hc2 (P_some rfl (O_gN rfl rfl hc2 (P_some rfl (O_gN rfl rfl hc2 ?_)))))))))))))
    refine P_some rfl (O_gN rfl rfl hc2 (P_some rfl (O_cons (O_read rfl (R_pick_F rfl hc2 rfl (P_some rfl (O_cons (O_read rfl (R_move rfl (P_some rfl (O_gN rfl rfl rfl (P_some rfl (O_cons ?_)))))))))))))
    refine O_read rfl (R_pick_F rfl rfl rfl (P_some rfl (O_cons (O_read rfl (R_assign rfl (P_some rfl (O_nil ?_)))))))
    have e_ := Option.some.inj h2357
    subst e_
    exact ⟨false, rfl, SubFr.of ⟨rfl, trivial⟩, SegSub.sel _ [] 1⟩
  rintro fr2357 μ2357 L2357 hm2357 ⟨v4, ho2357, hF2357, hS2357⟩
  subst ho2357
  replace hA1 := hA1.mono hm2357
  replace hP1 := hP1.mono hm2357
  replace hA2 := hA2.mono hm2357
  refine hK2356 _ _ _ (WP.at hF2357 hS2357 (WP.ret ?_))
  have e_ := Option.some.inj h
  subst e_
  refine S_tmp rfl (S_nil (Upd.selS [] 0 ?_))
  exact Upd.done (hR _ (Gh.le.trans hm_2 (hm2357)))

theorem recyclinglaw48_LedgerZero_fn {μ : Gh} {L : List Seg} {R : Value → Gh → List Seg → Prop}  {l1 : (List T_api_Posting)} {t1 : Int} {A1 : Option Addr} {c1 : Nat} {res1 : Bool}
    (hl1 : l1.length ≤ c1 ∧ c1 ≤ maxLen) (hA1 : Rds r_api_Posting μ L A1 l1) (h : recyclinglaw48_LedgerZero l1 t1 = some res1)
    (hR : ∀ (μ' : Gh) , μ.le μ' → R (.bool res1) μ' (L)) :
    Fn Try.prog 6 [.slice A1 l1.length c1, .int .i64 t1] μ (L) R := by
  unfold recyclinglaw48_LedgerZero at h
  refine Fn.of_body Tt_ok Try.func6 (by kernel_rfl) rfl Try.ntmps6 (by simp) ?_
  simp only [Try.f6, argFr, List.zipIdx, List.map, Nat.reduceAdd]
  refine WP.seq_k (fun K2433 hK2433 => WP.region Tt_ok (O_cons (O_read rfl (R_assign rfl (P_some rfl (O_nil (hK2433 _ _ _ (WP.seq_k (fun K2434 hK2434 => WP.seq_k (fun K2435 hK2435 => WP.region Tt_ok (O_cons (O_read rfl (R_move rfl ?_)))))))))))))
  refine P_some rfl (O_cons (O_call (all := [.slice A1 l1.length c1]) rfl rfl rfl ?_))
  obtain ⟨r1, hx1, h⟩ := obind h
  refine recyclinglaw48_great_fn hl1 hA1 hx1 ((P_some rfl (O_nil (hK2435 _ _ _ ?_))))
  refine W_cond_v (b := r1) rfl (fun hc1 => ?_) (fun hc1 => ?_)
  · replace h := cond_t hc1 h
    refine WP.seq_k (fun K2436 hK2436 => WP.region Tt_ok (O_cons (O_call (all := []) rfl rfl rfl ?_)))
    obtain ⟨r2, hx2, h⟩ := obind h
    refine recyclinglaw48_awake_fn  hx2 (fun v1 hm_1 => ?_)
    replace hA1 := hA1.mono hm_1
    refine P_some rfl (O_cons (O_read rfl (R_assign rfl (P_some rfl (O_nil (hK2436 _ _ _ (WP.ret ?_)))))))
    have e_ := Option.some.inj h
    subst e_
    refine S_tmp rfl (S_nil (Upd.selS [] 0 ?_))
    exact Upd.done (hR _ (hm_1))
  replace h := cond_f hc1 h
  refine WP.skip (hK2434 _ _ _ (WP.seq_k (fun K2437 hK2437 => WP.region Tt_ok (O_cons (O_call (all := []) rfl rfl rfl ?_)))))
  obtain ⟨r3, hx3, h⟩ := obind h
  refine ledger_New_fn  hx3 (fun pv1 so1 hP1 => P_some rfl (O_cons (O_read rfl (R_assign rfl (P_some rfl (O_nil (hK2437 _ _ _ (WP.seq_k (fun K2439 hK2439 => WP.seq_k (fun K2440 hK2440 => WP.region Tt_ok (O_cons (O_read rfl (R_assign rfl ?_)))))))))))))
  refine P_some rfl (O_nil (hK2440 _ _ _ ?_))
  obtain ⟨o2441, h2441, h⟩ := obind h
  refine WP.cutK (fun fr_ μ_ L_ => ∃ (q2 : T_ledger_Ledger) (so4 : Seg), q2 = o2441 ∧ SubFr [(1, .int .i64 t1), (5, pv1)] fr_ ∧ SegSub (so4 :: L) L_ ∧ Obj_ledger_Ledger μ_ pv1 q2 so4) ?_ ?_
  · refine WP.block (WP.iter h2441 (fun (j_ : T_ledger_Ledger × Int) fr_ μ_ L_ => ounP j_ fun q1 i1 => ∃ (so2 : Seg), SubFr [(0, .slice A1 l1.length c1), (1, .int .i64 t1), (5, pv1), (6, .int .i64 i1)] fr_ ∧ SegSub (so2 :: L) L_ ∧ Obj_ledger_Ledger μ_ pv1 q1 so2) ⟨so1, SubFr.of ⟨rfl, rfl, rfl, rfl, trivial⟩, SegSub.sel _ [some 0] 1, (hP1)⟩ ?_)
    rintro ⟨q1, i1⟩ q2450 fr2450 μ2450 L2450 hm2450 ⟨so2, hF2450, hS2450, hP2⟩ hb2450 hq2450
    unfold recyclinglaw48_LedgerZero_l1 at hb2450
    replace hb2450 := oun_mk hb2450
    replace hA1 := hA1.mono hm2450
    replace hP1 := hP1.mono hm2450
    refine WP.at hF2450 hS2450 (WP.seq_k (fun K2453 hK2453 => WP.seq_k (fun K2454 hK2454 => WP.region Tt_ok (O_cons (O_read rfl (R_move rfl (P_some rfl (O_cons (O_read rfl (R_move rfl (P_some rfl (O_cons (O_read rfl ?_)))))))))))))
    refine R_lenS rfl rfl rfl (P_some rfl (O_cons (O_read rfl (R_lssD rfl rfl (P_some rfl (O_nil (hK2454 _ _ _ ?_)))))))
    refine W_cond_v (b := (decide (i1 < ((l1.length : Nat) : Int)))) rfl (fun hc2 => ?_) (fun hc2 => ?_)
    · replace hb2450 := cond_t hc2 hb2450
      refine WP.skip (hK2453 _ _ _ (WP.seq_k (fun K2455 hK2455 => WP.block (WP.region Tt_ok (O_cons (O_read rfl (R_move rfl (P_some rfl (O_cons (O_read rfl (R_move rfl (P_some rfl (O_cons ?_)))))))))))))
      refine O_read rfl (R_move rfl (P_some rfl (O_cons ?_)))
      obtain ⟨x1, hx4, hb2450⟩ := obind hb2450
      obtain ⟨a1, cs1, hA2, hr1, _, hc3⟩ := Rds.getI hA1 hx4
      obtain ⟨A2, c2, rfl, hl2, hA3⟩ := hr1
      refine O_read rfl (R_iaG rfl rfl rfl rfl rfl rfl ⟨(getI_lt hx4).1, (getI_lt hx4).2.1⟩ hA2 (P_some rfl (O_cons (O_read rfl (R_loadA rfl rfl rfl rfl (Ex.mk [.int .i64 x1.ID, .int .i64 x1.At, .slice A2 x1.Lines.length c2] ⟨rfl, (hc3.push)⟩ (P_some rfl (O_cons (O_call (all := [pv1, .agg #[.int .i64 x1.ID, .int .i64 x1.At, .slice A2 x1.Lines.length c2]]) rfl rfl rfl ?_)))))))))
      obtain ⟨⟨r4, r5⟩, hx5, hb2450⟩ := obind hb2450
      replace hb2450 := oun_mk hb2450
      refine ledger_Ledger_Post_fn hP2 hl2 hA3 hx5 (fun v2 so3 hm_2 hP3 => ?_)
      replace hA1 := hA1.mono hm_2
      replace hP1 := hP1.mono hm_2
      replace hP2 := hP2.mono hm_2
      replace hA3 := hA3.mono hm_2
      replace hc3 := hc3.lift hm_2
      refine P_some rfl (O_nil (hK2455 _ _ _ (WP.region Tt_ok (O_cons (O_read rfl (R_move rfl (P_some rfl (O_cons (O_read rfl (R_add rfl rfl (P_some rfl (O_cons (O_read rfl ?_)))))))))))))
      refine R_assign rfl (P_some rfl (O_nil ?_))
      have e_ := Option.some.inj hb2450
      subst e_
      exact ⟨_, rfl, so3, SubFr.of ⟨rfl, rfl, rfl, rfl, trivial⟩, SegSub.sel _ [some 0] 1, (hP3)⟩
    replace hb2450 := cond_f hc2 hb2450
    refine WP.exit (B_here ?_)
    have e_ := Option.some.inj hb2450
    subst e_
    have hq_ := hq2450 _ rfl
    subst hq_
    exact ⟨q1, so2, rfl, SubFr.of ⟨rfl, rfl, trivial⟩, SegSub.sel _ [some 0] 1, (hP2)⟩
  rintro fr2441 μ2441 L2441 hm2441 ⟨q2, so4, ho2441, hF2441, hS2441, hP4⟩
  subst ho2441
  replace hA1 := hA1.mono hm2441
  replace hP1 := hP1.mono hm2441
  refine hK2439 _ _ _ (WP.at hF2441 hS2441 (WP.seq_k (fun K2461 hK2461 => WP.region Tt_ok (O_cons (O_read rfl (R_move rfl (P_some rfl (O_cons (O_call (all := [pv1]) rfl rfl rfl ?_)))))))))
  obtain ⟨⟨r6, r7⟩, hx6, h⟩ := obind h
  replace h := oun_mk h
  refine ledger_Ledger_Accounts_fn hP4 hx6 (fun A3 c3 ch1 so5 hO1 hP5 => P_some rfl (O_cons (O_read rfl (R_assign rfl (P_some rfl (O_nil (hK2461 _ _ _ (WP.seq_k (fun K2466 hK2466 => WP.region Tt_ok (O_cons (O_read rfl (R_assign rfl (P_some rfl ?_)))))))))))))
  refine O_cons (O_read rfl (R_assign rfl (P_some rfl (O_nil (hK2466 _ _ _ (WP.seq_k (fun K2467 hK2467 => WP.seq_k (fun K2468 hK2468 => WP.region Tt_ok (O_cons (O_read rfl (R_assign rfl (P_some rfl (O_nil ?_)))))))))))))
  refine hK2468 _ _ _ ?_
  obtain ⟨o2469, h2469, h⟩ := obind h
  refine WP.cutK (fun fr_ μ_ L_ => ∃ (now2 : Int) (f_then2 : Int), (.inl (now2, f_then2)) = o2469 ∧ SubFr [(8, .int .i64 now2), (9, .int .i64 f_then2)] fr_ ∧ SegSub (L) L_) ?_ ?_
  · refine WP.block (WP.iter h2469 (fun (j_ : T_ledger_Ledger × Int × Int × Int) fr_ μ_ L_ => ounP j_ fun q3 j_ => ounP j_ fun now1 j_ => ounP j_ fun f_then1 i2 => ∃ (so6 : Seg), SubFr [(1, .int .i64 t1), (5, pv1), (7, .slice A3 r6.length c3), (8, .int .i64 now1), (9, .int .i64 f_then1), (10, .int .i64 i2)] fr_ ∧ SegSub (so6 :: ch1 :: L) L_ ∧ Obj_ledger_Ledger μ_ pv1 q3 so6) ⟨so5, SubFr.of ⟨rfl, rfl, rfl, rfl, rfl, rfl, trivial⟩, SegSub.sel _ [some 1, some 0] 2, (hP5)⟩ ?_)
    rintro ⟨q3, now1, f_then1, i2⟩ q2484 fr2484 μ2484 L2484 hm2484 ⟨so6, hF2484, hS2484, hP6⟩ hb2484 hq2484
    unfold recyclinglaw48_LedgerZero_l2 at hb2484
    replace hb2484 := oun_mk hb2484
    replace hb2484 := oun_mk hb2484
    replace hb2484 := oun_mk hb2484
    replace hA1 := hA1.mono hm2484
    replace hP1 := hP1.mono hm2484
    replace hP4 := hP4.mono hm2484
    replace hO1 := hO1.mono hm2484
    replace hP5 := hP5.mono hm2484
    refine WP.at hF2484 hS2484 (WP.seq_k (fun K2487 hK2487 => WP.seq_k (fun K2488 hK2488 => WP.region Tt_ok (O_cons (O_read rfl (R_move rfl (P_some rfl (O_cons (O_read rfl (R_move rfl (P_some rfl (O_cons (O_read rfl ?_)))))))))))))
    refine R_lenS rfl rfl rfl (P_some rfl (O_cons (O_read rfl (R_lssD rfl rfl (P_some rfl (O_nil (hK2488 _ _ _ ?_)))))))
    refine W_cond_v (b := (decide (i2 < ((r6.length : Nat) : Int)))) rfl (fun hc4 => ?_) (fun hc4 => ?_)
    · replace hb2484 := cond_t hc4 hb2484
      refine WP.skip (hK2487 _ _ _ (WP.seq_k (fun K2489 hK2489 => WP.block (WP.seq_k (fun K2490 hK2490 => WP.region Tt_ok (O_cons (O_read rfl (R_move rfl (P_some rfl (O_cons (O_read rfl (R_move rfl (P_some rfl ?_)))))))))))))
      refine O_cons (O_read rfl (R_move rfl (P_some rfl (O_cons ?_))))
      obtain ⟨x2, hx7, hb2484⟩ := obind hb2484
      obtain ⟨a2, cs2, hA4, hr2, _, hc5⟩ := Rds.getI (Own.rds (L := (so6 :: ch1 :: L)) hO1 1 rfl) hx7
      obtain rfl := hr2
      refine O_read rfl (R_iaG rfl rfl rfl rfl rfl rfl ⟨(getI_lt hx7).1, (getI_lt hx7).2.1⟩ hA4 (P_some rfl (O_cons (O_read rfl (R_load rfl rfl rfl (Ex.mk _ (Cell.of_cells0 hc5 rfl) (P_some rfl (O_cons (O_call (all := [pv1, .int .i64 x2]) rfl rfl rfl ?_)))))))))
      obtain ⟨⟨r8, r9⟩, hx8, hb2484⟩ := obind hb2484
      replace hb2484 := oun_mk hb2484
      refine ledger_Ledger_Balance_fn hP6 hx8 (fun so7 hP7 => P_some rfl (O_cons (O_read rfl (R_assign rfl (P_some rfl (O_nil (hK2490 _ _ _ (WP.seq_k (fun K2493 hK2493 => WP.seq_k (fun K2494 hK2494 => ?_))))))))))
      obtain ⟨o2495, h2495, hb2484⟩ := obind hb2484
      refine WP.cutK (fun fr_ μ_ L_ => ∃ (v3 : Bool), v3 = o2495 ∧ SubFr [(1, .int .i64 t1), (5, pv1), (7, .slice A3 r6.length c3), (8, .int .i64 now1), (9, .int .i64 f_then1), (10, .int .i64 i2), (11, .int .i64 r8), (47, .bool v3)] fr_ ∧ SegSub (so7 :: ch1 :: L) L_) ?_ ?_
      · refine WP.region Tt_ok (O_cons (O_read rfl (R_move rfl (P_some rfl (O_cons (O_read rfl (R_lssD rfl rfl (P_some rfl (O_cons (O_read rfl (R_move rfl (P_some rfl ?_))))))))))))
        refine O_gv (z := (decide (r8 < (-1000000000000)))) rfl rfl (fun hc6 => ?_) (fun hc6 => ?_)
        · replace h2495 := cond_f hc6 h2495
          refine O_read rfl (R_move rfl (P_some rfl (O_gY rfl rfl hc6 (O_read rfl (R_gtrD rfl rfl (P_some rfl (O_cons (O_read rfl (R_pick_F rfl hc6 rfl (P_some rfl (O_nil ?_)))))))))))
          have e_ := Option.some.inj h2495
          subst e_
          exact ⟨(decide (1000000000000 < r8)), rfl, SubFr.of ⟨rfl, rfl, rfl, rfl, rfl, rfl, rfl, rfl, trivial⟩, SegSub.sel _ [some 0, some 1] 2⟩
        replace h2495 := cond_t hc6 h2495
        refine P_some rfl (O_gN rfl rfl hc6 (P_some rfl (O_cons (O_read rfl (R_pick_T rfl hc6 rfl (P_some rfl (O_nil ?_)))))))
        have e_ := Option.some.inj h2495
        subst e_
        exact ⟨true, rfl, SubFr.of ⟨rfl, rfl, rfl, rfl, rfl, rfl, rfl, rfl, trivial⟩, SegSub.sel _ [some 0, some 1] 2⟩
      rintro fr2495 μ2495 L2495 hm2495 ⟨v3, ho2495, hF2495, hS2495⟩
      subst ho2495
      replace hA1 := hA1.mono hm2495
      replace hP1 := hP1.mono hm2495
      replace hP4 := hP4.mono hm2495
      replace hO1 := hO1.mono hm2495
      replace hP5 := hP5.mono hm2495
      replace hP6 := hP6.mono hm2495
      replace hc5 := hc5.lift hm2495
      replace hP7 := hP7.mono hm2495
      refine hK2494 _ _ _ (WP.at hF2495 hS2495 ?_)
      refine W_cond_v (b := v3) rfl (fun hc7 => ?_) (fun hc7 => ?_)
      · replace hb2484 := cond_t hc7 hb2484
        refine WP.seq_k (fun K2496 hK2496 => WP.region Tt_ok (O_cons (O_read rfl (R_assign rfl (P_some rfl (O_nil (hK2496 _ _ _ (WP.ret ?_))))))))
        have e_ := Option.some.inj hb2484
        subst e_
        have hq_ := hq2484 _ rfl
        subst hq_
        replace h := osum_r h
        have e_ := Option.some.inj h
        subst e_
        refine S_tmp rfl (S_nil (Upd.selS [] 2 ?_))
        exact Upd.done (hR _ (Gh.le.trans hm2441 (Gh.le.trans hm2484 (hm2495))))
      replace hb2484 := cond_f hc7 hb2484
      refine WP.skip (hK2493 _ _ _ (WP.seq_k (fun K2497 hK2497 => WP.region Tt_ok (O_cons (O_read rfl (R_move rfl (P_some rfl (O_cons (O_read rfl (R_move rfl (P_some rfl (O_cons (O_read rfl ?_)))))))))))))
      refine R_add rfl rfl (P_some rfl (O_cons (O_read rfl (R_assign rfl (P_some rfl (O_nil (hK2497 _ _ _ (WP.region Tt_ok (O_cons (O_read rfl (R_move rfl (P_some rfl (O_cons ?_)))))))))))))
      refine O_read rfl (R_move rfl (P_some rfl (O_cons (O_read rfl (R_move rfl (P_some rfl (O_cons (O_read rfl (R_move rfl (P_some rfl (O_cons ?_)))))))))))
      obtain ⟨x3, hx9, hb2484⟩ := obind hb2484
      obtain ⟨a3, cs3, hA5, hr3, _, hc8⟩ := Rds.getI (Own.rds (L := (so7 :: ch1 :: L)) hO1 1 rfl) hx9
      obtain rfl := hr3
      refine O_read rfl (R_iaG rfl rfl rfl rfl rfl rfl ⟨(getI_lt hx9).1, (getI_lt hx9).2.1⟩ hA5 (P_some rfl (O_cons (O_read rfl (R_load rfl rfl rfl (Ex.mk _ (Cell.of_cells0 hc8 rfl) (P_some rfl (O_cons (O_read rfl (R_move rfl (P_some rfl (O_cons (O_call (all := [pv1, .int .i64 x3, .int .i64 t1]) rfl rfl rfl ?_)))))))))))))
      obtain ⟨⟨r10, r11⟩, hx10, hb2484⟩ := obind hb2484
      replace hb2484 := oun_mk hb2484
      refine ledger_Ledger_At_fn hP7 hx10 (fun so8 hP8 => P_some rfl (O_cons (O_read rfl (R_add rfl rfl (P_some rfl (O_cons (O_read rfl (R_assign rfl (P_some rfl (O_nil (hK2489 _ _ _ (WP.region Tt_ok (O_cons ?_)))))))))))))
      refine O_read rfl (R_move rfl (P_some rfl (O_cons (O_read rfl (R_add rfl rfl (P_some rfl (O_cons (O_read rfl (R_assign rfl (P_some rfl (O_nil ?_)))))))))))
      have e_ := Option.some.inj hb2484
      subst e_
      exact ⟨_, rfl, so8, SubFr.of ⟨rfl, rfl, rfl, rfl, rfl, rfl, trivial⟩, SegSub.sel _ [some 0, some 1] 2, (hP8)⟩
    replace hb2484 := cond_f hc4 hb2484
    refine WP.exit (B_here ?_)
    have e_ := Option.some.inj hb2484
    subst e_
    have hq_ := hq2484 _ rfl
    subst hq_
    exact ⟨now1, f_then1, rfl, SubFr.of ⟨rfl, rfl, trivial⟩, SegSub.sel _ [] 2⟩
  rintro fr2469 μ2469 L2469 hm2469 ⟨now2, f_then2, ho2469, hF2469, hS2469⟩
  subst ho2469
  replace h := osum_l h
  replace h := oun_mk h
  replace hA1 := hA1.mono hm2469
  replace hP1 := hP1.mono hm2469
  replace hP4 := hP4.mono hm2469
  replace hO1 := hO1.mono hm2469
  replace hP5 := hP5.mono hm2469
  refine hK2467 _ _ _ (WP.at hF2469 hS2469 (WP.seq_k (fun K2500 hK2500 => ?_)))
  obtain ⟨o2501, h2501, h⟩ := obind h
  refine WP.cutK (fun fr_ μ_ L_ => ∃ (v5 : Bool), v5 = o2501 ∧ SubFr [(4, .bool v5)] fr_ ∧ SegSub (L) L_) ?_ ?_
  · refine WP.region Tt_ok (O_cons (O_read rfl (R_move rfl (P_some rfl (O_cons (O_read rfl (R_eqlD rfl rfl (P_some rfl (O_cons (O_read rfl (R_move rfl (P_some rfl ?_))))))))))))
    refine O_gv (z := (decide (now2 = 0))) rfl rfl (fun hc9 => ?_) (fun hc9 => ?_)
    · replace h2501 := cond_t hc9 h2501
      refine O_read rfl (R_move rfl (P_some rfl (O_gY rfl rfl hc9 (O_read rfl (R_eqlD rfl rfl (P_some rfl (O_cons (O_read rfl (R_pick_T rfl hc9 rfl (P_some rfl (O_cons (O_read rfl (R_move rfl ?_)))))))))))))
      apply P_some; exact rfl
      refine O_gv (z := (decide (f_then2 = 0))) rfl rfl (fun hc10 => ?_) (fun hc10 => ?_)
      · replace h2501 := cond_t hc10 h2501
        apply O_call (all := []); exact rfl; exact rfl; exact rfl
        obtain ⟨r12, hx11, h2501⟩ := obind h2501
        refine recyclinglaw48_awake_fn  hx11 (fun v4 hm_3 => ?_)
        replace hA1 := hA1.mono hm_3
        replace hP1 := hP1.mono hm_3
        replace hP4 := hP4.mono hm_3
        replace hO1 := hO1.mono hm_3
        replace hP5 := hP5.mono hm_3
        refine P_some rfl (O_cons (O_read rfl (R_pick_T rfl hc10 rfl (P_some rfl (O_cons (O_read rfl (R_assign rfl (P_some rfl (O_nil ?_)))))))))
        have e_ := Option.some.inj h2501
        subst e_
        exact ⟨r12, rfl, SubFr.of ⟨rfl, trivial⟩, SegSub.sel _ [] 0⟩
      replace h2501 := cond_f hc10 h2501
      refine P_some rfl (O_cons (O_read rfl (R_pick_F rfl hc10 rfl (P_some rfl (O_cons (O_read rfl (R_assign rfl (P_some rfl (O_nil ?_)))))))))
      have e_ := Option.some.inj h2501
      subst e_
      exact ⟨false, rfl, SubFr.of ⟨rfl, trivial⟩, SegSub.sel _ [] 0⟩
    replace h2501 := cond_f hc9 h2501
    refine P_some rfl (O_gN rfl rfl hc9 (P_some rfl (O_cons (O_read rfl (R_pick_F rfl hc9 rfl (P_some rfl (O_cons (O_read rfl (R_move rfl (P_some rfl (O_gN rfl rfl rfl (P_some rfl (O_cons ?_)))))))))))))
    refine O_read rfl (R_pick_F rfl rfl rfl (P_some rfl (O_cons (O_read rfl (R_assign rfl (P_some rfl (O_nil ?_)))))))
    have e_ := Option.some.inj h2501
    subst e_
    exact ⟨false, rfl, SubFr.of ⟨rfl, trivial⟩, SegSub.sel _ [] 0⟩
  rintro fr2501 μ2501 L2501 hm2501 ⟨v5, ho2501, hF2501, hS2501⟩
  subst ho2501
  replace hA1 := hA1.mono hm2501
  replace hP1 := hP1.mono hm2501
  replace hP4 := hP4.mono hm2501
  replace hO1 := hO1.mono hm2501
  replace hP5 := hP5.mono hm2501
  refine hK2500 _ _ _ (WP.at hF2501 hS2501 (WP.ret ?_))
  have e_ := Option.some.inj h
  subst e_
  refine S_tmp rfl (S_nil (Upd.selS [] 0 ?_))
  exact Upd.done (hR _ (Gh.le.trans hm2441 (Gh.le.trans hm2469 (hm2501))))

theorem recyclinglaw48_LedgerMoments_fn {μ : Gh} {L : List Seg} {R : Value → Gh → List Seg → Prop}  {l1 : (List T_api_Posting)} {account1 : Int} {t1 : Int} {A1 : Option Addr} {c1 : Nat} {res1 : Bool}
    (hl1 : l1.length ≤ c1 ∧ c1 ≤ maxLen) (hA1 : Rds r_api_Posting μ L A1 l1) (h : recyclinglaw48_LedgerMoments l1 account1 t1 = some res1)
    (hR : ∀ (μ' : Gh) , μ.le μ' → R (.bool res1) μ' (L)) :
    Fn Try.prog 7 [.slice A1 l1.length c1, .int .i64 account1, .int .i64 t1] μ (L) R := by
  unfold recyclinglaw48_LedgerMoments at h
  refine Fn.of_body Tt_ok Try.func7 (by kernel_rfl) rfl Try.ntmps7 (by simp) ?_
  simp only [Try.f7, argFr, List.zipIdx, List.map, Nat.reduceAdd]
  refine WP.seq_k (fun K2568 hK2568 => WP.region Tt_ok (O_cons (O_read rfl (R_assign rfl (P_some rfl (O_nil (hK2568 _ _ _ (WP.seq_k (fun K2569 hK2569 => WP.seq_k (fun K2570 hK2570 => WP.region Tt_ok (O_cons (O_read rfl (R_move rfl ?_)))))))))))))
  refine P_some rfl (O_cons (O_call (all := [.slice A1 l1.length c1]) rfl rfl rfl ?_))
  obtain ⟨r1, hx1, h⟩ := obind h
  refine recyclinglaw48_great_fn hl1 hA1 hx1 ((P_some rfl (O_nil (hK2570 _ _ _ ?_))))
  refine W_cond_v (b := r1) rfl (fun hc1 => ?_) (fun hc1 => ?_)
  · replace h := cond_t hc1 h
    refine WP.seq_k (fun K2571 hK2571 => WP.region Tt_ok (O_cons (O_call (all := []) rfl rfl rfl ?_)))
    obtain ⟨r2, hx2, h⟩ := obind h
    refine recyclinglaw48_awake_fn  hx2 (fun v1 hm_1 => ?_)
    replace hA1 := hA1.mono hm_1
    refine P_some rfl (O_cons (O_read rfl (R_assign rfl (P_some rfl (O_nil (hK2571 _ _ _ (WP.ret ?_)))))))
    have e_ := Option.some.inj h
    subst e_
    refine S_tmp rfl (S_nil (Upd.selS [] 0 ?_))
    exact Upd.done (hR _ (hm_1))
  replace h := cond_f hc1 h
  refine WP.skip (hK2569 _ _ _ (WP.seq_k (fun K2572 hK2572 => WP.region Tt_ok (O_cons (O_call (all := []) rfl rfl rfl ?_)))))
  obtain ⟨r3, hx3, h⟩ := obind h
  refine ledger_New_fn  hx3 (fun pv1 so1 hP1 => P_some rfl (O_cons (O_call (all := []) rfl rfl rfl ?_)))
  obtain ⟨r4, hx4, h⟩ := obind h
  refine ledger_New_fn  hx4 (fun pv2 so2 hP2 => P_some rfl (O_cons (O_read rfl (R_assign rfl (P_some rfl (O_cons (O_read rfl (R_assign rfl (P_some rfl (O_nil (hK2572 _ _ _ (WP.seq_k (fun K2575 hK2575 => WP.seq_k (fun K2576 hK2576 => ?_))))))))))))))
  refine WP.region Tt_ok (O_cons (O_read rfl (R_assign rfl (P_some rfl (O_nil (hK2576 _ _ _ ?_))))))
  obtain ⟨o2577, h2577, h⟩ := obind h
  refine WP.cutK (fun fr_ μ_ L_ => ∃ (q5 : T_ledger_Ledger) (q6 : T_ledger_Ledger) (so9 : Seg) (so10 : Seg), (.inl (q5, q6)) = o2577 ∧ SubFr [(1, .int .i64 account1), (2, .int .i64 t1), (7, pv1), (8, pv2)] fr_ ∧ SegSub (so9 :: so10 :: L) L_ ∧ Obj_ledger_Ledger μ_ pv1 q5 so9 ∧ Obj_ledger_Ledger μ_ pv2 q6 so10) ?_ ?_
  · refine WP.block (WP.iter h2577 (fun (j_ : T_ledger_Ledger × T_ledger_Ledger × Int) fr_ μ_ L_ => ounP j_ fun q1 j_ => ounP j_ fun q2 i1 => ∃ (so3 : Seg) (so4 : Seg), SubFr [(0, .slice A1 l1.length c1), (1, .int .i64 account1), (2, .int .i64 t1), (7, pv1), (8, pv2), (9, .int .i64 i1)] fr_ ∧ SegSub (so3 :: so4 :: L) L_ ∧ Obj_ledger_Ledger μ_ pv1 q1 so3 ∧ Obj_ledger_Ledger μ_ pv2 q2 so4) ⟨so1, so2, SubFr.of ⟨rfl, rfl, rfl, rfl, rfl, rfl, trivial⟩, SegSub.sel _ [some 1, some 0] 2, (hP1), (hP2)⟩ ?_)
    rintro ⟨q1, q2, i1⟩ q2597 fr2597 μ2597 L2597 hm2597 ⟨so3, so4, hF2597, hS2597, hP3, hP4⟩ hb2597 hq2597
    unfold recyclinglaw48_LedgerMoments_l1 at hb2597
    replace hb2597 := oun_mk hb2597
    replace hb2597 := oun_mk hb2597
    replace hA1 := hA1.mono hm2597
    replace hP1 := hP1.mono hm2597
    replace hP2 := hP2.mono hm2597
    refine WP.at hF2597 hS2597 (WP.seq_k (fun K2602 hK2602 => WP.seq_k (fun K2603 hK2603 => WP.region Tt_ok (O_cons (O_read rfl (R_move rfl (P_some rfl (O_cons (O_read rfl (R_move rfl (P_some rfl (O_cons (O_read rfl ?_)))))))))))))
    refine R_lenS rfl rfl rfl (P_some rfl (O_cons (O_read rfl (R_lssD rfl rfl (P_some rfl (O_nil (hK2603 _ _ _ ?_)))))))
    refine W_cond_v (b := (decide (i1 < ((l1.length : Nat) : Int)))) rfl (fun hc2 => ?_) (fun hc2 => ?_)
    · replace hb2597 := cond_t hc2 hb2597
      refine WP.skip (hK2602 _ _ _ (WP.seq_k (fun K2604 hK2604 => WP.block (WP.seq_k (fun K2605 hK2605 => ?_)))))
      obtain ⟨o2606, h2606, hb2597⟩ := obind hb2597
      refine WP.cutK (fun fr_ μ_ L_ => ∃ (q3 : T_ledger_Ledger) (q4 : T_ledger_Ledger) (v4 : Bool) (so7 : Seg) (so8 : Seg), (q3, q4, v4) = o2606 ∧ SubFr [(0, .slice A1 l1.length c1), (1, .int .i64 account1), (2, .int .i64 t1), (7, pv1), (8, pv2), (9, .int .i64 i1), (45, .bool v4)] fr_ ∧ SegSub (so7 :: so8 :: L) L_ ∧ Obj_ledger_Ledger μ_ pv1 q3 so7 ∧ Obj_ledger_Ledger μ_ pv2 q4 so8) ?_ ?_
      · refine WP.region Tt_ok (O_cons (O_read rfl (R_move rfl (P_some rfl (O_cons (O_read rfl (R_move rfl (P_some rfl (O_cons (O_read rfl (R_move rfl (P_some rfl (O_cons ?_)))))))))))))
        obtain ⟨x1, hx5, h2606⟩ := obind h2606
        obtain ⟨a1, cs1, hA2, hr1, _, hc3⟩ := Rds.getI hA1 hx5
        obtain ⟨A2, c2, rfl, hl2, hA3⟩ := hr1
        refine O_read rfl (R_iaG rfl rfl rfl rfl rfl rfl ⟨(getI_lt hx5).1, (getI_lt hx5).2.1⟩ hA2 (P_some rfl (O_cons (O_read rfl (R_loadA rfl rfl rfl rfl (Ex.mk [.int .i64 x1.ID, .int .i64 x1.At, .slice A2 x1.Lines.length c2] ⟨rfl, (hc3.push.push)⟩ (P_some rfl (O_cons (O_call (all := [pv1, .agg #[.int .i64 x1.ID, .int .i64 x1.At, .slice A2 x1.Lines.length c2]]) rfl rfl rfl ?_)))))))))
        obtain ⟨⟨r5, r6⟩, hx6, h2606⟩ := obind h2606
        replace h2606 := oun_mk h2606
        refine ledger_Ledger_Post_fn hP3 hl2 hA3 hx6 (fun v2 so5 hm_2 hP5 => ?_)
        replace hA1 := hA1.mono hm_2
        replace hP1 := hP1.mono hm_2
        replace hP2 := hP2.mono hm_2
        replace hP3 := hP3.mono hm_2
        replace hP4 := hP4.mono hm_2
        replace hA3 := hA3.mono hm_2
        replace hc3 := hc3.lift hm_2
        refine P_some rfl (O_cons (O_read rfl (R_eqlD rfl rfl (P_some rfl (O_cons (O_read rfl (R_move rfl (P_some rfl ?_))))))))
        refine O_gv (z := (decide (r5 = 0))) rfl rfl (fun hc4 => ?_) (fun hc4 => ?_)
        · replace h2606 := cond_t hc4 h2606
          refine O_read rfl (R_move rfl (P_some rfl (O_gY rfl rfl hc4 (O_read rfl (R_move rfl (P_some rfl (O_gY rfl rfl hc4 ?_)))))))
          obtain ⟨x2, hx7, h2606⟩ := obind h2606
          obtain ⟨a2, cs2, hA4, hr2, _, hc5⟩ := Rds.getI hA1 hx7
          obtain ⟨A3, c3, rfl, hl3, hA5⟩ := hr2
          refine O_read rfl (R_iaG rfl rfl rfl rfl rfl rfl ⟨(getI_lt hx7).1, (getI_lt hx7).2.1⟩ hA4 (P_some rfl (O_gY rfl rfl hc4 (O_read rfl (R_fa rfl rfl rfl rfl rfl (P_some rfl (O_gY rfl rfl hc4 (O_read rfl (R_load rfl rfl rfl (Ex.mk _ (Cell.of_cells (hc5.push.push) 1 rfl) (P_some rfl (O_gY rfl rfl hc4 (O_read rfl ?_)))))))))))))
          refine R_move rfl (P_some rfl (O_gY rfl rfl hc4 (O_read rfl (R_leqD rfl rfl (P_some rfl (O_cons (O_read rfl (R_pick_T rfl hc4 rfl (P_some rfl (O_cons (O_read rfl (R_move rfl (P_some rfl ?_)))))))))))))
          refine O_gv (z := (decide (x2.At ≤ t1))) rfl rfl (fun hc6 => ?_) (fun hc6 => ?_)
          · replace h2606 := cond_t hc6 h2606
            refine O_read rfl (R_move rfl (P_some rfl (O_gY rfl rfl hc6 (O_read rfl (R_move rfl (P_some rfl (O_gY rfl rfl hc6 (O_read rfl (R_move rfl (P_some rfl (O_gY rfl rfl hc6 ?_)))))))))))
            obtain ⟨x3, hx8, h2606⟩ := obind h2606
            obtain ⟨a3, cs3, hA6, hr3, _, hc7⟩ := Rds.getI hA1 hx8
            obtain ⟨A4, c4, rfl, hl4, hA7⟩ := hr3
            refine O_read rfl (R_iaG rfl rfl rfl rfl rfl rfl ⟨(getI_lt hx8).1, (getI_lt hx8).2.1⟩ hA6 (P_some rfl (O_gY rfl rfl hc6 (O_read rfl (R_loadA rfl rfl rfl rfl (Ex.mk [.int .i64 x3.ID, .int .i64 x3.At, .slice A4 x3.Lines.length c4] ⟨rfl, (hc7.push.push)⟩ (P_some rfl (O_gY rfl rfl hc6 (O_call (all := [pv2, .agg #[.int .i64 x3.ID, .int .i64 x3.At, .slice A4 x3.Lines.length c4]]) rfl rfl rfl (Fn.seg (L2 := (so4 :: so5 :: L)) (SegSub.sel _ [some 1, some 0] 2) ?_))))))))))
            obtain ⟨⟨r7, r8⟩, hx9, h2606⟩ := obind h2606
            replace h2606 := oun_mk h2606
            refine ledger_Ledger_Post_fn hP4 hl4 hA7 hx9 (fun v3 so6 hm_3 hP6 => ?_)
            replace hA1 := hA1.mono hm_3
            replace hP1 := hP1.mono hm_3
            replace hP2 := hP2.mono hm_3
            replace hP3 := hP3.mono hm_3
            replace hP4 := hP4.mono hm_3
            replace hA3 := hA3.mono hm_3
            replace hc3 := hc3.lift hm_3
            replace hP5 := hP5.mono hm_3
            replace hA5 := hA5.mono hm_3
            replace hc5 := hc5.lift hm_3
            replace hA7 := hA7.mono hm_3
            replace hc7 := hc7.lift hm_3
            refine P_some rfl (O_gY rfl rfl hc6 (O_read rfl (R_neqD rfl rfl (P_some rfl (O_cons (O_read rfl (R_pick_T rfl hc6 rfl (P_some rfl (O_nil ?_)))))))))
            have e_ := Option.some.inj h2606
            subst e_
            exact ⟨r6, r8, !(decide (r7 = 0)), so5, so6, rfl, SubFr.of ⟨rfl, rfl, rfl, rfl, rfl, rfl, rfl, trivial⟩, SegSub.sel _ [some 1, some 0] 2, (hP5), (hP6)⟩
          replace h2606 := cond_f hc6 h2606
          refine P_some rfl (O_gN rfl rfl hc6 (P_some rfl (O_gN rfl rfl hc6 (P_some rfl (O_gN rfl rfl hc6 (P_some rfl (O_gN rfl rfl hc6 (P_some rfl (O_gN rfl rfl hc6 (P_some rfl (O_gN rfl rfl hc6 (P_some rfl (O_cons ?_)))))))))))))
          refine O_read rfl (R_pick_F rfl hc6 rfl (P_some rfl (O_nil ?_)))
          have e_ := Option.some.inj h2606
          subst e_
          exact ⟨r6, q2, false, so5, so4, rfl, SubFr.of ⟨rfl, rfl, rfl, rfl, rfl, rfl, rfl, trivial⟩, SegSub.sel _ [some 0, some 1] 2, (hP5), (hP4)⟩
        replace h2606 := cond_f hc4 h2606
        refine P_some rfl (O_gN rfl rfl hc4 (P_some rfl (O_gN rfl rfl hc4 (P_some rfl (O_gN rfl rfl hc4 (P_some rfl (O_gN rfl rfl hc4 (P_some rfl (O_gN rfl rfl hc4 (P_some rfl (O_gN rfl rfl hc4 (P_some rfl (O_cons ?_)))))))))))))
        refine O_read rfl (R_pick_F rfl hc4 rfl (P_some rfl (O_cons (O_read rfl (R_move rfl (P_some rfl (O_gN rfl rfl rfl (P_some rfl (O_gN rfl rfl rfl (P_some rfl (O_gN rfl rfl rfl (P_some rfl (O_gN rfl rfl rfl ?_)))))))))))))
        refine P_some rfl (O_gN rfl rfl rfl (P_some rfl (O_gN rfl rfl rfl (P_some rfl (O_gN rfl rfl rfl (P_some rfl (O_cons (O_read rfl (R_pick_F rfl rfl rfl (P_some rfl (O_nil ?_)))))))))))
        have e_ := Option.some.inj h2606
        subst e_
        exact ⟨r6, q2, false, so5, so4, rfl, SubFr.of ⟨rfl, rfl, rfl, rfl, rfl, rfl, rfl, trivial⟩, SegSub.sel _ [some 0, some 1] 2, (hP5), (hP4)⟩
      rintro fr2606 μ2606 L2606 hm2606 ⟨q3, q4, v4, so7, so8, ho2606, hF2606, hS2606, hP7, hP8⟩
      subst ho2606
      replace hb2597 := oun_mk hb2597
      replace hb2597 := oun_mk hb2597
      replace hA1 := hA1.mono hm2606
      replace hP1 := hP1.mono hm2606
      replace hP2 := hP2.mono hm2606
      replace hP3 := hP3.mono hm2606
      replace hP4 := hP4.mono hm2606
      refine hK2605 _ _ _ (WP.at hF2606 hS2606 ?_)
      refine W_cond_v (b := v4) rfl (fun hc8 => ?_) (fun hc8 => ?_)
      · replace hb2597 := cond_t hc8 hb2597
        refine WP.seq_k (fun K2619 hK2619 => WP.region Tt_ok (O_cons (O_read rfl (R_assign rfl (P_some rfl (O_nil (hK2619 _ _ _ (WP.ret ?_))))))))
        have e_ := Option.some.inj hb2597
        subst e_
        have hq_ := hq2597 _ rfl
        subst hq_
        replace h := osum_r h
        have e_ := Option.some.inj h
        subst e_
        refine S_tmp rfl (S_nil (Upd.selS [] 2 ?_))
        exact Upd.done (hR _ (Gh.le.trans hm2597 (hm2606)))
      replace hb2597 := cond_f hc8 hb2597
      refine WP.skip (hK2604 _ _ _ (WP.region Tt_ok (O_cons (O_read rfl (R_move rfl (P_some rfl (O_cons (O_read rfl (R_add rfl rfl (P_some rfl (O_cons (O_read rfl (R_assign rfl ?_)))))))))))))
      refine P_some rfl (O_nil ?_)
      have e_ := Option.some.inj hb2597
      subst e_
      exact ⟨_, rfl, so7, so8, SubFr.of ⟨rfl, rfl, rfl, rfl, rfl, rfl, trivial⟩, SegSub.sel _ [some 0, some 1] 2, (hP7), (hP8)⟩
    replace hb2597 := cond_f hc2 hb2597
    refine WP.exit (B_here ?_)
    have e_ := Option.some.inj hb2597
    subst e_
    have hq_ := hq2597 _ rfl
    subst hq_
    exact ⟨q1, q2, so3, so4, rfl, SubFr.of ⟨rfl, rfl, rfl, rfl, trivial⟩, SegSub.sel _ [some 0, some 1] 2, (hP3), (hP4)⟩
  rintro fr2577 μ2577 L2577 hm2577 ⟨q5, q6, so9, so10, ho2577, hF2577, hS2577, hP9, hP10⟩
  subst ho2577
  replace h := osum_l h
  replace h := oun_mk h
  replace hA1 := hA1.mono hm2577
  replace hP1 := hP1.mono hm2577
  replace hP2 := hP2.mono hm2577
  refine hK2575 _ _ _ (WP.at hF2577 hS2577 (WP.seq_k (fun K2622 hK2622 => ?_)))
  obtain ⟨o2623, h2623, h⟩ := obind h
  refine WP.cutK (fun fr_ μ_ L_ => ∃ (v6 : Bool), v6 = o2623 ∧ SubFr [(6, .bool v6)] fr_ ∧ SegSub (L) L_) ?_ ?_
  · refine WP.region Tt_ok (O_cons (O_read rfl (R_move rfl (P_some rfl (O_cons (O_read rfl (R_move rfl (P_some rfl (O_cons (O_call (all := [pv1, .int .i64 account1]) rfl rfl rfl ?_))))))))))
    obtain ⟨⟨r9, r10⟩, hx10, h2623⟩ := obind h2623
    replace h2623 := oun_mk h2623
    refine ledger_Ledger_Balance_fn hP9 hx10 (fun so11 hP11 => P_some rfl (O_cons (O_read rfl (R_move rfl (P_some rfl (O_cons (O_read rfl (R_move rfl (P_some rfl (O_cons (O_call (all := [pv1, .int .i64 account1, .int .i64 3155759999]) rfl rfl rfl ?_)))))))))))
    obtain ⟨⟨r11, r12⟩, hx11, h2623⟩ := obind h2623
    replace h2623 := oun_mk h2623
    refine ledger_Ledger_At_fn hP11 hx11 (fun so12 hP12 => P_some rfl (O_cons (O_read rfl (R_eqlD rfl rfl (P_some rfl (O_cons (O_read rfl (R_move rfl (P_some rfl ?_)))))))))
    refine O_gv (z := (decide (r9 = r11))) rfl rfl (fun hc9 => ?_) (fun hc9 => ?_)
    · replace h2623 := cond_t hc9 h2623
      refine O_read rfl (R_move rfl (P_some rfl (O_gY rfl rfl hc9 (O_read rfl (R_move rfl (P_some rfl (O_gY rfl rfl hc9 (O_read rfl (R_move rfl (P_some rfl (O_gY rfl rfl hc9 (O_call (all := [pv1, .int .i64 account1, .int .i64 t1]) rfl rfl rfl ?_))))))))))))
      obtain ⟨⟨r13, r14⟩, hx12, h2623⟩ := obind h2623
      replace h2623 := oun_mk h2623
      refine ledger_Ledger_At_fn hP12 hx12 (fun so13 hP13 => P_some rfl (O_gY rfl rfl hc9 (O_read rfl (R_move rfl (P_some rfl (O_gY rfl rfl hc9 (O_read rfl (R_move rfl (P_some rfl (O_gY rfl rfl hc9 (O_call (all := [pv2, .int .i64 account1]) rfl rfl rfl (Fn.seg (L2 := (so10 :: so13 :: L)) (SegSub.sel _ [some 1, some 0] 2) ?_))))))))))))
      obtain ⟨⟨r15, r16⟩, hx13, h2623⟩ := obind h2623
      replace h2623 := oun_mk h2623
      refine ledger_Ledger_Balance_fn hP10 hx13 (fun so14 hP14 => P_some rfl (O_gY rfl rfl hc9 (O_read rfl (R_eqlD rfl rfl (P_some rfl (O_cons (O_read rfl (R_pick_T rfl hc9 rfl (P_some rfl (O_cons (O_read rfl (R_move rfl (P_some rfl ?_)))))))))))))
      refine O_gv (z := (decide (r13 = r15))) rfl rfl (fun hc10 => ?_) (fun hc10 => ?_)
      · replace h2623 := cond_t hc10 h2623
        apply O_call (all := []); exact rfl; exact rfl; exact rfl
        obtain ⟨r17, hx14, h2623⟩ := obind h2623
        refine recyclinglaw48_awake_fn  hx14 (fun v5 hm_4 => ?_)
        replace hA1 := hA1.mono hm_4
        replace hP1 := hP1.mono hm_4
        replace hP2 := hP2.mono hm_4
        replace hP9 := hP9.mono hm_4
        replace hP10 := hP10.mono hm_4
        replace hP11 := hP11.mono hm_4
        replace hP12 := hP12.mono hm_4
        replace hP13 := hP13.mono hm_4
        replace hP14 := hP14.mono hm_4
        refine P_some rfl (O_cons (O_read rfl (R_pick_T rfl hc10 rfl (P_some rfl (O_cons (O_read rfl (R_assign rfl (P_some rfl (O_nil ?_)))))))))
        have e_ := Option.some.inj h2623
        subst e_
        exact ⟨r17, rfl, SubFr.of ⟨rfl, trivial⟩, SegSub.sel _ [] 2⟩
      replace h2623 := cond_f hc10 h2623
      refine P_some rfl (O_cons (O_read rfl (R_pick_F rfl hc10 rfl (P_some rfl (O_cons (O_read rfl (R_assign rfl (P_some rfl (O_nil ?_)))))))))
      have e_ := Option.some.inj h2623
      subst e_
      exact ⟨false, rfl, SubFr.of ⟨rfl, trivial⟩, SegSub.sel _ [] 2⟩
    replace h2623 := cond_f hc9 h2623
    refine P_some rfl (O_gN rfl rfl hc9 (P_some rfl (O_gN rfl rfl hc9 (P_some rfl (O_gN rfl rfl hc9 (P_some rfl (O_gN rfl rfl hc9 (P_some rfl (O_gN rfl rfl hc9 (P_some rfl (O_gN rfl rfl hc9 (P_some rfl (O_gN rfl rfl hc9 ?_)))))))))))))
    refine P_some rfl (O_cons (O_read rfl (R_pick_F rfl hc9 rfl (P_some rfl (O_cons (O_read rfl (R_move rfl (P_some rfl (O_gN rfl rfl rfl (P_some rfl (O_cons (O_read rfl (R_pick_F rfl rfl rfl ?_)))))))))))))
    refine P_some rfl (O_cons (O_read rfl (R_assign rfl (P_some rfl (O_nil ?_)))))
    have e_ := Option.some.inj h2623
    subst e_
    exact ⟨false, rfl, SubFr.of ⟨rfl, trivial⟩, SegSub.sel _ [] 2⟩
  rintro fr2623 μ2623 L2623 hm2623 ⟨v6, ho2623, hF2623, hS2623⟩
  subst ho2623
  replace hA1 := hA1.mono hm2623
  replace hP1 := hP1.mono hm2623
  replace hP2 := hP2.mono hm2623
  replace hP9 := hP9.mono hm2623
  replace hP10 := hP10.mono hm2623
  refine hK2622 _ _ _ (WP.at hF2623 hS2623 (WP.ret ?_))
  have e_ := Option.some.inj h
  subst e_
  refine S_tmp rfl (S_nil (Upd.selS [] 0 ?_))
  exact Upd.done (hR _ (Gh.le.trans hm2577 (hm2623)))

theorem recyclinglaw48_LedgerFails_fn {μ : Gh} {L : List Seg} {R : Value → Gh → List Seg → Prop} {F : Nat} {l1 : (List T_api_Posting)} {p1 : T_api_Posting} {A1 : Option Addr} {c1 : Nat} {A2 : Option Addr} {c2 : Nat} {res1 : Bool}
    (hl1 : l1.length ≤ c1 ∧ c1 ≤ maxLen) (hA1 : Rds r_api_Posting μ L A1 l1) (hl2 : p1.Lines.length ≤ c2 ∧ c2 ≤ maxLen) (hA2 : ArrR r_api_Line μ A2 p1.Lines) (h : recyclinglaw48_LedgerFails F l1 p1 = some res1)
    (hR : ∀ (μ' : Gh) , μ.le μ' → R (.bool res1) μ' (L)) :
    Fn Try.prog 8 [.slice A1 l1.length c1, .agg #[.int .i64 p1.ID, .int .i64 p1.At, .slice A2 p1.Lines.length c2]] μ (L) R := by
  unfold recyclinglaw48_LedgerFails at h
  refine Fn.of_body Tt_ok Try.func8 (by kernel_rfl) rfl Try.ntmps8 (by simp) ?_
  simp only [Try.f8, argFr, List.zipIdx, List.map, Nat.reduceAdd]
  refine WP.seq_k (fun K2817 hK2817 => WP.region Tt_ok (O_cons (O_box (cs := #[.int .i64 p1.ID, .int .i64 p1.At, .slice A2 p1.Lines.length c2]) rfl rfl (fun g1 => P_some rfl (O_cons (O_read rfl (R_assign rfl (P_some rfl (O_nil (hK2817 _ _ _ (WP.seq_k (fun K2819 hK2819 => WP.seq_k (fun K2820 hK2820 => ?_)))))))))))))
  obtain ⟨o2821, h2821, h⟩ := obind h
  refine WP.cutK (fun fr_ μ_ L_ => ∃ (v1 : Bool), v1 = o2821 ∧ SubFr [(0, .slice A1 l1.length c1), (3, .pointer (some ⟨g1, 0, none⟩)), (20, .bool v1)] fr_ ∧ SegSub ([(g1, .cells #[.int .i64 p1.ID, .int .i64 p1.At, .slice A2 p1.Lines.length c2] 24 (0, 0))] :: L) L_) ?_ ?_
  · refine WP.region Tt_ok (O_cons (O_read rfl (R_move rfl (P_some rfl (O_cons (O_call (all := [.slice A1 l1.length c1]) rfl rfl rfl ?_))))))
    obtain ⟨r1, hx1, h2821⟩ := obind h2821
    refine recyclinglaw48_great_fn hl1 (Rds.push hA1) hx1 ((P_some rfl (O_cons (O_read rfl (R_move rfl (P_some rfl ?_))))))
    refine O_gv (z := r1) rfl rfl (fun hc1 => ?_) (fun hc1 => ?_)
    · replace h2821 := cond_f hc1 h2821
      refine O_read rfl (R_fa0 (o' := 2) rfl rfl rfl rfl rfl rfl (P_some rfl (O_gY rfl rfl hc1 (O_read rfl (R_load rfl rfl rfl (Ex.mk _ (Cell.seg 0 0 rfl rfl rfl) (P_some rfl (O_gY rfl rfl hc1 (O_read rfl (R_lenS rfl rfl rfl (P_some rfl (O_gY rfl rfl hc1 (O_read rfl ?_)))))))))))))
      refine R_gtrD rfl rfl (P_some rfl (O_cons (O_read rfl (R_pick_F rfl hc1 rfl (P_some rfl (O_nil ?_))))))
      have e_ := Option.some.inj h2821
      subst e_
      exact ⟨(decide (40 < ((p1.Lines.length : Nat) : Int))), rfl, SubFr.of ⟨rfl, rfl, rfl, trivial⟩, SegSub.sel _ [some 0] 1⟩
    replace h2821 := cond_t hc1 h2821
    refine P_some rfl (O_gN rfl rfl hc1 (P_some rfl (O_gN rfl rfl hc1 (P_some rfl (O_gN rfl rfl hc1 (P_some rfl (O_cons (O_read rfl (R_pick_T rfl hc1 rfl (P_some rfl (O_nil ?_)))))))))))
    have e_ := Option.some.inj h2821
    subst e_
    exact ⟨true, rfl, SubFr.of ⟨rfl, rfl, rfl, trivial⟩, SegSub.sel _ [some 0] 1⟩
  rintro fr2821 μ2821 L2821 hm2821 ⟨v1, ho2821, hF2821, hS2821⟩
  subst ho2821
  replace hA1 := hA1.mono hm2821
  replace hA2 := hA2.mono hm2821
  refine hK2820 _ _ _ (WP.at hF2821 hS2821 ?_)
  refine W_cond_v (b := v1) rfl (fun hc2 => ?_) (fun hc2 => ?_)
  · replace h := cond_t hc2 h
    refine WP.seq_k (fun K2824 hK2824 => WP.region Tt_ok (O_cons (O_call (all := []) rfl rfl rfl ?_)))
    obtain ⟨r2, hx2, h⟩ := obind h
    refine recyclinglaw48_awake_fn  hx2 (fun v2 hm_1 => ?_)
    replace hA1 := hA1.mono hm_1
    replace hA2 := hA2.mono hm_1
    refine P_some rfl (O_cons (O_read rfl (R_assign rfl (P_some rfl (O_nil (hK2824 _ _ _ (WP.ret ?_)))))))
    have e_ := Option.some.inj h
    subst e_
    refine S_tmp rfl (S_nil (Upd.selS [] 1 ?_))
    exact Upd.done (hR _ (Gh.le.trans hm2821 (hm_1)))
  replace h := cond_f hc2 h
  refine WP.skip (hK2819 _ _ _ (WP.seq_k (fun K2825 hK2825 => WP.region Tt_ok (O_cons (O_read rfl (R_move rfl (P_some rfl (O_cons (O_call (all := [.slice A1 l1.length c1]) rfl rfl rfl ?_)))))))))
  obtain ⟨⟨r3, r4⟩, hx3, h⟩ := obind h
  replace h := oun_mk h
  refine recyclinglaw48_filled_fn hl1 (Rds.push hA1) hx3 (fun v3 pv1 so1 A3 c3 hm_2 hP1 hl3 hA3 => ?_)
  replace hA1 := hA1.mono hm_2
  replace hA2 := hA2.mono hm_2
  refine P_some rfl (O_cons (O_read rfl (R_move rfl (P_some rfl (O_cons (O_read rfl (R_ext rfl rfl (P_some rfl (O_cons (O_read rfl (R_ext rfl rfl (P_some rfl (O_cons ?_)))))))))))))
  refine O_read rfl (R_assign rfl (P_some rfl (O_cons (O_read rfl (R_assign rfl (P_some rfl (O_nil (hK2825 _ _ _ (WP.seq_k (fun K2828 hK2828 => WP.region Tt_ok (O_cons (O_read rfl (R_move rfl ?_)))))))))))))
  refine P_some rfl (O_cons (O_call (all := [pv1]) rfl rfl rfl ?_))
  obtain ⟨⟨r5, r6⟩, hx4, h⟩ := obind h
  replace h := oun_mk h
  refine ledger_Ledger_Postings_fn hP1 hx4 (fun v4 A4 c4 ch1 so2 hm_3 hO1 hP2 => ?_)
  replace hA1 := hA1.mono hm_3
  replace hA2 := hA2.mono hm_3
  replace hP1 := hP1.mono hm_3
  replace hA3 := hA3.mono hm_3
  refine P_some rfl (O_cons (O_read rfl (R_move rfl (P_some rfl (O_cons (O_call (all := [pv1]) rfl rfl rfl (Fn.seg (L2 := (so2 :: ch1 :: [(g1, .cells #[.int .i64 p1.ID, .int .i64 p1.At, .slice A2 p1.Lines.length c2] 24 (0, 0))] :: L)) (SegSub.sel _ [some 1, some 0, some 2] 3) ?_)))))))
  obtain ⟨⟨r7, r8⟩, hx5, h⟩ := obind h
  replace h := oun_mk h
  refine ledger_Ledger_Accounts_fn hP2 hx5 (fun A5 c5 ch2 so3 hO2 hP3 => P_some rfl (O_cons (O_read rfl (R_assign rfl (P_some rfl (O_cons (O_read rfl (R_assign rfl (P_some rfl (O_nil (hK2828 _ _ _ (WP.seq_k (fun K2845 hK2845 => WP.region Tt_ok ?_)))))))))))))
  refine O_cons (O_read rfl (R_assign rfl (P_some rfl (O_nil (hK2845 _ _ _ (WP.seq_k (fun K2850 hK2850 => WP.seq_k (fun K2851 hK2851 => WP.region Tt_ok (O_cons (O_read rfl (R_assign rfl (P_some rfl (O_nil ?_)))))))))))))
  refine hK2851 _ _ _ ?_
  obtain ⟨o2852, h2852, h⟩ := obind h
  refine WP.cutK (fun fr_ μ_ L_ => ∃ (q2 : T_ledger_Ledger) (balances2 : (List Int)) (so6 : Seg) (A8 : Option Addr) (c8 : Nat) (ch5 : Seg), (q2, balances2) = o2852 ∧ SubFr [(3, .pointer (some ⟨g1, 0, none⟩)), (5, pv1), (7, .slice A4 r5.length c4), (8, .slice A5 r7.length c5), (9, .slice A8 balances2.length c8)] fr_ ∧ SegSub ([(g1, .cells #[.int .i64 p1.ID, .int .i64 p1.At, .slice A2 p1.Lines.length c2] 24 (0, 0))] :: so6 :: ch1 :: ch2 :: ch5 :: L) L_ ∧ Obj_ledger_Ledger μ_ pv1 q2 so6 ∧ Own rInt 3 μ_ (.slice A8 balances2.length c8) balances2 ch5) ?_ ?_
  · refine WP.block (WP.iter h2852 (fun (j_ : T_ledger_Ledger × (List Int) × Int) fr_ μ_ L_ => ounP j_ fun q1 j_ => ounP j_ fun balances1 i1 => ∃ (so4 : Seg) (A6 : Option Addr) (c6 : Nat) (ch3 : Seg), SubFr [(3, .pointer (some ⟨g1, 0, none⟩)), (5, pv1), (7, .slice A4 r5.length c4), (8, .slice A5 r7.length c5), (9, .slice A6 balances1.length c6), (10, .int .i64 i1)] fr_ ∧ SegSub ([(g1, .cells #[.int .i64 p1.ID, .int .i64 p1.At, .slice A2 p1.Lines.length c2] 24 (0, 0))] :: so4 :: ch1 :: ch2 :: ch3 :: L) L_ ∧ Obj_ledger_Ledger μ_ pv1 q1 so4 ∧ Own rInt 3 μ_ (.slice A6 balances1.length c6) balances1 ch3) ⟨so3, none, 0, [], SubFr.of ⟨rfl, rfl, rfl, rfl, rfl, rfl, trivial⟩, SegSub.sel _ [some 3, some 1, some 2, some 0, none] 4, (hP3), (Own.nil)⟩ ?_)
    rintro ⟨q1, balances1, i1⟩ q2872 fr2872 μ2872 L2872 hm2872 ⟨so4, A6, c6, ch3, hF2872, hS2872, hP4, hO3⟩ hb2872 hq2872
    unfold recyclinglaw48_LedgerFails_l1 at hb2872
    replace hb2872 := oun_mk hb2872
    replace hb2872 := oun_mk hb2872
    replace hA1 := hA1.mono hm2872
    replace hA2 := hA2.mono hm2872
    replace hP1 := hP1.mono hm2872
    replace hA3 := hA3.mono hm2872
    replace hO1 := hO1.mono hm2872
    replace hP2 := hP2.mono hm2872
    replace hO2 := hO2.mono hm2872
    replace hP3 := hP3.mono hm2872
    refine WP.at hF2872 hS2872 (WP.seq_k (fun K2880 hK2880 => WP.seq_k (fun K2881 hK2881 => WP.region Tt_ok (O_cons (O_read rfl (R_move rfl (P_some rfl (O_cons (O_read rfl (R_fa0 (o' := 2) rfl rfl rfl rfl rfl rfl (P_some rfl (O_cons (O_read rfl ?_)))))))))))))
    refine R_load rfl rfl rfl (Ex.mk _ (Cell.seg 0 0 rfl rfl rfl) (P_some rfl (O_cons (O_read rfl (R_lenS rfl rfl rfl (P_some rfl (O_cons (O_read rfl (R_lssD rfl rfl (P_some rfl (O_nil (hK2881 _ _ _ ?_))))))))))))
    refine W_cond_v (b := (decide (i1 < ((p1.Lines.length : Nat) : Int)))) rfl (fun hc3 => ?_) (fun hc3 => ?_)
    · replace hb2872 := cond_t hc3 hb2872
      refine WP.skip (hK2880 _ _ _ (WP.seq_k (fun K2882 hK2882 => WP.block (WP.region Tt_ok (O_cons (O_read rfl (R_move rfl (P_some rfl (O_cons (O_read rfl (R_move rfl (P_some rfl (O_cons ?_)))))))))))))
      refine O_read rfl (R_fa0 (o' := 2) rfl rfl rfl rfl rfl rfl (P_some rfl (O_cons (O_read rfl (R_load rfl rfl rfl (Ex.mk _ (Cell.seg 0 0 rfl rfl rfl) (P_some rfl (O_cons (O_read rfl (R_move rfl (P_some rfl (O_cons ?_))))))))))))
      obtain ⟨x1, hx6, hb2872⟩ := obind hb2872
      obtain ⟨a1, cs1, hA4, hr1, _, hc4⟩ := Rds.getI (ArrR.rds hA2 L) hx6
      obtain rfl := hr1
      refine O_read rfl (R_iaG rfl rfl rfl rfl rfl rfl ⟨(getI_lt hx6).1, (getI_lt hx6).2.1⟩ hA4 (P_some rfl (O_cons (O_read rfl (R_faz rfl rfl rfl rfl rfl (P_some rfl (O_cons (O_read rfl (R_load rfl rfl rfl (Ex.mk _ (Cell.of_cells0 (hc4.push.push.push.push.push) rfl) (P_some rfl (O_cons (O_call (all := [pv1, .int .i64 x1.Account]) rfl rfl rfl ?_)))))))))))))
      refine Fn.seg (L2 := (so4 :: [(g1, .cells #[.int .i64 p1.ID, .int .i64 p1.At, .slice A2 p1.Lines.length c2] 24 (0, 0))] :: ch1 :: ch2 :: ch3 :: L)) (SegSub.sel _ [some 1, some 0, some 2, some 3, some 4] 5) ?_
      obtain ⟨⟨r9, r10⟩, hx7, hb2872⟩ := obind hb2872
      replace hb2872 := oun_mk hb2872
      refine ledger_Ledger_Balance_fn hP4 hx7 (fun so5 hP5 => P_some rfl (O_cons (O_bsl (z := [.int .i64 0]) rfl rfl rfl rfl rfl rfl rfl (F_cons (cells' := [.int .i64 r9]) rfl rfl rfl rfl (F_nil (fun g2 => P_some rfl (O_cons (O_append rfl ?_))))))))
      obtain ⟨l2, hz1, hb2872⟩ := obind hb2872
      refine sem_appR (r := rInt) Tt_ok rfl rfl rfl rfl (by decide) rfl rfl 5 rfl hO3 rfl (Own.rds (L := ([(g2, .cells #[.int .i64 r9] 3 (0, 0))] :: so5 :: [(g1, .cells #[.int .i64 p1.ID, .int .i64 p1.At, .slice A2 p1.Lines.length c2] 24 (0, 0))] :: ch1 :: ch2 :: ch3 :: L)) (Own.lit (r := rInt) (e := 3) (g := g2) (xs := [r9]) (cs := [.int .i64 r9]) (css := [[.int .i64 r9]]) rfl (All2.cons (rfl) (All2.nil)) rfl rfl) 0 rfl) hz1 fun A7 c7 ch4 hO4 => P_some rfl (O_cons (O_read rfl (R_assign rfl (P_some rfl (O_nil (hK2882 _ _ _ (WP.region Tt_ok (O_cons (O_read rfl (R_move rfl (P_some rfl (O_cons ?_))))))))))))
      refine O_read rfl (R_add rfl rfl (P_some rfl (O_cons (O_read rfl (R_assign rfl (P_some rfl (O_nil ?_)))))))
      have e_ := Option.some.inj hb2872
      subst e_
      exact ⟨_, rfl, so5, A7, c7, ch4, SubFr.of ⟨rfl, rfl, rfl, rfl, rfl, rfl, trivial⟩, SegSub.sel _ [some 2, some 1, some 3, some 4, some 5] 6, (hP5), (hO4)⟩
    replace hb2872 := cond_f hc3 hb2872
    refine WP.exit (B_here ?_)
    have e_ := Option.some.inj hb2872
    subst e_
    have hq_ := hq2872 _ rfl
    subst hq_
    exact ⟨q1, balances1, so4, A6, c6, ch3, rfl, SubFr.of ⟨rfl, rfl, rfl, rfl, rfl, trivial⟩, SegSub.sel _ [some 0, some 1, some 2, some 3, some 4] 5, (hP4), (hO3)⟩
  rintro fr2852 μ2852 L2852 hm2852 ⟨q2, balances2, so6, A8, c8, ch5, ho2852, hF2852, hS2852, hP6, hO5⟩
  subst ho2852
  replace h := oun_mk h
  replace hA1 := hA1.mono hm2852
  replace hA2 := hA2.mono hm2852
  replace hP1 := hP1.mono hm2852
  replace hA3 := hA3.mono hm2852
  replace hO1 := hO1.mono hm2852
  replace hP2 := hP2.mono hm2852
  replace hO2 := hO2.mono hm2852
  replace hP3 := hP3.mono hm2852
  refine hK2850 _ _ _ (WP.at hF2852 hS2852 (WP.seq_k (fun K2897 hK2897 => WP.seq_k (fun K2898 hK2898 => WP.region Tt_ok (O_cons (O_read rfl (R_move rfl (P_some rfl (O_cons (O_read rfl (R_loadA rfl rfl rfl rfl (LA_ (vs := [.int .i64 p1.ID, .int .i64 p1.At, .slice A2 p1.Lines.length c2]) 0 0 rfl rfl rfl rfl (P_some rfl ?_)))))))))))))
  refine O_cons (O_call (all := [pv1, .agg #[.int .i64 p1.ID, .int .i64 p1.At, .slice A2 p1.Lines.length c2]]) rfl rfl rfl (Fn.seg (L2 := (so6 :: [(g1, .cells #[.int .i64 p1.ID, .int .i64 p1.At, .slice A2 p1.Lines.length c2] 24 (0, 0))] :: ch1 :: ch2 :: ch5 :: L)) (SegSub.sel _ [some 1, some 0, some 2, some 3, some 4] 5) ?_))
  obtain ⟨⟨r11, r12⟩, hx8, h⟩ := obind h
  replace h := oun_mk h
  refine ledger_Ledger_Post_fn hP6 hl2 hA2 hx8 (fun v5 so7 hm_4 hP7 => ?_)
  replace hA1 := hA1.mono hm_4
  replace hA2 := hA2.mono hm_4
  replace hP1 := hP1.mono hm_4
  replace hA3 := hA3.mono hm_4
  replace hO1 := hO1.mono hm_4
  replace hP2 := hP2.mono hm_4
  replace hO2 := hO2.mono hm_4
  replace hP3 := hP3.mono hm_4
  replace hP6 := hP6.mono hm_4
  replace hO5 := hO5.mono hm_4
  refine P_some rfl (O_cons (O_read rfl (R_eqlD rfl rfl (P_some rfl (O_nil (hK2898 _ _ _ ?_))))))
  refine W_cond_v (b := (decide (r11 = 0))) rfl (fun hc5 => ?_) (fun hc5 => ?_)
  · replace h := cond_t hc5 h
    refine WP.seq_k (fun K2905 hK2905 => WP.region Tt_ok (O_cons (O_read rfl (R_move rfl (P_some rfl (O_cons (O_call (all := [pv1]) rfl rfl rfl ?_)))))))
    obtain ⟨⟨r13, r14⟩, hx9, h⟩ := obind h
    replace h := oun_mk h
    refine ledger_Ledger_Postings_fn hP7 hx9 (fun v6 A9 c9 ch6 so8 hm_5 hO6 hP8 => ?_)
    replace hA1 := hA1.mono hm_5
    replace hA2 := hA2.mono hm_5
    replace hP1 := hP1.mono hm_5
    replace hA3 := hA3.mono hm_5
    replace hO1 := hO1.mono hm_5
    replace hP2 := hP2.mono hm_5
    replace hO2 := hO2.mono hm_5
    replace hP3 := hP3.mono hm_5
    replace hP6 := hP6.mono hm_5
    replace hO5 := hO5.mono hm_5
    replace hP7 := hP7.mono hm_5
    refine P_some rfl (O_cons (O_read rfl (R_assign rfl (P_some rfl (O_nil (hK2905 _ _ _ (WP.seq_k (fun K2914 hK2914 => ?_))))))))
    obtain ⟨o2919, h2919, h⟩ := obind h
    refine WP.cutK (fun fr_ μ_ L_ => ∃ (v8 : Bool), v8 = o2919 ∧ SubFr [(4, .bool v8)] fr_ ∧ SegSub (L) L_) ?_ ?_
    · refine WP.drawn (id := 12) (l' := List.replicate 27 true) wide Tt_ok _ Kept.refl [(true, 0), (true, 1), (true, 2), (true, 3), (true, 4), (true, 5), (true, 6), (true, 7), (true, 8), (true, 9), (true, 10), (true, 11), (false, 12), (true, 13), (true, 14), (true, 15), (true, 16), (true, 17), (true, 18), (true, 19), (true, 20), (false, 21), (true, 22), (true, 23), (false, 24), (true, 25), (true, 26)] (by kernel_rfl) (by kernel_rfl) rfl (PL_t rfl (R_move rfl (P_some rfl (PL_t rfl (R_lenS rfl rfl rfl (P_some rfl (PL_t rfl (R_move rfl (P_some rfl (PL_t rfl (R_lenS rfl rfl rfl (P_some rfl (PL_t rfl ?_)))))))))))))
      refine R_add rfl rfl (P_some rfl (PL_t rfl (R_eqlD rfl rfl (P_some rfl (PL_t rfl (R_move rfl (P_some rfl ?_)))))))
      refine PL_tv (z := (decide (((r13.length : Nat) : Int) = (w64 (((r5.length : Nat) : Int) + 1))))) rfl rfl rfl (fun hc6 => ?_) (fun hc6 => ?_)
      · replace h2919 := cond_t hc6 h2919
        refine R_move rfl (P_some rfl (PL_tY rfl rfl rfl hc6 (R_move rfl (P_some rfl (PL_tY rfl rfl rfl hc6 (R_lenS rfl rfl rfl (P_some rfl (PL_tY rfl rfl rfl hc6 ?_))))))))
        obtain ⟨l3, hs1, h2919⟩ := obind h2919
        refine R_slHiS rfl rfl rfl rfl rfl rfl (Own.lenOk hO6).1 hs1 ?_
        have hA5 := Rds.pre (Own.rds (L := (ch6 :: so8 :: [(g1, .cells #[.int .i64 p1.ID, .int .i64 p1.At, .slice A2 p1.Lines.length c2] 24 (0, 0))] :: ch1 :: ch2 :: ch5 :: L)) hO6 0 rfl) hs1
        have hl4 := preLen (Own.lenOk hO6) hs1
        refine P_some rfl (PL_tY rfl rfl rfl hc6 (R_move rfl (P_some rfl (PL_fY rfl rfl rfl hc6 (O_call (all := [.slice A9 l3.length c9, .slice A4 r5.length c4]) rfl rfl rfl ?_)))))
        obtain ⟨r15, hx10, h2919⟩ := obind h2919
        refine recyclingref48_Same_fn hl4 hA5 (Own.lenOk hO1) (Own.rds (L := (ch6 :: so8 :: [(g1, .cells #[.int .i64 p1.ID, .int .i64 p1.At, .slice A2 p1.Lines.length c2] 24 (0, 0))] :: ch1 :: ch2 :: ch5 :: L)) hO1 3 rfl) hx10 (?_)
        refine ⟨Kept.refl, ?_⟩
        refine P_some rfl (PL_t rfl (R_pick_T rfl hc6 rfl (P_some rfl (PL_t rfl (R_move rfl (P_some rfl ?_))))))
        refine PL_tv (z := r15) rfl rfl rfl (fun hc7 => ?_) (fun hc7 => ?_)
        · replace h2919 := cond_t hc7 h2919
          refine R_move rfl (P_some rfl (PL_tY rfl rfl rfl hc7 (R_move rfl (P_some rfl (PL_tY rfl rfl rfl hc7 (R_lenS rfl rfl rfl (P_some rfl (PL_tY rfl rfl rfl hc7 ?_))))))))
          obtain ⟨x2, hx11, h2919⟩ := obind h2919
          obtain ⟨a2, cs2, hA6, hr2, _, hc8⟩ := Rds.getI (Own.rds (L := (ch6 :: so8 :: [(g1, .cells #[.int .i64 p1.ID, .int .i64 p1.At, .slice A2 p1.Lines.length c2] 24 (0, 0))] :: ch1 :: ch2 :: ch5 :: L)) hO6 0 rfl) hx11
          obtain ⟨A10, c10, rfl, hl5, hA7⟩ := hr2
          refine R_iaG rfl rfl rfl rfl rfl rfl ⟨(getI_lt hx11).1, (getI_lt hx11).2.1⟩ hA6 (P_some rfl (PL_tY rfl rfl rfl hc7 (R_loadA rfl rfl rfl rfl (Ex.mk [.int .i64 x2.ID, .int .i64 x2.At, .slice A10 x2.Lines.length c10] ⟨rfl, hc8⟩ (P_some rfl (PL_tY rfl rfl rfl hc7 (R_loadA rfl rfl rfl rfl (LA_ (vs := [.int .i64 p1.ID, .int .i64 p1.At, .slice A2 p1.Lines.length c2]) 2 0 rfl rfl rfl rfl (P_some rfl (PL_fY rfl rfl rfl hc7 (O_call (all := [.agg #[.int .i64 x2.ID, .int .i64 x2.At, .slice A10 x2.Lines.length c10], .agg #[.int .i64 p1.ID, .int .i64 p1.At, .slice A2 p1.Lines.length c2]]) rfl rfl rfl ?_)))))))))))
          obtain ⟨r16, hx12, h2919⟩ := obind h2919
          refine recyclingref48_SameOne_fn hl5 hA7 hl2 hA2 hx12 (?_)
          refine ⟨Kept.refl, ?_⟩
          refine P_some rfl (PL_t rfl (R_pick_T rfl hc7 rfl (P_some rfl (PL_t rfl (R_move rfl (P_some rfl ?_))))))
          refine PL_fv (z := r16) rfl rfl rfl (fun hc9 => ?_) (fun hc9 => ?_)
          · replace h2919 := cond_t hc9 h2919
            apply O_call (all := []); exact rfl; exact rfl; exact rfl
            obtain ⟨r17, hx13, h2919⟩ := obind h2919
            refine recyclinglaw48_awake_fn  hx13 (fun v7 hm_6 => ?_)
            replace hA1 := hA1.mono hm_6
            replace hA2 := hA2.mono hm_6
            replace hP1 := hP1.mono hm_6
            replace hA3 := hA3.mono hm_6
            replace hO1 := hO1.mono hm_6
            replace hP2 := hP2.mono hm_6
            replace hO2 := hO2.mono hm_6
            replace hP3 := hP3.mono hm_6
            replace hP6 := hP6.mono hm_6
            replace hO5 := hO5.mono hm_6
            replace hP7 := hP7.mono hm_6
            replace hO6 := hO6.mono hm_6
            replace hP8 := hP8.mono hm_6
            replace hA5 := hA5.mono hm_6
            replace hA7 := hA7.mono hm_6
            replace hc8 := hc8.lift hm_6
            refine ⟨Kept.refl, ?_⟩
            refine P_some rfl (PL_t rfl (R_pick_T rfl hc9 rfl (P_some rfl (PL_t rfl (R_assign rfl (P_some rfl (PL_nil (AN.done0 (by kernel_rfl) ?_))))))))
            have e_ := Option.some.inj h2919
            subst e_
            exact ⟨r17, rfl, SubFr.of ⟨rfl, trivial⟩, SegSub.sel _ [] 6⟩
          replace h2919 := cond_f hc9 h2919
          refine P_some rfl (PL_t rfl (R_pick_F rfl hc9 rfl (P_some rfl (PL_t rfl (R_assign rfl (P_some rfl (PL_nil (AN.done0 (by kernel_rfl) ?_))))))))
          have e_ := Option.some.inj h2919
          subst e_
          exact ⟨false, rfl, SubFr.of ⟨rfl, trivial⟩, SegSub.sel _ [] 6⟩
        replace h2919 := cond_f hc7 h2919
        refine P_some rfl (PL_tN rfl rfl rfl hc7 (P_some rfl (PL_tN rfl rfl rfl hc7 (P_some rfl (PL_tN rfl rfl rfl hc7 (P_some rfl (PL_tN rfl rfl rfl hc7 (P_some rfl (PL_tN rfl rfl rfl hc7 (P_some rfl (PL_fN rfl rfl rfl hc7 (P_some rfl (PL_t rfl ?_)))))))))))))
        refine R_pick_F rfl hc7 rfl (P_some rfl (PL_t rfl (R_move rfl (P_some rfl (PL_fN rfl rfl rfl rfl (P_some rfl (PL_t rfl (R_pick_F rfl rfl rfl (P_some rfl (PL_t rfl (R_assign rfl (P_some rfl (PL_nil ?_)))))))))))))
        apply AN.done0; kernel_rfl
        have e_ := Option.some.inj h2919
        subst e_
        exact ⟨false, rfl, SubFr.of ⟨rfl, trivial⟩, SegSub.sel _ [] 6⟩
      replace h2919 := cond_f hc6 h2919
      refine P_some rfl (PL_tN rfl rfl rfl hc6 (P_some rfl (PL_tN rfl rfl rfl hc6 (P_some rfl (PL_tN rfl rfl rfl hc6 (P_some rfl (PL_tN rfl rfl rfl hc6 (P_some rfl (PL_fN rfl rfl rfl hc6 (P_some rfl (PL_t rfl (R_pick_F rfl hc6 rfl (P_some rfl ?_)))))))))))))
      refine PL_t rfl (R_move rfl (P_some rfl (PL_tN rfl rfl rfl rfl (P_some rfl (PL_tN rfl rfl rfl rfl (P_some rfl (PL_tN rfl rfl rfl rfl (P_some rfl (PL_tN rfl rfl rfl rfl (P_some rfl (PL_tN rfl rfl rfl rfl (P_some rfl (PL_tN rfl rfl rfl rfl ?_)))))))))))))
      refine P_some rfl (PL_fN rfl rfl rfl rfl (P_some rfl (PL_t rfl (R_pick_F rfl rfl rfl (P_some rfl (PL_t rfl (R_move rfl (P_some rfl (PL_fN rfl rfl rfl rfl (P_some rfl (PL_t rfl (R_pick_F rfl rfl rfl (P_some rfl ?_)))))))))))))
      refine PL_t rfl (R_assign rfl (P_some rfl (PL_nil (AN.done0 (by kernel_rfl) ?_))))
      have e_ := Option.some.inj h2919
      subst e_
      exact ⟨false, rfl, SubFr.of ⟨rfl, trivial⟩, SegSub.sel _ [] 6⟩
    rintro fr2919 μ2919 L2919 hm2919 ⟨v8, ho2919, hF2919, hS2919⟩
    subst ho2919
    replace hA1 := hA1.mono hm2919
    replace hA2 := hA2.mono hm2919
    replace hP1 := hP1.mono hm2919
    replace hA3 := hA3.mono hm2919
    replace hO1 := hO1.mono hm2919
    replace hP2 := hP2.mono hm2919
    replace hO2 := hO2.mono hm2919
    replace hP3 := hP3.mono hm2919
    replace hP6 := hP6.mono hm2919
    replace hO5 := hO5.mono hm2919
    replace hP7 := hP7.mono hm2919
    replace hO6 := hO6.mono hm2919
    replace hP8 := hP8.mono hm2919
    refine hK2914 _ _ _ (WP.at hF2919 hS2919 (WP.ret ?_))
    have e_ := Option.some.inj h
    subst e_
    refine S_tmp rfl (S_nil (Upd.selS [] 0 ?_))
    exact Upd.done (hR _ (Gh.le.trans hm2821 (Gh.le.trans hm_2 (Gh.le.trans hm_3 (Gh.le.trans hm2852 (Gh.le.trans hm_4 (Gh.le.trans hm_5 (hm2919))))))))
  replace h := cond_f hc5 h
  refine WP.skip (hK2897 _ _ _ (WP.seq_k (fun K2928 hK2928 => WP.seq_k (fun K2929 hK2929 => WP.region Tt_ok (O_cons (O_read rfl (R_assign rfl (P_some rfl (O_nil (hK2929 _ _ _ ?_))))))))))
  obtain ⟨o2930, h2930, h⟩ := obind h
  refine WP.cutK (fun fr_ μ_ L_ => ∃ (q4 : T_ledger_Ledger) (so11 : Seg), (.inl q4) = o2930 ∧ SubFr [(5, pv1), (7, .slice A4 r5.length c4), (8, .slice A5 r7.length c5)] fr_ ∧ SegSub (so11 :: ch1 :: ch2 :: L) L_ ∧ Obj_ledger_Ledger μ_ pv1 q4 so11) ?_ ?_
  · refine WP.block (WP.iter h2930 (fun (j_ : T_ledger_Ledger × Int) fr_ μ_ L_ => ounP j_ fun q3 i2 => ∃ (so9 : Seg), SubFr [(3, .pointer (some ⟨g1, 0, none⟩)), (5, pv1), (7, .slice A4 r5.length c4), (8, .slice A5 r7.length c5), (9, .slice A8 balances2.length c8), (12, .int .i64 i2)] fr_ ∧ SegSub ([(g1, .cells #[.int .i64 p1.ID, .int .i64 p1.At, .slice A2 p1.Lines.length c2] 24 (0, 0))] :: so9 :: ch1 :: ch2 :: ch5 :: L) L_ ∧ Obj_ledger_Ledger μ_ pv1 q3 so9) ⟨so7, SubFr.of ⟨rfl, rfl, rfl, rfl, rfl, rfl, trivial⟩, SegSub.sel _ [some 1, some 0, some 2, some 3, some 4] 5, (hP7)⟩ ?_)
    rintro ⟨q3, i2⟩ q2958 fr2958 μ2958 L2958 hm2958 ⟨so9, hF2958, hS2958, hP9⟩ hb2958 hq2958
    unfold recyclinglaw48_LedgerFails_l2 at hb2958
    replace hb2958 := oun_mk hb2958
    replace hA1 := hA1.mono hm2958
    replace hA2 := hA2.mono hm2958
    replace hP1 := hP1.mono hm2958
    replace hA3 := hA3.mono hm2958
    replace hO1 := hO1.mono hm2958
    replace hP2 := hP2.mono hm2958
    replace hO2 := hO2.mono hm2958
    replace hP3 := hP3.mono hm2958
    replace hP6 := hP6.mono hm2958
    replace hO5 := hO5.mono hm2958
    replace hP7 := hP7.mono hm2958
    refine WP.at hF2958 hS2958 (WP.seq_k (fun K2964 hK2964 => WP.seq_k (fun K2965 hK2965 => WP.region Tt_ok (O_cons (O_read rfl (R_move rfl (P_some rfl (O_cons (O_read rfl (R_fa0 (o' := 2) rfl rfl rfl rfl rfl rfl (P_some rfl (O_cons (O_read rfl ?_)))))))))))))
    refine R_load rfl rfl rfl (Ex.mk _ (Cell.seg 0 0 rfl rfl rfl) (P_some rfl (O_cons (O_read rfl (R_lenS rfl rfl rfl (P_some rfl (O_cons (O_read rfl (R_lssD rfl rfl (P_some rfl (O_nil (hK2965 _ _ _ ?_))))))))))))
    refine W_cond_v (b := (decide (i2 < ((p1.Lines.length : Nat) : Int)))) rfl (fun hc10 => ?_) (fun hc10 => ?_)
    · replace hb2958 := cond_t hc10 hb2958
      refine WP.skip (hK2964 _ _ _ (WP.seq_k (fun K2966 hK2966 => WP.block (WP.seq_k (fun K2967 hK2967 => WP.drawn (id := 16) (l' := List.replicate 13 true) wide Tt_ok ([(g1, .cells #[.int .i64 p1.ID, .int .i64 p1.At, .slice A2 p1.Lines.length c2] 24 (0, 0))] :: ch1 :: ch2 :: ch5 :: L) (Kept.ofT (keep := [[(g1, .cells #[.int .i64 p1.ID, .int .i64 p1.At, .slice A2 p1.Lines.length c2] 24 (0, 0))], ch1, ch2, ch5]) (A := [[(g1, .cells #[.int .i64 p1.ID, .int .i64 p1.At, .slice A2 p1.Lines.length c2] 24 (0, 0))], so9, ch1, ch2, ch5]) (by simp)) [(true, 0), (true, 1), (true, 2), (true, 3), (true, 4), (true, 5), (true, 6), (true, 8), (true, 9), (true, 10), (true, 11), (false, 7), (true, 12)] (by kernel_rfl) (by kernel_rfl) rfl ?_)))))
      refine PL_t rfl (R_move rfl (P_some rfl (PL_t rfl (R_fa0 (o' := 2) rfl rfl rfl rfl rfl rfl (P_some rfl (PL_t rfl (R_load rfl rfl rfl (Ex.mk _ (Cell.seg 0 0 rfl rfl rfl) (P_some rfl (PL_t rfl (R_move rfl (P_some rfl (PL_t rfl ?_)))))))))))))
      obtain ⟨x3, hx14, hb2958⟩ := obind hb2958
      obtain ⟨a3, cs3, hA8, hr3, _, hc11⟩ := Rds.getI (ArrR.rds hA2 L) hx14
      obtain rfl := hr3
      refine R_iaG rfl rfl rfl rfl rfl rfl ⟨(getI_lt hx14).1, (getI_lt hx14).2.1⟩ hA8 (P_some rfl (PL_t rfl (R_faz rfl rfl rfl rfl rfl (P_some rfl (PL_t rfl (R_load rfl rfl rfl (Ex.mk _ (Cell.of_cells0 (hc11.push.push.push.push) rfl) (P_some rfl (PL_t rfl (R_move rfl (P_some rfl (PL_t rfl (R_move rfl ?_)))))))))))))
      refine P_some rfl (PL_t rfl ?_)
      obtain ⟨x4, hx15, hb2958⟩ := obind hb2958
      obtain ⟨a4, cs4, hA9, hr4, _, hc12⟩ := Rds.getI (Own.rds (L := ([(g1, .cells #[.int .i64 p1.ID, .int .i64 p1.At, .slice A2 p1.Lines.length c2] 24 (0, 0))] :: ch1 :: ch2 :: ch5 :: L)) hO5 3 rfl) hx15
      obtain rfl := hr4
      refine R_iaG rfl rfl rfl rfl rfl rfl ⟨(getI_lt hx15).1, (getI_lt hx15).2.1⟩ hA9 (P_some rfl (PL_t rfl (R_load rfl rfl rfl (Ex.mk _ (Cell.of_cells0 hc12 rfl) (P_some rfl (PL_f rfl (O_call (all := [pv1, .int .i64 x3.Account]) rfl rfl rfl (Fn.seg (L2 := (so9 :: [(g1, .cells #[.int .i64 p1.ID, .int .i64 p1.At, .slice A2 p1.Lines.length c2] 24 (0, 0))] :: ch1 :: ch2 :: ch5 :: L)) (SegSub.sel _ [some 1, some 0, some 2, some 3, some 4] 5) ?_))))))))
      obtain ⟨⟨r18, r19⟩, hx16, hb2958⟩ := obind hb2958
      replace hb2958 := oun_mk hb2958
      refine ledger_Ledger_Balance_fn hP9 hx16 (fun so10 hP10 => ?_)
      refine ⟨Kept.ofT (keep := [[(g1, .cells #[.int .i64 p1.ID, .int .i64 p1.At, .slice A2 p1.Lines.length c2] 24 (0, 0))], ch1, ch2, ch5]) (A := [so10, [(g1, .cells #[.int .i64 p1.ID, .int .i64 p1.At, .slice A2 p1.Lines.length c2] 24 (0, 0))], ch1, ch2, ch5]) (by simp), ?_⟩
      refine P_some rfl (PL_t rfl (R_neqD rfl rfl (P_some rfl (PL_nil (AN.done0 (by kernel_rfl) (hK2967 _ _ _ ?_))))))
      refine W_cond_v (b := !(decide (r18 = x4))) rfl (fun hc13 => ?_) (fun hc13 => ?_)
      · replace hb2958 := cond_t hc13 hb2958
        refine WP.seq_k (fun K2986 hK2986 => WP.region Tt_ok (O_cons (O_read rfl (R_assign rfl (P_some rfl (O_nil (hK2986 _ _ _ (WP.ret ?_))))))))
        have e_ := Option.some.inj hb2958
        subst e_
        have hq_ := hq2958 _ rfl
        subst hq_
        replace h := osum_r h
        have e_ := Option.some.inj h
        subst e_
        refine S_tmp rfl (S_nil (Upd.selS [] 5 ?_))
        exact Upd.done (hR _ (Gh.le.trans hm2821 (Gh.le.trans hm_2 (Gh.le.trans hm_3 (Gh.le.trans hm2852 (Gh.le.trans hm_4 (hm2958)))))))
      replace hb2958 := cond_f hc13 hb2958
      refine WP.skip (hK2966 _ _ _ (WP.region Tt_ok (O_cons (O_read rfl (R_move rfl (P_some rfl (O_cons (O_read rfl (R_add rfl rfl (P_some rfl (O_cons (O_read rfl (R_assign rfl ?_)))))))))))))
      refine P_some rfl (O_nil ?_)
      have e_ := Option.some.inj hb2958
      subst e_
      exact ⟨_, rfl, so10, SubFr.of ⟨rfl, rfl, rfl, rfl, rfl, rfl, trivial⟩, SegSub.sel _ [some 1, some 0, some 2, some 3, some 4] 5, (hP10)⟩
    replace hb2958 := cond_f hc10 hb2958
    refine WP.exit (B_here ?_)
    have e_ := Option.some.inj hb2958
    subst e_
    have hq_ := hq2958 _ rfl
    subst hq_
    exact ⟨q3, so9, rfl, SubFr.of ⟨rfl, rfl, rfl, trivial⟩, SegSub.sel _ [some 1, some 2, some 3] 5, (hP9)⟩
  rintro fr2930 μ2930 L2930 hm2930 ⟨q4, so11, ho2930, hF2930, hS2930, hP11⟩
  subst ho2930
  replace h := osum_l h
  replace hA1 := hA1.mono hm2930
  replace hA2 := hA2.mono hm2930
  replace hP1 := hP1.mono hm2930
  replace hA3 := hA3.mono hm2930
  replace hO1 := hO1.mono hm2930
  replace hP2 := hP2.mono hm2930
  replace hO2 := hO2.mono hm2930
  replace hP3 := hP3.mono hm2930
  replace hP6 := hP6.mono hm2930
  replace hO5 := hO5.mono hm2930
  replace hP7 := hP7.mono hm2930
  refine hK2928 _ _ _ (WP.at hF2930 hS2930 (WP.seq_k (fun K2988 hK2988 => ?_)))
  obtain ⟨o2989, h2989, h⟩ := obind h
  refine WP.cutK (fun fr_ μ_ L_ => ∃ (v11 : Bool), v11 = o2989 ∧ SubFr [(4, .bool v11)] fr_ ∧ SegSub (L) L_) ?_ ?_
  · refine WP.region Tt_ok (O_cons (O_read rfl (R_move rfl (P_some rfl (O_cons (O_call (all := [pv1]) rfl rfl rfl ?_))))))
    obtain ⟨⟨r20, r21⟩, hx17, h2989⟩ := obind h2989
    replace h2989 := oun_mk h2989
    refine ledger_Ledger_Postings_fn hP11 hx17 (fun v9 A11 c11 ch7 so12 hm_7 hO7 hP12 => ?_)
    replace hA1 := hA1.mono hm_7
    replace hA2 := hA2.mono hm_7
    replace hP1 := hP1.mono hm_7
    replace hA3 := hA3.mono hm_7
    replace hO1 := hO1.mono hm_7
    replace hP2 := hP2.mono hm_7
    replace hO2 := hO2.mono hm_7
    replace hP3 := hP3.mono hm_7
    replace hP6 := hP6.mono hm_7
    replace hO5 := hO5.mono hm_7
    replace hP7 := hP7.mono hm_7
    replace hP11 := hP11.mono hm_7
    refine P_some rfl (O_cons (O_read rfl (R_move rfl (P_some rfl (O_cons (O_call (all := [.slice A11 r20.length c11, .slice A4 r5.length c4]) rfl rfl rfl ?_))))))
    obtain ⟨r22, hx18, h2989⟩ := obind h2989
    refine recyclingref48_Same_fn (Own.lenOk hO7) (Own.rds (L := (ch7 :: so12 :: ch1 :: ch2 :: L)) hO7 0 rfl) (Own.lenOk hO1) (Own.rds (L := (ch7 :: so12 :: ch1 :: ch2 :: L)) hO1 2 rfl) hx18 ((P_some rfl (O_cons (O_read rfl (R_move rfl (P_some rfl ?_))))))
    refine O_gv (z := r22) rfl rfl (fun hc14 => ?_) (fun hc14 => ?_)
    · replace h2989 := cond_t hc14 h2989
      refine O_read rfl (R_move rfl (P_some rfl (O_gY rfl rfl hc14 (O_call (all := [pv1]) rfl rfl rfl (Fn.seg (L2 := (so12 :: ch7 :: ch1 :: ch2 :: L)) (SegSub.sel _ [some 1, some 0, some 2, some 3] 4) ?_)))))
      obtain ⟨⟨r23, r24⟩, hx19, h2989⟩ := obind h2989
      replace h2989 := oun_mk h2989
      refine ledger_Ledger_Accounts_fn hP12 hx19 (fun A12 c12 ch8 so13 hO8 hP13 => P_some rfl (O_gY rfl rfl hc14 (O_read rfl (R_move rfl (P_some rfl (O_gY rfl rfl hc14 (O_call (all := [.slice A12 r23.length c12, .slice A5 r7.length c5]) rfl rfl rfl ?_)))))))
      obtain ⟨r25, hx20, h2989⟩ := obind h2989
      refine recyclingref48_SameInts_fn (Own.lenOk hO8) (Own.rds (L := (ch8 :: so13 :: ch7 :: ch1 :: ch2 :: L)) hO8 0 rfl) (Own.lenOk hO2) (Own.rds (L := (ch8 :: so13 :: ch7 :: ch1 :: ch2 :: L)) hO2 4 rfl) hx20 ((P_some rfl (O_cons (O_read rfl (R_pick_T rfl hc14 rfl (P_some rfl (O_cons (O_read rfl (R_move rfl (P_some rfl ?_))))))))))
      refine O_gv (z := r25) rfl rfl (fun hc15 => ?_) (fun hc15 => ?_)
      · replace h2989 := cond_t hc15 h2989
        apply O_call (all := []); exact rfl; exact rfl; exact rfl
        obtain ⟨r26, hx21, h2989⟩ := obind h2989
        refine recyclinglaw48_awake_fn  hx21 (fun v10 hm_8 => ?_)
        replace hA1 := hA1.mono hm_8
        replace hA2 := hA2.mono hm_8
        replace hP1 := hP1.mono hm_8
        replace hA3 := hA3.mono hm_8
        replace hO1 := hO1.mono hm_8
        replace hP2 := hP2.mono hm_8
        replace hO2 := hO2.mono hm_8
        replace hP3 := hP3.mono hm_8
        replace hP6 := hP6.mono hm_8
        replace hO5 := hO5.mono hm_8
        replace hP7 := hP7.mono hm_8
        replace hP11 := hP11.mono hm_8
        replace hO7 := hO7.mono hm_8
        replace hP12 := hP12.mono hm_8
        replace hO8 := hO8.mono hm_8
        replace hP13 := hP13.mono hm_8
        refine P_some rfl (O_cons (O_read rfl (R_pick_T rfl hc15 rfl (P_some rfl (O_cons (O_read rfl (R_assign rfl (P_some rfl (O_nil ?_)))))))))
        have e_ := Option.some.inj h2989
        subst e_
        exact ⟨r26, rfl, SubFr.of ⟨rfl, trivial⟩, SegSub.sel _ [] 5⟩
      replace h2989 := cond_f hc15 h2989
      refine P_some rfl (O_cons (O_read rfl (R_pick_F rfl hc15 rfl (P_some rfl (O_cons (O_read rfl (R_assign rfl (P_some rfl (O_nil ?_)))))))))
      have e_ := Option.some.inj h2989
      subst e_
      exact ⟨false, rfl, SubFr.of ⟨rfl, trivial⟩, SegSub.sel _ [] 5⟩
    replace h2989 := cond_f hc14 h2989
    refine P_some rfl (O_gN rfl rfl hc14 (P_some rfl (O_gN rfl rfl hc14 (P_some rfl (O_gN rfl rfl hc14 (P_some rfl (O_cons (O_read rfl (R_pick_F rfl hc14 rfl (P_some rfl (O_cons (O_read rfl (R_move rfl ?_)))))))))))))
    refine P_some rfl (O_gN rfl rfl rfl (P_some rfl (O_cons (O_read rfl (R_pick_F rfl rfl rfl (P_some rfl (O_cons (O_read rfl (R_assign rfl (P_some rfl (O_nil ?_)))))))))))
    have e_ := Option.some.inj h2989
    subst e_
    exact ⟨false, rfl, SubFr.of ⟨rfl, trivial⟩, SegSub.sel _ [] 4⟩
  rintro fr2989 μ2989 L2989 hm2989 ⟨v11, ho2989, hF2989, hS2989⟩
  subst ho2989
  replace hA1 := hA1.mono hm2989
  replace hA2 := hA2.mono hm2989
  replace hP1 := hP1.mono hm2989
  replace hA3 := hA3.mono hm2989
  replace hO1 := hO1.mono hm2989
  replace hP2 := hP2.mono hm2989
  replace hO2 := hO2.mono hm2989
  replace hP3 := hP3.mono hm2989
  replace hP6 := hP6.mono hm2989
  replace hO5 := hO5.mono hm2989
  replace hP7 := hP7.mono hm2989
  replace hP11 := hP11.mono hm2989
  refine hK2988 _ _ _ (WP.at hF2989 hS2989 (WP.ret ?_))
  have e_ := Option.some.inj h
  subst e_
  refine S_tmp rfl (S_nil (Upd.selS [] 0 ?_))
  exact Upd.done (hR _ (Gh.le.trans hm2821 (Gh.le.trans hm_2 (Gh.le.trans hm_3 (Gh.le.trans hm2852 (Gh.le.trans hm_4 (Gh.le.trans hm2930 (hm2989))))))))

theorem ledger_Ledger_Post_nil_fn {μ : Gh} {L : List Seg} {R : Value → Gh → List Seg → Prop}  {p1 : T_api_Posting} {A1 : Option Addr} {c1 : Nat} {res1 : Int}
    (hl1 : p1.Lines.length ≤ c1 ∧ c1 ≤ maxLen) (hA1 : ArrR r_api_Line μ A1 p1.Lines) (h : ledger_Ledger_Post_nil p1 = some res1)
    (hR : R (.int .i64 res1) μ (L)) :
    Fn Try.prog 16 [.pointer none, .agg #[.int .i64 p1.ID, .int .i64 p1.At, .slice A1 p1.Lines.length c1]] μ (L) R := by
  unfold ledger_Ledger_Post_nil at h
  refine Fn.of_bodyD Try.func16 (by kernel_rfl) rfl rfl Try.ntmps16 (by simp) ?_
  simp only [Try.f16, argFr, List.zipIdx, List.map, Nat.reduceAdd]
  refine WPG.seqP (fun K3008 hK3008 => WP.region Tt_ok (O_cons (O_box (cs := #[.pointer none]) rfl rfl (fun g1 => P_some rfl (O_cons (O_box (cs := #[.int .i64 p1.ID, .int .i64 p1.At, .slice A1 p1.Lines.length c1]) rfl rfl (fun g2 => P_some rfl (O_cons (O_alloc (cs := #[.int .i64 0]) rfl rfl (fun g3 => P_some rfl (O_nil (hK3008 _ _ _ (WPG.seqP (fun K3012 hK3012 => ?_))))))))))))))
  refine WP.seq_k (fun K3013 hK3013 => WP.region Tt_ok (O_cons (O_read rfl (R_load rfl rfl rfl (Ex.mk _ (Cell.seg 2 0 rfl rfl rfl) (P_some rfl (O_cons (O_read rfl (R_eqP0 rfl rfl rfl rfl (P_some rfl (O_nil (hK3013 _ _ _ (W_cond_t rfl ?_)))))))))))))
  refine WP.seq_k (fun K3014 hK3014 => WP.region Tt_ok (O_cons (O_store (vs := [.int .i64 14]) rfl rfl rfl rfl rfl rfl (ST_ (L' := ([(g3, .cells #[.int .i64 14] 26 (0, 0))] :: [(g2, .cells #[.int .i64 p1.ID, .int .i64 p1.At, .slice A1 p1.Lines.length c1] 24 (0, 0))] :: [(g1, .cells #[.pointer none] 31 (0, 0))] :: L)) 0 0 rfl rfl rfl rfl (P_none (O_nil (hK3014 _ _ _ (WP.ret (FinG.nil (.inr rfl) Tt_ok ?_)))))))))
  have e_ := Option.some.inj h
  subst e_
  refine S_cell1 rfl rfl rfl (Ex.mk _ (Cell.seg 0 0 rfl rfl rfl) (S_nil (Upd.selS [] 3 ?_)))
  exact Upd.done hR

theorem ledger_Ledger_Balance_nil_fn {μ : Gh} {L : List Seg} {R : Value → Gh → List Seg → Prop}  {account1 : Int}  {res1 : Int}
     (h : ledger_Ledger_Balance_nil account1 = some res1)
    (hR : R (.int .i64 res1) μ (L)) :
    Fn Try.prog 24 [.pointer none, .int .i64 account1] μ (L) R := by
  unfold ledger_Ledger_Balance_nil at h
  refine Fn.of_body Tt_ok Try.func24 (by kernel_rfl) rfl Try.ntmps24 (by simp) ?_
  simp only [Try.f24, argFr, List.zipIdx, List.map, Nat.reduceAdd]
  refine WP.seq_k (fun K3016 hK3016 => WP.region Tt_ok (O_cons (O_read rfl (R_assign rfl (P_some rfl (O_nil (hK3016 _ _ _ (WP.seq_k (fun K3017 hK3017 => WP.seq_k (fun K3018 hK3018 => WP.region Tt_ok (O_cons (O_read rfl (R_move rfl ?_)))))))))))))
  refine P_some rfl (O_cons (O_read rfl (R_eqP0 rfl rfl rfl rfl (P_some rfl (O_nil (hK3018 _ _ _ (W_cond_t rfl (WP.seq_k (fun K3019 hK3019 => WP.region Tt_ok (O_cons (O_read rfl (R_assign rfl (P_some rfl ?_)))))))))))))
  refine O_nil (hK3019 _ _ _ (WP.ret ?_))
  have e_ := Option.some.inj h
  subst e_
  refine S_tmp rfl (S_nil (Upd.selS [] 0 ?_))
  exact Upd.done hR

theorem ledger_Ledger_At_nil_fn {μ : Gh} {L : List Seg} {R : Value → Gh → List Seg → Prop}  {account1 : Int} {t1 : Int}  {res1 : Int}
     (h : ledger_Ledger_At_nil account1 t1 = some res1)
    (hR : R (.int .i64 res1) μ (L)) :
    Fn Try.prog 26 [.pointer none, .int .i64 account1, .int .i64 t1] μ (L) R := by
  unfold ledger_Ledger_At_nil at h
  refine Fn.of_body Tt_ok Try.func26 (by kernel_rfl) rfl Try.ntmps26 (by simp) ?_
  simp only [Try.f26, argFr, List.zipIdx, List.map, Nat.reduceAdd]
  refine WP.seq_k (fun K3020 hK3020 => WP.region Tt_ok (O_cons (O_read rfl (R_assign rfl (P_some rfl (O_nil (hK3020 _ _ _ (WP.seq_k (fun K3021 hK3021 => WP.seq_k (fun K3022 hK3022 => WP.region Tt_ok (O_cons (O_read rfl (R_move rfl ?_)))))))))))))
  refine P_some rfl (O_cons (O_read rfl (R_eqP0 rfl rfl rfl rfl (P_some rfl (O_nil (hK3022 _ _ _ (W_cond_t rfl (WP.seq_k (fun K3023 hK3023 => WP.region Tt_ok (O_cons (O_read rfl (R_assign rfl (P_some rfl ?_)))))))))))))
  refine O_nil (hK3023 _ _ _ (WP.ret ?_))
  have e_ := Option.some.inj h
  subst e_
  refine S_tmp rfl (S_nil (Upd.selS [] 0 ?_))
  exact Upd.done hR

theorem ledger_Ledger_Postings_nil_fn {μ : Gh} {L : List Seg} {R : Value → Gh → List Seg → Prop}    {res1 : (List T_api_Posting)}
     (h : ledger_Ledger_Postings_nil = some res1)
    (hR : ∀ (A0 : Option Addr) (c0 : Nat) (ch0 : Seg), Own r_api_Posting 24 μ (.slice A0 res1.length c0) res1 ch0 → R (.slice A0 res1.length c0) μ (ch0 :: L)) :
    Fn Try.prog 19 [.pointer none] μ (L) R := by
  unfold ledger_Ledger_Postings_nil at h
  refine Fn.of_body Tt_ok Try.func19 (by kernel_rfl) rfl Try.ntmps19 (by simp) ?_
  simp only [Try.f19, argFr, List.zipIdx, List.map, Nat.reduceAdd]
  refine WP.seq_k (fun K3024 hK3024 => WP.region Tt_ok (O_cons (O_read rfl (R_assign rfl (P_some rfl (O_nil (hK3024 _ _ _ (WP.seq_k (fun K3027 hK3027 => WP.seq_k (fun K3028 hK3028 => WP.region Tt_ok (O_cons (O_read rfl (R_move rfl ?_)))))))))))))
  refine P_some rfl (O_cons (O_read rfl (R_eqP0 rfl rfl rfl rfl (P_some rfl (O_nil (hK3028 _ _ _ (W_cond_t rfl (WP.seq_k (fun K3029 hK3029 => WP.region Tt_ok (O_cons (O_read rfl (R_assign rfl (P_some rfl ?_)))))))))))))
  refine O_nil (hK3029 _ _ _ (WP.ret ?_))
  have e_ := Option.some.inj h
  subst e_
  refine S_tmp rfl (S_nil (Upd.selS [none] 0 ?_))
  exact Upd.done (hR none 0 [] (Own.nil))

theorem ledger_Ledger_Accounts_nil_fn {μ : Gh} {L : List Seg} {R : Value → Gh → List Seg → Prop}    {res1 : (List Int)}
     (h : ledger_Ledger_Accounts_nil = some res1)
    (hR : ∀ (A0 : Option Addr) (c0 : Nat) (ch0 : Seg), Own rInt 3 μ (.slice A0 res1.length c0) res1 ch0 → R (.slice A0 res1.length c0) μ (ch0 :: L)) :
    Fn Try.prog 21 [.pointer none] μ (L) R := by
  unfold ledger_Ledger_Accounts_nil at h
  refine Fn.of_body Tt_ok Try.func21 (by kernel_rfl) rfl Try.ntmps21 (by simp) ?_
  simp only [Try.f21, argFr, List.zipIdx, List.map, Nat.reduceAdd]
  refine WP.seq_k (fun K3033 hK3033 => WP.region Tt_ok (O_cons (O_read rfl (R_assign rfl (P_some rfl (O_nil (hK3033 _ _ _ (WP.seq_k (fun K3036 hK3036 => WP.seq_k (fun K3037 hK3037 => WP.region Tt_ok (O_cons (O_read rfl (R_move rfl ?_)))))))))))))
  refine P_some rfl (O_cons (O_read rfl (R_eqP0 rfl rfl rfl rfl (P_some rfl (O_nil (hK3037 _ _ _ (W_cond_t rfl (WP.seq_k (fun K3038 hK3038 => WP.region Tt_ok (O_cons (O_read rfl (R_assign rfl (P_some rfl ?_)))))))))))))
  refine O_nil (hK3038 _ _ _ (WP.ret ?_))
  have e_ := Option.some.inj h
  subst e_
  refine S_tmp rfl (S_nil (Upd.selS [none] 0 ?_))
  exact Upd.done (hR none 0 [] (Own.nil))

theorem recyclinglaw48_LedgerNil_fn {μ : Gh} {L : List Seg} {R : Value → Gh → List Seg → Prop}  {p1 : T_api_Posting} {account1 : Int} {t1 : Int} {A1 : Option Addr} {c1 : Nat} {res1 : Bool}
    (hl1 : p1.Lines.length ≤ c1 ∧ c1 ≤ maxLen) (hA1 : ArrR r_api_Line μ A1 p1.Lines) (h : recyclinglaw48_LedgerNil p1 account1 t1 = some res1)
    (hR : ∀ (μ' : Gh) , μ.le μ' → R (.bool res1) μ' (L)) :
    Fn Try.prog 10 [.agg #[.int .i64 p1.ID, .int .i64 p1.At, .slice A1 p1.Lines.length c1], .int .i64 account1, .int .i64 t1] μ (L) R := by
  unfold recyclinglaw48_LedgerNil at h
  refine Fn.of_body Tt_ok Try.func10 (by kernel_rfl) rfl Try.ntmps10 (by simp) ?_
  simp only [Try.f10, argFr, List.zipIdx, List.map, Nat.reduceAdd]
  refine WP.seq_k (fun K3043 hK3043 => WP.region Tt_ok (O_cons (O_box (cs := #[.int .i64 p1.ID, .int .i64 p1.At, .slice A1 p1.Lines.length c1]) rfl rfl (fun g1 => P_some rfl (O_cons (O_read rfl (R_assign rfl (P_some rfl (O_nil (hK3043 _ _ _ (WP.seq_k (fun K3045 hK3045 => WP.seq_k (fun K3046 hK3046 => WP.region Tt_ok ?_)))))))))))))
  refine O_cons (O_read rfl (R_fa0 (o' := 2) rfl rfl rfl rfl rfl rfl (P_some rfl (O_cons (O_read rfl (R_load rfl rfl rfl (Ex.mk _ (Cell.seg 0 0 rfl rfl rfl) (P_some rfl (O_cons (O_read rfl (R_lenS rfl rfl rfl (P_some rfl (O_cons ?_)))))))))))))
  refine O_read rfl (R_gtrD rfl rfl (P_some rfl (O_nil (hK3046 _ _ _ ?_))))
  refine W_cond_v (b := (decide (40 < ((p1.Lines.length : Nat) : Int)))) rfl (fun hc1 => ?_) (fun hc1 => ?_)
  · replace h := cond_t hc1 h
    refine WP.seq_k (fun K3047 hK3047 => WP.region Tt_ok (O_cons (O_call (all := []) rfl rfl rfl ?_)))
    obtain ⟨r1, hx1, h⟩ := obind h
    refine recyclinglaw48_awake_fn  hx1 (fun v1 hm_1 => ?_)
    replace hA1 := hA1.mono hm_1
    refine P_some rfl (O_cons (O_read rfl (R_assign rfl (P_some rfl (O_nil (hK3047 _ _ _ (WP.ret ?_)))))))
    have e_ := Option.some.inj h
    subst e_
    refine S_tmp rfl (S_nil (Upd.selS [] 1 ?_))
    exact Upd.done (hR _ (hm_1))
  replace h := cond_f hc1 h
  refine WP.skip (hK3045 _ _ _ (WP.seq_k (fun K3048 hK3048 => WP.region Tt_ok (O_cons (O_read rfl (R_assign rfl (P_some rfl (O_nil (hK3048 _ _ _ (WP.seq_k (fun K3049 hK3049 => ?_)))))))))))
  obtain ⟨o3050, h3050, h⟩ := obind h
  refine WP.cutK (fun fr_ μ_ L_ => ∃ (v3 : Bool), v3 = o3050 ∧ SubFr [(6, .bool v3)] fr_ ∧ SegSub (L) L_) ?_ ?_
  · refine WP.region Tt_ok (O_cons (O_read rfl (R_move rfl (P_some rfl (O_cons (O_read rfl (R_loadA rfl rfl rfl rfl (LA_ (vs := [.int .i64 p1.ID, .int .i64 p1.At, .slice A1 p1.Lines.length c1]) 0 0 rfl rfl rfl rfl (P_some rfl (O_cons (O_call (all := [.pointer none, .agg #[.int .i64 p1.ID, .int .i64 p1.At, .slice A1 p1.Lines.length c1]]) rfl rfl rfl ?_)))))))))))
    obtain ⟨r2, hx2, h3050⟩ := obind h3050
    refine ledger_Ledger_Post_nil_fn hl1 hA1 hx2 ((P_some rfl (O_cons (O_read rfl (R_eqlD rfl rfl (P_some rfl (O_cons (O_read rfl (R_move rfl (P_some rfl ?_))))))))))
    refine O_gv (z := (decide (r2 = 14))) rfl rfl (fun hc2 => ?_) (fun hc2 => ?_)
    · replace h3050 := cond_t hc2 h3050
      refine O_read rfl (R_move rfl (P_some rfl (O_gY rfl rfl hc2 (O_read rfl (R_move rfl (P_some rfl (O_gY rfl rfl hc2 (O_call (all := [.pointer none, .int .i64 account1]) rfl rfl rfl ?_))))))))
      obtain ⟨r3, hx3, h3050⟩ := obind h3050
      refine ledger_Ledger_Balance_nil_fn  hx3 ((P_some rfl (O_gY rfl rfl hc2 (O_read rfl (R_eqlD rfl rfl (P_some rfl (O_cons (O_read rfl (R_pick_T rfl hc2 rfl (P_some rfl (O_cons (O_read rfl (R_move rfl (P_some rfl ?_))))))))))))))
      refine O_gv (z := (decide (r3 = 0))) rfl rfl (fun hc3 => ?_) (fun hc3 => ?_)
      · replace h3050 := cond_t hc3 h3050
        refine O_read rfl (R_move rfl (P_some rfl (O_gY rfl rfl hc3 (O_read rfl (R_move rfl (P_some rfl (O_gY rfl rfl hc3 (O_read rfl (R_move rfl (P_some rfl (O_gY rfl rfl hc3 (O_call (all := [.pointer none, .int .i64 account1, .int .i64 t1]) rfl rfl rfl ?_))))))))))))
        obtain ⟨r4, hx4, h3050⟩ := obind h3050
        refine ledger_Ledger_At_nil_fn  hx4 ((P_some rfl (O_gY rfl rfl hc3 (O_read rfl (R_eqlD rfl rfl (P_some rfl (O_cons (O_read rfl (R_pick_T rfl hc3 rfl (P_some rfl (O_cons (O_read rfl (R_move rfl (P_some rfl ?_))))))))))))))
        refine O_gv (z := (decide (r4 = 0))) rfl rfl (fun hc4 => ?_) (fun hc4 => ?_)
        · replace h3050 := cond_t hc4 h3050
          refine O_read rfl (R_move rfl (P_some rfl (O_gY rfl rfl hc4 (O_call (all := [.pointer none]) rfl rfl rfl ?_))))
          obtain ⟨r5, hx5, h3050⟩ := obind h3050
          refine ledger_Ledger_Postings_nil_fn  hx5 (fun A2 c2 ch1 hO1 => P_some rfl (O_gY rfl rfl hc4 (O_read rfl (R_lenS rfl rfl rfl (P_some rfl (O_gY rfl rfl hc4 (O_read rfl (R_eqlD rfl rfl (P_some rfl (O_cons (O_read rfl (R_pick_T rfl hc4 rfl (P_some rfl ?_)))))))))))))
          refine O_cons (O_read rfl (R_move rfl (P_some rfl ?_)))
          refine O_gv (z := (decide (((r5.length : Nat) : Int) = 0))) rfl rfl (fun hc5 => ?_) (fun hc5 => ?_)
          · replace h3050 := cond_t hc5 h3050
            refine O_read rfl (R_move rfl (P_some rfl (O_gY rfl rfl hc5 (O_call (all := [.pointer none]) rfl rfl rfl ?_))))
            obtain ⟨r6, hx6, h3050⟩ := obind h3050
            refine ledger_Ledger_Accounts_nil_fn  hx6 (fun A3 c3 ch2 hO2 => P_some rfl (O_gY rfl rfl hc5 (O_read rfl (R_lenS rfl rfl rfl (P_some rfl (O_gY rfl rfl hc5 (O_read rfl (R_eqlD rfl rfl (P_some rfl (O_cons (O_read rfl (R_pick_T rfl hc5 rfl (P_some rfl ?_)))))))))))))
            refine O_cons (O_read rfl (R_move rfl (P_some rfl ?_)))
            refine O_gv (z := (decide (((r6.length : Nat) : Int) = 0))) rfl rfl (fun hc6 => ?_) (fun hc6 => ?_)
            · replace h3050 := cond_t hc6 h3050
              apply O_call (all := []); exact rfl; exact rfl; exact rfl
              obtain ⟨r7, hx7, h3050⟩ := obind h3050
              refine recyclinglaw48_awake_fn  hx7 (fun v2 hm_2 => ?_)
              replace hA1 := hA1.mono hm_2
              replace hO1 := hO1.mono hm_2
              replace hO2 := hO2.mono hm_2
              refine P_some rfl (O_cons (O_read rfl (R_pick_T rfl hc6 rfl (P_some rfl (O_cons (O_read rfl (R_assign rfl (P_some rfl (O_nil ?_)))))))))
              have e_ := Option.some.inj h3050
              subst e_
              exact ⟨r7, rfl, SubFr.of ⟨rfl, trivial⟩, SegSub.sel _ [] 3⟩
            replace h3050 := cond_f hc6 h3050
            refine P_some rfl (O_cons (O_read rfl (R_pick_F rfl hc6 rfl (P_some rfl (O_cons (O_read rfl (R_assign rfl (P_some rfl (O_nil ?_)))))))))
            have e_ := Option.some.inj h3050
            subst e_
            exact ⟨false, rfl, SubFr.of ⟨rfl, trivial⟩, SegSub.sel _ [] 3⟩
          replace h3050 := cond_f hc5 h3050
          refine P_some rfl (O_gN rfl rfl hc5 (P_some rfl (O_gN rfl rfl hc5 (P_some rfl (O_gN rfl rfl hc5 (P_some rfl (O_cons (O_read rfl (R_pick_F rfl hc5 rfl (P_some rfl (O_cons (O_read rfl (R_move rfl ?_)))))))))))))
          refine P_some rfl (O_gN rfl rfl rfl (P_some rfl (O_cons (O_read rfl (R_pick_F rfl rfl rfl (P_some rfl (O_cons (O_read rfl (R_assign rfl (P_some rfl (O_nil ?_)))))))))))
          have e_ := Option.some.inj h3050
          subst e_
          exact ⟨false, rfl, SubFr.of ⟨rfl, trivial⟩, SegSub.sel _ [] 2⟩
        replace h3050 := cond_f hc4 h3050
        refine P_some rfl (O_gN rfl rfl hc4 (P_some rfl (O_gN rfl rfl hc4 (P_some rfl (O_gN rfl rfl hc4 (P_some rfl (O_cons (O_read rfl (R_pick_F rfl hc4 rfl (P_some rfl (O_cons (O_read rfl (R_move rfl ?_)))))))))))))
        refine P_some rfl (O_gN rfl rfl rfl (P_some rfl (O_gN rfl rfl rfl (P_some rfl (O_gN rfl rfl rfl (P_some rfl (O_gN rfl rfl rfl (P_some rfl (O_cons (O_read rfl (R_pick_F rfl rfl rfl (P_some rfl (O_cons ?_)))))))))))))
        refine O_read rfl (R_move rfl (P_some rfl (O_gN rfl rfl rfl (P_some rfl (O_cons (O_read rfl (R_pick_F rfl rfl rfl (P_some rfl (O_cons (O_read rfl (R_assign rfl (P_some rfl (O_nil ?_)))))))))))))
        have e_ := Option.some.inj h3050
        subst e_
        exact ⟨false, rfl, SubFr.of ⟨rfl, trivial⟩, SegSub.sel _ [] 1⟩
      replace h3050 := cond_f hc3 h3050
      refine P_some rfl (O_gN rfl rfl hc3 (P_some rfl (O_gN rfl rfl hc3 (P_some rfl (O_gN rfl rfl hc3 (P_some rfl (O_gN rfl rfl hc3 (P_some rfl (O_cons (O_read rfl (R_pick_F rfl hc3 rfl (P_some rfl (O_cons ?_)))))))))))))
      refine O_read rfl (R_move rfl (P_some rfl (O_gN rfl rfl rfl (P_some rfl (O_gN rfl rfl rfl (P_some rfl (O_gN rfl rfl rfl (P_some rfl (O_gN rfl rfl rfl (P_some rfl (O_cons (O_read rfl (R_pick_F rfl rfl rfl ?_)))))))))))))
      refine P_some rfl (O_cons (O_read rfl (R_move rfl (P_some rfl (O_gN rfl rfl rfl (P_some rfl (O_gN rfl rfl rfl (P_some rfl (O_gN rfl rfl rfl (P_some rfl (O_gN rfl rfl rfl (P_some rfl (O_cons ?_)))))))))))))
      refine O_read rfl (R_pick_F rfl rfl rfl (P_some rfl (O_cons (O_read rfl (R_move rfl (P_some rfl (O_gN rfl rfl rfl (P_some rfl (O_cons (O_read rfl (R_pick_F rfl rfl rfl (P_some rfl (O_cons ?_)))))))))))))
      refine O_read rfl (R_assign rfl (P_some rfl (O_nil ?_)))
      have e_ := Option.some.inj h3050
      subst e_
      exact ⟨false, rfl, SubFr.of ⟨rfl, trivial⟩, SegSub.sel _ [] 1⟩
    replace h3050 := cond_f hc2 h3050
    refine P_some rfl (O_gN rfl rfl hc2 (P_some rfl (O_gN rfl rfl hc2 (P_some rfl (O_gN rfl rfl hc2 (P_some rfl (O_cons (O_read rfl (R_pick_F rfl hc2 rfl (P_some rfl (O_cons (O_read rfl (R_move rfl ?_)))))))))))))
    refine P_some rfl (O_gN rfl rfl rfl (P_some rfl (O_gN rfl rfl rfl (P_some rfl (O_gN rfl rfl rfl (P_some rfl (O_gN rfl rfl rfl (P_some rfl (O_gN rfl rfl rfl (P_some rfl (O_cons (O_read rfl (R_pick_F rfl rfl rfl ?_)))))))))))))
    refine P_some rfl (O_cons (O_read rfl (R_move rfl (P_some rfl (O_gN rfl rfl rfl (P_some rfl (O_gN rfl rfl rfl (P_some rfl (O_gN rfl rfl rfl (P_some rfl (O_gN rfl rfl rfl (P_some rfl (O_cons ?_)))))))))))))
    refine O_read rfl (R_pick_F rfl rfl rfl (P_some rfl (O_cons (O_read rfl (R_move rfl (P_some rfl (O_gN rfl rfl rfl (P_some rfl (O_gN rfl rfl rfl (P_some rfl (O_gN rfl rfl rfl (P_some rfl (O_gN rfl rfl rfl ?_)))))))))))))
    refine P_some rfl (O_cons (O_read rfl (R_pick_F rfl rfl rfl (P_some rfl (O_cons (O_read rfl (R_move rfl (P_some rfl (O_gN rfl rfl rfl (P_some rfl (O_cons (O_read rfl (R_pick_F rfl rfl rfl ?_)))))))))))))
    refine P_some rfl (O_cons (O_read rfl (R_assign rfl (P_some rfl (O_nil ?_)))))
    have e_ := Option.some.inj h3050
    subst e_
    exact ⟨false, rfl, SubFr.of ⟨rfl, trivial⟩, SegSub.sel _ [] 1⟩
  rintro fr3050 μ3050 L3050 hm3050 ⟨v3, ho3050, hF3050, hS3050⟩
  subst ho3050
  replace hA1 := hA1.mono hm3050
  refine hK3049 _ _ _ (WP.at hF3050 hS3050 (WP.ret ?_))
  have e_ := Option.some.inj h
  subst e_
  refine S_tmp rfl (S_nil (Upd.selS [] 0 ?_))
  exact Upd.done (hR _ (hm3050))

end Go.Proofs.Ytpghcnpheabbgaa
