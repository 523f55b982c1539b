/- Printed by gen.py of this repo: the walks that tie the functions to their specifications. -/
import Derived.Test.YtchakbpjokemnaaTt
import Derived.Test.YtchakbpjokemnaaTaw3
namespace Go.Proofs.Ytchakbpjokemnaa
open Go.RowKit
set_option linter.unusedSimpArgs false
set_option linter.unusedVariables false
attribute [local irreducible] WP SemOk SemU Fn AN Upd vcR vcO vcOps vcPlan putK fillK resK inBlk forkOne Cell StAt Kept

theorem recyclinglaw27_TicketReplaced_fn {μ : Gh} {L : List Seg} {R : Value → Gh → List Seg → Prop} {F : Nat} {s1 : (List T_api_Scale)} {l1 : (List T_api_Ticket)} {x1 : T_arr3_3} {A1 : Option Addr} {c1 : Nat} {A2 : Option Addr} {c2 : Nat} {res1 : Bool}
    (hl1 : s1.length ≤ c1 ∧ c1 ≤ maxLen) (hA1 : Rds r_api_Scale μ L A1 s1) (hl2 : l1.length ≤ c2 ∧ c2 ≤ maxLen) (hA2 : Rds r_api_Ticket μ L A2 l1) (h : recyclinglaw27_TicketReplaced F s1 l1 x1 = some res1)
    (hR : R (.bool res1) μ (L)) :
    Fn Try.prog 8 [.slice A1 s1.length c1, .slice A2 l1.length c2, .agg #[.int .i64 x1.e0, .int .i64 x1.e1, .int .i64 x1.e2]] μ (L) R := by
  unfold recyclinglaw27_TicketReplaced at h
  refine Fn.of_body Tt_ok Try.func8 (by kernel_rfl) rfl Try.ntmps8 (by simp) ?_
  simp only [Try.f8, argFr, List.zipIdx, List.map, Nat.reduceAdd]
  refine WP.seq_k (fun K1742 hK1742 => WP.region Tt_ok (O_cons (O_box (cs := #[.int .i64 x1.e0, .int .i64 x1.e1, .int .i64 x1.e2]) rfl rfl (fun g1 => P_some rfl (O_cons (O_read rfl (R_assign rfl (P_some rfl (O_nil (hK1742 _ _ _ (WP.seq_k (fun K1744 hK1744 => WP.seq_k (fun K1745 hK1745 => WP.region Tt_ok ?_)))))))))))))
  refine O_cons (O_read rfl (R_move rfl (P_some rfl (O_cons (O_read rfl (R_move rfl (P_some rfl (O_cons (O_call (all := [.slice A1 s1.length c1, .slice A2 l1.length c2]) rfl rfl rfl ?_)))))))))
  obtain ⟨r1, hx1, h⟩ := obind h
  refine recyclinglaw27_great_fn hl1 (Rds.push hA1) hl2 (Rds.push hA2) hx1 ((P_some rfl (O_nil (hK1745 _ _ _ ?_))))
  refine W_cond_v (b := r1) rfl (fun hc1 => ?_) (fun hc1 => ?_)
  · replace h := cond_t hc1 h
    refine WP.seq_k (fun K1746 hK1746 => WP.region Tt_ok (O_cons (O_call (all := []) rfl rfl rfl ?_)))
    obtain ⟨r2, hx2, h⟩ := obind h
    refine recyclinglaw27_awake_fn  hx2 ((P_some rfl (O_cons (O_read rfl (R_assign rfl (P_some rfl (O_nil (hK1746 _ _ _ (WP.ret ?_)))))))))
    have e_ := Option.some.inj h
    subst e_
    refine S_tmp rfl (S_nil (Upd.selS [] 1 ?_))
    exact Upd.done hR
  replace h := cond_f hc1 h
  refine WP.skip (hK1744 _ _ _ (WP.seq_k (fun K1747 hK1747 => WP.region Tt_ok (O_cons (O_read rfl (R_iaA0 (o' := 1) rfl rfl rfl rfl rfl rfl ⟨by decide, by decide⟩ rfl (P_some rfl (O_cons (O_read rfl (R_load rfl rfl rfl (Ex.mk _ (Cell.seg 0 0 rfl rfl rfl) (P_some rfl (O_cons ?_)))))))))))))
  refine O_read rfl (R_iaA0 (o' := 2) rfl rfl rfl rfl rfl rfl ⟨by decide, by decide⟩ rfl (P_some rfl (O_cons (O_read rfl (R_load rfl rfl rfl (Ex.mk _ (Cell.seg 0 0 rfl rfl rfl) (P_some rfl (O_cons (O_read rfl (R_build rfl rfl rfl rfl (F_cons (cells' := [.int .i64 x1.e1, .int .i64 0]) rfl rfl rfl rfl (F_cons (cells' := [.int .i64 x1.e1, .int .i64 x1.e2]) rfl rfl rfl rfl (F_nil ?_)))))))))))))
  refine P_some rfl (O_cons (O_alloc (cs := #[.int .i64 0, .int .i64 0]) rfl rfl (fun g2 => P_some rfl (O_cons (O_store (vs := [.int .i64 x1.e1, .int .i64 x1.e2]) rfl rfl rfl rfl rfl rfl (ST_ (L' := ([(g2, .cells #[.int .i64 x1.e1, .int .i64 x1.e2] 42 (0, 0))] :: [(g1, .cells #[.int .i64 x1.e0, .int .i64 x1.e1, .int .i64 x1.e2] 46 (0, 0))] :: L)) 0 0 rfl rfl rfl rfl (P_none (O_nil (hK1747 _ _ _ (WP.seq_k (fun K1750 hK1750 => WP.region Tt_ok (O_cons (O_read rfl ?_)))))))))))))
  refine R_move rfl (P_some rfl (O_cons (O_read rfl (R_move rfl (P_some rfl (O_cons (O_read rfl (R_loadA rfl rfl rfl rfl (LA_ (vs := [.int .i64 x1.e1, .int .i64 x1.e2]) 0 0 rfl rfl rfl rfl (P_some rfl (O_cons (O_call (all := [.slice A1 s1.length c1, .slice A2 l1.length c2, .agg #[.int .i64 x1.e1, .int .i64 x1.e2]]) rfl rfl rfl ?_))))))))))))
  obtain ⟨⟨r3, r4⟩, hx3, h⟩ := obind h
  replace h := oun_mk h
  refine ticket_Total_fn hl1 (Rds.push (Rds.push hA1)) hl2 (Rds.push (Rds.push hA2)) hx3 ((P_some rfl (O_cons (O_read rfl (R_move rfl (P_some rfl (O_cons (O_read rfl (R_ext rfl rfl (P_some rfl (O_cons (O_read rfl (R_ext rfl rfl (P_some rfl ?_))))))))))))))
  refine O_cons (O_alloc (cs := #[.int .i64 0, .int .i64 0]) rfl rfl (fun g3 => P_some rfl (O_cons (O_store (vs := [.int .i64 r3.Lo, .int .i64 r3.Hi]) rfl rfl rfl rfl rfl rfl (ST_ (L' := ([(g3, .cells #[.int .i64 r3.Lo, .int .i64 r3.Hi] 31 (0, 0))] :: [(g2, .cells #[.int .i64 x1.e1, .int .i64 x1.e2] 42 (0, 0))] :: [(g1, .cells #[.int .i64 x1.e0, .int .i64 x1.e1, .int .i64 x1.e2] 46 (0, 0))] :: L)) 0 0 rfl rfl rfl rfl (P_none (O_cons (O_read rfl (R_assign rfl (P_some rfl (O_nil (hK1750 _ _ _ (WP.seq_k (fun K1753 hK1753 => ?_))))))))))))))
  refine WP.region Tt_ok (O_cons (O_read rfl (R_move rfl (P_some rfl (O_cons (O_call (all := [.slice A2 l1.length c2]) rfl rfl rfl ?_))))))
  obtain ⟨⟨r5, r6⟩, hx4, h⟩ := obind h
  replace h := oun_mk h
  refine ticket_Active_fn hl2 (Rds.push (Rds.push (Rds.push hA2))) hx4 (fun A3 c3 ch1 hO1 => P_some rfl (O_cons (O_read rfl (R_move rfl (P_some rfl (O_cons (O_read rfl (R_ext rfl rfl (P_some rfl (O_cons (O_read rfl (R_ext rfl rfl (P_some rfl ?_)))))))))))))
  refine O_cons (O_read rfl (R_assign rfl (P_some rfl (O_cons (O_read rfl (R_assign rfl (P_some rfl (O_nil (hK1753 _ _ _ (WP.seq_k (fun K1755 hK1755 => WP.seq_k (fun K1756 hK1756 => ?_))))))))))))
  obtain ⟨o1757, h1757, h⟩ := obind h
  refine WP.cutK (fun fr_ μ_ L_ => ∃ (v1 : Bool), v1 = o1757 ∧ SubFr [(0, .slice A1 s1.length c1), (1, .slice A2 l1.length c2), (5, .pointer (some ⟨g1, 0, none⟩)), (7, .pointer (some ⟨g2, 0, none⟩)), (8, .pointer (some ⟨g3, 0, none⟩)), (9, .int .i64 r4), (10, .slice A3 r5.length c3), (50, .bool v1)] fr_ ∧ SegSub ([(g1, .cells #[.int .i64 x1.e0, .int .i64 x1.e1, .int .i64 x1.e2] 46 (0, 0))] :: [(g2, .cells #[.int .i64 x1.e1, .int .i64 x1.e2] 42 (0, 0))] :: [(g3, .cells #[.int .i64 r3.Lo, .int .i64 r3.Hi] 31 (0, 0))] :: ch1 :: L) L_ ∧ μ = μ_) ?_ ?_
  · refine WP.region Tt_ok (O_cons (O_read rfl (R_move rfl (P_some rfl (O_cons (O_read rfl (R_neqD rfl rfl (P_some rfl (O_cons (O_read rfl (R_move rfl (P_some rfl ?_))))))))))))
    refine O_gv (z := !(decide (r4 = 0))) rfl rfl (fun hc2 => ?_) (fun hc2 => ?_)
    · replace h1757 := cond_f hc2 h1757
      refine O_read rfl (R_move rfl (P_some rfl (O_gY rfl rfl hc2 (O_read rfl (R_neqD rfl rfl (P_some rfl (O_cons (O_read rfl (R_pick_F rfl hc2 rfl (P_some rfl (O_cons (O_read rfl (R_move rfl ?_)))))))))))))
      apply P_some; exact rfl
      refine O_gv (z := !(decide (r6 = 0))) rfl rfl (fun hc3 => ?_) (fun hc3 => ?_)
      · replace h1757 := cond_f hc3 h1757
        refine O_read rfl (R_move rfl (P_some rfl (O_gY rfl rfl hc3 (O_read rfl (R_lenS rfl rfl rfl (P_some rfl (O_gY rfl rfl hc3 (O_read rfl (R_eqlD rfl rfl (P_some rfl (O_cons (O_read rfl (R_pick_F rfl hc3 rfl ?_)))))))))))))
        refine P_some rfl (O_nil ?_)
        have e_ := Option.some.inj h1757
        subst e_
        exact ⟨(decide (((r5.length : Nat) : Int) = 0)), rfl, SubFr.of ⟨rfl, rfl, rfl, rfl, rfl, rfl, rfl, rfl, trivial⟩, SegSub.sel _ [some 3, some 2, some 1, some 0] 4, rfl⟩
      replace h1757 := cond_t hc3 h1757
      refine P_some rfl (O_gN rfl rfl hc3 (P_some rfl (O_gN rfl rfl hc3 (P_some rfl (O_cons (O_read rfl (R_pick_T rfl hc3 rfl (P_some rfl (O_nil ?_)))))))))
      have e_ := Option.some.inj h1757
      subst e_
      exact ⟨true, rfl, SubFr.of ⟨rfl, rfl, rfl, rfl, rfl, rfl, rfl, rfl, trivial⟩, SegSub.sel _ [some 3, some 2, some 1, some 0] 4, rfl⟩
    replace h1757 := cond_t hc2 h1757
    refine P_some rfl (O_gN rfl rfl hc2 (P_some rfl (O_cons (O_read rfl (R_pick_T rfl hc2 rfl (P_some rfl (O_cons (O_read rfl (R_move rfl (P_some rfl (O_gN rfl rfl rfl (P_some rfl (O_gN rfl rfl rfl ?_)))))))))))))
    refine P_some rfl (O_gN rfl rfl rfl (P_some rfl (O_cons (O_read rfl (R_pick_T rfl rfl rfl (P_some rfl (O_nil ?_)))))))
    have e_ := Option.some.inj h1757
    subst e_
    exact ⟨true, rfl, SubFr.of ⟨rfl, rfl, rfl, rfl, rfl, rfl, rfl, rfl, trivial⟩, SegSub.sel _ [some 3, some 2, some 1, some 0] 4, rfl⟩
  rintro fr1757 μ1757 L1757 hm1757 ⟨v1, ho1757, hF1757, hS1757, hu1757⟩
  subst ho1757
  subst hu1757
  refine hK1756 _ _ _ (WP.at hF1757 hS1757 ?_)
  refine W_cond_v (b := v1) rfl (fun hc4 => ?_) (fun hc4 => ?_)
  · replace h := cond_t hc4 h
    refine WP.seq_k ?_; intro K1764 hK1764
    obtain ⟨o1765, h1765, h⟩ := obind h
    refine WP.cutK (fun fr_ μ_ L_ => ∃ (v2 : Bool), v2 = o1765 ∧ SubFr [(6, .bool v2)] fr_ ∧ SegSub (L) L_ ∧ μ = μ_) ?_ ?_
    · refine WP.region Tt_ok (O_cons (O_read rfl (R_move rfl (P_some rfl (O_cons (O_read rfl (R_neqD rfl rfl (P_some rfl (O_cons (O_read rfl (R_move rfl (P_some rfl ?_))))))))))))
      refine O_gv (z := !(decide (r4 = 0))) rfl rfl (fun hc5 => ?_) (fun hc5 => ?_)
      · replace h1765 := cond_f hc5 h1765
        refine O_read rfl (R_move rfl (P_some rfl (O_gY rfl rfl hc5 (O_read rfl (R_lenS rfl rfl rfl (P_some rfl (O_gY rfl rfl hc5 (O_read rfl (R_eqlD rfl rfl (P_some rfl (O_cons (O_read rfl (R_pick_F rfl hc5 rfl ?_)))))))))))))
        refine P_some rfl (O_cons (O_read rfl (R_move rfl (P_some rfl ?_))))
        refine O_gv (z := (decide (((l1.length : Nat) : Int) = 0))) rfl rfl (fun hc6 => ?_) (fun hc6 => ?_)
        · replace h1765 := cond_t hc6 h1765
          apply O_call (all := []); exact rfl; exact rfl; exact rfl
          obtain ⟨r7, hx5, h1765⟩ := obind h1765
          refine recyclinglaw27_awake_fn  hx5 ((P_some rfl (O_cons (O_read rfl (R_pick_T rfl hc6 rfl (P_some rfl (O_cons (O_read rfl (R_assign rfl (P_some rfl (O_nil ?_)))))))))))
          have e_ := Option.some.inj h1765
          subst e_
          exact ⟨r7, rfl, SubFr.of ⟨rfl, trivial⟩, SegSub.sel _ [] 4, rfl⟩
        replace h1765 := cond_f hc6 h1765
        refine P_some rfl (O_cons (O_read rfl (R_pick_F rfl hc6 rfl (P_some rfl (O_cons (O_read rfl (R_assign rfl (P_some rfl (O_nil ?_)))))))))
        have e_ := Option.some.inj h1765
        subst e_
        exact ⟨false, rfl, SubFr.of ⟨rfl, trivial⟩, SegSub.sel _ [] 4, rfl⟩
      replace h1765 := cond_t hc5 h1765
      refine P_some rfl (O_gN rfl rfl hc5 (P_some rfl (O_gN rfl rfl hc5 (P_some rfl (O_cons (O_read rfl (R_pick_T rfl hc5 rfl (P_some rfl (O_cons (O_read rfl (R_move rfl (P_some rfl (O_gY rfl rfl rfl ?_)))))))))))))
      apply O_call (all := []); exact rfl; exact rfl; exact rfl
      obtain ⟨r8, hx6, h1765⟩ := obind h1765
      refine recyclinglaw27_awake_fn  hx6 ((P_some rfl (O_cons (O_read rfl (R_pick_T rfl rfl rfl (P_some rfl (O_cons (O_read rfl (R_assign rfl (P_some rfl (O_nil ?_)))))))))))
      have e_ := Option.some.inj h1765
      subst e_
      exact ⟨r8, rfl, SubFr.of ⟨rfl, trivial⟩, SegSub.sel _ [] 4, rfl⟩
    rintro fr1765 μ1765 L1765 hm1765 ⟨v2, ho1765, hF1765, hS1765, hu1765⟩
    subst ho1765
    subst hu1765
    refine hK1764 _ _ _ (WP.at hF1765 hS1765 (WP.ret ?_))
    have e_ := Option.some.inj h
    subst e_
    refine S_tmp rfl (S_nil (Upd.selS [] 0 ?_))
    exact Upd.done hR
  replace h := cond_f hc4 h
  refine WP.skip (hK1755 _ _ _ (WP.seq_k (fun K1766 hK1766 => WP.region Tt_ok (O_cons (O_read rfl (R_iaA0 (o' := 0) rfl rfl rfl rfl rfl rfl ⟨by decide, by decide⟩ rfl (P_some rfl (O_cons (O_read rfl (R_load rfl rfl rfl (Ex.mk _ (Cell.seg 0 0 rfl rfl rfl) (P_some rfl (O_cons ?_)))))))))))))
  refine O_read rfl (R_move rfl (P_some rfl (O_cons (O_read rfl (R_lenS rfl rfl rfl (P_some rfl (O_cons (O_read rfl (R_rem rfl rfl ?_)))))))))
  obtain ⟨u1, hg1, h⟩ := obind h
  refine ⟨guardO_some hg1, ?_⟩
  refine P_some rfl (O_cons (O_read rfl (R_assign rfl (P_some rfl (O_nil (hK1766 _ _ _ (WP.seq_k (fun K1767 hK1767 => WP.seq_k (fun K1768 hK1768 => WP.region Tt_ok (O_cons (O_read rfl (R_move rfl (P_some rfl ?_)))))))))))))
  refine O_cons (O_read rfl (R_lssD rfl rfl (P_some rfl (O_nil (hK1768 _ _ _ ?_)))))
  obtain ⟨o1769, h1769, h⟩ := obind h
  refine WP.cutK (fun fr_ μ_ L_ => ∃ (n1 : Int), n1 = o1769 ∧ SubFr [(0, .slice A1 s1.length c1), (1, .slice A2 l1.length c2), (7, .pointer (some ⟨g2, 0, none⟩)), (8, .pointer (some ⟨g3, 0, none⟩)), (10, .slice A3 r5.length c3), (12, .int .i64 n1)] fr_ ∧ SegSub ([(g2, .cells #[.int .i64 x1.e1, .int .i64 x1.e2] 42 (0, 0))] :: [(g3, .cells #[.int .i64 r3.Lo, .int .i64 r3.Hi] 31 (0, 0))] :: ch1 :: L) L_ ∧ μ = μ_) ?_ ?_
  · refine W_cond_v (b := (decide ((Int.tmod x1.e0 ((r5.length : Nat) : Int)) < 0))) rfl (fun hc7 => ?_) (fun hc7 => ?_)
    · replace h1769 := cond_t hc7 h1769
      refine WP.region Tt_ok (O_cons (O_read rfl (R_move rfl (P_some rfl (O_cons (O_read rfl (R_neg rfl (P_some rfl (O_cons (O_read rfl (R_assign rfl (P_some rfl (O_nil ?_)))))))))))))
      have e_ := Option.some.inj h1769
      subst e_
      exact ⟨w64 (0 - (Int.tmod x1.e0 ((r5.length : Nat) : Int))), rfl, SubFr.of ⟨rfl, rfl, rfl, rfl, rfl, rfl, trivial⟩, SegSub.sel _ [some 1, some 2, some 3] 4, rfl⟩
    replace h1769 := cond_f hc7 h1769
    apply WP.skip
    have e_ := Option.some.inj h1769
    subst e_
    exact ⟨Int.tmod x1.e0 ((r5.length : Nat) : Int), rfl, SubFr.of ⟨rfl, rfl, rfl, rfl, rfl, rfl, trivial⟩, SegSub.sel _ [some 1, some 2, some 3] 4, rfl⟩
  rintro fr1769 μ1769 L1769 hm1769 ⟨n1, ho1769, hF1769, hS1769, hu1769⟩
  subst ho1769
  subst hu1769
  refine hK1767 _ _ _ (WP.at hF1769 hS1769 (WP.seq_k (fun K1774 hK1774 => WP.region Tt_ok (O_cons (O_read rfl (R_move rfl (P_some rfl (O_cons (O_read rfl (R_move rfl (P_some rfl (O_cons (O_read rfl ?_)))))))))))))
  refine R_move rfl (P_some rfl (O_cons ?_))
  obtain ⟨x2, hx7, h⟩ := obind h
  obtain ⟨a1, cs1, hA3, hr1, _, hc8⟩ := Rds.getI (Own.rds (L := ([(g2, .cells #[.int .i64 x1.e1, .int .i64 x1.e2] 42 (0, 0))] :: [(g3, .cells #[.int .i64 r3.Lo, .int .i64 r3.Hi] 31 (0, 0))] :: ch1 :: L)) hO1 2 rfl) hx7
  obtain rfl := hr1
  refine O_read rfl (R_iaG rfl rfl rfl rfl rfl rfl ⟨(getI_lt hx7).1, (getI_lt hx7).2.1⟩ hA3 (P_some rfl (O_cons (O_read rfl (R_load rfl rfl rfl (Ex.mk _ (Cell.of_cells0 hc8 rfl) (P_some rfl (O_cons ?_))))))))
  obtain ⟨x3, hx8, h⟩ := obind h
  obtain ⟨a2, cs2, hA4, hr2, _, hc9⟩ := Rds.getI hA2 hx8
  obtain rfl := hr2
  refine O_read rfl (R_iaG rfl rfl rfl rfl rfl rfl ⟨(getI_lt hx8).1, (getI_lt hx8).2.1⟩ hA4 (P_some rfl (O_cons (O_read rfl (R_loadA rfl rfl rfl rfl (Ex.mk [.int .i64 x3.ID, .int .i64 x3.Scale, .int .i64 x3.At, .int .i64 x3.Gross, .int .i64 x3.Tare, .int .i64 x3.Replaces] ⟨rfl, (hc9.push.push.push)⟩ (P_some rfl (O_cons (O_alloc (cs := #[.int .i64 0, .int .i64 0, .int .i64 0, .int .i64 0, .int .i64 0, .int .i64 0]) rfl rfl (fun g4 => P_some rfl (O_cons (O_store (vs := [.int .i64 x3.ID, .int .i64 x3.Scale, .int .i64 x3.At, .int .i64 x3.Gross, .int .i64 x3.Tare, .int .i64 x3.Replaces]) rfl rfl rfl rfl rfl rfl (ST_ (L' := ([(g4, .cells #[.int .i64 x3.ID, .int .i64 x3.Scale, .int .i64 x3.At, .int .i64 x3.Gross, .int .i64 x3.Tare, .int .i64 x3.Replaces] 29 (0, 0))] :: [(g2, .cells #[.int .i64 x1.e1, .int .i64 x1.e2] 42 (0, 0))] :: [(g3, .cells #[.int .i64 r3.Lo, .int .i64 r3.Hi] 31 (0, 0))] :: ch1 :: L)) 0 0 rfl rfl rfl rfl ?_)))))))))))))
  refine P_none (O_nil (hK1774 _ _ _ (WP.seq_k (fun K1777 hK1777 => WP.region Tt_ok (O_cons (O_read rfl (R_fa0 (o' := 0) rfl rfl rfl rfl rfl rfl (P_some rfl (O_cons (O_read rfl (R_load rfl rfl rfl (Ex.mk _ (Cell.seg 0 0 rfl rfl rfl) (P_some rfl ?_)))))))))))))
  refine O_cons (O_read rfl (R_fa0 (o' := 5) rfl rfl rfl rfl rfl rfl (P_some rfl (O_cons (O_store (vs := [.int .i64 x3.ID]) rfl rfl rfl rfl rfl rfl (ST_ (L' := ([(g4, .cells #[.int .i64 x3.ID, .int .i64 x3.Scale, .int .i64 x3.At, .int .i64 x3.Gross, .int .i64 x3.Tare, .int .i64 x3.ID] 29 (0, 0))] :: [(g2, .cells #[.int .i64 x1.e1, .int .i64 x1.e2] 42 (0, 0))] :: [(g3, .cells #[.int .i64 r3.Lo, .int .i64 r3.Hi] 31 (0, 0))] :: ch1 :: L)) 0 0 rfl rfl rfl rfl (P_none (O_nil (hK1777 _ _ _ (WP.seq_k (fun K1779 hK1779 => WP.region Tt_ok (O_cons (O_read rfl ?_)))))))))))))
  refine R_move rfl (P_some rfl (O_cons (O_call (all := [.slice A2 l1.length c2]) rfl rfl rfl ?_)))
  obtain ⟨r9, hx9, h⟩ := obind h
  refine recyclinglaw27_unused_fn hl2 (Rds.push (Rds.push (Rds.push (Rds.push hA2)))) hx9 ((P_some rfl (O_cons (O_read rfl (R_fa0 (o' := 0) rfl rfl rfl rfl rfl rfl (P_some rfl (O_cons (O_store (vs := [.int .i64 r9]) rfl rfl rfl rfl rfl rfl (ST_ (L' := ([(g4, .cells #[.int .i64 r9, .int .i64 x3.Scale, .int .i64 x3.At, .int .i64 x3.Gross, .int .i64 x3.Tare, .int .i64 x3.ID] 29 (0, 0))] :: [(g2, .cells #[.int .i64 x1.e1, .int .i64 x1.e2] 42 (0, 0))] :: [(g3, .cells #[.int .i64 r3.Lo, .int .i64 r3.Hi] 31 (0, 0))] :: ch1 :: L)) 0 0 rfl rfl rfl rfl (P_none (O_nil (hK1779 _ _ _ (WP.seq_k (fun K1826 hK1826 => ?_))))))))))))))
  obtain ⟨o1842, h1842, h⟩ := obind h
  refine WP.cutK (fun fr_ μ_ L_ => ∃ (more1 : (List T_api_Ticket)) (A6 : Option Addr) (c6 : Nat) (ch4 : Seg), more1 = o1842 ∧ SubFr [(0, .slice A1 s1.length c1), (1, .slice A2 l1.length c2), (7, .pointer (some ⟨g2, 0, none⟩)), (8, .pointer (some ⟨g3, 0, none⟩)), (10, .slice A3 r5.length c3), (14, .slice A6 more1.length c6)] fr_ ∧ SegSub ([(g2, .cells #[.int .i64 x1.e1, .int .i64 x1.e2] 42 (0, 0))] :: [(g3, .cells #[.int .i64 r3.Lo, .int .i64 r3.Hi] 31 (0, 0))] :: ch1 :: ch4 :: L) L_ ∧ Own r_api_Ticket 29 μ_ (.slice A6 more1.length c6) more1 ch4 ∧ μ = μ_) ?_ ?_
  · refine WP.draw (id := 14) wide _ Kept.refl rfl (AN.run (fuel := 5) (listed' := [false, true, false, true, false, false, false]) Tt_ok [(true, 1), (true, 3)] (by kernel_rfl) (by kernel_rfl) rfl (PL_t rfl (R_move rfl (P_some rfl (PL_t rfl (R_loadA rfl rfl rfl rfl (LA_ (vs := [.int .i64 r9, .int .i64 x3.Scale, .int .i64 x3.At, .int .i64 x3.Gross, .int .i64 x3.Tare, .int .i64 x3.ID]) 0 0 rfl rfl rfl rfl (P_some rfl (PL_nil ?_)))))))))
    refine FK_2 Tt_ok (a := 0) (b := 4) (by kernel_rfl) ?_ ?_
    · refine FO_ rfl rfl (O_bsl (z := []) rfl rfl rfl rfl rfl rfl rfl (F_nil (fun g5 => ?_)))
      refine ⟨Kept.more (Kept.refl), ?_⟩
      apply P_some; exact rfl
      refine FK_2 Tt_ok (a := 2) (b := 4) (by kernel_rfl) ?_ ?_
      · refine FO_ rfl rfl (O_append rfl ?_)
        obtain ⟨l2, hz1, h1842⟩ := obind h1842
        refine sem_appR (r := r_api_Ticket) Tt_ok rfl rfl rfl rfl (by decide) rfl rfl 0 rfl (Own.empty (r := r_api_Ticket) (e := 29) (g := g5)) rfl (Rds.push (Rds.push (Rds.push (Rds.push (Rds.push hA2))))) hz1 fun A4 c4 ch2 hO2 => ?_
        refine ⟨Kept.more (Kept.refl), ?_⟩
        refine P_some rfl (AN.run (fuel := 0) (listed' := [true, true, true, true, true, true, true]) Tt_ok [(false, 4), (false, 5), (true, 6)] (by kernel_rfl) (by kernel_rfl) rfl (PL_f rfl (O_bsl (z := [.int .i64 0, .int .i64 0, .int .i64 0, .int .i64 0, .int .i64 0, .int .i64 0]) rfl rfl rfl rfl rfl rfl rfl (F_cons (cells' := [.int .i64 r9, .int .i64 x3.Scale, .int .i64 x3.At, .int .i64 x3.Gross, .int .i64 x3.Tare, .int .i64 x3.ID]) rfl rfl rfl rfl (F_nil (fun g6 => ?_))))))
        refine ⟨Kept.more (Kept.more (Kept.refl)), ?_⟩
        refine P_some rfl (PL_f rfl (O_append rfl ?_))
        obtain ⟨l3, hz2, h1842⟩ := obind h1842
        refine sem_appR (r := r_api_Ticket) Tt_ok rfl rfl rfl rfl (by decide) rfl rfl 1 rfl hO2 rfl (Own.rds (L := ([(g6, .cells #[.int .i64 r9, .int .i64 x3.Scale, .int .i64 x3.At, .int .i64 x3.Gross, .int .i64 x3.Tare, .int .i64 x3.ID] 29 (0, 0))] :: ch2 :: [(g4, .cells #[.int .i64 r9, .int .i64 x3.Scale, .int .i64 x3.At, .int .i64 x3.Gross, .int .i64 x3.Tare, .int .i64 x3.ID] 29 (0, 0))] :: [(g2, .cells #[.int .i64 x1.e1, .int .i64 x1.e2] 42 (0, 0))] :: [(g3, .cells #[.int .i64 r3.Lo, .int .i64 r3.Hi] 31 (0, 0))] :: ch1 :: L)) (Own.lit (r := r_api_Ticket) (e := 29) (g := g6) (xs := [(T_api_Ticket.mk r9 x3.Scale x3.At x3.Gross x3.Tare x3.ID)]) (cs := [.int .i64 r9, .int .i64 x3.Scale, .int .i64 x3.At, .int .i64 x3.Gross, .int .i64 x3.Tare, .int .i64 x3.ID]) (css := [[.int .i64 r9, .int .i64 x3.Scale, .int .i64 x3.At, .int .i64 x3.Gross, .int .i64 x3.Tare, .int .i64 x3.ID]]) rfl (All2.cons (rfl) (All2.nil)) rfl rfl) 0 rfl) hz2 fun A5 c5 ch3 hO3 => ?_
        refine ⟨Kept.more (Kept.more (Kept.refl)), ?_⟩
        refine P_some rfl (PL_t rfl (R_assign rfl (P_some rfl (PL_nil (AN.done0 (by kernel_rfl) ?_)))))
        have e_ := Option.some.inj h1842
        subst e_
        exact ⟨l3, A5, c5, ch3, rfl, SubFr.of ⟨rfl, rfl, rfl, rfl, rfl, rfl, trivial⟩, SegSub.sel _ [some 3, some 4, some 5, some 1] 6, (hO3), rfl⟩
      obtain ⟨l2, hz1, h1842⟩ := obind h1842
      obtain ⟨l3, hz2, h1842⟩ := obind h1842
      refine FO_ rfl rfl (O_bsl (z := [.int .i64 0, .int .i64 0, .int .i64 0, .int .i64 0, .int .i64 0, .int .i64 0]) rfl rfl rfl rfl rfl rfl rfl (F_cons (cells' := [.int .i64 r9, .int .i64 x3.Scale, .int .i64 x3.At, .int .i64 x3.Gross, .int .i64 x3.Tare, .int .i64 x3.ID]) rfl rfl rfl rfl (F_nil (fun g6 => ?_))))
      refine ⟨Kept.more (Kept.more (Kept.refl)), ?_⟩
      refine P_some rfl (AN.run (fuel := 0) (listed' := [true, true, true, true, true, true, true]) Tt_ok [(false, 2), (false, 5), (true, 6)] (by kernel_rfl) (by kernel_rfl) rfl (PL_f rfl (O_append rfl (sem_appR (r := r_api_Ticket) Tt_ok rfl rfl rfl rfl (by decide) rfl rfl 1 rfl (Own.empty (r := r_api_Ticket) (e := 29) (g := g5)) rfl (Rds.push (Rds.push (Rds.push (Rds.push (Rds.push (Rds.push hA2)))))) hz1 fun A4 c4 ch2 hO2 => ?_))))
      refine ⟨Kept.more (Kept.more (Kept.refl)), ?_⟩
      refine P_some rfl (PL_f rfl (O_append rfl (sem_appR (r := r_api_Ticket) Tt_ok rfl rfl rfl rfl (by decide) rfl rfl 1 rfl hO2 rfl (Own.rds (L := ([(g6, .cells #[.int .i64 r9, .int .i64 x3.Scale, .int .i64 x3.At, .int .i64 x3.Gross, .int .i64 x3.Tare, .int .i64 x3.ID] 29 (0, 0))] :: ch2 :: [(g4, .cells #[.int .i64 r9, .int .i64 x3.Scale, .int .i64 x3.At, .int .i64 x3.Gross, .int .i64 x3.Tare, .int .i64 x3.ID] 29 (0, 0))] :: [(g2, .cells #[.int .i64 x1.e1, .int .i64 x1.e2] 42 (0, 0))] :: [(g3, .cells #[.int .i64 r3.Lo, .int .i64 r3.Hi] 31 (0, 0))] :: ch1 :: L)) (Own.lit (r := r_api_Ticket) (e := 29) (g := g6) (xs := [(T_api_Ticket.mk r9 x3.Scale x3.At x3.Gross x3.Tare x3.ID)]) (cs := [.int .i64 r9, .int .i64 x3.Scale, .int .i64 x3.At, .int .i64 x3.Gross, .int .i64 x3.Tare, .int .i64 x3.ID]) (css := [[.int .i64 r9, .int .i64 x3.Scale, .int .i64 x3.At, .int .i64 x3.Gross, .int .i64 x3.Tare, .int .i64 x3.ID]]) rfl (All2.cons (rfl) (All2.nil)) rfl rfl) 0 rfl) hz2 fun A5 c5 ch3 hO3 => ?_)))
      refine ⟨Kept.more (Kept.more (Kept.refl)), ?_⟩
      refine P_some rfl (PL_t rfl (R_assign rfl (P_some rfl (PL_nil (AN.done0 (by kernel_rfl) ?_)))))
      have e_ := Option.some.inj h1842
      subst e_
      exact ⟨l3, A5, c5, ch3, rfl, SubFr.of ⟨rfl, rfl, rfl, rfl, rfl, rfl, trivial⟩, SegSub.sel _ [some 3, some 4, some 5, some 1] 6, (hO3), rfl⟩
    obtain ⟨l2, hz1, h1842⟩ := obind h1842
    obtain ⟨l3, hz2, h1842⟩ := obind h1842
    refine FO_ rfl rfl (O_bsl (z := [.int .i64 0, .int .i64 0, .int .i64 0, .int .i64 0, .int .i64 0, .int .i64 0]) rfl rfl rfl rfl rfl rfl rfl (F_cons (cells' := [.int .i64 r9, .int .i64 x3.Scale, .int .i64 x3.At, .int .i64 x3.Gross, .int .i64 x3.Tare, .int .i64 x3.ID]) rfl rfl rfl rfl (F_nil (fun g6 => ?_))))
    refine ⟨Kept.more (Kept.refl), ?_⟩
    refine P_some rfl (AN.run (fuel := 0) (listed' := [true, true, true, true, true, true, true]) Tt_ok [(false, 0), (false, 2), (false, 5), (true, 6)] (by kernel_rfl) (by kernel_rfl) rfl (PL_f rfl (O_bsl (z := []) rfl rfl rfl rfl rfl rfl rfl (F_nil (fun g5 => ?_)))))
    refine ⟨Kept.more (Kept.more (Kept.refl)), ?_⟩
    refine P_some rfl (PL_f rfl (O_append rfl (sem_appR (r := r_api_Ticket) Tt_ok rfl rfl rfl rfl (by decide) rfl rfl 0 rfl (Own.empty (r := r_api_Ticket) (e := 29) (g := g5)) rfl (Rds.push (Rds.push (Rds.push (Rds.push (Rds.push (Rds.push hA2)))))) hz1 fun A4 c4 ch2 hO2 => ?_)))
    refine ⟨Kept.more (Kept.more (Kept.refl)), ?_⟩
    refine P_some rfl (PL_f rfl (O_append rfl (sem_appR (r := r_api_Ticket) Tt_ok rfl rfl rfl rfl (by decide) rfl rfl 0 rfl hO2 rfl (Own.rds (L := (ch2 :: [(g6, .cells #[.int .i64 r9, .int .i64 x3.Scale, .int .i64 x3.At, .int .i64 x3.Gross, .int .i64 x3.Tare, .int .i64 x3.ID] 29 (0, 0))] :: [(g4, .cells #[.int .i64 r9, .int .i64 x3.Scale, .int .i64 x3.At, .int .i64 x3.Gross, .int .i64 x3.Tare, .int .i64 x3.ID] 29 (0, 0))] :: [(g2, .cells #[.int .i64 x1.e1, .int .i64 x1.e2] 42 (0, 0))] :: [(g3, .cells #[.int .i64 r3.Lo, .int .i64 r3.Hi] 31 (0, 0))] :: ch1 :: L)) (Own.lit (r := r_api_Ticket) (e := 29) (g := g6) (xs := [(T_api_Ticket.mk r9 x3.Scale x3.At x3.Gross x3.Tare x3.ID)]) (cs := [.int .i64 r9, .int .i64 x3.Scale, .int .i64 x3.At, .int .i64 x3.Gross, .int .i64 x3.Tare, .int .i64 x3.ID]) (css := [[.int .i64 r9, .int .i64 x3.Scale, .int .i64 x3.At, .int .i64 x3.Gross, .int .i64 x3.Tare, .int .i64 x3.ID]]) rfl (All2.cons (rfl) (All2.nil)) rfl rfl) 1 rfl) hz2 fun A5 c5 ch3 hO3 => ?_)))
    refine ⟨Kept.more (Kept.more (Kept.refl)), ?_⟩
    refine P_some rfl (PL_t rfl (R_assign rfl (P_some rfl (PL_nil (AN.done0 (by kernel_rfl) ?_)))))
    have e_ := Option.some.inj h1842
    subst e_
    exact ⟨l3, A5, c5, ch3, rfl, SubFr.of ⟨rfl, rfl, rfl, rfl, rfl, rfl, trivial⟩, SegSub.sel _ [some 3, some 4, some 5, some 0] 6, (hO3), rfl⟩
  rintro fr1842 μ1842 L1842 hm1842 ⟨more1, A6, c6, ch4, ho1842, hF1842, hS1842, hO4, hu1842⟩
  subst ho1842
  subst hu1842
  refine hK1826 _ _ _ (WP.at hF1842 hS1842 (WP.seq_k (fun K1878 hK1878 => WP.region Tt_ok (O_cons (O_read rfl (R_move rfl (P_some rfl (O_cons (O_read rfl (R_move rfl (P_some rfl (O_cons (O_read rfl ?_)))))))))))))
  refine R_loadA rfl rfl rfl rfl (LA_ (vs := [.int .i64 x1.e1, .int .i64 x1.e2]) 0 0 rfl rfl rfl rfl (P_some rfl (O_cons (O_call (all := [.slice A1 s1.length c1, .slice A6 more1.length c6, .agg #[.int .i64 x1.e1, .int .i64 x1.e2]]) rfl rfl rfl ?_))))
  obtain ⟨⟨r10, r11⟩, hx10, h⟩ := obind h
  replace h := oun_mk h
  refine ticket_Total_fn hl1 (Rds.push (Rds.push (Rds.push (Rds.push hA1)))) (Own.lenOk hO4) (Own.rds (L := ([(g2, .cells #[.int .i64 x1.e1, .int .i64 x1.e2] 42 (0, 0))] :: [(g3, .cells #[.int .i64 r3.Lo, .int .i64 r3.Hi] 31 (0, 0))] :: ch1 :: ch4 :: L)) hO4 3 rfl) hx10 ((P_some rfl (O_cons (O_read rfl (R_move rfl (P_some rfl (O_cons (O_read rfl (R_ext rfl rfl (P_some rfl (O_cons (O_read rfl (R_ext rfl rfl (P_some rfl ?_))))))))))))))
  refine O_cons (O_alloc (cs := #[.int .i64 0, .int .i64 0]) rfl rfl (fun g7 => P_some rfl (O_cons (O_store (vs := [.int .i64 r10.Lo, .int .i64 r10.Hi]) rfl rfl rfl rfl rfl rfl (ST_ (L' := ([(g7, .cells #[.int .i64 r10.Lo, .int .i64 r10.Hi] 31 (0, 0))] :: [(g2, .cells #[.int .i64 x1.e1, .int .i64 x1.e2] 42 (0, 0))] :: [(g3, .cells #[.int .i64 r3.Lo, .int .i64 r3.Hi] 31 (0, 0))] :: ch1 :: ch4 :: L)) 0 0 rfl rfl rfl rfl (P_none (O_cons (O_read rfl (R_assign rfl (P_some rfl (O_nil (hK1878 _ _ _ (WP.seq_k (fun K1881 hK1881 => ?_))))))))))))))
  refine WP.region Tt_ok (O_cons (O_read rfl (R_move rfl (P_some rfl (O_cons (O_call (all := [.slice A6 more1.length c6]) rfl rfl rfl ?_))))))
  obtain ⟨⟨r12, r13⟩, hx11, h⟩ := obind h
  replace h := oun_mk h
  refine ticket_Active_fn (Own.lenOk hO4) (Own.rds (L := ([(g7, .cells #[.int .i64 r10.Lo, .int .i64 r10.Hi] 31 (0, 0))] :: [(g2, .cells #[.int .i64 x1.e1, .int .i64 x1.e2] 42 (0, 0))] :: [(g3, .cells #[.int .i64 r3.Lo, .int .i64 r3.Hi] 31 (0, 0))] :: ch1 :: ch4 :: L)) hO4 4 rfl) hx11 (fun A7 c7 ch5 hO5 => P_some rfl (O_cons (O_read rfl (R_move rfl (P_some rfl (O_cons (O_read rfl (R_ext rfl rfl (P_some rfl (O_cons (O_read rfl (R_ext rfl rfl (P_some rfl ?_)))))))))))))
  refine O_cons (O_read rfl (R_assign rfl (P_some rfl (O_cons (O_read rfl (R_assign rfl (P_some rfl (O_nil (hK1881 _ _ _ (WP.seq_k (fun K1883 hK1883 => ?_)))))))))))
  obtain ⟨o1884, h1884, h⟩ := obind h
  refine WP.cutK (fun fr_ μ_ L_ => ∃ (v3 : Bool), v3 = o1884 ∧ SubFr [(6, .bool v3)] fr_ ∧ SegSub (L) L_ ∧ μ = μ_) ?_ ?_
  · refine WP.region Tt_ok (O_cons (O_read rfl (R_move rfl (P_some rfl (O_cons (O_read rfl (R_eqlD rfl rfl (P_some rfl (O_cons (O_read rfl (R_move rfl (P_some rfl ?_))))))))))))
    refine O_gv (z := (decide (r11 = 0))) rfl rfl (fun hc10 => ?_) (fun hc10 => ?_)
    · replace h1884 := cond_t hc10 h1884
      refine O_read rfl (R_loadA rfl rfl rfl rfl (LA_ (vs := [.int .i64 r10.Lo, .int .i64 r10.Hi]) 1 0 rfl rfl rfl rfl (P_some rfl (O_gY rfl rfl hc10 (O_read rfl (R_loadA rfl rfl rfl rfl (LA_ (vs := [.int .i64 r3.Lo, .int .i64 r3.Hi]) 3 0 rfl rfl rfl rfl (P_some rfl (O_gY rfl rfl hc10 (O_read rfl (R_agg rfl rfl (Ex.mk _ (eqRun_T_api_Span r10 r3) (P_some rfl ?_)))))))))))))
      refine O_cons (O_read rfl (R_pick_T rfl hc10 rfl (P_some rfl (O_cons (O_read rfl (R_move rfl (P_some rfl ?_)))))))
      refine O_gv (z := (decide (r10 = r3))) rfl rfl (fun hc11 => ?_) (fun hc11 => ?_)
      · replace h1884 := cond_t hc11 h1884
        refine O_read rfl (R_move rfl (P_some rfl (O_gY rfl rfl hc11 (O_read rfl (R_eqlD rfl rfl (P_some rfl (O_cons (O_read rfl (R_pick_T rfl hc11 rfl (P_some rfl (O_cons (O_read rfl (R_move rfl ?_)))))))))))))
        apply P_some; exact rfl
        refine O_gv (z := (decide (r13 = 0))) rfl rfl (fun hc12 => ?_) (fun hc12 => ?_)
        · replace h1884 := cond_t hc12 h1884
          refine O_read rfl (R_move rfl (P_some rfl (O_gY rfl rfl hc12 (O_read rfl (R_lenS rfl rfl rfl (P_some rfl (O_gY rfl rfl hc12 (O_read rfl (R_move rfl (P_some rfl (O_gY rfl rfl hc12 (O_read rfl (R_lenS rfl rfl rfl ?_)))))))))))))
          refine P_some rfl (O_gY rfl rfl hc12 (O_read rfl (R_eqlD rfl rfl (P_some rfl (O_cons (O_read rfl (R_pick_T rfl hc12 rfl (P_some rfl (O_cons (O_read rfl (R_move rfl (P_some rfl ?_))))))))))))
          refine O_gv (z := (decide (((r12.length : Nat) : Int) = ((r5.length : Nat) : Int)))) rfl rfl (fun hc13 => ?_) (fun hc13 => ?_)
          · replace h1884 := cond_t hc13 h1884
            refine O_read rfl (R_move rfl (P_some rfl (O_gY rfl rfl hc13 (O_read rfl (R_move rfl (P_some rfl (O_gY rfl rfl hc13 (O_read rfl (R_lenS rfl rfl rfl (P_some rfl (O_gY rfl rfl hc13 (O_read rfl (R_sub rfl rfl ?_)))))))))))))
            refine P_some rfl (O_gY rfl rfl hc13 ?_)
            obtain ⟨x4, hx12, h1884⟩ := obind h1884
            obtain ⟨a3, cs3, hA5, hr3, _, hc14⟩ := Rds.getI (Own.rds (L := (ch5 :: [(g7, .cells #[.int .i64 r10.Lo, .int .i64 r10.Hi] 31 (0, 0))] :: [(g2, .cells #[.int .i64 x1.e1, .int .i64 x1.e2] 42 (0, 0))] :: [(g3, .cells #[.int .i64 r3.Lo, .int .i64 r3.Hi] 31 (0, 0))] :: ch1 :: ch4 :: L)) hO5 0 rfl) hx12
            obtain rfl := hr3
            refine O_read rfl (R_iaG rfl rfl rfl rfl rfl rfl ⟨(getI_lt hx12).1, (getI_lt hx12).2.1⟩ hA5 (P_some rfl (O_gY rfl rfl hc13 (O_read rfl (R_load rfl rfl rfl (Ex.mk _ (Cell.of_cells0 hc14 rfl) (P_some rfl (O_gY rfl rfl hc13 (O_read rfl (R_move rfl (P_some rfl (O_gY rfl rfl hc13 (O_read rfl ?_)))))))))))))
            refine R_lenS rfl rfl rfl (P_some rfl (O_gY rfl rfl hc13 (O_read rfl (R_eqlD rfl rfl (P_some rfl (O_cons (O_read rfl (R_pick_T rfl hc13 rfl (P_some rfl (O_cons (O_read rfl (R_move rfl (P_some rfl ?_)))))))))))))
            refine O_gv (z := (decide (x4 = ((l1.length : Nat) : Int)))) rfl rfl (fun hc15 => ?_) (fun hc15 => ?_)
            · replace h1884 := cond_t hc15 h1884
              apply O_call (all := []); exact rfl; exact rfl; exact rfl
              obtain ⟨r14, hx13, h1884⟩ := obind h1884
              refine recyclinglaw27_awake_fn  hx13 ((P_some rfl (O_cons (O_read rfl (R_pick_T rfl hc15 rfl (P_some rfl (O_cons (O_read rfl (R_assign rfl (P_some rfl (O_nil ?_)))))))))))
              have e_ := Option.some.inj h1884
              subst e_
              exact ⟨r14, rfl, SubFr.of ⟨rfl, trivial⟩, SegSub.sel _ [] 6, rfl⟩
            replace h1884 := cond_f hc15 h1884
            refine P_some rfl (O_cons (O_read rfl (R_pick_F rfl hc15 rfl (P_some rfl (O_cons (O_read rfl (R_assign rfl (P_some rfl (O_nil ?_)))))))))
            have e_ := Option.some.inj h1884
            subst e_
            exact ⟨false, rfl, SubFr.of ⟨rfl, trivial⟩, SegSub.sel _ [] 6, rfl⟩
          replace h1884 := cond_f hc13 h1884
          refine P_some rfl (O_gN rfl rfl hc13 (P_some rfl (O_gN rfl rfl hc13 (P_some rfl (O_gN rfl rfl hc13 (P_some rfl (O_gN rfl rfl hc13 (P_some rfl (O_gN rfl rfl hc13 (P_some rfl (O_gN rfl rfl hc13 (P_some rfl (O_gN rfl rfl hc13 ?_)))))))))))))
          refine P_some rfl (O_gN rfl rfl hc13 (P_some rfl (O_cons (O_read rfl (R_pick_F rfl hc13 rfl (P_some rfl (O_cons (O_read rfl (R_move rfl (P_some rfl (O_gN rfl rfl rfl (P_some rfl (O_cons ?_)))))))))))))
          refine O_read rfl (R_pick_F rfl rfl rfl (P_some rfl (O_cons (O_read rfl (R_assign rfl (P_some rfl (O_nil ?_)))))))
          have e_ := Option.some.inj h1884
          subst e_
          exact ⟨false, rfl, SubFr.of ⟨rfl, trivial⟩, SegSub.sel _ [] 6, rfl⟩
        replace h1884 := cond_f hc12 h1884
        refine P_some rfl (O_gN rfl rfl hc12 (P_some rfl (O_gN rfl rfl hc12 (P_some rfl (O_gN rfl rfl hc12 (P_some rfl (O_gN rfl rfl hc12 (P_some rfl (O_cons (O_read rfl (R_pick_F rfl hc12 rfl (P_some rfl (O_cons ?_)))))))))))))
        refine O_read rfl (R_move rfl (P_some rfl (O_gN rfl rfl rfl (P_some rfl (O_gN rfl rfl rfl (P_some rfl (O_gN rfl rfl rfl (P_some rfl (O_gN rfl rfl rfl (P_some rfl (O_gN rfl rfl rfl (P_some rfl (O_gN rfl rfl rfl ?_)))))))))))))
        refine P_some rfl (O_gN rfl rfl rfl (P_some rfl (O_gN rfl rfl rfl (P_some rfl (O_gN rfl rfl rfl (P_some rfl (O_cons (O_read rfl (R_pick_F rfl rfl rfl (P_some rfl (O_cons (O_read rfl (R_move rfl ?_)))))))))))))
        refine P_some rfl (O_gN rfl rfl rfl (P_some rfl (O_cons (O_read rfl (R_pick_F rfl rfl rfl (P_some rfl (O_cons (O_read rfl (R_assign rfl (P_some rfl (O_nil ?_)))))))))))
        have e_ := Option.some.inj h1884
        subst e_
        exact ⟨false, rfl, SubFr.of ⟨rfl, trivial⟩, SegSub.sel _ [] 6, rfl⟩
      replace h1884 := cond_f hc11 h1884
      refine P_some rfl (O_gN rfl rfl hc11 (P_some rfl (O_cons (O_read rfl (R_pick_F rfl hc11 rfl (P_some rfl (O_cons (O_read rfl (R_move rfl (P_some rfl (O_gN rfl rfl rfl (P_some rfl (O_gN rfl rfl rfl ?_)))))))))))))
      refine P_some rfl (O_gN rfl rfl rfl (P_some rfl (O_gN rfl rfl rfl (P_some rfl (O_gN rfl rfl rfl (P_some rfl (O_cons (O_read rfl (R_pick_F rfl rfl rfl (P_some rfl (O_cons (O_read rfl (R_move rfl ?_)))))))))))))
      refine P_some rfl (O_gN rfl rfl rfl (P_some rfl (O_gN rfl rfl rfl (P_some rfl (O_gN rfl rfl rfl (P_some rfl (O_gN rfl rfl rfl (P_some rfl (O_gN rfl rfl rfl (P_some rfl (O_gN rfl rfl rfl (P_some rfl (O_gN rfl rfl rfl ?_)))))))))))))
      refine P_some rfl (O_gN rfl rfl rfl (P_some rfl (O_gN rfl rfl rfl (P_some rfl (O_cons (O_read rfl (R_pick_F rfl rfl rfl (P_some rfl (O_cons (O_read rfl (R_move rfl (P_some rfl (O_gN rfl rfl rfl ?_)))))))))))))
      refine P_some rfl (O_cons (O_read rfl (R_pick_F rfl rfl rfl (P_some rfl (O_cons (O_read rfl (R_assign rfl (P_some rfl (O_nil ?_)))))))))
      have e_ := Option.some.inj h1884
      subst e_
      exact ⟨false, rfl, SubFr.of ⟨rfl, trivial⟩, SegSub.sel _ [] 6, rfl⟩
    replace h1884 := cond_f hc10 h1884
    refine P_some rfl (O_gN rfl rfl hc10 (P_some rfl (O_gN rfl rfl hc10 (P_some rfl (O_cons (O_read rfl (R_pick_F rfl hc10 rfl (P_some rfl (O_cons (O_read rfl (R_move rfl (P_some rfl (O_gN rfl rfl rfl ?_)))))))))))))
    refine P_some rfl (O_gN rfl rfl rfl (P_some rfl (O_cons (O_read rfl (R_pick_F rfl rfl rfl (P_some rfl (O_cons (O_read rfl (R_move rfl (P_some rfl (O_gN rfl rfl rfl (P_some rfl (O_gN rfl rfl rfl ?_)))))))))))))
    refine P_some rfl (O_gN rfl rfl rfl (P_some rfl (O_gN rfl rfl rfl (P_some rfl (O_gN rfl rfl rfl (P_some rfl (O_cons (O_read rfl (R_pick_F rfl rfl rfl (P_some rfl (O_cons (O_read rfl (R_move rfl ?_)))))))))))))
    refine P_some rfl (O_gN rfl rfl rfl (P_some rfl (O_gN rfl rfl rfl (P_some rfl (O_gN rfl rfl rfl (P_some rfl (O_gN rfl rfl rfl (P_some rfl (O_gN rfl rfl rfl (P_some rfl (O_gN rfl rfl rfl (P_some rfl (O_gN rfl rfl rfl ?_)))))))))))))
    refine P_some rfl (O_gN rfl rfl rfl (P_some rfl (O_gN rfl rfl rfl (P_some rfl (O_cons (O_read rfl (R_pick_F rfl rfl rfl (P_some rfl (O_cons (O_read rfl (R_move rfl (P_some rfl (O_gN rfl rfl rfl ?_)))))))))))))
    refine P_some rfl (O_cons (O_read rfl (R_pick_F rfl rfl rfl (P_some rfl (O_cons (O_read rfl (R_assign rfl (P_some rfl (O_nil ?_)))))))))
    have e_ := Option.some.inj h1884
    subst e_
    exact ⟨false, rfl, SubFr.of ⟨rfl, trivial⟩, SegSub.sel _ [] 6, rfl⟩
  rintro fr1884 μ1884 L1884 hm1884 ⟨v3, ho1884, hF1884, hS1884, hu1884⟩
  subst ho1884
  subst hu1884
  refine hK1883 _ _ _ (WP.at hF1884 hS1884 (WP.ret ?_))
  have e_ := Option.some.inj h
  subst e_
  refine S_tmp rfl (S_nil (Upd.selS [] 0 ?_))
  exact Upd.done hR

theorem recyclinglaw27_TicketWindows_fn {μ : Gh} {L : List Seg} {R : Value → Gh → List Seg → Prop} {F : Nat} {s1 : (List T_api_Scale)} {l1 : (List T_api_Ticket)} {x1 : T_arr3_3} {A1 : Option Addr} {c1 : Nat} {A2 : Option Addr} {c2 : Nat} {res1 : Bool}
    (hl1 : s1.length ≤ c1 ∧ c1 ≤ maxLen) (hA1 : Rds r_api_Scale μ L A1 s1) (hl2 : l1.length ≤ c2 ∧ c2 ≤ maxLen) (hA2 : Rds r_api_Ticket μ L A2 l1) (h : recyclinglaw27_TicketWindows F s1 l1 x1 = some res1)
    (hR : R (.bool res1) μ (L)) :
    Fn Try.prog 9 [.slice A1 s1.length c1, .slice A2 l1.length c2, .agg #[.int .i64 x1.e0, .int .i64 x1.e1, .int .i64 x1.e2]] μ (L) R := by
  unfold recyclinglaw27_TicketWindows at h
  refine Fn.of_body Tt_ok Try.func9 (by kernel_rfl) rfl Try.ntmps9 (by simp) ?_
  simp only [Try.f9, argFr, List.zipIdx, List.map, Nat.reduceAdd]
  refine WP.seq_k (fun K1887 hK1887 => WP.region Tt_ok (O_cons (O_box (cs := #[.int .i64 x1.e0, .int .i64 x1.e1, .int .i64 x1.e2]) rfl rfl (fun g1 => P_some rfl (O_cons (O_read rfl (R_assign rfl (P_some rfl (O_nil (hK1887 _ _ _ (WP.seq_k (fun K1889 hK1889 => WP.seq_k (fun K1890 hK1890 => ?_)))))))))))))
  obtain ⟨o1891, h1891, h⟩ := obind h
  refine WP.cutK (fun fr_ μ_ L_ => ∃ (v1 : Bool), v1 = o1891 ∧ SubFr [(0, .slice A1 s1.length c1), (1, .slice A2 l1.length c2), (5, .pointer (some ⟨g1, 0, none⟩)), (29, .bool v1)] fr_ ∧ SegSub ([(g1, .cells #[.int .i64 x1.e0, .int .i64 x1.e1, .int .i64 x1.e2] 46 (0, 0))] :: L) L_ ∧ μ = μ_) ?_ ?_
  · refine WP.region Tt_ok (O_cons (O_read rfl (R_move rfl (P_some rfl (O_cons (O_read rfl (R_move rfl (P_some rfl (O_cons (O_call (all := [.slice A1 s1.length c1, .slice A2 l1.length c2]) rfl rfl rfl ?_))))))))))
    obtain ⟨r1, hx1, h1891⟩ := obind h1891
    refine recyclinglaw27_great_fn hl1 (Rds.push hA1) hl2 (Rds.push hA2) hx1 ((P_some rfl (O_cons (O_read rfl (R_move rfl (P_some rfl ?_))))))
    refine O_gv (z := r1) rfl rfl (fun hc1 => ?_) (fun hc1 => ?_)
    · replace h1891 := cond_f hc1 h1891
      refine O_read rfl (R_iaA0 (o' := 1) rfl rfl rfl rfl rfl rfl ⟨by decide, by decide⟩ rfl (P_some rfl (O_gY rfl rfl hc1 (O_read rfl (R_load rfl rfl rfl (Ex.mk _ (Cell.seg 0 0 rfl rfl rfl) (P_some rfl (O_gY rfl rfl hc1 (O_read rfl (R_iaA0 (o' := 0) rfl rfl rfl rfl rfl rfl ⟨by decide, by decide⟩ rfl (P_some rfl (O_gY rfl rfl hc1 (O_read rfl ?_)))))))))))))
      refine R_load rfl rfl rfl (Ex.mk _ (Cell.seg 0 0 rfl rfl rfl) (P_some rfl (O_gY rfl rfl hc1 (O_read rfl (R_lssD rfl rfl (P_some rfl (O_cons (O_read rfl (R_pick_F rfl hc1 rfl (P_some rfl (O_cons (O_read rfl (R_move rfl ?_)))))))))))))
      apply P_some; exact rfl
      refine O_gv (z := (decide (x1.e1 < x1.e0))) rfl rfl (fun hc2 => ?_) (fun hc2 => ?_)
      · replace h1891 := cond_f hc2 h1891
        refine O_read rfl (R_iaA0 (o' := 2) rfl rfl rfl rfl rfl rfl ⟨by decide, by decide⟩ rfl (P_some rfl (O_gY rfl rfl hc2 (O_read rfl (R_load rfl rfl rfl (Ex.mk _ (Cell.seg 0 0 rfl rfl rfl) (P_some rfl (O_gY rfl rfl hc2 (O_read rfl (R_iaA0 (o' := 1) rfl rfl rfl rfl rfl rfl ⟨by decide, by decide⟩ rfl (P_some rfl (O_gY rfl rfl hc2 (O_read rfl ?_)))))))))))))
        refine R_load rfl rfl rfl (Ex.mk _ (Cell.seg 0 0 rfl rfl rfl) (P_some rfl (O_gY rfl rfl hc2 (O_read rfl (R_lssD rfl rfl (P_some rfl (O_cons (O_read rfl (R_pick_F rfl hc2 rfl (P_some rfl (O_nil ?_)))))))))))
        have e_ := Option.some.inj h1891
        subst e_
        exact ⟨(decide (x1.e2 < x1.e1)), rfl, SubFr.of ⟨rfl, rfl, rfl, rfl, trivial⟩, SegSub.sel _ [some 0] 1, rfl⟩
      replace h1891 := cond_t hc2 h1891
      refine P_some rfl (O_gN rfl rfl hc2 (P_some rfl (O_gN rfl rfl hc2 (P_some rfl (O_gN rfl rfl hc2 (P_some rfl (O_gN rfl rfl hc2 (P_some rfl (O_cons (O_read rfl (R_pick_T rfl hc2 rfl (P_some rfl (O_nil ?_)))))))))))))
      have e_ := Option.some.inj h1891
      subst e_
      exact ⟨true, rfl, SubFr.of ⟨rfl, rfl, rfl, rfl, trivial⟩, SegSub.sel _ [some 0] 1, rfl⟩
    replace h1891 := cond_t hc1 h1891
    refine P_some rfl (O_gN rfl rfl hc1 (P_some rfl (O_gN rfl rfl hc1 (P_some rfl (O_gN rfl rfl hc1 (P_some rfl (O_gN rfl rfl hc1 (P_some rfl (O_cons (O_read rfl (R_pick_T rfl hc1 rfl (P_some rfl (O_cons ?_)))))))))))))
    refine O_read rfl (R_move rfl (P_some rfl (O_gN rfl rfl rfl (P_some rfl (O_gN rfl rfl rfl (P_some rfl (O_gN rfl rfl rfl (P_some rfl (O_gN rfl rfl rfl (P_some rfl (O_gN rfl rfl rfl (P_some rfl (O_cons ?_)))))))))))))
    refine O_read rfl (R_pick_T rfl rfl rfl (P_some rfl (O_nil ?_)))
    have e_ := Option.some.inj h1891
    subst e_
    exact ⟨true, rfl, SubFr.of ⟨rfl, rfl, rfl, rfl, trivial⟩, SegSub.sel _ [some 0] 1, rfl⟩
  rintro fr1891 μ1891 L1891 hm1891 ⟨v1, ho1891, hF1891, hS1891, hu1891⟩
  subst ho1891
  subst hu1891
  refine hK1890 _ _ _ (WP.at hF1891 hS1891 ?_)
  refine W_cond_v (b := v1) rfl (fun hc3 => ?_) (fun hc3 => ?_)
  · replace h := cond_t hc3 h
    refine WP.seq_k (fun K1894 hK1894 => WP.region Tt_ok (O_cons (O_call (all := []) rfl rfl rfl ?_)))
    obtain ⟨r2, hx2, h⟩ := obind h
    refine recyclinglaw27_awake_fn  hx2 ((P_some rfl (O_cons (O_read rfl (R_assign rfl (P_some rfl (O_nil (hK1894 _ _ _ (WP.ret ?_)))))))))
    have e_ := Option.some.inj h
    subst e_
    refine S_tmp rfl (S_nil (Upd.selS [] 1 ?_))
    exact Upd.done hR
  replace h := cond_f hc3 h
  refine WP.skip (hK1889 _ _ _ (WP.seq_k (fun K1895 hK1895 => WP.region Tt_ok (O_cons (O_read rfl (R_move rfl (P_some rfl (O_cons (O_read rfl (R_move rfl (P_some rfl (O_cons (O_read rfl ?_)))))))))))))
  refine R_iaA0 (o' := 0) rfl rfl rfl rfl rfl rfl ⟨by decide, by decide⟩ rfl (P_some rfl (O_cons (O_read rfl (R_load rfl rfl rfl (Ex.mk _ (Cell.seg 0 0 rfl rfl rfl) (P_some rfl (O_cons (O_read rfl (R_iaA0 (o' := 2) rfl rfl rfl rfl rfl rfl ⟨by decide, by decide⟩ rfl (P_some rfl (O_cons (O_read rfl (R_load rfl rfl rfl ?_)))))))))))))
  refine Ex.mk _ (Cell.seg 0 0 rfl rfl rfl) (P_some rfl (O_cons (O_read rfl (R_build rfl rfl rfl rfl (F_cons (cells' := [.int .i64 x1.e0, .int .i64 0]) rfl rfl rfl rfl (F_cons (cells' := [.int .i64 x1.e0, .int .i64 x1.e2]) rfl rfl rfl rfl (F_nil (P_some rfl (O_cons (O_call (all := [.slice A1 s1.length c1, .slice A2 l1.length c2, .agg #[.int .i64 x1.e0, .int .i64 x1.e2]]) rfl rfl rfl ?_))))))))))
  obtain ⟨⟨r3, r4⟩, hx3, h⟩ := obind h
  replace h := oun_mk h
  refine ticket_Total_fn hl1 (Rds.push hA1) hl2 (Rds.push hA2) hx3 ((P_some rfl (O_cons (O_read rfl (R_move rfl (P_some rfl (O_cons (O_read rfl (R_ext rfl rfl (P_some rfl (O_cons (O_read rfl (R_ext rfl rfl (P_some rfl ?_))))))))))))))
  refine O_cons (O_alloc (cs := #[.int .i64 0, .int .i64 0]) rfl rfl (fun g2 => P_some rfl (O_cons (O_store (vs := [.int .i64 r3.Lo, .int .i64 r3.Hi]) rfl rfl rfl rfl rfl rfl (ST_ (L' := ([(g2, .cells #[.int .i64 r3.Lo, .int .i64 r3.Hi] 31 (0, 0))] :: [(g1, .cells #[.int .i64 x1.e0, .int .i64 x1.e1, .int .i64 x1.e2] 46 (0, 0))] :: L)) 0 0 rfl rfl rfl rfl (P_none (O_cons (O_read rfl (R_assign rfl (P_some rfl (O_nil (hK1895 _ _ _ (WP.seq_k (fun K1898 hK1898 => ?_))))))))))))))
  refine WP.region Tt_ok (O_cons (O_read rfl (R_move rfl (P_some rfl (O_cons (O_read rfl (R_move rfl (P_some rfl (O_cons (O_read rfl (R_iaA0 (o' := 0) rfl rfl rfl rfl rfl rfl ⟨by decide, by decide⟩ rfl (P_some rfl (O_cons ?_)))))))))))))
  refine O_read rfl (R_load rfl rfl rfl (Ex.mk _ (Cell.seg 1 0 rfl rfl rfl) (P_some rfl (O_cons (O_read rfl (R_iaA0 (o' := 1) rfl rfl rfl rfl rfl rfl ⟨by decide, by decide⟩ rfl (P_some rfl (O_cons (O_read rfl (R_load rfl rfl rfl (Ex.mk _ (Cell.seg 1 0 rfl rfl rfl) (P_some rfl (O_cons ?_)))))))))))))
  refine O_read rfl (R_build rfl rfl rfl rfl (F_cons (cells' := [.int .i64 x1.e0, .int .i64 0]) rfl rfl rfl rfl (F_cons (cells' := [.int .i64 x1.e0, .int .i64 x1.e1]) rfl rfl rfl rfl (F_nil (P_some rfl (O_cons (O_call (all := [.slice A1 s1.length c1, .slice A2 l1.length c2, .agg #[.int .i64 x1.e0, .int .i64 x1.e1]]) rfl rfl rfl ?_)))))))
  obtain ⟨⟨r5, r6⟩, hx4, h⟩ := obind h
  replace h := oun_mk h
  refine ticket_Total_fn hl1 (Rds.push (Rds.push hA1)) hl2 (Rds.push (Rds.push hA2)) hx4 ((P_some rfl (O_cons (O_read rfl (R_move rfl (P_some rfl (O_cons (O_read rfl (R_ext rfl rfl (P_some rfl (O_cons (O_read rfl (R_ext rfl rfl (P_some rfl ?_))))))))))))))
  refine O_cons (O_alloc (cs := #[.int .i64 0, .int .i64 0]) rfl rfl (fun g3 => P_some rfl (O_cons (O_store (vs := [.int .i64 r5.Lo, .int .i64 r5.Hi]) rfl rfl rfl rfl rfl rfl (ST_ (L' := ([(g3, .cells #[.int .i64 r5.Lo, .int .i64 r5.Hi] 31 (0, 0))] :: [(g2, .cells #[.int .i64 r3.Lo, .int .i64 r3.Hi] 31 (0, 0))] :: [(g1, .cells #[.int .i64 x1.e0, .int .i64 x1.e1, .int .i64 x1.e2] 46 (0, 0))] :: L)) 0 0 rfl rfl rfl rfl (P_none (O_cons (O_read rfl (R_assign rfl (P_some rfl (O_nil (hK1898 _ _ _ (WP.seq_k (fun K1901 hK1901 => ?_))))))))))))))
  refine WP.region Tt_ok (O_cons (O_read rfl (R_move rfl (P_some rfl (O_cons (O_read rfl (R_move rfl (P_some rfl (O_cons (O_read rfl (R_iaA0 (o' := 1) rfl rfl rfl rfl rfl rfl ⟨by decide, by decide⟩ rfl (P_some rfl (O_cons ?_)))))))))))))
  refine O_read rfl (R_load rfl rfl rfl (Ex.mk _ (Cell.seg 2 0 rfl rfl rfl) (P_some rfl (O_cons (O_read rfl (R_iaA0 (o' := 2) rfl rfl rfl rfl rfl rfl ⟨by decide, by decide⟩ rfl (P_some rfl (O_cons (O_read rfl (R_load rfl rfl rfl (Ex.mk _ (Cell.seg 2 0 rfl rfl rfl) (P_some rfl (O_cons ?_)))))))))))))
  refine O_read rfl (R_build rfl rfl rfl rfl (F_cons (cells' := [.int .i64 x1.e1, .int .i64 0]) rfl rfl rfl rfl (F_cons (cells' := [.int .i64 x1.e1, .int .i64 x1.e2]) rfl rfl rfl rfl (F_nil (P_some rfl (O_cons (O_call (all := [.slice A1 s1.length c1, .slice A2 l1.length c2, .agg #[.int .i64 x1.e1, .int .i64 x1.e2]]) rfl rfl rfl ?_)))))))
  obtain ⟨⟨r7, r8⟩, hx5, h⟩ := obind h
  replace h := oun_mk h
  refine ticket_Total_fn hl1 (Rds.push (Rds.push (Rds.push hA1))) hl2 (Rds.push (Rds.push (Rds.push hA2))) hx5 ((P_some rfl (O_cons (O_read rfl (R_move rfl (P_some rfl (O_cons (O_read rfl (R_ext rfl rfl (P_some rfl (O_cons (O_read rfl (R_ext rfl rfl (P_some rfl ?_))))))))))))))
  refine O_cons (O_alloc (cs := #[.int .i64 0, .int .i64 0]) rfl rfl (fun g4 => P_some rfl (O_cons (O_store (vs := [.int .i64 r7.Lo, .int .i64 r7.Hi]) rfl rfl rfl rfl rfl rfl (ST_ (L' := ([(g4, .cells #[.int .i64 r7.Lo, .int .i64 r7.Hi] 31 (0, 0))] :: [(g3, .cells #[.int .i64 r5.Lo, .int .i64 r5.Hi] 31 (0, 0))] :: [(g2, .cells #[.int .i64 r3.Lo, .int .i64 r3.Hi] 31 (0, 0))] :: [(g1, .cells #[.int .i64 x1.e0, .int .i64 x1.e1, .int .i64 x1.e2] 46 (0, 0))] :: L)) 0 0 rfl rfl rfl rfl (P_none (O_cons (O_read rfl (R_assign rfl (P_some rfl (O_nil (hK1901 _ _ _ (WP.seq_k (fun K1904 hK1904 => ?_))))))))))))))
  refine WP.seq_k (fun K1905 hK1905 => WP.region Tt_ok (O_cons (O_read rfl (R_move rfl (P_some rfl (O_cons (O_read rfl (R_neqD rfl rfl (P_some rfl (O_nil (hK1905 _ _ _ ?_)))))))))))
  refine W_cond_v (b := !(decide (r4 = 0))) rfl (fun hc4 => ?_) (fun hc4 => ?_)
  · replace h := cond_t hc4 h
    refine WP.seq_k ?_; intro K1906 hK1906
    obtain ⟨o1907, h1907, h⟩ := obind h
    refine WP.cutK (fun fr_ μ_ L_ => ∃ (v2 : Bool), v2 = o1907 ∧ SubFr [(6, .bool v2)] fr_ ∧ SegSub (L) L_ ∧ μ = μ_) ?_ ?_
    · refine WP.region Tt_ok (O_cons (O_read rfl (R_loadA rfl rfl rfl rfl (LA_ (vs := [.int .i64 r3.Lo, .int .i64 r3.Hi]) 2 0 rfl rfl rfl rfl (P_some rfl (O_cons (O_read rfl (R_build rfl rfl rfl rfl (F_nil (P_some rfl (O_cons (O_read rfl (R_agg rfl rfl ?_)))))))))))))
      refine Ex.mk _ (eqRun_T_api_Span r3 (T_api_Span.mk 0 0)) (P_some rfl (O_cons (O_read rfl (R_move rfl (P_some rfl ?_)))))
      refine O_gv (z := (decide (r3 = (T_api_Span.mk 0 0)))) rfl rfl (fun hc5 => ?_) (fun hc5 => ?_)
      · replace h1907 := cond_t hc5 h1907
        apply O_call (all := []); exact rfl; exact rfl; exact rfl
        obtain ⟨r9, hx6, h1907⟩ := obind h1907
        refine recyclinglaw27_awake_fn  hx6 ((P_some rfl (O_cons (O_read rfl (R_pick_T rfl hc5 rfl (P_some rfl (O_cons (O_read rfl (R_assign rfl (P_some rfl (O_nil ?_)))))))))))
        have e_ := Option.some.inj h1907
        subst e_
        exact ⟨r9, rfl, SubFr.of ⟨rfl, trivial⟩, SegSub.sel _ [] 4, rfl⟩
      replace h1907 := cond_f hc5 h1907
      refine P_some rfl (O_cons (O_read rfl (R_pick_F rfl hc5 rfl (P_some rfl (O_cons (O_read rfl (R_assign rfl (P_some rfl (O_nil ?_)))))))))
      have e_ := Option.some.inj h1907
      subst e_
      exact ⟨false, rfl, SubFr.of ⟨rfl, trivial⟩, SegSub.sel _ [] 4, rfl⟩
    rintro fr1907 μ1907 L1907 hm1907 ⟨v2, ho1907, hF1907, hS1907, hu1907⟩
    subst ho1907
    subst hu1907
    refine hK1906 _ _ _ (WP.at hF1907 hS1907 (WP.ret ?_))
    have e_ := Option.some.inj h
    subst e_
    refine S_tmp rfl (S_nil (Upd.selS [] 0 ?_))
    exact Upd.done hR
  replace h := cond_f hc4 h
  refine WP.skip (hK1904 _ _ _ (WP.seq_k (fun K1908 hK1908 => ?_)))
  obtain ⟨o1909, h1909, h⟩ := obind h
  refine WP.cutK (fun fr_ μ_ L_ => ∃ (v3 : Bool), v3 = o1909 ∧ SubFr [(6, .bool v3)] fr_ ∧ SegSub (L) L_ ∧ μ = μ_) ?_ ?_
  · refine WP.region Tt_ok (O_cons (O_read rfl (R_move rfl (P_some rfl (O_cons (O_read rfl (R_eqlD rfl rfl (P_some rfl (O_cons (O_read rfl (R_move rfl (P_some rfl ?_))))))))))))
    refine O_gv (z := (decide (r6 = 0))) rfl rfl (fun hc6 => ?_) (fun hc6 => ?_)
    · replace h1909 := cond_t hc6 h1909
      refine O_read rfl (R_move rfl (P_some rfl (O_gY rfl rfl hc6 (O_read rfl (R_eqlD rfl rfl (P_some rfl (O_cons (O_read rfl (R_pick_T rfl hc6 rfl (P_some rfl (O_cons (O_read rfl (R_move rfl ?_)))))))))))))
      apply P_some; exact rfl
      refine O_gv (z := (decide (r8 = 0))) rfl rfl (fun hc7 => ?_) (fun hc7 => ?_)
      · replace h1909 := cond_t hc7 h1909
        refine O_read rfl (R_loadA rfl rfl rfl rfl (LA_ (vs := [.int .i64 r3.Lo, .int .i64 r3.Hi]) 2 0 rfl rfl rfl rfl (P_some rfl (O_gY rfl rfl hc7 (O_read rfl (R_fa0 (o' := 0) rfl rfl rfl rfl rfl rfl (P_some rfl (O_gY rfl rfl hc7 (O_read rfl (R_load rfl rfl rfl (Ex.mk _ (Cell.seg 1 0 rfl rfl rfl) (P_some rfl (O_gY rfl rfl hc7 ?_)))))))))))))
        refine O_read rfl (R_fa0 (o' := 0) rfl rfl rfl rfl rfl rfl (P_some rfl (O_gY rfl rfl hc7 (O_read rfl (R_load rfl rfl rfl (Ex.mk _ (Cell.seg 0 0 rfl rfl rfl) (P_some rfl (O_gY rfl rfl hc7 (O_read rfl (R_add rfl rfl (P_some rfl (O_gY rfl rfl hc7 (O_read rfl ?_)))))))))))))
        refine R_fa0 (o' := 1) rfl rfl rfl rfl rfl rfl (P_some rfl (O_gY rfl rfl hc7 (O_read rfl (R_load rfl rfl rfl (Ex.mk _ (Cell.seg 1 0 rfl rfl rfl) (P_some rfl (O_gY rfl rfl hc7 (O_read rfl (R_fa0 (o' := 1) rfl rfl rfl rfl rfl rfl (P_some rfl (O_gY rfl rfl hc7 (O_read rfl (R_load rfl rfl rfl ?_)))))))))))))
        refine Ex.mk _ (Cell.seg 0 0 rfl rfl rfl) (P_some rfl (O_gY rfl rfl hc7 (O_read rfl (R_add rfl rfl (P_some rfl (O_gY rfl rfl hc7 (O_read rfl (R_build rfl rfl rfl rfl (F_cons (cells' := [.int .i64 (w64 (r5.Lo + r7.Lo)), .int .i64 0]) rfl rfl rfl rfl (F_cons (cells' := [.int .i64 (w64 (r5.Lo + r7.Lo)), .int .i64 (w64 (r5.Hi + r7.Hi))]) rfl rfl rfl rfl (F_nil (P_some rfl (O_gY rfl rfl hc7 ?_)))))))))))))
        refine O_read rfl (R_agg rfl rfl (Ex.mk _ (eqRun_T_api_Span r3 (T_api_Span.mk (w64 (r5.Lo + r7.Lo)) (w64 (r5.Hi + r7.Hi)))) (P_some rfl (O_cons (O_read rfl (R_pick_T rfl hc7 rfl (P_some rfl (O_cons (O_read rfl (R_move rfl (P_some rfl ?_)))))))))))
        refine O_gv (z := (decide (r3 = (T_api_Span.mk (w64 (r5.Lo + r7.Lo)) (w64 (r5.Hi + r7.Hi)))))) rfl rfl (fun hc8 => ?_) (fun hc8 => ?_)
        · replace h1909 := cond_t hc8 h1909
          apply O_call (all := []); exact rfl; exact rfl; exact rfl
          obtain ⟨r10, hx7, h1909⟩ := obind h1909
          refine recyclinglaw27_awake_fn  hx7 ((P_some rfl (O_cons (O_read rfl (R_pick_T rfl hc8 rfl (P_some rfl (O_cons (O_read rfl (R_assign rfl (P_some rfl (O_nil ?_)))))))))))
          have e_ := Option.some.inj h1909
          subst e_
          exact ⟨r10, rfl, SubFr.of ⟨rfl, trivial⟩, SegSub.sel _ [] 4, rfl⟩
        replace h1909 := cond_f hc8 h1909
        refine P_some rfl (O_cons (O_read rfl (R_pick_F rfl hc8 rfl (P_some rfl (O_cons (O_read rfl (R_assign rfl (P_some rfl (O_nil ?_)))))))))
        have e_ := Option.some.inj h1909
        subst e_
        exact ⟨false, rfl, SubFr.of ⟨rfl, trivial⟩, SegSub.sel _ [] 4, rfl⟩
      replace h1909 := cond_f hc7 h1909
      refine P_some rfl (O_gN rfl rfl hc7 (P_some rfl (O_gN rfl rfl hc7 (P_some rfl (O_gN rfl rfl hc7 (P_some rfl (O_gN rfl rfl hc7 (P_some rfl (O_gN rfl rfl hc7 (P_some rfl (O_gN rfl rfl hc7 (P_some rfl (O_gN rfl rfl hc7 ?_)))))))))))))
      refine P_some rfl (O_gN rfl rfl hc7 (P_some rfl (O_gN rfl rfl hc7 (P_some rfl (O_gN rfl rfl hc7 (P_some rfl (O_gN rfl rfl hc7 (P_some rfl (O_gN rfl rfl hc7 (P_some rfl (O_cons (O_read rfl (R_pick_F rfl hc7 rfl ?_)))))))))))))
      refine P_some rfl (O_cons (O_read rfl (R_move rfl (P_some rfl (O_gN rfl rfl rfl (P_some rfl (O_cons (O_read rfl (R_pick_F rfl rfl rfl (P_some rfl (O_cons (O_read rfl (R_assign rfl ?_)))))))))))))
      refine P_some rfl (O_nil ?_)
      have e_ := Option.some.inj h1909
      subst e_
      exact ⟨false, rfl, SubFr.of ⟨rfl, trivial⟩, SegSub.sel _ [] 4, rfl⟩
    replace h1909 := cond_f hc6 h1909
    refine P_some rfl (O_gN rfl rfl hc6 (P_some rfl (O_cons (O_read rfl (R_pick_F rfl hc6 rfl (P_some rfl (O_cons (O_read rfl (R_move rfl (P_some rfl (O_gN rfl rfl rfl (P_some rfl (O_gN rfl rfl rfl ?_)))))))))))))
    refine P_some rfl (O_gN rfl rfl rfl (P_some rfl (O_gN rfl rfl rfl (P_some rfl (O_gN rfl rfl rfl (P_some rfl (O_gN rfl rfl rfl (P_some rfl (O_gN rfl rfl rfl (P_some rfl (O_gN rfl rfl rfl (P_some rfl (O_gN rfl rfl rfl ?_)))))))))))))
    refine P_some rfl (O_gN rfl rfl rfl (P_some rfl (O_gN rfl rfl rfl (P_some rfl (O_gN rfl rfl rfl (P_some rfl (O_gN rfl rfl rfl (P_some rfl (O_cons (O_read rfl (R_pick_F rfl rfl rfl (P_some rfl (O_cons ?_)))))))))))))
    refine O_read rfl (R_move rfl (P_some rfl (O_gN rfl rfl rfl (P_some rfl (O_cons (O_read rfl (R_pick_F rfl rfl rfl (P_some rfl (O_cons (O_read rfl (R_assign rfl (P_some rfl (O_nil ?_)))))))))))))
    have e_ := Option.some.inj h1909
    subst e_
    exact ⟨false, rfl, SubFr.of ⟨rfl, trivial⟩, SegSub.sel _ [] 4, rfl⟩
  rintro fr1909 μ1909 L1909 hm1909 ⟨v3, ho1909, hF1909, hS1909, hu1909⟩
  subst ho1909
  subst hu1909
  refine hK1908 _ _ _ (WP.at hF1909 hS1909 (WP.ret ?_))
  have e_ := Option.some.inj h
  subst e_
  refine S_tmp rfl (S_nil (Upd.selS [] 0 ?_))
  exact Upd.done hR

theorem scale_Error_fn {μ : Gh} {L : List Seg} {R : Value → Gh → List Seg → Prop}  {s1 : T_api_Scale} {mass1 : Int} {t1 : Int}  {res1 : Int} {res2 : Int}
     (h : scale_Error s1 mass1 t1 = some (res1, res2))
    (hR : R (.tuple #[.int .i64 res1, .int .i64 res2]) μ (L)) :
    Fn Try.prog 39 [.agg #[.int .i64 s1.Step, .int .i64 s1.Max, .int .i64 s1.Base, .int .i64 s1.Slope, .int .i64 s1.Drift, .int .i64 s1.Checked], .int .i64 mass1, .int .i64 t1] μ (L) R := by
  unfold scale_Error at h
  refine Fn.of_body Tt_ok Try.func39 (by kernel_rfl) rfl Try.ntmps39 (by simp) ?_
  simp only [Try.f39, argFr, List.zipIdx, List.map, Nat.reduceAdd]
  refine WP.seq_k (fun K1940 hK1940 => WP.region Tt_ok (O_cons (O_box (cs := #[.int .i64 s1.Step, .int .i64 s1.Max, .int .i64 s1.Base, .int .i64 s1.Slope, .int .i64 s1.Drift, .int .i64 s1.Checked]) rfl rfl (fun g1 => P_some rfl (O_cons (O_read rfl (R_assign rfl (P_some rfl (O_cons (O_read rfl (R_assign rfl (P_some rfl (O_nil ?_)))))))))))))
  refine hK1940 _ _ _ (WP.seq_k (fun K1942 hK1942 => WP.seq_k (fun K1943 hK1943 => ?_)))
  obtain ⟨o1944, h1944, h⟩ := obind h
  refine WP.cutK (fun fr_ μ_ L_ => ∃ (v1 : Bool), v1 = o1944 ∧ SubFr [(1, .int .i64 mass1), (2, .int .i64 t1), (3, .pointer (some ⟨g1, 0, none⟩)), (20, .bool v1)] fr_ ∧ SegSub ([(g1, .cells #[.int .i64 s1.Step, .int .i64 s1.Max, .int .i64 s1.Base, .int .i64 s1.Slope, .int .i64 s1.Drift, .int .i64 s1.Checked] 52 (0, 0))] :: L) L_ ∧ μ = μ_) ?_ ?_
  · refine WP.region Tt_ok (O_cons (O_read rfl (R_loadA rfl rfl rfl rfl (LA_ (vs := [.int .i64 s1.Step, .int .i64 s1.Max, .int .i64 s1.Base, .int .i64 s1.Slope, .int .i64 s1.Drift, .int .i64 s1.Checked]) 0 0 rfl rfl rfl rfl (P_some rfl (O_cons (O_call (all := [.agg #[.int .i64 s1.Step, .int .i64 s1.Max, .int .i64 s1.Base, .int .i64 s1.Slope, .int .i64 s1.Drift, .int .i64 s1.Checked]]) rfl rfl rfl ?_)))))))
    obtain ⟨r1, hx1, h1944⟩ := obind h1944
    refine scale_Check_fn  hx1 ((P_some rfl (O_cons (O_read rfl (R_neqD rfl rfl (P_some rfl (O_cons (O_read rfl (R_move rfl (P_some rfl ?_))))))))))
    refine O_gv (z := !(decide (r1 = 0))) rfl rfl (fun hc1 => ?_) (fun hc1 => ?_)
    · replace h1944 := cond_f hc1 h1944
      refine O_read rfl (R_move rfl (P_some rfl (O_gY rfl rfl hc1 (O_call (all := [.int .i64 0, .int .i64 mass1, .int .i64 1073741824]) rfl rfl rfl ?_))))
      obtain ⟨r2, hx2, h1944⟩ := obind h1944
      refine scale_between_fn  hx2 ((P_some rfl (O_gY rfl rfl hc1 (O_read rfl (R_not rfl (P_some rfl (O_cons (O_read rfl (R_pick_F rfl hc1 rfl (P_some rfl (O_cons (O_read rfl (R_move rfl (P_some rfl ?_))))))))))))))
      refine O_gv (z := !r2) rfl rfl (fun hc2 => ?_) (fun hc2 => ?_)
      · replace h1944 := cond_f hc2 h1944
        refine O_read rfl (R_move rfl (P_some rfl (O_gY rfl rfl hc2 (O_call (all := [.int .i64 0, .int .i64 t1, .int .i64 3155759999]) rfl rfl rfl ?_))))
        obtain ⟨r3, hx3, h1944⟩ := obind h1944
        refine scale_between_fn  hx3 ((P_some rfl (O_gY rfl rfl hc2 (O_read rfl (R_not rfl (P_some rfl (O_cons (O_read rfl (R_pick_F rfl hc2 rfl (P_some rfl (O_nil ?_)))))))))))
        have e_ := Option.some.inj h1944
        subst e_
        exact ⟨!r3, rfl, SubFr.of ⟨rfl, rfl, rfl, rfl, trivial⟩, SegSub.sel _ [some 0] 1, rfl⟩
      replace h1944 := cond_t hc2 h1944
      refine P_some rfl (O_gN rfl rfl hc2 (P_some rfl (O_gN rfl rfl hc2 (P_some rfl (O_cons (O_read rfl (R_pick_T rfl hc2 rfl (P_some rfl (O_nil ?_)))))))))
      have e_ := Option.some.inj h1944
      subst e_
      exact ⟨true, rfl, SubFr.of ⟨rfl, rfl, rfl, rfl, trivial⟩, SegSub.sel _ [some 0] 1, rfl⟩
    replace h1944 := cond_t hc1 h1944
    refine P_some rfl (O_gN rfl rfl hc1 (P_some rfl (O_gN rfl rfl hc1 (P_some rfl (O_cons (O_read rfl (R_pick_T rfl hc1 rfl (P_some rfl (O_cons (O_read rfl (R_move rfl (P_some rfl (O_gN rfl rfl rfl ?_)))))))))))))
    refine P_some rfl (O_gN rfl rfl rfl (P_some rfl (O_gN rfl rfl rfl (P_some rfl (O_cons (O_read rfl (R_pick_T rfl rfl rfl (P_some rfl (O_nil ?_)))))))))
    have e_ := Option.some.inj h1944
    subst e_
    exact ⟨true, rfl, SubFr.of ⟨rfl, rfl, rfl, rfl, trivial⟩, SegSub.sel _ [some 0] 1, rfl⟩
  rintro fr1944 μ1944 L1944 hm1944 ⟨v1, ho1944, hF1944, hS1944, hu1944⟩
  subst ho1944
  subst hu1944
  refine hK1943 _ _ _ (WP.at hF1944 hS1944 ?_)
  refine W_cond_v (b := v1) rfl (fun hc3 => ?_) (fun hc3 => ?_)
  · replace h := cond_t hc3 h
    refine WP.seq_k (fun K1947 hK1947 => WP.region Tt_ok (O_cons (O_read rfl (R_assign rfl (P_some rfl (O_cons (O_read rfl (R_assign rfl (P_some rfl (O_nil (hK1947 _ _ _ (WP.ret ?_))))))))))))
    have e_ := Option.some.inj h
    obtain ⟨e0a_, e0b_⟩ := Prod.mk.inj e_
    clear e_
    subst e0a_
    subst e0b_
    refine S_tmp rfl (S_tmp rfl (S_nil (Upd.selS [] 1 ?_)))
    exact Upd.done hR
  replace h := cond_f hc3 h
  refine WP.skip (hK1942 _ _ _ (WP.seq_k (fun K1948 hK1948 => WP.seq_k (fun K1949 hK1949 => WP.region Tt_ok (O_cons (O_read rfl (R_move rfl (P_some rfl (O_cons (O_read rfl (R_fa0 (o' := 5) rfl rfl rfl rfl rfl rfl (P_some rfl (O_cons ?_)))))))))))))
  refine O_read rfl (R_load rfl rfl rfl (Ex.mk _ (Cell.seg 0 0 rfl rfl rfl) (P_some rfl (O_cons (O_read rfl (R_lssD rfl rfl (P_some rfl (O_nil (hK1949 _ _ _ ?_)))))))))
  refine W_cond_v (b := (decide (t1 < s1.Checked))) rfl (fun hc4 => ?_) (fun hc4 => ?_)
  · replace h := cond_t hc4 h
    refine WP.seq_k (fun K1950 hK1950 => WP.region Tt_ok (O_cons (O_read rfl (R_assign rfl (P_some rfl (O_cons (O_read rfl (R_assign rfl (P_some rfl (O_nil (hK1950 _ _ _ (WP.ret ?_))))))))))))
    have e_ := Option.some.inj h
    obtain ⟨e0a_, e0b_⟩ := Prod.mk.inj e_
    clear e_
    subst e0a_
    subst e0b_
    refine S_tmp rfl (S_tmp rfl (S_nil (Upd.selS [] 1 ?_)))
    exact Upd.done hR
  replace h := cond_f hc4 h
  refine WP.skip (hK1948 _ _ _ (WP.seq_k (fun K1951 hK1951 => WP.region Tt_ok (O_cons (O_read rfl (R_loadA rfl rfl rfl rfl (LA_ (vs := [.int .i64 s1.Step, .int .i64 s1.Max, .int .i64 s1.Base, .int .i64 s1.Slope, .int .i64 s1.Drift, .int .i64 s1.Checked]) 0 0 rfl rfl rfl rfl (P_some rfl (O_cons (O_read rfl (R_move rfl (P_some rfl (O_cons ?_)))))))))))))
  refine O_read rfl (R_move rfl (P_some rfl (O_cons (O_call (all := [.agg #[.int .i64 s1.Step, .int .i64 s1.Max, .int .i64 s1.Base, .int .i64 s1.Slope, .int .i64 s1.Drift, .int .i64 s1.Checked], .int .i64 mass1, .int .i64 t1]) rfl rfl rfl ?_))))
  obtain ⟨r4, hx4, h⟩ := obind h
  refine scale_bound_fn  hx4 ((P_some rfl (O_cons (O_read rfl (R_assign rfl (P_some rfl (O_cons (O_read rfl (R_assign rfl (P_some rfl (O_nil (hK1951 _ _ _ (WP.ret ?_)))))))))))))
  have e_ := Option.some.inj h
  obtain ⟨e0a_, e0b_⟩ := Prod.mk.inj e_
  clear e_
  subst e0a_
  subst e0b_
  refine S_tmp rfl (S_tmp rfl (S_nil (Upd.selS [] 1 ?_)))
  exact Upd.done hR

theorem scale_Could_fn {μ : Gh} {L : List Seg} {R : Value → Gh → List Seg → Prop}  {s1 : T_api_Scale} {mass1 : Int} {shown1 : Int} {t1 : Int}  {res1 : Bool}
     (h : scale_Could s1 mass1 shown1 t1 = some res1)
    (hR : R (.bool res1) μ (L)) :
    Fn Try.prog 25 [.agg #[.int .i64 s1.Step, .int .i64 s1.Max, .int .i64 s1.Base, .int .i64 s1.Slope, .int .i64 s1.Drift, .int .i64 s1.Checked], .int .i64 mass1, .int .i64 shown1, .int .i64 t1] μ (L) R := by
  unfold scale_Could at h
  refine Fn.of_body Tt_ok Try.func25 (by kernel_rfl) rfl Try.ntmps25 (by simp) ?_
  simp only [Try.f25, argFr, List.zipIdx, List.map, Nat.reduceAdd]
  refine WP.seq_k (fun K1937 hK1937 => WP.region Tt_ok (O_cons (O_box (cs := #[.int .i64 s1.Step, .int .i64 s1.Max, .int .i64 s1.Base, .int .i64 s1.Slope, .int .i64 s1.Drift, .int .i64 s1.Checked]) rfl rfl (fun g1 => P_some rfl (O_cons (O_read rfl (R_assign rfl (P_some rfl (O_nil (hK1937 _ _ _ (WP.seq_k (fun K1939 hK1939 => WP.region Tt_ok (O_cons ?_)))))))))))))
  refine O_read rfl (R_loadA rfl rfl rfl rfl (LA_ (vs := [.int .i64 s1.Step, .int .i64 s1.Max, .int .i64 s1.Base, .int .i64 s1.Slope, .int .i64 s1.Drift, .int .i64 s1.Checked]) 0 0 rfl rfl rfl rfl (P_some rfl (O_cons (O_read rfl (R_move rfl (P_some rfl (O_cons (O_read rfl (R_move rfl (P_some rfl (O_cons (O_call (all := [.agg #[.int .i64 s1.Step, .int .i64 s1.Max, .int .i64 s1.Base, .int .i64 s1.Slope, .int .i64 s1.Drift, .int .i64 s1.Checked], .int .i64 mass1, .int .i64 t1]) rfl rfl rfl ?_)))))))))))))
  obtain ⟨⟨r1, r2⟩, hx1, h⟩ := obind h
  replace h := oun_mk h
  refine scale_Error_fn  hx1 ((P_some rfl (O_cons (O_read rfl (R_move rfl (P_some rfl (O_cons (O_read rfl (R_ext rfl rfl (P_some rfl (O_cons (O_read rfl (R_ext rfl rfl (P_some rfl ?_))))))))))))))
  refine O_cons (O_read rfl (R_assign rfl (P_some rfl (O_cons (O_read rfl (R_assign rfl (P_some rfl (O_nil (hK1939 _ _ _ (WP.seq_k (fun K1952 hK1952 => ?_)))))))))))
  obtain ⟨o1953, h1953, h⟩ := obind h
  refine WP.cutK (fun fr_ μ_ L_ => ∃ (v1 : Bool), v1 = o1953 ∧ SubFr [(8, .bool v1)] fr_ ∧ SegSub (L) L_ ∧ μ = μ_) ?_ ?_
  · refine WP.region Tt_ok (O_cons (O_read rfl (R_move rfl (P_some rfl (O_cons (O_read rfl (R_eqlD rfl rfl (P_some rfl (O_cons (O_read rfl (R_move rfl (P_some rfl ?_))))))))))))
    refine O_gv (z := (decide (r2 = 0))) rfl rfl (fun hc1 => ?_) (fun hc1 => ?_)
    · replace h1953 := cond_t hc1 h1953
      refine O_read rfl (R_loadA rfl rfl rfl rfl (LA_ (vs := [.int .i64 s1.Step, .int .i64 s1.Max, .int .i64 s1.Base, .int .i64 s1.Slope, .int .i64 s1.Drift, .int .i64 s1.Checked]) 0 0 rfl rfl rfl rfl (P_some rfl (O_gY rfl rfl hc1 (O_read rfl (R_move rfl (P_some rfl (O_gY rfl rfl hc1 (O_call (all := [.agg #[.int .i64 s1.Step, .int .i64 s1.Max, .int .i64 s1.Base, .int .i64 s1.Slope, .int .i64 s1.Drift, .int .i64 s1.Checked], .int .i64 shown1]) rfl rfl rfl ?_)))))))))
      obtain ⟨r3, hx2, h1953⟩ := obind h1953
      refine scale_shows_fn  hx2 ((P_some rfl (O_cons (O_read rfl (R_pick_T rfl hc1 rfl (P_some rfl (O_cons (O_read rfl (R_move rfl (P_some rfl ?_))))))))))
      refine O_gv (z := r3) rfl rfl (fun hc2 => ?_) (fun hc2 => ?_)
      · replace h1953 := cond_t hc2 h1953
        refine O_read rfl (R_loadA rfl rfl rfl rfl (LA_ (vs := [.int .i64 s1.Step, .int .i64 s1.Max, .int .i64 s1.Base, .int .i64 s1.Slope, .int .i64 s1.Drift, .int .i64 s1.Checked]) 0 0 rfl rfl rfl rfl (P_some rfl (O_gY rfl rfl hc2 (O_read rfl (R_move rfl (P_some rfl (O_gY rfl rfl hc2 (O_read rfl (R_move rfl (P_some rfl (O_gY rfl rfl hc2 (O_read rfl ?_)))))))))))))
        refine R_move rfl (P_some rfl (O_gY rfl rfl hc2 (O_call (all := [.agg #[.int .i64 s1.Step, .int .i64 s1.Max, .int .i64 s1.Base, .int .i64 s1.Slope, .int .i64 s1.Drift, .int .i64 s1.Checked], .int .i64 mass1, .int .i64 shown1, .int .i64 t1]) rfl rfl rfl ?_)))
        obtain ⟨r4, hx3, h1953⟩ := obind h1953
        refine scale_near_fn  hx3 ((P_some rfl (O_cons (O_read rfl (R_pick_T rfl hc2 rfl (P_some rfl (O_cons (O_read rfl (R_assign rfl (P_some rfl (O_nil ?_)))))))))))
        have e_ := Option.some.inj h1953
        subst e_
        exact ⟨r4, rfl, SubFr.of ⟨rfl, trivial⟩, SegSub.sel _ [] 1, rfl⟩
      replace h1953 := cond_f hc2 h1953
      refine P_some rfl (O_gN rfl rfl hc2 (P_some rfl (O_gN rfl rfl hc2 (P_some rfl (O_gN rfl rfl hc2 (P_some rfl (O_gN rfl rfl hc2 (P_some rfl (O_cons (O_read rfl (R_pick_F rfl hc2 rfl (P_some rfl (O_cons ?_)))))))))))))
      refine O_read rfl (R_assign rfl (P_some rfl (O_nil ?_)))
      have e_ := Option.some.inj h1953
      subst e_
      exact ⟨false, rfl, SubFr.of ⟨rfl, trivial⟩, SegSub.sel _ [] 1, rfl⟩
    replace h1953 := cond_f hc1 h1953
    refine P_some rfl (O_gN rfl rfl hc1 (P_some rfl (O_gN rfl rfl hc1 (P_some rfl (O_cons (O_read rfl (R_pick_F rfl hc1 rfl (P_some rfl (O_cons (O_read rfl (R_move rfl (P_some rfl (O_gN rfl rfl rfl ?_)))))))))))))
    refine P_some rfl (O_gN rfl rfl rfl (P_some rfl (O_gN rfl rfl rfl (P_some rfl (O_gN rfl rfl rfl (P_some rfl (O_gN rfl rfl rfl (P_some rfl (O_cons (O_read rfl (R_pick_F rfl rfl rfl (P_some rfl (O_cons ?_)))))))))))))
    refine O_read rfl (R_assign rfl (P_some rfl (O_nil ?_)))
    have e_ := Option.some.inj h1953
    subst e_
    exact ⟨false, rfl, SubFr.of ⟨rfl, trivial⟩, SegSub.sel _ [] 1, rfl⟩
  rintro fr1953 μ1953 L1953 hm1953 ⟨v1, ho1953, hF1953, hS1953, hu1953⟩
  subst ho1953
  subst hu1953
  refine hK1952 _ _ _ (WP.at hF1953 hS1953 (WP.ret ?_))
  have e_ := Option.some.inj h
  subst e_
  refine S_tmp rfl (S_nil (Upd.selS [] 0 ?_))
  exact Upd.done hR

theorem recyclinglaw27_TicketNet_fn {μ : Gh} {L : List Seg} {R : Value → Gh → List Seg → Prop} {F : Nat} {s1 : (List T_api_Scale)} {x1 : T_api_Ticket} {m1 : T_arr2_3} {A1 : Option Addr} {c1 : Nat} {res1 : Bool}
    (hl1 : s1.length ≤ c1 ∧ c1 ≤ maxLen) (hA1 : Rds r_api_Scale μ L A1 s1) (h : recyclinglaw27_TicketNet F s1 x1 m1 = some res1)
    (hR : R (.bool res1) μ (L)) :
    Fn Try.prog 10 [.slice A1 s1.length c1, .agg #[.int .i64 x1.ID, .int .i64 x1.Scale, .int .i64 x1.At, .int .i64 x1.Gross, .int .i64 x1.Tare, .int .i64 x1.Replaces], .agg #[.int .i64 m1.e0, .int .i64 m1.e1]] μ (L) R := by
  unfold recyclinglaw27_TicketNet at h
  refine Fn.of_body Tt_ok Try.func10 (by kernel_rfl) rfl Try.ntmps10 (by simp) ?_
  simp only [Try.f10, argFr, List.zipIdx, List.map, Nat.reduceAdd]
  refine WP.seq_k (fun K1911 hK1911 => WP.region Tt_ok (O_cons (O_box (cs := #[.int .i64 x1.ID, .int .i64 x1.Scale, .int .i64 x1.At, .int .i64 x1.Gross, .int .i64 x1.Tare, .int .i64 x1.Replaces]) rfl rfl (fun g1 => P_some rfl (O_cons (O_box (cs := #[.int .i64 m1.e0, .int .i64 m1.e1]) rfl rfl (fun g2 => P_some rfl (O_cons (O_read rfl (R_assign rfl (P_some rfl (O_nil (hK1911 _ _ _ ?_)))))))))))))
  refine WP.seq_k (fun K1914 hK1914 => WP.seq_k (fun K1915 hK1915 => WP.region Tt_ok (O_cons (O_read rfl (R_move rfl (P_some rfl (O_cons (O_read rfl (R_lenS rfl rfl rfl (P_some rfl (O_cons (O_read rfl (R_gtrD rfl rfl ?_)))))))))))))
  refine P_some rfl (O_nil (hK1915 _ _ _ ?_))
  refine W_cond_v (b := (decide (20 < ((s1.length : Nat) : Int)))) rfl (fun hc1 => ?_) (fun hc1 => ?_)
  · replace h := cond_t hc1 h
    refine WP.seq_k (fun K1916 hK1916 => WP.region Tt_ok (O_cons (O_call (all := []) rfl rfl rfl ?_)))
    obtain ⟨r1, hx1, h⟩ := obind h
    refine recyclinglaw27_awake_fn  hx1 ((P_some rfl (O_cons (O_read rfl (R_assign rfl (P_some rfl (O_nil (hK1916 _ _ _ (WP.ret ?_)))))))))
    have e_ := Option.some.inj h
    subst e_
    refine S_tmp rfl (S_nil (Upd.selS [] 2 ?_))
    exact Upd.done hR
  replace h := cond_f hc1 h
  refine WP.skip (hK1914 _ _ _ (WP.seq_k (fun K1917 hK1917 => WP.region Tt_ok (O_cons (O_read rfl (R_move rfl (P_some rfl (O_cons (O_read rfl (R_loadA rfl rfl rfl rfl (LA_ (vs := [.int .i64 x1.ID, .int .i64 x1.Scale, .int .i64 x1.At, .int .i64 x1.Gross, .int .i64 x1.Tare, .int .i64 x1.Replaces]) 1 0 rfl rfl rfl rfl (P_some rfl (O_cons ?_)))))))))))))
  apply O_call (all := [.slice A1 s1.length c1, .agg #[.int .i64 x1.ID, .int .i64 x1.Scale, .int .i64 x1.At, .int .i64 x1.Gross, .int .i64 x1.Tare, .int .i64 x1.Replaces]]); exact rfl; exact rfl; exact rfl
  obtain ⟨⟨r2, r3⟩, hx2, h⟩ := obind h
  replace h := oun_mk h
  refine ticket_Net_fn hl1 (Rds.push (Rds.push hA1)) hx2 ((P_some rfl (O_cons (O_read rfl (R_move rfl (P_some rfl (O_cons (O_read rfl (R_ext rfl rfl (P_some rfl (O_cons (O_read rfl (R_ext rfl rfl (P_some rfl ?_))))))))))))))
  refine O_cons (O_alloc (cs := #[.int .i64 0, .int .i64 0]) rfl rfl (fun g3 => P_some rfl (O_cons (O_store (vs := [.int .i64 r2.Lo, .int .i64 r2.Hi]) rfl rfl rfl rfl rfl rfl (ST_ (L' := ([(g3, .cells #[.int .i64 r2.Lo, .int .i64 r2.Hi] 31 (0, 0))] :: [(g2, .cells #[.int .i64 m1.e0, .int .i64 m1.e1] 49 (0, 0))] :: [(g1, .cells #[.int .i64 x1.ID, .int .i64 x1.Scale, .int .i64 x1.At, .int .i64 x1.Gross, .int .i64 x1.Tare, .int .i64 x1.Replaces] 29 (0, 0))] :: L)) 0 0 rfl rfl rfl rfl (P_none (O_cons (O_read rfl (R_assign rfl (P_some rfl (O_nil (hK1917 _ _ _ (WP.seq_k (fun K1920 hK1920 => ?_))))))))))))))
  refine WP.seq_k (fun K1921 hK1921 => WP.region Tt_ok (O_cons (O_read rfl (R_move rfl (P_some rfl (O_cons (O_read rfl (R_neqD rfl rfl (P_some rfl (O_nil (hK1921 _ _ _ ?_)))))))))))
  refine W_cond_v (b := !(decide (r3 = 0))) rfl (fun hc2 => ?_) (fun hc2 => ?_)
  · replace h := cond_t hc2 h
    refine WP.seq_k ?_; intro K1922 hK1922
    obtain ⟨o1923, h1923, h⟩ := obind h
    refine WP.cutK (fun fr_ μ_ L_ => ∃ (v1 : Bool), v1 = o1923 ∧ SubFr [(6, .bool v1)] fr_ ∧ SegSub (L) L_ ∧ μ = μ_) ?_ ?_
    · refine WP.region Tt_ok (O_cons (O_read rfl (R_loadA rfl rfl rfl rfl (LA_ (vs := [.int .i64 r2.Lo, .int .i64 r2.Hi]) 0 0 rfl rfl rfl rfl (P_some rfl (O_cons (O_read rfl (R_build rfl rfl rfl rfl (F_nil (P_some rfl (O_cons (O_read rfl (R_agg rfl rfl ?_)))))))))))))
      refine Ex.mk _ (eqRun_T_api_Span r2 (T_api_Span.mk 0 0)) (P_some rfl (O_cons (O_read rfl (R_move rfl (P_some rfl ?_)))))
      refine O_gv (z := (decide (r2 = (T_api_Span.mk 0 0)))) rfl rfl (fun hc3 => ?_) (fun hc3 => ?_)
      · replace h1923 := cond_t hc3 h1923
        apply O_call (all := []); exact rfl; exact rfl; exact rfl
        obtain ⟨r4, hx3, h1923⟩ := obind h1923
        refine recyclinglaw27_awake_fn  hx3 ((P_some rfl (O_cons (O_read rfl (R_pick_T rfl hc3 rfl (P_some rfl (O_cons (O_read rfl (R_assign rfl (P_some rfl (O_nil ?_)))))))))))
        have e_ := Option.some.inj h1923
        subst e_
        exact ⟨r4, rfl, SubFr.of ⟨rfl, trivial⟩, SegSub.sel _ [] 3, rfl⟩
      replace h1923 := cond_f hc3 h1923
      refine P_some rfl (O_cons (O_read rfl (R_pick_F rfl hc3 rfl (P_some rfl (O_cons (O_read rfl (R_assign rfl (P_some rfl (O_nil ?_)))))))))
      have e_ := Option.some.inj h1923
      subst e_
      exact ⟨false, rfl, SubFr.of ⟨rfl, trivial⟩, SegSub.sel _ [] 3, rfl⟩
    rintro fr1923 μ1923 L1923 hm1923 ⟨v1, ho1923, hF1923, hS1923, hu1923⟩
    subst ho1923
    subst hu1923
    refine hK1922 _ _ _ (WP.at hF1923 hS1923 (WP.ret ?_))
    have e_ := Option.some.inj h
    subst e_
    refine S_tmp rfl (S_nil (Upd.selS [] 0 ?_))
    exact Upd.done hR
  replace h := cond_f hc2 h
  refine WP.skip (hK1920 _ _ _ (WP.seq_k (fun K1924 hK1924 => WP.seq_k (fun K1925 hK1925 => ?_))))
  obtain ⟨o1926, h1926, h⟩ := obind h
  refine WP.cutK (fun fr_ μ_ L_ => ∃ (v2 : Bool), v2 = o1926 ∧ SubFr [(0, .slice A1 s1.length c1), (4, .pointer (some ⟨g1, 0, none⟩)), (5, .pointer (some ⟨g2, 0, none⟩)), (7, .pointer (some ⟨g3, 0, none⟩)), (55, .bool v2)] fr_ ∧ SegSub ([(g1, .cells #[.int .i64 x1.ID, .int .i64 x1.Scale, .int .i64 x1.At, .int .i64 x1.Gross, .int .i64 x1.Tare, .int .i64 x1.Replaces] 29 (0, 0))] :: [(g2, .cells #[.int .i64 m1.e0, .int .i64 m1.e1] 49 (0, 0))] :: [(g3, .cells #[.int .i64 r2.Lo, .int .i64 r2.Hi] 31 (0, 0))] :: L) L_ ∧ μ = μ_) ?_ ?_
  · refine WP.region Tt_ok (O_cons (O_read rfl (R_fa0 (o' := 1) rfl rfl rfl rfl rfl rfl (P_some rfl (O_cons (O_read rfl (R_load rfl rfl rfl (Ex.mk _ (Cell.seg 2 0 rfl rfl rfl) (P_some rfl (O_cons (O_read rfl (R_lssD rfl rfl (P_some rfl ?_)))))))))))))
    refine O_cons (O_read rfl (R_move rfl (P_some rfl ?_)))
    refine O_gv (z := (decide (x1.Scale < 0))) rfl rfl (fun hc4 => ?_) (fun hc4 => ?_)
    · replace h1926 := cond_f hc4 h1926
      refine O_read rfl (R_fa0 (o' := 1) rfl rfl rfl rfl rfl rfl (P_some rfl (O_gY rfl rfl hc4 (O_read rfl (R_load rfl rfl rfl (Ex.mk _ (Cell.seg 2 0 rfl rfl rfl) (P_some rfl (O_gY rfl rfl hc4 (O_read rfl (R_move rfl (P_some rfl (O_gY rfl rfl hc4 (O_read rfl ?_)))))))))))))
      refine R_lenS rfl rfl rfl (P_some rfl (O_gY rfl rfl hc4 (O_read rfl (R_geqD rfl rfl (P_some rfl (O_cons (O_read rfl (R_pick_F rfl hc4 rfl (P_some rfl (O_cons (O_read rfl (R_move rfl (P_some rfl ?_)))))))))))))
      refine O_gv (z := (decide (((s1.length : Nat) : Int) ≤ x1.Scale))) rfl rfl (fun hc5 => ?_) (fun hc5 => ?_)
      · replace h1926 := cond_f hc5 h1926
        refine O_read rfl (R_fa0 (o' := 0) rfl rfl rfl rfl rfl rfl (P_some rfl (O_gY rfl rfl hc5 (O_read rfl (R_load rfl rfl rfl (Ex.mk _ (Cell.seg 0 0 rfl rfl rfl) (P_some rfl (O_gY rfl rfl hc5 (O_read rfl (R_lssD rfl rfl (P_some rfl (O_cons (O_read rfl ?_)))))))))))))
        refine R_pick_F rfl hc5 rfl (P_some rfl (O_cons (O_read rfl (R_move rfl (P_some rfl ?_)))))
        refine O_gv (z := (decide (r2.Lo < 0))) rfl rfl (fun hc6 => ?_) (fun hc6 => ?_)
        · replace h1926 := cond_f hc6 h1926
          refine O_read rfl (R_fa0 (o' := 0) rfl rfl rfl rfl rfl rfl (P_some rfl (O_gY rfl rfl hc6 (O_read rfl (R_load rfl rfl rfl (Ex.mk _ (Cell.seg 0 0 rfl rfl rfl) (P_some rfl (O_gY rfl rfl hc6 (O_read rfl (R_fa0 (o' := 1) rfl rfl rfl rfl rfl rfl (P_some rfl (O_gY rfl rfl hc6 (O_read rfl ?_)))))))))))))
          refine R_load rfl rfl rfl (Ex.mk _ (Cell.seg 0 0 rfl rfl rfl) (P_some rfl (O_gY rfl rfl hc6 (O_read rfl (R_gtrD rfl rfl (P_some rfl (O_cons (O_read rfl (R_pick_F rfl hc6 rfl (P_some rfl (O_cons (O_read rfl (R_move rfl ?_)))))))))))))
          apply P_some; exact rfl
          refine O_gv (z := (decide (r2.Hi < r2.Lo))) rfl rfl (fun hc7 => ?_) (fun hc7 => ?_)
          · replace h1926 := cond_f hc7 h1926
            refine O_read rfl (R_fa0 (o' := 1) rfl rfl rfl rfl rfl rfl (P_some rfl (O_gY rfl rfl hc7 (O_read rfl (R_load rfl rfl rfl (Ex.mk _ (Cell.seg 0 0 rfl rfl rfl) (P_some rfl (O_gY rfl rfl hc7 (O_read rfl (R_gtrD rfl rfl (P_some rfl (O_cons (O_read rfl ?_)))))))))))))
            refine R_pick_F rfl hc7 rfl (P_some rfl (O_nil ?_))
            have e_ := Option.some.inj h1926
            subst e_
            exact ⟨(decide (1073741824 < r2.Hi)), rfl, SubFr.of ⟨rfl, rfl, rfl, rfl, rfl, trivial⟩, SegSub.sel _ [some 2, some 1, some 0] 3, rfl⟩
          replace h1926 := cond_t hc7 h1926
          refine P_some rfl (O_gN rfl rfl hc7 (P_some rfl (O_gN rfl rfl hc7 (P_some rfl (O_cons (O_read rfl (R_pick_T rfl hc7 rfl (P_some rfl (O_nil ?_)))))))))
          have e_ := Option.some.inj h1926
          subst e_
          exact ⟨true, rfl, SubFr.of ⟨rfl, rfl, rfl, rfl, rfl, trivial⟩, SegSub.sel _ [some 2, some 1, some 0] 3, rfl⟩
        replace h1926 := cond_t hc6 h1926
        refine P_some rfl (O_gN rfl rfl hc6 (P_some rfl (O_gN rfl rfl hc6 (P_some rfl (O_gN rfl rfl hc6 (P_some rfl (O_gN rfl rfl hc6 (P_some rfl (O_cons (O_read rfl (R_pick_T rfl hc6 rfl (P_some rfl (O_cons ?_)))))))))))))
        refine O_read rfl (R_move rfl (P_some rfl (O_gN rfl rfl rfl (P_some rfl (O_gN rfl rfl rfl (P_some rfl (O_gN rfl rfl rfl (P_some rfl (O_cons (O_read rfl (R_pick_T rfl rfl rfl (P_some rfl (O_nil ?_)))))))))))))
        have e_ := Option.some.inj h1926
        subst e_
        exact ⟨true, rfl, SubFr.of ⟨rfl, rfl, rfl, rfl, rfl, trivial⟩, SegSub.sel _ [some 2, some 1, some 0] 3, rfl⟩
      replace h1926 := cond_t hc5 h1926
      refine P_some rfl (O_gN rfl rfl hc5 (P_some rfl (O_gN rfl rfl hc5 (P_some rfl (O_cons (O_read rfl (R_pick_T rfl hc5 rfl (P_some rfl (O_cons (O_read rfl (R_move rfl (P_some rfl (O_gN rfl rfl rfl ?_)))))))))))))
      refine P_some rfl (O_gN rfl rfl rfl (P_some rfl (O_gN rfl rfl rfl (P_some rfl (O_gN rfl rfl rfl (P_some rfl (O_gN rfl rfl rfl (P_some rfl (O_cons (O_read rfl (R_pick_T rfl rfl rfl (P_some rfl (O_cons ?_)))))))))))))
      refine O_read rfl (R_move rfl (P_some rfl (O_gN rfl rfl rfl (P_some rfl (O_gN rfl rfl rfl (P_some rfl (O_gN rfl rfl rfl (P_some rfl (O_cons (O_read rfl (R_pick_T rfl rfl rfl (P_some rfl (O_nil ?_)))))))))))))
      have e_ := Option.some.inj h1926
      subst e_
      exact ⟨true, rfl, SubFr.of ⟨rfl, rfl, rfl, rfl, rfl, trivial⟩, SegSub.sel _ [some 2, some 1, some 0] 3, rfl⟩
    replace h1926 := cond_t hc4 h1926
    refine P_some rfl (O_gN rfl rfl hc4 (P_some rfl (O_gN rfl rfl hc4 (P_some rfl (O_gN rfl rfl hc4 (P_some rfl (O_gN rfl rfl hc4 (P_some rfl (O_cons (O_read rfl (R_pick_T rfl hc4 rfl (P_some rfl (O_cons ?_)))))))))))))
    refine O_read rfl (R_move rfl (P_some rfl (O_gN rfl rfl rfl (P_some rfl (O_gN rfl rfl rfl (P_some rfl (O_gN rfl rfl rfl (P_some rfl (O_cons (O_read rfl (R_pick_T rfl rfl rfl (P_some rfl (O_cons ?_)))))))))))))
    refine O_read rfl (R_move rfl (P_some rfl (O_gN rfl rfl rfl (P_some rfl (O_gN rfl rfl rfl (P_some rfl (O_gN rfl rfl rfl (P_some rfl (O_gN rfl rfl rfl (P_some rfl (O_gN rfl rfl rfl (P_some rfl (O_cons ?_)))))))))))))
    refine O_read rfl (R_pick_T rfl rfl rfl (P_some rfl (O_cons (O_read rfl (R_move rfl (P_some rfl (O_gN rfl rfl rfl (P_some rfl (O_gN rfl rfl rfl (P_some rfl (O_gN rfl rfl rfl (P_some rfl (O_cons ?_)))))))))))))
    refine O_read rfl (R_pick_T rfl rfl rfl (P_some rfl (O_nil ?_)))
    have e_ := Option.some.inj h1926
    subst e_
    exact ⟨true, rfl, SubFr.of ⟨rfl, rfl, rfl, rfl, rfl, trivial⟩, SegSub.sel _ [some 2, some 1, some 0] 3, rfl⟩
  rintro fr1926 μ1926 L1926 hm1926 ⟨v2, ho1926, hF1926, hS1926, hu1926⟩
  subst ho1926
  subst hu1926
  refine hK1925 _ _ _ (WP.at hF1926 hS1926 ?_)
  refine W_cond_v (b := v2) rfl (fun hc8 => ?_) (fun hc8 => ?_)
  · replace h := cond_t hc8 h
    refine WP.seq_k (fun K1933 hK1933 => WP.region Tt_ok (O_cons (O_read rfl (R_assign rfl (P_some rfl (O_nil (hK1933 _ _ _ (WP.ret ?_))))))))
    have e_ := Option.some.inj h
    subst e_
    refine S_tmp rfl (S_nil (Upd.selS [] 3 ?_))
    exact Upd.done hR
  replace h := cond_f hc8 h
  refine WP.skip (hK1924 _ _ _ (WP.seq_k (fun K1934 hK1934 => WP.drawn (id := 8) (l' := List.replicate 6 true) wide Tt_ok _ Kept.refl [(true, 0), (true, 1), (true, 2), (true, 3), (true, 4), (true, 5)] (by kernel_rfl) (by kernel_rfl) rfl (PL_t rfl (R_iaA0 (o' := 0) rfl rfl rfl rfl rfl rfl ⟨by decide, by decide⟩ rfl (P_some rfl (PL_t rfl (R_load rfl rfl rfl (Ex.mk _ (Cell.seg 1 0 rfl rfl rfl) (P_some rfl (PL_t rfl (R_iaA0 (o' := 1) rfl rfl rfl rfl rfl rfl ⟨by decide, by decide⟩ rfl (P_some rfl ?_)))))))))))))
  refine PL_t rfl (R_load rfl rfl rfl (Ex.mk _ (Cell.seg 1 0 rfl rfl rfl) (P_some rfl (PL_t rfl (R_assign rfl (P_some rfl (PL_t rfl (R_assign rfl (P_some rfl (PL_nil (AN.done0 (by kernel_rfl) (hK1934 _ _ _ (WP.seq_k (fun K1935 hK1935 => ?_))))))))))))))
  refine WP.seq_k ?_; intro K1936 hK1936
  obtain ⟨o1954, h1954, h⟩ := obind h
  refine WP.cutK (fun fr_ μ_ L_ => ∃ (v3 : Bool), v3 = o1954 ∧ SubFr [(7, .pointer (some ⟨g3, 0, none⟩)), (9, .int .i64 m1.e0), (10, .int .i64 m1.e1), (90, .bool v3)] fr_ ∧ SegSub ([(g3, .cells #[.int .i64 r2.Lo, .int .i64 r2.Hi] 31 (0, 0))] :: L) L_ ∧ μ = μ_) ?_ ?_
  · refine WP.drawn (id := 9) (l' := List.replicate 31 true) wide Tt_ok _ Kept.refl [(true, 0), (true, 1), (true, 2), (true, 3), (true, 4), (true, 5), (true, 6), (true, 7), (true, 8), (true, 9), (false, 10), (true, 11), (true, 12), (true, 13), (true, 14), (true, 15), (true, 16), (true, 17), (true, 18), (true, 19), (true, 20), (true, 21), (true, 22), (false, 23), (true, 24), (true, 25), (true, 26), (true, 27), (true, 28), (true, 29), (true, 30)] (by kernel_rfl) (by kernel_rfl) rfl (PL_t rfl (R_move rfl (P_some rfl (PL_t rfl (R_fa0 (o' := 1) rfl rfl rfl rfl rfl rfl (P_some rfl (PL_t rfl (R_load rfl rfl rfl (Ex.mk _ (Cell.seg 0 0 rfl rfl rfl) (P_some rfl (PL_t rfl ?_)))))))))))
    obtain ⟨x2, hx4, h1954⟩ := obind h1954
    obtain ⟨a1, cs1, hA2, hr1, _, hc9⟩ := Rds.getI hA1 hx4
    obtain rfl := hr1
    refine R_iaG rfl rfl rfl rfl rfl rfl ⟨(getI_lt hx4).1, (getI_lt hx4).2.1⟩ hA2 (P_some rfl (PL_t rfl (R_loadA rfl rfl rfl rfl (Ex.mk [.int .i64 x2.Step, .int .i64 x2.Max, .int .i64 x2.Base, .int .i64 x2.Slope, .int .i64 x2.Drift, .int .i64 x2.Checked] ⟨rfl, (hc9.push.push.push)⟩ (P_some rfl (PL_t rfl (R_move rfl (P_some rfl (PL_t rfl (R_fa0 (o' := 3) rfl rfl rfl rfl rfl rfl (P_some rfl (PL_t rfl (R_load rfl rfl rfl ?_)))))))))))))
    refine Ex.mk _ (Cell.seg 0 0 rfl rfl rfl) (P_some rfl (PL_t rfl (R_fa0 (o' := 2) rfl rfl rfl rfl rfl rfl (P_some rfl (PL_t rfl (R_load rfl rfl rfl (Ex.mk _ (Cell.seg 0 0 rfl rfl rfl) (P_some rfl (PL_f rfl (O_call (all := [.agg #[.int .i64 x2.Step, .int .i64 x2.Max, .int .i64 x2.Base, .int .i64 x2.Slope, .int .i64 x2.Drift, .int .i64 x2.Checked], .int .i64 m1.e0, .int .i64 x1.Gross, .int .i64 x1.At]) rfl rfl rfl ?_))))))))))
    obtain ⟨r5, hx5, h1954⟩ := obind h1954
    refine scale_Could_fn  hx5 (?_)
    refine ⟨Kept.refl, ?_⟩
    refine P_some rfl (PL_t rfl (R_not rfl (P_some rfl (PL_t rfl (R_move rfl (P_some rfl ?_))))))
    refine PL_tv (z := !r5) rfl rfl rfl (fun hc10 => ?_) (fun hc10 => ?_)
    · replace h1954 := cond_f hc10 h1954
      refine R_move rfl (P_some rfl (PL_tY rfl rfl rfl hc10 (R_fa0 (o' := 1) rfl rfl rfl rfl rfl rfl (P_some rfl (PL_tY rfl rfl rfl hc10 (R_load rfl rfl rfl (Ex.mk _ (Cell.seg 0 0 rfl rfl rfl) (P_some rfl (PL_tY rfl rfl rfl hc10 ?_)))))))))
      obtain ⟨x3, hx6, h1954⟩ := obind h1954
      obtain ⟨a2, cs2, hA3, hr2, _, hc11⟩ := Rds.getI hA1 hx6
      obtain rfl := hr2
      refine R_iaG rfl rfl rfl rfl rfl rfl ⟨(getI_lt hx6).1, (getI_lt hx6).2.1⟩ hA3 (P_some rfl (PL_tY rfl rfl rfl hc10 (R_loadA rfl rfl rfl rfl (Ex.mk [.int .i64 x3.Step, .int .i64 x3.Max, .int .i64 x3.Base, .int .i64 x3.Slope, .int .i64 x3.Drift, .int .i64 x3.Checked] ⟨rfl, (hc11.push.push.push)⟩ (P_some rfl (PL_tY rfl rfl rfl hc10 (R_move rfl (P_some rfl (PL_tY rfl rfl rfl hc10 (R_fa0 (o' := 4) rfl rfl rfl rfl rfl rfl (P_some rfl (PL_tY rfl rfl rfl hc10 (R_load rfl rfl rfl ?_)))))))))))))
      refine Ex.mk _ (Cell.seg 0 0 rfl rfl rfl) (P_some rfl (PL_tY rfl rfl rfl hc10 (R_fa0 (o' := 2) rfl rfl rfl rfl rfl rfl (P_some rfl (PL_tY rfl rfl rfl hc10 (R_load rfl rfl rfl (Ex.mk _ (Cell.seg 0 0 rfl rfl rfl) (P_some rfl (PL_fY rfl rfl rfl hc10 (O_call (all := [.agg #[.int .i64 x3.Step, .int .i64 x3.Max, .int .i64 x3.Base, .int .i64 x3.Slope, .int .i64 x3.Drift, .int .i64 x3.Checked], .int .i64 m1.e1, .int .i64 x1.Tare, .int .i64 x1.At]) rfl rfl rfl ?_))))))))))
      obtain ⟨r6, hx7, h1954⟩ := obind h1954
      refine scale_Could_fn  hx7 (?_)
      refine ⟨Kept.refl, ?_⟩
      refine P_some rfl (PL_tY rfl rfl rfl hc10 (R_not rfl (P_some rfl (PL_t rfl (R_pick_F rfl hc10 rfl (P_some rfl (PL_t rfl (R_move rfl (P_some rfl ?_)))))))))
      refine PL_tv (z := !r6) rfl rfl rfl (fun hc12 => ?_) (fun hc12 => ?_)
      · replace h1954 := cond_f hc12 h1954
        refine R_move rfl (P_some rfl (PL_tY rfl rfl rfl hc12 (R_move rfl (P_some rfl (PL_tY rfl rfl rfl hc12 (R_lssD rfl rfl (P_some rfl (PL_t rfl (R_pick_F rfl hc12 rfl (P_some rfl (PL_nil (AN.done0 (by kernel_rfl) ?_))))))))))))
        have e_ := Option.some.inj h1954
        subst e_
        exact ⟨(decide (m1.e0 < m1.e1)), rfl, SubFr.of ⟨rfl, rfl, rfl, rfl, trivial⟩, SegSub.sel _ [some 2] 3, rfl⟩
      replace h1954 := cond_t hc12 h1954
      refine P_some rfl (PL_tN rfl rfl rfl hc12 (P_some rfl (PL_tN rfl rfl rfl hc12 (P_some rfl (PL_t rfl (R_pick_T rfl hc12 rfl (P_some rfl (PL_nil (AN.done0 (by kernel_rfl) ?_)))))))))
      have e_ := Option.some.inj h1954
      subst e_
      exact ⟨true, rfl, SubFr.of ⟨rfl, rfl, rfl, rfl, trivial⟩, SegSub.sel _ [some 2] 3, rfl⟩
    replace h1954 := cond_t hc10 h1954
    refine P_some rfl (PL_tN rfl rfl rfl hc10 (P_some rfl (PL_tN rfl rfl rfl hc10 (P_some rfl (PL_tN rfl rfl rfl hc10 (P_some rfl (PL_tN rfl rfl rfl hc10 (P_some rfl (PL_tN rfl rfl rfl hc10 (P_some rfl (PL_tN rfl rfl rfl hc10 (P_some rfl (PL_tN rfl rfl rfl hc10 ?_)))))))))))))
    refine P_some rfl (PL_tN rfl rfl rfl hc10 (P_some rfl (PL_tN rfl rfl rfl hc10 (P_some rfl (PL_fN rfl rfl rfl hc10 (P_some rfl (PL_tN rfl rfl rfl hc10 (P_some rfl (PL_t rfl (R_pick_T rfl hc10 rfl (P_some rfl (PL_t rfl (R_move rfl ?_)))))))))))))
    refine P_some rfl (PL_tN rfl rfl rfl rfl (P_some rfl (PL_tN rfl rfl rfl rfl (P_some rfl (PL_tN rfl rfl rfl rfl (P_some rfl (PL_t rfl (R_pick_T rfl rfl rfl (P_some rfl (PL_nil (AN.done0 (by kernel_rfl) ?_)))))))))))
    have e_ := Option.some.inj h1954
    subst e_
    exact ⟨true, rfl, SubFr.of ⟨rfl, rfl, rfl, rfl, trivial⟩, SegSub.sel _ [some 2] 3, rfl⟩
  rintro fr1954 μ1954 L1954 hm1954 ⟨v3, ho1954, hF1954, hS1954, hu1954⟩
  subst ho1954
  subst hu1954
  refine hK1936 _ _ _ (WP.at hF1954 hS1954 ?_)
  refine W_cond_v (b := v3) rfl (fun hc13 => ?_) (fun hc13 => ?_)
  · replace h := cond_t hc13 h
    refine WP.seq_k (fun K1957 hK1957 => WP.region Tt_ok (O_cons (O_call (all := []) rfl rfl rfl ?_)))
    obtain ⟨r7, hx8, h⟩ := obind h
    refine recyclinglaw27_awake_fn  hx8 ((P_some rfl (O_cons (O_read rfl (R_assign rfl (P_some rfl (O_nil (hK1957 _ _ _ (WP.ret ?_)))))))))
    have e_ := Option.some.inj h
    subst e_
    refine S_tmp rfl (S_nil (Upd.selS [] 1 ?_))
    exact Upd.done hR
  replace h := cond_f hc13 h
  refine WP.skip (hK1935 _ _ _ (WP.seq_k (fun K1958 hK1958 => ?_)))
  obtain ⟨o1959, h1959, h⟩ := obind h
  refine WP.cutK (fun fr_ μ_ L_ => ∃ (v4 : Bool), v4 = o1959 ∧ SubFr [(6, .bool v4)] fr_ ∧ SegSub (L) L_ ∧ μ = μ_) ?_ ?_
  · refine WP.region Tt_ok (O_cons (O_read rfl (R_fa0 (o' := 0) rfl rfl rfl rfl rfl rfl (P_some rfl (O_cons (O_read rfl (R_load rfl rfl rfl (Ex.mk _ (Cell.seg 0 0 rfl rfl rfl) (P_some rfl (O_cons (O_read rfl (R_move rfl (P_some rfl ?_)))))))))))))
    refine O_cons (O_read rfl (R_move rfl (P_some rfl (O_cons (O_read rfl (R_sub rfl rfl (P_some rfl (O_cons (O_read rfl (R_leqD rfl rfl (P_some rfl (O_cons (O_read rfl ?_)))))))))))))
    refine R_move rfl (P_some rfl ?_)
    refine O_gv (z := (decide (r2.Lo ≤ (w64 (m1.e0 - m1.e1))))) rfl rfl (fun hc14 => ?_) (fun hc14 => ?_)
    · replace h1959 := cond_t hc14 h1959
      refine O_read rfl (R_move rfl (P_some rfl (O_gY rfl rfl hc14 (O_read rfl (R_move rfl (P_some rfl (O_gY rfl rfl hc14 (O_read rfl (R_sub rfl rfl (P_some rfl (O_gY rfl rfl hc14 (O_read rfl (R_fa0 (o' := 1) rfl rfl rfl rfl rfl rfl ?_)))))))))))))
      refine P_some rfl (O_gY rfl rfl hc14 (O_read rfl (R_load rfl rfl rfl (Ex.mk _ (Cell.seg 0 0 rfl rfl rfl) (P_some rfl (O_gY rfl rfl hc14 (O_read rfl (R_leqD rfl rfl (P_some rfl (O_cons (O_read rfl (R_pick_T rfl hc14 rfl (P_some rfl ?_)))))))))))))
      refine O_cons (O_read rfl (R_move rfl (P_some rfl ?_)))
      refine O_gv (z := (decide ((w64 (m1.e0 - m1.e1)) ≤ r2.Hi))) rfl rfl (fun hc15 => ?_) (fun hc15 => ?_)
      · replace h1959 := cond_t hc15 h1959
        apply O_call (all := []); exact rfl; exact rfl; exact rfl
        obtain ⟨r8, hx9, h1959⟩ := obind h1959
        refine recyclinglaw27_awake_fn  hx9 ((P_some rfl (O_cons (O_read rfl (R_pick_T rfl hc15 rfl (P_some rfl (O_cons (O_read rfl (R_assign rfl (P_some rfl (O_nil ?_)))))))))))
        have e_ := Option.some.inj h1959
        subst e_
        exact ⟨r8, rfl, SubFr.of ⟨rfl, trivial⟩, SegSub.sel _ [] 1, rfl⟩
      replace h1959 := cond_f hc15 h1959
      refine P_some rfl (O_cons (O_read rfl (R_pick_F rfl hc15 rfl (P_some rfl (O_cons (O_read rfl (R_assign rfl (P_some rfl (O_nil ?_)))))))))
      have e_ := Option.some.inj h1959
      subst e_
      exact ⟨false, rfl, SubFr.of ⟨rfl, trivial⟩, SegSub.sel _ [] 1, rfl⟩
    replace h1959 := cond_f hc14 h1959
    refine P_some rfl (O_gN rfl rfl hc14 (P_some rfl (O_gN rfl rfl hc14 (P_some rfl (O_gN rfl rfl hc14 (P_some rfl (O_gN rfl rfl hc14 (P_some rfl (O_gN rfl rfl hc14 (P_some rfl (O_cons (O_read rfl (R_pick_F rfl hc14 rfl ?_)))))))))))))
    refine P_some rfl (O_cons (O_read rfl (R_move rfl (P_some rfl (O_gN rfl rfl rfl (P_some rfl (O_cons (O_read rfl (R_pick_F rfl rfl rfl (P_some rfl (O_cons (O_read rfl (R_assign rfl ?_)))))))))))))
    refine P_some rfl (O_nil ?_)
    have e_ := Option.some.inj h1959
    subst e_
    exact ⟨false, rfl, SubFr.of ⟨rfl, trivial⟩, SegSub.sel _ [] 1, rfl⟩
  rintro fr1959 μ1959 L1959 hm1959 ⟨v4, ho1959, hF1959, hS1959, hu1959⟩
  subst ho1959
  subst hu1959
  refine hK1958 _ _ _ (WP.at hF1959 hS1959 (WP.ret ?_))
  have e_ := Option.some.inj h
  subst e_
  refine S_tmp rfl (S_nil (Upd.selS [] 0 ?_))
  exact Upd.done hR

end Go.Proofs.Ytchakbpjokemnaa
