/- Printed by gen.py of this repo: the walks that tie the functions to their specifications. -/
import Derived.Test.YtchakbpjokemnaaTt
import Derived.Test.YtchakbpjokemnaaTaw1
namespace Go.Proofs.Ytchakbpjokemnaa
open Go.RowKit
set_option linter.unusedSimpArgs false
set_option linter.unusedVariables false
attribute [local irreducible] WP SemOk SemU Fn AN Upd vcR vcO vcOps vcPlan putK fillK resK inBlk forkOne Cell StAt Kept

theorem ticket_Total_fn {μ : Gh} {L : List Seg} {R : Value → Gh → List Seg → Prop} {F : Nat} {s1 : (List T_api_Scale)} {l1 : (List T_api_Ticket)} {w1 : T_api_Window} {A1 : Option Addr} {c1 : Nat} {A2 : Option Addr} {c2 : Nat} {res1 : T_api_Span} {res2 : Int}
    (hl1 : s1.length ≤ c1 ∧ c1 ≤ maxLen) (hA1 : Rds r_api_Scale μ L A1 s1) (hl2 : l1.length ≤ c2 ∧ c2 ≤ maxLen) (hA2 : Rds r_api_Ticket μ L A2 l1) (h : ticket_Total F s1 l1 w1 = some (res1, res2))
    (hR : R (.tuple #[.agg #[.int .i64 res1.Lo, .int .i64 res1.Hi], .int .i64 res2]) μ (L)) :
    Fn Try.prog 22 [.slice A1 s1.length c1, .slice A2 l1.length c2, .agg #[.int .i64 w1.From, .int .i64 w1.To]] μ (L) R := by
  unfold ticket_Total at h
  refine Fn.of_body Tt_ok Try.func22 (by kernel_rfl) rfl Try.ntmps22 (by simp) ?_
  simp only [Try.f22, argFr, List.zipIdx, List.map, Nat.reduceAdd]
  refine WP.seq_k (fun K594 hK594 => WP.region Tt_ok (O_cons (O_box (cs := #[.int .i64 w1.From, .int .i64 w1.To]) rfl rfl (fun g1 => P_some rfl (O_cons (O_alloc (cs := #[.int .i64 0, .int .i64 0]) rfl rfl (fun g2 => P_some rfl (O_cons (O_read rfl (R_assign rfl (P_some rfl (O_nil (hK594 _ _ _ ?_)))))))))))))
  refine WP.seq_k (fun K597 hK597 => WP.seq_k (fun K598 hK598 => WP.region Tt_ok (O_cons (O_read rfl (R_move rfl (P_some rfl (O_cons (O_read rfl (R_move rfl (P_some rfl (O_cons (O_call (all := [.slice A1 s1.length c1, .slice A2 l1.length c2]) rfl rfl rfl ?_))))))))))))
  obtain ⟨r1, hx1, h⟩ := obind h
  refine ticket_Check_fn hl1 (Rds.push (Rds.push hA1)) hl2 (Rds.push (Rds.push hA2)) hx1 ((P_some rfl (O_cons (O_read rfl (R_assign rfl (P_some rfl (O_nil (hK598 _ _ _ (WP.seq_k (fun K643 hK643 => WP.region Tt_ok (O_cons (O_read rfl (R_move rfl (P_some rfl ?_))))))))))))))
  refine O_cons (O_read rfl (R_neqD rfl rfl (P_some rfl (O_nil (hK643 _ _ _ ?_)))))
  refine W_cond_v (b := !(decide (r1 = 0))) rfl (fun hc1 => ?_) (fun hc1 => ?_)
  · replace h := cond_t hc1 h
    refine WP.seq_k (fun K644 hK644 => WP.region Tt_ok (O_cons (O_read rfl (R_build rfl rfl rfl rfl (F_nil (P_some rfl (O_cons (O_read rfl (R_move rfl (P_some rfl (O_cons (O_store (vs := [.int .i64 0, .int .i64 0]) rfl rfl rfl rfl rfl rfl (ST_ (L' := ([(g2, .cells #[.int .i64 0, .int .i64 0] 31 (0, 0))] :: [(g1, .cells #[.int .i64 w1.From, .int .i64 w1.To] 42 (0, 0))] :: L)) 0 0 rfl rfl rfl rfl ?_)))))))))))))
    refine P_none (O_cons (O_read rfl (R_assign rfl (P_some rfl (O_nil (hK644 _ _ _ (WP.ret ?_)))))))
    have e_ := Option.some.inj h
    obtain ⟨e0a_, e0b_⟩ := Prod.mk.inj e_
    clear e_
    subst e0a_
    subst e0b_
    refine S_cell rfl rfl rfl rfl (LA_ (vs := [.int .i64 0, .int .i64 0]) 0 0 rfl rfl rfl rfl (S_tmp rfl (S_nil (Upd.selS [] 2 ?_))))
    exact Upd.done hR
  replace h := cond_f hc1 h
  refine WP.skip (hK597 _ _ _ (WP.seq_k (fun K646 hK646 => WP.seq_k (fun K647 hK647 => ?_))))
  obtain ⟨o648, h648, h⟩ := obind h
  refine WP.cutK (fun fr_ μ_ L_ => ∃ (v1 : Bool), v1 = o648 ∧ SubFr [(0, .slice A1 s1.length c1), (1, .slice A2 l1.length c2), (5, .pointer (some ⟨g1, 0, none⟩)), (6, .pointer (some ⟨g2, 0, none⟩)), (37, .bool v1)] fr_ ∧ SegSub ([(g1, .cells #[.int .i64 w1.From, .int .i64 w1.To] 42 (0, 0))] :: [(g2, .cells #[.int .i64 0, .int .i64 0] 31 (0, 0))] :: L) L_ ∧ μ = μ_) ?_ ?_
  · refine WP.region Tt_ok (O_cons (O_read rfl (R_fa0 (o' := 0) rfl rfl rfl rfl rfl rfl (P_some rfl (O_cons (O_read rfl (R_load rfl rfl rfl (Ex.mk _ (Cell.seg 1 0 rfl rfl rfl) (P_some rfl (O_cons (O_read rfl (R_lssD rfl rfl (P_some rfl ?_)))))))))))))
    refine O_cons (O_read rfl (R_move rfl (P_some rfl ?_)))
    refine O_gv (z := (decide (w1.From < 0))) rfl rfl (fun hc2 => ?_) (fun hc2 => ?_)
    · replace h648 := cond_f hc2 h648
      refine O_read rfl (R_fa0 (o' := 0) rfl rfl rfl rfl rfl rfl (P_some rfl (O_gY rfl rfl hc2 (O_read rfl (R_load rfl rfl rfl (Ex.mk _ (Cell.seg 1 0 rfl rfl rfl) (P_some rfl (O_gY rfl rfl hc2 (O_read rfl (R_fa0 (o' := 1) rfl rfl rfl rfl rfl rfl (P_some rfl (O_gY rfl rfl hc2 (O_read rfl ?_)))))))))))))
      refine R_load rfl rfl rfl (Ex.mk _ (Cell.seg 1 0 rfl rfl rfl) (P_some rfl (O_gY rfl rfl hc2 (O_read rfl (R_gtrD rfl rfl (P_some rfl (O_cons (O_read rfl (R_pick_F rfl hc2 rfl (P_some rfl (O_cons (O_read rfl (R_move rfl ?_)))))))))))))
      apply P_some; exact rfl
      refine O_gv (z := (decide (w1.To < w1.From))) rfl rfl (fun hc3 => ?_) (fun hc3 => ?_)
      · replace h648 := cond_f hc3 h648
        refine O_read rfl (R_fa0 (o' := 1) rfl rfl rfl rfl rfl rfl (P_some rfl (O_gY rfl rfl hc3 (O_read rfl (R_load rfl rfl rfl (Ex.mk _ (Cell.seg 1 0 rfl rfl rfl) (P_some rfl (O_gY rfl rfl hc3 (O_read rfl (R_gtrD rfl rfl (P_some rfl (O_cons (O_read rfl ?_)))))))))))))
        refine R_pick_F rfl hc3 rfl (P_some rfl (O_nil ?_))
        have e_ := Option.some.inj h648
        subst e_
        exact ⟨(decide (3155760000 < w1.To)), rfl, SubFr.of ⟨rfl, rfl, rfl, rfl, rfl, trivial⟩, SegSub.sel _ [some 1, some 0] 2, rfl⟩
      replace h648 := cond_t hc3 h648
      refine P_some rfl (O_gN rfl rfl hc3 (P_some rfl (O_gN rfl rfl hc3 (P_some rfl (O_cons (O_read rfl (R_pick_T rfl hc3 rfl (P_some rfl (O_nil ?_)))))))))
      have e_ := Option.some.inj h648
      subst e_
      exact ⟨true, rfl, SubFr.of ⟨rfl, rfl, rfl, rfl, rfl, trivial⟩, SegSub.sel _ [some 1, some 0] 2, rfl⟩
    replace h648 := cond_t hc2 h648
    refine P_some rfl (O_gN rfl rfl hc2 (P_some rfl (O_gN rfl rfl hc2 (P_some rfl (O_gN rfl rfl hc2 (P_some rfl (O_gN rfl rfl hc2 (P_some rfl (O_cons (O_read rfl (R_pick_T rfl hc2 rfl (P_some rfl (O_cons ?_)))))))))))))
    refine O_read rfl (R_move rfl (P_some rfl (O_gN rfl rfl rfl (P_some rfl (O_gN rfl rfl rfl (P_some rfl (O_gN rfl rfl rfl (P_some rfl (O_cons (O_read rfl (R_pick_T rfl rfl rfl (P_some rfl (O_nil ?_)))))))))))))
    have e_ := Option.some.inj h648
    subst e_
    exact ⟨true, rfl, SubFr.of ⟨rfl, rfl, rfl, rfl, rfl, trivial⟩, SegSub.sel _ [some 1, some 0] 2, rfl⟩
  rintro fr648 μ648 L648 hm648 ⟨v1, ho648, hF648, hS648, hu648⟩
  subst ho648
  subst hu648
  refine hK647 _ _ _ (WP.at hF648 hS648 ?_)
  refine W_cond_v (b := v1) rfl (fun hc4 => ?_) (fun hc4 => ?_)
  · replace h := cond_t hc4 h
    refine WP.seq_k (fun K653 hK653 => WP.region Tt_ok (O_cons (O_read rfl (R_build rfl rfl rfl rfl (F_nil (P_some rfl (O_cons (O_store (vs := [.int .i64 0, .int .i64 0]) rfl rfl rfl rfl rfl rfl (ST_ (L' := ([(g1, .cells #[.int .i64 w1.From, .int .i64 w1.To] 42 (0, 0))] :: [(g2, .cells #[.int .i64 0, .int .i64 0] 31 (0, 0))] :: L)) 1 0 rfl rfl rfl rfl (P_none (O_cons (O_read rfl (R_assign rfl ?_)))))))))))))
    refine P_some rfl (O_nil (hK653 _ _ _ (WP.ret ?_)))
    have e_ := Option.some.inj h
    obtain ⟨e0a_, e0b_⟩ := Prod.mk.inj e_
    clear e_
    subst e0a_
    subst e0b_
    refine S_cell rfl rfl rfl rfl (LA_ (vs := [.int .i64 0, .int .i64 0]) 1 0 rfl rfl rfl rfl (S_tmp rfl (S_nil (Upd.selS [] 2 ?_))))
    exact Upd.done hR
  replace h := cond_f hc4 h
  refine WP.skip (hK646 _ _ _ (WP.seq_k (fun K655 hK655 => WP.region Tt_ok (O_cons (O_read rfl (R_move rfl (P_some rfl (O_cons (O_call (all := [.slice A2 l1.length c2]) rfl rfl rfl ?_)))))))))
  obtain ⟨⟨r2, r3⟩, hx2, h⟩ := obind h
  replace h := oun_mk h
  refine ticket_Active_fn hl2 (Rds.push (Rds.push hA2)) hx2 (fun A3 c3 ch1 hO1 => P_some rfl (O_cons (O_read rfl (R_move rfl (P_some rfl (O_cons (O_read rfl (R_ext rfl rfl (P_some rfl (O_cons (O_read rfl (R_ext rfl rfl (P_some rfl ?_)))))))))))))
  refine O_cons (O_read rfl (R_assign rfl (P_some rfl (O_cons (O_read rfl (R_assign rfl (P_some rfl (O_nil (hK655 _ _ _ (WP.seq_k (fun K657 hK657 => WP.seq_k (fun K658 hK658 => WP.region Tt_ok (O_cons ?_)))))))))))))
  refine O_read rfl (R_move rfl (P_some rfl (O_cons (O_read rfl (R_neqD rfl rfl (P_some rfl (O_nil (hK658 _ _ _ ?_))))))))
  refine W_cond_v (b := !(decide (r3 = 0))) rfl (fun hc5 => ?_) (fun hc5 => ?_)
  · replace h := cond_t hc5 h
    refine WP.seq_k (fun K659 hK659 => WP.region Tt_ok (O_cons (O_read rfl (R_build rfl rfl rfl rfl (F_nil (P_some rfl (O_cons (O_read rfl (R_move rfl (P_some rfl (O_cons (O_store (vs := [.int .i64 0, .int .i64 0]) rfl rfl rfl rfl rfl rfl (ST_ (L' := (ch1 :: [(g1, .cells #[.int .i64 w1.From, .int .i64 w1.To] 42 (0, 0))] :: [(g2, .cells #[.int .i64 0, .int .i64 0] 31 (0, 0))] :: L)) 2 0 rfl rfl rfl rfl ?_)))))))))))))
    refine P_none (O_cons (O_read rfl (R_assign rfl (P_some rfl (O_nil (hK659 _ _ _ (WP.ret ?_)))))))
    have e_ := Option.some.inj h
    obtain ⟨e0a_, e0b_⟩ := Prod.mk.inj e_
    clear e_
    subst e0a_
    subst e0b_
    refine S_cell rfl rfl rfl rfl (LA_ (vs := [.int .i64 0, .int .i64 0]) 2 0 rfl rfl rfl rfl (S_tmp rfl (S_nil (Upd.selS [] 3 ?_))))
    exact Upd.done hR
  replace h := cond_f hc5 h
  refine WP.skip (hK657 _ _ _ (WP.seq_k (fun K661 hK661 => WP.region Tt_ok (O_cons (O_read rfl (R_assign rfl (P_some rfl (O_nil (hK661 _ _ _ (WP.seq_k (fun K664 hK664 => WP.seq_k (fun K665 hK665 => WP.region Tt_ok (O_cons ?_)))))))))))))
  refine O_read rfl (R_move rfl (P_some rfl (O_cons (O_read rfl (R_lenS rfl rfl rfl (P_some rfl (O_cons (O_read rfl (R_move rfl (P_some rfl (O_nil (hK665 _ _ _ ?_))))))))))))
  obtain ⟨o666, h666, h⟩ := obind h
  refine WP.cutK (fun fr_ μ_ L_ => ∃ (masses3 : (List T_api_Span)) (A7 : Option Addr) (c7 : Nat) (ch5 : Seg), (.inl masses3) = o666 ∧ SubFr [(6, .pointer (some ⟨g2, 0, none⟩)), (11, .slice A7 masses3.length c7)] fr_ ∧ SegSub ([(g2, .cells #[.int .i64 0, .int .i64 0] 31 (0, 0))] :: ch5 :: L) L_ ∧ Own r_api_Span 31 μ_ (.slice A7 masses3.length c7) masses3 ch5 ∧ μ = μ_) ?_ ?_
  · refine WP.block (WP.iter h666 (fun (j_ : (List T_api_Span) × Int) fr_ μ_ L_ => ounP j_ fun masses1 v2 => ∃ (A4 : Option Addr) (c4 : Nat) (ch2 : Seg), SubFr [(0, .slice A1 s1.length c1), (1, .slice A2 l1.length c2), (5, .pointer (some ⟨g1, 0, none⟩)), (6, .pointer (some ⟨g2, 0, none⟩)), (11, .slice A4 masses1.length c4), (48, .slice A3 r2.length c3), (49, .int .i64 ((r2.length : Nat) : Int)), (50, .int .i64 v2)] fr_ ∧ SegSub ([(g1, .cells #[.int .i64 w1.From, .int .i64 w1.To] 42 (0, 0))] :: [(g2, .cells #[.int .i64 0, .int .i64 0] 31 (0, 0))] :: ch2 :: ch1 :: L) L_ ∧ Own r_api_Span 31 μ_ (.slice A4 masses1.length c4) masses1 ch2 ∧ μ = μ_) ⟨none, 0, [], SubFr.of ⟨rfl, rfl, rfl, rfl, rfl, rfl, rfl, rfl, trivial⟩, SegSub.sel _ [some 1, some 2, none, some 0] 3, (Own.nil), rfl⟩ ?_)
    rintro ⟨masses1, v2⟩ q701 fr701 μ701 L701 hm701 ⟨A4, c4, ch2, hF701, hS701, hO2, hu701⟩ hb701 hq701
    unfold ticket_Total_l1 at hb701
    replace hb701 := oun_mk hb701
    subst hu701
    refine WP.at hF701 hS701 (WP.seq_k (fun K710 hK710 => WP.region Tt_ok (O_cons (O_read rfl (R_lssD rfl rfl (P_some rfl (O_nil (hK710 _ _ _ (WP.seq_k (fun K711 hK711 => ?_))))))))))
    refine W_cond_v (b := (decide (v2 < ((r2.length : Nat) : Int)))) rfl (fun hc6 => ?_) (fun hc6 => ?_)
    · replace hb701 := cond_t hc6 hb701
      refine WP.skip (hK711 _ _ _ (WP.seq_k (fun K712 hK712 => ?_)))
      obtain ⟨o713, h713, hb701⟩ := obind hb701
      refine WP.cutK (fun fr_ μ_ L_ => ∃ (masses2 : (List T_api_Span)) (A6 : Option Addr) (c6 : Nat) (ch4 : Seg), (.inl masses2) = o713 ∧ SubFr [(0, .slice A1 s1.length c1), (1, .slice A2 l1.length c2), (5, .pointer (some ⟨g1, 0, none⟩)), (6, .pointer (some ⟨g2, 0, none⟩)), (11, .slice A6 masses2.length c6), (48, .slice A3 r2.length c3), (49, .int .i64 ((r2.length : Nat) : Int)), (50, .int .i64 v2)] fr_ ∧ SegSub ([(g1, .cells #[.int .i64 w1.From, .int .i64 w1.To] 42 (0, 0))] :: [(g2, .cells #[.int .i64 0, .int .i64 0] 31 (0, 0))] :: ch4 :: ch1 :: L) L_ ∧ Own r_api_Span 31 μ_ (.slice A6 masses2.length c6) masses2 ch4 ∧ μ = μ_) ?_ ?_
      · refine WP.block (WP.seq_k (fun K714 hK714 => WP.region Tt_ok (O_cons ?_)))
        obtain ⟨x1, hx3, h713⟩ := obind h713
        obtain ⟨a1, cs1, hA3, hr1, _, hc7⟩ := Rds.getI (Own.rds (L := ([(g1, .cells #[.int .i64 w1.From, .int .i64 w1.To] 42 (0, 0))] :: [(g2, .cells #[.int .i64 0, .int .i64 0] 31 (0, 0))] :: ch2 :: ch1 :: L)) hO1 3 rfl) hx3
        obtain rfl := hr1
        refine O_read rfl (R_iaG rfl rfl rfl rfl rfl rfl ⟨(getI_lt hx3).1, (getI_lt hx3).2.1⟩ hA3 (P_some rfl (O_cons (O_read rfl (R_load rfl rfl rfl (Ex.mk _ (Cell.of_cells0 hc7 rfl) (P_some rfl (O_cons (O_read rfl (R_assign rfl (P_some rfl (O_nil (hK714 _ _ _ ?_)))))))))))))
        refine WP.seq_k (fun K715 hK715 => WP.seq_k (fun K716 hK716 => ?_))
        obtain ⟨o717, h717, h713⟩ := obind h713
        refine WP.cutK (fun fr_ μ_ L_ => ∃ (v3 : Bool), v3 = o717 ∧ SubFr [(0, .slice A1 s1.length c1), (1, .slice A2 l1.length c2), (5, .pointer (some ⟨g1, 0, none⟩)), (6, .pointer (some ⟨g2, 0, none⟩)), (11, .slice A4 masses1.length c4), (13, .int .i64 x1), (48, .slice A3 r2.length c3), (49, .int .i64 ((r2.length : Nat) : Int)), (50, .int .i64 v2), (71, .bool v3)] fr_ ∧ SegSub ([(g1, .cells #[.int .i64 w1.From, .int .i64 w1.To] 42 (0, 0))] :: [(g2, .cells #[.int .i64 0, .int .i64 0] 31 (0, 0))] :: ch2 :: ch1 :: L) L_ ∧ μ = μ_) ?_ ?_
        · refine WP.drawn (id := 13) (l' := List.replicate 18 true) wide Tt_ok _ Kept.refl [(true, 0), (true, 1), (true, 2), (true, 3), (true, 4), (true, 5), (true, 6), (true, 7), (true, 8), (true, 9), (true, 10), (true, 11), (true, 12), (true, 13), (true, 14), (true, 15), (true, 16), (true, 17)] (by kernel_rfl) (by kernel_rfl) rfl (PL_t rfl (R_move rfl (P_some rfl (PL_t rfl (R_move rfl (P_some rfl (PL_t rfl ?_)))))))
          obtain ⟨x2, hx4, h717⟩ := obind h717
          obtain ⟨a2, cs2, hA4, hr2, _, hc8⟩ := Rds.getI hA2 hx4
          obtain rfl := hr2
          refine R_iaG rfl rfl rfl rfl rfl rfl ⟨(getI_lt hx4).1, (getI_lt hx4).2.1⟩ hA4 (P_some rfl (PL_t rfl (R_fa rfl rfl rfl rfl rfl (P_some rfl (PL_t rfl (R_load rfl rfl rfl (Ex.mk _ (Cell.of_cells (hc8.push.push.push.push) 2 rfl) (P_some rfl (PL_t rfl (R_fa0 (o' := 0) rfl rfl rfl rfl rfl rfl (P_some rfl (PL_t rfl (R_load rfl rfl rfl ?_)))))))))))))
          refine Ex.mk _ (Cell.seg 0 0 rfl rfl rfl) (P_some rfl (PL_t rfl (R_lssD rfl rfl (P_some rfl (PL_t rfl (R_move rfl (P_some rfl ?_)))))))
          refine PL_tv (z := (decide (x2.At < w1.From))) rfl rfl rfl (fun hc9 => ?_) (fun hc9 => ?_)
          · replace h717 := cond_f hc9 h717
            refine R_move rfl (P_some rfl (PL_tY rfl rfl rfl hc9 (R_move rfl (P_some rfl (PL_tY rfl rfl rfl hc9 ?_)))))
            obtain ⟨x3, hx5, h717⟩ := obind h717
            obtain ⟨a3, cs3, hA5, hr3, _, hc10⟩ := Rds.getI hA2 hx5
            obtain rfl := hr3
            refine R_iaG rfl rfl rfl rfl rfl rfl ⟨(getI_lt hx5).1, (getI_lt hx5).2.1⟩ hA5 (P_some rfl (PL_tY rfl rfl rfl hc9 (R_fa rfl rfl rfl rfl rfl (P_some rfl (PL_tY rfl rfl rfl hc9 (R_load rfl rfl rfl (Ex.mk _ (Cell.of_cells (hc10.push.push.push.push) 2 rfl) (P_some rfl (PL_tY rfl rfl rfl hc9 (R_fa0 (o' := 1) rfl rfl rfl rfl rfl rfl (P_some rfl (PL_tY rfl rfl rfl hc9 (R_load rfl rfl rfl ?_)))))))))))))
            refine Ex.mk _ (Cell.seg 0 0 rfl rfl rfl) (P_some rfl (PL_tY rfl rfl rfl hc9 (R_geqD rfl rfl (P_some rfl (PL_t rfl (R_pick_F rfl hc9 rfl (P_some rfl (PL_nil (AN.done0 (by kernel_rfl) ?_)))))))))
            have e_ := Option.some.inj h717
            subst e_
            exact ⟨(decide (w1.To ≤ x3.At)), rfl, SubFr.of ⟨rfl, rfl, rfl, rfl, rfl, rfl, rfl, rfl, rfl, rfl, trivial⟩, SegSub.sel _ [some 0, some 1, some 2, some 3] 4, rfl⟩
          replace h717 := cond_t hc9 h717
          refine P_some rfl (PL_tN rfl rfl rfl hc9 (P_some rfl (PL_tN rfl rfl rfl hc9 (P_some rfl (PL_tN rfl rfl rfl hc9 (P_some rfl (PL_tN rfl rfl rfl hc9 (P_some rfl (PL_tN rfl rfl rfl hc9 (P_some rfl (PL_tN rfl rfl rfl hc9 (P_some rfl (PL_tN rfl rfl rfl hc9 ?_)))))))))))))
          refine P_some rfl (PL_t rfl (R_pick_T rfl hc9 rfl (P_some rfl (PL_nil (AN.done0 (by kernel_rfl) ?_)))))
          have e_ := Option.some.inj h717
          subst e_
          exact ⟨true, rfl, SubFr.of ⟨rfl, rfl, rfl, rfl, rfl, rfl, rfl, rfl, rfl, rfl, trivial⟩, SegSub.sel _ [some 0, some 1, some 2, some 3] 4, rfl⟩
        rintro fr717 μ717 L717 hm717 ⟨v3, ho717, hF717, hS717, hu717⟩
        subst ho717
        subst hu717
        refine hK716 _ _ _ (WP.at hF717 hS717 ?_)
        refine W_cond_v (b := v3) rfl (fun hc11 => ?_) (fun hc11 => ?_)
        · replace h713 := cond_t hc11 h713
          refine WP.exit (B_here ?_)
          have e_ := Option.some.inj h713
          subst e_
          exact ⟨masses1, A4, c4, ch2, rfl, SubFr.of ⟨rfl, rfl, rfl, rfl, rfl, rfl, rfl, rfl, trivial⟩, SegSub.sel _ [some 0, some 1, some 2, some 3] 4, (hO2), rfl⟩
        replace h713 := cond_f hc11 h713
        refine WP.skip (hK715 _ _ _ (WP.seq_k (fun K722 hK722 => WP.region Tt_ok (O_cons (O_read rfl (R_move rfl (P_some rfl (O_cons (O_read rfl (R_move rfl (P_some rfl (O_cons (O_read rfl ?_)))))))))))))
        refine R_move rfl (P_some rfl (O_cons ?_))
        obtain ⟨x4, hx6, h713⟩ := obind h713
        obtain ⟨a4, cs4, hA6, hr4, _, hc12⟩ := Rds.getI hA2 hx6
        obtain rfl := hr4
        refine O_read rfl (R_iaG rfl rfl rfl rfl rfl rfl ⟨(getI_lt hx6).1, (getI_lt hx6).2.1⟩ hA6 (P_some rfl (O_cons (O_read rfl (R_loadA rfl rfl rfl rfl (Ex.mk [.int .i64 x4.ID, .int .i64 x4.Scale, .int .i64 x4.At, .int .i64 x4.Gross, .int .i64 x4.Tare, .int .i64 x4.Replaces] ⟨rfl, (hc12.push.push.push.push)⟩ (P_some rfl (O_cons (O_call (all := [.slice A1 s1.length c1, .agg #[.int .i64 x4.ID, .int .i64 x4.Scale, .int .i64 x4.At, .int .i64 x4.Gross, .int .i64 x4.Tare, .int .i64 x4.Replaces]]) rfl rfl rfl ?_)))))))))
        obtain ⟨⟨r4, r5⟩, hx7, h713⟩ := obind h713
        replace h713 := oun_mk h713
        refine ticket_Net_fn hl1 (Rds.push (Rds.push (Rds.push (Rds.push hA1)))) hx7 ((P_some rfl (O_cons (O_read rfl (R_move rfl (P_some rfl (O_cons (O_read rfl (R_ext rfl rfl (P_some rfl (O_cons (O_read rfl (R_ext rfl rfl (P_some rfl ?_))))))))))))))
        refine O_cons (O_alloc (cs := #[.int .i64 0, .int .i64 0]) rfl rfl (fun g3 => P_some rfl (O_cons (O_store (vs := [.int .i64 r4.Lo, .int .i64 r4.Hi]) rfl rfl rfl rfl rfl rfl (ST_ (L' := ([(g3, .cells #[.int .i64 r4.Lo, .int .i64 r4.Hi] 31 (0, 0))] :: [(g1, .cells #[.int .i64 w1.From, .int .i64 w1.To] 42 (0, 0))] :: [(g2, .cells #[.int .i64 0, .int .i64 0] 31 (0, 0))] :: ch2 :: ch1 :: L)) 0 0 rfl rfl rfl rfl (P_none (O_cons (O_read rfl (R_assign rfl (P_some rfl (O_nil (hK722 _ _ _ (WP.seq_k (fun K725 hK725 => ?_))))))))))))))
        refine WP.seq_k (fun K726 hK726 => WP.region Tt_ok (O_cons (O_read rfl (R_move rfl (P_some rfl (O_cons (O_read rfl (R_neqD rfl rfl (P_some rfl (O_nil (hK726 _ _ _ ?_)))))))))))
        refine W_cond_v (b := !(decide (r5 = 0))) rfl (fun hc13 => ?_) (fun hc13 => ?_)
        · replace h713 := cond_t hc13 h713
          refine WP.seq_k (fun K727 hK727 => WP.region Tt_ok (O_cons (O_read rfl (R_build rfl rfl rfl rfl (F_nil (P_some rfl (O_cons (O_read rfl (R_move rfl (P_some rfl (O_cons (O_store (vs := [.int .i64 0, .int .i64 0]) rfl rfl rfl rfl rfl rfl (ST_ (L' := ([(g3, .cells #[.int .i64 r4.Lo, .int .i64 r4.Hi] 31 (0, 0))] :: [(g1, .cells #[.int .i64 w1.From, .int .i64 w1.To] 42 (0, 0))] :: [(g2, .cells #[.int .i64 0, .int .i64 0] 31 (0, 0))] :: ch2 :: ch1 :: L)) 2 0 rfl rfl rfl rfl ?_)))))))))))))
          refine P_none (O_cons (O_read rfl (R_assign rfl (P_some rfl (O_nil (hK727 _ _ _ (WP.ret ?_)))))))
          have e_ := Option.some.inj h713
          subst e_
          replace hb701 := osum_r hb701
          have e_ := Option.some.inj hb701
          subst e_
          have hq_ := hq701 _ rfl
          subst hq_
          replace h := osum_r h
          have e_ := Option.some.inj h
          obtain ⟨e0a_, e0b_⟩ := Prod.mk.inj e_
          clear e_
          subst e0a_
          subst e0b_
          refine S_cell rfl rfl rfl rfl (LA_ (vs := [.int .i64 0, .int .i64 0]) 2 0 rfl rfl rfl rfl (S_tmp rfl (S_nil (Upd.selS [] 5 ?_))))
          exact Upd.done hR
        replace h713 := cond_f hc13 h713
        refine WP.skip (hK725 _ _ _ (WP.region Tt_ok (O_cons (O_read rfl (R_move rfl (P_some rfl (O_cons (O_read rfl (R_loadA rfl rfl rfl rfl (LA_ (vs := [.int .i64 r4.Lo, .int .i64 r4.Hi]) 0 0 rfl rfl rfl rfl (P_some rfl (O_cons (O_bsl (z := [.int .i64 0, .int .i64 0]) rfl rfl rfl rfl rfl rfl rfl ?_)))))))))))))
        refine F_cons (cells' := [.int .i64 r4.Lo, .int .i64 r4.Hi]) rfl rfl rfl rfl (F_nil (fun g4 => P_some rfl (O_cons (O_append rfl ?_))))
        obtain ⟨l2, hz1, h713⟩ := obind h713
        refine sem_appR (r := r_api_Span) Tt_ok rfl rfl rfl rfl (by decide) rfl rfl 4 rfl hO2 rfl (Own.rds (L := ([(g4, .cells #[.int .i64 r4.Lo, .int .i64 r4.Hi] 31 (0, 0))] :: [(g3, .cells #[.int .i64 r4.Lo, .int .i64 r4.Hi] 31 (0, 0))] :: [(g1, .cells #[.int .i64 w1.From, .int .i64 w1.To] 42 (0, 0))] :: [(g2, .cells #[.int .i64 0, .int .i64 0] 31 (0, 0))] :: ch2 :: ch1 :: L)) (Own.lit (r := r_api_Span) (e := 31) (g := g4) (xs := [r4]) (cs := [.int .i64 r4.Lo, .int .i64 r4.Hi]) (css := [[.int .i64 r4.Lo, .int .i64 r4.Hi]]) rfl (All2.cons (rfl) (All2.nil)) rfl rfl) 0 rfl) hz1 fun A5 c5 ch3 hO3 => P_some rfl (O_cons (O_read rfl (R_assign rfl (P_some rfl (O_nil ?_)))))
        have e_ := Option.some.inj h713
        subst e_
        exact ⟨l2, A5, c5, ch3, rfl, SubFr.of ⟨rfl, rfl, rfl, rfl, rfl, rfl, rfl, rfl, trivial⟩, SegSub.sel _ [some 2, some 3, some 4, some 5] 6, (hO3), rfl⟩
      rintro fr713 μ713 L713 hm713 ⟨masses2, A6, c6, ch4, ho713, hF713, hS713, hO4, hu713⟩
      subst ho713
      replace hb701 := osum_l hb701
      subst hu713
      refine hK712 _ _ _ (WP.at hF713 hS713 (WP.region Tt_ok (O_cons (O_read rfl (R_add rfl rfl (P_some rfl (O_cons (O_read rfl (R_move rfl (P_some rfl (O_nil ?_)))))))))))
      have e_ := Option.some.inj hb701
      subst e_
      exact ⟨_, rfl, A6, c6, ch4, SubFr.of ⟨rfl, rfl, rfl, rfl, rfl, rfl, rfl, rfl, trivial⟩, SegSub.sel _ [some 0, some 1, some 2, some 3] 4, (hO4), rfl⟩
    replace hb701 := cond_f hc6 hb701
    refine WP.exit (B_here ?_)
    have e_ := Option.some.inj hb701
    subst e_
    have hq_ := hq701 _ rfl
    subst hq_
    exact ⟨masses1, A4, c4, ch2, rfl, SubFr.of ⟨rfl, rfl, trivial⟩, SegSub.sel _ [some 1, some 2] 4, (hO2), rfl⟩
  rintro fr666 μ666 L666 hm666 ⟨masses3, A7, c7, ch5, ho666, hF666, hS666, hO5, hu666⟩
  subst ho666
  replace h := osum_l h
  subst hu666
  refine hK664 _ _ _ (WP.at hF666 hS666 (WP.seq_k (fun K739 hK739 => WP.region Tt_ok (O_cons (O_read rfl (R_move rfl (P_some rfl (O_cons (O_call (all := [.slice A7 masses3.length c7]) rfl rfl rfl ?_)))))))))
  obtain ⟨⟨r6, r7⟩, hx8, h⟩ := obind h
  replace h := oun_mk h
  refine span_Sum_fn (Own.lenOk hO5) (Own.rds (L := ([(g2, .cells #[.int .i64 0, .int .i64 0] 31 (0, 0))] :: ch5 :: L)) hO5 1 rfl) hx8 ((P_some rfl (O_cons (O_read rfl (R_ext rfl rfl (P_some rfl (O_cons (O_read rfl (R_ext rfl rfl (P_some rfl (O_cons (O_store (vs := [.int .i64 r6.Lo, .int .i64 r6.Hi]) rfl rfl rfl rfl rfl rfl (ST_ (L' := ([(g2, .cells #[.int .i64 r6.Lo, .int .i64 r6.Hi] 31 (0, 0))] :: ch5 :: L)) 0 0 rfl rfl rfl rfl (P_none ?_))))))))))))))
  refine O_cons (O_read rfl (R_assign rfl (P_some rfl (O_nil (hK739 _ _ _ (WP.ret ?_))))))
  have e_ := Option.some.inj h
  obtain ⟨e0a_, e0b_⟩ := Prod.mk.inj e_
  clear e_
  subst e0a_
  subst e0b_
  refine S_cell rfl rfl rfl rfl (LA_ (vs := [.int .i64 r6.Lo, .int .i64 r6.Hi]) 0 0 rfl rfl rfl rfl (S_tmp rfl (S_nil (Upd.selS [] 2 ?_))))
  exact Upd.done hR

theorem recyclingref27_Same_fn {μ : Gh} {L : List Seg} {R : Value → Gh → List Seg → Prop}  {a1 : (List Int)} {b1 : (List Int)} {A1 : Option Addr} {c1 : Nat} {A2 : Option Addr} {c2 : Nat} {res1 : Bool}
    (hl1 : a1.length ≤ c1 ∧ c1 ≤ maxLen) (hA1 : Rds rInt μ L A1 a1) (hl2 : b1.length ≤ c2 ∧ c2 ≤ maxLen) (hA2 : Rds rInt μ L A2 b1) (h : recyclingref27_Same a1 b1 = some res1)
    (hR : R (.bool res1) μ (L)) :
    Fn Try.prog 21 [.slice A1 a1.length c1, .slice A2 b1.length c2] μ (L) R := by
  unfold recyclingref27_Same at h
  refine Fn.of_body Tt_ok Try.func21 (by kernel_rfl) rfl Try.ntmps21 (by simp) ?_
  simp only [Try.f21, argFr, List.zipIdx, List.map, Nat.reduceAdd]
  refine WP.seq_k (fun K886 hK886 => WP.region Tt_ok (O_cons (O_read rfl (R_assign rfl (P_some rfl (O_nil (hK886 _ _ _ (WP.seq_k (fun K887 hK887 => WP.seq_k (fun K888 hK888 => WP.region Tt_ok (O_cons (O_read rfl (R_move rfl ?_)))))))))))))
  refine P_some rfl (O_cons (O_read rfl (R_lenS rfl rfl rfl (P_some rfl (O_cons (O_read rfl (R_move rfl (P_some rfl (O_cons (O_read rfl (R_lenS rfl rfl rfl (P_some rfl (O_cons ?_)))))))))))))
  refine O_read rfl (R_neqD rfl rfl (P_some rfl (O_nil (hK888 _ _ _ ?_))))
  refine W_cond_v (b := !(decide (((a1.length : Nat) : Int) = ((b1.length : Nat) : Int)))) rfl (fun hc1 => ?_) (fun hc1 => ?_)
  · replace h := cond_t hc1 h
    refine WP.seq_k (fun K889 hK889 => WP.region Tt_ok (O_cons (O_read rfl (R_assign rfl (P_some rfl (O_nil (hK889 _ _ _ (WP.ret ?_))))))))
    have e_ := Option.some.inj h
    subst e_
    refine S_tmp rfl (S_nil (Upd.selS [] 0 ?_))
    exact Upd.done hR
  replace h := cond_f hc1 h
  refine WP.skip (hK887 _ _ _ (WP.seq_k (fun K890 hK890 => WP.seq_k (fun K891 hK891 => WP.region Tt_ok (O_cons (O_read rfl (R_assign rfl (P_some rfl (O_nil (hK891 _ _ _ ?_))))))))))
  obtain ⟨o892, h892, h⟩ := obind h
  refine WP.cutK (fun fr_ μ_ L_ => (.inl ()) = o892 ∧ SubFr [] fr_ ∧ SegSub (L) L_ ∧ μ = μ_) ?_ ?_
  · refine WP.block (WP.iter h892 (fun (i1 : Int) fr_ μ_ L_ => SubFr [(0, .slice A1 a1.length c1), (1, .slice A2 b1.length c2), (5, .int .i64 i1)] fr_ ∧ SegSub (L) L_ ∧ μ = μ_) ⟨SubFr.of ⟨rfl, rfl, rfl, trivial⟩, SegSub.sel _ [] 0, rfl⟩ ?_)
    rintro i1 q899 fr899 μ899 L899 hm899 ⟨hF899, hS899, hu899⟩ hb899 hq899
    unfold recyclingref27_Same_l1 at hb899
    subst hu899
    refine WP.at hF899 hS899 (WP.seq_k (fun K900 hK900 => WP.seq_k (fun K901 hK901 => WP.region Tt_ok (O_cons (O_read rfl (R_move rfl (P_some rfl (O_cons (O_read rfl (R_move rfl (P_some rfl (O_cons (O_read rfl ?_)))))))))))))
    refine R_lenS rfl rfl rfl (P_some rfl (O_cons (O_read rfl (R_lssD rfl rfl (P_some rfl (O_nil (hK901 _ _ _ ?_)))))))
    refine W_cond_v (b := (decide (i1 < ((a1.length : Nat) : Int)))) rfl (fun hc2 => ?_) (fun hc2 => ?_)
    · replace hb899 := cond_t hc2 hb899
      refine WP.skip (hK900 _ _ _ (WP.seq_k (fun K902 hK902 => WP.block (WP.seq_k (fun K903 hK903 => WP.drawn (id := 6) (l' := List.replicate 9 true) wide Tt_ok _ Kept.refl [(true, 0), (true, 1), (true, 2), (true, 3), (true, 4), (true, 5), (true, 6), (true, 7), (true, 8)] (by kernel_rfl) (by kernel_rfl) rfl (PL_t rfl (R_move rfl (P_some rfl (PL_t rfl (R_move rfl (P_some rfl (PL_t rfl ?_))))))))))))
      obtain ⟨x1, hx1, hb899⟩ := obind hb899
      obtain ⟨a2, cs1, hA3, hr1, _, hc3⟩ := Rds.getI hA1 hx1
      obtain rfl := hr1
      refine R_iaG rfl rfl rfl rfl rfl rfl ⟨(getI_lt hx1).1, (getI_lt hx1).2.1⟩ hA3 (P_some rfl (PL_t rfl (R_load rfl rfl rfl (Ex.mk _ (Cell.of_cells0 hc3 rfl) (P_some rfl (PL_t rfl (R_move rfl (P_some rfl (PL_t rfl (R_move rfl (P_some rfl (PL_t rfl ?_))))))))))))
      obtain ⟨x2, hx2, hb899⟩ := obind hb899
      obtain ⟨a3, cs2, hA4, hr2, _, hc4⟩ := Rds.getI hA2 hx2
      obtain rfl := hr2
      refine R_iaG rfl rfl rfl rfl rfl rfl ⟨(getI_lt hx2).1, (getI_lt hx2).2.1⟩ hA4 (P_some rfl (PL_t rfl (R_load rfl rfl rfl (Ex.mk _ (Cell.of_cells0 hc4 rfl) (P_some rfl (PL_t rfl (R_neqD rfl rfl (P_some rfl (PL_nil (AN.done0 (by kernel_rfl) (hK903 _ _ _ ?_)))))))))))
      refine W_cond_v (b := !(decide (x1 = x2))) rfl (fun hc5 => ?_) (fun hc5 => ?_)
      · replace hb899 := cond_t hc5 hb899
        refine WP.seq_k (fun K904 hK904 => WP.region Tt_ok (O_cons (O_read rfl (R_assign rfl (P_some rfl (O_nil (hK904 _ _ _ (WP.ret ?_))))))))
        have e_ := Option.some.inj hb899
        subst e_
        have hq_ := hq899 _ rfl
        subst hq_
        replace h := osum_r h
        have e_ := Option.some.inj h
        subst e_
        refine S_tmp rfl (S_nil (Upd.selS [] 0 ?_))
        exact Upd.done hR
      replace hb899 := cond_f hc5 hb899
      refine WP.skip (hK902 _ _ _ (WP.region Tt_ok (O_cons (O_read rfl (R_move rfl (P_some rfl (O_cons (O_read rfl (R_add rfl rfl (P_some rfl (O_cons (O_read rfl (R_assign rfl ?_)))))))))))))
      refine P_some rfl (O_nil ?_)
      have e_ := Option.some.inj hb899
      subst e_
      exact ⟨_, rfl, SubFr.of ⟨rfl, rfl, rfl, trivial⟩, SegSub.sel _ [] 0, rfl⟩
    replace hb899 := cond_f hc2 hb899
    refine WP.exit (B_here ?_)
    have e_ := Option.some.inj hb899
    subst e_
    have hq_ := hq899 _ rfl
    subst hq_
    exact ⟨rfl, SubFr.of trivial, SegSub.sel _ [] 0, rfl⟩
  rintro fr892 μ892 L892 hm892 ⟨ho892, hF892, hS892, hu892⟩
  subst ho892
  replace h := osum_l h
  subst hu892
  refine hK890 _ _ _ (WP.at hF892 hS892 (WP.seq_k (fun K905 hK905 => WP.region Tt_ok (O_cons (O_read rfl (R_assign rfl (P_some rfl (O_nil (hK905 _ _ _ (WP.ret ?_))))))))))
  have e_ := Option.some.inj h
  subst e_
  refine S_tmp rfl (S_nil (Upd.selS [] 0 ?_))
  exact Upd.done hR

theorem recyclinglaw27_awake_fn {μ : Gh} {L : List Seg} {R : Value → Gh → List Seg → Prop} {F : Nat}   {res1 : Bool}
     (h : recyclinglaw27_awake F = some res1)
    (hR : R (.bool res1) μ (L)) :
    Fn Try.prog 12 [] μ (L) R := by
  unfold recyclinglaw27_awake at h
  refine Fn.of_body Tt_ok Try.func12 (by kernel_rfl) rfl Try.ntmps12 (by simp) ?_
  simp only [Try.f12, argFr, List.zipIdx, List.map, Nat.reduceAdd]
  refine WP.seq_k (fun K12 hK12 => WP.region Tt_ok (O_cons (O_read rfl (R_assign rfl (P_some rfl (O_nil (hK12 _ _ _ (WP.seq_k (fun K13 hK13 => WP.region Tt_ok (O_cons (O_read rfl (R_build rfl rfl rfl rfl (F_cons (cells' := [.int .i64 500, .int .i64 0, .int .i64 0, .int .i64 0, .int .i64 0, .int .i64 0]) rfl rfl rfl rfl ?_)))))))))))))
  refine F_cons (cells' := [.int .i64 500, .int .i64 30000, .int .i64 0, .int .i64 0, .int .i64 0, .int .i64 0]) rfl rfl rfl rfl (F_cons (cells' := [.int .i64 500, .int .i64 30000, .int .i64 200, .int .i64 0, .int .i64 0, .int .i64 0]) rfl rfl rfl rfl (F_nil (P_some rfl (O_cons (O_bsl (z := [.int .i64 0, .int .i64 0, .int .i64 0, .int .i64 0, .int .i64 0, .int .i64 0]) rfl rfl rfl rfl rfl rfl rfl (F_cons (cells' := [.int .i64 500, .int .i64 30000, .int .i64 200, .int .i64 0, .int .i64 0, .int .i64 0]) rfl rfl rfl rfl (F_nil (fun g1 => P_some rfl (O_cons (O_read rfl (R_assign rfl (P_some rfl (O_nil ?_)))))))))))))
  refine hK13 _ _ _ (WP.seq_k (fun K15 hK15 => WP.region Tt_ok (O_cons (O_read rfl (R_build rfl rfl rfl rfl (F_cons (cells' := [.int .i64 3, .int .i64 0, .int .i64 0, .int .i64 0, .int .i64 0, .int .i64 0]) rfl rfl rfl rfl (F_cons (cells' := [.int .i64 3, .int .i64 0, .int .i64 0, .int .i64 12000, .int .i64 0, .int .i64 0]) rfl rfl rfl rfl (F_cons (cells' := [.int .i64 3, .int .i64 0, .int .i64 0, .int .i64 12000, .int .i64 2000, .int .i64 0]) rfl rfl rfl rfl (F_nil (P_some rfl (O_cons (O_read rfl (R_build rfl rfl rfl rfl ?_)))))))))))))
  refine F_cons (cells' := [.int .i64 5, .int .i64 0, .int .i64 0, .int .i64 0, .int .i64 0, .int .i64 0]) rfl rfl rfl rfl (F_cons (cells' := [.int .i64 5, .int .i64 0, .int .i64 0, .int .i64 500, .int .i64 0, .int .i64 0]) rfl rfl rfl rfl (F_cons (cells' := [.int .i64 5, .int .i64 0, .int .i64 0, .int .i64 500, .int .i64 500, .int .i64 0]) rfl rfl rfl rfl (F_cons (cells' := [.int .i64 5, .int .i64 0, .int .i64 0, .int .i64 500, .int .i64 500, .int .i64 3]) rfl rfl rfl rfl (F_nil (P_some rfl (O_cons (O_read rfl (R_build rfl rfl rfl rfl (F_cons (cells' := [.int .i64 7, .int .i64 0, .int .i64 0, .int .i64 0, .int .i64 0, .int .i64 0]) rfl rfl rfl rfl (F_cons (cells' := [.int .i64 7, .int .i64 0, .int .i64 9, .int .i64 0, .int .i64 0, .int .i64 0]) rfl rfl rfl rfl ?_))))))))))
  refine F_cons (cells' := [.int .i64 7, .int .i64 0, .int .i64 9, .int .i64 500, .int .i64 0, .int .i64 0]) rfl rfl rfl rfl (F_cons (cells' := [.int .i64 7, .int .i64 0, .int .i64 9, .int .i64 500, .int .i64 500, .int .i64 0]) rfl rfl rfl rfl (F_nil (P_some rfl (O_cons (O_read rfl (R_build rfl rfl rfl rfl (F_cons (cells' := [.int .i64 8, .int .i64 0, .int .i64 0, .int .i64 0, .int .i64 0, .int .i64 0]) rfl rfl rfl rfl (F_cons (cells' := [.int .i64 8, .int .i64 0, .int .i64 0, .int .i64 12000, .int .i64 0, .int .i64 0]) rfl rfl rfl rfl (F_cons (cells' := [.int .i64 8, .int .i64 0, .int .i64 0, .int .i64 12000, .int .i64 2000, .int .i64 0]) rfl rfl rfl rfl (F_cons (cells' := [.int .i64 8, .int .i64 0, .int .i64 0, .int .i64 12000, .int .i64 2000, .int .i64 5]) rfl rfl rfl rfl ?_))))))))))
  refine F_nil (P_some rfl (O_cons (O_bsl (z := [.int .i64 0, .int .i64 0, .int .i64 0, .int .i64 0, .int .i64 0, .int .i64 0, .int .i64 0, .int .i64 0, .int .i64 0, .int .i64 0, .int .i64 0, .int .i64 0, .int .i64 0, .int .i64 0, .int .i64 0, .int .i64 0, .int .i64 0, .int .i64 0, .int .i64 0, .int .i64 0, .int .i64 0, .int .i64 0, .int .i64 0, .int .i64 0]) rfl rfl rfl rfl rfl rfl rfl (F_cons (cells' := [.int .i64 3, .int .i64 0, .int .i64 0, .int .i64 12000, .int .i64 2000, .int .i64 0, .int .i64 0, .int .i64 0, .int .i64 0, .int .i64 0, .int .i64 0, .int .i64 0, .int .i64 0, .int .i64 0, .int .i64 0, .int .i64 0, .int .i64 0, .int .i64 0, .int .i64 0, .int .i64 0, .int .i64 0, .int .i64 0, .int .i64 0, .int .i64 0]) rfl rfl rfl rfl ?_))))
  refine F_cons (cells' := [.int .i64 3, .int .i64 0, .int .i64 0, .int .i64 12000, .int .i64 2000, .int .i64 0, .int .i64 5, .int .i64 0, .int .i64 0, .int .i64 500, .int .i64 500, .int .i64 3, .int .i64 0, .int .i64 0, .int .i64 0, .int .i64 0, .int .i64 0, .int .i64 0, .int .i64 0, .int .i64 0, .int .i64 0, .int .i64 0, .int .i64 0, .int .i64 0]) rfl rfl rfl rfl (F_cons (cells' := [.int .i64 3, .int .i64 0, .int .i64 0, .int .i64 12000, .int .i64 2000, .int .i64 0, .int .i64 5, .int .i64 0, .int .i64 0, .int .i64 500, .int .i64 500, .int .i64 3, .int .i64 7, .int .i64 0, .int .i64 9, .int .i64 500, .int .i64 500, .int .i64 0, .int .i64 0, .int .i64 0, .int .i64 0, .int .i64 0, .int .i64 0, .int .i64 0]) rfl rfl rfl rfl ?_)
  refine F_cons (cells' := [.int .i64 3, .int .i64 0, .int .i64 0, .int .i64 12000, .int .i64 2000, .int .i64 0, .int .i64 5, .int .i64 0, .int .i64 0, .int .i64 500, .int .i64 500, .int .i64 3, .int .i64 7, .int .i64 0, .int .i64 9, .int .i64 500, .int .i64 500, .int .i64 0, .int .i64 8, .int .i64 0, .int .i64 0, .int .i64 12000, .int .i64 2000, .int .i64 5]) rfl rfl rfl rfl (F_nil (fun g2 => P_some rfl (O_cons (O_read rfl (R_assign rfl (P_some rfl (O_nil (hK15 _ _ _ (WP.seq_k (fun K17 hK17 => WP.region Tt_ok (O_cons (O_read rfl (R_move rfl ?_)))))))))))))
  refine P_some rfl (O_cons (O_read rfl (R_move rfl (P_some rfl (O_cons ?_)))))
  obtain ⟨x1, hx1, h⟩ := obind h
  obtain ⟨a1, cs1, hA1, hr1, _, hc1⟩ := Rds.getI (Own.rds (L := ([(g2, .cells #[.int .i64 3, .int .i64 0, .int .i64 0, .int .i64 12000, .int .i64 2000, .int .i64 0, .int .i64 5, .int .i64 0, .int .i64 0, .int .i64 500, .int .i64 500, .int .i64 3, .int .i64 7, .int .i64 0, .int .i64 9, .int .i64 500, .int .i64 500, .int .i64 0, .int .i64 8, .int .i64 0, .int .i64 0, .int .i64 12000, .int .i64 2000, .int .i64 5] 29 (0, 0))] :: [(g1, .cells #[.int .i64 500, .int .i64 30000, .int .i64 200, .int .i64 0, .int .i64 0, .int .i64 0] 52 (0, 0))] :: L)) (Own.lit (r := r_api_Ticket) (e := 29) (g := g2) (xs := [(T_api_Ticket.mk 3 0 0 12000 2000 0), (T_api_Ticket.mk 5 0 0 500 500 3), (T_api_Ticket.mk 7 0 9 500 500 0), (T_api_Ticket.mk 8 0 0 12000 2000 5)]) (cs := [.int .i64 3, .int .i64 0, .int .i64 0, .int .i64 12000, .int .i64 2000, .int .i64 0, .int .i64 5, .int .i64 0, .int .i64 0, .int .i64 500, .int .i64 500, .int .i64 3, .int .i64 7, .int .i64 0, .int .i64 9, .int .i64 500, .int .i64 500, .int .i64 0, .int .i64 8, .int .i64 0, .int .i64 0, .int .i64 12000, .int .i64 2000, .int .i64 5]) (css := [[.int .i64 3, .int .i64 0, .int .i64 0, .int .i64 12000, .int .i64 2000, .int .i64 0], [.int .i64 5, .int .i64 0, .int .i64 0, .int .i64 500, .int .i64 500, .int .i64 3], [.int .i64 7, .int .i64 0, .int .i64 9, .int .i64 500, .int .i64 500, .int .i64 0], [.int .i64 8, .int .i64 0, .int .i64 0, .int .i64 12000, .int .i64 2000, .int .i64 5]]) rfl (All2.cons (rfl) (All2.cons (rfl) (All2.cons (rfl) (All2.cons (rfl) (All2.nil))))) rfl rfl) 0 rfl) hx1
  obtain rfl := hr1
  refine O_read rfl (R_iaG rfl rfl rfl rfl rfl rfl ⟨(getI_lt hx1).1, (getI_lt hx1).2.1⟩ hA1 (P_some rfl (O_cons (O_read rfl (R_loadA rfl rfl rfl rfl (Ex.mk [.int .i64 x1.ID, .int .i64 x1.Scale, .int .i64 x1.At, .int .i64 x1.Gross, .int .i64 x1.Tare, .int .i64 x1.Replaces] ⟨rfl, hc1⟩ (P_some rfl (O_cons (O_call (all := [.slice (some ⟨g1, 0, none⟩) 1 1, .agg #[.int .i64 x1.ID, .int .i64 x1.Scale, .int .i64 x1.At, .int .i64 x1.Gross, .int .i64 x1.Tare, .int .i64 x1.Replaces]]) rfl rfl rfl ?_)))))))))
  obtain ⟨⟨r1, r2⟩, hx2, h⟩ := obind h
  replace h := oun_mk h
  refine ticket_Net_fn (lenLit (c := 1) rfl rfl) (Own.rds (L := ([(g2, .cells #[.int .i64 3, .int .i64 0, .int .i64 0, .int .i64 12000, .int .i64 2000, .int .i64 0, .int .i64 5, .int .i64 0, .int .i64 0, .int .i64 500, .int .i64 500, .int .i64 3, .int .i64 7, .int .i64 0, .int .i64 9, .int .i64 500, .int .i64 500, .int .i64 0, .int .i64 8, .int .i64 0, .int .i64 0, .int .i64 12000, .int .i64 2000, .int .i64 5] 29 (0, 0))] :: [(g1, .cells #[.int .i64 500, .int .i64 30000, .int .i64 200, .int .i64 0, .int .i64 0, .int .i64 0] 52 (0, 0))] :: L)) (Own.lit (r := r_api_Scale) (e := 52) (g := g1) (xs := [(T_api_Scale.mk 500 30000 200 0 0 0)]) (cs := [.int .i64 500, .int .i64 30000, .int .i64 200, .int .i64 0, .int .i64 0, .int .i64 0]) (css := [[.int .i64 500, .int .i64 30000, .int .i64 200, .int .i64 0, .int .i64 0, .int .i64 0]]) rfl (All2.cons (rfl) (All2.nil)) rfl rfl) 1 rfl) hx2 (?_)
  refine P_some rfl (O_cons (O_read rfl (R_move rfl (P_some rfl (O_cons (O_read rfl (R_ext rfl rfl (P_some rfl (O_cons (O_read rfl (R_ext rfl rfl (P_some rfl (O_cons ?_)))))))))))))
  refine O_alloc (cs := #[.int .i64 0, .int .i64 0]) rfl rfl (fun g3 => P_some rfl (O_cons (O_store (vs := [.int .i64 r1.Lo, .int .i64 r1.Hi]) rfl rfl rfl rfl rfl rfl (ST_ (L' := ([(g3, .cells #[.int .i64 r1.Lo, .int .i64 r1.Hi] 31 (0, 0))] :: [(g2, .cells #[.int .i64 3, .int .i64 0, .int .i64 0, .int .i64 12000, .int .i64 2000, .int .i64 0, .int .i64 5, .int .i64 0, .int .i64 0, .int .i64 500, .int .i64 500, .int .i64 3, .int .i64 7, .int .i64 0, .int .i64 9, .int .i64 500, .int .i64 500, .int .i64 0, .int .i64 8, .int .i64 0, .int .i64 0, .int .i64 12000, .int .i64 2000, .int .i64 5] 29 (0, 0))] :: [(g1, .cells #[.int .i64 500, .int .i64 30000, .int .i64 200, .int .i64 0, .int .i64 0, .int .i64 0] 52 (0, 0))] :: L)) 0 0 rfl rfl rfl rfl ?_))))
  refine P_none (O_cons (O_read rfl (R_assign rfl (P_some rfl (O_nil (hK17 _ _ _ (WP.seq_k (fun K383 hK383 => WP.region Tt_ok (O_cons (O_read rfl (R_move rfl (P_some rfl (O_cons ?_)))))))))))))
  refine O_read rfl (R_move rfl (P_some rfl (O_cons ?_)))
  obtain ⟨x2, hx3, h⟩ := obind h
  obtain ⟨a2, cs2, hA2, hr2, _, hc2⟩ := Rds.getI (Own.rds (L := ([(g3, .cells #[.int .i64 r1.Lo, .int .i64 r1.Hi] 31 (0, 0))] :: [(g2, .cells #[.int .i64 3, .int .i64 0, .int .i64 0, .int .i64 12000, .int .i64 2000, .int .i64 0, .int .i64 5, .int .i64 0, .int .i64 0, .int .i64 500, .int .i64 500, .int .i64 3, .int .i64 7, .int .i64 0, .int .i64 9, .int .i64 500, .int .i64 500, .int .i64 0, .int .i64 8, .int .i64 0, .int .i64 0, .int .i64 12000, .int .i64 2000, .int .i64 5] 29 (0, 0))] :: [(g1, .cells #[.int .i64 500, .int .i64 30000, .int .i64 200, .int .i64 0, .int .i64 0, .int .i64 0] 52 (0, 0))] :: L)) (Own.lit (r := r_api_Ticket) (e := 29) (g := g2) (xs := [(T_api_Ticket.mk 3 0 0 12000 2000 0), (T_api_Ticket.mk 5 0 0 500 500 3), (T_api_Ticket.mk 7 0 9 500 500 0), (T_api_Ticket.mk 8 0 0 12000 2000 5)]) (cs := [.int .i64 3, .int .i64 0, .int .i64 0, .int .i64 12000, .int .i64 2000, .int .i64 0, .int .i64 5, .int .i64 0, .int .i64 0, .int .i64 500, .int .i64 500, .int .i64 3, .int .i64 7, .int .i64 0, .int .i64 9, .int .i64 500, .int .i64 500, .int .i64 0, .int .i64 8, .int .i64 0, .int .i64 0, .int .i64 12000, .int .i64 2000, .int .i64 5]) (css := [[.int .i64 3, .int .i64 0, .int .i64 0, .int .i64 12000, .int .i64 2000, .int .i64 0], [.int .i64 5, .int .i64 0, .int .i64 0, .int .i64 500, .int .i64 500, .int .i64 3], [.int .i64 7, .int .i64 0, .int .i64 9, .int .i64 500, .int .i64 500, .int .i64 0], [.int .i64 8, .int .i64 0, .int .i64 0, .int .i64 12000, .int .i64 2000, .int .i64 5]]) rfl (All2.cons (rfl) (All2.cons (rfl) (All2.cons (rfl) (All2.cons (rfl) (All2.nil))))) rfl rfl) 1 rfl) hx3
  obtain rfl := hr2
  refine O_read rfl (R_iaG rfl rfl rfl rfl rfl rfl ⟨(getI_lt hx3).1, (getI_lt hx3).2.1⟩ hA2 (P_some rfl (O_cons (O_read rfl (R_loadA rfl rfl rfl rfl (Ex.mk [.int .i64 x2.ID, .int .i64 x2.Scale, .int .i64 x2.At, .int .i64 x2.Gross, .int .i64 x2.Tare, .int .i64 x2.Replaces] ⟨rfl, hc2⟩ (P_some rfl (O_cons (O_call (all := [.slice (some ⟨g1, 0, none⟩) 1 1, .agg #[.int .i64 x2.ID, .int .i64 x2.Scale, .int .i64 x2.At, .int .i64 x2.Gross, .int .i64 x2.Tare, .int .i64 x2.Replaces]]) rfl rfl rfl ?_)))))))))
  obtain ⟨⟨r3, r4⟩, hx4, h⟩ := obind h
  replace h := oun_mk h
  refine ticket_Net_fn (lenLit (c := 1) rfl rfl) (Own.rds (L := ([(g3, .cells #[.int .i64 r1.Lo, .int .i64 r1.Hi] 31 (0, 0))] :: [(g2, .cells #[.int .i64 3, .int .i64 0, .int .i64 0, .int .i64 12000, .int .i64 2000, .int .i64 0, .int .i64 5, .int .i64 0, .int .i64 0, .int .i64 500, .int .i64 500, .int .i64 3, .int .i64 7, .int .i64 0, .int .i64 9, .int .i64 500, .int .i64 500, .int .i64 0, .int .i64 8, .int .i64 0, .int .i64 0, .int .i64 12000, .int .i64 2000, .int .i64 5] 29 (0, 0))] :: [(g1, .cells #[.int .i64 500, .int .i64 30000, .int .i64 200, .int .i64 0, .int .i64 0, .int .i64 0] 52 (0, 0))] :: L)) (Own.lit (r := r_api_Scale) (e := 52) (g := g1) (xs := [(T_api_Scale.mk 500 30000 200 0 0 0)]) (cs := [.int .i64 500, .int .i64 30000, .int .i64 200, .int .i64 0, .int .i64 0, .int .i64 0]) (css := [[.int .i64 500, .int .i64 30000, .int .i64 200, .int .i64 0, .int .i64 0, .int .i64 0]]) rfl (All2.cons (rfl) (All2.nil)) rfl rfl) 2 rfl) hx4 (?_)
  refine P_some rfl (O_cons (O_read rfl (R_move rfl (P_some rfl (O_cons (O_read rfl (R_ext rfl rfl (P_some rfl (O_cons (O_read rfl (R_ext rfl rfl (P_some rfl (O_cons ?_)))))))))))))
  refine O_alloc (cs := #[.int .i64 0, .int .i64 0]) rfl rfl (fun g4 => P_some rfl (O_cons (O_store (vs := [.int .i64 r3.Lo, .int .i64 r3.Hi]) rfl rfl rfl rfl rfl rfl (ST_ (L' := ([(g4, .cells #[.int .i64 r3.Lo, .int .i64 r3.Hi] 31 (0, 0))] :: [(g3, .cells #[.int .i64 r1.Lo, .int .i64 r1.Hi] 31 (0, 0))] :: [(g2, .cells #[.int .i64 3, .int .i64 0, .int .i64 0, .int .i64 12000, .int .i64 2000, .int .i64 0, .int .i64 5, .int .i64 0, .int .i64 0, .int .i64 500, .int .i64 500, .int .i64 3, .int .i64 7, .int .i64 0, .int .i64 9, .int .i64 500, .int .i64 500, .int .i64 0, .int .i64 8, .int .i64 0, .int .i64 0, .int .i64 12000, .int .i64 2000, .int .i64 5] 29 (0, 0))] :: [(g1, .cells #[.int .i64 500, .int .i64 30000, .int .i64 200, .int .i64 0, .int .i64 0, .int .i64 0] 52 (0, 0))] :: L)) 0 0 rfl rfl rfl rfl ?_))))
  refine P_none (O_cons (O_read rfl (R_assign rfl (P_some rfl (O_nil (hK383 _ _ _ (WP.seq_k (fun K386 hK386 => WP.region Tt_ok (O_cons (O_read rfl (R_move rfl (P_some rfl (O_cons ?_)))))))))))))
  apply O_call (all := [.slice (some ⟨g2, 0, none⟩) 4 4]); exact rfl; exact rfl; exact rfl
  obtain ⟨⟨r5, r6⟩, hx5, h⟩ := obind h
  replace h := oun_mk h
  refine ticket_Active_fn (lenLit (c := 4) rfl rfl) (Own.rds (L := ([(g4, .cells #[.int .i64 r3.Lo, .int .i64 r3.Hi] 31 (0, 0))] :: [(g3, .cells #[.int .i64 r1.Lo, .int .i64 r1.Hi] 31 (0, 0))] :: [(g2, .cells #[.int .i64 3, .int .i64 0, .int .i64 0, .int .i64 12000, .int .i64 2000, .int .i64 0, .int .i64 5, .int .i64 0, .int .i64 0, .int .i64 500, .int .i64 500, .int .i64 3, .int .i64 7, .int .i64 0, .int .i64 9, .int .i64 500, .int .i64 500, .int .i64 0, .int .i64 8, .int .i64 0, .int .i64 0, .int .i64 12000, .int .i64 2000, .int .i64 5] 29 (0, 0))] :: [(g1, .cells #[.int .i64 500, .int .i64 30000, .int .i64 200, .int .i64 0, .int .i64 0, .int .i64 0] 52 (0, 0))] :: L)) (Own.lit (r := r_api_Ticket) (e := 29) (g := g2) (xs := [(T_api_Ticket.mk 3 0 0 12000 2000 0), (T_api_Ticket.mk 5 0 0 500 500 3), (T_api_Ticket.mk 7 0 9 500 500 0), (T_api_Ticket.mk 8 0 0 12000 2000 5)]) (cs := [.int .i64 3, .int .i64 0, .int .i64 0, .int .i64 12000, .int .i64 2000, .int .i64 0, .int .i64 5, .int .i64 0, .int .i64 0, .int .i64 500, .int .i64 500, .int .i64 3, .int .i64 7, .int .i64 0, .int .i64 9, .int .i64 500, .int .i64 500, .int .i64 0, .int .i64 8, .int .i64 0, .int .i64 0, .int .i64 12000, .int .i64 2000, .int .i64 5]) (css := [[.int .i64 3, .int .i64 0, .int .i64 0, .int .i64 12000, .int .i64 2000, .int .i64 0], [.int .i64 5, .int .i64 0, .int .i64 0, .int .i64 500, .int .i64 500, .int .i64 3], [.int .i64 7, .int .i64 0, .int .i64 9, .int .i64 500, .int .i64 500, .int .i64 0], [.int .i64 8, .int .i64 0, .int .i64 0, .int .i64 12000, .int .i64 2000, .int .i64 5]]) rfl (All2.cons (rfl) (All2.cons (rfl) (All2.cons (rfl) (All2.cons (rfl) (All2.nil))))) rfl rfl) 2 rfl) hx5 (fun A1 c1 ch1 hO1 => ?_)
  refine P_some rfl (O_cons (O_read rfl (R_move rfl (P_some rfl (O_cons (O_read rfl (R_ext rfl rfl (P_some rfl (O_cons (O_read rfl (R_ext rfl rfl (P_some rfl (O_cons ?_)))))))))))))
  refine O_read rfl (R_assign rfl (P_some rfl (O_cons (O_read rfl (R_assign rfl (P_some rfl (O_nil (hK386 _ _ _ (WP.seq_k (fun K545 hK545 => WP.region Tt_ok (O_cons (O_read rfl (R_move rfl ?_)))))))))))))
  refine P_some rfl (O_cons (O_call (all := [.slice (some ⟨g2, 0, none⟩) 4 4, .int .i64 8]) rfl rfl rfl ?_))
  obtain ⟨⟨r7, r8⟩, hx6, h⟩ := obind h
  replace h := oun_mk h
  refine ticket_Chain_fn (lenLit (c := 4) rfl rfl) (Own.rds (L := (ch1 :: [(g4, .cells #[.int .i64 r3.Lo, .int .i64 r3.Hi] 31 (0, 0))] :: [(g3, .cells #[.int .i64 r1.Lo, .int .i64 r1.Hi] 31 (0, 0))] :: [(g2, .cells #[.int .i64 3, .int .i64 0, .int .i64 0, .int .i64 12000, .int .i64 2000, .int .i64 0, .int .i64 5, .int .i64 0, .int .i64 0, .int .i64 500, .int .i64 500, .int .i64 3, .int .i64 7, .int .i64 0, .int .i64 9, .int .i64 500, .int .i64 500, .int .i64 0, .int .i64 8, .int .i64 0, .int .i64 0, .int .i64 12000, .int .i64 2000, .int .i64 5] 29 (0, 0))] :: [(g1, .cells #[.int .i64 500, .int .i64 30000, .int .i64 200, .int .i64 0, .int .i64 0, .int .i64 0] 52 (0, 0))] :: L)) (Own.lit (r := r_api_Ticket) (e := 29) (g := g2) (xs := [(T_api_Ticket.mk 3 0 0 12000 2000 0), (T_api_Ticket.mk 5 0 0 500 500 3), (T_api_Ticket.mk 7 0 9 500 500 0), (T_api_Ticket.mk 8 0 0 12000 2000 5)]) (cs := [.int .i64 3, .int .i64 0, .int .i64 0, .int .i64 12000, .int .i64 2000, .int .i64 0, .int .i64 5, .int .i64 0, .int .i64 0, .int .i64 500, .int .i64 500, .int .i64 3, .int .i64 7, .int .i64 0, .int .i64 9, .int .i64 500, .int .i64 500, .int .i64 0, .int .i64 8, .int .i64 0, .int .i64 0, .int .i64 12000, .int .i64 2000, .int .i64 5]) (css := [[.int .i64 3, .int .i64 0, .int .i64 0, .int .i64 12000, .int .i64 2000, .int .i64 0], [.int .i64 5, .int .i64 0, .int .i64 0, .int .i64 500, .int .i64 500, .int .i64 3], [.int .i64 7, .int .i64 0, .int .i64 9, .int .i64 500, .int .i64 500, .int .i64 0], [.int .i64 8, .int .i64 0, .int .i64 0, .int .i64 12000, .int .i64 2000, .int .i64 5]]) rfl (All2.cons (rfl) (All2.cons (rfl) (All2.cons (rfl) (All2.cons (rfl) (All2.nil))))) rfl rfl) 3 rfl) hx6 (fun A2 c2 ch2 hO2 => ?_)
  refine P_some rfl (O_cons (O_read rfl (R_move rfl (P_some rfl (O_cons (O_read rfl (R_ext rfl rfl (P_some rfl (O_cons (O_read rfl (R_ext rfl rfl (P_some rfl (O_cons ?_)))))))))))))
  refine O_read rfl (R_assign rfl (P_some rfl (O_cons (O_read rfl (R_assign rfl (P_some rfl (O_nil (hK545 _ _ _ (WP.seq_k (fun K591 hK591 => WP.region Tt_ok (O_cons (O_read rfl (R_move rfl ?_)))))))))))))
  refine P_some rfl (O_cons (O_read rfl (R_move rfl (P_some rfl (O_cons (O_read rfl (R_build rfl rfl rfl rfl (F_cons (cells' := [.int .i64 0, .int .i64 0]) rfl rfl rfl rfl (F_cons (cells' := [.int .i64 0, .int .i64 9]) rfl rfl rfl rfl (F_nil (P_some rfl (O_cons (O_call (all := [.slice (some ⟨g1, 0, none⟩) 1 1, .slice (some ⟨g2, 0, none⟩) 4 4, .agg #[.int .i64 0, .int .i64 9]]) rfl rfl rfl ?_)))))))))))))
  obtain ⟨⟨r9, r10⟩, hx7, h⟩ := obind h
  replace h := oun_mk h
  refine ticket_Total_fn (lenLit (c := 1) rfl rfl) (Own.rds (L := (ch2 :: ch1 :: [(g4, .cells #[.int .i64 r3.Lo, .int .i64 r3.Hi] 31 (0, 0))] :: [(g3, .cells #[.int .i64 r1.Lo, .int .i64 r1.Hi] 31 (0, 0))] :: [(g2, .cells #[.int .i64 3, .int .i64 0, .int .i64 0, .int .i64 12000, .int .i64 2000, .int .i64 0, .int .i64 5, .int .i64 0, .int .i64 0, .int .i64 500, .int .i64 500, .int .i64 3, .int .i64 7, .int .i64 0, .int .i64 9, .int .i64 500, .int .i64 500, .int .i64 0, .int .i64 8, .int .i64 0, .int .i64 0, .int .i64 12000, .int .i64 2000, .int .i64 5] 29 (0, 0))] :: [(g1, .cells #[.int .i64 500, .int .i64 30000, .int .i64 200, .int .i64 0, .int .i64 0, .int .i64 0] 52 (0, 0))] :: L)) (Own.lit (r := r_api_Scale) (e := 52) (g := g1) (xs := [(T_api_Scale.mk 500 30000 200 0 0 0)]) (cs := [.int .i64 500, .int .i64 30000, .int .i64 200, .int .i64 0, .int .i64 0, .int .i64 0]) (css := [[.int .i64 500, .int .i64 30000, .int .i64 200, .int .i64 0, .int .i64 0, .int .i64 0]]) rfl (All2.cons (rfl) (All2.nil)) rfl rfl) 5 rfl) (lenLit (c := 4) rfl rfl) (Own.rds (L := (ch2 :: ch1 :: [(g4, .cells #[.int .i64 r3.Lo, .int .i64 r3.Hi] 31 (0, 0))] :: [(g3, .cells #[.int .i64 r1.Lo, .int .i64 r1.Hi] 31 (0, 0))] :: [(g2, .cells #[.int .i64 3, .int .i64 0, .int .i64 0, .int .i64 12000, .int .i64 2000, .int .i64 0, .int .i64 5, .int .i64 0, .int .i64 0, .int .i64 500, .int .i64 500, .int .i64 3, .int .i64 7, .int .i64 0, .int .i64 9, .int .i64 500, .int .i64 500, .int .i64 0, .int .i64 8, .int .i64 0, .int .i64 0, .int .i64 12000, .int .i64 2000, .int .i64 5] 29 (0, 0))] :: [(g1, .cells #[.int .i64 500, .int .i64 30000, .int .i64 200, .int .i64 0, .int .i64 0, .int .i64 0] 52 (0, 0))] :: L)) (Own.lit (r := r_api_Ticket) (e := 29) (g := g2) (xs := [(T_api_Ticket.mk 3 0 0 12000 2000 0), (T_api_Ticket.mk 5 0 0 500 500 3), (T_api_Ticket.mk 7 0 9 500 500 0), (T_api_Ticket.mk 8 0 0 12000 2000 5)]) (cs := [.int .i64 3, .int .i64 0, .int .i64 0, .int .i64 12000, .int .i64 2000, .int .i64 0, .int .i64 5, .int .i64 0, .int .i64 0, .int .i64 500, .int .i64 500, .int .i64 3, .int .i64 7, .int .i64 0, .int .i64 9, .int .i64 500, .int .i64 500, .int .i64 0, .int .i64 8, .int .i64 0, .int .i64 0, .int .i64 12000, .int .i64 2000, .int .i64 5]) (css := [[.int .i64 3, .int .i64 0, .int .i64 0, .int .i64 12000, .int .i64 2000, .int .i64 0], [.int .i64 5, .int .i64 0, .int .i64 0, .int .i64 500, .int .i64 500, .int .i64 3], [.int .i64 7, .int .i64 0, .int .i64 9, .int .i64 500, .int .i64 500, .int .i64 0], [.int .i64 8, .int .i64 0, .int .i64 0, .int .i64 12000, .int .i64 2000, .int .i64 5]]) rfl (All2.cons (rfl) (All2.cons (rfl) (All2.cons (rfl) (All2.cons (rfl) (All2.nil))))) rfl rfl) 4 rfl) hx7 (?_)
  refine P_some rfl (O_cons (O_read rfl (R_move rfl (P_some rfl (O_cons (O_read rfl (R_ext rfl rfl (P_some rfl (O_cons (O_read rfl (R_ext rfl rfl (P_some rfl (O_cons ?_)))))))))))))
  refine O_alloc (cs := #[.int .i64 0, .int .i64 0]) rfl rfl (fun g5 => P_some rfl (O_cons (O_store (vs := [.int .i64 r9.Lo, .int .i64 r9.Hi]) rfl rfl rfl rfl rfl rfl (ST_ (L' := ([(g5, .cells #[.int .i64 r9.Lo, .int .i64 r9.Hi] 31 (0, 0))] :: ch2 :: ch1 :: [(g4, .cells #[.int .i64 r3.Lo, .int .i64 r3.Hi] 31 (0, 0))] :: [(g3, .cells #[.int .i64 r1.Lo, .int .i64 r1.Hi] 31 (0, 0))] :: [(g2, .cells #[.int .i64 3, .int .i64 0, .int .i64 0, .int .i64 12000, .int .i64 2000, .int .i64 0, .int .i64 5, .int .i64 0, .int .i64 0, .int .i64 500, .int .i64 500, .int .i64 3, .int .i64 7, .int .i64 0, .int .i64 9, .int .i64 500, .int .i64 500, .int .i64 0, .int .i64 8, .int .i64 0, .int .i64 0, .int .i64 12000, .int .i64 2000, .int .i64 5] 29 (0, 0))] :: [(g1, .cells #[.int .i64 500, .int .i64 30000, .int .i64 200, .int .i64 0, .int .i64 0, .int .i64 0] 52 (0, 0))] :: L)) 0 0 rfl rfl rfl rfl ?_))))
  refine P_none (O_cons (O_read rfl (R_assign rfl (P_some rfl (O_nil (hK591 _ _ _ (WP.seq_k (fun K881 hK881 => ?_))))))))
  obtain ⟨o882, h882, h⟩ := obind h
  refine WP.cutK (fun fr_ μ_ L_ => ∃ (v1 : Bool), v1 = o882 ∧ SubFr [(0, .bool v1)] fr_ ∧ SegSub (L) L_ ∧ μ = μ_) ?_ ?_
  · refine WP.region Tt_ok (O_cons (O_read rfl (R_move rfl (P_some rfl (O_cons (O_read rfl (R_eqlD rfl rfl (P_some rfl (O_cons (O_read rfl (R_move rfl (P_some rfl ?_))))))))))))
    refine O_gv (z := (decide (r2 = 0))) rfl rfl (fun hc3 => ?_) (fun hc3 => ?_)
    · replace h882 := cond_t hc3 h882
      refine O_read rfl (R_loadA rfl rfl rfl rfl (LA_ (vs := [.int .i64 r1.Lo, .int .i64 r1.Hi]) 4 0 rfl rfl rfl rfl (P_some rfl (O_gY rfl rfl hc3 (O_read rfl (R_build rfl rfl rfl rfl (F_cons (cells' := [.int .i64 9100, .int .i64 0]) rfl rfl rfl rfl (F_cons (cells' := [.int .i64 9100, .int .i64 10900]) rfl rfl rfl rfl (F_nil (P_some rfl (O_gY rfl rfl hc3 (O_read rfl (R_agg rfl rfl ?_)))))))))))))
      refine Ex.mk _ (eqRun_T_api_Span r1 (T_api_Span.mk 9100 10900)) (P_some rfl (O_cons (O_read rfl (R_pick_T rfl hc3 rfl (P_some rfl (O_cons (O_read rfl (R_move rfl (P_some rfl ?_)))))))))
      refine O_gv (z := (decide (r1 = (T_api_Span.mk 9100 10900)))) rfl rfl (fun hc4 => ?_) (fun hc4 => ?_)
      · replace h882 := cond_t hc4 h882
        refine O_read rfl (R_move rfl (P_some rfl (O_gY rfl rfl hc4 (O_read rfl (R_eqlD rfl rfl (P_some rfl (O_cons (O_read rfl (R_pick_T rfl hc4 rfl (P_some rfl (O_cons (O_read rfl (R_move rfl ?_)))))))))))))
        apply P_some; exact rfl
        refine O_gv (z := (decide (r4 = 0))) rfl rfl (fun hc5 => ?_) (fun hc5 => ?_)
        · replace h882 := cond_t hc5 h882
          refine O_read rfl (R_loadA rfl rfl rfl rfl (LA_ (vs := [.int .i64 r3.Lo, .int .i64 r3.Hi]) 3 0 rfl rfl rfl rfl (P_some rfl (O_gY rfl rfl hc5 (O_read rfl (R_build rfl rfl rfl rfl (F_cons (cells' := [.int .i64 0, .int .i64 0]) rfl rfl rfl rfl (F_cons (cells' := [.int .i64 0, .int .i64 900]) rfl rfl rfl rfl (F_nil (P_some rfl (O_gY rfl rfl hc5 (O_read rfl (R_agg rfl rfl ?_)))))))))))))
          refine Ex.mk _ (eqRun_T_api_Span r3 (T_api_Span.mk 0 900)) (P_some rfl (O_cons (O_read rfl (R_pick_T rfl hc5 rfl (P_some rfl (O_cons (O_read rfl (R_move rfl (P_some rfl ?_)))))))))
          refine O_gv (z := (decide (r3 = (T_api_Span.mk 0 900)))) rfl rfl (fun hc6 => ?_) (fun hc6 => ?_)
          · replace h882 := cond_t hc6 h882
            refine O_read rfl (R_move rfl (P_some rfl (O_gY rfl rfl hc6 (O_read rfl (R_eqlD rfl rfl (P_some rfl (O_cons (O_read rfl (R_pick_T rfl hc6 rfl (P_some rfl (O_cons (O_read rfl (R_move rfl ?_)))))))))))))
            apply P_some; exact rfl
            refine O_gv (z := (decide (r6 = 0))) rfl rfl (fun hc7 => ?_) (fun hc7 => ?_)
            · replace h882 := cond_t hc7 h882
              refine O_read rfl (R_move rfl (P_some rfl (O_gY rfl rfl hc7 (O_bsl (z := [.int .i64 0, .int .i64 0]) rfl rfl rfl rfl rfl rfl rfl (F_cons (cells' := [.int .i64 2, .int .i64 0]) rfl rfl rfl rfl (F_cons (cells' := [.int .i64 2, .int .i64 3]) rfl rfl rfl rfl (F_nil (fun g6 => P_some rfl (O_gY rfl rfl hc7 (O_call (all := [.slice A1 r5.length c1, .slice (some ⟨g6, 0, none⟩) 2 2]) rfl rfl rfl ?_))))))))))
              obtain ⟨r11, hx8, h882⟩ := obind h882
              refine recyclingref27_Same_fn (Own.lenOk hO1) (Own.rds (L := ([(g6, .cells #[.int .i64 2, .int .i64 3] 3 (0, 0))] :: [(g5, .cells #[.int .i64 r9.Lo, .int .i64 r9.Hi] 31 (0, 0))] :: ch2 :: ch1 :: [(g4, .cells #[.int .i64 r3.Lo, .int .i64 r3.Hi] 31 (0, 0))] :: [(g3, .cells #[.int .i64 r1.Lo, .int .i64 r1.Hi] 31 (0, 0))] :: [(g2, .cells #[.int .i64 3, .int .i64 0, .int .i64 0, .int .i64 12000, .int .i64 2000, .int .i64 0, .int .i64 5, .int .i64 0, .int .i64 0, .int .i64 500, .int .i64 500, .int .i64 3, .int .i64 7, .int .i64 0, .int .i64 9, .int .i64 500, .int .i64 500, .int .i64 0, .int .i64 8, .int .i64 0, .int .i64 0, .int .i64 12000, .int .i64 2000, .int .i64 5] 29 (0, 0))] :: [(g1, .cells #[.int .i64 500, .int .i64 30000, .int .i64 200, .int .i64 0, .int .i64 0, .int .i64 0] 52 (0, 0))] :: L)) hO1 3 rfl) (lenLit (c := 2) rfl rfl) (Own.rds (L := ([(g6, .cells #[.int .i64 2, .int .i64 3] 3 (0, 0))] :: [(g5, .cells #[.int .i64 r9.Lo, .int .i64 r9.Hi] 31 (0, 0))] :: ch2 :: ch1 :: [(g4, .cells #[.int .i64 r3.Lo, .int .i64 r3.Hi] 31 (0, 0))] :: [(g3, .cells #[.int .i64 r1.Lo, .int .i64 r1.Hi] 31 (0, 0))] :: [(g2, .cells #[.int .i64 3, .int .i64 0, .int .i64 0, .int .i64 12000, .int .i64 2000, .int .i64 0, .int .i64 5, .int .i64 0, .int .i64 0, .int .i64 500, .int .i64 500, .int .i64 3, .int .i64 7, .int .i64 0, .int .i64 9, .int .i64 500, .int .i64 500, .int .i64 0, .int .i64 8, .int .i64 0, .int .i64 0, .int .i64 12000, .int .i64 2000, .int .i64 5] 29 (0, 0))] :: [(g1, .cells #[.int .i64 500, .int .i64 30000, .int .i64 200, .int .i64 0, .int .i64 0, .int .i64 0] 52 (0, 0))] :: L)) (Own.lit (r := rInt) (e := 3) (g := g6) (xs := [2, 3]) (cs := [.int .i64 2, .int .i64 3]) (css := [[.int .i64 2], [.int .i64 3]]) rfl (All2.cons (rfl) (All2.cons (rfl) (All2.nil))) rfl rfl) 0 rfl) hx8 (?_)
              refine P_some rfl (O_cons (O_read rfl (R_pick_T rfl hc7 rfl (P_some rfl (O_cons (O_read rfl (R_move rfl (P_some rfl ?_))))))))
              refine O_gv (z := r11) rfl rfl (fun hc8 => ?_) (fun hc8 => ?_)
              · replace h882 := cond_t hc8 h882
                refine O_read rfl (R_move rfl (P_some rfl (O_gY rfl rfl hc8 (O_read rfl (R_eqlD rfl rfl (P_some rfl (O_cons (O_read rfl (R_pick_T rfl hc8 rfl (P_some rfl (O_cons (O_read rfl (R_move rfl ?_)))))))))))))
                apply P_some; exact rfl
                refine O_gv (z := (decide (r8 = 0))) rfl rfl (fun hc9 => ?_) (fun hc9 => ?_)
                · replace h882 := cond_t hc9 h882
                  refine O_read rfl (R_move rfl (P_some rfl (O_gY rfl rfl hc9 (O_bsl (z := [.int .i64 0, .int .i64 0, .int .i64 0]) rfl rfl rfl rfl rfl rfl rfl (F_cons (cells' := [.int .i64 0, .int .i64 0, .int .i64 0]) rfl rfl rfl rfl (F_cons (cells' := [.int .i64 0, .int .i64 1, .int .i64 0]) rfl rfl rfl rfl (F_cons (cells' := [.int .i64 0, .int .i64 1, .int .i64 3]) rfl rfl rfl rfl (F_nil (fun g7 => P_some rfl (O_gY rfl rfl hc9 (O_call (all := [.slice A2 r7.length c2, .slice (some ⟨g7, 0, none⟩) 3 3]) rfl rfl rfl ?_)))))))))))
                  obtain ⟨r12, hx9, h882⟩ := obind h882
                  refine recyclingref27_Same_fn (Own.lenOk hO2) (Own.rds (L := ([(g7, .cells #[.int .i64 0, .int .i64 1, .int .i64 3] 3 (0, 0))] :: [(g6, .cells #[.int .i64 2, .int .i64 3] 3 (0, 0))] :: [(g5, .cells #[.int .i64 r9.Lo, .int .i64 r9.Hi] 31 (0, 0))] :: ch2 :: ch1 :: [(g4, .cells #[.int .i64 r3.Lo, .int .i64 r3.Hi] 31 (0, 0))] :: [(g3, .cells #[.int .i64 r1.Lo, .int .i64 r1.Hi] 31 (0, 0))] :: [(g2, .cells #[.int .i64 3, .int .i64 0, .int .i64 0, .int .i64 12000, .int .i64 2000, .int .i64 0, .int .i64 5, .int .i64 0, .int .i64 0, .int .i64 500, .int .i64 500, .int .i64 3, .int .i64 7, .int .i64 0, .int .i64 9, .int .i64 500, .int .i64 500, .int .i64 0, .int .i64 8, .int .i64 0, .int .i64 0, .int .i64 12000, .int .i64 2000, .int .i64 5] 29 (0, 0))] :: [(g1, .cells #[.int .i64 500, .int .i64 30000, .int .i64 200, .int .i64 0, .int .i64 0, .int .i64 0] 52 (0, 0))] :: L)) hO2 3 rfl) (lenLit (c := 3) rfl rfl) (Own.rds (L := ([(g7, .cells #[.int .i64 0, .int .i64 1, .int .i64 3] 3 (0, 0))] :: [(g6, .cells #[.int .i64 2, .int .i64 3] 3 (0, 0))] :: [(g5, .cells #[.int .i64 r9.Lo, .int .i64 r9.Hi] 31 (0, 0))] :: ch2 :: ch1 :: [(g4, .cells #[.int .i64 r3.Lo, .int .i64 r3.Hi] 31 (0, 0))] :: [(g3, .cells #[.int .i64 r1.Lo, .int .i64 r1.Hi] 31 (0, 0))] :: [(g2, .cells #[.int .i64 3, .int .i64 0, .int .i64 0, .int .i64 12000, .int .i64 2000, .int .i64 0, .int .i64 5, .int .i64 0, .int .i64 0, .int .i64 500, .int .i64 500, .int .i64 3, .int .i64 7, .int .i64 0, .int .i64 9, .int .i64 500, .int .i64 500, .int .i64 0, .int .i64 8, .int .i64 0, .int .i64 0, .int .i64 12000, .int .i64 2000, .int .i64 5] 29 (0, 0))] :: [(g1, .cells #[.int .i64 500, .int .i64 30000, .int .i64 200, .int .i64 0, .int .i64 0, .int .i64 0] 52 (0, 0))] :: L)) (Own.lit (r := rInt) (e := 3) (g := g7) (xs := [0, 1, 3]) (cs := [.int .i64 0, .int .i64 1, .int .i64 3]) (css := [[.int .i64 0], [.int .i64 1], [.int .i64 3]]) rfl (All2.cons (rfl) (All2.cons (rfl) (All2.cons (rfl) (All2.nil)))) rfl rfl) 0 rfl) hx9 (?_)
                  refine P_some rfl (O_cons (O_read rfl (R_pick_T rfl hc9 rfl (P_some rfl (O_cons (O_read rfl (R_move rfl (P_some rfl ?_))))))))
                  refine O_gv (z := r12) rfl rfl (fun hc10 => ?_) (fun hc10 => ?_)
                  · replace h882 := cond_t hc10 h882
                    refine O_read rfl (R_move rfl (P_some rfl (O_gY rfl rfl hc10 (O_read rfl (R_eqlD rfl rfl (P_some rfl (O_cons (O_read rfl (R_pick_T rfl hc10 rfl (P_some rfl (O_cons (O_read rfl (R_move rfl ?_)))))))))))))
                    apply P_some; exact rfl
                    refine O_gv (z := (decide (r10 = 0))) rfl rfl (fun hc11 => ?_) (fun hc11 => ?_)
                    · replace h882 := cond_t hc11 h882
                      refine O_read rfl (R_loadA rfl rfl rfl rfl (LA_ (vs := [.int .i64 r9.Lo, .int .i64 r9.Hi]) 2 0 rfl rfl rfl rfl (P_some rfl (O_gY rfl rfl hc11 (O_read rfl (R_loadA rfl rfl rfl rfl (LA_ (vs := [.int .i64 r1.Lo, .int .i64 r1.Hi]) 6 0 rfl rfl rfl rfl (P_some rfl (O_gY rfl rfl hc11 (O_read rfl (R_agg rfl rfl (Ex.mk _ (eqRun_T_api_Span r9 r1) (P_some rfl ?_)))))))))))))
                      refine O_cons (O_read rfl (R_pick_T rfl hc11 rfl (P_some rfl (O_cons (O_read rfl (R_move rfl (P_some rfl ?_)))))))
                      refine O_gv (z := (decide (r9 = r1))) rfl rfl (fun hc12 => ?_) (fun hc12 => ?_)
                      · replace h882 := cond_t hc12 h882
                        refine O_read rfl (R_move rfl (P_some rfl (O_gY rfl rfl hc12 (O_read rfl (R_move rfl (P_some rfl (O_gY rfl rfl hc12 (O_call (all := [.slice (some ⟨g1, 0, none⟩) 1 1, .slice (some ⟨g2, 0, none⟩) 4 4]) rfl rfl rfl ?_))))))))
                        obtain ⟨r13, hx10, h882⟩ := obind h882
                        refine ticket_Check_fn (lenLit (c := 1) rfl rfl) (Own.rds (L := ([(g7, .cells #[.int .i64 0, .int .i64 1, .int .i64 3] 3 (0, 0))] :: [(g6, .cells #[.int .i64 2, .int .i64 3] 3 (0, 0))] :: [(g5, .cells #[.int .i64 r9.Lo, .int .i64 r9.Hi] 31 (0, 0))] :: ch2 :: ch1 :: [(g4, .cells #[.int .i64 r3.Lo, .int .i64 r3.Hi] 31 (0, 0))] :: [(g3, .cells #[.int .i64 r1.Lo, .int .i64 r1.Hi] 31 (0, 0))] :: [(g2, .cells #[.int .i64 3, .int .i64 0, .int .i64 0, .int .i64 12000, .int .i64 2000, .int .i64 0, .int .i64 5, .int .i64 0, .int .i64 0, .int .i64 500, .int .i64 500, .int .i64 3, .int .i64 7, .int .i64 0, .int .i64 9, .int .i64 500, .int .i64 500, .int .i64 0, .int .i64 8, .int .i64 0, .int .i64 0, .int .i64 12000, .int .i64 2000, .int .i64 5] 29 (0, 0))] :: [(g1, .cells #[.int .i64 500, .int .i64 30000, .int .i64 200, .int .i64 0, .int .i64 0, .int .i64 0] 52 (0, 0))] :: L)) (Own.lit (r := r_api_Scale) (e := 52) (g := g1) (xs := [(T_api_Scale.mk 500 30000 200 0 0 0)]) (cs := [.int .i64 500, .int .i64 30000, .int .i64 200, .int .i64 0, .int .i64 0, .int .i64 0]) (css := [[.int .i64 500, .int .i64 30000, .int .i64 200, .int .i64 0, .int .i64 0, .int .i64 0]]) rfl (All2.cons (rfl) (All2.nil)) rfl rfl) 8 rfl) (lenLit (c := 4) rfl rfl) (Own.rds (L := ([(g7, .cells #[.int .i64 0, .int .i64 1, .int .i64 3] 3 (0, 0))] :: [(g6, .cells #[.int .i64 2, .int .i64 3] 3 (0, 0))] :: [(g5, .cells #[.int .i64 r9.Lo, .int .i64 r9.Hi] 31 (0, 0))] :: ch2 :: ch1 :: [(g4, .cells #[.int .i64 r3.Lo, .int .i64 r3.Hi] 31 (0, 0))] :: [(g3, .cells #[.int .i64 r1.Lo, .int .i64 r1.Hi] 31 (0, 0))] :: [(g2, .cells #[.int .i64 3, .int .i64 0, .int .i64 0, .int .i64 12000, .int .i64 2000, .int .i64 0, .int .i64 5, .int .i64 0, .int .i64 0, .int .i64 500, .int .i64 500, .int .i64 3, .int .i64 7, .int .i64 0, .int .i64 9, .int .i64 500, .int .i64 500, .int .i64 0, .int .i64 8, .int .i64 0, .int .i64 0, .int .i64 12000, .int .i64 2000, .int .i64 5] 29 (0, 0))] :: [(g1, .cells #[.int .i64 500, .int .i64 30000, .int .i64 200, .int .i64 0, .int .i64 0, .int .i64 0] 52 (0, 0))] :: L)) (Own.lit (r := r_api_Ticket) (e := 29) (g := g2) (xs := [(T_api_Ticket.mk 3 0 0 12000 2000 0), (T_api_Ticket.mk 5 0 0 500 500 3), (T_api_Ticket.mk 7 0 9 500 500 0), (T_api_Ticket.mk 8 0 0 12000 2000 5)]) (cs := [.int .i64 3, .int .i64 0, .int .i64 0, .int .i64 12000, .int .i64 2000, .int .i64 0, .int .i64 5, .int .i64 0, .int .i64 0, .int .i64 500, .int .i64 500, .int .i64 3, .int .i64 7, .int .i64 0, .int .i64 9, .int .i64 500, .int .i64 500, .int .i64 0, .int .i64 8, .int .i64 0, .int .i64 0, .int .i64 12000, .int .i64 2000, .int .i64 5]) (css := [[.int .i64 3, .int .i64 0, .int .i64 0, .int .i64 12000, .int .i64 2000, .int .i64 0], [.int .i64 5, .int .i64 0, .int .i64 0, .int .i64 500, .int .i64 500, .int .i64 3], [.int .i64 7, .int .i64 0, .int .i64 9, .int .i64 500, .int .i64 500, .int .i64 0], [.int .i64 8, .int .i64 0, .int .i64 0, .int .i64 12000, .int .i64 2000, .int .i64 5]]) rfl (All2.cons (rfl) (All2.cons (rfl) (All2.cons (rfl) (All2.cons (rfl) (All2.nil))))) rfl rfl) 7 rfl) hx10 (?_)
                        refine P_some rfl (O_gY rfl rfl hc12 (O_read rfl (R_eqlD rfl rfl (P_some rfl (O_cons (O_read rfl (R_pick_T rfl hc12 rfl (P_some rfl (O_cons (O_read rfl (R_assign rfl (P_some rfl (O_nil ?_)))))))))))))
                        have e_ := Option.some.inj h882
                        subst e_
                        exact ⟨(decide (r13 = 0)), rfl, SubFr.of ⟨rfl, trivial⟩, SegSub.sel _ [] 9, rfl⟩
                      replace h882 := cond_f hc12 h882
                      refine P_some rfl (O_gN rfl rfl hc12 (P_some rfl (O_gN rfl rfl hc12 (P_some rfl (O_gN rfl rfl hc12 (P_some rfl (O_cons (O_read rfl (R_pick_F rfl hc12 rfl (P_some rfl (O_cons (O_read rfl (R_assign rfl ?_)))))))))))))
                      refine P_some rfl (O_nil ?_)
                      have e_ := Option.some.inj h882
                      subst e_
                      exact ⟨false, rfl, SubFr.of ⟨rfl, trivial⟩, SegSub.sel _ [] 9, rfl⟩
                    replace h882 := cond_f hc11 h882
                    refine P_some rfl (O_gN rfl rfl hc11 (P_some rfl (O_gN rfl rfl hc11 (P_some rfl (O_cons (O_read rfl (R_pick_F rfl hc11 rfl (P_some rfl (O_cons (O_read rfl (R_move rfl (P_some rfl (O_gN rfl rfl rfl ?_)))))))))))))
                    refine P_some rfl (O_gN rfl rfl rfl (P_some rfl (O_gN rfl rfl rfl (P_some rfl (O_gN rfl rfl rfl (P_some rfl (O_cons (O_read rfl (R_pick_F rfl rfl rfl (P_some rfl (O_cons (O_read rfl (R_assign rfl ?_)))))))))))))
                    refine P_some rfl (O_nil ?_)
                    have e_ := Option.some.inj h882
                    subst e_
                    exact ⟨false, rfl, SubFr.of ⟨rfl, trivial⟩, SegSub.sel _ [] 9, rfl⟩
                  replace h882 := cond_f hc10 h882
                  refine P_some rfl (O_gN rfl rfl hc10 (P_some rfl (O_cons (O_read rfl (R_pick_F rfl hc10 rfl (P_some rfl (O_cons (O_read rfl (R_move rfl (P_some rfl (O_gN rfl rfl rfl (P_some rfl (O_gN rfl rfl rfl ?_)))))))))))))
                  refine P_some rfl (O_gN rfl rfl rfl (P_some rfl (O_cons (O_read rfl (R_pick_F rfl rfl rfl (P_some rfl (O_cons (O_read rfl (R_move rfl (P_some rfl (O_gN rfl rfl rfl (P_some rfl (O_gN rfl rfl rfl ?_)))))))))))))
                  refine P_some rfl (O_gN rfl rfl rfl (P_some rfl (O_gN rfl rfl rfl (P_some rfl (O_cons (O_read rfl (R_pick_F rfl rfl rfl (P_some rfl (O_cons (O_read rfl (R_assign rfl (P_some rfl (O_nil ?_)))))))))))))
                  have e_ := Option.some.inj h882
                  subst e_
                  exact ⟨false, rfl, SubFr.of ⟨rfl, trivial⟩, SegSub.sel _ [] 9, rfl⟩
                replace h882 := cond_f hc9 h882
                refine P_some rfl (O_gN rfl rfl hc9 (P_some rfl (O_gN rfl rfl hc9 (P_some rfl (O_cons (O_read rfl (R_pick_F rfl hc9 rfl (P_some rfl (O_cons (O_read rfl (R_move rfl (P_some rfl (O_gN rfl rfl rfl ?_)))))))))))))
                refine P_some rfl (O_gN rfl rfl rfl (P_some rfl (O_cons (O_read rfl (R_pick_F rfl rfl rfl (P_some rfl (O_cons (O_read rfl (R_move rfl (P_some rfl (O_gN rfl rfl rfl (P_some rfl (O_gN rfl rfl rfl ?_)))))))))))))
                refine P_some rfl (O_gN rfl rfl rfl (P_some rfl (O_cons (O_read rfl (R_pick_F rfl rfl rfl (P_some rfl (O_cons (O_read rfl (R_move rfl (P_some rfl (O_gN rfl rfl rfl (P_some rfl (O_gN rfl rfl rfl ?_)))))))))))))
                refine P_some rfl (O_gN rfl rfl rfl (P_some rfl (O_gN rfl rfl rfl (P_some rfl (O_cons (O_read rfl (R_pick_F rfl rfl rfl (P_some rfl (O_cons (O_read rfl (R_assign rfl (P_some rfl (O_nil ?_)))))))))))))
                have e_ := Option.some.inj h882
                subst e_
                exact ⟨false, rfl, SubFr.of ⟨rfl, trivial⟩, SegSub.sel _ [] 8, rfl⟩
              replace h882 := cond_f hc8 h882
              refine P_some rfl (O_gN rfl rfl hc8 (P_some rfl (O_cons (O_read rfl (R_pick_F rfl hc8 rfl (P_some rfl (O_cons (O_read rfl (R_move rfl (P_some rfl (O_gN rfl rfl rfl (P_some rfl (O_gN rfl rfl rfl ?_)))))))))))))
              refine P_some rfl (O_gN rfl rfl rfl (P_some rfl (O_cons (O_read rfl (R_pick_F rfl rfl rfl (P_some rfl (O_cons (O_read rfl (R_move rfl (P_some rfl (O_gN rfl rfl rfl (P_some rfl (O_gN rfl rfl rfl ?_)))))))))))))
              refine P_some rfl (O_cons (O_read rfl (R_pick_F rfl rfl rfl (P_some rfl (O_cons (O_read rfl (R_move rfl (P_some rfl (O_gN rfl rfl rfl (P_some rfl (O_gN rfl rfl rfl (P_some rfl (O_gN rfl rfl rfl ?_)))))))))))))
              refine P_some rfl (O_cons (O_read rfl (R_pick_F rfl rfl rfl (P_some rfl (O_cons (O_read rfl (R_move rfl (P_some rfl (O_gN rfl rfl rfl (P_some rfl (O_gN rfl rfl rfl (P_some rfl (O_gN rfl rfl rfl ?_)))))))))))))
              refine P_some rfl (O_gN rfl rfl rfl (P_some rfl (O_cons (O_read rfl (R_pick_F rfl rfl rfl (P_some rfl (O_cons (O_read rfl (R_assign rfl (P_some rfl (O_nil ?_)))))))))))
              have e_ := Option.some.inj h882
              subst e_
              exact ⟨false, rfl, SubFr.of ⟨rfl, trivial⟩, SegSub.sel _ [] 8, rfl⟩
            replace h882 := cond_f hc7 h882
            refine P_some rfl (O_gN rfl rfl hc7 (P_some rfl (O_gN rfl rfl hc7 (P_some rfl (O_cons (O_read rfl (R_pick_F rfl hc7 rfl (P_some rfl (O_cons (O_read rfl (R_move rfl (P_some rfl (O_gN rfl rfl rfl ?_)))))))))))))
            refine P_some rfl (O_gN rfl rfl rfl (P_some rfl (O_cons (O_read rfl (R_pick_F rfl rfl rfl (P_some rfl (O_cons (O_read rfl (R_move rfl (P_some rfl (O_gN rfl rfl rfl (P_some rfl (O_gN rfl rfl rfl ?_)))))))))))))
            refine P_some rfl (O_gN rfl rfl rfl (P_some rfl (O_cons (O_read rfl (R_pick_F rfl rfl rfl (P_some rfl (O_cons (O_read rfl (R_move rfl (P_some rfl (O_gN rfl rfl rfl (P_some rfl (O_gN rfl rfl rfl ?_)))))))))))))
            refine P_some rfl (O_cons (O_read rfl (R_pick_F rfl rfl rfl (P_some rfl (O_cons (O_read rfl (R_move rfl (P_some rfl (O_gN rfl rfl rfl (P_some rfl (O_gN rfl rfl rfl (P_some rfl (O_gN rfl rfl rfl ?_)))))))))))))
            refine P_some rfl (O_cons (O_read rfl (R_pick_F rfl rfl rfl (P_some rfl (O_cons (O_read rfl (R_move rfl (P_some rfl (O_gN rfl rfl rfl (P_some rfl (O_gN rfl rfl rfl (P_some rfl (O_gN rfl rfl rfl ?_)))))))))))))
            refine P_some rfl (O_gN rfl rfl rfl (P_some rfl (O_cons (O_read rfl (R_pick_F rfl rfl rfl (P_some rfl (O_cons (O_read rfl (R_assign rfl (P_some rfl (O_nil ?_)))))))))))
            have e_ := Option.some.inj h882
            subst e_
            exact ⟨false, rfl, SubFr.of ⟨rfl, trivial⟩, SegSub.sel _ [] 7, rfl⟩
          replace h882 := cond_f hc6 h882
          refine P_some rfl (O_gN rfl rfl hc6 (P_some rfl (O_cons (O_read rfl (R_pick_F rfl hc6 rfl (P_some rfl (O_cons (O_read rfl (R_move rfl (P_some rfl (O_gN rfl rfl rfl (P_some rfl (O_gN rfl rfl rfl ?_)))))))))))))
          refine P_some rfl (O_gN rfl rfl rfl (P_some rfl (O_cons (O_read rfl (R_pick_F rfl rfl rfl (P_some rfl (O_cons (O_read rfl (R_move rfl (P_some rfl (O_gN rfl rfl rfl (P_some rfl (O_gN rfl rfl rfl ?_)))))))))))))
          refine P_some rfl (O_cons (O_read rfl (R_pick_F rfl rfl rfl (P_some rfl (O_cons (O_read rfl (R_move rfl (P_some rfl (O_gN rfl rfl rfl (P_some rfl (O_gN rfl rfl rfl (P_some rfl (O_gN rfl rfl rfl ?_)))))))))))))
          refine P_some rfl (O_cons (O_read rfl (R_pick_F rfl rfl rfl (P_some rfl (O_cons (O_read rfl (R_move rfl (P_some rfl (O_gN rfl rfl rfl (P_some rfl (O_gN rfl rfl rfl (P_some rfl (O_cons ?_)))))))))))))
          refine O_read rfl (R_pick_F rfl rfl rfl (P_some rfl (O_cons (O_read rfl (R_move rfl (P_some rfl (O_gN rfl rfl rfl (P_some rfl (O_gN rfl rfl rfl (P_some rfl (O_gN rfl rfl rfl (P_some rfl (O_cons ?_)))))))))))))
          refine O_read rfl (R_pick_F rfl rfl rfl (P_some rfl (O_cons (O_read rfl (R_move rfl (P_some rfl (O_gN rfl rfl rfl (P_some rfl (O_gN rfl rfl rfl (P_some rfl (O_gN rfl rfl rfl (P_some rfl (O_gN rfl rfl rfl ?_)))))))))))))
          refine P_some rfl (O_cons (O_read rfl (R_pick_F rfl rfl rfl (P_some rfl (O_cons (O_read rfl (R_assign rfl (P_some rfl (O_nil ?_)))))))))
          have e_ := Option.some.inj h882
          subst e_
          exact ⟨false, rfl, SubFr.of ⟨rfl, trivial⟩, SegSub.sel _ [] 7, rfl⟩
        replace h882 := cond_f hc5 h882
        refine P_some rfl (O_gN rfl rfl hc5 (P_some rfl (O_gN rfl rfl hc5 (P_some rfl (O_cons (O_read rfl (R_pick_F rfl hc5 rfl (P_some rfl (O_cons (O_read rfl (R_move rfl (P_some rfl (O_gN rfl rfl rfl ?_)))))))))))))
        refine P_some rfl (O_gN rfl rfl rfl (P_some rfl (O_cons (O_read rfl (R_pick_F rfl rfl rfl (P_some rfl (O_cons (O_read rfl (R_move rfl (P_some rfl (O_gN rfl rfl rfl (P_some rfl (O_gN rfl rfl rfl ?_)))))))))))))
        refine P_some rfl (O_gN rfl rfl rfl (P_some rfl (O_cons (O_read rfl (R_pick_F rfl rfl rfl (P_some rfl (O_cons (O_read rfl (R_move rfl (P_some rfl (O_gN rfl rfl rfl (P_some rfl (O_gN rfl rfl rfl ?_)))))))))))))
        refine P_some rfl (O_cons (O_read rfl (R_pick_F rfl rfl rfl (P_some rfl (O_cons (O_read rfl (R_move rfl (P_some rfl (O_gN rfl rfl rfl (P_some rfl (O_gN rfl rfl rfl (P_some rfl (O_gN rfl rfl rfl ?_)))))))))))))
        refine P_some rfl (O_cons (O_read rfl (R_pick_F rfl rfl rfl (P_some rfl (O_cons (O_read rfl (R_move rfl (P_some rfl (O_gN rfl rfl rfl (P_some rfl (O_gN rfl rfl rfl (P_some rfl (O_cons ?_)))))))))))))
        refine O_read rfl (R_pick_F rfl rfl rfl (P_some rfl (O_cons (O_read rfl (R_move rfl (P_some rfl (O_gN rfl rfl rfl (P_some rfl (O_gN rfl rfl rfl (P_some rfl (O_gN rfl rfl rfl (P_some rfl (O_cons ?_)))))))))))))
        refine O_read rfl (R_pick_F rfl rfl rfl (P_some rfl (O_cons (O_read rfl (R_move rfl (P_some rfl (O_gN rfl rfl rfl (P_some rfl (O_gN rfl rfl rfl (P_some rfl (O_gN rfl rfl rfl (P_some rfl (O_gN rfl rfl rfl ?_)))))))))))))
        refine P_some rfl (O_cons (O_read rfl (R_pick_F rfl rfl rfl (P_some rfl (O_cons (O_read rfl (R_assign rfl (P_some rfl (O_nil ?_)))))))))
        have e_ := Option.some.inj h882
        subst e_
        exact ⟨false, rfl, SubFr.of ⟨rfl, trivial⟩, SegSub.sel _ [] 7, rfl⟩
      replace h882 := cond_f hc4 h882
      refine P_some rfl (O_gN rfl rfl hc4 (P_some rfl (O_cons (O_read rfl (R_pick_F rfl hc4 rfl (P_some rfl (O_cons (O_read rfl (R_move rfl (P_some rfl (O_gN rfl rfl rfl (P_some rfl (O_gN rfl rfl rfl ?_)))))))))))))
      refine P_some rfl (O_gN rfl rfl rfl (P_some rfl (O_cons (O_read rfl (R_pick_F rfl rfl rfl (P_some rfl (O_cons (O_read rfl (R_move rfl (P_some rfl (O_gN rfl rfl rfl (P_some rfl (O_gN rfl rfl rfl ?_)))))))))))))
      refine P_some rfl (O_cons (O_read rfl (R_pick_F rfl rfl rfl (P_some rfl (O_cons (O_read rfl (R_move rfl (P_some rfl (O_gN rfl rfl rfl (P_some rfl (O_gN rfl rfl rfl (P_some rfl (O_gN rfl rfl rfl ?_)))))))))))))
      refine P_some rfl (O_cons (O_read rfl (R_pick_F rfl rfl rfl (P_some rfl (O_cons (O_read rfl (R_move rfl (P_some rfl (O_gN rfl rfl rfl (P_some rfl (O_gN rfl rfl rfl (P_some rfl (O_cons ?_)))))))))))))
      refine O_read rfl (R_pick_F rfl rfl rfl (P_some rfl (O_cons (O_read rfl (R_move rfl (P_some rfl (O_gN rfl rfl rfl (P_some rfl (O_gN rfl rfl rfl (P_some rfl (O_gN rfl rfl rfl (P_some rfl (O_cons ?_)))))))))))))
      refine O_read rfl (R_pick_F rfl rfl rfl (P_some rfl (O_cons (O_read rfl (R_move rfl (P_some rfl (O_gN rfl rfl rfl (P_some rfl (O_gN rfl rfl rfl (P_some rfl (O_cons (O_read rfl (R_pick_F rfl rfl rfl ?_)))))))))))))
      refine P_some rfl (O_cons (O_read rfl (R_move rfl (P_some rfl (O_gN rfl rfl rfl (P_some rfl (O_gN rfl rfl rfl (P_some rfl (O_gN rfl rfl rfl (P_some rfl (O_cons (O_read rfl (R_pick_F rfl rfl rfl ?_)))))))))))))
      refine P_some rfl (O_cons (O_read rfl (R_move rfl (P_some rfl (O_gN rfl rfl rfl (P_some rfl (O_gN rfl rfl rfl (P_some rfl (O_gN rfl rfl rfl (P_some rfl (O_gN rfl rfl rfl (P_some rfl (O_cons ?_)))))))))))))
      refine O_read rfl (R_pick_F rfl rfl rfl (P_some rfl (O_cons (O_read rfl (R_assign rfl (P_some rfl (O_nil ?_)))))))
      have e_ := Option.some.inj h882
      subst e_
      exact ⟨false, rfl, SubFr.of ⟨rfl, trivial⟩, SegSub.sel _ [] 7, rfl⟩
    replace h882 := cond_f hc3 h882
    refine P_some rfl (O_gN rfl rfl hc3 (P_some rfl (O_gN rfl rfl hc3 (P_some rfl (O_cons (O_read rfl (R_pick_F rfl hc3 rfl (P_some rfl (O_cons (O_read rfl (R_move rfl (P_some rfl (O_gN rfl rfl rfl ?_)))))))))))))
    refine P_some rfl (O_gN rfl rfl rfl (P_some rfl (O_cons (O_read rfl (R_pick_F rfl rfl rfl (P_some rfl (O_cons (O_read rfl (R_move rfl (P_some rfl (O_gN rfl rfl rfl (P_some rfl (O_gN rfl rfl rfl ?_)))))))))))))
    refine P_some rfl (O_gN rfl rfl rfl (P_some rfl (O_cons (O_read rfl (R_pick_F rfl rfl rfl (P_some rfl (O_cons (O_read rfl (R_move rfl (P_some rfl (O_gN rfl rfl rfl (P_some rfl (O_gN rfl rfl rfl ?_)))))))))))))
    refine P_some rfl (O_cons (O_read rfl (R_pick_F rfl rfl rfl (P_some rfl (O_cons (O_read rfl (R_move rfl (P_some rfl (O_gN rfl rfl rfl (P_some rfl (O_gN rfl rfl rfl (P_some rfl (O_gN rfl rfl rfl ?_)))))))))))))
    refine P_some rfl (O_cons (O_read rfl (R_pick_F rfl rfl rfl (P_some rfl (O_cons (O_read rfl (R_move rfl (P_some rfl (O_gN rfl rfl rfl (P_some rfl (O_gN rfl rfl rfl (P_some rfl (O_cons ?_)))))))))))))
    refine O_read rfl (R_pick_F rfl rfl rfl (P_some rfl (O_cons (O_read rfl (R_move rfl (P_some rfl (O_gN rfl rfl rfl (P_some rfl (O_gN rfl rfl rfl (P_some rfl (O_gN rfl rfl rfl (P_some rfl (O_cons ?_)))))))))))))
    refine O_read rfl (R_pick_F rfl rfl rfl (P_some rfl (O_cons (O_read rfl (R_move rfl (P_some rfl (O_gN rfl rfl rfl (P_some rfl (O_gN rfl rfl rfl (P_some rfl (O_cons (O_read rfl (R_pick_F rfl rfl rfl ?_)))))))))))))
    refine P_some rfl (O_cons (O_read rfl (R_move rfl (P_some rfl (O_gN rfl rfl rfl (P_some rfl (O_gN rfl rfl rfl (P_some rfl (O_gN rfl rfl rfl (P_some rfl (O_cons (O_read rfl (R_pick_F rfl rfl rfl ?_)))))))))))))
    refine P_some rfl (O_cons (O_read rfl (R_move rfl (P_some rfl (O_gN rfl rfl rfl (P_some rfl (O_gN rfl rfl rfl (P_some rfl (O_gN rfl rfl rfl (P_some rfl (O_gN rfl rfl rfl (P_some rfl (O_cons ?_)))))))))))))
    refine O_read rfl (R_pick_F rfl rfl rfl (P_some rfl (O_cons (O_read rfl (R_assign rfl (P_some rfl (O_nil ?_)))))))
    have e_ := Option.some.inj h882
    subst e_
    exact ⟨false, rfl, SubFr.of ⟨rfl, trivial⟩, SegSub.sel _ [] 7, rfl⟩
  rintro fr882 μ882 L882 hm882 ⟨v1, ho882, hF882, hS882, hu882⟩
  subst ho882
  subst hu882
  refine hK881 _ _ _ (WP.at hF882 hS882 (WP.ret ?_))
  have e_ := Option.some.inj h
  subst e_
  refine S_tmp rfl (S_nil (Upd.selS [] 0 ?_))
  exact Upd.done hR

theorem recyclingref26_Check_fn {μ : Gh} {L : List Seg} {R : Value → Gh → List Seg → Prop}  {s1 : T_api_Scale}  {res1 : Int}
     (h : recyclingref26_Check s1 = some res1)
    (hR : R (.int .i64 res1) μ (L)) :
    Fn Try.prog 44 [.agg #[.int .i64 s1.Step, .int .i64 s1.Max, .int .i64 s1.Base, .int .i64 s1.Slope, .int .i64 s1.Drift, .int .i64 s1.Checked]] μ (L) R := by
  unfold recyclingref26_Check at h
  refine Fn.of_body Tt_ok Try.func44 (by kernel_rfl) rfl Try.ntmps44 (by simp) ?_
  simp only [Try.f44, argFr, List.zipIdx, List.map, Nat.reduceAdd]
  refine WP.seq_k (fun K927 hK927 => WP.region Tt_ok (O_cons (O_box (cs := #[.int .i64 s1.Step, .int .i64 s1.Max, .int .i64 s1.Base, .int .i64 s1.Slope, .int .i64 s1.Drift, .int .i64 s1.Checked]) rfl rfl (fun g1 => P_some rfl (O_cons (O_read rfl (R_assign rfl (P_some rfl (O_nil (hK927 _ _ _ (WP.seq_k (fun K929 hK929 => WP.seq_k (fun K930 hK930 => ?_)))))))))))))
  obtain ⟨o931, h931, h⟩ := obind h
  refine WP.cutK (fun fr_ μ_ L_ => ∃ (v1 : Bool), v1 = o931 ∧ SubFr [(62, .bool v1)] fr_ ∧ SegSub (L) L_ ∧ μ = μ_) ?_ ?_
  · refine WP.region Tt_ok (O_cons (O_read rfl (R_fa0 (o' := 0) rfl rfl rfl rfl rfl rfl (P_some rfl (O_cons (O_read rfl (R_load rfl rfl rfl (Ex.mk _ (Cell.seg 0 0 rfl rfl rfl) (P_some rfl (O_cons (O_read rfl (R_lssD rfl rfl (P_some rfl ?_)))))))))))))
    refine O_cons (O_read rfl (R_move rfl (P_some rfl ?_)))
    refine O_gv (z := (decide (s1.Step < 1))) rfl rfl (fun hc1 => ?_) (fun hc1 => ?_)
    · replace h931 := cond_f hc1 h931
      refine O_read rfl (R_fa0 (o' := 0) rfl rfl rfl rfl rfl rfl (P_some rfl (O_gY rfl rfl hc1 (O_read rfl (R_load rfl rfl rfl (Ex.mk _ (Cell.seg 0 0 rfl rfl rfl) (P_some rfl (O_gY rfl rfl hc1 (O_read rfl (R_gtrD rfl rfl (P_some rfl (O_cons (O_read rfl ?_)))))))))))))
      refine R_pick_F rfl hc1 rfl (P_some rfl (O_cons (O_read rfl (R_move rfl (P_some rfl ?_)))))
      refine O_gv (z := (decide (10000 < s1.Step))) rfl rfl (fun hc2 => ?_) (fun hc2 => ?_)
      · replace h931 := cond_f hc2 h931
        refine O_read rfl (R_fa0 (o' := 1) rfl rfl rfl rfl rfl rfl (P_some rfl (O_gY rfl rfl hc2 (O_read rfl (R_load rfl rfl rfl (Ex.mk _ (Cell.seg 0 0 rfl rfl rfl) (P_some rfl (O_gY rfl rfl hc2 (O_read rfl (R_fa0 (o' := 0) rfl rfl rfl rfl rfl rfl (P_some rfl (O_gY rfl rfl hc2 (O_read rfl ?_)))))))))))))
        refine R_load rfl rfl rfl (Ex.mk _ (Cell.seg 0 0 rfl rfl rfl) (P_some rfl (O_gY rfl rfl hc2 (O_read rfl (R_lssD rfl rfl (P_some rfl (O_cons (O_read rfl (R_pick_F rfl hc2 rfl (P_some rfl (O_cons (O_read rfl (R_move rfl ?_)))))))))))))
        apply P_some; exact rfl
        refine O_gv (z := (decide (s1.Max < s1.Step))) rfl rfl (fun hc3 => ?_) (fun hc3 => ?_)
        · replace h931 := cond_f hc3 h931
          refine O_read rfl (R_fa0 (o' := 1) rfl rfl rfl rfl rfl rfl (P_some rfl (O_gY rfl rfl hc3 (O_read rfl (R_load rfl rfl rfl (Ex.mk _ (Cell.seg 0 0 rfl rfl rfl) (P_some rfl (O_gY rfl rfl hc3 (O_read rfl (R_gtrD rfl rfl (P_some rfl (O_cons (O_read rfl ?_)))))))))))))
          refine R_pick_F rfl hc3 rfl (P_some rfl (O_cons (O_read rfl (R_move rfl (P_some rfl ?_)))))
          refine O_gv (z := (decide (1073741824 < s1.Max))) rfl rfl (fun hc4 => ?_) (fun hc4 => ?_)
          · replace h931 := cond_f hc4 h931
            refine O_read rfl (R_fa0 (o' := 2) rfl rfl rfl rfl rfl rfl (P_some rfl (O_gY rfl rfl hc4 (O_read rfl (R_load rfl rfl rfl (Ex.mk _ (Cell.seg 0 0 rfl rfl rfl) (P_some rfl (O_gY rfl rfl hc4 (O_read rfl (R_lssD rfl rfl (P_some rfl (O_cons (O_read rfl ?_)))))))))))))
            refine R_pick_F rfl hc4 rfl (P_some rfl (O_cons (O_read rfl (R_move rfl (P_some rfl ?_)))))
            refine O_gv (z := (decide (s1.Base < 0))) rfl rfl (fun hc5 => ?_) (fun hc5 => ?_)
            · replace h931 := cond_f hc5 h931
              refine O_read rfl (R_fa0 (o' := 2) rfl rfl rfl rfl rfl rfl (P_some rfl (O_gY rfl rfl hc5 (O_read rfl (R_load rfl rfl rfl (Ex.mk _ (Cell.seg 0 0 rfl rfl rfl) (P_some rfl (O_gY rfl rfl hc5 (O_read rfl (R_gtrD rfl rfl (P_some rfl (O_cons (O_read rfl ?_)))))))))))))
              refine R_pick_F rfl hc5 rfl (P_some rfl (O_cons (O_read rfl (R_move rfl (P_some rfl ?_)))))
              refine O_gv (z := (decide (100000 < s1.Base))) rfl rfl (fun hc6 => ?_) (fun hc6 => ?_)
              · replace h931 := cond_f hc6 h931
                refine O_read rfl (R_fa0 (o' := 3) rfl rfl rfl rfl rfl rfl (P_some rfl (O_gY rfl rfl hc6 (O_read rfl (R_load rfl rfl rfl (Ex.mk _ (Cell.seg 0 0 rfl rfl rfl) (P_some rfl (O_gY rfl rfl hc6 (O_read rfl (R_lssD rfl rfl (P_some rfl (O_cons (O_read rfl ?_)))))))))))))
                refine R_pick_F rfl hc6 rfl (P_some rfl (O_cons (O_read rfl (R_move rfl (P_some rfl ?_)))))
                refine O_gv (z := (decide (s1.Slope < 0))) rfl rfl (fun hc7 => ?_) (fun hc7 => ?_)
                · replace h931 := cond_f hc7 h931
                  refine O_read rfl (R_fa0 (o' := 3) rfl rfl rfl rfl rfl rfl (P_some rfl (O_gY rfl rfl hc7 (O_read rfl (R_load rfl rfl rfl (Ex.mk _ (Cell.seg 0 0 rfl rfl rfl) (P_some rfl (O_gY rfl rfl hc7 (O_read rfl (R_gtrD rfl rfl (P_some rfl (O_cons (O_read rfl ?_)))))))))))))
                  refine R_pick_F rfl hc7 rfl (P_some rfl (O_cons (O_read rfl (R_move rfl (P_some rfl ?_)))))
                  refine O_gv (z := (decide (100 < s1.Slope))) rfl rfl (fun hc8 => ?_) (fun hc8 => ?_)
                  · replace h931 := cond_f hc8 h931
                    refine O_read rfl (R_fa0 (o' := 4) rfl rfl rfl rfl rfl rfl (P_some rfl (O_gY rfl rfl hc8 (O_read rfl (R_load rfl rfl rfl (Ex.mk _ (Cell.seg 0 0 rfl rfl rfl) (P_some rfl (O_gY rfl rfl hc8 (O_read rfl (R_lssD rfl rfl (P_some rfl (O_cons (O_read rfl ?_)))))))))))))
                    refine R_pick_F rfl hc8 rfl (P_some rfl (O_cons (O_read rfl (R_move rfl (P_some rfl ?_)))))
                    refine O_gv (z := (decide (s1.Drift < 0))) rfl rfl (fun hc9 => ?_) (fun hc9 => ?_)
                    · replace h931 := cond_f hc9 h931
                      refine O_read rfl (R_fa0 (o' := 4) rfl rfl rfl rfl rfl rfl (P_some rfl (O_gY rfl rfl hc9 (O_read rfl (R_load rfl rfl rfl (Ex.mk _ (Cell.seg 0 0 rfl rfl rfl) (P_some rfl (O_gY rfl rfl hc9 (O_read rfl (R_gtrD rfl rfl (P_some rfl (O_cons (O_read rfl ?_)))))))))))))
                      refine R_pick_F rfl hc9 rfl (P_some rfl (O_cons (O_read rfl (R_move rfl (P_some rfl ?_)))))
                      refine O_gv (z := (decide (100000 < s1.Drift))) rfl rfl (fun hc10 => ?_) (fun hc10 => ?_)
                      · replace h931 := cond_f hc10 h931
                        refine O_read rfl (R_fa0 (o' := 5) rfl rfl rfl rfl rfl rfl (P_some rfl (O_gY rfl rfl hc10 (O_read rfl (R_load rfl rfl rfl (Ex.mk _ (Cell.seg 0 0 rfl rfl rfl) (P_some rfl (O_gY rfl rfl hc10 (O_read rfl (R_lssD rfl rfl (P_some rfl (O_cons (O_read rfl ?_)))))))))))))
                        refine R_pick_F rfl hc10 rfl (P_some rfl (O_cons (O_read rfl (R_move rfl (P_some rfl ?_)))))
                        refine O_gv (z := (decide (s1.Checked < 0))) rfl rfl (fun hc11 => ?_) (fun hc11 => ?_)
                        · replace h931 := cond_f hc11 h931
                          refine O_read rfl (R_fa0 (o' := 5) rfl rfl rfl rfl rfl rfl (P_some rfl (O_gY rfl rfl hc11 (O_read rfl (R_load rfl rfl rfl (Ex.mk _ (Cell.seg 0 0 rfl rfl rfl) (P_some rfl (O_gY rfl rfl hc11 (O_read rfl (R_gtrD rfl rfl (P_some rfl (O_cons (O_read rfl ?_)))))))))))))
                          refine R_pick_F rfl hc11 rfl (P_some rfl (O_nil ?_))
                          have e_ := Option.some.inj h931
                          subst e_
                          exact ⟨(decide (3155759999 < s1.Checked)), rfl, SubFr.of ⟨rfl, trivial⟩, SegSub.sel _ [] 1, rfl⟩
                        replace h931 := cond_t hc11 h931
                        refine P_some rfl (O_gN rfl rfl hc11 (P_some rfl (O_gN rfl rfl hc11 (P_some rfl (O_cons (O_read rfl (R_pick_T rfl hc11 rfl (P_some rfl (O_nil ?_)))))))))
                        have e_ := Option.some.inj h931
                        subst e_
                        exact ⟨true, rfl, SubFr.of ⟨rfl, trivial⟩, SegSub.sel _ [] 1, rfl⟩
                      replace h931 := cond_t hc10 h931
                      refine P_some rfl (O_gN rfl rfl hc10 (P_some rfl (O_gN rfl rfl hc10 (P_some rfl (O_cons (O_read rfl (R_pick_T rfl hc10 rfl (P_some rfl (O_cons (O_read rfl (R_move rfl (P_some rfl (O_gN rfl rfl rfl ?_)))))))))))))
                      refine P_some rfl (O_gN rfl rfl rfl (P_some rfl (O_gN rfl rfl rfl (P_some rfl (O_cons (O_read rfl (R_pick_T rfl rfl rfl (P_some rfl (O_nil ?_)))))))))
                      have e_ := Option.some.inj h931
                      subst e_
                      exact ⟨true, rfl, SubFr.of ⟨rfl, trivial⟩, SegSub.sel _ [] 1, rfl⟩
                    replace h931 := cond_t hc9 h931
                    refine P_some rfl (O_gN rfl rfl hc9 (P_some rfl (O_gN rfl rfl hc9 (P_some rfl (O_cons (O_read rfl (R_pick_T rfl hc9 rfl (P_some rfl (O_cons (O_read rfl (R_move rfl (P_some rfl (O_gN rfl rfl rfl ?_)))))))))))))
                    refine P_some rfl (O_gN rfl rfl rfl (P_some rfl (O_gN rfl rfl rfl (P_some rfl (O_cons (O_read rfl (R_pick_T rfl rfl rfl (P_some rfl (O_cons (O_read rfl (R_move rfl (P_some rfl (O_gN rfl rfl rfl ?_)))))))))))))
                    refine P_some rfl (O_gN rfl rfl rfl (P_some rfl (O_gN rfl rfl rfl (P_some rfl (O_cons (O_read rfl (R_pick_T rfl rfl rfl (P_some rfl (O_nil ?_)))))))))
                    have e_ := Option.some.inj h931
                    subst e_
                    exact ⟨true, rfl, SubFr.of ⟨rfl, trivial⟩, SegSub.sel _ [] 1, rfl⟩
                  replace h931 := cond_t hc8 h931
                  refine P_some rfl (O_gN rfl rfl hc8 (P_some rfl (O_gN rfl rfl hc8 (P_some rfl (O_cons (O_read rfl (R_pick_T rfl hc8 rfl (P_some rfl (O_cons (O_read rfl (R_move rfl (P_some rfl (O_gN rfl rfl rfl ?_)))))))))))))
                  refine P_some rfl (O_gN rfl rfl rfl (P_some rfl (O_gN rfl rfl rfl (P_some rfl (O_cons (O_read rfl (R_pick_T rfl rfl rfl (P_some rfl (O_cons (O_read rfl (R_move rfl (P_some rfl (O_gN rfl rfl rfl ?_)))))))))))))
                  refine P_some rfl (O_gN rfl rfl rfl (P_some rfl (O_gN rfl rfl rfl (P_some rfl (O_cons (O_read rfl (R_pick_T rfl rfl rfl (P_some rfl (O_cons (O_read rfl (R_move rfl (P_some rfl (O_gN rfl rfl rfl ?_)))))))))))))
                  refine P_some rfl (O_gN rfl rfl rfl (P_some rfl (O_gN rfl rfl rfl (P_some rfl (O_cons (O_read rfl (R_pick_T rfl rfl rfl (P_some rfl (O_nil ?_)))))))))
                  have e_ := Option.some.inj h931
                  subst e_
                  exact ⟨true, rfl, SubFr.of ⟨rfl, trivial⟩, SegSub.sel _ [] 1, rfl⟩
                replace h931 := cond_t hc7 h931
                refine P_some rfl (O_gN rfl rfl hc7 (P_some rfl (O_gN rfl rfl hc7 (P_some rfl (O_cons (O_read rfl (R_pick_T rfl hc7 rfl (P_some rfl (O_cons (O_read rfl (R_move rfl (P_some rfl (O_gN rfl rfl rfl ?_)))))))))))))
                refine P_some rfl (O_gN rfl rfl rfl (P_some rfl (O_gN rfl rfl rfl (P_some rfl (O_cons (O_read rfl (R_pick_T rfl rfl rfl (P_some rfl (O_cons (O_read rfl (R_move rfl (P_some rfl (O_gN rfl rfl rfl ?_)))))))))))))
                refine P_some rfl (O_gN rfl rfl rfl (P_some rfl (O_gN rfl rfl rfl (P_some rfl (O_cons (O_read rfl (R_pick_T rfl rfl rfl (P_some rfl (O_cons (O_read rfl (R_move rfl (P_some rfl (O_gN rfl rfl rfl ?_)))))))))))))
                refine P_some rfl (O_gN rfl rfl rfl (P_some rfl (O_gN rfl rfl rfl (P_some rfl (O_cons (O_read rfl (R_pick_T rfl rfl rfl (P_some rfl (O_cons (O_read rfl (R_move rfl (P_some rfl (O_gN rfl rfl rfl ?_)))))))))))))
                refine P_some rfl (O_gN rfl rfl rfl (P_some rfl (O_gN rfl rfl rfl (P_some rfl (O_cons (O_read rfl (R_pick_T rfl rfl rfl (P_some rfl (O_nil ?_)))))))))
                have e_ := Option.some.inj h931
                subst e_
                exact ⟨true, rfl, SubFr.of ⟨rfl, trivial⟩, SegSub.sel _ [] 1, rfl⟩
              replace h931 := cond_t hc6 h931
              refine P_some rfl (O_gN rfl rfl hc6 (P_some rfl (O_gN rfl rfl hc6 (P_some rfl (O_cons (O_read rfl (R_pick_T rfl hc6 rfl (P_some rfl (O_cons (O_read rfl (R_move rfl (P_some rfl (O_gN rfl rfl rfl ?_)))))))))))))
              refine P_some rfl (O_gN rfl rfl rfl (P_some rfl (O_gN rfl rfl rfl (P_some rfl (O_cons (O_read rfl (R_pick_T rfl rfl rfl (P_some rfl (O_cons (O_read rfl (R_move rfl (P_some rfl (O_gN rfl rfl rfl ?_)))))))))))))
              refine P_some rfl (O_gN rfl rfl rfl (P_some rfl (O_gN rfl rfl rfl (P_some rfl (O_cons (O_read rfl (R_pick_T rfl rfl rfl (P_some rfl (O_cons (O_read rfl (R_move rfl (P_some rfl (O_gN rfl rfl rfl ?_)))))))))))))
              refine P_some rfl (O_gN rfl rfl rfl (P_some rfl (O_gN rfl rfl rfl (P_some rfl (O_cons (O_read rfl (R_pick_T rfl rfl rfl (P_some rfl (O_cons (O_read rfl (R_move rfl (P_some rfl (O_gN rfl rfl rfl ?_)))))))))))))
              refine P_some rfl (O_gN rfl rfl rfl (P_some rfl (O_gN rfl rfl rfl (P_some rfl (O_cons (O_read rfl (R_pick_T rfl rfl rfl (P_some rfl (O_cons (O_read rfl (R_move rfl (P_some rfl (O_gN rfl rfl rfl ?_)))))))))))))
              refine P_some rfl (O_gN rfl rfl rfl (P_some rfl (O_gN rfl rfl rfl (P_some rfl (O_cons (O_read rfl (R_pick_T rfl rfl rfl (P_some rfl (O_nil ?_)))))))))
              have e_ := Option.some.inj h931
              subst e_
              exact ⟨true, rfl, SubFr.of ⟨rfl, trivial⟩, SegSub.sel _ [] 1, rfl⟩
            replace h931 := cond_t hc5 h931
            refine P_some rfl (O_gN rfl rfl hc5 (P_some rfl (O_gN rfl rfl hc5 (P_some rfl (O_cons (O_read rfl (R_pick_T rfl hc5 rfl (P_some rfl (O_cons (O_read rfl (R_move rfl (P_some rfl (O_gN rfl rfl rfl ?_)))))))))))))
            refine P_some rfl (O_gN rfl rfl rfl (P_some rfl (O_gN rfl rfl rfl (P_some rfl (O_cons (O_read rfl (R_pick_T rfl rfl rfl (P_some rfl (O_cons (O_read rfl (R_move rfl (P_some rfl (O_gN rfl rfl rfl ?_)))))))))))))
            refine P_some rfl (O_gN rfl rfl rfl (P_some rfl (O_gN rfl rfl rfl (P_some rfl (O_cons (O_read rfl (R_pick_T rfl rfl rfl (P_some rfl (O_cons (O_read rfl (R_move rfl (P_some rfl (O_gN rfl rfl rfl ?_)))))))))))))
            refine P_some rfl (O_gN rfl rfl rfl (P_some rfl (O_gN rfl rfl rfl (P_some rfl (O_cons (O_read rfl (R_pick_T rfl rfl rfl (P_some rfl (O_cons (O_read rfl (R_move rfl (P_some rfl (O_gN rfl rfl rfl ?_)))))))))))))
            refine P_some rfl (O_gN rfl rfl rfl (P_some rfl (O_gN rfl rfl rfl (P_some rfl (O_cons (O_read rfl (R_pick_T rfl rfl rfl (P_some rfl (O_cons (O_read rfl (R_move rfl (P_some rfl (O_gN rfl rfl rfl ?_)))))))))))))
            refine P_some rfl (O_gN rfl rfl rfl (P_some rfl (O_gN rfl rfl rfl (P_some rfl (O_cons (O_read rfl (R_pick_T rfl rfl rfl (P_some rfl (O_cons (O_read rfl (R_move rfl (P_some rfl (O_gN rfl rfl rfl ?_)))))))))))))
            refine P_some rfl (O_gN rfl rfl rfl (P_some rfl (O_gN rfl rfl rfl (P_some rfl (O_cons (O_read rfl (R_pick_T rfl rfl rfl (P_some rfl (O_nil ?_)))))))))
            have e_ := Option.some.inj h931
            subst e_
            exact ⟨true, rfl, SubFr.of ⟨rfl, trivial⟩, SegSub.sel _ [] 1, rfl⟩
          replace h931 := cond_t hc4 h931
          refine P_some rfl (O_gN rfl rfl hc4 (P_some rfl (O_gN rfl rfl hc4 (P_some rfl (O_cons (O_read rfl (R_pick_T rfl hc4 rfl (P_some rfl (O_cons (O_read rfl (R_move rfl (P_some rfl (O_gN rfl rfl rfl ?_)))))))))))))
          refine P_some rfl (O_gN rfl rfl rfl (P_some rfl (O_gN rfl rfl rfl (P_some rfl (O_cons (O_read rfl (R_pick_T rfl rfl rfl (P_some rfl (O_cons (O_read rfl (R_move rfl (P_some rfl (O_gN rfl rfl rfl ?_)))))))))))))
          refine P_some rfl (O_gN rfl rfl rfl (P_some rfl (O_gN rfl rfl rfl (P_some rfl (O_cons (O_read rfl (R_pick_T rfl rfl rfl (P_some rfl (O_cons (O_read rfl (R_move rfl (P_some rfl (O_gN rfl rfl rfl ?_)))))))))))))
          refine P_some rfl (O_gN rfl rfl rfl (P_some rfl (O_gN rfl rfl rfl (P_some rfl (O_cons (O_read rfl (R_pick_T rfl rfl rfl (P_some rfl (O_cons (O_read rfl (R_move rfl (P_some rfl (O_gN rfl rfl rfl ?_)))))))))))))
          refine P_some rfl (O_gN rfl rfl rfl (P_some rfl (O_gN rfl rfl rfl (P_some rfl (O_cons (O_read rfl (R_pick_T rfl rfl rfl (P_some rfl (O_cons (O_read rfl (R_move rfl (P_some rfl (O_gN rfl rfl rfl ?_)))))))))))))
          refine P_some rfl (O_gN rfl rfl rfl (P_some rfl (O_gN rfl rfl rfl (P_some rfl (O_cons (O_read rfl (R_pick_T rfl rfl rfl (P_some rfl (O_cons (O_read rfl (R_move rfl (P_some rfl (O_gN rfl rfl rfl ?_)))))))))))))
          refine P_some rfl (O_gN rfl rfl rfl (P_some rfl (O_gN rfl rfl rfl (P_some rfl (O_cons (O_read rfl (R_pick_T rfl rfl rfl (P_some rfl (O_cons (O_read rfl (R_move rfl (P_some rfl (O_gN rfl rfl rfl ?_)))))))))))))
          refine P_some rfl (O_gN rfl rfl rfl (P_some rfl (O_gN rfl rfl rfl (P_some rfl (O_cons (O_read rfl (R_pick_T rfl rfl rfl (P_some rfl (O_nil ?_)))))))))
          have e_ := Option.some.inj h931
          subst e_
          exact ⟨true, rfl, SubFr.of ⟨rfl, trivial⟩, SegSub.sel _ [] 1, rfl⟩
        replace h931 := cond_t hc3 h931
        refine P_some rfl (O_gN rfl rfl hc3 (P_some rfl (O_gN rfl rfl hc3 (P_some rfl (O_cons (O_read rfl (R_pick_T rfl hc3 rfl (P_some rfl (O_cons (O_read rfl (R_move rfl (P_some rfl (O_gN rfl rfl rfl ?_)))))))))))))
        refine P_some rfl (O_gN rfl rfl rfl (P_some rfl (O_gN rfl rfl rfl (P_some rfl (O_cons (O_read rfl (R_pick_T rfl rfl rfl (P_some rfl (O_cons (O_read rfl (R_move rfl (P_some rfl (O_gN rfl rfl rfl ?_)))))))))))))
        refine P_some rfl (O_gN rfl rfl rfl (P_some rfl (O_gN rfl rfl rfl (P_some rfl (O_cons (O_read rfl (R_pick_T rfl rfl rfl (P_some rfl (O_cons (O_read rfl (R_move rfl (P_some rfl (O_gN rfl rfl rfl ?_)))))))))))))
        refine P_some rfl (O_gN rfl rfl rfl (P_some rfl (O_gN rfl rfl rfl (P_some rfl (O_cons (O_read rfl (R_pick_T rfl rfl rfl (P_some rfl (O_cons (O_read rfl (R_move rfl (P_some rfl (O_gN rfl rfl rfl ?_)))))))))))))
        refine P_some rfl (O_gN rfl rfl rfl (P_some rfl (O_gN rfl rfl rfl (P_some rfl (O_cons (O_read rfl (R_pick_T rfl rfl rfl (P_some rfl (O_cons (O_read rfl (R_move rfl (P_some rfl (O_gN rfl rfl rfl ?_)))))))))))))
        refine P_some rfl (O_gN rfl rfl rfl (P_some rfl (O_gN rfl rfl rfl (P_some rfl (O_cons (O_read rfl (R_pick_T rfl rfl rfl (P_some rfl (O_cons (O_read rfl (R_move rfl (P_some rfl (O_gN rfl rfl rfl ?_)))))))))))))
        refine P_some rfl (O_gN rfl rfl rfl (P_some rfl (O_gN rfl rfl rfl (P_some rfl (O_cons (O_read rfl (R_pick_T rfl rfl rfl (P_some rfl (O_cons (O_read rfl (R_move rfl (P_some rfl (O_gN rfl rfl rfl ?_)))))))))))))
        refine P_some rfl (O_gN rfl rfl rfl (P_some rfl (O_gN rfl rfl rfl (P_some rfl (O_cons (O_read rfl (R_pick_T rfl rfl rfl (P_some rfl (O_cons (O_read rfl (R_move rfl (P_some rfl (O_gN rfl rfl rfl ?_)))))))))))))
        refine P_some rfl (O_gN rfl rfl rfl (P_some rfl (O_gN rfl rfl rfl (P_some rfl (O_cons (O_read rfl (R_pick_T rfl rfl rfl (P_some rfl (O_nil ?_)))))))))
        have e_ := Option.some.inj h931
        subst e_
        exact ⟨true, rfl, SubFr.of ⟨rfl, trivial⟩, SegSub.sel _ [] 1, rfl⟩
      replace h931 := cond_t hc2 h931
      refine P_some rfl (O_gN rfl rfl hc2 (P_some rfl (O_gN rfl rfl hc2 (P_some rfl (O_gN rfl rfl hc2 (P_some rfl (O_gN rfl rfl hc2 (P_some rfl (O_cons (O_read rfl (R_pick_T rfl hc2 rfl (P_some rfl (O_cons ?_)))))))))))))
      refine O_read rfl (R_move rfl (P_some rfl (O_gN rfl rfl rfl (P_some rfl (O_gN rfl rfl rfl (P_some rfl (O_gN rfl rfl rfl (P_some rfl (O_cons (O_read rfl (R_pick_T rfl rfl rfl (P_some rfl (O_cons ?_)))))))))))))
      refine O_read rfl (R_move rfl (P_some rfl (O_gN rfl rfl rfl (P_some rfl (O_gN rfl rfl rfl (P_some rfl (O_gN rfl rfl rfl (P_some rfl (O_cons (O_read rfl (R_pick_T rfl rfl rfl (P_some rfl (O_cons ?_)))))))))))))
      refine O_read rfl (R_move rfl (P_some rfl (O_gN rfl rfl rfl (P_some rfl (O_gN rfl rfl rfl (P_some rfl (O_gN rfl rfl rfl (P_some rfl (O_cons (O_read rfl (R_pick_T rfl rfl rfl (P_some rfl (O_cons ?_)))))))))))))
      refine O_read rfl (R_move rfl (P_some rfl (O_gN rfl rfl rfl (P_some rfl (O_gN rfl rfl rfl (P_some rfl (O_gN rfl rfl rfl (P_some rfl (O_cons (O_read rfl (R_pick_T rfl rfl rfl (P_some rfl (O_cons ?_)))))))))))))
      refine O_read rfl (R_move rfl (P_some rfl (O_gN rfl rfl rfl (P_some rfl (O_gN rfl rfl rfl (P_some rfl (O_gN rfl rfl rfl (P_some rfl (O_cons (O_read rfl (R_pick_T rfl rfl rfl (P_some rfl (O_cons ?_)))))))))))))
      refine O_read rfl (R_move rfl (P_some rfl (O_gN rfl rfl rfl (P_some rfl (O_gN rfl rfl rfl (P_some rfl (O_gN rfl rfl rfl (P_some rfl (O_cons (O_read rfl (R_pick_T rfl rfl rfl (P_some rfl (O_cons ?_)))))))))))))
      refine O_read rfl (R_move rfl (P_some rfl (O_gN rfl rfl rfl (P_some rfl (O_gN rfl rfl rfl (P_some rfl (O_gN rfl rfl rfl (P_some rfl (O_cons (O_read rfl (R_pick_T rfl rfl rfl (P_some rfl (O_cons ?_)))))))))))))
      refine O_read rfl (R_move rfl (P_some rfl (O_gN rfl rfl rfl (P_some rfl (O_gN rfl rfl rfl (P_some rfl (O_gN rfl rfl rfl (P_some rfl (O_cons (O_read rfl (R_pick_T rfl rfl rfl (P_some rfl (O_cons ?_)))))))))))))
      refine O_read rfl (R_move rfl (P_some rfl (O_gN rfl rfl rfl (P_some rfl (O_gN rfl rfl rfl (P_some rfl (O_gN rfl rfl rfl (P_some rfl (O_cons (O_read rfl (R_pick_T rfl rfl rfl (P_some rfl (O_nil ?_)))))))))))))
      have e_ := Option.some.inj h931
      subst e_
      exact ⟨true, rfl, SubFr.of ⟨rfl, trivial⟩, SegSub.sel _ [] 1, rfl⟩
    replace h931 := cond_t hc1 h931
    refine P_some rfl (O_gN rfl rfl hc1 (P_some rfl (O_gN rfl rfl hc1 (P_some rfl (O_cons (O_read rfl (R_pick_T rfl hc1 rfl (P_some rfl (O_cons (O_read rfl (R_move rfl (P_some rfl (O_gN rfl rfl rfl ?_)))))))))))))
    refine P_some rfl (O_gN rfl rfl rfl (P_some rfl (O_gN rfl rfl rfl (P_some rfl (O_gN rfl rfl rfl (P_some rfl (O_gN rfl rfl rfl (P_some rfl (O_cons (O_read rfl (R_pick_T rfl rfl rfl (P_some rfl (O_cons ?_)))))))))))))
    refine O_read rfl (R_move rfl (P_some rfl (O_gN rfl rfl rfl (P_some rfl (O_gN rfl rfl rfl (P_some rfl (O_gN rfl rfl rfl (P_some rfl (O_cons (O_read rfl (R_pick_T rfl rfl rfl (P_some rfl (O_cons ?_)))))))))))))
    refine O_read rfl (R_move rfl (P_some rfl (O_gN rfl rfl rfl (P_some rfl (O_gN rfl rfl rfl (P_some rfl (O_gN rfl rfl rfl (P_some rfl (O_cons (O_read rfl (R_pick_T rfl rfl rfl (P_some rfl (O_cons ?_)))))))))))))
    refine O_read rfl (R_move rfl (P_some rfl (O_gN rfl rfl rfl (P_some rfl (O_gN rfl rfl rfl (P_some rfl (O_gN rfl rfl rfl (P_some rfl (O_cons (O_read rfl (R_pick_T rfl rfl rfl (P_some rfl (O_cons ?_)))))))))))))
    refine O_read rfl (R_move rfl (P_some rfl (O_gN rfl rfl rfl (P_some rfl (O_gN rfl rfl rfl (P_some rfl (O_gN rfl rfl rfl (P_some rfl (O_cons (O_read rfl (R_pick_T rfl rfl rfl (P_some rfl (O_cons ?_)))))))))))))
    refine O_read rfl (R_move rfl (P_some rfl (O_gN rfl rfl rfl (P_some rfl (O_gN rfl rfl rfl (P_some rfl (O_gN rfl rfl rfl (P_some rfl (O_cons (O_read rfl (R_pick_T rfl rfl rfl (P_some rfl (O_cons ?_)))))))))))))
    refine O_read rfl (R_move rfl (P_some rfl (O_gN rfl rfl rfl (P_some rfl (O_gN rfl rfl rfl (P_some rfl (O_gN rfl rfl rfl (P_some rfl (O_cons (O_read rfl (R_pick_T rfl rfl rfl (P_some rfl (O_cons ?_)))))))))))))
    refine O_read rfl (R_move rfl (P_some rfl (O_gN rfl rfl rfl (P_some rfl (O_gN rfl rfl rfl (P_some rfl (O_gN rfl rfl rfl (P_some rfl (O_cons (O_read rfl (R_pick_T rfl rfl rfl (P_some rfl (O_cons ?_)))))))))))))
    refine O_read rfl (R_move rfl (P_some rfl (O_gN rfl rfl rfl (P_some rfl (O_gN rfl rfl rfl (P_some rfl (O_gN rfl rfl rfl (P_some rfl (O_cons (O_read rfl (R_pick_T rfl rfl rfl (P_some rfl (O_cons ?_)))))))))))))
    refine O_read rfl (R_move rfl (P_some rfl (O_gN rfl rfl rfl (P_some rfl (O_gN rfl rfl rfl (P_some rfl (O_gN rfl rfl rfl (P_some rfl (O_cons (O_read rfl (R_pick_T rfl rfl rfl (P_some rfl (O_nil ?_)))))))))))))
    have e_ := Option.some.inj h931
    subst e_
    exact ⟨true, rfl, SubFr.of ⟨rfl, trivial⟩, SegSub.sel _ [] 1, rfl⟩
  rintro fr931 μ931 L931 hm931 ⟨v1, ho931, hF931, hS931, hu931⟩
  subst ho931
  subst hu931
  refine hK930 _ _ _ (WP.at hF931 hS931 ?_)
  refine W_cond_v (b := v1) rfl (fun hc12 => ?_) (fun hc12 => ?_)
  · replace h := cond_t hc12 h
    refine WP.seq_k (fun K932 hK932 => WP.region Tt_ok (O_cons (O_read rfl (R_assign rfl (P_some rfl (O_nil (hK932 _ _ _ (WP.ret ?_))))))))
    have e_ := Option.some.inj h
    subst e_
    refine S_tmp rfl (S_nil (Upd.selS [] 0 ?_))
    exact Upd.done hR
  replace h := cond_f hc12 h
  refine WP.skip (hK929 _ _ _ (WP.seq_k (fun K933 hK933 => WP.region Tt_ok (O_cons (O_read rfl (R_assign rfl (P_some rfl (O_nil (hK933 _ _ _ (WP.ret ?_))))))))))
  have e_ := Option.some.inj h
  subst e_
  refine S_tmp rfl (S_nil (Upd.selS [] 0 ?_))
  exact Upd.done hR

theorem recyclingref27_scales_fn {μ : Gh} {L : List Seg} {R : Value → Gh → List Seg → Prop}  {s1 : (List T_api_Scale)} {A1 : Option Addr} {c1 : Nat} {res1 : Int}
    (hl1 : s1.length ≤ c1 ∧ c1 ≤ maxLen) (hA1 : Rds r_api_Scale μ L A1 s1) (h : recyclingref27_scales s1 = some res1)
    (hR : R (.int .i64 res1) μ (L)) :
    Fn Try.prog 29 [.slice A1 s1.length c1] μ (L) R := by
  unfold recyclingref27_scales at h
  refine Fn.of_body Tt_ok Try.func29 (by kernel_rfl) rfl Try.ntmps29 (by simp) ?_
  simp only [Try.f29, argFr, List.zipIdx, List.map, Nat.reduceAdd]
  refine WP.seq_k (fun K915 hK915 => WP.region Tt_ok (O_cons (O_read rfl (R_assign rfl (P_some rfl (O_nil (hK915 _ _ _ (WP.seq_k (fun K916 hK916 => WP.seq_k (fun K917 hK917 => WP.region Tt_ok (O_cons (O_read rfl (R_move rfl ?_)))))))))))))
  refine P_some rfl (O_cons (O_read rfl (R_lenS rfl rfl rfl (P_some rfl (O_cons (O_read rfl (R_gtrD rfl rfl (P_some rfl (O_nil (hK917 _ _ _ ?_))))))))))
  refine W_cond_v (b := (decide (16 < ((s1.length : Nat) : Int)))) rfl (fun hc1 => ?_) (fun hc1 => ?_)
  · replace h := cond_t hc1 h
    refine WP.seq_k (fun K918 hK918 => WP.region Tt_ok (O_cons (O_read rfl (R_assign rfl (P_some rfl (O_nil (hK918 _ _ _ (WP.ret ?_))))))))
    have e_ := Option.some.inj h
    subst e_
    refine S_tmp rfl (S_nil (Upd.selS [] 0 ?_))
    exact Upd.done hR
  replace h := cond_f hc1 h
  refine WP.skip (hK916 _ _ _ (WP.seq_k (fun K919 hK919 => WP.seq_k (fun K920 hK920 => WP.region Tt_ok (O_cons (O_read rfl (R_assign rfl (P_some rfl (O_nil (hK920 _ _ _ ?_))))))))))
  obtain ⟨o921, h921, h⟩ := obind h
  refine WP.cutK (fun fr_ μ_ L_ => (.inl ()) = o921 ∧ SubFr [] fr_ ∧ SegSub (L) L_ ∧ μ = μ_) ?_ ?_
  · refine WP.block (WP.iter h921 (fun (i1 : Int) fr_ μ_ L_ => SubFr [(0, .slice A1 s1.length c1), (3, .int .i64 i1)] fr_ ∧ SegSub (L) L_ ∧ μ = μ_) ⟨SubFr.of ⟨rfl, rfl, trivial⟩, SegSub.sel _ [] 0, rfl⟩ ?_)
    rintro i1 q936 fr936 μ936 L936 hm936 ⟨hF936, hS936, hu936⟩ hb936 hq936
    unfold recyclingref27_scales_l1 at hb936
    subst hu936
    refine WP.at hF936 hS936 (WP.seq_k (fun K937 hK937 => WP.seq_k (fun K938 hK938 => WP.region Tt_ok (O_cons (O_read rfl (R_move rfl (P_some rfl (O_cons (O_read rfl (R_move rfl (P_some rfl (O_cons (O_read rfl ?_)))))))))))))
    refine R_lenS rfl rfl rfl (P_some rfl (O_cons (O_read rfl (R_lssD rfl rfl (P_some rfl (O_nil (hK938 _ _ _ ?_)))))))
    refine W_cond_v (b := (decide (i1 < ((s1.length : Nat) : Int)))) rfl (fun hc2 => ?_) (fun hc2 => ?_)
    · replace hb936 := cond_t hc2 hb936
      refine WP.skip (hK937 _ _ _ (WP.seq_k (fun K939 hK939 => WP.block (WP.seq_k (fun K940 hK940 => WP.region Tt_ok (O_cons (O_read rfl (R_move rfl (P_some rfl (O_cons (O_read rfl (R_move rfl (P_some rfl ?_)))))))))))))
      apply O_cons
      obtain ⟨x1, hx1, hb936⟩ := obind hb936
      obtain ⟨a1, cs1, hA2, hr1, _, hc3⟩ := Rds.getI hA1 hx1
      obtain rfl := hr1
      refine O_read rfl (R_iaG rfl rfl rfl rfl rfl rfl ⟨(getI_lt hx1).1, (getI_lt hx1).2.1⟩ hA2 (P_some rfl (O_cons (O_read rfl (R_loadA rfl rfl rfl rfl (Ex.mk [.int .i64 x1.Step, .int .i64 x1.Max, .int .i64 x1.Base, .int .i64 x1.Slope, .int .i64 x1.Drift, .int .i64 x1.Checked] ⟨rfl, hc3⟩ (P_some rfl (O_cons (O_call (all := [.agg #[.int .i64 x1.Step, .int .i64 x1.Max, .int .i64 x1.Base, .int .i64 x1.Slope, .int .i64 x1.Drift, .int .i64 x1.Checked]]) rfl rfl rfl ?_)))))))))
      obtain ⟨r1, hx2, hb936⟩ := obind hb936
      refine recyclingref26_Check_fn  hx2 ((P_some rfl (O_cons (O_read rfl (R_assign rfl (P_some rfl (O_nil (hK940 _ _ _ (WP.seq_k (fun K941 hK941 => WP.region Tt_ok (O_cons (O_read rfl (R_move rfl (P_some rfl ?_))))))))))))))
      refine O_cons (O_read rfl (R_neqD rfl rfl (P_some rfl (O_nil (hK941 _ _ _ ?_)))))
      refine W_cond_v (b := !(decide (r1 = 0))) rfl (fun hc4 => ?_) (fun hc4 => ?_)
      · replace hb936 := cond_t hc4 hb936
        refine WP.seq_k (fun K942 hK942 => WP.region Tt_ok (O_cons (O_read rfl (R_move rfl (P_some rfl (O_cons (O_read rfl (R_assign rfl (P_some rfl (O_nil (hK942 _ _ _ (WP.ret ?_))))))))))))
        have e_ := Option.some.inj hb936
        subst e_
        have hq_ := hq936 _ rfl
        subst hq_
        replace h := osum_r h
        have e_ := Option.some.inj h
        subst e_
        refine S_tmp rfl (S_nil (Upd.selS [] 0 ?_))
        exact Upd.done hR
      replace hb936 := cond_f hc4 hb936
      refine WP.skip (hK939 _ _ _ (WP.region Tt_ok (O_cons (O_read rfl (R_move rfl (P_some rfl (O_cons (O_read rfl (R_add rfl rfl (P_some rfl (O_cons (O_read rfl (R_assign rfl ?_)))))))))))))
      refine P_some rfl (O_nil ?_)
      have e_ := Option.some.inj hb936
      subst e_
      exact ⟨_, rfl, SubFr.of ⟨rfl, rfl, trivial⟩, SegSub.sel _ [] 0, rfl⟩
    replace hb936 := cond_f hc2 hb936
    refine WP.exit (B_here ?_)
    have e_ := Option.some.inj hb936
    subst e_
    have hq_ := hq936 _ rfl
    subst hq_
    exact ⟨rfl, SubFr.of trivial, SegSub.sel _ [] 0, rfl⟩
  rintro fr921 μ921 L921 hm921 ⟨ho921, hF921, hS921, hu921⟩
  subst ho921
  replace h := osum_l h
  subst hu921
  refine hK919 _ _ _ (WP.at hF921 hS921 (WP.seq_k (fun K943 hK943 => WP.region Tt_ok (O_cons (O_read rfl (R_assign rfl (P_some rfl (O_nil (hK943 _ _ _ (WP.ret ?_))))))))))
  have e_ := Option.some.inj h
  subst e_
  refine S_tmp rfl (S_nil (Upd.selS [] 0 ?_))
  exact Upd.done hR

theorem recyclingref26_Showable_fn {μ : Gh} {L : List Seg} {R : Value → Gh → List Seg → Prop}  {s1 : T_api_Scale} {shown1 : Int}  {res1 : Bool}
     (h : recyclingref26_Showable s1 shown1 = some res1)
    (hR : R (.bool res1) μ (L)) :
    Fn Try.prog 45 [.agg #[.int .i64 s1.Step, .int .i64 s1.Max, .int .i64 s1.Base, .int .i64 s1.Slope, .int .i64 s1.Drift, .int .i64 s1.Checked], .int .i64 shown1] μ (L) R := by
  unfold recyclingref26_Showable at h
  refine Fn.of_body Tt_ok Try.func45 (by kernel_rfl) rfl Try.ntmps45 (by simp) ?_
  simp only [Try.f45, argFr, List.zipIdx, List.map, Nat.reduceAdd]
  refine WP.seq_k (fun K986 hK986 => WP.region Tt_ok (O_cons (O_box (cs := #[.int .i64 s1.Step, .int .i64 s1.Max, .int .i64 s1.Base, .int .i64 s1.Slope, .int .i64 s1.Drift, .int .i64 s1.Checked]) rfl rfl (fun g1 => P_some rfl (O_cons (O_read rfl (R_assign rfl (P_some rfl (O_nil (hK986 _ _ _ (WP.seq_k (fun K988 hK988 => ?_))))))))))))
  obtain ⟨o989, h989, h⟩ := obind h
  refine WP.cutK (fun fr_ μ_ L_ => ∃ (v1 : Bool), v1 = o989 ∧ SubFr [(4, .bool v1)] fr_ ∧ SegSub (L) L_ ∧ μ = μ_) ?_ ?_
  · refine WP.region Tt_ok (O_cons (O_read rfl (R_move rfl (P_some rfl (O_cons (O_read rfl (R_geqD rfl rfl (P_some rfl (O_cons (O_read rfl (R_move rfl (P_some rfl ?_))))))))))))
    refine O_gv (z := (decide (0 ≤ shown1))) rfl rfl (fun hc1 => ?_) (fun hc1 => ?_)
    · replace h989 := cond_t hc1 h989
      refine O_read rfl (R_move rfl (P_some rfl (O_gY rfl rfl hc1 (O_read rfl (R_fa0 (o' := 1) rfl rfl rfl rfl rfl rfl (P_some rfl (O_gY rfl rfl hc1 (O_read rfl (R_load rfl rfl rfl (Ex.mk _ (Cell.seg 0 0 rfl rfl rfl) (P_some rfl (O_gY rfl rfl hc1 (O_read rfl ?_)))))))))))))
      refine R_leqD rfl rfl (P_some rfl (O_cons (O_read rfl (R_pick_T rfl hc1 rfl (P_some rfl (O_cons (O_read rfl (R_move rfl (P_some rfl ?_)))))))))
      refine O_gv (z := (decide (shown1 ≤ s1.Max))) rfl rfl (fun hc2 => ?_) (fun hc2 => ?_)
      · replace h989 := cond_t hc2 h989
        refine O_read rfl (R_move rfl (P_some rfl (O_gY rfl rfl hc2 (O_read rfl (R_fa0 (o' := 0) rfl rfl rfl rfl rfl rfl (P_some rfl (O_gY rfl rfl hc2 (O_read rfl (R_load rfl rfl rfl (Ex.mk _ (Cell.seg 0 0 rfl rfl rfl) (P_some rfl (O_gY rfl rfl hc2 (O_read rfl ?_)))))))))))))
        apply R_rem; exact rfl; exact rfl
        obtain ⟨u1, hg1, h989⟩ := obind h989
        refine ⟨guardO_some hg1, ?_⟩
        refine P_some rfl (O_gY rfl rfl hc2 (O_read rfl (R_eqlD rfl rfl (P_some rfl (O_cons (O_read rfl (R_pick_T rfl hc2 rfl (P_some rfl (O_cons (O_read rfl (R_assign rfl (P_some rfl (O_nil ?_)))))))))))))
        have e_ := Option.some.inj h989
        subst e_
        exact ⟨(decide ((Int.tmod shown1 s1.Step) = 0)), rfl, SubFr.of ⟨rfl, trivial⟩, SegSub.sel _ [] 1, rfl⟩
      replace h989 := cond_f hc2 h989
      refine P_some rfl (O_gN rfl rfl hc2 (P_some rfl (O_gN rfl rfl hc2 (P_some rfl (O_gN rfl rfl hc2 (P_some rfl (O_gN rfl rfl hc2 (P_some rfl (O_cons (O_read rfl (R_pick_F rfl hc2 rfl (P_some rfl (O_cons ?_)))))))))))))
      refine O_read rfl (R_assign rfl (P_some rfl (O_nil ?_)))
      have e_ := Option.some.inj h989
      subst e_
      exact ⟨false, rfl, SubFr.of ⟨rfl, trivial⟩, SegSub.sel _ [] 1, rfl⟩
    replace h989 := cond_f hc1 h989
    refine P_some rfl (O_gN rfl rfl hc1 (P_some rfl (O_gN rfl rfl hc1 (P_some rfl (O_gN rfl rfl hc1 (P_some rfl (O_cons (O_read rfl (R_pick_F rfl hc1 rfl (P_some rfl (O_cons (O_read rfl (R_move rfl ?_)))))))))))))
    refine P_some rfl (O_gN rfl rfl rfl (P_some rfl (O_gN rfl rfl rfl (P_some rfl (O_gN rfl rfl rfl (P_some rfl (O_gN rfl rfl rfl (P_some rfl (O_gN rfl rfl rfl (P_some rfl (O_cons (O_read rfl (R_pick_F rfl rfl rfl ?_)))))))))))))
    refine P_some rfl (O_cons (O_read rfl (R_assign rfl (P_some rfl (O_nil ?_)))))
    have e_ := Option.some.inj h989
    subst e_
    exact ⟨false, rfl, SubFr.of ⟨rfl, trivial⟩, SegSub.sel _ [] 1, rfl⟩
  rintro fr989 μ989 L989 hm989 ⟨v1, ho989, hF989, hS989, hu989⟩
  subst ho989
  subst hu989
  refine hK988 _ _ _ (WP.at hF989 hS989 (WP.ret ?_))
  have e_ := Option.some.inj h
  subst e_
  refine S_tmp rfl (S_nil (Upd.selS [] 0 ?_))
  exact Upd.done hR

theorem recyclingref26_moment_fn {μ : Gh} {L : List Seg} {R : Value → Gh → List Seg → Prop}  {s1 : T_api_Scale} {t1 : Int}  {res1 : Int}
     (h : recyclingref26_moment s1 t1 = some res1)
    (hR : R (.int .i64 res1) μ (L)) :
    Fn Try.prog 46 [.agg #[.int .i64 s1.Step, .int .i64 s1.Max, .int .i64 s1.Base, .int .i64 s1.Slope, .int .i64 s1.Drift, .int .i64 s1.Checked], .int .i64 t1] μ (L) R := by
  unfold recyclingref26_moment at h
  refine Fn.of_body Tt_ok Try.func46 (by kernel_rfl) rfl Try.ntmps46 (by simp) ?_
  simp only [Try.f46, argFr, List.zipIdx, List.map, Nat.reduceAdd]
  refine WP.seq_k (fun K997 hK997 => WP.region Tt_ok (O_cons (O_box (cs := #[.int .i64 s1.Step, .int .i64 s1.Max, .int .i64 s1.Base, .int .i64 s1.Slope, .int .i64 s1.Drift, .int .i64 s1.Checked]) rfl rfl (fun g1 => P_some rfl (O_cons (O_read rfl (R_assign rfl (P_some rfl (O_nil (hK997 _ _ _ (WP.seq_k (fun K999 hK999 => WP.seq_k (fun K1000 hK1000 => ?_)))))))))))))
  obtain ⟨o1001, h1001, h⟩ := obind h
  refine WP.cutK (fun fr_ μ_ L_ => ∃ (v1 : Bool), v1 = o1001 ∧ SubFr [(1, .int .i64 t1), (2, .pointer (some ⟨g1, 0, none⟩)), (15, .bool v1)] fr_ ∧ SegSub ([(g1, .cells #[.int .i64 s1.Step, .int .i64 s1.Max, .int .i64 s1.Base, .int .i64 s1.Slope, .int .i64 s1.Drift, .int .i64 s1.Checked] 52 (0, 0))] :: L) L_ ∧ μ = μ_) ?_ ?_
  · refine WP.region Tt_ok (O_cons (O_read rfl (R_loadA rfl rfl rfl rfl (LA_ (vs := [.int .i64 s1.Step, .int .i64 s1.Max, .int .i64 s1.Base, .int .i64 s1.Slope, .int .i64 s1.Drift, .int .i64 s1.Checked]) 0 0 rfl rfl rfl rfl (P_some rfl (O_cons (O_call (all := [.agg #[.int .i64 s1.Step, .int .i64 s1.Max, .int .i64 s1.Base, .int .i64 s1.Slope, .int .i64 s1.Drift, .int .i64 s1.Checked]]) rfl rfl rfl ?_)))))))
    obtain ⟨r1, hx1, h1001⟩ := obind h1001
    refine recyclingref26_Check_fn  hx1 ((P_some rfl (O_cons (O_read rfl (R_neqD rfl rfl (P_some rfl (O_cons (O_read rfl (R_move rfl (P_some rfl ?_))))))))))
    refine O_gv (z := !(decide (r1 = 0))) rfl rfl (fun hc1 => ?_) (fun hc1 => ?_)
    · replace h1001 := cond_f hc1 h1001
      refine O_read rfl (R_move rfl (P_some rfl (O_gY rfl rfl hc1 (O_read rfl (R_lssD rfl rfl (P_some rfl (O_cons (O_read rfl (R_pick_F rfl hc1 rfl (P_some rfl (O_cons (O_read rfl (R_move rfl ?_)))))))))))))
      apply P_some; exact rfl
      refine O_gv (z := (decide (t1 < 0))) rfl rfl (fun hc2 => ?_) (fun hc2 => ?_)
      · replace h1001 := cond_f hc2 h1001
        refine O_read rfl (R_move rfl (P_some rfl (O_gY rfl rfl hc2 (O_read rfl (R_gtrD rfl rfl (P_some rfl (O_cons (O_read rfl (R_pick_F rfl hc2 rfl (P_some rfl (O_nil ?_)))))))))))
        have e_ := Option.some.inj h1001
        subst e_
        exact ⟨(decide (3155759999 < t1)), rfl, SubFr.of ⟨rfl, rfl, rfl, trivial⟩, SegSub.sel _ [some 0] 1, rfl⟩
      replace h1001 := cond_t hc2 h1001
      refine P_some rfl (O_gN rfl rfl hc2 (P_some rfl (O_cons (O_read rfl (R_pick_T rfl hc2 rfl (P_some rfl (O_nil ?_)))))))
      have e_ := Option.some.inj h1001
      subst e_
      exact ⟨true, rfl, SubFr.of ⟨rfl, rfl, rfl, trivial⟩, SegSub.sel _ [some 0] 1, rfl⟩
    replace h1001 := cond_t hc1 h1001
    refine P_some rfl (O_gN rfl rfl hc1 (P_some rfl (O_cons (O_read rfl (R_pick_T rfl hc1 rfl (P_some rfl (O_cons (O_read rfl (R_move rfl (P_some rfl (O_gN rfl rfl rfl (P_some rfl (O_gN rfl rfl rfl ?_)))))))))))))
    refine P_some rfl (O_cons (O_read rfl (R_pick_T rfl rfl rfl (P_some rfl (O_nil ?_)))))
    have e_ := Option.some.inj h1001
    subst e_
    exact ⟨true, rfl, SubFr.of ⟨rfl, rfl, rfl, trivial⟩, SegSub.sel _ [some 0] 1, rfl⟩
  rintro fr1001 μ1001 L1001 hm1001 ⟨v1, ho1001, hF1001, hS1001, hu1001⟩
  subst ho1001
  subst hu1001
  refine hK1000 _ _ _ (WP.at hF1001 hS1001 ?_)
  refine W_cond_v (b := v1) rfl (fun hc3 => ?_) (fun hc3 => ?_)
  · replace h := cond_t hc3 h
    refine WP.seq_k (fun K1004 hK1004 => WP.region Tt_ok (O_cons (O_read rfl (R_assign rfl (P_some rfl (O_nil (hK1004 _ _ _ (WP.ret ?_))))))))
    have e_ := Option.some.inj h
    subst e_
    refine S_tmp rfl (S_nil (Upd.selS [] 1 ?_))
    exact Upd.done hR
  replace h := cond_f hc3 h
  refine WP.skip (hK999 _ _ _ (WP.seq_k (fun K1005 hK1005 => WP.seq_k (fun K1006 hK1006 => WP.region Tt_ok (O_cons (O_read rfl (R_move rfl (P_some rfl (O_cons (O_read rfl (R_fa0 (o' := 5) rfl rfl rfl rfl rfl rfl (P_some rfl (O_cons ?_)))))))))))))
  refine O_read rfl (R_load rfl rfl rfl (Ex.mk _ (Cell.seg 0 0 rfl rfl rfl) (P_some rfl (O_cons (O_read rfl (R_lssD rfl rfl (P_some rfl (O_nil (hK1006 _ _ _ ?_)))))))))
  refine W_cond_v (b := (decide (t1 < s1.Checked))) rfl (fun hc4 => ?_) (fun hc4 => ?_)
  · replace h := cond_t hc4 h
    refine WP.seq_k (fun K1007 hK1007 => WP.region Tt_ok (O_cons (O_read rfl (R_assign rfl (P_some rfl (O_nil (hK1007 _ _ _ (WP.ret ?_))))))))
    have e_ := Option.some.inj h
    subst e_
    refine S_tmp rfl (S_nil (Upd.selS [] 1 ?_))
    exact Upd.done hR
  replace h := cond_f hc4 h
  refine WP.skip (hK1005 _ _ _ (WP.seq_k (fun K1008 hK1008 => WP.region Tt_ok (O_cons (O_read rfl (R_assign rfl (P_some rfl (O_nil (hK1008 _ _ _ (WP.ret ?_))))))))))
  have e_ := Option.some.inj h
  subst e_
  refine S_tmp rfl (S_nil (Upd.selS [] 1 ?_))
  exact Upd.done hR

theorem recyclingref26_Begun_fn {μ : Gh} {L : List Seg} {R : Value → Gh → List Seg → Prop}  {s1 : T_api_Scale} {t1 : Int}  {res1 : Int}
     (h : recyclingref26_Begun s1 t1 = some res1)
    (hR : R (.int .i64 res1) μ (L)) :
    Fn Try.prog 77 [.agg #[.int .i64 s1.Step, .int .i64 s1.Max, .int .i64 s1.Base, .int .i64 s1.Slope, .int .i64 s1.Drift, .int .i64 s1.Checked], .int .i64 t1] μ (L) R := by
  unfold recyclingref26_Begun at h
  refine Fn.of_body Tt_ok Try.func77 (by kernel_rfl) rfl Try.ntmps77 (by simp) ?_
  simp only [Try.f77, argFr, List.zipIdx, List.map, Nat.reduceAdd]
  refine WP.seq_k (fun K1047 hK1047 => WP.region Tt_ok (O_cons (O_box (cs := #[.int .i64 s1.Step, .int .i64 s1.Max, .int .i64 s1.Base, .int .i64 s1.Slope, .int .i64 s1.Drift, .int .i64 s1.Checked]) rfl rfl (fun g1 => P_some rfl (O_cons (O_read rfl (R_assign rfl (P_some rfl (O_nil (hK1047 _ _ _ (WP.seq_k (fun K1049 hK1049 => WP.region Tt_ok (O_cons ?_)))))))))))))
  refine O_read rfl (R_move rfl (P_some rfl (O_cons (O_read rfl (R_fa0 (o' := 5) rfl rfl rfl rfl rfl rfl (P_some rfl (O_cons (O_read rfl (R_load rfl rfl rfl (Ex.mk _ (Cell.seg 0 0 rfl rfl rfl) (P_some rfl (O_cons (O_read rfl ?_)))))))))))))
  refine R_sub rfl rfl (P_some rfl (O_cons (O_read rfl (R_add rfl rfl (P_some rfl (O_cons (O_read rfl (R_sub rfl rfl (P_some rfl (O_cons (O_read rfl (R_quo rfl rfl ?_))))))))))))
  refine ⟨by decide, ?_⟩
  refine P_some rfl (O_cons (O_read rfl (R_assign rfl (P_some rfl (O_nil (hK1049 _ _ _ (WP.ret ?_)))))))
  have e_ := Option.some.inj h
  subst e_
  refine S_tmp rfl (S_nil (Upd.selS [] 1 ?_))
  exact Upd.done hR

theorem recyclingref26_Error_fn {μ : Gh} {L : List Seg} {R : Value → Gh → List Seg → Prop}  {s1 : T_api_Scale} {mass1 : Int} {t1 : Int}  {res1 : Int} {res2 : Int}
     (h : recyclingref26_Error s1 mass1 t1 = some (res1, res2))
    (hR : R (.tuple #[.int .i64 res1, .int .i64 res2]) μ (L)) :
    Fn Try.prog 65 [.agg #[.int .i64 s1.Step, .int .i64 s1.Max, .int .i64 s1.Base, .int .i64 s1.Slope, .int .i64 s1.Drift, .int .i64 s1.Checked], .int .i64 mass1, .int .i64 t1] μ (L) R := by
  unfold recyclingref26_Error at h
  refine Fn.of_body Tt_ok Try.func65 (by kernel_rfl) rfl Try.ntmps65 (by simp) ?_
  simp only [Try.f65, argFr, List.zipIdx, List.map, Nat.reduceAdd]
  refine WP.seq_k (fun K1034 hK1034 => WP.region Tt_ok (O_cons (O_box (cs := #[.int .i64 s1.Step, .int .i64 s1.Max, .int .i64 s1.Base, .int .i64 s1.Slope, .int .i64 s1.Drift, .int .i64 s1.Checked]) rfl rfl (fun g1 => P_some rfl (O_cons (O_read rfl (R_assign rfl (P_some rfl (O_cons (O_read rfl (R_assign rfl (P_some rfl (O_nil ?_)))))))))))))
  refine hK1034 _ _ _ (WP.seq_k (fun K1036 hK1036 => WP.seq_k (fun K1037 hK1037 => ?_)))
  obtain ⟨o1038, h1038, h⟩ := obind h
  refine WP.cutK (fun fr_ μ_ L_ => ∃ (v1 : Bool), v1 = o1038 ∧ SubFr [(1, .int .i64 mass1), (2, .int .i64 t1), (3, .pointer (some ⟨g1, 0, none⟩)), (19, .bool v1)] fr_ ∧ SegSub ([(g1, .cells #[.int .i64 s1.Step, .int .i64 s1.Max, .int .i64 s1.Base, .int .i64 s1.Slope, .int .i64 s1.Drift, .int .i64 s1.Checked] 52 (0, 0))] :: L) L_ ∧ μ = μ_) ?_ ?_
  · refine WP.region Tt_ok (O_cons (O_read rfl (R_loadA rfl rfl rfl rfl (LA_ (vs := [.int .i64 s1.Step, .int .i64 s1.Max, .int .i64 s1.Base, .int .i64 s1.Slope, .int .i64 s1.Drift, .int .i64 s1.Checked]) 0 0 rfl rfl rfl rfl (P_some rfl (O_cons (O_call (all := [.agg #[.int .i64 s1.Step, .int .i64 s1.Max, .int .i64 s1.Base, .int .i64 s1.Slope, .int .i64 s1.Drift, .int .i64 s1.Checked]]) rfl rfl rfl ?_)))))))
    obtain ⟨r1, hx1, h1038⟩ := obind h1038
    refine recyclingref26_Check_fn  hx1 ((P_some rfl (O_cons (O_read rfl (R_neqD rfl rfl (P_some rfl (O_cons (O_read rfl (R_move rfl (P_some rfl ?_))))))))))
    refine O_gv (z := !(decide (r1 = 0))) rfl rfl (fun hc1 => ?_) (fun hc1 => ?_)
    · replace h1038 := cond_f hc1 h1038
      refine O_read rfl (R_move rfl (P_some rfl (O_gY rfl rfl hc1 (O_read rfl (R_lssD rfl rfl (P_some rfl (O_cons (O_read rfl (R_pick_F rfl hc1 rfl (P_some rfl (O_cons (O_read rfl (R_move rfl ?_)))))))))))))
      apply P_some; exact rfl
      refine O_gv (z := (decide (mass1 < 0))) rfl rfl (fun hc2 => ?_) (fun hc2 => ?_)
      · replace h1038 := cond_f hc2 h1038
        refine O_read rfl (R_move rfl (P_some rfl (O_gY rfl rfl hc2 (O_read rfl (R_gtrD rfl rfl (P_some rfl (O_cons (O_read rfl (R_pick_F rfl hc2 rfl (P_some rfl (O_nil ?_)))))))))))
        have e_ := Option.some.inj h1038
        subst e_
        exact ⟨(decide (1073741824 < mass1)), rfl, SubFr.of ⟨rfl, rfl, rfl, rfl, trivial⟩, SegSub.sel _ [some 0] 1, rfl⟩
      replace h1038 := cond_t hc2 h1038
      refine P_some rfl (O_gN rfl rfl hc2 (P_some rfl (O_cons (O_read rfl (R_pick_T rfl hc2 rfl (P_some rfl (O_nil ?_)))))))
      have e_ := Option.some.inj h1038
      subst e_
      exact ⟨true, rfl, SubFr.of ⟨rfl, rfl, rfl, rfl, trivial⟩, SegSub.sel _ [some 0] 1, rfl⟩
    replace h1038 := cond_t hc1 h1038
    refine P_some rfl (O_gN rfl rfl hc1 (P_some rfl (O_cons (O_read rfl (R_pick_T rfl hc1 rfl (P_some rfl (O_cons (O_read rfl (R_move rfl (P_some rfl (O_gN rfl rfl rfl (P_some rfl (O_gN rfl rfl rfl ?_)))))))))))))
    refine P_some rfl (O_cons (O_read rfl (R_pick_T rfl rfl rfl (P_some rfl (O_nil ?_)))))
    have e_ := Option.some.inj h1038
    subst e_
    exact ⟨true, rfl, SubFr.of ⟨rfl, rfl, rfl, rfl, trivial⟩, SegSub.sel _ [some 0] 1, rfl⟩
  rintro fr1038 μ1038 L1038 hm1038 ⟨v1, ho1038, hF1038, hS1038, hu1038⟩
  subst ho1038
  subst hu1038
  refine hK1037 _ _ _ (WP.at hF1038 hS1038 ?_)
  refine W_cond_v (b := v1) rfl (fun hc3 => ?_) (fun hc3 => ?_)
  · replace h := cond_t hc3 h
    refine WP.seq_k (fun K1041 hK1041 => WP.region Tt_ok (O_cons (O_read rfl (R_assign rfl (P_some rfl (O_cons (O_read rfl (R_assign rfl (P_some rfl (O_nil (hK1041 _ _ _ (WP.ret ?_))))))))))))
    have e_ := Option.some.inj h
    obtain ⟨e0a_, e0b_⟩ := Prod.mk.inj e_
    clear e_
    subst e0a_
    subst e0b_
    refine S_tmp rfl (S_tmp rfl (S_nil (Upd.selS [] 1 ?_)))
    exact Upd.done hR
  replace h := cond_f hc3 h
  refine WP.skip (hK1036 _ _ _ (WP.seq_k (fun K1042 hK1042 => WP.region Tt_ok (O_cons (O_read rfl (R_loadA rfl rfl rfl rfl (LA_ (vs := [.int .i64 s1.Step, .int .i64 s1.Max, .int .i64 s1.Base, .int .i64 s1.Slope, .int .i64 s1.Drift, .int .i64 s1.Checked]) 0 0 rfl rfl rfl rfl (P_some rfl (O_cons (O_read rfl (R_move rfl (P_some rfl (O_cons ?_)))))))))))))
  apply O_call (all := [.agg #[.int .i64 s1.Step, .int .i64 s1.Max, .int .i64 s1.Base, .int .i64 s1.Slope, .int .i64 s1.Drift, .int .i64 s1.Checked], .int .i64 t1]); exact rfl; exact rfl; exact rfl
  obtain ⟨r2, hx2, h⟩ := obind h
  refine recyclingref26_moment_fn  hx2 ((P_some rfl (O_cons (O_read rfl (R_assign rfl (P_some rfl (O_nil (hK1042 _ _ _ (WP.seq_k (fun K1043 hK1043 => WP.seq_k (fun K1044 hK1044 => WP.region Tt_ok (O_cons (O_read rfl (R_move rfl ?_))))))))))))))
  refine P_some rfl (O_cons (O_read rfl (R_neqD rfl rfl (P_some rfl (O_nil (hK1044 _ _ _ ?_))))))
  refine W_cond_v (b := !(decide (r2 = 0))) rfl (fun hc4 => ?_) (fun hc4 => ?_)
  · replace h := cond_t hc4 h
    refine WP.seq_k (fun K1045 hK1045 => WP.region Tt_ok (O_cons (O_read rfl (R_move rfl (P_some rfl (O_cons (O_read rfl (R_assign rfl (P_some rfl (O_cons (O_read rfl (R_assign rfl (P_some rfl ?_)))))))))))))
    refine O_nil (hK1045 _ _ _ (WP.ret ?_))
    have e_ := Option.some.inj h
    obtain ⟨e0a_, e0b_⟩ := Prod.mk.inj e_
    clear e_
    subst e0a_
    subst e0b_
    refine S_tmp rfl (S_tmp rfl (S_nil (Upd.selS [] 1 ?_)))
    exact Upd.done hR
  replace h := cond_f hc4 h
  refine WP.skip (hK1043 _ _ _ (WP.seq_k (fun K1046 hK1046 => WP.drawn (id := 6) (l' := List.replicate 18 true) wide Tt_ok _ Kept.refl [(true, 0), (true, 1), (true, 2), (true, 3), (true, 4), (true, 5), (true, 6), (true, 7), (true, 8), (true, 9), (true, 10), (true, 11), (true, 12), (false, 13), (true, 14), (true, 15), (true, 16), (true, 17)] (by kernel_rfl) (by kernel_rfl) rfl (PL_t rfl (R_fa0 (o' := 2) rfl rfl rfl rfl rfl rfl (P_some rfl (PL_t rfl (R_load rfl rfl rfl (Ex.mk _ (Cell.seg 0 0 rfl rfl rfl) (P_some rfl (PL_t rfl (R_move rfl (P_some rfl ?_)))))))))))))
  refine PL_t rfl (R_fa0 (o' := 3) rfl rfl rfl rfl rfl rfl (P_some rfl (PL_t rfl (R_load rfl rfl rfl (Ex.mk _ (Cell.seg 0 0 rfl rfl rfl) (P_some rfl (PL_t rfl (R_mul rfl rfl (P_some rfl (PL_t rfl (R_add rfl rfl (P_some rfl (PL_t rfl ?_)))))))))))))
  apply R_quo; exact rfl; exact rfl
  refine ⟨by decide, ?_⟩
  refine P_some rfl (PL_t rfl (R_add rfl rfl (P_some rfl (PL_t rfl (R_fa0 (o' := 4) rfl rfl rfl rfl rfl rfl (P_some rfl (PL_t rfl (R_load rfl rfl rfl (Ex.mk _ (Cell.seg 0 0 rfl rfl rfl) (P_some rfl (PL_t rfl (R_loadA rfl rfl rfl rfl (LA_ (vs := [.int .i64 s1.Step, .int .i64 s1.Max, .int .i64 s1.Base, .int .i64 s1.Slope, .int .i64 s1.Drift, .int .i64 s1.Checked]) 0 0 rfl rfl rfl rfl ?_)))))))))))))
  refine P_some rfl (PL_t rfl (R_move rfl (P_some rfl (PL_f rfl (O_call (all := [.agg #[.int .i64 s1.Step, .int .i64 s1.Max, .int .i64 s1.Base, .int .i64 s1.Slope, .int .i64 s1.Drift, .int .i64 s1.Checked], .int .i64 t1]) rfl rfl rfl ?_)))))
  obtain ⟨r3, hx3, h⟩ := obind h
  refine recyclingref26_Begun_fn  hx3 (?_)
  refine ⟨Kept.refl, ?_⟩
  refine P_some rfl (PL_t rfl (R_mul rfl rfl (P_some rfl (PL_t rfl (R_add rfl rfl (P_some rfl (PL_t rfl (R_assign rfl (P_some rfl (PL_t rfl (R_assign rfl (P_some rfl (PL_nil ?_)))))))))))))
  refine AN.done0 (by kernel_rfl) (hK1046 _ _ _ (WP.ret ?_))
  have e_ := Option.some.inj h
  obtain ⟨e0a_, e0b_⟩ := Prod.mk.inj e_
  clear e_
  subst e0a_
  subst e0b_
  refine S_tmp rfl (S_tmp rfl (S_nil (Upd.selS [] 1 ?_)))
  exact Upd.done hR

theorem recyclingref26_Could_fn {μ : Gh} {L : List Seg} {R : Value → Gh → List Seg → Prop}  {s1 : T_api_Scale} {mass1 : Int} {shown1 : Int} {t1 : Int}  {res1 : Bool}
     (h : recyclingref26_Could s1 mass1 shown1 t1 = some res1)
    (hR : R (.bool res1) μ (L)) :
    Fn Try.prog 60 [.agg #[.int .i64 s1.Step, .int .i64 s1.Max, .int .i64 s1.Base, .int .i64 s1.Slope, .int .i64 s1.Drift, .int .i64 s1.Checked], .int .i64 mass1, .int .i64 shown1, .int .i64 t1] μ (L) R := by
  unfold recyclingref26_Could at h
  refine Fn.of_body Tt_ok Try.func60 (by kernel_rfl) rfl Try.ntmps60 (by simp) ?_
  simp only [Try.f60, argFr, List.zipIdx, List.map, Nat.reduceAdd]
  refine WP.seq_k (fun K1031 hK1031 => WP.region Tt_ok (O_cons (O_box (cs := #[.int .i64 s1.Step, .int .i64 s1.Max, .int .i64 s1.Base, .int .i64 s1.Slope, .int .i64 s1.Drift, .int .i64 s1.Checked]) rfl rfl (fun g1 => P_some rfl (O_cons (O_read rfl (R_assign rfl (P_some rfl (O_nil (hK1031 _ _ _ (WP.seq_k (fun K1033 hK1033 => WP.region Tt_ok (O_cons ?_)))))))))))))
  refine O_read rfl (R_loadA rfl rfl rfl rfl (LA_ (vs := [.int .i64 s1.Step, .int .i64 s1.Max, .int .i64 s1.Base, .int .i64 s1.Slope, .int .i64 s1.Drift, .int .i64 s1.Checked]) 0 0 rfl rfl rfl rfl (P_some rfl (O_cons (O_read rfl (R_move rfl (P_some rfl (O_cons (O_read rfl (R_move rfl (P_some rfl (O_cons (O_call (all := [.agg #[.int .i64 s1.Step, .int .i64 s1.Max, .int .i64 s1.Base, .int .i64 s1.Slope, .int .i64 s1.Drift, .int .i64 s1.Checked], .int .i64 mass1, .int .i64 t1]) rfl rfl rfl ?_)))))))))))))
  obtain ⟨⟨r1, r2⟩, hx1, h⟩ := obind h
  replace h := oun_mk h
  refine recyclingref26_Error_fn  hx1 ((P_some rfl (O_cons (O_read rfl (R_move rfl (P_some rfl (O_cons (O_read rfl (R_ext rfl rfl (P_some rfl (O_cons (O_read rfl (R_ext rfl rfl (P_some rfl ?_))))))))))))))
  refine O_cons (O_read rfl (R_assign rfl (P_some rfl (O_cons (O_read rfl (R_assign rfl (P_some rfl (O_nil (hK1033 _ _ _ (WP.seq_k (fun K1050 hK1050 => WP.seq_k (fun K1051 hK1051 => ?_))))))))))))
  obtain ⟨o1052, h1052, h⟩ := obind h
  refine WP.cutK (fun fr_ μ_ L_ => ∃ (v1 : Bool), v1 = o1052 ∧ SubFr [(1, .int .i64 mass1), (2, .int .i64 shown1), (4, .pointer (some ⟨g1, 0, none⟩)), (9, .int .i64 r1), (26, .bool v1)] fr_ ∧ SegSub ([(g1, .cells #[.int .i64 s1.Step, .int .i64 s1.Max, .int .i64 s1.Base, .int .i64 s1.Slope, .int .i64 s1.Drift, .int .i64 s1.Checked] 52 (0, 0))] :: L) L_ ∧ μ = μ_) ?_ ?_
  · refine WP.region Tt_ok (O_cons (O_read rfl (R_move rfl (P_some rfl (O_cons (O_read rfl (R_neqD rfl rfl (P_some rfl (O_cons (O_read rfl (R_move rfl (P_some rfl ?_))))))))))))
    refine O_gv (z := !(decide (r2 = 0))) rfl rfl (fun hc1 => ?_) (fun hc1 => ?_)
    · replace h1052 := cond_f hc1 h1052
      refine O_read rfl (R_loadA rfl rfl rfl rfl (LA_ (vs := [.int .i64 s1.Step, .int .i64 s1.Max, .int .i64 s1.Base, .int .i64 s1.Slope, .int .i64 s1.Drift, .int .i64 s1.Checked]) 0 0 rfl rfl rfl rfl (P_some rfl (O_gY rfl rfl hc1 (O_read rfl (R_move rfl (P_some rfl (O_gY rfl rfl hc1 (O_call (all := [.agg #[.int .i64 s1.Step, .int .i64 s1.Max, .int .i64 s1.Base, .int .i64 s1.Slope, .int .i64 s1.Drift, .int .i64 s1.Checked], .int .i64 shown1]) rfl rfl rfl ?_)))))))))
      obtain ⟨r3, hx2, h1052⟩ := obind h1052
      refine recyclingref26_Showable_fn  hx2 ((P_some rfl (O_gY rfl rfl hc1 (O_read rfl (R_not rfl (P_some rfl (O_cons (O_read rfl (R_pick_F rfl hc1 rfl (P_some rfl (O_nil ?_)))))))))))
      have e_ := Option.some.inj h1052
      subst e_
      exact ⟨!r3, rfl, SubFr.of ⟨rfl, rfl, rfl, rfl, rfl, trivial⟩, SegSub.sel _ [some 0] 1, rfl⟩
    replace h1052 := cond_t hc1 h1052
    refine P_some rfl (O_gN rfl rfl hc1 (P_some rfl (O_gN rfl rfl hc1 (P_some rfl (O_gN rfl rfl hc1 (P_some rfl (O_cons (O_read rfl (R_pick_T rfl hc1 rfl (P_some rfl (O_nil ?_)))))))))))
    have e_ := Option.some.inj h1052
    subst e_
    exact ⟨true, rfl, SubFr.of ⟨rfl, rfl, rfl, rfl, rfl, trivial⟩, SegSub.sel _ [some 0] 1, rfl⟩
  rintro fr1052 μ1052 L1052 hm1052 ⟨v1, ho1052, hF1052, hS1052, hu1052⟩
  subst ho1052
  subst hu1052
  refine hK1051 _ _ _ (WP.at hF1052 hS1052 ?_)
  refine W_cond_v (b := v1) rfl (fun hc2 => ?_) (fun hc2 => ?_)
  · replace h := cond_t hc2 h
    refine WP.seq_k (fun K1055 hK1055 => WP.region Tt_ok (O_cons (O_read rfl (R_assign rfl (P_some rfl (O_nil (hK1055 _ _ _ (WP.ret ?_))))))))
    have e_ := Option.some.inj h
    subst e_
    refine S_tmp rfl (S_nil (Upd.selS [] 1 ?_))
    exact Upd.done hR
  replace h := cond_f hc2 h
  refine WP.skip (hK1050 _ _ _ (WP.seq_k (fun K1056 hK1056 => WP.region Tt_ok (O_cons (O_read rfl (R_move rfl (P_some rfl (O_cons (O_read rfl (R_move rfl (P_some rfl (O_cons (O_read rfl ?_)))))))))))))
  refine R_sub rfl rfl (P_some rfl (O_cons (O_read rfl (R_assign rfl (P_some rfl (O_nil (hK1056 _ _ _ (WP.seq_k (fun K1057 hK1057 => WP.seq_k (fun K1058 hK1058 => WP.region Tt_ok (O_cons (O_read rfl (R_move rfl ?_)))))))))))))
  refine P_some rfl (O_cons (O_read rfl (R_lssD rfl rfl (P_some rfl (O_nil (hK1058 _ _ _ ?_))))))
  obtain ⟨o1059, h1059, h⟩ := obind h
  refine WP.cutK (fun fr_ μ_ L_ => ∃ (d1 : Int), d1 = o1059 ∧ SubFr [(4, .pointer (some ⟨g1, 0, none⟩)), (9, .int .i64 r1), (11, .int .i64 d1)] fr_ ∧ SegSub ([(g1, .cells #[.int .i64 s1.Step, .int .i64 s1.Max, .int .i64 s1.Base, .int .i64 s1.Slope, .int .i64 s1.Drift, .int .i64 s1.Checked] 52 (0, 0))] :: L) L_ ∧ μ = μ_) ?_ ?_
  · refine W_cond_v (b := (decide ((w64 (mass1 - shown1)) < 0))) rfl (fun hc3 => ?_) (fun hc3 => ?_)
    · replace h1059 := cond_t hc3 h1059
      refine WP.region Tt_ok (O_cons (O_read rfl (R_move rfl (P_some rfl (O_cons (O_read rfl (R_neg rfl (P_some rfl (O_cons (O_read rfl (R_assign rfl (P_some rfl (O_nil ?_)))))))))))))
      have e_ := Option.some.inj h1059
      subst e_
      exact ⟨w64 (0 - (w64 (mass1 - shown1))), rfl, SubFr.of ⟨rfl, rfl, rfl, trivial⟩, SegSub.sel _ [some 0] 1, rfl⟩
    replace h1059 := cond_f hc3 h1059
    apply WP.skip
    have e_ := Option.some.inj h1059
    subst e_
    exact ⟨w64 (mass1 - shown1), rfl, SubFr.of ⟨rfl, rfl, rfl, trivial⟩, SegSub.sel _ [some 0] 1, rfl⟩
  rintro fr1059 μ1059 L1059 hm1059 ⟨d1, ho1059, hF1059, hS1059, hu1059⟩
  subst ho1059
  subst hu1059
  refine hK1057 _ _ _ (WP.at hF1059 hS1059 (WP.seq_k (fun K1062 hK1062 => WP.region Tt_ok (O_cons (O_read rfl (R_move rfl (P_some rfl (O_cons (O_read rfl (R_mul rfl rfl (P_some rfl (O_cons (O_read rfl ?_)))))))))))))
  refine R_move rfl (P_some rfl (O_cons (O_read rfl (R_mul rfl rfl (P_some rfl (O_cons (O_read rfl (R_fa0 (o' := 0) rfl rfl rfl rfl rfl rfl (P_some rfl (O_cons (O_read rfl (R_load rfl rfl rfl (Ex.mk _ (Cell.seg 0 0 rfl rfl rfl) ?_)))))))))))))
  refine P_some rfl (O_cons (O_read rfl (R_add rfl rfl (P_some rfl (O_cons (O_read rfl (R_leqD rfl rfl (P_some rfl (O_cons (O_read rfl (R_assign rfl (P_some rfl (O_nil ?_)))))))))))))
  refine hK1062 _ _ _ (WP.ret ?_)
  have e_ := Option.some.inj h
  subst e_
  refine S_tmp rfl (S_nil (Upd.selS [] 1 ?_))
  exact Upd.done hR

theorem recyclingref26_reach_fn {μ : Gh} {L : List Seg} {R : Value → Gh → List Seg → Prop} {F : Nat} {s1 : T_api_Scale} {shown1 : Int} {t1 : Int} {way1 : Int} {most1 : Int}  {res1 : Int}
     (h : recyclingref26_reach F s1 shown1 t1 way1 most1 = some res1)
    (hR : R (.int .i64 res1) μ (L)) :
    Fn Try.prog 47 [.agg #[.int .i64 s1.Step, .int .i64 s1.Max, .int .i64 s1.Base, .int .i64 s1.Slope, .int .i64 s1.Drift, .int .i64 s1.Checked], .int .i64 shown1, .int .i64 t1, .int .i64 way1, .int .i64 most1] μ (L) R := by
  unfold recyclingref26_reach at h
  refine Fn.of_body Tt_ok Try.func47 (by kernel_rfl) rfl Try.ntmps47 (by simp) ?_
  simp only [Try.f47, argFr, List.zipIdx, List.map, Nat.reduceAdd]
  refine WP.seq_k (fun K1014 hK1014 => WP.region Tt_ok (O_cons (O_box (cs := #[.int .i64 s1.Step, .int .i64 s1.Max, .int .i64 s1.Base, .int .i64 s1.Slope, .int .i64 s1.Drift, .int .i64 s1.Checked]) rfl rfl (fun g1 => P_some rfl (O_cons (O_read rfl (R_assign rfl (P_some rfl (O_nil (hK1014 _ _ _ (WP.seq_k (fun K1016 hK1016 => WP.region Tt_ok (O_cons ?_)))))))))))))
  refine O_read rfl (R_assign rfl (P_some rfl (O_nil (hK1016 _ _ _ (WP.seq_k (fun K1017 hK1017 => WP.seq_k (fun K1018 hK1018 => WP.region Tt_ok (O_cons (O_read rfl (R_assign rfl (P_some rfl (O_nil (hK1018 _ _ _ ?_)))))))))))))
  obtain ⟨o1019, h1019, h⟩ := obind h
  refine WP.cutK (fun fr_ μ_ L_ => ∃ (lo3 : Int), lo3 = o1019 ∧ SubFr [(11, .int .i64 lo3)] fr_ ∧ SegSub (L) L_ ∧ μ = μ_) ?_ ?_
  · refine WP.block (WP.iter h1019 (fun (j_ : Int × Int) fr_ μ_ L_ => ounP j_ fun lo1 bit1 => SubFr [(1, .int .i64 shown1), (2, .int .i64 t1), (3, .int .i64 way1), (4, .int .i64 most1), (5, .pointer (some ⟨g1, 0, none⟩)), (11, .int .i64 lo1), (12, .int .i64 bit1)] fr_ ∧ SegSub ([(g1, .cells #[.int .i64 s1.Step, .int .i64 s1.Max, .int .i64 s1.Base, .int .i64 s1.Slope, .int .i64 s1.Drift, .int .i64 s1.Checked] 52 (0, 0))] :: L) L_ ∧ μ = μ_) ⟨SubFr.of ⟨rfl, rfl, rfl, rfl, rfl, rfl, rfl, trivial⟩, SegSub.sel _ [some 0] 1, rfl⟩ ?_)
    rintro ⟨lo1, bit1⟩ q1067 fr1067 μ1067 L1067 hm1067 ⟨hF1067, hS1067, hu1067⟩ hb1067 hq1067
    unfold recyclingref26_reach_l1 at hb1067
    replace hb1067 := oun_mk hb1067
    subst hu1067
    refine WP.at hF1067 hS1067 (WP.seq_k (fun K1071 hK1071 => WP.seq_k (fun K1072 hK1072 => WP.region Tt_ok (O_cons (O_read rfl (R_move rfl (P_some rfl (O_cons (O_read rfl (R_geqD rfl rfl (P_some rfl (O_nil (hK1072 _ _ _ ?_)))))))))))))
    refine W_cond_v (b := (decide (0 ≤ bit1))) rfl (fun hc1 => ?_) (fun hc1 => ?_)
    · replace hb1067 := cond_t hc1 hb1067
      refine WP.skip (hK1071 _ _ _ (WP.seq_k (fun K1073 hK1073 => ?_)))
      obtain ⟨o1074, h1074, hb1067⟩ := obind hb1067
      refine WP.cutK (fun fr_ μ_ L_ => ∃ (lo2 : Int), lo2 = o1074 ∧ SubFr [(1, .int .i64 shown1), (2, .int .i64 t1), (3, .int .i64 way1), (4, .int .i64 most1), (5, .pointer (some ⟨g1, 0, none⟩)), (11, .int .i64 lo2), (12, .int .i64 bit1)] fr_ ∧ SegSub ([(g1, .cells #[.int .i64 s1.Step, .int .i64 s1.Max, .int .i64 s1.Base, .int .i64 s1.Slope, .int .i64 s1.Drift, .int .i64 s1.Checked] 52 (0, 0))] :: L) L_ ∧ μ = μ_) ?_ ?_
      · refine WP.block (WP.seq_k (fun K1075 hK1075 => WP.region Tt_ok (O_cons (O_read rfl (R_move rfl (P_some rfl (O_cons (O_read rfl (R_move rfl (P_some rfl (O_cons (O_read rfl ?_))))))))))))
        obtain ⟨u1, hg1, h1074⟩ := obind h1074
        refine R_shlD rfl rfl rfl (guardO_some hg1) (P_some rfl (O_cons (O_read rfl (R_add rfl rfl (P_some rfl (O_cons (O_read rfl (R_assign rfl (P_some rfl (O_nil (hK1075 _ _ _ (WP.seq_k (fun K1076 hK1076 => ?_)))))))))))))
        obtain ⟨o1077, h1077, h1074⟩ := obind h1074
        refine WP.cutK (fun fr_ μ_ L_ => ∃ (d1 : Int) (v1 : Bool), (d1, v1) = o1077 ∧ SubFr [(1, .int .i64 shown1), (2, .int .i64 t1), (3, .int .i64 way1), (4, .int .i64 most1), (5, .pointer (some ⟨g1, 0, none⟩)), (11, .int .i64 lo1), (12, .int .i64 bit1), (13, .int .i64 d1), (35, .bool v1)] fr_ ∧ SegSub ([(g1, .cells #[.int .i64 s1.Step, .int .i64 s1.Max, .int .i64 s1.Base, .int .i64 s1.Slope, .int .i64 s1.Drift, .int .i64 s1.Checked] 52 (0, 0))] :: L) L_ ∧ μ = μ_) ?_ ?_
        · refine WP.region Tt_ok (O_cons (O_read rfl (R_move rfl (P_some rfl (O_cons (O_read rfl (R_move rfl (P_some rfl (O_cons (O_read rfl (R_leqD rfl rfl (P_some rfl (O_cons ?_)))))))))))))
          refine O_read rfl (R_move rfl (P_some rfl ?_))
          refine O_gv (z := (decide ((w64 (lo1 + (w64 (1 * 2 ^ bit1.toNat)))) ≤ most1))) rfl rfl (fun hc2 => ?_) (fun hc2 => ?_)
          · replace h1077 := cond_t hc2 h1077
            refine O_read rfl (R_loadA rfl rfl rfl rfl (LA_ (vs := [.int .i64 s1.Step, .int .i64 s1.Max, .int .i64 s1.Base, .int .i64 s1.Slope, .int .i64 s1.Drift, .int .i64 s1.Checked]) 0 0 rfl rfl rfl rfl (P_some rfl (O_gY rfl rfl hc2 (O_read rfl (R_move rfl (P_some rfl (O_gY rfl rfl hc2 (O_read rfl (R_move rfl (P_some rfl (O_gY rfl rfl hc2 (O_read rfl ?_)))))))))))))
            refine R_move rfl (P_some rfl (O_gY rfl rfl hc2 (O_read rfl (R_mul rfl rfl (P_some rfl (O_gY rfl rfl hc2 (O_read rfl (R_add rfl rfl (P_some rfl (O_gY rfl rfl hc2 (O_read rfl (R_move rfl (P_some rfl ?_)))))))))))))
            refine O_gY rfl rfl hc2 (O_read rfl (R_move rfl (P_some rfl (O_gY rfl rfl hc2 (O_call (all := [.agg #[.int .i64 s1.Step, .int .i64 s1.Max, .int .i64 s1.Base, .int .i64 s1.Slope, .int .i64 s1.Drift, .int .i64 s1.Checked], .int .i64 (w64 (shown1 + (w64 (way1 * (w64 (lo1 + (w64 (1 * 2 ^ bit1.toNat)))))))), .int .i64 shown1, .int .i64 t1]) rfl rfl rfl ?_)))))
            obtain ⟨r1, hx1, h1077⟩ := obind h1077
            refine recyclingref26_Could_fn  hx1 ((P_some rfl (O_cons (O_read rfl (R_pick_T rfl hc2 rfl (P_some rfl (O_nil ?_)))))))
            have e_ := Option.some.inj h1077
            subst e_
            exact ⟨w64 (lo1 + (w64 (1 * 2 ^ bit1.toNat))), r1, rfl, SubFr.of ⟨rfl, rfl, rfl, rfl, rfl, rfl, rfl, rfl, rfl, trivial⟩, SegSub.sel _ [some 0] 1, rfl⟩
          replace h1077 := cond_f hc2 h1077
          refine P_some rfl (O_gN rfl rfl hc2 (P_some rfl (O_gN rfl rfl hc2 (P_some rfl (O_gN rfl rfl hc2 (P_some rfl (O_gN rfl rfl hc2 (P_some rfl (O_gN rfl rfl hc2 (P_some rfl (O_gN rfl rfl hc2 (P_some rfl (O_gN rfl rfl hc2 ?_)))))))))))))
          refine P_some rfl (O_gN rfl rfl hc2 (P_some rfl (O_cons (O_read rfl (R_pick_F rfl hc2 rfl (P_some rfl (O_nil ?_)))))))
          have e_ := Option.some.inj h1077
          subst e_
          exact ⟨w64 (lo1 + (w64 (1 * 2 ^ bit1.toNat))), false, rfl, SubFr.of ⟨rfl, rfl, rfl, rfl, rfl, rfl, rfl, rfl, rfl, trivial⟩, SegSub.sel _ [some 0] 1, rfl⟩
        rintro fr1077 μ1077 L1077 hm1077 ⟨d1, v1, ho1077, hF1077, hS1077, hu1077⟩
        subst ho1077
        replace h1074 := oun_mk h1074
        subst hu1077
        refine hK1076 _ _ _ (WP.at hF1077 hS1077 ?_)
        refine W_cond_v (b := v1) rfl (fun hc3 => ?_) (fun hc3 => ?_)
        · replace h1074 := cond_t hc3 h1074
          refine WP.region Tt_ok (O_cons (O_read rfl (R_move rfl (P_some rfl (O_cons (O_read rfl (R_assign rfl (P_some rfl (O_nil ?_)))))))))
          have e_ := Option.some.inj h1074
          subst e_
          exact ⟨d1, rfl, SubFr.of ⟨rfl, rfl, rfl, rfl, rfl, rfl, rfl, trivial⟩, SegSub.sel _ [some 0] 1, rfl⟩
        replace h1074 := cond_f hc3 h1074
        apply WP.skip
        have e_ := Option.some.inj h1074
        subst e_
        exact ⟨lo1, rfl, SubFr.of ⟨rfl, rfl, rfl, rfl, rfl, rfl, rfl, trivial⟩, SegSub.sel _ [some 0] 1, rfl⟩
      rintro fr1074 μ1074 L1074 hm1074 ⟨lo2, ho1074, hF1074, hS1074, hu1074⟩
      subst ho1074
      subst hu1074
      refine hK1073 _ _ _ (WP.at hF1074 hS1074 (WP.region Tt_ok (O_cons (O_read rfl (R_move rfl (P_some rfl (O_cons (O_read rfl (R_sub rfl rfl (P_some rfl (O_cons (O_read rfl (R_assign rfl ?_)))))))))))))
      refine P_some rfl (O_nil ?_)
      have e_ := Option.some.inj hb1067
      subst e_
      exact ⟨_, rfl, SubFr.of ⟨rfl, rfl, rfl, rfl, rfl, rfl, rfl, trivial⟩, SegSub.sel _ [some 0] 1, rfl⟩
    replace hb1067 := cond_f hc1 hb1067
    refine WP.exit (B_here ?_)
    have e_ := Option.some.inj hb1067
    subst e_
    have hq_ := hq1067 _ rfl
    subst hq_
    exact ⟨lo1, rfl, SubFr.of ⟨rfl, trivial⟩, SegSub.sel _ [] 1, rfl⟩
  rintro fr1019 μ1019 L1019 hm1019 ⟨lo3, ho1019, hF1019, hS1019, hu1019⟩
  subst ho1019
  subst hu1019
  refine hK1017 _ _ _ (WP.at hF1019 hS1019 (WP.seq_k (fun K1082 hK1082 => WP.region Tt_ok (O_cons (O_read rfl (R_move rfl (P_some rfl (O_cons (O_read rfl (R_assign rfl (P_some rfl (O_nil (hK1082 _ _ _ ?_)))))))))))))
  apply WP.ret
  have e_ := Option.some.inj h
  subst e_
  refine S_tmp rfl (S_nil (Upd.selS [] 0 ?_))
  exact Upd.done hR

theorem recyclingref26_True_fn {μ : Gh} {L : List Seg} {R : Value → Gh → List Seg → Prop} {F : Nat} {s1 : T_api_Scale} {shown1 : Int} {t1 : Int}  {res1 : T_api_Span} {res2 : Int}
     (h : recyclingref26_True F s1 shown1 t1 = some (res1, res2))
    (hR : R (.tuple #[.agg #[.int .i64 res1.Lo, .int .i64 res1.Hi], .int .i64 res2]) μ (L)) :
    Fn Try.prog 32 [.agg #[.int .i64 s1.Step, .int .i64 s1.Max, .int .i64 s1.Base, .int .i64 s1.Slope, .int .i64 s1.Drift, .int .i64 s1.Checked], .int .i64 shown1, .int .i64 t1] μ (L) R := by
  unfold recyclingref26_True at h
  refine Fn.of_body Tt_ok Try.func32 (by kernel_rfl) rfl Try.ntmps32 (by simp) ?_
  simp only [Try.f32, argFr, List.zipIdx, List.map, Nat.reduceAdd]
  refine WP.seq_k (fun K980 hK980 => WP.region Tt_ok (O_cons (O_box (cs := #[.int .i64 s1.Step, .int .i64 s1.Max, .int .i64 s1.Base, .int .i64 s1.Slope, .int .i64 s1.Drift, .int .i64 s1.Checked]) rfl rfl (fun g1 => P_some rfl (O_cons (O_alloc (cs := #[.int .i64 0, .int .i64 0]) rfl rfl (fun g2 => P_some rfl (O_cons (O_read rfl (R_assign rfl (P_some rfl (O_nil (hK980 _ _ _ ?_)))))))))))))
  refine WP.seq_k (fun K983 hK983 => WP.seq_k (fun K984 hK984 => ?_))
  obtain ⟨o985, h985, h⟩ := obind h
  refine WP.cutK (fun fr_ μ_ L_ => ∃ (v1 : Bool), v1 = o985 ∧ SubFr [(1, .int .i64 shown1), (2, .int .i64 t1), (3, .pointer (some ⟨g1, 0, none⟩)), (6, .pointer (some ⟨g2, 0, none⟩)), (17, .bool v1)] fr_ ∧ SegSub ([(g1, .cells #[.int .i64 s1.Step, .int .i64 s1.Max, .int .i64 s1.Base, .int .i64 s1.Slope, .int .i64 s1.Drift, .int .i64 s1.Checked] 52 (0, 0))] :: [(g2, .cells #[.int .i64 0, .int .i64 0] 31 (0, 0))] :: L) L_ ∧ μ = μ_) ?_ ?_
  · refine WP.region Tt_ok (O_cons (O_read rfl (R_loadA rfl rfl rfl rfl (LA_ (vs := [.int .i64 s1.Step, .int .i64 s1.Max, .int .i64 s1.Base, .int .i64 s1.Slope, .int .i64 s1.Drift, .int .i64 s1.Checked]) 1 0 rfl rfl rfl rfl (P_some rfl (O_cons (O_call (all := [.agg #[.int .i64 s1.Step, .int .i64 s1.Max, .int .i64 s1.Base, .int .i64 s1.Slope, .int .i64 s1.Drift, .int .i64 s1.Checked]]) rfl rfl rfl ?_)))))))
    obtain ⟨r1, hx1, h985⟩ := obind h985
    refine recyclingref26_Check_fn  hx1 ((P_some rfl (O_cons (O_read rfl (R_neqD rfl rfl (P_some rfl (O_cons (O_read rfl (R_move rfl (P_some rfl ?_))))))))))
    refine O_gv (z := !(decide (r1 = 0))) rfl rfl (fun hc1 => ?_) (fun hc1 => ?_)
    · replace h985 := cond_f hc1 h985
      refine O_read rfl (R_loadA rfl rfl rfl rfl (LA_ (vs := [.int .i64 s1.Step, .int .i64 s1.Max, .int .i64 s1.Base, .int .i64 s1.Slope, .int .i64 s1.Drift, .int .i64 s1.Checked]) 1 0 rfl rfl rfl rfl (P_some rfl (O_gY rfl rfl hc1 (O_read rfl (R_move rfl (P_some rfl (O_gY rfl rfl hc1 (O_call (all := [.agg #[.int .i64 s1.Step, .int .i64 s1.Max, .int .i64 s1.Base, .int .i64 s1.Slope, .int .i64 s1.Drift, .int .i64 s1.Checked], .int .i64 shown1]) rfl rfl rfl ?_)))))))))
      obtain ⟨r2, hx2, h985⟩ := obind h985
      refine recyclingref26_Showable_fn  hx2 ((P_some rfl (O_gY rfl rfl hc1 (O_read rfl (R_not rfl (P_some rfl (O_cons (O_read rfl (R_pick_F rfl hc1 rfl (P_some rfl (O_nil ?_)))))))))))
      have e_ := Option.some.inj h985
      subst e_
      exact ⟨!r2, rfl, SubFr.of ⟨rfl, rfl, rfl, rfl, rfl, trivial⟩, SegSub.sel _ [some 1, some 0] 2, rfl⟩
    replace h985 := cond_t hc1 h985
    refine P_some rfl (O_gN rfl rfl hc1 (P_some rfl (O_gN rfl rfl hc1 (P_some rfl (O_gN rfl rfl hc1 (P_some rfl (O_cons (O_read rfl (R_pick_T rfl hc1 rfl (P_some rfl (O_nil ?_)))))))))))
    have e_ := Option.some.inj h985
    subst e_
    exact ⟨true, rfl, SubFr.of ⟨rfl, rfl, rfl, rfl, rfl, trivial⟩, SegSub.sel _ [some 1, some 0] 2, rfl⟩
  rintro fr985 μ985 L985 hm985 ⟨v1, ho985, hF985, hS985, hu985⟩
  subst ho985
  subst hu985
  refine hK984 _ _ _ (WP.at hF985 hS985 ?_)
  refine W_cond_v (b := v1) rfl (fun hc2 => ?_) (fun hc2 => ?_)
  · replace h := cond_t hc2 h
    refine WP.seq_k (fun K994 hK994 => WP.region Tt_ok (O_cons (O_read rfl (R_build rfl rfl rfl rfl (F_nil (P_some rfl (O_cons (O_store (vs := [.int .i64 0, .int .i64 0]) rfl rfl rfl rfl rfl rfl (ST_ (L' := ([(g1, .cells #[.int .i64 s1.Step, .int .i64 s1.Max, .int .i64 s1.Base, .int .i64 s1.Slope, .int .i64 s1.Drift, .int .i64 s1.Checked] 52 (0, 0))] :: [(g2, .cells #[.int .i64 0, .int .i64 0] 31 (0, 0))] :: L)) 1 0 rfl rfl rfl rfl (P_none (O_cons (O_read rfl (R_assign rfl ?_)))))))))))))
    refine P_some rfl (O_nil (hK994 _ _ _ (WP.ret ?_)))
    have e_ := Option.some.inj h
    obtain ⟨e0a_, e0b_⟩ := Prod.mk.inj e_
    clear e_
    subst e0a_
    subst e0b_
    refine S_cell rfl rfl rfl rfl (LA_ (vs := [.int .i64 0, .int .i64 0]) 1 0 rfl rfl rfl rfl (S_tmp rfl (S_nil (Upd.selS [] 2 ?_))))
    exact Upd.done hR
  replace h := cond_f hc2 h
  refine WP.skip (hK983 _ _ _ (WP.seq_k (fun K996 hK996 => WP.region Tt_ok (O_cons (O_read rfl (R_loadA rfl rfl rfl rfl (LA_ (vs := [.int .i64 s1.Step, .int .i64 s1.Max, .int .i64 s1.Base, .int .i64 s1.Slope, .int .i64 s1.Drift, .int .i64 s1.Checked]) 0 0 rfl rfl rfl rfl (P_some rfl (O_cons (O_read rfl (R_move rfl (P_some rfl (O_cons ?_)))))))))))))
  apply O_call (all := [.agg #[.int .i64 s1.Step, .int .i64 s1.Max, .int .i64 s1.Base, .int .i64 s1.Slope, .int .i64 s1.Drift, .int .i64 s1.Checked], .int .i64 t1]); exact rfl; exact rfl; exact rfl
  obtain ⟨r3, hx3, h⟩ := obind h
  refine recyclingref26_moment_fn  hx3 ((P_some rfl (O_cons (O_read rfl (R_assign rfl (P_some rfl (O_nil (hK996 _ _ _ (WP.seq_k (fun K1009 hK1009 => WP.seq_k (fun K1010 hK1010 => WP.region Tt_ok (O_cons (O_read rfl (R_move rfl ?_))))))))))))))
  refine P_some rfl (O_cons (O_read rfl (R_neqD rfl rfl (P_some rfl (O_nil (hK1010 _ _ _ ?_))))))
  refine W_cond_v (b := !(decide (r3 = 0))) rfl (fun hc3 => ?_) (fun hc3 => ?_)
  · replace h := cond_t hc3 h
    refine WP.seq_k (fun K1011 hK1011 => WP.region Tt_ok (O_cons (O_read rfl (R_build rfl rfl rfl rfl (F_nil (P_some rfl (O_cons (O_read rfl (R_move rfl (P_some rfl (O_cons (O_store (vs := [.int .i64 0, .int .i64 0]) rfl rfl rfl rfl rfl rfl (ST_ (L' := ([(g1, .cells #[.int .i64 s1.Step, .int .i64 s1.Max, .int .i64 s1.Base, .int .i64 s1.Slope, .int .i64 s1.Drift, .int .i64 s1.Checked] 52 (0, 0))] :: [(g2, .cells #[.int .i64 0, .int .i64 0] 31 (0, 0))] :: L)) 1 0 rfl rfl rfl rfl ?_)))))))))))))
    refine P_none (O_cons (O_read rfl (R_assign rfl (P_some rfl (O_nil (hK1011 _ _ _ (WP.ret ?_)))))))
    have e_ := Option.some.inj h
    obtain ⟨e0a_, e0b_⟩ := Prod.mk.inj e_
    clear e_
    subst e0a_
    subst e0b_
    refine S_cell rfl rfl rfl rfl (LA_ (vs := [.int .i64 0, .int .i64 0]) 1 0 rfl rfl rfl rfl (S_tmp rfl (S_nil (Upd.selS [] 2 ?_))))
    exact Upd.done hR
  replace h := cond_f hc3 h
  refine WP.skip (hK1009 _ _ _ (WP.seq_k (fun K1013 hK1013 => WP.drawn (id := 6) (l' := List.replicate 18 true) wide Tt_ok ([(g1, .cells #[.int .i64 s1.Step, .int .i64 s1.Max, .int .i64 s1.Base, .int .i64 s1.Slope, .int .i64 s1.Drift, .int .i64 s1.Checked] 52 (0, 0))] :: L) (Kept.ofT (keep := [[(g1, .cells #[.int .i64 s1.Step, .int .i64 s1.Max, .int .i64 s1.Base, .int .i64 s1.Slope, .int .i64 s1.Drift, .int .i64 s1.Checked] 52 (0, 0))]]) (A := [[(g1, .cells #[.int .i64 s1.Step, .int .i64 s1.Max, .int .i64 s1.Base, .int .i64 s1.Slope, .int .i64 s1.Drift, .int .i64 s1.Checked] 52 (0, 0))], [(g2, .cells #[.int .i64 0, .int .i64 0] 31 (0, 0))]]) (by simp)) [(true, 0), (true, 1), (true, 2), (true, 3), (true, 4), (true, 7), (true, 8), (true, 9), (true, 10), (true, 11), (true, 12), (false, 5), (true, 6), (false, 13), (true, 14), (true, 15), (false, 16), (true, 17)] (by kernel_rfl) (by kernel_rfl) rfl ?_)))
  refine PL_t rfl (R_move rfl (P_some rfl (PL_t rfl (R_loadA rfl rfl rfl rfl (LA_ (vs := [.int .i64 s1.Step, .int .i64 s1.Max, .int .i64 s1.Base, .int .i64 s1.Slope, .int .i64 s1.Drift, .int .i64 s1.Checked]) 0 0 rfl rfl rfl rfl (P_some rfl (PL_t rfl (R_move rfl (P_some rfl (PL_t rfl (R_move rfl (P_some rfl (PL_t rfl ?_)))))))))))))
  refine R_move rfl (P_some rfl (PL_t rfl (R_move rfl (P_some rfl (PL_t rfl (R_loadA rfl rfl rfl rfl (LA_ (vs := [.int .i64 s1.Step, .int .i64 s1.Max, .int .i64 s1.Base, .int .i64 s1.Slope, .int .i64 s1.Drift, .int .i64 s1.Checked]) 0 0 rfl rfl rfl rfl (P_some rfl (PL_t rfl (R_move rfl (P_some rfl (PL_t rfl (R_move rfl ?_)))))))))))))
  refine P_some rfl (PL_t rfl (R_move rfl (P_some rfl (PL_t rfl (R_sub rfl rfl (P_some rfl (PL_f rfl (O_call (all := [.agg #[.int .i64 s1.Step, .int .i64 s1.Max, .int .i64 s1.Base, .int .i64 s1.Slope, .int .i64 s1.Drift, .int .i64 s1.Checked], .int .i64 shown1, .int .i64 t1, .int .i64 (-1), .int .i64 shown1]) rfl rfl rfl ?_))))))))
  obtain ⟨r4, hx4, h⟩ := obind h
  refine recyclingref26_reach_fn  hx4 (?_)
  refine ⟨Kept.ofT (keep := [[(g1, .cells #[.int .i64 s1.Step, .int .i64 s1.Max, .int .i64 s1.Base, .int .i64 s1.Slope, .int .i64 s1.Drift, .int .i64 s1.Checked] 52 (0, 0))]]) (A := [[(g1, .cells #[.int .i64 s1.Step, .int .i64 s1.Max, .int .i64 s1.Base, .int .i64 s1.Slope, .int .i64 s1.Drift, .int .i64 s1.Checked] 52 (0, 0))], [(g2, .cells #[.int .i64 0, .int .i64 0] 31 (0, 0))]]) (by simp), ?_⟩
  refine P_some rfl (PL_t rfl (R_sub rfl rfl (P_some rfl (PL_f rfl (O_call (all := [.agg #[.int .i64 s1.Step, .int .i64 s1.Max, .int .i64 s1.Base, .int .i64 s1.Slope, .int .i64 s1.Drift, .int .i64 s1.Checked], .int .i64 shown1, .int .i64 t1, .int .i64 1, .int .i64 (w64 (1073741824 - shown1))]) rfl rfl rfl ?_)))))
  obtain ⟨r5, hx5, h⟩ := obind h
  refine recyclingref26_reach_fn  hx5 (?_)
  refine ⟨Kept.ofT (keep := [[(g1, .cells #[.int .i64 s1.Step, .int .i64 s1.Max, .int .i64 s1.Base, .int .i64 s1.Slope, .int .i64 s1.Drift, .int .i64 s1.Checked] 52 (0, 0))]]) (A := [[(g1, .cells #[.int .i64 s1.Step, .int .i64 s1.Max, .int .i64 s1.Base, .int .i64 s1.Slope, .int .i64 s1.Drift, .int .i64 s1.Checked] 52 (0, 0))], [(g2, .cells #[.int .i64 0, .int .i64 0] 31 (0, 0))]]) (by simp), ?_⟩
  refine P_some rfl (PL_t rfl (R_add rfl rfl (P_some rfl (PL_t rfl (R_build rfl rfl rfl rfl (F_cons (cells' := [.int .i64 (w64 (shown1 - r4)), .int .i64 0]) rfl rfl rfl rfl (F_cons (cells' := [.int .i64 (w64 (shown1 - r4)), .int .i64 (w64 (shown1 + r5))]) rfl rfl rfl rfl (F_nil (P_some rfl (PL_f rfl (O_store (vs := [.int .i64 (w64 (shown1 - r4)), .int .i64 (w64 (shown1 + r5))]) rfl rfl rfl rfl rfl rfl (ST_ (L' := ([(g1, .cells #[.int .i64 s1.Step, .int .i64 s1.Max, .int .i64 s1.Base, .int .i64 s1.Slope, .int .i64 s1.Drift, .int .i64 s1.Checked] 52 (0, 0))] :: [(g2, .cells #[.int .i64 (w64 (shown1 - r4)), .int .i64 (w64 (shown1 + r5))] 31 (0, 0))] :: L)) 1 0 rfl rfl rfl rfl ?_))))))))))))
  refine ⟨Kept.ofT (keep := [[(g1, .cells #[.int .i64 s1.Step, .int .i64 s1.Max, .int .i64 s1.Base, .int .i64 s1.Slope, .int .i64 s1.Drift, .int .i64 s1.Checked] 52 (0, 0))]]) (A := [[(g1, .cells #[.int .i64 s1.Step, .int .i64 s1.Max, .int .i64 s1.Base, .int .i64 s1.Slope, .int .i64 s1.Drift, .int .i64 s1.Checked] 52 (0, 0))], [(g2, .cells #[.int .i64 (w64 (shown1 - r4)), .int .i64 (w64 (shown1 + r5))] 31 (0, 0))]]) (by simp), ?_⟩
  refine P_none (PL_t rfl (R_assign rfl (P_some rfl (PL_nil (AN.done0 (by kernel_rfl) (hK1013 _ _ _ (WP.ret ?_)))))))
  have e_ := Option.some.inj h
  obtain ⟨e0a_, e0b_⟩ := Prod.mk.inj e_
  clear e_
  subst e0a_
  subst e0b_
  refine S_cell rfl rfl rfl rfl (LA_ (vs := [.int .i64 (w64 (shown1 - r4)), .int .i64 (w64 (shown1 + r5))]) 1 0 rfl rfl rfl rfl (S_tmp rfl (S_nil (Upd.selS [] 2 ?_))))
  exact Upd.done hR

theorem recyclingref27_fault_fn {μ : Gh} {L : List Seg} {R : Value → Gh → List Seg → Prop} {F : Nat} {s1 : (List T_api_Scale)} {x1 : T_api_Ticket} {A1 : Option Addr} {c1 : Nat} {res1 : Int}
    (hl1 : s1.length ≤ c1 ∧ c1 ≤ maxLen) (hA1 : Rds r_api_Scale μ L A1 s1) (h : recyclingref27_fault F s1 x1 = some res1)
    (hR : R (.int .i64 res1) μ (L)) :
    Fn Try.prog 30 [.slice A1 s1.length c1, .agg #[.int .i64 x1.ID, .int .i64 x1.Scale, .int .i64 x1.At, .int .i64 x1.Gross, .int .i64 x1.Tare, .int .i64 x1.Replaces]] μ (L) R := by
  unfold recyclingref27_fault at h
  refine Fn.of_body Tt_ok Try.func30 (by kernel_rfl) rfl Try.ntmps30 (by simp) ?_
  simp only [Try.f30, argFr, List.zipIdx, List.map, Nat.reduceAdd]
  refine WP.seq_k (fun K958 hK958 => WP.region Tt_ok (O_cons (O_box (cs := #[.int .i64 x1.ID, .int .i64 x1.Scale, .int .i64 x1.At, .int .i64 x1.Gross, .int .i64 x1.Tare, .int .i64 x1.Replaces]) rfl rfl (fun g1 => P_some rfl (O_cons (O_read rfl (R_assign rfl (P_some rfl (O_nil (hK958 _ _ _ (WP.seq_k (fun K960 hK960 => WP.seq_k (fun K961 hK961 => ?_)))))))))))))
  obtain ⟨o962, h962, h⟩ := obind h
  refine WP.cutK (fun fr_ μ_ L_ => ∃ (v1 : Bool), v1 = o962 ∧ SubFr [(0, .slice A1 s1.length c1), (3, .pointer (some ⟨g1, 0, none⟩)), (16, .bool v1)] fr_ ∧ SegSub ([(g1, .cells #[.int .i64 x1.ID, .int .i64 x1.Scale, .int .i64 x1.At, .int .i64 x1.Gross, .int .i64 x1.Tare, .int .i64 x1.Replaces] 29 (0, 0))] :: L) L_ ∧ μ = μ_) ?_ ?_
  · refine WP.region Tt_ok (O_cons (O_read rfl (R_fa0 (o' := 0) rfl rfl rfl rfl rfl rfl (P_some rfl (O_cons (O_read rfl (R_load rfl rfl rfl (Ex.mk _ (Cell.seg 0 0 rfl rfl rfl) (P_some rfl (O_cons (O_read rfl (R_lssD rfl rfl (P_some rfl ?_)))))))))))))
    refine O_cons (O_read rfl (R_move rfl (P_some rfl ?_)))
    refine O_gv (z := (decide (x1.ID < 1))) rfl rfl (fun hc1 => ?_) (fun hc1 => ?_)
    · replace h962 := cond_f hc1 h962
      refine O_read rfl (R_fa0 (o' := 0) rfl rfl rfl rfl rfl rfl (P_some rfl (O_gY rfl rfl hc1 (O_read rfl (R_load rfl rfl rfl (Ex.mk _ (Cell.seg 0 0 rfl rfl rfl) (P_some rfl (O_gY rfl rfl hc1 (O_read rfl (R_gtrD rfl rfl (P_some rfl (O_cons (O_read rfl ?_)))))))))))))
      refine R_pick_F rfl hc1 rfl (P_some rfl (O_nil ?_))
      have e_ := Option.some.inj h962
      subst e_
      exact ⟨(decide (1000000 < x1.ID)), rfl, SubFr.of ⟨rfl, rfl, rfl, trivial⟩, SegSub.sel _ [some 0] 1, rfl⟩
    replace h962 := cond_t hc1 h962
    refine P_some rfl (O_gN rfl rfl hc1 (P_some rfl (O_gN rfl rfl hc1 (P_some rfl (O_cons (O_read rfl (R_pick_T rfl hc1 rfl (P_some rfl (O_nil ?_)))))))))
    have e_ := Option.some.inj h962
    subst e_
    exact ⟨true, rfl, SubFr.of ⟨rfl, rfl, rfl, trivial⟩, SegSub.sel _ [some 0] 1, rfl⟩
  rintro fr962 μ962 L962 hm962 ⟨v1, ho962, hF962, hS962, hu962⟩
  subst ho962
  subst hu962
  refine hK961 _ _ _ (WP.at hF962 hS962 ?_)
  refine W_cond_v (b := v1) rfl (fun hc2 => ?_) (fun hc2 => ?_)
  · replace h := cond_t hc2 h
    refine WP.seq_k (fun K965 hK965 => WP.region Tt_ok (O_cons (O_read rfl (R_assign rfl (P_some rfl (O_nil (hK965 _ _ _ (WP.ret ?_))))))))
    have e_ := Option.some.inj h
    subst e_
    refine S_tmp rfl (S_nil (Upd.selS [] 1 ?_))
    exact Upd.done hR
  replace h := cond_f hc2 h
  refine WP.skip (hK960 _ _ _ (WP.seq_k (fun K966 hK966 => WP.seq_k (fun K967 hK967 => ?_))))
  obtain ⟨o968, h968, h⟩ := obind h
  refine WP.cutK (fun fr_ μ_ L_ => ∃ (v2 : Bool), v2 = o968 ∧ SubFr [(0, .slice A1 s1.length c1), (3, .pointer (some ⟨g1, 0, none⟩)), (26, .bool v2)] fr_ ∧ SegSub ([(g1, .cells #[.int .i64 x1.ID, .int .i64 x1.Scale, .int .i64 x1.At, .int .i64 x1.Gross, .int .i64 x1.Tare, .int .i64 x1.Replaces] 29 (0, 0))] :: L) L_ ∧ μ = μ_) ?_ ?_
  · refine WP.region Tt_ok (O_cons (O_read rfl (R_fa0 (o' := 1) rfl rfl rfl rfl rfl rfl (P_some rfl (O_cons (O_read rfl (R_load rfl rfl rfl (Ex.mk _ (Cell.seg 0 0 rfl rfl rfl) (P_some rfl (O_cons (O_read rfl (R_lssD rfl rfl (P_some rfl ?_)))))))))))))
    refine O_cons (O_read rfl (R_move rfl (P_some rfl ?_)))
    refine O_gv (z := (decide (x1.Scale < 0))) rfl rfl (fun hc3 => ?_) (fun hc3 => ?_)
    · replace h968 := cond_f hc3 h968
      refine O_read rfl (R_fa0 (o' := 1) rfl rfl rfl rfl rfl rfl (P_some rfl (O_gY rfl rfl hc3 (O_read rfl (R_load rfl rfl rfl (Ex.mk _ (Cell.seg 0 0 rfl rfl rfl) (P_some rfl (O_gY rfl rfl hc3 (O_read rfl (R_move rfl (P_some rfl (O_gY rfl rfl hc3 (O_read rfl ?_)))))))))))))
      refine R_lenS rfl rfl rfl (P_some rfl (O_gY rfl rfl hc3 (O_read rfl (R_geqD rfl rfl (P_some rfl (O_cons (O_read rfl (R_pick_F rfl hc3 rfl (P_some rfl (O_nil ?_))))))))))
      have e_ := Option.some.inj h968
      subst e_
      exact ⟨(decide (((s1.length : Nat) : Int) ≤ x1.Scale)), rfl, SubFr.of ⟨rfl, rfl, rfl, trivial⟩, SegSub.sel _ [some 0] 1, rfl⟩
    replace h968 := cond_t hc3 h968
    refine P_some rfl (O_gN rfl rfl hc3 (P_some rfl (O_gN rfl rfl hc3 (P_some rfl (O_gN rfl rfl hc3 (P_some rfl (O_gN rfl rfl hc3 (P_some rfl (O_cons (O_read rfl (R_pick_T rfl hc3 rfl (P_some rfl (O_nil ?_)))))))))))))
    have e_ := Option.some.inj h968
    subst e_
    exact ⟨true, rfl, SubFr.of ⟨rfl, rfl, rfl, trivial⟩, SegSub.sel _ [some 0] 1, rfl⟩
  rintro fr968 μ968 L968 hm968 ⟨v2, ho968, hF968, hS968, hu968⟩
  subst ho968
  subst hu968
  refine hK967 _ _ _ (WP.at hF968 hS968 ?_)
  refine W_cond_v (b := v2) rfl (fun hc4 => ?_) (fun hc4 => ?_)
  · replace h := cond_t hc4 h
    refine WP.seq_k (fun K971 hK971 => WP.region Tt_ok (O_cons (O_read rfl (R_assign rfl (P_some rfl (O_nil (hK971 _ _ _ (WP.ret ?_))))))))
    have e_ := Option.some.inj h
    subst e_
    refine S_tmp rfl (S_nil (Upd.selS [] 1 ?_))
    exact Upd.done hR
  replace h := cond_f hc4 h
  refine WP.skip (hK966 _ _ _ (WP.seq_k (fun K972 hK972 => WP.seq_k (fun K973 hK973 => ?_))))
  obtain ⟨o974, h974, h⟩ := obind h
  refine WP.cutK (fun fr_ μ_ L_ => ∃ (v3 : Bool), v3 = o974 ∧ SubFr [(0, .slice A1 s1.length c1), (3, .pointer (some ⟨g1, 0, none⟩)), (34, .bool v3)] fr_ ∧ SegSub ([(g1, .cells #[.int .i64 x1.ID, .int .i64 x1.Scale, .int .i64 x1.At, .int .i64 x1.Gross, .int .i64 x1.Tare, .int .i64 x1.Replaces] 29 (0, 0))] :: L) L_ ∧ μ = μ_) ?_ ?_
  · refine WP.region Tt_ok (O_cons (O_read rfl (R_fa0 (o' := 2) rfl rfl rfl rfl rfl rfl (P_some rfl (O_cons (O_read rfl (R_load rfl rfl rfl (Ex.mk _ (Cell.seg 0 0 rfl rfl rfl) (P_some rfl (O_cons (O_read rfl (R_lssD rfl rfl (P_some rfl ?_)))))))))))))
    refine O_cons (O_read rfl (R_move rfl (P_some rfl ?_)))
    refine O_gv (z := (decide (x1.At < 0))) rfl rfl (fun hc5 => ?_) (fun hc5 => ?_)
    · replace h974 := cond_f hc5 h974
      refine O_read rfl (R_fa0 (o' := 2) rfl rfl rfl rfl rfl rfl (P_some rfl (O_gY rfl rfl hc5 (O_read rfl (R_load rfl rfl rfl (Ex.mk _ (Cell.seg 0 0 rfl rfl rfl) (P_some rfl (O_gY rfl rfl hc5 (O_read rfl (R_gtrD rfl rfl (P_some rfl (O_cons (O_read rfl ?_)))))))))))))
      refine R_pick_F rfl hc5 rfl (P_some rfl (O_nil ?_))
      have e_ := Option.some.inj h974
      subst e_
      exact ⟨(decide (3155759999 < x1.At)), rfl, SubFr.of ⟨rfl, rfl, rfl, trivial⟩, SegSub.sel _ [some 0] 1, rfl⟩
    replace h974 := cond_t hc5 h974
    refine P_some rfl (O_gN rfl rfl hc5 (P_some rfl (O_gN rfl rfl hc5 (P_some rfl (O_cons (O_read rfl (R_pick_T rfl hc5 rfl (P_some rfl (O_nil ?_)))))))))
    have e_ := Option.some.inj h974
    subst e_
    exact ⟨true, rfl, SubFr.of ⟨rfl, rfl, rfl, trivial⟩, SegSub.sel _ [some 0] 1, rfl⟩
  rintro fr974 μ974 L974 hm974 ⟨v3, ho974, hF974, hS974, hu974⟩
  subst ho974
  subst hu974
  refine hK973 _ _ _ (WP.at hF974 hS974 ?_)
  refine W_cond_v (b := v3) rfl (fun hc6 => ?_) (fun hc6 => ?_)
  · replace h := cond_t hc6 h
    refine WP.seq_k (fun K977 hK977 => WP.region Tt_ok (O_cons (O_read rfl (R_assign rfl (P_some rfl (O_nil (hK977 _ _ _ (WP.ret ?_))))))))
    have e_ := Option.some.inj h
    subst e_
    refine S_tmp rfl (S_nil (Upd.selS [] 1 ?_))
    exact Upd.done hR
  replace h := cond_f hc6 h
  refine WP.skip (hK972 _ _ _ (WP.seq_k (fun K978 hK978 => WP.seq_k (fun K979 hK979 => ?_))))
  obtain ⟨o1095, h1095, h⟩ := obind h
  refine WP.cutK (fun fr_ μ_ L_ => ∃ (e1 : Int), e1 = o1095 ∧ SubFr [(0, .slice A1 s1.length c1), (3, .pointer (some ⟨g1, 0, none⟩)), (6, .int .i64 e1)] fr_ ∧ SegSub ([(g1, .cells #[.int .i64 x1.ID, .int .i64 x1.Scale, .int .i64 x1.At, .int .i64 x1.Gross, .int .i64 x1.Tare, .int .i64 x1.Replaces] 29 (0, 0))] :: L) L_ ∧ μ = μ_) ?_ ?_
  · refine WP.draw (id := 7) wide _ Kept.refl rfl (AN.run (fuel := 7) (listed' := [true, true, true, true, true, true, true, true, true, false, false, false, false, false, false, false]) Tt_ok [(true, 0), (true, 1), (true, 2), (true, 3), (true, 4), (true, 5), (true, 6), (true, 7), (true, 8)] (by kernel_rfl) (by kernel_rfl) rfl (PL_t rfl (R_move rfl (P_some rfl (PL_t rfl (R_fa0 (o' := 1) rfl rfl rfl rfl rfl rfl (P_some rfl (PL_t rfl (R_load rfl rfl rfl (Ex.mk _ (Cell.seg 0 0 rfl rfl rfl) (P_some rfl (PL_t rfl ?_))))))))))))
    obtain ⟨x2, hx1, h1095⟩ := obind h1095
    obtain ⟨a1, cs1, hA2, hr1, _, hc7⟩ := Rds.getI hA1 hx1
    obtain rfl := hr1
    refine R_iaG rfl rfl rfl rfl rfl rfl ⟨(getI_lt hx1).1, (getI_lt hx1).2.1⟩ hA2 (P_some rfl (PL_t rfl (R_loadA rfl rfl rfl rfl (Ex.mk [.int .i64 x2.Step, .int .i64 x2.Max, .int .i64 x2.Base, .int .i64 x2.Slope, .int .i64 x2.Drift, .int .i64 x2.Checked] ⟨rfl, (hc7.push)⟩ (P_some rfl (PL_t rfl (R_fa0 (o' := 3) rfl rfl rfl rfl rfl rfl (P_some rfl (PL_t rfl (R_load rfl rfl rfl (Ex.mk _ (Cell.seg 0 0 rfl rfl rfl) (P_some rfl (PL_t rfl ?_)))))))))))))
    refine R_fa0 (o' := 2) rfl rfl rfl rfl rfl rfl (P_some rfl (PL_t rfl (R_load rfl rfl rfl (Ex.mk _ (Cell.seg 0 0 rfl rfl rfl) (P_some rfl (PL_nil ?_))))))
    refine FK_2 Tt_ok (a := 9) (b := 13) (by kernel_rfl) ?_ ?_
    · refine FO_ rfl rfl (O_call (all := [.agg #[.int .i64 x2.Step, .int .i64 x2.Max, .int .i64 x2.Base, .int .i64 x2.Slope, .int .i64 x2.Drift, .int .i64 x2.Checked], .int .i64 x1.Gross, .int .i64 x1.At]) rfl rfl rfl ?_)
      obtain ⟨⟨r1, r2⟩, hx2, h1095⟩ := obind h1095
      replace h1095 := oun_mk h1095
      refine recyclingref26_True_fn  hx2 (?_)
      refine ⟨Kept.refl, ?_⟩
      refine P_some rfl (AN.run (fuel := 0) (listed' := [true, true, true, true, true, true, true, true, true, true, true, true, true, true, true, true]) Tt_ok [(true, 10), (true, 11), (true, 12), (false, 13), (false, 14), (true, 15)] (by kernel_rfl) (by kernel_rfl) rfl (PL_t rfl (R_move rfl (P_some rfl (PL_t rfl (R_ext rfl rfl (P_some rfl (PL_t rfl (R_ext rfl rfl (P_some rfl (PL_f rfl (O_alloc (cs := #[.int .i64 0, .int .i64 0]) rfl rfl (fun g2 => ?_)))))))))))))
      refine ⟨Kept.more (Kept.refl), ?_⟩
      refine P_some rfl (PL_f rfl (O_store (vs := [.int .i64 r1.Lo, .int .i64 r1.Hi]) rfl rfl rfl rfl rfl rfl (ST_ (L' := ([(g2, .cells #[.int .i64 r1.Lo, .int .i64 r1.Hi] 31 (0, 0))] :: [(g1, .cells #[.int .i64 x1.ID, .int .i64 x1.Scale, .int .i64 x1.At, .int .i64 x1.Gross, .int .i64 x1.Tare, .int .i64 x1.Replaces] 29 (0, 0))] :: L)) 0 0 rfl rfl rfl rfl ?_)))
      refine ⟨Kept.more (Kept.refl), ?_⟩
      refine P_none (PL_t rfl (R_assign rfl (P_some rfl (PL_nil (AN.done0 (by kernel_rfl) ?_)))))
      have e_ := Option.some.inj h1095
      subst e_
      exact ⟨r2, rfl, SubFr.of ⟨rfl, rfl, rfl, trivial⟩, SegSub.sel _ [some 1] 2, rfl⟩
    obtain ⟨⟨r1, r2⟩, hx2, h1095⟩ := obind h1095
    replace h1095 := oun_mk h1095
    refine FO_ rfl rfl (O_alloc (cs := #[.int .i64 0, .int .i64 0]) rfl rfl (fun g2 => ?_))
    refine ⟨Kept.more (Kept.refl), ?_⟩
    refine P_some rfl (AN.run (fuel := 0) (listed' := [true, true, true, true, true, true, true, true, true, true, true, true, true, true, true, true]) Tt_ok [(false, 9), (true, 10), (true, 11), (true, 12), (false, 14), (true, 15)] (by kernel_rfl) (by kernel_rfl) rfl (PL_f rfl (O_call (all := [.agg #[.int .i64 x2.Step, .int .i64 x2.Max, .int .i64 x2.Base, .int .i64 x2.Slope, .int .i64 x2.Drift, .int .i64 x2.Checked], .int .i64 x1.Gross, .int .i64 x1.At]) rfl rfl rfl (recyclingref26_True_fn  hx2 (?_)))))
    refine ⟨Kept.more (Kept.refl), ?_⟩
    refine P_some rfl (PL_t rfl (R_move rfl (P_some rfl (PL_t rfl (R_ext rfl rfl (P_some rfl (PL_t rfl (R_ext rfl rfl (P_some rfl (PL_f rfl (O_store (vs := [.int .i64 r1.Lo, .int .i64 r1.Hi]) rfl rfl rfl rfl rfl rfl (ST_ (L' := ([(g2, .cells #[.int .i64 r1.Lo, .int .i64 r1.Hi] 31 (0, 0))] :: [(g1, .cells #[.int .i64 x1.ID, .int .i64 x1.Scale, .int .i64 x1.At, .int .i64 x1.Gross, .int .i64 x1.Tare, .int .i64 x1.Replaces] 29 (0, 0))] :: L)) 0 0 rfl rfl rfl rfl ?_))))))))))))
    refine ⟨Kept.more (Kept.refl), ?_⟩
    refine P_none (PL_t rfl (R_assign rfl (P_some rfl (PL_nil (AN.done0 (by kernel_rfl) ?_)))))
    have e_ := Option.some.inj h1095
    subst e_
    exact ⟨r2, rfl, SubFr.of ⟨rfl, rfl, rfl, trivial⟩, SegSub.sel _ [some 1] 2, rfl⟩
  rintro fr1095 μ1095 L1095 hm1095 ⟨e1, ho1095, hF1095, hS1095, hu1095⟩
  subst ho1095
  subst hu1095
  refine hK979 _ _ _ (WP.at hF1095 hS1095 (WP.seq_k (fun K1110 hK1110 => WP.region Tt_ok (O_cons (O_read rfl (R_move rfl (P_some rfl (O_cons (O_read rfl (R_neqD rfl rfl (P_some rfl (O_nil (hK1110 _ _ _ ?_)))))))))))))
  refine W_cond_v (b := !(decide (e1 = 0))) rfl (fun hc8 => ?_) (fun hc8 => ?_)
  · replace h := cond_t hc8 h
    refine WP.seq_k (fun K1111 hK1111 => WP.region Tt_ok (O_cons (O_read rfl (R_move rfl (P_some rfl (O_cons (O_read rfl (R_assign rfl (P_some rfl (O_nil (hK1111 _ _ _ (WP.ret ?_))))))))))))
    have e_ := Option.some.inj h
    subst e_
    refine S_tmp rfl (S_nil (Upd.selS [] 1 ?_))
    exact Upd.done hR
  replace h := cond_f hc8 h
  refine WP.skip (hK978 _ _ _ (WP.seq_k (fun K1112 hK1112 => WP.seq_k (fun K1113 hK1113 => ?_))))
  obtain ⟨o1120, h1120, h⟩ := obind h
  refine WP.cutK (fun fr_ μ_ L_ => ∃ (e2 : Int), e2 = o1120 ∧ SubFr [(3, .pointer (some ⟨g1, 0, none⟩)), (8, .int .i64 e2)] fr_ ∧ SegSub ([(g1, .cells #[.int .i64 x1.ID, .int .i64 x1.Scale, .int .i64 x1.At, .int .i64 x1.Gross, .int .i64 x1.Tare, .int .i64 x1.Replaces] 29 (0, 0))] :: L) L_ ∧ μ = μ_) ?_ ?_
  · refine WP.draw (id := 10) wide _ Kept.refl rfl (AN.run (fuel := 7) (listed' := [true, true, true, true, true, true, true, true, true, false, false, false, false, false, false, false]) Tt_ok [(true, 0), (true, 1), (true, 2), (true, 3), (true, 4), (true, 5), (true, 6), (true, 7), (true, 8)] (by kernel_rfl) (by kernel_rfl) rfl (PL_t rfl (R_move rfl (P_some rfl (PL_t rfl (R_fa0 (o' := 1) rfl rfl rfl rfl rfl rfl (P_some rfl (PL_t rfl (R_load rfl rfl rfl (Ex.mk _ (Cell.seg 0 0 rfl rfl rfl) (P_some rfl (PL_t rfl ?_))))))))))))
    obtain ⟨x3, hx3, h1120⟩ := obind h1120
    obtain ⟨a2, cs2, hA3, hr2, _, hc9⟩ := Rds.getI hA1 hx3
    obtain rfl := hr2
    refine R_iaG rfl rfl rfl rfl rfl rfl ⟨(getI_lt hx3).1, (getI_lt hx3).2.1⟩ hA3 (P_some rfl (PL_t rfl (R_loadA rfl rfl rfl rfl (Ex.mk [.int .i64 x3.Step, .int .i64 x3.Max, .int .i64 x3.Base, .int .i64 x3.Slope, .int .i64 x3.Drift, .int .i64 x3.Checked] ⟨rfl, (hc9.push)⟩ (P_some rfl (PL_t rfl (R_fa0 (o' := 4) rfl rfl rfl rfl rfl rfl (P_some rfl (PL_t rfl (R_load rfl rfl rfl (Ex.mk _ (Cell.seg 0 0 rfl rfl rfl) (P_some rfl (PL_t rfl ?_)))))))))))))
    refine R_fa0 (o' := 2) rfl rfl rfl rfl rfl rfl (P_some rfl (PL_t rfl (R_load rfl rfl rfl (Ex.mk _ (Cell.seg 0 0 rfl rfl rfl) (P_some rfl (PL_nil ?_))))))
    refine FK_2 Tt_ok (a := 9) (b := 13) (by kernel_rfl) ?_ ?_
    · refine FO_ rfl rfl (O_call (all := [.agg #[.int .i64 x3.Step, .int .i64 x3.Max, .int .i64 x3.Base, .int .i64 x3.Slope, .int .i64 x3.Drift, .int .i64 x3.Checked], .int .i64 x1.Tare, .int .i64 x1.At]) rfl rfl rfl ?_)
      obtain ⟨⟨r3, r4⟩, hx4, h1120⟩ := obind h1120
      replace h1120 := oun_mk h1120
      refine recyclingref26_True_fn  hx4 (?_)
      refine ⟨Kept.refl, ?_⟩
      refine P_some rfl (AN.run (fuel := 0) (listed' := [true, true, true, true, true, true, true, true, true, true, true, true, true, true, true, true]) Tt_ok [(true, 10), (true, 11), (true, 12), (false, 13), (false, 14), (true, 15)] (by kernel_rfl) (by kernel_rfl) rfl (PL_t rfl (R_move rfl (P_some rfl (PL_t rfl (R_ext rfl rfl (P_some rfl (PL_t rfl (R_ext rfl rfl (P_some rfl (PL_f rfl (O_alloc (cs := #[.int .i64 0, .int .i64 0]) rfl rfl (fun g3 => ?_)))))))))))))
      refine ⟨Kept.more (Kept.refl), ?_⟩
      refine P_some rfl (PL_f rfl (O_store (vs := [.int .i64 r3.Lo, .int .i64 r3.Hi]) rfl rfl rfl rfl rfl rfl (ST_ (L' := ([(g3, .cells #[.int .i64 r3.Lo, .int .i64 r3.Hi] 31 (0, 0))] :: [(g1, .cells #[.int .i64 x1.ID, .int .i64 x1.Scale, .int .i64 x1.At, .int .i64 x1.Gross, .int .i64 x1.Tare, .int .i64 x1.Replaces] 29 (0, 0))] :: L)) 0 0 rfl rfl rfl rfl ?_)))
      refine ⟨Kept.more (Kept.refl), ?_⟩
      refine P_none (PL_t rfl (R_assign rfl (P_some rfl (PL_nil (AN.done0 (by kernel_rfl) ?_)))))
      have e_ := Option.some.inj h1120
      subst e_
      exact ⟨r4, rfl, SubFr.of ⟨rfl, rfl, trivial⟩, SegSub.sel _ [some 1] 2, rfl⟩
    obtain ⟨⟨r3, r4⟩, hx4, h1120⟩ := obind h1120
    replace h1120 := oun_mk h1120
    refine FO_ rfl rfl (O_alloc (cs := #[.int .i64 0, .int .i64 0]) rfl rfl (fun g3 => ?_))
    refine ⟨Kept.more (Kept.refl), ?_⟩
    refine P_some rfl (AN.run (fuel := 0) (listed' := [true, true, true, true, true, true, true, true, true, true, true, true, true, true, true, true]) Tt_ok [(false, 9), (true, 10), (true, 11), (true, 12), (false, 14), (true, 15)] (by kernel_rfl) (by kernel_rfl) rfl (PL_f rfl (O_call (all := [.agg #[.int .i64 x3.Step, .int .i64 x3.Max, .int .i64 x3.Base, .int .i64 x3.Slope, .int .i64 x3.Drift, .int .i64 x3.Checked], .int .i64 x1.Tare, .int .i64 x1.At]) rfl rfl rfl (recyclingref26_True_fn  hx4 (?_)))))
    refine ⟨Kept.more (Kept.refl), ?_⟩
    refine P_some rfl (PL_t rfl (R_move rfl (P_some rfl (PL_t rfl (R_ext rfl rfl (P_some rfl (PL_t rfl (R_ext rfl rfl (P_some rfl (PL_f rfl (O_store (vs := [.int .i64 r3.Lo, .int .i64 r3.Hi]) rfl rfl rfl rfl rfl rfl (ST_ (L' := ([(g3, .cells #[.int .i64 r3.Lo, .int .i64 r3.Hi] 31 (0, 0))] :: [(g1, .cells #[.int .i64 x1.ID, .int .i64 x1.Scale, .int .i64 x1.At, .int .i64 x1.Gross, .int .i64 x1.Tare, .int .i64 x1.Replaces] 29 (0, 0))] :: L)) 0 0 rfl rfl rfl rfl ?_))))))))))))
    refine ⟨Kept.more (Kept.refl), ?_⟩
    refine P_none (PL_t rfl (R_assign rfl (P_some rfl (PL_nil (AN.done0 (by kernel_rfl) ?_)))))
    have e_ := Option.some.inj h1120
    subst e_
    exact ⟨r4, rfl, SubFr.of ⟨rfl, rfl, trivial⟩, SegSub.sel _ [some 1] 2, rfl⟩
  rintro fr1120 μ1120 L1120 hm1120 ⟨e2, ho1120, hF1120, hS1120, hu1120⟩
  subst ho1120
  subst hu1120
  refine hK1113 _ _ _ (WP.at hF1120 hS1120 (WP.seq_k (fun K1135 hK1135 => WP.region Tt_ok (O_cons (O_read rfl (R_move rfl (P_some rfl (O_cons (O_read rfl (R_neqD rfl rfl (P_some rfl (O_nil (hK1135 _ _ _ ?_)))))))))))))
  refine W_cond_v (b := !(decide (e2 = 0))) rfl (fun hc10 => ?_) (fun hc10 => ?_)
  · replace h := cond_t hc10 h
    refine WP.seq_k (fun K1136 hK1136 => WP.region Tt_ok (O_cons (O_read rfl (R_move rfl (P_some rfl (O_cons (O_read rfl (R_assign rfl (P_some rfl (O_nil (hK1136 _ _ _ (WP.ret ?_))))))))))))
    have e_ := Option.some.inj h
    subst e_
    refine S_tmp rfl (S_nil (Upd.selS [] 1 ?_))
    exact Upd.done hR
  replace h := cond_f hc10 h
  refine WP.skip (hK1112 _ _ _ (WP.seq_k (fun K1137 hK1137 => WP.seq_k (fun K1138 hK1138 => WP.region Tt_ok (O_cons (O_read rfl (R_fa0 (o' := 3) rfl rfl rfl rfl rfl rfl (P_some rfl (O_cons (O_read rfl (R_load rfl rfl rfl (Ex.mk _ (Cell.seg 0 0 rfl rfl rfl) (P_some rfl ?_)))))))))))))
  refine O_cons (O_read rfl (R_fa0 (o' := 4) rfl rfl rfl rfl rfl rfl (P_some rfl (O_cons (O_read rfl (R_load rfl rfl rfl (Ex.mk _ (Cell.seg 0 0 rfl rfl rfl) (P_some rfl (O_cons (O_read rfl (R_lssD rfl rfl (P_some rfl (O_nil ?_)))))))))))))
  refine hK1138 _ _ _ ?_
  refine W_cond_v (b := (decide (x1.Gross < x1.Tare))) rfl (fun hc11 => ?_) (fun hc11 => ?_)
  · replace h := cond_t hc11 h
    refine WP.seq_k (fun K1139 hK1139 => WP.region Tt_ok (O_cons (O_read rfl (R_assign rfl (P_some rfl (O_nil (hK1139 _ _ _ (WP.ret ?_))))))))
    have e_ := Option.some.inj h
    subst e_
    refine S_tmp rfl (S_nil (Upd.selS [] 1 ?_))
    exact Upd.done hR
  replace h := cond_f hc11 h
  refine WP.skip (hK1137 _ _ _ (WP.seq_k (fun K1140 hK1140 => WP.region Tt_ok (O_cons (O_read rfl (R_assign rfl (P_some rfl (O_nil (hK1140 _ _ _ (WP.ret ?_))))))))))
  have e_ := Option.some.inj h
  subst e_
  refine S_tmp rfl (S_nil (Upd.selS [] 1 ?_))
  exact Upd.done hR

theorem recyclingref27_place_fn {μ : Gh} {L : List Seg} {R : Value → Gh → List Seg → Prop}  {l1 : (List T_api_Ticket)} {n1 : Int} {id1 : Int} {A1 : Option Addr} {c1 : Nat} {res1 : Int}
    (hl1 : l1.length ≤ c1 ∧ c1 ≤ maxLen) (hA1 : Rds r_api_Ticket μ L A1 l1) (h : recyclingref27_place l1 n1 id1 = some res1)
    (hR : R (.int .i64 res1) μ (L)) :
    Fn Try.prog 37 [.slice A1 l1.length c1, .int .i64 n1, .int .i64 id1] μ (L) R := by
  unfold recyclingref27_place at h
  refine Fn.of_body Tt_ok Try.func37 (by kernel_rfl) rfl Try.ntmps37 (by simp) ?_
  simp only [Try.f37, argFr, List.zipIdx, List.map, Nat.reduceAdd]
  refine WP.seq_k (fun K1182 hK1182 => WP.region Tt_ok (O_cons (O_read rfl (R_assign rfl (P_some rfl (O_nil (hK1182 _ _ _ (WP.seq_k (fun K1183 hK1183 => WP.seq_k (fun K1184 hK1184 => WP.region Tt_ok (O_cons (O_read rfl (R_assign rfl ?_)))))))))))))
  refine P_some rfl (O_nil (hK1184 _ _ _ ?_))
  obtain ⟨o1185, h1185, h⟩ := obind h
  refine WP.cutK (fun fr_ μ_ L_ => (.inl ()) = o1185 ∧ SubFr [] fr_ ∧ SegSub (L) L_ ∧ μ = μ_) ?_ ?_
  · refine WP.block (WP.iter h1185 (fun (i1 : Int) fr_ μ_ L_ => SubFr [(0, .slice A1 l1.length c1), (1, .int .i64 n1), (2, .int .i64 id1), (7, .int .i64 i1)] fr_ ∧ SegSub (L) L_ ∧ μ = μ_) ⟨SubFr.of ⟨rfl, rfl, rfl, rfl, trivial⟩, SegSub.sel _ [] 0, rfl⟩ ?_)
    rintro i1 q1192 fr1192 μ1192 L1192 hm1192 ⟨hF1192, hS1192, hu1192⟩ hb1192 hq1192
    unfold recyclingref27_place_l1 at hb1192
    subst hu1192
    refine WP.at hF1192 hS1192 (WP.seq_k (fun K1193 hK1193 => WP.seq_k (fun K1194 hK1194 => WP.region Tt_ok (O_cons (O_read rfl (R_move rfl (P_some rfl (O_cons (O_read rfl (R_move rfl (P_some rfl (O_cons (O_read rfl ?_)))))))))))))
    refine R_lssD rfl rfl (P_some rfl (O_nil (hK1194 _ _ _ ?_)))
    refine W_cond_v (b := (decide (i1 < n1))) rfl (fun hc1 => ?_) (fun hc1 => ?_)
    · replace hb1192 := cond_t hc1 hb1192
      refine WP.skip (hK1193 _ _ _ (WP.seq_k (fun K1195 hK1195 => WP.block (WP.seq_k (fun K1196 hK1196 => WP.region Tt_ok (O_cons (O_read rfl (R_move rfl (P_some rfl (O_cons (O_read rfl (R_move rfl (P_some rfl ?_)))))))))))))
      apply O_cons
      obtain ⟨x1, hx1, hb1192⟩ := obind hb1192
      obtain ⟨a1, cs1, hA2, hr1, _, hc2⟩ := Rds.getI hA1 hx1
      obtain rfl := hr1
      refine O_read rfl (R_iaG rfl rfl rfl rfl rfl rfl ⟨(getI_lt hx1).1, (getI_lt hx1).2.1⟩ hA2 (P_some rfl (O_cons (O_read rfl (R_faz rfl rfl rfl rfl rfl (P_some rfl (O_cons (O_read rfl (R_load rfl rfl rfl (Ex.mk _ (Cell.of_cells0 hc2 rfl) (P_some rfl (O_cons (O_read rfl ?_)))))))))))))
      refine R_move rfl (P_some rfl (O_cons (O_read rfl (R_eqlD rfl rfl (P_some rfl (O_nil (hK1196 _ _ _ ?_)))))))
      refine W_cond_v (b := (decide (x1.ID = id1))) rfl (fun hc3 => ?_) (fun hc3 => ?_)
      · replace hb1192 := cond_t hc3 hb1192
        refine WP.seq_k (fun K1197 hK1197 => WP.region Tt_ok (O_cons (O_read rfl (R_move rfl (P_some rfl (O_cons (O_read rfl (R_assign rfl (P_some rfl (O_nil (hK1197 _ _ _ (WP.ret ?_))))))))))))
        have e_ := Option.some.inj hb1192
        subst e_
        have hq_ := hq1192 _ rfl
        subst hq_
        replace h := osum_r h
        have e_ := Option.some.inj h
        subst e_
        refine S_tmp rfl (S_nil (Upd.selS [] 0 ?_))
        exact Upd.done hR
      replace hb1192 := cond_f hc3 hb1192
      refine WP.skip (hK1195 _ _ _ (WP.region Tt_ok (O_cons (O_read rfl (R_move rfl (P_some rfl (O_cons (O_read rfl (R_add rfl rfl (P_some rfl (O_cons (O_read rfl (R_assign rfl ?_)))))))))))))
      refine P_some rfl (O_nil ?_)
      have e_ := Option.some.inj hb1192
      subst e_
      exact ⟨_, rfl, SubFr.of ⟨rfl, rfl, rfl, rfl, trivial⟩, SegSub.sel _ [] 0, rfl⟩
    replace hb1192 := cond_f hc1 hb1192
    refine WP.exit (B_here ?_)
    have e_ := Option.some.inj hb1192
    subst e_
    have hq_ := hq1192 _ rfl
    subst hq_
    exact ⟨rfl, SubFr.of trivial, SegSub.sel _ [] 0, rfl⟩
  rintro fr1185 μ1185 L1185 hm1185 ⟨ho1185, hF1185, hS1185, hu1185⟩
  subst ho1185
  replace h := osum_l h
  subst hu1185
  refine hK1183 _ _ _ (WP.at hF1185 hS1185 (WP.seq_k (fun K1198 hK1198 => WP.region Tt_ok (O_cons (O_read rfl (R_assign rfl (P_some rfl (O_nil (hK1198 _ _ _ (WP.ret ?_))))))))))
  have e_ := Option.some.inj h
  subst e_
  refine S_tmp rfl (S_nil (Upd.selS [] 0 ?_))
  exact Upd.done hR

end Go.Proofs.Ytchakbpjokemnaa
