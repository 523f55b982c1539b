/- Printed by gen.py of this repo: the walks that tie the functions to their specifications. -/
import Derived.Test.YtjbminmhndgiaaaTt
import Derived.Test.YtjbminmhndgiaaaTas
import Derived.Test.YtjbminmhndgiaaaTaw1
import Derived.Test.YtjbminmhndgiaaaTaw4
import Derived.Test.YtjbminmhndgiaaaTaw5
namespace Go.Proofs.Ytjbminmhndgiaaa
open Go.RowKit
set_option linter.unusedSimpArgs false
set_option linter.unusedVariables false
attribute [local irreducible] WP SemOk SemU Fn AN Upd vcR vcO vcOps vcPlan putK fillK resK inBlk forkOne Cell StAt Kept

theorem recyclingref20_Carries_fn {μ : Gh} {L : List Seg} {R : Value → Gh → List Seg → Prop}  {v1 : T_api_Vehicle} {kind1 : Int}  {res1 : Bool}
     (h : recyclingref20_Carries v1 kind1 = some res1)
    (hR : R (.bool res1) μ (L)) :
    Fn Try.prog 50 [.agg #[.string v1.ID, .int .i64 v1.Depot, .int .i64 v1.Shift.From, .int .i64 v1.Shift.To, .int .i64 v1.Grams, .int .i64 v1.Kinds], .int .i64 kind1] μ (L) R := by
  unfold recyclingref20_Carries at h
  refine Fn.of_body Tt_ok Try.func50 (by kernel_rfl) rfl Try.ntmps50 (by simp) ?_
  simp only [Try.f50, argFr, List.zipIdx, List.map, Nat.reduceAdd]
  refine WP.seq_k (fun K6577 hK6577 => WP.region Tt_ok (O_cons (O_box (cs := #[.string v1.ID, .int .i64 v1.Depot, .int .i64 v1.Shift.From, .int .i64 v1.Shift.To, .int .i64 v1.Grams, .int .i64 v1.Kinds]) rfl rfl (fun g1 => Pc rfl rfl (R_assign rfl (Pn rfl (hK6577 _ _ _ (WP.seq_k (fun K6579 hK6579 => WP.seq_k (fun K6580 hK6580 => ?_))))))))))
  obtain ⟨o6581, h6581, h⟩ := obind h
  refine WP.cutK (fun fr_ μ_ L_ => ∃ (v2 : Bool), v2 = o6581 ∧ SubFr [(1, .int .i64 kind1), (2, .pointer (some ⟨g1, 0, none⟩)), (10, .bool v2)] fr_ ∧ SegSub ([(g1, .cells #[.string v1.ID, .int .i64 v1.Depot, .int .i64 v1.Shift.From, .int .i64 v1.Shift.To, .int .i64 v1.Grams, .int .i64 v1.Kinds] 46 (0, 0))] :: L) L_ ∧ μ = μ_) ?_ ?_
  · refine Wr Tt_ok rfl (R_move rfl (Pc rfl rfl (R_lssD rfl rfl (Pc rfl rfl (R_move rfl (P_some rfl ?_))))))
    refine O_gv (z := (decide (kind1 < 0))) rfl rfl (fun hc1 => ?_) (fun hc1 => ?_)
    · replace h6581 := cond_f hc1 h6581
      refine O_read rfl (R_move rfl (P_some rfl (O_gY rfl rfl hc1 (O_read rfl (R_geqD rfl rfl (Pc rfl rfl (R_pick_F rfl hc1 rfl (Pn rfl ?_))))))))
      have e_ := Option.some.inj h6581
      subst e_
      exact ⟨(decide (16 ≤ kind1)), rfl, SubFr.of ⟨rfl, rfl, rfl, trivial⟩, SegSub.sel _ [some 0] 1, rfl⟩
    replace h6581 := cond_t hc1 h6581
    refine P_some rfl (O_gN rfl rfl hc1 (Pc rfl rfl (R_pick_T rfl hc1 rfl (Pn rfl ?_))))
    have e_ := Option.some.inj h6581
    subst e_
    exact ⟨true, rfl, SubFr.of ⟨rfl, rfl, rfl, trivial⟩, SegSub.sel _ [some 0] 1, rfl⟩
  rintro fr6581 μ6581 L6581 hm6581 ⟨v2, ho6581, hF6581, hS6581, hu6581⟩
  subst ho6581
  subst hu6581
  refine hK6580 _ _ _ (WP.at hF6581 hS6581 ?_)
  refine W_cond_v (b := v2) rfl (fun hc2 => ?_) (fun hc2 => ?_)
  · replace h := cond_t hc2 h
    refine WP.seq_k (fun K6584 hK6584 => Wr Tt_ok rfl (R_assign rfl (Pn rfl (hK6584 _ _ _ (WP.ret ?_)))))
    have e_ := Option.some.inj h
    subst e_
    refine S_tmp rfl (S_nil (Upd.selS [] 1 ?_))
    exact Upd.done hR
  replace h := cond_f hc2 h
  refine WP.skip (hK6579 _ _ _ (WP.seq_k (fun K6585 hK6585 => Wr Tt_ok rfl (R_fa0 (o' := 5) rfl rfl rfl rfl rfl rfl (Pc rfl rfl (R_load rfl rfl rfl (Ex.mk _ (Cell.seg 0 0 rfl rfl rfl) (Pc rfl rfl (R_conv rfl rfl rfl rfl (P_some rfl (O_cons ?_)))))))))))
  refine O_read rfl (R_move rfl (Pc rfl rfl ?_))
  obtain ⟨u1, hg1, h⟩ := obind h
  refine R_shrD rfl rfl rfl (guardO_some hg1) (Pc rfl rfl (R_rem rfl rfl ?_))
  refine ⟨by decide, ?_⟩
  refine Pc rfl rfl (R_eqlD rfl rfl (Pc rfl rfl (R_assign rfl (Pn rfl (hK6585 _ _ _ (WP.ret ?_))))))
  have e_ := Option.some.inj h
  subst e_
  refine S_tmp rfl (S_nil (Upd.selS [] 1 ?_))
  exact Upd.done hR

theorem recyclingref22_right_fn {μ : Gh} {L : List Seg} {R : Value → Gh → List Seg → Prop}  {p1 : T_api_Problem} {v1 : T_api_Vehicle} {stops1 : (List Int)} {i1 : Int} {A1 : Option Addr} {c1 : Nat} {A2 : Option Addr} {c2 : Nat} {A3 : Option Addr} {c3 : Nat} {A4 : Option Addr} {c4 : Nat} {res1 : Int}
    (hl1 : p1.Road.Edges.length ≤ c1 ∧ c1 ≤ maxLen) (hA1 : ArrR r_api_Edge μ A1 p1.Road.Edges) (hl2 : p1.Vehicles.length ≤ c2 ∧ c2 ≤ maxLen) (hA2 : ArrR r_api_Vehicle μ A2 p1.Vehicles) (hl3 : p1.Demands.length ≤ c3 ∧ c3 ≤ maxLen) (hA3 : ArrR r_api_Demand μ A3 p1.Demands) (hl4 : stops1.length ≤ c4 ∧ c4 ≤ maxLen) (hA4 : Rds rInt μ L A4 stops1) (h : recyclingref22_right p1 v1 stops1 i1 = some res1)
    (hR : R (.int .i64 res1) μ (L)) :
    Fn Try.prog 35 [.agg #[.int .i64 p1.Road.Nodes, .slice A1 p1.Road.Edges.length c1, .slice A2 p1.Vehicles.length c2, .slice A3 p1.Demands.length c3, .int .i64 p1.Unload, .int .i64 p1.UnloadSecs], .agg #[.string v1.ID, .int .i64 v1.Depot, .int .i64 v1.Shift.From, .int .i64 v1.Shift.To, .int .i64 v1.Grams, .int .i64 v1.Kinds], .slice A4 stops1.length c4, .int .i64 i1] μ (L) R := by
  unfold recyclingref22_right at h
  refine Fn.of_body Tt_ok Try.func35 (by kernel_rfl) rfl Try.ntmps35 (by simp) ?_
  simp only [Try.f35, argFr, List.zipIdx, List.map, Nat.reduceAdd]
  refine WP.seq_k (fun K6529 hK6529 => WP.region Tt_ok (O_cons (O_box (cs := #[.int .i64 p1.Road.Nodes, .slice A1 p1.Road.Edges.length c1, .slice A2 p1.Vehicles.length c2, .slice A3 p1.Demands.length c3, .int .i64 p1.Unload, .int .i64 p1.UnloadSecs]) rfl rfl (fun g1 => P_some rfl (O_cons (O_box (cs := #[.string v1.ID, .int .i64 v1.Depot, .int .i64 v1.Shift.From, .int .i64 v1.Shift.To, .int .i64 v1.Grams, .int .i64 v1.Kinds]) rfl rfl (fun g2 => Pc rfl rfl (R_assign rfl (Pn rfl (hK6529 _ _ _ (WP.seq_k (fun K6532 hK6532 => Wr Tt_ok rfl ?_))))))))))))
  refine R_move rfl (Pc rfl rfl (R_move rfl (P_some rfl (O_cons ?_))))
  obtain ⟨x1, hx1, h⟩ := obind h
  obtain ⟨a1, cs1, hA5, hr1, _, hc1⟩ := Rds.getI hA4 hx1
  obtain rfl := hr1
  refine O_read rfl (R_iaG rfl rfl rfl rfl rfl rfl ⟨(getI_lt hx1).1, (getI_lt hx1).2.1⟩ hA5 (Pc rfl rfl (R_load rfl rfl rfl (Ex.mk _ (Cell.of_cells0 (hc1.push.push) rfl) (Pc rfl rfl (R_assign rfl (Pn rfl (hK6532 _ _ _ (WP.seq_k (fun K6533 hK6533 => WP.seq_k (fun K6534 hK6534 => WP.region Tt_ok (O_cons ?_))))))))))))
  refine O_read rfl (R_move rfl (Pc rfl rfl (R_eqlD rfl rfl (Pn rfl (hK6534 _ _ _ ?_)))))
  refine W_cond_v (b := (decide (x1 = (-1)))) rfl (fun hc2 => ?_) (fun hc2 => ?_)
  · replace h := cond_t hc2 h
    refine WP.seq_k (fun K6535 hK6535 => Wr Tt_ok rfl (R_assign rfl (Pn rfl (hK6535 _ _ _ (WP.ret ?_)))))
    have e_ := Option.some.inj h
    subst e_
    refine S_tmp rfl (S_nil (Upd.selS [] 2 ?_))
    exact Upd.done hR
  replace h := cond_f hc2 h
  refine WP.skip (hK6533 _ _ _ (WP.seq_k (fun K6536 hK6536 => WP.seq_k (fun K6537 hK6537 => ?_))))
  obtain ⟨o6538, h6538, h⟩ := obind h
  refine WP.cutK (fun fr_ μ_ L_ => ∃ (v2 : Bool), v2 = o6538 ∧ SubFr [(2, .slice A4 stops1.length c4), (3, .int .i64 i1), (4, .pointer (some ⟨g1, 0, none⟩)), (5, .pointer (some ⟨g2, 0, none⟩)), (9, .int .i64 x1), (25, .bool v2)] fr_ ∧ SegSub ([(g1, .cells #[.int .i64 p1.Road.Nodes, .slice A1 p1.Road.Edges.length c1, .slice A2 p1.Vehicles.length c2, .slice A3 p1.Demands.length c3, .int .i64 p1.Unload, .int .i64 p1.UnloadSecs] 28 (0, 0))] :: [(g2, .cells #[.string v1.ID, .int .i64 v1.Depot, .int .i64 v1.Shift.From, .int .i64 v1.Shift.To, .int .i64 v1.Grams, .int .i64 v1.Kinds] 46 (0, 0))] :: L) L_ ∧ μ = μ_) ?_ ?_
  · refine Wr Tt_ok rfl (R_move rfl (Pc rfl rfl (R_lssD rfl rfl (Pc rfl rfl (R_move rfl (P_some rfl ?_))))))
    refine O_gv (z := (decide (x1 < 0))) rfl rfl (fun hc3 => ?_) (fun hc3 => ?_)
    · replace h6538 := cond_f hc3 h6538
      refine O_read rfl (R_move rfl (P_some rfl (O_gY rfl rfl hc3 (O_read rfl (R_fa0 (o' := 3) rfl rfl rfl rfl rfl rfl (P_some rfl (O_gY rfl rfl hc3 (O_read rfl (R_load rfl rfl rfl (Ex.mk _ (Cell.seg 1 0 rfl rfl rfl) (P_some rfl (O_gY rfl rfl hc3 (O_read rfl (R_lenS rfl rfl rfl (P_some rfl (O_gY rfl rfl hc3 (O_read rfl ?_)))))))))))))))))
      refine R_geqD rfl rfl (Pc rfl rfl (R_pick_F rfl hc3 rfl (Pn rfl ?_)))
      have e_ := Option.some.inj h6538
      subst e_
      exact ⟨(decide (((p1.Demands.length : Nat) : Int) ≤ x1)), rfl, SubFr.of ⟨rfl, rfl, rfl, rfl, rfl, rfl, trivial⟩, SegSub.sel _ [some 1, some 0] 2, rfl⟩
    replace h6538 := cond_t hc3 h6538
    refine P_some rfl (O_gN rfl rfl hc3 (P_some rfl (O_gN rfl rfl hc3 (P_some rfl (O_gN rfl rfl hc3 (P_some rfl (O_gN rfl rfl hc3 (Pc rfl rfl (R_pick_T rfl hc3 rfl (Pn rfl ?_))))))))))
    have e_ := Option.some.inj h6538
    subst e_
    exact ⟨true, rfl, SubFr.of ⟨rfl, rfl, rfl, rfl, rfl, rfl, trivial⟩, SegSub.sel _ [some 1, some 0] 2, rfl⟩
  rintro fr6538 μ6538 L6538 hm6538 ⟨v2, ho6538, hF6538, hS6538, hu6538⟩
  subst ho6538
  subst hu6538
  refine hK6537 _ _ _ (WP.at hF6538 hS6538 ?_)
  refine W_cond_v (b := v2) rfl (fun hc4 => ?_) (fun hc4 => ?_)
  · replace h := cond_t hc4 h
    refine WP.seq_k (fun K6543 hK6543 => Wr Tt_ok rfl (R_assign rfl (Pn rfl (hK6543 _ _ _ (WP.ret ?_)))))
    have e_ := Option.some.inj h
    subst e_
    refine S_tmp rfl (S_nil (Upd.selS [] 2 ?_))
    exact Upd.done hR
  replace h := cond_f hc4 h
  refine WP.skip (hK6536 _ _ _ (WP.seq_k (fun K6544 hK6544 => WP.seq_k (fun K6545 hK6545 => Wr Tt_ok rfl (R_assign rfl (Pn rfl (hK6545 _ _ _ ?_)))))))
  obtain ⟨o6546, h6546, h⟩ := obind h
  refine WP.cutK (fun fr_ μ_ L_ => (.inl ()) = o6546 ∧ SubFr [(4, .pointer (some ⟨g1, 0, none⟩)), (5, .pointer (some ⟨g2, 0, none⟩)), (9, .int .i64 x1)] fr_ ∧ SegSub ([(g1, .cells #[.int .i64 p1.Road.Nodes, .slice A1 p1.Road.Edges.length c1, .slice A2 p1.Vehicles.length c2, .slice A3 p1.Demands.length c3, .int .i64 p1.Unload, .int .i64 p1.UnloadSecs] 28 (0, 0))] :: [(g2, .cells #[.string v1.ID, .int .i64 v1.Depot, .int .i64 v1.Shift.From, .int .i64 v1.Shift.To, .int .i64 v1.Grams, .int .i64 v1.Kinds] 46 (0, 0))] :: L) L_ ∧ μ = μ_) ?_ ?_
  · refine WP.block (WP.iter h6546 (fun (k1 : Int) fr_ μ_ L_ => SubFr [(2, .slice A4 stops1.length c4), (3, .int .i64 i1), (4, .pointer (some ⟨g1, 0, none⟩)), (5, .pointer (some ⟨g2, 0, none⟩)), (9, .int .i64 x1), (10, .int .i64 k1)] fr_ ∧ SegSub ([(g1, .cells #[.int .i64 p1.Road.Nodes, .slice A1 p1.Road.Edges.length c1, .slice A2 p1.Vehicles.length c2, .slice A3 p1.Demands.length c3, .int .i64 p1.Unload, .int .i64 p1.UnloadSecs] 28 (0, 0))] :: [(g2, .cells #[.string v1.ID, .int .i64 v1.Depot, .int .i64 v1.Shift.From, .int .i64 v1.Shift.To, .int .i64 v1.Grams, .int .i64 v1.Kinds] 46 (0, 0))] :: L) L_ ∧ μ = μ_) ⟨SubFr.of ⟨rfl, rfl, rfl, rfl, rfl, rfl, trivial⟩, SegSub.sel _ [some 0, some 1] 2, rfl⟩ ?_)
    rintro k1 q6559 fr6559 μ6559 L6559 hm6559 ⟨hF6559, hS6559, hu6559⟩ hb6559 hq6559
    unfold recyclingref22_right_l1 at hb6559
    subst hu6559
    refine WP.at hF6559 hS6559 (WP.seq_k (fun K6566 hK6566 => WP.seq_k (fun K6567 hK6567 => Wr Tt_ok rfl (R_move rfl (Pc rfl rfl (R_move rfl (Pc rfl rfl (R_lssD rfl rfl (Pn rfl (hK6567 _ _ _ ?_))))))))))
    refine W_cond_v (b := (decide (k1 < i1))) rfl (fun hc5 => ?_) (fun hc5 => ?_)
    · replace hb6559 := cond_t hc5 hb6559
      refine WP.skip (hK6566 _ _ _ (WP.seq_k (fun K6568 hK6568 => WP.block (WP.seq_k (fun K6569 hK6569 => Wr Tt_ok rfl (R_move rfl (Pc rfl rfl (R_move rfl (P_some rfl (O_cons ?_))))))))))
      obtain ⟨x2, hx2, hb6559⟩ := obind hb6559
      obtain ⟨a2, cs2, hA6, hr2, _, hc6⟩ := Rds.getI hA4 hx2
      obtain rfl := hr2
      refine O_read rfl (R_iaG rfl rfl rfl rfl rfl rfl ⟨(getI_lt hx2).1, (getI_lt hx2).2.1⟩ hA6 (Pc rfl rfl (R_load rfl rfl rfl (Ex.mk _ (Cell.of_cells0 (hc6.push.push) rfl) (Pc rfl rfl (R_move rfl (Pc rfl rfl (R_eqlD rfl rfl (Pn rfl (hK6569 _ _ _ ?_))))))))))
      refine W_cond_v (b := (decide (x2 = x1))) rfl (fun hc7 => ?_) (fun hc7 => ?_)
      · replace hb6559 := cond_t hc7 hb6559
        refine WP.seq_k (fun K6570 hK6570 => Wr Tt_ok rfl (R_assign rfl (Pn rfl (hK6570 _ _ _ (WP.ret ?_)))))
        have e_ := Option.some.inj hb6559
        subst e_
        have hq_ := hq6559 _ rfl
        subst hq_
        replace h := osum_r h
        have e_ := Option.some.inj h
        subst e_
        refine S_tmp rfl (S_nil (Upd.selS [] 2 ?_))
        exact Upd.done hR
      replace hb6559 := cond_f hc7 hb6559
      refine WP.skip (hK6568 _ _ _ (Wr Tt_ok rfl (R_move rfl (Pc rfl rfl (R_add rfl rfl (Pc rfl rfl (R_assign rfl (Pn rfl ?_))))))))
      have e_ := Option.some.inj hb6559
      subst e_
      exact ⟨_, rfl, SubFr.of ⟨rfl, rfl, rfl, rfl, rfl, rfl, trivial⟩, SegSub.sel _ [some 0, some 1] 2, rfl⟩
    replace hb6559 := cond_f hc5 hb6559
    refine WP.exit (B_here ?_)
    have e_ := Option.some.inj hb6559
    subst e_
    have hq_ := hq6559 _ rfl
    subst hq_
    exact ⟨rfl, SubFr.of ⟨rfl, rfl, rfl, trivial⟩, SegSub.sel _ [some 0, some 1] 2, rfl⟩
  rintro fr6546 μ6546 L6546 hm6546 ⟨ho6546, hF6546, hS6546, hu6546⟩
  subst ho6546
  replace h := osum_l h
  subst hu6546
  refine hK6544 _ _ _ (WP.at hF6546 hS6546 (WP.seq_k (fun K6575 hK6575 => WP.seq_k (fun K6576 hK6576 => WP.drawn (id := 11) (l' := List.replicate 9 true) wide Tt_ok _ Kept.refl [(true, 0), (true, 1), (true, 2), (true, 3), (true, 4), (true, 5), (true, 6), (false, 7), (true, 8)] (by kernel_rfl) (by kernel_rfl) rfl (PL_t rfl (R_loadA rfl rfl rfl rfl (LA_ (vs := [.string v1.ID, .int .i64 v1.Depot, .int .i64 v1.Shift.From, .int .i64 v1.Shift.To, .int .i64 v1.Grams, .int .i64 v1.Kinds]) 1 0 rfl rfl rfl rfl (Pt rfl rfl (R_fa0 (o' := 3) rfl rfl rfl rfl rfl rfl (Pt rfl rfl (R_load rfl rfl rfl (Ex.mk _ (Cell.seg 0 0 rfl rfl rfl) (Pt rfl rfl (R_move rfl ?_))))))))))))))
  refine Pt rfl rfl ?_
  obtain ⟨x3, hx3, h⟩ := obind h
  obtain ⟨a3, cs3, hA7, hr3, _, hc8⟩ := Rds.getI (ArrR.rds hA3 L) hx3
  obtain rfl := hr3
  refine R_iaG rfl rfl rfl rfl rfl rfl ⟨(getI_lt hx3).1, (getI_lt hx3).2.1⟩ hA7 (Pt rfl rfl (R_fa rfl rfl rfl rfl rfl (Pt rfl rfl (R_load rfl rfl rfl (Ex.mk _ (Cell.of_cells (hc8.push.push) 2 rfl) (P_some rfl (PL_f rfl (O_call (all := [.agg #[.string v1.ID, .int .i64 v1.Depot, .int .i64 v1.Shift.From, .int .i64 v1.Shift.To, .int .i64 v1.Grams, .int .i64 v1.Kinds], .int .i64 x3.Kind]) rfl rfl rfl ?_))))))))
  obtain ⟨r1, hx4, h⟩ := obind h
  refine recyclingref20_Carries_fn  hx4 (?_)
  refine ⟨Kept.refl, ?_⟩
  refine Pt rfl rfl (R_not rfl (P_some rfl (PL_nil (AN.done0 (by kernel_rfl) (hK6576 _ _ _ ?_)))))
  refine W_cond_v (b := !r1) rfl (fun hc9 => ?_) (fun hc9 => ?_)
  · replace h := cond_t hc9 h
    refine WP.seq_k (fun K6586 hK6586 => Wr Tt_ok rfl (R_assign rfl (Pn rfl (hK6586 _ _ _ (WP.ret ?_)))))
    have e_ := Option.some.inj h
    subst e_
    refine S_tmp rfl (S_nil (Upd.selS [] 2 ?_))
    exact Upd.done hR
  replace h := cond_f hc9 h
  refine WP.skip (hK6575 _ _ _ (WP.seq_k (fun K6587 hK6587 => Wr Tt_ok rfl (R_assign rfl (Pn rfl (hK6587 _ _ _ (WP.ret ?_)))))))
  have e_ := Option.some.inj h
  subst e_
  refine S_tmp rfl (S_nil (Upd.selS [] 2 ?_))
  exact Upd.done hR

theorem recyclingref22_visit_fn {μ : Gh} {L : List Seg} {R : Value → Gh → List Seg → Prop}  {p1 : T_api_Problem} {v1 : T_api_Vehicle} {x1 : T_api_Visit} {s1 : Int} {A1 : Option Addr} {c1 : Nat} {A2 : Option Addr} {c2 : Nat} {A3 : Option Addr} {c3 : Nat} {res1 : T_api_Visit} {res2 : Int}
    (hl1 : p1.Road.Edges.length ≤ c1 ∧ c1 ≤ maxLen) (hA1 : ArrR r_api_Edge μ A1 p1.Road.Edges) (hl2 : p1.Vehicles.length ≤ c2 ∧ c2 ≤ maxLen) (hA2 : ArrR r_api_Vehicle μ A2 p1.Vehicles) (hl3 : p1.Demands.length ≤ c3 ∧ c3 ≤ maxLen) (hA3 : ArrR r_api_Demand μ A3 p1.Demands) (h : recyclingref22_visit p1 v1 x1 s1 = some (res1, res2))
    (hR : R (.tuple #[.agg #[.int .i64 res1.Stop, .int .i64 res1.Node, .int .i64 res1.Arrive, .int .i64 res1.Start, .int .i64 res1.Leave, .int .i64 res1.Load], .int .i64 res2]) μ (L)) :
    Fn Try.prog 36 [.agg #[.int .i64 p1.Road.Nodes, .slice A1 p1.Road.Edges.length c1, .slice A2 p1.Vehicles.length c2, .slice A3 p1.Demands.length c3, .int .i64 p1.Unload, .int .i64 p1.UnloadSecs], .agg #[.string v1.ID, .int .i64 v1.Depot, .int .i64 v1.Shift.From, .int .i64 v1.Shift.To, .int .i64 v1.Grams, .int .i64 v1.Kinds], .agg #[.int .i64 x1.Stop, .int .i64 x1.Node, .int .i64 x1.Arrive, .int .i64 x1.Start, .int .i64 x1.Leave, .int .i64 x1.Load], .int .i64 s1] μ (L) R := by
  unfold recyclingref22_visit at h
  refine Fn.of_body Tt_ok Try.func36 (by kernel_rfl) rfl Try.ntmps36 (by simp) ?_
  simp only [Try.f36, argFr, List.zipIdx, List.map, Nat.reduceAdd]
  refine WP.seq_k (fun K6594 hK6594 => WP.region Tt_ok (O_cons (O_box (cs := #[.int .i64 p1.Road.Nodes, .slice A1 p1.Road.Edges.length c1, .slice A2 p1.Vehicles.length c2, .slice A3 p1.Demands.length c3, .int .i64 p1.Unload, .int .i64 p1.UnloadSecs]) rfl rfl (fun g1 => P_some rfl (O_cons (O_box (cs := #[.string v1.ID, .int .i64 v1.Depot, .int .i64 v1.Shift.From, .int .i64 v1.Shift.To, .int .i64 v1.Grams, .int .i64 v1.Kinds]) rfl rfl (fun g2 => P_some rfl (O_cons (O_box (cs := #[.int .i64 x1.Stop, .int .i64 x1.Node, .int .i64 x1.Arrive, .int .i64 x1.Start, .int .i64 x1.Leave, .int .i64 x1.Load]) rfl rfl (fun g3 => P_some rfl (O_cons (O_alloc (cs := #[.int .i64 0, .int .i64 0, .int .i64 0, .int .i64 0, .int .i64 0, .int .i64 0]) rfl rfl (fun g4 => Pc rfl rfl (R_assign rfl (P_some rfl ?_)))))))))))))))
  refine O_nil (hK6594 _ _ _ (WP.seq_k (fun K6599 hK6599 => Wr Tt_ok rfl (R_move rfl (Pc rfl rfl (R_fa0 (o' := 4) rfl rfl rfl rfl rfl rfl (Pc rfl rfl (R_load rfl rfl rfl (Ex.mk _ (Cell.seg 3 0 rfl rfl rfl) (P_some rfl (O_cons ?_)))))))))))
  refine O_read rfl (R_build rfl rfl rfl rfl (F_cons (cells' := [.int .i64 s1, .int .i64 0, .int .i64 0, .int .i64 0, .int .i64 0, .int .i64 0]) rfl rfl rfl rfl (F_cons (cells' := [.int .i64 s1, .int .i64 p1.Unload, .int .i64 0, .int .i64 0, .int .i64 0, .int .i64 0]) rfl rfl rfl rfl (F_nil (P_some rfl (O_cons (O_alloc (cs := #[.int .i64 0, .int .i64 0, .int .i64 0, .int .i64 0, .int .i64 0, .int .i64 0]) rfl rfl (fun g5 => P_some rfl (O_cons (O_store (vs := [.int .i64 s1, .int .i64 p1.Unload, .int .i64 0, .int .i64 0, .int .i64 0, .int .i64 0]) rfl rfl rfl rfl rfl rfl (ST_ (L' := ([(g5, .cells #[.int .i64 s1, .int .i64 p1.Unload, .int .i64 0, .int .i64 0, .int .i64 0, .int .i64 0] 48 (0, 0))] :: [(g4, .cells #[.int .i64 0, .int .i64 0, .int .i64 0, .int .i64 0, .int .i64 0, .int .i64 0] 48 (0, 0))] :: [(g3, .cells #[.int .i64 x1.Stop, .int .i64 x1.Node, .int .i64 x1.Arrive, .int .i64 x1.Start, .int .i64 x1.Leave, .int .i64 x1.Load] 48 (0, 0))] :: [(g2, .cells #[.string v1.ID, .int .i64 v1.Depot, .int .i64 v1.Shift.From, .int .i64 v1.Shift.To, .int .i64 v1.Grams, .int .i64 v1.Kinds] 46 (0, 0))] :: [(g1, .cells #[.int .i64 p1.Road.Nodes, .slice A1 p1.Road.Edges.length c1, .slice A2 p1.Vehicles.length c2, .slice A3 p1.Demands.length c3, .int .i64 p1.Unload, .int .i64 p1.UnloadSecs] 28 (0, 0))] :: L)) 0 0 rfl rfl rfl rfl ?_)))))))))))
  refine P_none (O_nil (hK6599 _ _ _ (WP.seq_k (fun K6602 hK6602 => WP.seq_k (fun K6603 hK6603 => Wr Tt_ok rfl (R_move rfl (Pc rfl rfl (R_geqD rfl rfl (Pn rfl (hK6603 _ _ _ ?_))))))))))
  obtain ⟨o6604, h6604, h⟩ := obind h
  refine WP.cutK (fun fr_ μ_ L_ => ∃ (f1 : Int), f1 = o6604 ∧ SubFr [(3, .int .i64 s1), (4, .pointer (some ⟨g1, 0, none⟩)), (5, .pointer (some ⟨g2, 0, none⟩)), (6, .pointer (some ⟨g3, 0, none⟩)), (8, .pointer (some ⟨g4, 0, none⟩)), (10, .pointer (some ⟨g5, 0, none⟩))] fr_ ∧ SegSub ([(g1, .cells #[.int .i64 p1.Road.Nodes, .slice A1 p1.Road.Edges.length c1, .slice A2 p1.Vehicles.length c2, .slice A3 p1.Demands.length c3, .int .i64 p1.Unload, .int .i64 p1.UnloadSecs] 28 (0, 0))] :: [(g2, .cells #[.string v1.ID, .int .i64 v1.Depot, .int .i64 v1.Shift.From, .int .i64 v1.Shift.To, .int .i64 v1.Grams, .int .i64 v1.Kinds] 46 (0, 0))] :: [(g3, .cells #[.int .i64 x1.Stop, .int .i64 x1.Node, .int .i64 x1.Arrive, .int .i64 x1.Start, .int .i64 x1.Leave, .int .i64 x1.Load] 48 (0, 0))] :: [(g4, .cells #[.int .i64 0, .int .i64 0, .int .i64 0, .int .i64 0, .int .i64 0, .int .i64 0] 48 (0, 0))] :: [(g5, .cells #[.int .i64 s1, .int .i64 f1, .int .i64 0, .int .i64 0, .int .i64 0, .int .i64 0] 48 (0, 0))] :: L) L_ ∧ μ = μ_) ?_ ?_
  · refine W_cond_v (b := (decide (0 ≤ s1))) rfl (fun hc1 => ?_) (fun hc1 => ?_)
    · replace h6604 := cond_t hc1 h6604
      refine Wr Tt_ok rfl (R_fa0 (o' := 3) rfl rfl rfl rfl rfl rfl (Pc rfl rfl (R_load rfl rfl rfl (Ex.mk _ (Cell.seg 4 0 rfl rfl rfl) (Pc rfl rfl (R_move rfl (P_some rfl (O_cons ?_))))))))
      obtain ⟨x2, hx1, h6604⟩ := obind h6604
      obtain ⟨a1, cs1, hA4, hr1, _, hc2⟩ := Rds.getI (ArrR.rds hA3 L) hx1
      obtain rfl := hr1
      refine O_read rfl (R_iaG rfl rfl rfl rfl rfl rfl ⟨(getI_lt hx1).1, (getI_lt hx1).2.1⟩ hA4 (Pc rfl rfl (R_fa rfl rfl rfl rfl rfl (Pc rfl rfl (R_load rfl rfl rfl (Ex.mk _ (Cell.of_cells (hc2.push.push.push.push.push) 1 rfl) (Pc rfl rfl (R_fa0 (o' := 1) rfl rfl rfl rfl rfl rfl (P_some rfl (O_cons (O_store (vs := [.int .i64 x2.Node]) rfl rfl rfl rfl rfl rfl ?_)))))))))))
      refine ST_ (L' := ([(g5, .cells #[.int .i64 s1, .int .i64 x2.Node, .int .i64 0, .int .i64 0, .int .i64 0, .int .i64 0] 48 (0, 0))] :: [(g4, .cells #[.int .i64 0, .int .i64 0, .int .i64 0, .int .i64 0, .int .i64 0, .int .i64 0] 48 (0, 0))] :: [(g3, .cells #[.int .i64 x1.Stop, .int .i64 x1.Node, .int .i64 x1.Arrive, .int .i64 x1.Start, .int .i64 x1.Leave, .int .i64 x1.Load] 48 (0, 0))] :: [(g2, .cells #[.string v1.ID, .int .i64 v1.Depot, .int .i64 v1.Shift.From, .int .i64 v1.Shift.To, .int .i64 v1.Grams, .int .i64 v1.Kinds] 46 (0, 0))] :: [(g1, .cells #[.int .i64 p1.Road.Nodes, .slice A1 p1.Road.Edges.length c1, .slice A2 p1.Vehicles.length c2, .slice A3 p1.Demands.length c3, .int .i64 p1.Unload, .int .i64 p1.UnloadSecs] 28 (0, 0))] :: L)) 0 0 rfl rfl rfl rfl (P_none (O_nil ?_))
      have e_ := Option.some.inj h6604
      subst e_
      exact ⟨x2.Node, rfl, SubFr.of ⟨rfl, rfl, rfl, rfl, rfl, rfl, trivial⟩, SegSub.sel _ [some 4, some 3, some 2, some 1, some 0] 5, rfl⟩
    replace h6604 := cond_f hc1 h6604
    apply WP.skip
    have e_ := Option.some.inj h6604
    subst e_
    exact ⟨p1.Unload, rfl, SubFr.of ⟨rfl, rfl, rfl, rfl, rfl, rfl, trivial⟩, SegSub.sel _ [some 4, some 3, some 2, some 1, some 0] 5, rfl⟩
  rintro fr6604 μ6604 L6604 hm6604 ⟨f1, ho6604, hF6604, hS6604, hu6604⟩
  subst ho6604
  subst hu6604
  refine hK6602 _ _ _ (WP.at hF6604 hS6604 (WP.seq_k (fun K6616 hK6616 => Wr Tt_ok rfl (R_loadA rfl rfl rfl rfl (LA_ (vs := [.int .i64 p1.Road.Nodes, .slice A1 p1.Road.Edges.length c1, .slice A2 p1.Vehicles.length c2, .slice A3 p1.Demands.length c3, .int .i64 p1.Unload, .int .i64 p1.UnloadSecs]) 0 0 rfl rfl rfl rfl (Pc rfl rfl (R_fa0 (o' := 1) rfl rfl rfl rfl rfl rfl (Pc rfl rfl (R_load rfl rfl rfl (Ex.mk _ (Cell.seg 2 0 rfl rfl rfl) (P_some rfl ?_)))))))))))
  refine O_cons (O_read rfl (R_fa0 (o' := 1) rfl rfl rfl rfl rfl rfl (Pc rfl rfl (R_load rfl rfl rfl (Ex.mk _ (Cell.seg 4 0 rfl rfl rfl) (P_some rfl (O_cons (O_call (all := [.agg #[.int .i64 p1.Road.Nodes, .slice A1 p1.Road.Edges.length c1, .slice A2 p1.Vehicles.length c2, .slice A3 p1.Demands.length c3, .int .i64 p1.Unload, .int .i64 p1.UnloadSecs], .int .i64 x1.Node, .int .i64 f1]) rfl rfl rfl ?_))))))))
  obtain ⟨r1, hx2, h⟩ := obind h
  refine recyclingref22_Leg_fn hl1 hA1 hl2 hA2 hl3 hA3 hx2 ((P_some rfl (O_cons (O_alloc (cs := #[.int .i64 0, .int .i64 0]) rfl rfl (fun g6 => P_some rfl (O_cons (O_store (vs := [.int .i64 r1.Secs, .int .i64 r1.Meters]) rfl rfl rfl rfl rfl rfl (ST_ (L' := ([(g6, .cells #[.int .i64 r1.Secs, .int .i64 r1.Meters] 51 (0, 0))] :: [(g1, .cells #[.int .i64 p1.Road.Nodes, .slice A1 p1.Road.Edges.length c1, .slice A2 p1.Vehicles.length c2, .slice A3 p1.Demands.length c3, .int .i64 p1.Unload, .int .i64 p1.UnloadSecs] 28 (0, 0))] :: [(g2, .cells #[.string v1.ID, .int .i64 v1.Depot, .int .i64 v1.Shift.From, .int .i64 v1.Shift.To, .int .i64 v1.Grams, .int .i64 v1.Kinds] 46 (0, 0))] :: [(g3, .cells #[.int .i64 x1.Stop, .int .i64 x1.Node, .int .i64 x1.Arrive, .int .i64 x1.Start, .int .i64 x1.Leave, .int .i64 x1.Load] 48 (0, 0))] :: [(g4, .cells #[.int .i64 0, .int .i64 0, .int .i64 0, .int .i64 0, .int .i64 0, .int .i64 0] 48 (0, 0))] :: [(g5, .cells #[.int .i64 s1, .int .i64 f1, .int .i64 0, .int .i64 0, .int .i64 0, .int .i64 0] 48 (0, 0))] :: L)) 0 0 rfl rfl rfl rfl ?_))))))))
  refine P_none (O_nil (hK6616 _ _ _ (WP.seq_k (fun K6944 hK6944 => WP.seq_k (fun K6945 hK6945 => Wr Tt_ok rfl (R_fa0 (o' := 0) rfl rfl rfl rfl rfl rfl (Pc rfl rfl (R_load rfl rfl rfl (Ex.mk _ (Cell.seg 0 0 rfl rfl rfl) (Pc rfl rfl (R_lssD rfl rfl ?_)))))))))))
  refine Pn rfl (hK6945 _ _ _ ?_)
  refine W_cond_v (b := (decide (r1.Secs < 0))) rfl (fun hc3 => ?_) (fun hc3 => ?_)
  · replace h := cond_t hc3 h
    refine WP.seq_k (fun K6946 hK6946 => Wr Tt_ok rfl (R_build rfl rfl rfl rfl (F_nil (P_some rfl (O_cons (O_store (vs := [.int .i64 0, .int .i64 0, .int .i64 0, .int .i64 0, .int .i64 0, .int .i64 0]) rfl rfl rfl rfl rfl rfl (ST_ (L' := ([(g6, .cells #[.int .i64 r1.Secs, .int .i64 r1.Meters] 51 (0, 0))] :: [(g1, .cells #[.int .i64 p1.Road.Nodes, .slice A1 p1.Road.Edges.length c1, .slice A2 p1.Vehicles.length c2, .slice A3 p1.Demands.length c3, .int .i64 p1.Unload, .int .i64 p1.UnloadSecs] 28 (0, 0))] :: [(g2, .cells #[.string v1.ID, .int .i64 v1.Depot, .int .i64 v1.Shift.From, .int .i64 v1.Shift.To, .int .i64 v1.Grams, .int .i64 v1.Kinds] 46 (0, 0))] :: [(g3, .cells #[.int .i64 x1.Stop, .int .i64 x1.Node, .int .i64 x1.Arrive, .int .i64 x1.Start, .int .i64 x1.Leave, .int .i64 x1.Load] 48 (0, 0))] :: [(g4, .cells #[.int .i64 0, .int .i64 0, .int .i64 0, .int .i64 0, .int .i64 0, .int .i64 0] 48 (0, 0))] :: [(g5, .cells #[.int .i64 s1, .int .i64 f1, .int .i64 0, .int .i64 0, .int .i64 0, .int .i64 0] 48 (0, 0))] :: L)) 4 0 rfl rfl rfl rfl ?_)))))))
    refine P_none (O_cons (O_read rfl (R_assign rfl (Pn rfl (hK6946 _ _ _ (WP.ret ?_))))))
    have e_ := Option.some.inj h
    obtain ⟨e0a_, e0b_⟩ := Prod.mk.inj e_
    clear e_
    subst e0a_
    subst e0b_
    refine S_cell rfl rfl rfl rfl (LA_ (vs := [.int .i64 0, .int .i64 0, .int .i64 0, .int .i64 0, .int .i64 0, .int .i64 0]) 4 0 rfl rfl rfl rfl (S_tmp rfl (S_nil (Upd.selS [] 6 ?_))))
    exact Upd.done hR
  replace h := cond_f hc3 h
  refine WP.skip (hK6944 _ _ _ (WP.seq_k (fun K6948 hK6948 => Wr Tt_ok rfl (R_fa0 (o' := 4) rfl rfl rfl rfl rfl rfl (Pc rfl rfl (R_load rfl rfl rfl (Ex.mk _ (Cell.seg 3 0 rfl rfl rfl) (Pc rfl rfl (R_fa0 (o' := 0) rfl rfl rfl rfl rfl rfl (P_some rfl (O_cons ?_)))))))))))
  refine O_read rfl (R_load rfl rfl rfl (Ex.mk _ (Cell.seg 0 0 rfl rfl rfl) (Pc rfl rfl (R_add rfl rfl (Pc rfl rfl (R_fa0 (o' := 2) rfl rfl rfl rfl rfl rfl (P_some rfl (O_cons (O_store (vs := [.int .i64 (w64 (x1.Leave + r1.Secs))]) rfl rfl rfl rfl rfl rfl (ST_ (L' := ([(g6, .cells #[.int .i64 r1.Secs, .int .i64 r1.Meters] 51 (0, 0))] :: [(g1, .cells #[.int .i64 p1.Road.Nodes, .slice A1 p1.Road.Edges.length c1, .slice A2 p1.Vehicles.length c2, .slice A3 p1.Demands.length c3, .int .i64 p1.Unload, .int .i64 p1.UnloadSecs] 28 (0, 0))] :: [(g2, .cells #[.string v1.ID, .int .i64 v1.Depot, .int .i64 v1.Shift.From, .int .i64 v1.Shift.To, .int .i64 v1.Grams, .int .i64 v1.Kinds] 46 (0, 0))] :: [(g3, .cells #[.int .i64 x1.Stop, .int .i64 x1.Node, .int .i64 x1.Arrive, .int .i64 x1.Start, .int .i64 x1.Leave, .int .i64 x1.Load] 48 (0, 0))] :: [(g4, .cells #[.int .i64 0, .int .i64 0, .int .i64 0, .int .i64 0, .int .i64 0, .int .i64 0] 48 (0, 0))] :: [(g5, .cells #[.int .i64 s1, .int .i64 f1, .int .i64 (w64 (x1.Leave + r1.Secs)), .int .i64 0, .int .i64 0, .int .i64 0] 48 (0, 0))] :: L)) 5 0 rfl rfl rfl rfl ?_))))))))))
  refine P_none (O_nil (hK6948 _ _ _ (WP.seq_k (fun K6950 hK6950 => Wr Tt_ok rfl (R_fa0 (o' := 2) rfl rfl rfl rfl rfl rfl (Pc rfl rfl (R_load rfl rfl rfl (Ex.mk _ (Cell.seg 5 0 rfl rfl rfl) (Pc rfl rfl (R_fa0 (o' := 3) rfl rfl rfl rfl rfl rfl (P_some rfl ?_)))))))))))
  refine O_cons (O_store (vs := [.int .i64 (w64 (x1.Leave + r1.Secs))]) rfl rfl rfl rfl rfl rfl (ST_ (L' := ([(g6, .cells #[.int .i64 r1.Secs, .int .i64 r1.Meters] 51 (0, 0))] :: [(g1, .cells #[.int .i64 p1.Road.Nodes, .slice A1 p1.Road.Edges.length c1, .slice A2 p1.Vehicles.length c2, .slice A3 p1.Demands.length c3, .int .i64 p1.Unload, .int .i64 p1.UnloadSecs] 28 (0, 0))] :: [(g2, .cells #[.string v1.ID, .int .i64 v1.Depot, .int .i64 v1.Shift.From, .int .i64 v1.Shift.To, .int .i64 v1.Grams, .int .i64 v1.Kinds] 46 (0, 0))] :: [(g3, .cells #[.int .i64 x1.Stop, .int .i64 x1.Node, .int .i64 x1.Arrive, .int .i64 x1.Start, .int .i64 x1.Leave, .int .i64 x1.Load] 48 (0, 0))] :: [(g4, .cells #[.int .i64 0, .int .i64 0, .int .i64 0, .int .i64 0, .int .i64 0, .int .i64 0] 48 (0, 0))] :: [(g5, .cells #[.int .i64 s1, .int .i64 f1, .int .i64 (w64 (x1.Leave + r1.Secs)), .int .i64 (w64 (x1.Leave + r1.Secs)), .int .i64 0, .int .i64 0] 48 (0, 0))] :: L)) 5 0 rfl rfl rfl rfl ?_))
  refine P_none (O_nil (hK6950 _ _ _ (WP.seq_k (fun K6952 hK6952 => WP.seq_k (fun K6953 hK6953 => Wr Tt_ok rfl (R_move rfl (Pc rfl rfl (R_lssD rfl rfl (Pn rfl (hK6953 _ _ _ ?_))))))))))
  refine W_cond_v (b := (decide (s1 < 0))) rfl (fun hc4 => ?_) (fun hc4 => ?_)
  · replace h := cond_t hc4 h
    refine WP.seq_k (fun K6954 hK6954 => Wr Tt_ok rfl (R_fa0 (o' := 3) rfl rfl rfl rfl rfl rfl (Pc rfl rfl (R_load rfl rfl rfl (Ex.mk _ (Cell.seg 5 0 rfl rfl rfl) (Pc rfl rfl (R_fa0 (o' := 5) rfl rfl rfl rfl rfl rfl (Pc rfl rfl (R_load rfl rfl rfl ?_)))))))))
    refine Ex.mk _ (Cell.seg 1 0 rfl rfl rfl) (Pc rfl rfl (R_add rfl rfl (Pc rfl rfl (R_fa0 (o' := 4) rfl rfl rfl rfl rfl rfl (P_some rfl (O_cons (O_store (vs := [.int .i64 (w64 ((w64 (x1.Leave + r1.Secs)) + p1.UnloadSecs))]) rfl rfl rfl rfl rfl rfl (ST_ (L' := ([(g6, .cells #[.int .i64 r1.Secs, .int .i64 r1.Meters] 51 (0, 0))] :: [(g1, .cells #[.int .i64 p1.Road.Nodes, .slice A1 p1.Road.Edges.length c1, .slice A2 p1.Vehicles.length c2, .slice A3 p1.Demands.length c3, .int .i64 p1.Unload, .int .i64 p1.UnloadSecs] 28 (0, 0))] :: [(g2, .cells #[.string v1.ID, .int .i64 v1.Depot, .int .i64 v1.Shift.From, .int .i64 v1.Shift.To, .int .i64 v1.Grams, .int .i64 v1.Kinds] 46 (0, 0))] :: [(g3, .cells #[.int .i64 x1.Stop, .int .i64 x1.Node, .int .i64 x1.Arrive, .int .i64 x1.Start, .int .i64 x1.Leave, .int .i64 x1.Load] 48 (0, 0))] :: [(g4, .cells #[.int .i64 0, .int .i64 0, .int .i64 0, .int .i64 0, .int .i64 0, .int .i64 0] 48 (0, 0))] :: [(g5, .cells #[.int .i64 s1, .int .i64 f1, .int .i64 (w64 (x1.Leave + r1.Secs)), .int .i64 (w64 (x1.Leave + r1.Secs)), .int .i64 (w64 ((w64 (x1.Leave + r1.Secs)) + p1.UnloadSecs)), .int .i64 0] 48 (0, 0))] :: L)) 5 0 rfl rfl rfl rfl ?_))))))))
    refine P_none (O_nil (hK6954 _ _ _ (WP.seq_k (fun K6956 hK6956 => Wr Tt_ok rfl (R_loadA rfl rfl rfl rfl (LA_ (vs := [.int .i64 s1, .int .i64 f1, .int .i64 (w64 (x1.Leave + r1.Secs)), .int .i64 (w64 (x1.Leave + r1.Secs)), .int .i64 (w64 ((w64 (x1.Leave + r1.Secs)) + p1.UnloadSecs)), .int .i64 0]) 5 0 rfl rfl rfl rfl (P_some rfl (O_cons (O_store (vs := [.int .i64 s1, .int .i64 f1, .int .i64 (w64 (x1.Leave + r1.Secs)), .int .i64 (w64 (x1.Leave + r1.Secs)), .int .i64 (w64 ((w64 (x1.Leave + r1.Secs)) + p1.UnloadSecs)), .int .i64 0]) rfl rfl rfl rfl rfl rfl (ST_ (L' := ([(g6, .cells #[.int .i64 r1.Secs, .int .i64 r1.Meters] 51 (0, 0))] :: [(g1, .cells #[.int .i64 p1.Road.Nodes, .slice A1 p1.Road.Edges.length c1, .slice A2 p1.Vehicles.length c2, .slice A3 p1.Demands.length c3, .int .i64 p1.Unload, .int .i64 p1.UnloadSecs] 28 (0, 0))] :: [(g2, .cells #[.string v1.ID, .int .i64 v1.Depot, .int .i64 v1.Shift.From, .int .i64 v1.Shift.To, .int .i64 v1.Grams, .int .i64 v1.Kinds] 46 (0, 0))] :: [(g3, .cells #[.int .i64 x1.Stop, .int .i64 x1.Node, .int .i64 x1.Arrive, .int .i64 x1.Start, .int .i64 x1.Leave, .int .i64 x1.Load] 48 (0, 0))] :: [(g4, .cells #[.int .i64 s1, .int .i64 f1, .int .i64 (w64 (x1.Leave + r1.Secs)), .int .i64 (w64 (x1.Leave + r1.Secs)), .int .i64 (w64 ((w64 (x1.Leave + r1.Secs)) + p1.UnloadSecs)), .int .i64 0] 48 (0, 0))] :: [(g5, .cells #[.int .i64 s1, .int .i64 f1, .int .i64 (w64 (x1.Leave + r1.Secs)), .int .i64 (w64 (x1.Leave + r1.Secs)), .int .i64 (w64 ((w64 (x1.Leave + r1.Secs)) + p1.UnloadSecs)), .int .i64 0] 48 (0, 0))] :: L)) 4 0 rfl rfl rfl rfl ?_))))))))))
    refine P_none (O_cons (O_read rfl (R_assign rfl (Pn rfl (hK6956 _ _ _ (WP.ret ?_))))))
    have e_ := Option.some.inj h
    obtain ⟨e0a_, e0b_⟩ := Prod.mk.inj e_
    clear e_
    subst e0a_
    subst e0b_
    refine S_cell rfl rfl rfl rfl (LA_ (vs := [.int .i64 s1, .int .i64 f1, .int .i64 (w64 (x1.Leave + r1.Secs)), .int .i64 (w64 (x1.Leave + r1.Secs)), .int .i64 (w64 ((w64 (x1.Leave + r1.Secs)) + p1.UnloadSecs)), .int .i64 0]) 4 0 rfl rfl rfl rfl (S_tmp rfl (S_nil (Upd.selS [] 6 ?_))))
    exact Upd.done hR
  replace h := cond_f hc4 h
  refine WP.skip (hK6952 _ _ _ (WP.seq_k (fun K6958 hK6958 => Wr Tt_ok rfl (R_fa0 (o' := 3) rfl rfl rfl rfl rfl rfl (Pc rfl rfl (R_load rfl rfl rfl (Ex.mk _ (Cell.seg 1 0 rfl rfl rfl) (Pc rfl rfl (R_move rfl (P_some rfl (O_cons ?_)))))))))))
  obtain ⟨x3, hx3, h⟩ := obind h
  obtain ⟨a2, cs2, hA5, hr2, _, hc5⟩ := Rds.getI (ArrR.rds hA3 L) hx3
  obtain rfl := hr2
  refine O_read rfl (R_iaG rfl rfl rfl rfl rfl rfl ⟨(getI_lt hx3).1, (getI_lt hx3).2.1⟩ hA5 (Pc rfl rfl (R_loadA rfl rfl rfl rfl (Ex.mk [.int .i64 x3.Container, .int .i64 x3.Node, .int .i64 x3.Kind, .int .i64 x3.Grams, .int .i64 x3.When.From, .int .i64 x3.When.To, .int .i64 x3.Service] ⟨rfl, (hc5.push.push.push.push.push.push)⟩ (P_some rfl (O_cons (O_alloc (cs := #[.int .i64 0, .int .i64 0, .int .i64 0, .int .i64 0, .int .i64 0, .int .i64 0, .int .i64 0]) rfl rfl (fun g7 => P_some rfl (O_cons (O_store (vs := [.int .i64 x3.Container, .int .i64 x3.Node, .int .i64 x3.Kind, .int .i64 x3.Grams, .int .i64 x3.When.From, .int .i64 x3.When.To, .int .i64 x3.Service]) rfl rfl rfl rfl rfl rfl (ST_ (L' := ([(g7, .cells #[.int .i64 x3.Container, .int .i64 x3.Node, .int .i64 x3.Kind, .int .i64 x3.Grams, .int .i64 x3.When.From, .int .i64 x3.When.To, .int .i64 x3.Service] 79 (0, 0))] :: [(g6, .cells #[.int .i64 r1.Secs, .int .i64 r1.Meters] 51 (0, 0))] :: [(g1, .cells #[.int .i64 p1.Road.Nodes, .slice A1 p1.Road.Edges.length c1, .slice A2 p1.Vehicles.length c2, .slice A3 p1.Demands.length c3, .int .i64 p1.Unload, .int .i64 p1.UnloadSecs] 28 (0, 0))] :: [(g2, .cells #[.string v1.ID, .int .i64 v1.Depot, .int .i64 v1.Shift.From, .int .i64 v1.Shift.To, .int .i64 v1.Grams, .int .i64 v1.Kinds] 46 (0, 0))] :: [(g3, .cells #[.int .i64 x1.Stop, .int .i64 x1.Node, .int .i64 x1.Arrive, .int .i64 x1.Start, .int .i64 x1.Leave, .int .i64 x1.Load] 48 (0, 0))] :: [(g4, .cells #[.int .i64 0, .int .i64 0, .int .i64 0, .int .i64 0, .int .i64 0, .int .i64 0] 48 (0, 0))] :: [(g5, .cells #[.int .i64 s1, .int .i64 f1, .int .i64 (w64 (x1.Leave + r1.Secs)), .int .i64 (w64 (x1.Leave + r1.Secs)), .int .i64 0, .int .i64 0] 48 (0, 0))] :: L)) 0 0 rfl rfl rfl rfl ?_)))))))))))
  refine P_none (O_nil (hK6958 _ _ _ (WP.seq_k (fun K6961 hK6961 => Wr Tt_ok rfl (R_fa0 (o' := 2) rfl rfl rfl rfl rfl rfl (Pc rfl rfl (R_load rfl rfl rfl (Ex.mk _ (Cell.seg 6 0 rfl rfl rfl) (Pc rfl rfl (R_fa0 (o' := 4) rfl rfl rfl rfl rfl rfl (P_some rfl ?_)))))))))))
  refine O_cons (O_read rfl (R_fa0 (o' := 4) rfl rfl rfl rfl rfl rfl (Pc rfl rfl (R_load rfl rfl rfl (Ex.mk _ (Cell.seg 0 0 rfl rfl rfl) (Pc rfl rfl (R_maxI rfl (Pc rfl rfl (R_fa0 (o' := 3) rfl rfl rfl rfl rfl rfl (P_some rfl (O_cons ?_)))))))))))
  refine O_store (vs := [.int .i64 (max (w64 (x1.Leave + r1.Secs)) x3.When.From)]) rfl rfl rfl rfl rfl rfl (ST_ (L' := ([(g7, .cells #[.int .i64 x3.Container, .int .i64 x3.Node, .int .i64 x3.Kind, .int .i64 x3.Grams, .int .i64 x3.When.From, .int .i64 x3.When.To, .int .i64 x3.Service] 79 (0, 0))] :: [(g6, .cells #[.int .i64 r1.Secs, .int .i64 r1.Meters] 51 (0, 0))] :: [(g1, .cells #[.int .i64 p1.Road.Nodes, .slice A1 p1.Road.Edges.length c1, .slice A2 p1.Vehicles.length c2, .slice A3 p1.Demands.length c3, .int .i64 p1.Unload, .int .i64 p1.UnloadSecs] 28 (0, 0))] :: [(g2, .cells #[.string v1.ID, .int .i64 v1.Depot, .int .i64 v1.Shift.From, .int .i64 v1.Shift.To, .int .i64 v1.Grams, .int .i64 v1.Kinds] 46 (0, 0))] :: [(g3, .cells #[.int .i64 x1.Stop, .int .i64 x1.Node, .int .i64 x1.Arrive, .int .i64 x1.Start, .int .i64 x1.Leave, .int .i64 x1.Load] 48 (0, 0))] :: [(g4, .cells #[.int .i64 0, .int .i64 0, .int .i64 0, .int .i64 0, .int .i64 0, .int .i64 0] 48 (0, 0))] :: [(g5, .cells #[.int .i64 s1, .int .i64 f1, .int .i64 (w64 (x1.Leave + r1.Secs)), .int .i64 (max (w64 (x1.Leave + r1.Secs)) x3.When.From), .int .i64 0, .int .i64 0] 48 (0, 0))] :: L)) 6 0 rfl rfl rfl rfl ?_)
  refine P_none (O_nil (hK6961 _ _ _ (WP.seq_k (fun K6963 hK6963 => WP.seq_k (fun K6964 hK6964 => Wr Tt_ok rfl (R_fa0 (o' := 3) rfl rfl rfl rfl rfl rfl (Pc rfl rfl (R_load rfl rfl rfl (Ex.mk _ (Cell.seg 6 0 rfl rfl rfl) (Pc rfl rfl (R_fa0 (o' := 4) rfl rfl rfl rfl rfl rfl ?_)))))))))))
  refine Pc rfl rfl (R_fa0 (o' := 5) rfl rfl rfl rfl rfl rfl (Pc rfl rfl (R_load rfl rfl rfl (Ex.mk _ (Cell.seg 0 0 rfl rfl rfl) (Pc rfl rfl (R_geqD rfl rfl (Pn rfl (hK6964 _ _ _ ?_))))))))
  refine W_cond_v (b := (decide (x3.When.To ≤ (max (w64 (x1.Leave + r1.Secs)) x3.When.From)))) rfl (fun hc6 => ?_) (fun hc6 => ?_)
  · replace h := cond_t hc6 h
    refine WP.seq_k (fun K6965 hK6965 => Wr Tt_ok rfl (R_build rfl rfl rfl rfl (F_nil (P_some rfl (O_cons (O_store (vs := [.int .i64 0, .int .i64 0, .int .i64 0, .int .i64 0, .int .i64 0, .int .i64 0]) rfl rfl rfl rfl rfl rfl (ST_ (L' := ([(g7, .cells #[.int .i64 x3.Container, .int .i64 x3.Node, .int .i64 x3.Kind, .int .i64 x3.Grams, .int .i64 x3.When.From, .int .i64 x3.When.To, .int .i64 x3.Service] 79 (0, 0))] :: [(g6, .cells #[.int .i64 r1.Secs, .int .i64 r1.Meters] 51 (0, 0))] :: [(g1, .cells #[.int .i64 p1.Road.Nodes, .slice A1 p1.Road.Edges.length c1, .slice A2 p1.Vehicles.length c2, .slice A3 p1.Demands.length c3, .int .i64 p1.Unload, .int .i64 p1.UnloadSecs] 28 (0, 0))] :: [(g2, .cells #[.string v1.ID, .int .i64 v1.Depot, .int .i64 v1.Shift.From, .int .i64 v1.Shift.To, .int .i64 v1.Grams, .int .i64 v1.Kinds] 46 (0, 0))] :: [(g3, .cells #[.int .i64 x1.Stop, .int .i64 x1.Node, .int .i64 x1.Arrive, .int .i64 x1.Start, .int .i64 x1.Leave, .int .i64 x1.Load] 48 (0, 0))] :: [(g4, .cells #[.int .i64 0, .int .i64 0, .int .i64 0, .int .i64 0, .int .i64 0, .int .i64 0] 48 (0, 0))] :: [(g5, .cells #[.int .i64 s1, .int .i64 f1, .int .i64 (w64 (x1.Leave + r1.Secs)), .int .i64 (max (w64 (x1.Leave + r1.Secs)) x3.When.From), .int .i64 0, .int .i64 0] 48 (0, 0))] :: L)) 5 0 rfl rfl rfl rfl ?_)))))))
    refine P_none (O_cons (O_read rfl (R_assign rfl (Pn rfl (hK6965 _ _ _ (WP.ret ?_))))))
    have e_ := Option.some.inj h
    obtain ⟨e0a_, e0b_⟩ := Prod.mk.inj e_
    clear e_
    subst e0a_
    subst e0b_
    refine S_cell rfl rfl rfl rfl (LA_ (vs := [.int .i64 0, .int .i64 0, .int .i64 0, .int .i64 0, .int .i64 0, .int .i64 0]) 5 0 rfl rfl rfl rfl (S_tmp rfl (S_nil (Upd.selS [] 7 ?_))))
    exact Upd.done hR
  replace h := cond_f hc6 h
  refine WP.skip (hK6963 _ _ _ (WP.seq_k (fun K6967 hK6967 => Wr Tt_ok rfl (R_fa0 (o' := 3) rfl rfl rfl rfl rfl rfl (Pc rfl rfl (R_load rfl rfl rfl (Ex.mk _ (Cell.seg 6 0 rfl rfl rfl) (Pc rfl rfl (R_fa0 (o' := 6) rfl rfl rfl rfl rfl rfl (P_some rfl (O_cons ?_)))))))))))
  refine O_read rfl (R_load rfl rfl rfl (Ex.mk _ (Cell.seg 0 0 rfl rfl rfl) (Pc rfl rfl (R_add rfl rfl (Pc rfl rfl (R_fa0 (o' := 4) rfl rfl rfl rfl rfl rfl (P_some rfl (O_cons (O_store (vs := [.int .i64 (w64 ((max (w64 (x1.Leave + r1.Secs)) x3.When.From) + x3.Service))]) rfl rfl rfl rfl rfl rfl (ST_ (L' := ([(g7, .cells #[.int .i64 x3.Container, .int .i64 x3.Node, .int .i64 x3.Kind, .int .i64 x3.Grams, .int .i64 x3.When.From, .int .i64 x3.When.To, .int .i64 x3.Service] 79 (0, 0))] :: [(g6, .cells #[.int .i64 r1.Secs, .int .i64 r1.Meters] 51 (0, 0))] :: [(g1, .cells #[.int .i64 p1.Road.Nodes, .slice A1 p1.Road.Edges.length c1, .slice A2 p1.Vehicles.length c2, .slice A3 p1.Demands.length c3, .int .i64 p1.Unload, .int .i64 p1.UnloadSecs] 28 (0, 0))] :: [(g2, .cells #[.string v1.ID, .int .i64 v1.Depot, .int .i64 v1.Shift.From, .int .i64 v1.Shift.To, .int .i64 v1.Grams, .int .i64 v1.Kinds] 46 (0, 0))] :: [(g3, .cells #[.int .i64 x1.Stop, .int .i64 x1.Node, .int .i64 x1.Arrive, .int .i64 x1.Start, .int .i64 x1.Leave, .int .i64 x1.Load] 48 (0, 0))] :: [(g4, .cells #[.int .i64 0, .int .i64 0, .int .i64 0, .int .i64 0, .int .i64 0, .int .i64 0] 48 (0, 0))] :: [(g5, .cells #[.int .i64 s1, .int .i64 f1, .int .i64 (w64 (x1.Leave + r1.Secs)), .int .i64 (max (w64 (x1.Leave + r1.Secs)) x3.When.From), .int .i64 (w64 ((max (w64 (x1.Leave + r1.Secs)) x3.When.From) + x3.Service)), .int .i64 0] 48 (0, 0))] :: L)) 6 0 rfl rfl rfl rfl ?_))))))))))
  refine P_none (O_nil (hK6967 _ _ _ (WP.seq_k (fun K6969 hK6969 => Wr Tt_ok rfl (R_fa0 (o' := 5) rfl rfl rfl rfl rfl rfl (Pc rfl rfl (R_load rfl rfl rfl (Ex.mk _ (Cell.seg 4 0 rfl rfl rfl) (Pc rfl rfl (R_fa0 (o' := 3) rfl rfl rfl rfl rfl rfl (P_some rfl ?_)))))))))))
  refine O_cons (O_read rfl (R_load rfl rfl rfl (Ex.mk _ (Cell.seg 0 0 rfl rfl rfl) (Pc rfl rfl (R_add rfl rfl (Pc rfl rfl (R_fa0 (o' := 5) rfl rfl rfl rfl rfl rfl (P_some rfl (O_cons (O_store (vs := [.int .i64 (w64 (x1.Load + x3.Grams))]) rfl rfl rfl rfl rfl rfl (ST_ (L' := ([(g7, .cells #[.int .i64 x3.Container, .int .i64 x3.Node, .int .i64 x3.Kind, .int .i64 x3.Grams, .int .i64 x3.When.From, .int .i64 x3.When.To, .int .i64 x3.Service] 79 (0, 0))] :: [(g6, .cells #[.int .i64 r1.Secs, .int .i64 r1.Meters] 51 (0, 0))] :: [(g1, .cells #[.int .i64 p1.Road.Nodes, .slice A1 p1.Road.Edges.length c1, .slice A2 p1.Vehicles.length c2, .slice A3 p1.Demands.length c3, .int .i64 p1.Unload, .int .i64 p1.UnloadSecs] 28 (0, 0))] :: [(g2, .cells #[.string v1.ID, .int .i64 v1.Depot, .int .i64 v1.Shift.From, .int .i64 v1.Shift.To, .int .i64 v1.Grams, .int .i64 v1.Kinds] 46 (0, 0))] :: [(g3, .cells #[.int .i64 x1.Stop, .int .i64 x1.Node, .int .i64 x1.Arrive, .int .i64 x1.Start, .int .i64 x1.Leave, .int .i64 x1.Load] 48 (0, 0))] :: [(g4, .cells #[.int .i64 0, .int .i64 0, .int .i64 0, .int .i64 0, .int .i64 0, .int .i64 0] 48 (0, 0))] :: [(g5, .cells #[.int .i64 s1, .int .i64 f1, .int .i64 (w64 (x1.Leave + r1.Secs)), .int .i64 (max (w64 (x1.Leave + r1.Secs)) x3.When.From), .int .i64 (w64 ((max (w64 (x1.Leave + r1.Secs)) x3.When.From) + x3.Service)), .int .i64 (w64 (x1.Load + x3.Grams))] 48 (0, 0))] :: L)) 6 0 rfl rfl rfl rfl ?_)))))))))))
  refine P_none (O_nil (hK6969 _ _ _ (WP.seq_k (fun K6971 hK6971 => WP.seq_k (fun K6972 hK6972 => Wr Tt_ok rfl (R_fa0 (o' := 5) rfl rfl rfl rfl rfl rfl (Pc rfl rfl (R_load rfl rfl rfl (Ex.mk _ (Cell.seg 6 0 rfl rfl rfl) (Pc rfl rfl (R_fa0 (o' := 4) rfl rfl rfl rfl rfl rfl ?_)))))))))))
  refine Pc rfl rfl (R_load rfl rfl rfl (Ex.mk _ (Cell.seg 3 0 rfl rfl rfl) (Pc rfl rfl (R_gtrD rfl rfl (Pn rfl (hK6972 _ _ _ ?_))))))
  refine W_cond_v (b := (decide (v1.Grams < (w64 (x1.Load + x3.Grams))))) rfl (fun hc7 => ?_) (fun hc7 => ?_)
  · replace h := cond_t hc7 h
    refine WP.seq_k (fun K6973 hK6973 => Wr Tt_ok rfl (R_build rfl rfl rfl rfl (F_nil (P_some rfl (O_cons (O_store (vs := [.int .i64 0, .int .i64 0, .int .i64 0, .int .i64 0, .int .i64 0, .int .i64 0]) rfl rfl rfl rfl rfl rfl (ST_ (L' := ([(g7, .cells #[.int .i64 x3.Container, .int .i64 x3.Node, .int .i64 x3.Kind, .int .i64 x3.Grams, .int .i64 x3.When.From, .int .i64 x3.When.To, .int .i64 x3.Service] 79 (0, 0))] :: [(g6, .cells #[.int .i64 r1.Secs, .int .i64 r1.Meters] 51 (0, 0))] :: [(g1, .cells #[.int .i64 p1.Road.Nodes, .slice A1 p1.Road.Edges.length c1, .slice A2 p1.Vehicles.length c2, .slice A3 p1.Demands.length c3, .int .i64 p1.Unload, .int .i64 p1.UnloadSecs] 28 (0, 0))] :: [(g2, .cells #[.string v1.ID, .int .i64 v1.Depot, .int .i64 v1.Shift.From, .int .i64 v1.Shift.To, .int .i64 v1.Grams, .int .i64 v1.Kinds] 46 (0, 0))] :: [(g3, .cells #[.int .i64 x1.Stop, .int .i64 x1.Node, .int .i64 x1.Arrive, .int .i64 x1.Start, .int .i64 x1.Leave, .int .i64 x1.Load] 48 (0, 0))] :: [(g4, .cells #[.int .i64 0, .int .i64 0, .int .i64 0, .int .i64 0, .int .i64 0, .int .i64 0] 48 (0, 0))] :: [(g5, .cells #[.int .i64 s1, .int .i64 f1, .int .i64 (w64 (x1.Leave + r1.Secs)), .int .i64 (max (w64 (x1.Leave + r1.Secs)) x3.When.From), .int .i64 (w64 ((max (w64 (x1.Leave + r1.Secs)) x3.When.From) + x3.Service)), .int .i64 (w64 (x1.Load + x3.Grams))] 48 (0, 0))] :: L)) 5 0 rfl rfl rfl rfl ?_)))))))
    refine P_none (O_cons (O_read rfl (R_assign rfl (Pn rfl (hK6973 _ _ _ (WP.ret ?_))))))
    have e_ := Option.some.inj h
    obtain ⟨e0a_, e0b_⟩ := Prod.mk.inj e_
    clear e_
    subst e0a_
    subst e0b_
    refine S_cell rfl rfl rfl rfl (LA_ (vs := [.int .i64 0, .int .i64 0, .int .i64 0, .int .i64 0, .int .i64 0, .int .i64 0]) 5 0 rfl rfl rfl rfl (S_tmp rfl (S_nil (Upd.selS [] 7 ?_))))
    exact Upd.done hR
  replace h := cond_f hc7 h
  refine WP.skip (hK6971 _ _ _ (WP.seq_k (fun K6975 hK6975 => Wr Tt_ok rfl (R_loadA rfl rfl rfl rfl (LA_ (vs := [.int .i64 s1, .int .i64 f1, .int .i64 (w64 (x1.Leave + r1.Secs)), .int .i64 (max (w64 (x1.Leave + r1.Secs)) x3.When.From), .int .i64 (w64 ((max (w64 (x1.Leave + r1.Secs)) x3.When.From) + x3.Service)), .int .i64 (w64 (x1.Load + x3.Grams))]) 6 0 rfl rfl rfl rfl (P_some rfl (O_cons (O_store (vs := [.int .i64 s1, .int .i64 f1, .int .i64 (w64 (x1.Leave + r1.Secs)), .int .i64 (max (w64 (x1.Leave + r1.Secs)) x3.When.From), .int .i64 (w64 ((max (w64 (x1.Leave + r1.Secs)) x3.When.From) + x3.Service)), .int .i64 (w64 (x1.Load + x3.Grams))]) rfl rfl rfl rfl rfl rfl (ST_ (L' := ([(g7, .cells #[.int .i64 x3.Container, .int .i64 x3.Node, .int .i64 x3.Kind, .int .i64 x3.Grams, .int .i64 x3.When.From, .int .i64 x3.When.To, .int .i64 x3.Service] 79 (0, 0))] :: [(g6, .cells #[.int .i64 r1.Secs, .int .i64 r1.Meters] 51 (0, 0))] :: [(g1, .cells #[.int .i64 p1.Road.Nodes, .slice A1 p1.Road.Edges.length c1, .slice A2 p1.Vehicles.length c2, .slice A3 p1.Demands.length c3, .int .i64 p1.Unload, .int .i64 p1.UnloadSecs] 28 (0, 0))] :: [(g2, .cells #[.string v1.ID, .int .i64 v1.Depot, .int .i64 v1.Shift.From, .int .i64 v1.Shift.To, .int .i64 v1.Grams, .int .i64 v1.Kinds] 46 (0, 0))] :: [(g3, .cells #[.int .i64 x1.Stop, .int .i64 x1.Node, .int .i64 x1.Arrive, .int .i64 x1.Start, .int .i64 x1.Leave, .int .i64 x1.Load] 48 (0, 0))] :: [(g4, .cells #[.int .i64 s1, .int .i64 f1, .int .i64 (w64 (x1.Leave + r1.Secs)), .int .i64 (max (w64 (x1.Leave + r1.Secs)) x3.When.From), .int .i64 (w64 ((max (w64 (x1.Leave + r1.Secs)) x3.When.From) + x3.Service)), .int .i64 (w64 (x1.Load + x3.Grams))] 48 (0, 0))] :: [(g5, .cells #[.int .i64 s1, .int .i64 f1, .int .i64 (w64 (x1.Leave + r1.Secs)), .int .i64 (max (w64 (x1.Leave + r1.Secs)) x3.When.From), .int .i64 (w64 ((max (w64 (x1.Leave + r1.Secs)) x3.When.From) + x3.Service)), .int .i64 (w64 (x1.Load + x3.Grams))] 48 (0, 0))] :: L)) 5 0 rfl rfl rfl rfl ?_)))))))))
  refine P_none (O_cons (O_read rfl (R_assign rfl (Pn rfl (hK6975 _ _ _ (WP.ret ?_))))))
  have e_ := Option.some.inj h
  obtain ⟨e0a_, e0b_⟩ := Prod.mk.inj e_
  clear e_
  subst e0a_
  subst e0b_
  refine S_cell rfl rfl rfl rfl (LA_ (vs := [.int .i64 s1, .int .i64 f1, .int .i64 (w64 (x1.Leave + r1.Secs)), .int .i64 (max (w64 (x1.Leave + r1.Secs)) x3.When.From), .int .i64 (w64 ((max (w64 (x1.Leave + r1.Secs)) x3.When.From) + x3.Service)), .int .i64 (w64 (x1.Load + x3.Grams))]) 5 0 rfl rfl rfl rfl (S_tmp rfl (S_nil (Upd.selS [] 7 ?_))))
  exact Upd.done hR

theorem recyclingref22_home_fn {μ : Gh} {L : List Seg} {R : Value → Gh → List Seg → Prop}  {p1 : T_api_Problem} {v1 : T_api_Vehicle} {x1 : T_api_Visit} {A1 : Option Addr} {c1 : Nat} {A2 : Option Addr} {c2 : Nat} {A3 : Option Addr} {c3 : Nat} {res1 : T_api_Visit} {res2 : Int}
    (hl1 : p1.Road.Edges.length ≤ c1 ∧ c1 ≤ maxLen) (hA1 : ArrR r_api_Edge μ A1 p1.Road.Edges) (hl2 : p1.Vehicles.length ≤ c2 ∧ c2 ≤ maxLen) (hA2 : ArrR r_api_Vehicle μ A2 p1.Vehicles) (hl3 : p1.Demands.length ≤ c3 ∧ c3 ≤ maxLen) (hA3 : ArrR r_api_Demand μ A3 p1.Demands) (h : recyclingref22_home p1 v1 x1 = some (res1, res2))
    (hR : R (.tuple #[.agg #[.int .i64 res1.Stop, .int .i64 res1.Node, .int .i64 res1.Arrive, .int .i64 res1.Start, .int .i64 res1.Leave, .int .i64 res1.Load], .int .i64 res2]) μ (L)) :
    Fn Try.prog 37 [.agg #[.int .i64 p1.Road.Nodes, .slice A1 p1.Road.Edges.length c1, .slice A2 p1.Vehicles.length c2, .slice A3 p1.Demands.length c3, .int .i64 p1.Unload, .int .i64 p1.UnloadSecs], .agg #[.string v1.ID, .int .i64 v1.Depot, .int .i64 v1.Shift.From, .int .i64 v1.Shift.To, .int .i64 v1.Grams, .int .i64 v1.Kinds], .agg #[.int .i64 x1.Stop, .int .i64 x1.Node, .int .i64 x1.Arrive, .int .i64 x1.Start, .int .i64 x1.Leave, .int .i64 x1.Load]] μ (L) R := by
  unfold recyclingref22_home at h
  refine Fn.of_body Tt_ok Try.func37 (by kernel_rfl) rfl Try.ntmps37 (by simp) ?_
  simp only [Try.f37, argFr, List.zipIdx, List.map, Nat.reduceAdd]
  refine WP.seq_k (fun K7046 hK7046 => WP.region Tt_ok (O_cons (O_box (cs := #[.int .i64 p1.Road.Nodes, .slice A1 p1.Road.Edges.length c1, .slice A2 p1.Vehicles.length c2, .slice A3 p1.Demands.length c3, .int .i64 p1.Unload, .int .i64 p1.UnloadSecs]) rfl rfl (fun g1 => P_some rfl (O_cons (O_box (cs := #[.string v1.ID, .int .i64 v1.Depot, .int .i64 v1.Shift.From, .int .i64 v1.Shift.To, .int .i64 v1.Grams, .int .i64 v1.Kinds]) rfl rfl (fun g2 => P_some rfl (O_cons (O_box (cs := #[.int .i64 x1.Stop, .int .i64 x1.Node, .int .i64 x1.Arrive, .int .i64 x1.Start, .int .i64 x1.Leave, .int .i64 x1.Load]) rfl rfl (fun g3 => P_some rfl (O_cons (O_alloc (cs := #[.int .i64 0, .int .i64 0, .int .i64 0, .int .i64 0, .int .i64 0, .int .i64 0]) rfl rfl (fun g4 => Pc rfl rfl (R_assign rfl (P_some rfl ?_)))))))))))))))
  refine O_nil (hK7046 _ _ _ (WP.seq_k (fun K7051 hK7051 => Wr Tt_ok rfl (R_loadA rfl rfl rfl rfl (LA_ (vs := [.int .i64 p1.Road.Nodes, .slice A1 p1.Road.Edges.length c1, .slice A2 p1.Vehicles.length c2, .slice A3 p1.Demands.length c3, .int .i64 p1.Unload, .int .i64 p1.UnloadSecs]) 3 0 rfl rfl rfl rfl (Pc rfl rfl (R_fa0 (o' := 1) rfl rfl rfl rfl rfl rfl (Pc rfl rfl (R_load rfl rfl rfl (Ex.mk _ (Cell.seg 1 0 rfl rfl rfl) (P_some rfl ?_)))))))))))
  refine O_cons (O_read rfl (R_fa0 (o' := 1) rfl rfl rfl rfl rfl rfl (Pc rfl rfl (R_load rfl rfl rfl (Ex.mk _ (Cell.seg 2 0 rfl rfl rfl) (P_some rfl (O_cons (O_call (all := [.agg #[.int .i64 p1.Road.Nodes, .slice A1 p1.Road.Edges.length c1, .slice A2 p1.Vehicles.length c2, .slice A3 p1.Demands.length c3, .int .i64 p1.Unload, .int .i64 p1.UnloadSecs], .int .i64 x1.Node, .int .i64 v1.Depot]) rfl rfl rfl ?_))))))))
  obtain ⟨r1, hx1, h⟩ := obind h
  refine recyclingref22_Leg_fn hl1 hA1 hl2 hA2 hl3 hA3 hx1 ((P_some rfl (O_cons (O_alloc (cs := #[.int .i64 0, .int .i64 0]) rfl rfl (fun g5 => P_some rfl (O_cons (O_store (vs := [.int .i64 r1.Secs, .int .i64 r1.Meters]) rfl rfl rfl rfl rfl rfl (ST_ (L' := ([(g5, .cells #[.int .i64 r1.Secs, .int .i64 r1.Meters] 51 (0, 0))] :: [(g4, .cells #[.int .i64 0, .int .i64 0, .int .i64 0, .int .i64 0, .int .i64 0, .int .i64 0] 48 (0, 0))] :: [(g3, .cells #[.int .i64 x1.Stop, .int .i64 x1.Node, .int .i64 x1.Arrive, .int .i64 x1.Start, .int .i64 x1.Leave, .int .i64 x1.Load] 48 (0, 0))] :: [(g2, .cells #[.string v1.ID, .int .i64 v1.Depot, .int .i64 v1.Shift.From, .int .i64 v1.Shift.To, .int .i64 v1.Grams, .int .i64 v1.Kinds] 46 (0, 0))] :: [(g1, .cells #[.int .i64 p1.Road.Nodes, .slice A1 p1.Road.Edges.length c1, .slice A2 p1.Vehicles.length c2, .slice A3 p1.Demands.length c3, .int .i64 p1.Unload, .int .i64 p1.UnloadSecs] 28 (0, 0))] :: L)) 0 0 rfl rfl rfl rfl ?_))))))))
  refine P_none (O_nil (hK7051 _ _ _ (WP.seq_k (fun K7054 hK7054 => WP.seq_k (fun K7055 hK7055 => Wr Tt_ok rfl (R_fa0 (o' := 0) rfl rfl rfl rfl rfl rfl (Pc rfl rfl (R_load rfl rfl rfl (Ex.mk _ (Cell.seg 0 0 rfl rfl rfl) (Pc rfl rfl (R_lssD rfl rfl ?_)))))))))))
  refine Pn rfl (hK7055 _ _ _ ?_)
  refine W_cond_v (b := (decide (r1.Secs < 0))) rfl (fun hc1 => ?_) (fun hc1 => ?_)
  · replace h := cond_t hc1 h
    refine WP.seq_k (fun K7056 hK7056 => Wr Tt_ok rfl (R_build rfl rfl rfl rfl (F_nil (P_some rfl (O_cons (O_store (vs := [.int .i64 0, .int .i64 0, .int .i64 0, .int .i64 0, .int .i64 0, .int .i64 0]) rfl rfl rfl rfl rfl rfl (ST_ (L' := ([(g5, .cells #[.int .i64 r1.Secs, .int .i64 r1.Meters] 51 (0, 0))] :: [(g4, .cells #[.int .i64 0, .int .i64 0, .int .i64 0, .int .i64 0, .int .i64 0, .int .i64 0] 48 (0, 0))] :: [(g3, .cells #[.int .i64 x1.Stop, .int .i64 x1.Node, .int .i64 x1.Arrive, .int .i64 x1.Start, .int .i64 x1.Leave, .int .i64 x1.Load] 48 (0, 0))] :: [(g2, .cells #[.string v1.ID, .int .i64 v1.Depot, .int .i64 v1.Shift.From, .int .i64 v1.Shift.To, .int .i64 v1.Grams, .int .i64 v1.Kinds] 46 (0, 0))] :: [(g1, .cells #[.int .i64 p1.Road.Nodes, .slice A1 p1.Road.Edges.length c1, .slice A2 p1.Vehicles.length c2, .slice A3 p1.Demands.length c3, .int .i64 p1.Unload, .int .i64 p1.UnloadSecs] 28 (0, 0))] :: L)) 1 0 rfl rfl rfl rfl ?_)))))))
    refine P_none (O_cons (O_read rfl (R_assign rfl (Pn rfl (hK7056 _ _ _ (WP.ret ?_))))))
    have e_ := Option.some.inj h
    obtain ⟨e0a_, e0b_⟩ := Prod.mk.inj e_
    clear e_
    subst e0a_
    subst e0b_
    refine S_cell rfl rfl rfl rfl (LA_ (vs := [.int .i64 0, .int .i64 0, .int .i64 0, .int .i64 0, .int .i64 0, .int .i64 0]) 1 0 rfl rfl rfl rfl (S_tmp rfl (S_nil (Upd.selS [] 5 ?_))))
    exact Upd.done hR
  replace h := cond_f hc1 h
  refine WP.skip (hK7054 _ _ _ (WP.seq_k (fun K7058 hK7058 => WP.seq_k (fun K7059 hK7059 => Wr Tt_ok rfl (R_fa0 (o' := 5) rfl rfl rfl rfl rfl rfl (Pc rfl rfl (R_load rfl rfl rfl (Ex.mk _ (Cell.seg 2 0 rfl rfl rfl) (Pc rfl rfl (R_gtrD rfl rfl (P_some rfl ?_)))))))))))
  refine O_nil (hK7059 _ _ _ ?_)
  refine W_cond_v (b := (decide (0 < x1.Load))) rfl (fun hc2 => ?_) (fun hc2 => ?_)
  · replace h := cond_t hc2 h
    refine WP.seq_k (fun K7060 hK7060 => Wr Tt_ok rfl (R_build rfl rfl rfl rfl (F_nil (P_some rfl (O_cons (O_store (vs := [.int .i64 0, .int .i64 0, .int .i64 0, .int .i64 0, .int .i64 0, .int .i64 0]) rfl rfl rfl rfl rfl rfl (ST_ (L' := ([(g5, .cells #[.int .i64 r1.Secs, .int .i64 r1.Meters] 51 (0, 0))] :: [(g4, .cells #[.int .i64 0, .int .i64 0, .int .i64 0, .int .i64 0, .int .i64 0, .int .i64 0] 48 (0, 0))] :: [(g3, .cells #[.int .i64 x1.Stop, .int .i64 x1.Node, .int .i64 x1.Arrive, .int .i64 x1.Start, .int .i64 x1.Leave, .int .i64 x1.Load] 48 (0, 0))] :: [(g2, .cells #[.string v1.ID, .int .i64 v1.Depot, .int .i64 v1.Shift.From, .int .i64 v1.Shift.To, .int .i64 v1.Grams, .int .i64 v1.Kinds] 46 (0, 0))] :: [(g1, .cells #[.int .i64 p1.Road.Nodes, .slice A1 p1.Road.Edges.length c1, .slice A2 p1.Vehicles.length c2, .slice A3 p1.Demands.length c3, .int .i64 p1.Unload, .int .i64 p1.UnloadSecs] 28 (0, 0))] :: L)) 1 0 rfl rfl rfl rfl ?_)))))))
    refine P_none (O_cons (O_read rfl (R_assign rfl (Pn rfl (hK7060 _ _ _ (WP.ret ?_))))))
    have e_ := Option.some.inj h
    obtain ⟨e0a_, e0b_⟩ := Prod.mk.inj e_
    clear e_
    subst e0a_
    subst e0b_
    refine S_cell rfl rfl rfl rfl (LA_ (vs := [.int .i64 0, .int .i64 0, .int .i64 0, .int .i64 0, .int .i64 0, .int .i64 0]) 1 0 rfl rfl rfl rfl (S_tmp rfl (S_nil (Upd.selS [] 5 ?_))))
    exact Upd.done hR
  replace h := cond_f hc2 h
  refine WP.skip (hK7058 _ _ _ (WP.seq_k (fun K7062 hK7062 => Wr Tt_ok rfl (R_fa0 (o' := 4) rfl rfl rfl rfl rfl rfl (Pc rfl rfl (R_load rfl rfl rfl (Ex.mk _ (Cell.seg 2 0 rfl rfl rfl) (Pc rfl rfl (R_fa0 (o' := 0) rfl rfl rfl rfl rfl rfl (P_some rfl (O_cons ?_)))))))))))
  refine O_read rfl (R_load rfl rfl rfl (Ex.mk _ (Cell.seg 0 0 rfl rfl rfl) (Pc rfl rfl (R_add rfl rfl (Pc rfl rfl (R_assign rfl (Pn rfl (hK7062 _ _ _ (WP.seq_k (fun K7063 hK7063 => WP.seq_k (fun K7064 hK7064 => WP.region Tt_ok (O_cons ?_))))))))))))
  refine O_read rfl (R_move rfl (Pc rfl rfl (R_fa0 (o' := 2) rfl rfl rfl rfl rfl rfl (Pc rfl rfl (R_fa0 (o' := 3) rfl rfl rfl rfl rfl rfl (Pc rfl rfl (R_load rfl rfl rfl (Ex.mk _ (Cell.seg 3 0 rfl rfl rfl) (Pc rfl rfl ?_)))))))))
  refine R_geqD rfl rfl (Pn rfl (hK7064 _ _ _ ?_))
  refine W_cond_v (b := (decide (v1.Shift.To ≤ (w64 (x1.Leave + r1.Secs))))) rfl (fun hc3 => ?_) (fun hc3 => ?_)
  · replace h := cond_t hc3 h
    refine WP.seq_k (fun K7065 hK7065 => Wr Tt_ok rfl (R_build rfl rfl rfl rfl (F_nil (P_some rfl (O_cons (O_store (vs := [.int .i64 0, .int .i64 0, .int .i64 0, .int .i64 0, .int .i64 0, .int .i64 0]) rfl rfl rfl rfl rfl rfl (ST_ (L' := ([(g5, .cells #[.int .i64 r1.Secs, .int .i64 r1.Meters] 51 (0, 0))] :: [(g4, .cells #[.int .i64 0, .int .i64 0, .int .i64 0, .int .i64 0, .int .i64 0, .int .i64 0] 48 (0, 0))] :: [(g3, .cells #[.int .i64 x1.Stop, .int .i64 x1.Node, .int .i64 x1.Arrive, .int .i64 x1.Start, .int .i64 x1.Leave, .int .i64 x1.Load] 48 (0, 0))] :: [(g2, .cells #[.string v1.ID, .int .i64 v1.Depot, .int .i64 v1.Shift.From, .int .i64 v1.Shift.To, .int .i64 v1.Grams, .int .i64 v1.Kinds] 46 (0, 0))] :: [(g1, .cells #[.int .i64 p1.Road.Nodes, .slice A1 p1.Road.Edges.length c1, .slice A2 p1.Vehicles.length c2, .slice A3 p1.Demands.length c3, .int .i64 p1.Unload, .int .i64 p1.UnloadSecs] 28 (0, 0))] :: L)) 1 0 rfl rfl rfl rfl ?_)))))))
    refine P_none (O_cons (O_read rfl (R_assign rfl (Pn rfl (hK7065 _ _ _ (WP.ret ?_))))))
    have e_ := Option.some.inj h
    obtain ⟨e0a_, e0b_⟩ := Prod.mk.inj e_
    clear e_
    subst e0a_
    subst e0b_
    refine S_cell rfl rfl rfl rfl (LA_ (vs := [.int .i64 0, .int .i64 0, .int .i64 0, .int .i64 0, .int .i64 0, .int .i64 0]) 1 0 rfl rfl rfl rfl (S_tmp rfl (S_nil (Upd.selS [] 5 ?_))))
    exact Upd.done hR
  replace h := cond_f hc3 h
  refine WP.skip (hK7063 _ _ _ (WP.seq_k (fun K7067 hK7067 => Wr Tt_ok rfl (R_fa0 (o' := 1) rfl rfl rfl rfl rfl rfl (Pc rfl rfl (R_load rfl rfl rfl (Ex.mk _ (Cell.seg 3 0 rfl rfl rfl) (Pc rfl rfl (R_move rfl (P_some rfl (O_cons ?_)))))))))))
  refine O_read rfl (R_move rfl (Pc rfl rfl (R_move rfl (Pc rfl rfl (R_build rfl rfl rfl rfl (F_cons (cells' := [.int .i64 (-2), .int .i64 0, .int .i64 0, .int .i64 0, .int .i64 0, .int .i64 0]) rfl rfl rfl rfl (F_cons (cells' := [.int .i64 (-2), .int .i64 v1.Depot, .int .i64 0, .int .i64 0, .int .i64 0, .int .i64 0]) rfl rfl rfl rfl (F_cons (cells' := [.int .i64 (-2), .int .i64 v1.Depot, .int .i64 (w64 (x1.Leave + r1.Secs)), .int .i64 0, .int .i64 0, .int .i64 0]) rfl rfl rfl rfl (F_cons (cells' := [.int .i64 (-2), .int .i64 v1.Depot, .int .i64 (w64 (x1.Leave + r1.Secs)), .int .i64 (w64 (x1.Leave + r1.Secs)), .int .i64 0, .int .i64 0]) rfl rfl rfl rfl (F_cons (cells' := [.int .i64 (-2), .int .i64 v1.Depot, .int .i64 (w64 (x1.Leave + r1.Secs)), .int .i64 (w64 (x1.Leave + r1.Secs)), .int .i64 (w64 (x1.Leave + r1.Secs)), .int .i64 0]) rfl rfl rfl rfl ?_))))))))))
  refine F_nil (P_some rfl (O_cons (O_store (vs := [.int .i64 (-2), .int .i64 v1.Depot, .int .i64 (w64 (x1.Leave + r1.Secs)), .int .i64 (w64 (x1.Leave + r1.Secs)), .int .i64 (w64 (x1.Leave + r1.Secs)), .int .i64 0]) rfl rfl rfl rfl rfl rfl (ST_ (L' := ([(g5, .cells #[.int .i64 r1.Secs, .int .i64 r1.Meters] 51 (0, 0))] :: [(g4, .cells #[.int .i64 (-2), .int .i64 v1.Depot, .int .i64 (w64 (x1.Leave + r1.Secs)), .int .i64 (w64 (x1.Leave + r1.Secs)), .int .i64 (w64 (x1.Leave + r1.Secs)), .int .i64 0] 48 (0, 0))] :: [(g3, .cells #[.int .i64 x1.Stop, .int .i64 x1.Node, .int .i64 x1.Arrive, .int .i64 x1.Start, .int .i64 x1.Leave, .int .i64 x1.Load] 48 (0, 0))] :: [(g2, .cells #[.string v1.ID, .int .i64 v1.Depot, .int .i64 v1.Shift.From, .int .i64 v1.Shift.To, .int .i64 v1.Grams, .int .i64 v1.Kinds] 46 (0, 0))] :: [(g1, .cells #[.int .i64 p1.Road.Nodes, .slice A1 p1.Road.Edges.length c1, .slice A2 p1.Vehicles.length c2, .slice A3 p1.Demands.length c3, .int .i64 p1.Unload, .int .i64 p1.UnloadSecs] 28 (0, 0))] :: L)) 1 0 rfl rfl rfl rfl ?_))))
  refine P_none (O_cons (O_read rfl (R_assign rfl (Pn rfl (hK7067 _ _ _ (WP.ret ?_))))))
  have e_ := Option.some.inj h
  obtain ⟨e0a_, e0b_⟩ := Prod.mk.inj e_
  clear e_
  subst e0a_
  subst e0b_
  refine S_cell rfl rfl rfl rfl (LA_ (vs := [.int .i64 (-2), .int .i64 v1.Depot, .int .i64 (w64 (x1.Leave + r1.Secs)), .int .i64 (w64 (x1.Leave + r1.Secs)), .int .i64 (w64 (x1.Leave + r1.Secs)), .int .i64 0]) 1 0 rfl rfl rfl rfl (S_tmp rfl (S_nil (Upd.selS [] 5 ?_))))
  exact Upd.done hR

theorem recyclingref22_Walk_fn {μ : Gh} {L : List Seg} {R : Value → Gh → List Seg → Prop}  {p1 : T_api_Problem} {t1 : T_api_Tour} {A1 : Option Addr} {c1 : Nat} {A2 : Option Addr} {c2 : Nat} {A3 : Option Addr} {c3 : Nat} {A4 : Option Addr} {c4 : Nat} {res1 : (List T_api_Visit)} {res2 : Int} {res3 : Int}
    (hl1 : p1.Road.Edges.length ≤ c1 ∧ c1 ≤ maxLen) (hA1 : ArrR r_api_Edge μ A1 p1.Road.Edges) (hl2 : p1.Vehicles.length ≤ c2 ∧ c2 ≤ maxLen) (hA2 : ArrR r_api_Vehicle μ A2 p1.Vehicles) (hl3 : p1.Demands.length ≤ c3 ∧ c3 ≤ maxLen) (hA3 : ArrR r_api_Demand μ A3 p1.Demands) (hl4 : t1.Stops.length ≤ c4 ∧ c4 ≤ maxLen) (hA4 : ArrR rInt μ A4 t1.Stops) (h : recyclingref22_Walk p1 t1 = some (res1, res2, res3))
    (hR : ∀ (A0 : Option Addr) (c0 : Nat) (ch0 : Seg), Own r_api_Visit 48 μ (.slice A0 res1.length c0) res1 ch0 → R (.tuple #[.slice A0 res1.length c0, .int .i64 res2, .int .i64 res3]) μ (ch0 :: L)) :
    Fn Try.prog 16 [.agg #[.int .i64 p1.Road.Nodes, .slice A1 p1.Road.Edges.length c1, .slice A2 p1.Vehicles.length c2, .slice A3 p1.Demands.length c3, .int .i64 p1.Unload, .int .i64 p1.UnloadSecs], .agg #[.int .i64 t1.Vehicle, .slice A4 t1.Stops.length c4]] μ (L) R := by
  unfold recyclingref22_Walk at h
  refine Fn.of_body Tt_ok Try.func16 (by kernel_rfl) rfl Try.ntmps16 (by simp) ?_
  simp only [Try.f16, argFr, List.zipIdx, List.map, Nat.reduceAdd]
  refine WP.seq_k (fun K6469 hK6469 => WP.region Tt_ok (O_cons (O_box (cs := #[.int .i64 p1.Road.Nodes, .slice A1 p1.Road.Edges.length c1, .slice A2 p1.Vehicles.length c2, .slice A3 p1.Demands.length c3, .int .i64 p1.Unload, .int .i64 p1.UnloadSecs]) rfl rfl (fun g1 => P_some rfl (O_cons (O_box (cs := #[.int .i64 t1.Vehicle, .slice A4 t1.Stops.length c4]) rfl rfl (fun g2 => Pc rfl rfl (R_assign rfl (Pc rfl rfl (R_assign rfl (Pc rfl rfl ?_)))))))))))
  refine R_assign rfl (Pn rfl (hK6469 _ _ _ (WP.seq_k (fun K6474 hK6474 => WP.seq_k (fun K6475 hK6475 => Wr Tt_ok rfl (R_loadA rfl rfl rfl rfl (LA_ (vs := [.int .i64 p1.Road.Nodes, .slice A1 p1.Road.Edges.length c1, .slice A2 p1.Vehicles.length c2, .slice A3 p1.Demands.length c3, .int .i64 p1.Unload, .int .i64 p1.UnloadSecs]) 1 0 rfl rfl rfl rfl (P_some rfl (O_cons (O_call (all := [.agg #[.int .i64 p1.Road.Nodes, .slice A1 p1.Road.Edges.length c1, .slice A2 p1.Vehicles.length c2, .slice A3 p1.Demands.length c3, .int .i64 p1.Unload, .int .i64 p1.UnloadSecs]]) rfl rfl rfl ?_))))))))))
  obtain ⟨r1, hx1, h⟩ := obind h
  refine recyclingref22_Check_fn hl1 hA1 hl2 hA2 hl3 hA3 hx1 ((Pc rfl rfl (R_assign rfl (Pn rfl (hK6475 _ _ _ (WP.seq_k (fun K6476 hK6476 => Wr Tt_ok rfl (R_move rfl (Pc rfl rfl (R_neqD rfl rfl (P_some rfl ?_)))))))))))
  refine O_nil (hK6476 _ _ _ ?_)
  refine W_cond_v (b := !(decide (r1 = 0))) rfl (fun hc1 => ?_) (fun hc1 => ?_)
  · replace h := cond_t hc1 h
    refine WP.seq_k (fun K6477 hK6477 => Wr Tt_ok rfl (R_move rfl (Pc rfl rfl (R_assign rfl (Pc rfl rfl (R_assign rfl (Pc rfl rfl (R_assign rfl (P_some rfl ?_)))))))))
    refine O_nil (hK6477 _ _ _ (WP.ret ?_))
    have e_ := Option.some.inj h
    obtain ⟨e0a_, e0b_⟩ := Prod.mk.inj e_
    clear e_
    subst e0a_
    obtain ⟨e1a_, e1b_⟩ := Prod.mk.inj e0b_
    clear e0b_
    subst e1a_
    subst e1b_
    refine S_tmp rfl (S_tmp rfl (S_tmp rfl (S_nil (Upd.selS [none] 2 ?_))))
    exact Upd.done (hR none 0 [] (Own.nil))
  replace h := cond_f hc1 h
  refine WP.skip (hK6474 _ _ _ (WP.seq_k (fun K6480 hK6480 => WP.seq_k (fun K6481 hK6481 => ?_))))
  obtain ⟨o6482, h6482, h⟩ := obind h
  refine WP.cutK (fun fr_ μ_ L_ => ∃ (v1 : Bool), v1 = o6482 ∧ SubFr [(2, .pointer (some ⟨g1, 0, none⟩)), (3, .pointer (some ⟨g2, 0, none⟩)), (30, .bool v1)] fr_ ∧ SegSub ([(g1, .cells #[.int .i64 p1.Road.Nodes, .slice A1 p1.Road.Edges.length c1, .slice A2 p1.Vehicles.length c2, .slice A3 p1.Demands.length c3, .int .i64 p1.Unload, .int .i64 p1.UnloadSecs] 28 (0, 0))] :: [(g2, .cells #[.int .i64 t1.Vehicle, .slice A4 t1.Stops.length c4] 35 (0, 0))] :: L) L_ ∧ μ = μ_) ?_ ?_
  · refine Wr Tt_ok rfl (R_fa0 (o' := 0) rfl rfl rfl rfl rfl rfl (Pc rfl rfl (R_load rfl rfl rfl (Ex.mk _ (Cell.seg 0 0 rfl rfl rfl) (Pc rfl rfl (R_lssD rfl rfl (Pc rfl rfl (R_move rfl (P_some rfl ?_)))))))))
    refine O_gv (z := (decide (t1.Vehicle < 0))) rfl rfl (fun hc2 => ?_) (fun hc2 => ?_)
    · replace h6482 := cond_f hc2 h6482
      refine O_read rfl (R_fa0 (o' := 0) rfl rfl rfl rfl rfl rfl (P_some rfl (O_gY rfl rfl hc2 (O_read rfl (R_load rfl rfl rfl (Ex.mk _ (Cell.seg 0 0 rfl rfl rfl) (P_some rfl (O_gY rfl rfl hc2 (O_read rfl (R_fa0 (o' := 2) rfl rfl rfl rfl rfl rfl (P_some rfl (O_gY rfl rfl hc2 (O_read rfl (R_load rfl rfl rfl (Ex.mk _ (Cell.seg 1 0 rfl rfl rfl) (P_some rfl (O_gY rfl rfl hc2 ?_)))))))))))))))))
      refine O_read rfl (R_lenS rfl rfl rfl (P_some rfl (O_gY rfl rfl hc2 (O_read rfl (R_geqD rfl rfl (Pc rfl rfl (R_pick_F rfl hc2 rfl (Pn rfl ?_))))))))
      have e_ := Option.some.inj h6482
      subst e_
      exact ⟨(decide (((p1.Vehicles.length : Nat) : Int) ≤ t1.Vehicle)), rfl, SubFr.of ⟨rfl, rfl, rfl, trivial⟩, SegSub.sel _ [some 1, some 0] 2, rfl⟩
    replace h6482 := cond_t hc2 h6482
    refine P_some rfl (O_gN rfl rfl hc2 (P_some rfl (O_gN rfl rfl hc2 (P_some rfl (O_gN rfl rfl hc2 (P_some rfl (O_gN rfl rfl hc2 (P_some rfl (O_gN rfl rfl hc2 (Pc rfl rfl (R_pick_T rfl hc2 rfl (Pn rfl ?_))))))))))))
    have e_ := Option.some.inj h6482
    subst e_
    exact ⟨true, rfl, SubFr.of ⟨rfl, rfl, rfl, trivial⟩, SegSub.sel _ [some 1, some 0] 2, rfl⟩
  rintro fr6482 μ6482 L6482 hm6482 ⟨v1, ho6482, hF6482, hS6482, hu6482⟩
  subst ho6482
  subst hu6482
  refine hK6481 _ _ _ (WP.at hF6482 hS6482 ?_)
  refine W_cond_v (b := v1) rfl (fun hc3 => ?_) (fun hc3 => ?_)
  · replace h := cond_t hc3 h
    refine WP.seq_k (fun K6487 hK6487 => Wr Tt_ok rfl (R_assign rfl (Pc rfl rfl (R_assign rfl (Pc rfl rfl (R_assign rfl (Pn rfl (hK6487 _ _ _ (WP.ret ?_)))))))))
    have e_ := Option.some.inj h
    obtain ⟨e0a_, e0b_⟩ := Prod.mk.inj e_
    clear e_
    subst e0a_
    obtain ⟨e1a_, e1b_⟩ := Prod.mk.inj e0b_
    clear e0b_
    subst e1a_
    subst e1b_
    refine S_tmp rfl (S_tmp rfl (S_tmp rfl (S_nil (Upd.selS [none] 2 ?_))))
    exact Upd.done (hR none 0 [] (Own.nil))
  replace h := cond_f hc3 h
  refine WP.skip (hK6480 _ _ _ (WP.seq_k (fun K6490 hK6490 => WP.seq_k (fun K6491 hK6491 => Wr Tt_ok rfl (R_fa0 (o' := 1) rfl rfl rfl rfl rfl rfl (Pc rfl rfl (R_load rfl rfl rfl (Ex.mk _ (Cell.seg 1 0 rfl rfl rfl) (Pc rfl rfl (R_lenS rfl rfl rfl (P_some rfl ?_)))))))))))
  refine O_cons (O_read rfl (R_gtrD rfl rfl (Pn rfl (hK6491 _ _ _ ?_))))
  refine W_cond_v (b := (decide (40 < ((t1.Stops.length : Nat) : Int)))) rfl (fun hc4 => ?_) (fun hc4 => ?_)
  · replace h := cond_t hc4 h
    refine WP.seq_k (fun K6492 hK6492 => Wr Tt_ok rfl (R_assign rfl (Pc rfl rfl (R_assign rfl (Pc rfl rfl (R_assign rfl (Pn rfl (hK6492 _ _ _ (WP.ret ?_)))))))))
    have e_ := Option.some.inj h
    obtain ⟨e0a_, e0b_⟩ := Prod.mk.inj e_
    clear e_
    subst e0a_
    obtain ⟨e1a_, e1b_⟩ := Prod.mk.inj e0b_
    clear e0b_
    subst e1a_
    subst e1b_
    refine S_tmp rfl (S_tmp rfl (S_tmp rfl (S_nil (Upd.selS [none] 2 ?_))))
    exact Upd.done (hR none 0 [] (Own.nil))
  replace h := cond_f hc4 h
  refine WP.skip (hK6490 _ _ _ (WP.seq_k (fun K6495 hK6495 => Wr Tt_ok rfl (R_fa0 (o' := 2) rfl rfl rfl rfl rfl rfl (Pc rfl rfl (R_load rfl rfl rfl (Ex.mk _ (Cell.seg 0 0 rfl rfl rfl) (Pc rfl rfl (R_fa0 (o' := 0) rfl rfl rfl rfl rfl rfl (P_some rfl (O_cons ?_)))))))))))
  refine O_read rfl (R_load rfl rfl rfl (Ex.mk _ (Cell.seg 1 0 rfl rfl rfl) (P_some rfl (O_cons ?_))))
  obtain ⟨x1, hx2, h⟩ := obind h
  obtain ⟨a1, cs1, hA5, hr1, _, hc5⟩ := Rds.getI (ArrR.rds hA2 L) hx2
  obtain rfl := hr1
  refine O_read rfl (R_iaG rfl rfl rfl rfl rfl rfl ⟨(getI_lt hx2).1, (getI_lt hx2).2.1⟩ hA5 (Pc rfl rfl (R_loadA rfl rfl rfl rfl (Ex.mk [.string x1.ID, .int .i64 x1.Depot, .int .i64 x1.Shift.From, .int .i64 x1.Shift.To, .int .i64 x1.Grams, .int .i64 x1.Kinds] ⟨rfl, (hc5.push.push)⟩ (P_some rfl (O_cons (O_alloc (cs := #[.string ⟨#[]⟩, .int .i64 0, .int .i64 0, .int .i64 0, .int .i64 0, .int .i64 0]) rfl rfl (fun g3 => P_some rfl (O_cons (O_store (vs := [.string x1.ID, .int .i64 x1.Depot, .int .i64 x1.Shift.From, .int .i64 x1.Shift.To, .int .i64 x1.Grams, .int .i64 x1.Kinds]) rfl rfl rfl rfl rfl rfl (ST_ (L' := ([(g3, .cells #[.string x1.ID, .int .i64 x1.Depot, .int .i64 x1.Shift.From, .int .i64 x1.Shift.To, .int .i64 x1.Grams, .int .i64 x1.Kinds] 46 (0, 0))] :: [(g1, .cells #[.int .i64 p1.Road.Nodes, .slice A1 p1.Road.Edges.length c1, .slice A2 p1.Vehicles.length c2, .slice A3 p1.Demands.length c3, .int .i64 p1.Unload, .int .i64 p1.UnloadSecs] 28 (0, 0))] :: [(g2, .cells #[.int .i64 t1.Vehicle, .slice A4 t1.Stops.length c4] 35 (0, 0))] :: L)) 0 0 rfl rfl rfl rfl ?_)))))))))))
  refine P_none (O_nil (hK6495 _ _ _ (WP.seq_k (fun K6498 hK6498 => Wr Tt_ok rfl (R_fa0 (o' := 1) rfl rfl rfl rfl rfl rfl (Pc rfl rfl (R_load rfl rfl rfl (Ex.mk _ (Cell.seg 0 0 rfl rfl rfl) (Pc rfl rfl (R_fa0 (o' := 2) rfl rfl rfl rfl rfl rfl (P_some rfl ?_)))))))))))
  refine O_cons (O_read rfl (R_fa0 (o' := 2) rfl rfl rfl rfl rfl rfl (Pc rfl rfl (R_load rfl rfl rfl (Ex.mk _ (Cell.seg 0 0 rfl rfl rfl) (Pc rfl rfl (R_build rfl rfl rfl rfl (F_cons (cells' := [.int .i64 0, .int .i64 x1.Depot, .int .i64 0, .int .i64 0, .int .i64 0, .int .i64 0]) rfl rfl rfl rfl (F_cons (cells' := [.int .i64 0, .int .i64 x1.Depot, .int .i64 0, .int .i64 0, .int .i64 x1.Shift.From, .int .i64 0]) rfl rfl rfl rfl (F_nil (P_some rfl (O_cons (O_alloc (cs := #[.int .i64 0, .int .i64 0, .int .i64 0, .int .i64 0, .int .i64 0, .int .i64 0]) rfl rfl (fun g4 => ?_))))))))))))))
  refine P_some rfl (O_cons (O_store (vs := [.int .i64 0, .int .i64 x1.Depot, .int .i64 0, .int .i64 0, .int .i64 x1.Shift.From, .int .i64 0]) rfl rfl rfl rfl rfl rfl (ST_ (L' := ([(g4, .cells #[.int .i64 0, .int .i64 x1.Depot, .int .i64 0, .int .i64 0, .int .i64 x1.Shift.From, .int .i64 0] 48 (0, 0))] :: [(g3, .cells #[.string x1.ID, .int .i64 x1.Depot, .int .i64 x1.Shift.From, .int .i64 x1.Shift.To, .int .i64 x1.Grams, .int .i64 x1.Kinds] 46 (0, 0))] :: [(g1, .cells #[.int .i64 p1.Road.Nodes, .slice A1 p1.Road.Edges.length c1, .slice A2 p1.Vehicles.length c2, .slice A3 p1.Demands.length c3, .int .i64 p1.Unload, .int .i64 p1.UnloadSecs] 28 (0, 0))] :: [(g2, .cells #[.int .i64 t1.Vehicle, .slice A4 t1.Stops.length c4] 35 (0, 0))] :: L)) 0 0 rfl rfl rfl rfl (P_none (O_nil (hK6498 _ _ _ (WP.seq_k (fun K6501 hK6501 => ?_))))))))
  refine Wr Tt_ok rfl (R_assign rfl (Pn rfl (hK6501 _ _ _ (WP.seq_k (fun K6504 hK6504 => WP.seq_k (fun K6505 hK6505 => Wr Tt_ok rfl (R_fa0 (o' := 1) rfl rfl rfl rfl rfl rfl (Pc rfl rfl (R_load rfl rfl rfl (Ex.mk _ (Cell.seg 3 0 rfl rfl rfl) ?_))))))))))
  refine Pc rfl rfl (R_lenS rfl rfl rfl (Pc rfl rfl (R_move rfl (Pn rfl (hK6505 _ _ _ ?_)))))
  obtain ⟨o6506, h6506, h⟩ := obind h
  refine WP.cutK (fun fr_ μ_ L_ => ∃ (f13 : Int) (f14 : Int) (f15 : Int) (f16 : Int) (f17 : Int) (f18 : Int) (out2 : (List T_api_Visit)) (A7 : Option Addr) (c7 : Nat) (ch3 : Seg), (.inl (f13, f14, f15, f16, f17, f18, out2)) = o6506 ∧ SubFr [(2, .pointer (some ⟨g1, 0, none⟩)), (3, .pointer (some ⟨g2, 0, none⟩)), (8, .pointer (some ⟨g3, 0, none⟩)), (9, .pointer (some ⟨g4, 0, none⟩)), (10, .slice A7 out2.length c7)] fr_ ∧ SegSub ([(g1, .cells #[.int .i64 p1.Road.Nodes, .slice A1 p1.Road.Edges.length c1, .slice A2 p1.Vehicles.length c2, .slice A3 p1.Demands.length c3, .int .i64 p1.Unload, .int .i64 p1.UnloadSecs] 28 (0, 0))] :: [(g2, .cells #[.int .i64 t1.Vehicle, .slice A4 t1.Stops.length c4] 35 (0, 0))] :: [(g3, .cells #[.string x1.ID, .int .i64 x1.Depot, .int .i64 x1.Shift.From, .int .i64 x1.Shift.To, .int .i64 x1.Grams, .int .i64 x1.Kinds] 46 (0, 0))] :: [(g4, .cells #[.int .i64 f13, .int .i64 f14, .int .i64 f15, .int .i64 f16, .int .i64 f17, .int .i64 f18] 48 (0, 0))] :: ch3 :: L) L_ ∧ Own r_api_Visit 48 μ_ (.slice A7 out2.length c7) out2 ch3 ∧ μ = μ_) ?_ ?_
  · refine WP.block (WP.iter h6506 (fun (j_ : Int × Int × Int × Int × Int × Int × (List T_api_Visit) × Int) fr_ μ_ L_ => ounP j_ fun f1 j_ => ounP j_ fun f2 j_ => ounP j_ fun f3 j_ => ounP j_ fun f4 j_ => ounP j_ fun f5 j_ => ounP j_ fun f6 j_ => ounP j_ fun out1 v2 => ∃ (A5 : Option Addr) (c5 : Nat) (ch1 : Seg), SubFr [(2, .pointer (some ⟨g1, 0, none⟩)), (3, .pointer (some ⟨g2, 0, none⟩)), (8, .pointer (some ⟨g3, 0, none⟩)), (9, .pointer (some ⟨g4, 0, none⟩)), (10, .slice A5 out1.length c5), (48, .slice A4 t1.Stops.length c4), (49, .int .i64 ((t1.Stops.length : Nat) : Int)), (50, .int .i64 v2)] fr_ ∧ SegSub ([(g1, .cells #[.int .i64 p1.Road.Nodes, .slice A1 p1.Road.Edges.length c1, .slice A2 p1.Vehicles.length c2, .slice A3 p1.Demands.length c3, .int .i64 p1.Unload, .int .i64 p1.UnloadSecs] 28 (0, 0))] :: [(g2, .cells #[.int .i64 t1.Vehicle, .slice A4 t1.Stops.length c4] 35 (0, 0))] :: [(g3, .cells #[.string x1.ID, .int .i64 x1.Depot, .int .i64 x1.Shift.From, .int .i64 x1.Shift.To, .int .i64 x1.Grams, .int .i64 x1.Kinds] 46 (0, 0))] :: [(g4, .cells #[.int .i64 f1, .int .i64 f2, .int .i64 f3, .int .i64 f4, .int .i64 f5, .int .i64 f6] 48 (0, 0))] :: ch1 :: L) L_ ∧ Own r_api_Visit 48 μ_ (.slice A5 out1.length c5) out1 ch1 ∧ μ = μ_) ⟨none, 0, [], SubFr.of ⟨rfl, rfl, rfl, rfl, rfl, rfl, rfl, rfl, trivial⟩, SegSub.sel _ [some 2, some 3, some 1, some 0, none] 4, (Own.nil), rfl⟩ ?_)
    rintro ⟨f1, f2, f3, f4, f5, f6, out1, v2⟩ q6994 fr6994 μ6994 L6994 hm6994 ⟨A5, c5, ch1, hF6994, hS6994, hO1, hu6994⟩ hb6994 hq6994
    unfold recyclingref22_Walk_l1 at hb6994
    replace hb6994 := oun_mk hb6994
    replace hb6994 := oun_mk hb6994
    replace hb6994 := oun_mk hb6994
    replace hb6994 := oun_mk hb6994
    replace hb6994 := oun_mk hb6994
    replace hb6994 := oun_mk hb6994
    replace hb6994 := oun_mk hb6994
    subst hu6994
    refine WP.at hF6994 hS6994 (WP.seq_k (fun K7009 hK7009 => Wr Tt_ok rfl (R_lssD rfl rfl (Pn rfl (hK7009 _ _ _ (WP.seq_k (fun K7010 hK7010 => ?_)))))))
    refine W_cond_v (b := (decide (v2 < ((t1.Stops.length : Nat) : Int)))) rfl (fun hc6 => ?_) (fun hc6 => ?_)
    · replace hb6994 := cond_t hc6 hb6994
      refine WP.skip (hK7010 _ _ _ (WP.seq_k (fun K7011 hK7011 => WP.block (WP.seq_k (fun K7012 hK7012 => Wr Tt_ok rfl (R_move rfl (P_some rfl (O_cons ?_))))))))
      obtain ⟨x2, hx3, hb6994⟩ := obind hb6994
      obtain ⟨a2, cs2, hA6, hr2, _, hc7⟩ := Rds.getI (ArrR.rds hA4 L) hx3
      obtain rfl := hr2
      refine O_read rfl (R_iaG rfl rfl rfl rfl rfl rfl ⟨(getI_lt hx3).1, (getI_lt hx3).2.1⟩ hA6 (Pc rfl rfl (R_load rfl rfl rfl (Ex.mk _ (Cell.of_cells0 (hc7.push.push.push.push.push) rfl) (Pc rfl rfl (R_assign rfl (Pc rfl rfl (R_assign rfl (Pn rfl (hK7012 _ _ _ ?_))))))))))
      refine WP.seq_k (fun K7013 hK7013 => Wr Tt_ok rfl (R_loadA rfl rfl rfl rfl (LA_ (vs := [.int .i64 p1.Road.Nodes, .slice A1 p1.Road.Edges.length c1, .slice A2 p1.Vehicles.length c2, .slice A3 p1.Demands.length c3, .int .i64 p1.Unload, .int .i64 p1.UnloadSecs]) 0 0 rfl rfl rfl rfl (Pc rfl rfl (R_loadA rfl rfl rfl rfl (LA_ (vs := [.string x1.ID, .int .i64 x1.Depot, .int .i64 x1.Shift.From, .int .i64 x1.Shift.To, .int .i64 x1.Grams, .int .i64 x1.Kinds]) 2 0 rfl rfl rfl rfl (Pc rfl rfl (R_fa0 (o' := 1) rfl rfl rfl rfl rfl rfl (Pc rfl rfl ?_)))))))))
      refine R_load rfl rfl rfl (Ex.mk _ (Cell.seg 1 0 rfl rfl rfl) (Pc rfl rfl (R_move rfl (P_some rfl (O_cons (O_call (all := [.agg #[.int .i64 p1.Road.Nodes, .slice A1 p1.Road.Edges.length c1, .slice A2 p1.Vehicles.length c2, .slice A3 p1.Demands.length c3, .int .i64 p1.Unload, .int .i64 p1.UnloadSecs], .agg #[.string x1.ID, .int .i64 x1.Depot, .int .i64 x1.Shift.From, .int .i64 x1.Shift.To, .int .i64 x1.Grams, .int .i64 x1.Kinds], .slice A4 t1.Stops.length c4, .int .i64 v2]) rfl rfl rfl ?_))))))
      obtain ⟨r2, hx4, hb6994⟩ := obind hb6994
      refine recyclingref22_right_fn hl1 hA1 hl2 hA2 hl3 hA3 hl4 (ArrR.rds hA4 ([(g1, .cells #[.int .i64 p1.Road.Nodes, .slice A1 p1.Road.Edges.length c1, .slice A2 p1.Vehicles.length c2, .slice A3 p1.Demands.length c3, .int .i64 p1.Unload, .int .i64 p1.UnloadSecs] 28 (0, 0))] :: [(g2, .cells #[.int .i64 t1.Vehicle, .slice A4 t1.Stops.length c4] 35 (0, 0))] :: [(g3, .cells #[.string x1.ID, .int .i64 x1.Depot, .int .i64 x1.Shift.From, .int .i64 x1.Shift.To, .int .i64 x1.Grams, .int .i64 x1.Kinds] 46 (0, 0))] :: [(g4, .cells #[.int .i64 f1, .int .i64 f2, .int .i64 f3, .int .i64 f4, .int .i64 f5, .int .i64 f6] 48 (0, 0))] :: ch1 :: L)) hx4 ((Pc rfl rfl (R_assign rfl (Pn rfl (hK7013 _ _ _ (WP.seq_k (fun K7014 hK7014 => WP.seq_k (fun K7015 hK7015 => Wr Tt_ok rfl (R_move rfl ?_)))))))))
      refine Pc rfl rfl (R_eqlD rfl rfl (Pn rfl (hK7015 _ _ _ ?_)))
      obtain ⟨o7016, h7016, hb6994⟩ := obind hb6994
      refine WP.cutK (fun fr_ μ_ L_ => ∃ (f7 : Int) (f8 : Int) (f9 : Int) (f10 : Int) (f11 : Int) (f12 : Int) (e1 : Int), (f7, f8, f9, f10, f11, f12, e1) = o7016 ∧ SubFr [(2, .pointer (some ⟨g1, 0, none⟩)), (3, .pointer (some ⟨g2, 0, none⟩)), (8, .pointer (some ⟨g3, 0, none⟩)), (9, .pointer (some ⟨g4, 0, none⟩)), (10, .slice A5 out1.length c5), (11, .int .i64 v2), (13, .int .i64 e1), (48, .slice A4 t1.Stops.length c4), (49, .int .i64 ((t1.Stops.length : Nat) : Int)), (50, .int .i64 v2)] fr_ ∧ SegSub ([(g1, .cells #[.int .i64 p1.Road.Nodes, .slice A1 p1.Road.Edges.length c1, .slice A2 p1.Vehicles.length c2, .slice A3 p1.Demands.length c3, .int .i64 p1.Unload, .int .i64 p1.UnloadSecs] 28 (0, 0))] :: [(g2, .cells #[.int .i64 t1.Vehicle, .slice A4 t1.Stops.length c4] 35 (0, 0))] :: [(g3, .cells #[.string x1.ID, .int .i64 x1.Depot, .int .i64 x1.Shift.From, .int .i64 x1.Shift.To, .int .i64 x1.Grams, .int .i64 x1.Kinds] 46 (0, 0))] :: [(g4, .cells #[.int .i64 f7, .int .i64 f8, .int .i64 f9, .int .i64 f10, .int .i64 f11, .int .i64 f12] 48 (0, 0))] :: ch1 :: L) L_ ∧ μ = μ_) ?_ ?_
      · refine W_cond_v (b := (decide (r2 = 0))) rfl (fun hc8 => ?_) (fun hc8 => ?_)
        · replace h7016 := cond_t hc8 h7016
          refine Wr Tt_ok rfl (R_loadA rfl rfl rfl rfl (LA_ (vs := [.int .i64 p1.Road.Nodes, .slice A1 p1.Road.Edges.length c1, .slice A2 p1.Vehicles.length c2, .slice A3 p1.Demands.length c3, .int .i64 p1.Unload, .int .i64 p1.UnloadSecs]) 0 0 rfl rfl rfl rfl (Pc rfl rfl (R_loadA rfl rfl rfl rfl (LA_ (vs := [.string x1.ID, .int .i64 x1.Depot, .int .i64 x1.Shift.From, .int .i64 x1.Shift.To, .int .i64 x1.Grams, .int .i64 x1.Kinds]) 2 0 rfl rfl rfl rfl (Pc rfl rfl (R_loadA rfl rfl rfl rfl (LA_ (vs := [.int .i64 f1, .int .i64 f2, .int .i64 f3, .int .i64 f4, .int .i64 f5, .int .i64 f6]) 3 0 rfl rfl rfl rfl (Pc rfl rfl ?_)))))))))
          refine R_move rfl (P_some rfl (O_cons (O_call (all := [.agg #[.int .i64 p1.Road.Nodes, .slice A1 p1.Road.Edges.length c1, .slice A2 p1.Vehicles.length c2, .slice A3 p1.Demands.length c3, .int .i64 p1.Unload, .int .i64 p1.UnloadSecs], .agg #[.string x1.ID, .int .i64 x1.Depot, .int .i64 x1.Shift.From, .int .i64 x1.Shift.To, .int .i64 x1.Grams, .int .i64 x1.Kinds], .agg #[.int .i64 f1, .int .i64 f2, .int .i64 f3, .int .i64 f4, .int .i64 f5, .int .i64 f6], .int .i64 x2]) rfl rfl rfl ?_)))
          obtain ⟨⟨r3, r4⟩, hx5, h7016⟩ := obind h7016
          replace h7016 := oun_mk h7016
          refine recyclingref22_visit_fn hl1 hA1 hl2 hA2 hl3 hA3 hx5 ((Pc rfl rfl (R_move rfl (Pc rfl rfl (R_ext rfl rfl (Pc rfl rfl (R_ext rfl rfl (P_some rfl (O_cons (O_store (vs := [.int .i64 r3.Stop, .int .i64 r3.Node, .int .i64 r3.Arrive, .int .i64 r3.Start, .int .i64 r3.Leave, .int .i64 r3.Load]) rfl rfl rfl rfl rfl rfl (ST_ (L' := ([(g1, .cells #[.int .i64 p1.Road.Nodes, .slice A1 p1.Road.Edges.length c1, .slice A2 p1.Vehicles.length c2, .slice A3 p1.Demands.length c3, .int .i64 p1.Unload, .int .i64 p1.UnloadSecs] 28 (0, 0))] :: [(g2, .cells #[.int .i64 t1.Vehicle, .slice A4 t1.Stops.length c4] 35 (0, 0))] :: [(g3, .cells #[.string x1.ID, .int .i64 x1.Depot, .int .i64 x1.Shift.From, .int .i64 x1.Shift.To, .int .i64 x1.Grams, .int .i64 x1.Kinds] 46 (0, 0))] :: [(g4, .cells #[.int .i64 r3.Stop, .int .i64 r3.Node, .int .i64 r3.Arrive, .int .i64 r3.Start, .int .i64 r3.Leave, .int .i64 r3.Load] 48 (0, 0))] :: ch1 :: L)) 3 0 rfl rfl rfl rfl ?_)))))))))))
          refine P_none (O_cons (O_read rfl (R_assign rfl (Pn rfl ?_))))
          have e_ := Option.some.inj h7016
          subst e_
          exact ⟨r3.Stop, r3.Node, r3.Arrive, r3.Start, r3.Leave, r3.Load, r4, rfl, SubFr.of ⟨rfl, rfl, rfl, rfl, rfl, rfl, rfl, rfl, rfl, rfl, trivial⟩, SegSub.sel _ [some 0, some 1, some 2, some 3, some 4] 5, rfl⟩
        replace h7016 := cond_f hc8 h7016
        apply WP.skip
        have e_ := Option.some.inj h7016
        subst e_
        exact ⟨f1, f2, f3, f4, f5, f6, r2, rfl, SubFr.of ⟨rfl, rfl, rfl, rfl, rfl, rfl, rfl, rfl, rfl, rfl, trivial⟩, SegSub.sel _ [some 0, some 1, some 2, some 3, some 4] 5, rfl⟩
      rintro fr7016 μ7016 L7016 hm7016 ⟨f7, f8, f9, f10, f11, f12, e1, ho7016, hF7016, hS7016, hu7016⟩
      subst ho7016
      replace hb6994 := oun_mk hb6994
      replace hb6994 := oun_mk hb6994
      replace hb6994 := oun_mk hb6994
      replace hb6994 := oun_mk hb6994
      replace hb6994 := oun_mk hb6994
      replace hb6994 := oun_mk hb6994
      subst hu7016
      refine hK7014 _ _ _ (WP.at hF7016 hS7016 (WP.seq_k (fun K7026 hK7026 => WP.seq_k (fun K7027 hK7027 => Wr Tt_ok rfl (R_move rfl (Pc rfl rfl (R_neqD rfl rfl (Pn rfl (hK7027 _ _ _ ?_)))))))))
      refine W_cond_v (b := !(decide (e1 = 0))) rfl (fun hc9 => ?_) (fun hc9 => ?_)
      · replace hb6994 := cond_t hc9 hb6994
        refine WP.seq_k (fun K7028 hK7028 => Wr Tt_ok rfl (R_move rfl (Pc rfl rfl (R_move rfl (Pc rfl rfl (R_assign rfl (Pc rfl rfl (R_assign rfl (P_some rfl ?_)))))))))
        refine O_cons (O_read rfl (R_assign rfl (Pn rfl (hK7028 _ _ _ (WP.ret ?_)))))
        have e_ := Option.some.inj hb6994
        subst e_
        have hq_ := hq6994 _ rfl
        subst hq_
        replace h := osum_r h
        have e_ := Option.some.inj h
        obtain ⟨e0a_, e0b_⟩ := Prod.mk.inj e_
        clear e_
        subst e0a_
        obtain ⟨e1a_, e1b_⟩ := Prod.mk.inj e0b_
        clear e0b_
        subst e1a_
        subst e1b_
        refine S_tmp rfl (S_tmp rfl (S_tmp rfl (S_nil (Upd.selS [none] 5 ?_))))
        exact Upd.done (hR none 0 [] (Own.nil))
      replace hb6994 := cond_f hc9 hb6994
      refine WP.skip (hK7026 _ _ _ (Wr Tt_ok rfl (R_move rfl (Pc rfl rfl (R_loadA rfl rfl rfl rfl (LA_ (vs := [.int .i64 f7, .int .i64 f8, .int .i64 f9, .int .i64 f10, .int .i64 f11, .int .i64 f12]) 3 0 rfl rfl rfl rfl (P_some rfl (O_cons (O_bsl (z := [.int .i64 0, .int .i64 0, .int .i64 0, .int .i64 0, .int .i64 0, .int .i64 0]) rfl rfl rfl rfl rfl rfl rfl (F_cons (cells' := [.int .i64 f7, .int .i64 f8, .int .i64 f9, .int .i64 f10, .int .i64 f11, .int .i64 f12]) rfl rfl rfl rfl (F_nil (fun g5 => P_some rfl (O_cons ?_)))))))))))))
      apply O_append; exact rfl
      obtain ⟨l1, hz1, hb6994⟩ := obind hb6994
      refine sem_appR (r := r_api_Visit) Tt_ok rfl rfl rfl rfl (by decide) rfl rfl 5 rfl hO1 rfl (Own.rds (L := ([(g5, .cells #[.int .i64 f7, .int .i64 f8, .int .i64 f9, .int .i64 f10, .int .i64 f11, .int .i64 f12] 48 (0, 0))] :: [(g1, .cells #[.int .i64 p1.Road.Nodes, .slice A1 p1.Road.Edges.length c1, .slice A2 p1.Vehicles.length c2, .slice A3 p1.Demands.length c3, .int .i64 p1.Unload, .int .i64 p1.UnloadSecs] 28 (0, 0))] :: [(g2, .cells #[.int .i64 t1.Vehicle, .slice A4 t1.Stops.length c4] 35 (0, 0))] :: [(g3, .cells #[.string x1.ID, .int .i64 x1.Depot, .int .i64 x1.Shift.From, .int .i64 x1.Shift.To, .int .i64 x1.Grams, .int .i64 x1.Kinds] 46 (0, 0))] :: [(g4, .cells #[.int .i64 f7, .int .i64 f8, .int .i64 f9, .int .i64 f10, .int .i64 f11, .int .i64 f12] 48 (0, 0))] :: ch1 :: L)) (Own.lit (r := r_api_Visit) (e := 48) (g := g5) (xs := [(T_api_Visit.mk f7 f8 f9 f10 f11 f12)]) (cs := [.int .i64 f7, .int .i64 f8, .int .i64 f9, .int .i64 f10, .int .i64 f11, .int .i64 f12]) (css := [[.int .i64 f7, .int .i64 f8, .int .i64 f9, .int .i64 f10, .int .i64 f11, .int .i64 f12]]) rfl (All2.cons (rfl) (All2.nil)) rfl rfl) 0 rfl) hz1 fun A6 c6 ch2 hO2 => ?_
      refine Pc rfl rfl (R_assign rfl (Pn rfl (hK7011 _ _ _ (Wr Tt_ok rfl (R_add rfl rfl (Pc rfl rfl (R_move rfl (Pn rfl ?_))))))))
      have e_ := Option.some.inj hb6994
      subst e_
      exact ⟨_, rfl, A6, c6, ch2, SubFr.of ⟨rfl, rfl, rfl, rfl, rfl, rfl, rfl, rfl, trivial⟩, SegSub.sel _ [some 1, some 2, some 3, some 4, some 5] 6, (hO2), rfl⟩
    replace hb6994 := cond_f hc6 hb6994
    refine WP.exit (B_here ?_)
    have e_ := Option.some.inj hb6994
    subst e_
    have hq_ := hq6994 _ rfl
    subst hq_
    exact ⟨f1, f2, f3, f4, f5, f6, out1, A5, c5, ch1, rfl, SubFr.of ⟨rfl, rfl, rfl, rfl, rfl, trivial⟩, SegSub.sel _ [some 0, some 1, some 2, some 3, some 4] 5, (hO1), rfl⟩
  rintro fr6506 μ6506 L6506 hm6506 ⟨f13, f14, f15, f16, f17, f18, out2, A7, c7, ch3, ho6506, hF6506, hS6506, hO3, hu6506⟩
  subst ho6506
  replace h := osum_l h
  replace h := oun_mk h
  replace h := oun_mk h
  replace h := oun_mk h
  replace h := oun_mk h
  replace h := oun_mk h
  replace h := oun_mk h
  subst hu6506
  refine hK6504 _ _ _ (WP.at hF6506 hS6506 (WP.seq_k (fun K7042 hK7042 => Wr Tt_ok rfl (R_loadA rfl rfl rfl rfl (LA_ (vs := [.int .i64 p1.Road.Nodes, .slice A1 p1.Road.Edges.length c1, .slice A2 p1.Vehicles.length c2, .slice A3 p1.Demands.length c3, .int .i64 p1.Unload, .int .i64 p1.UnloadSecs]) 0 0 rfl rfl rfl rfl (Pc rfl rfl (R_loadA rfl rfl rfl rfl (LA_ (vs := [.string x1.ID, .int .i64 x1.Depot, .int .i64 x1.Shift.From, .int .i64 x1.Shift.To, .int .i64 x1.Grams, .int .i64 x1.Kinds]) 2 0 rfl rfl rfl rfl (Pc rfl rfl (R_loadA rfl rfl rfl rfl (LA_ (vs := [.int .i64 f13, .int .i64 f14, .int .i64 f15, .int .i64 f16, .int .i64 f17, .int .i64 f18]) 3 0 rfl rfl rfl rfl ?_)))))))))))
  refine P_some rfl (O_cons (O_call (all := [.agg #[.int .i64 p1.Road.Nodes, .slice A1 p1.Road.Edges.length c1, .slice A2 p1.Vehicles.length c2, .slice A3 p1.Demands.length c3, .int .i64 p1.Unload, .int .i64 p1.UnloadSecs], .agg #[.string x1.ID, .int .i64 x1.Depot, .int .i64 x1.Shift.From, .int .i64 x1.Shift.To, .int .i64 x1.Grams, .int .i64 x1.Kinds], .agg #[.int .i64 f13, .int .i64 f14, .int .i64 f15, .int .i64 f16, .int .i64 f17, .int .i64 f18]]) rfl rfl rfl ?_))
  obtain ⟨⟨r5, r6⟩, hx6, h⟩ := obind h
  replace h := oun_mk h
  refine recyclingref22_home_fn hl1 hA1 hl2 hA2 hl3 hA3 hx6 ((Pc rfl rfl (R_move rfl (Pc rfl rfl (R_ext rfl rfl (Pc rfl rfl (R_ext rfl rfl (P_some rfl (O_cons (O_store (vs := [.int .i64 r5.Stop, .int .i64 r5.Node, .int .i64 r5.Arrive, .int .i64 r5.Start, .int .i64 r5.Leave, .int .i64 r5.Load]) rfl rfl rfl rfl rfl rfl (ST_ (L' := ([(g1, .cells #[.int .i64 p1.Road.Nodes, .slice A1 p1.Road.Edges.length c1, .slice A2 p1.Vehicles.length c2, .slice A3 p1.Demands.length c3, .int .i64 p1.Unload, .int .i64 p1.UnloadSecs] 28 (0, 0))] :: [(g2, .cells #[.int .i64 t1.Vehicle, .slice A4 t1.Stops.length c4] 35 (0, 0))] :: [(g3, .cells #[.string x1.ID, .int .i64 x1.Depot, .int .i64 x1.Shift.From, .int .i64 x1.Shift.To, .int .i64 x1.Grams, .int .i64 x1.Kinds] 46 (0, 0))] :: [(g4, .cells #[.int .i64 r5.Stop, .int .i64 r5.Node, .int .i64 r5.Arrive, .int .i64 r5.Start, .int .i64 r5.Leave, .int .i64 r5.Load] 48 (0, 0))] :: ch3 :: L)) 3 0 rfl rfl rfl rfl ?_)))))))))))
  refine P_none (O_cons (O_read rfl (R_assign rfl (Pn rfl (hK7042 _ _ _ (WP.seq_k (fun K7070 hK7070 => WP.seq_k (fun K7071 hK7071 => Wr Tt_ok rfl (R_move rfl (Pc rfl rfl (R_neqD rfl rfl (P_some rfl ?_))))))))))))
  refine O_nil (hK7071 _ _ _ ?_)
  refine W_cond_v (b := !(decide (r6 = 0))) rfl (fun hc10 => ?_) (fun hc10 => ?_)
  · replace h := cond_t hc10 h
    refine WP.seq_k (fun K7072 hK7072 => WP.drawn (id := 23) (l' := List.replicate 7 true) wide Tt_ok _ Kept.refl [(true, 0), (true, 1), (true, 2), (true, 3), (true, 4), (true, 5), (true, 6)] (by kernel_rfl) (by kernel_rfl) rfl (PL_t rfl (R_move rfl (Pt rfl rfl (R_fa0 (o' := 1) rfl rfl rfl rfl rfl rfl (Pt rfl rfl (R_load rfl rfl rfl (Ex.mk _ (Cell.seg 1 0 rfl rfl rfl) (Pt rfl rfl (R_lenS rfl rfl rfl (Pt rfl rfl (R_assign rfl (P_some rfl ?_)))))))))))))
    refine PL_t rfl (R_assign rfl (Pt rfl rfl (R_assign rfl (P_some rfl (PL_nil (AN.done0 (by kernel_rfl) (hK7072 _ _ _ (WP.ret ?_))))))))
    have e_ := Option.some.inj h
    obtain ⟨e0a_, e0b_⟩ := Prod.mk.inj e_
    clear e_
    subst e0a_
    obtain ⟨e1a_, e1b_⟩ := Prod.mk.inj e0b_
    clear e0b_
    subst e1a_
    subst e1b_
    refine S_tmp rfl (S_tmp rfl (S_tmp rfl (S_nil (Upd.selS [none] 5 ?_))))
    exact Upd.done (hR none 0 [] (Own.nil))
  replace h := cond_f hc10 h
  refine WP.skip (hK7070 _ _ _ (WP.seq_k (fun K7085 hK7085 => Wr Tt_ok rfl (R_move rfl (Pc rfl rfl (R_loadA rfl rfl rfl rfl (LA_ (vs := [.int .i64 r5.Stop, .int .i64 r5.Node, .int .i64 r5.Arrive, .int .i64 r5.Start, .int .i64 r5.Leave, .int .i64 r5.Load]) 3 0 rfl rfl rfl rfl (P_some rfl (O_cons (O_bsl (z := [.int .i64 0, .int .i64 0, .int .i64 0, .int .i64 0, .int .i64 0, .int .i64 0]) rfl rfl rfl rfl rfl rfl rfl (F_cons (cells' := [.int .i64 r5.Stop, .int .i64 r5.Node, .int .i64 r5.Arrive, .int .i64 r5.Start, .int .i64 r5.Leave, .int .i64 r5.Load]) rfl rfl rfl rfl (F_nil (fun g6 => P_some rfl ?_)))))))))))))
  refine O_cons (O_append rfl ?_)
  obtain ⟨l2, hz2, h⟩ := obind h
  refine sem_appR (r := r_api_Visit) Tt_ok rfl rfl rfl rfl (by decide) rfl rfl 5 rfl hO3 rfl (Own.rds (L := ([(g6, .cells #[.int .i64 r5.Stop, .int .i64 r5.Node, .int .i64 r5.Arrive, .int .i64 r5.Start, .int .i64 r5.Leave, .int .i64 r5.Load] 48 (0, 0))] :: [(g1, .cells #[.int .i64 p1.Road.Nodes, .slice A1 p1.Road.Edges.length c1, .slice A2 p1.Vehicles.length c2, .slice A3 p1.Demands.length c3, .int .i64 p1.Unload, .int .i64 p1.UnloadSecs] 28 (0, 0))] :: [(g2, .cells #[.int .i64 t1.Vehicle, .slice A4 t1.Stops.length c4] 35 (0, 0))] :: [(g3, .cells #[.string x1.ID, .int .i64 x1.Depot, .int .i64 x1.Shift.From, .int .i64 x1.Shift.To, .int .i64 x1.Grams, .int .i64 x1.Kinds] 46 (0, 0))] :: [(g4, .cells #[.int .i64 r5.Stop, .int .i64 r5.Node, .int .i64 r5.Arrive, .int .i64 r5.Start, .int .i64 r5.Leave, .int .i64 r5.Load] 48 (0, 0))] :: ch3 :: L)) (Own.lit (r := r_api_Visit) (e := 48) (g := g6) (xs := [r5]) (cs := [.int .i64 r5.Stop, .int .i64 r5.Node, .int .i64 r5.Arrive, .int .i64 r5.Start, .int .i64 r5.Leave, .int .i64 r5.Load]) (css := [[.int .i64 r5.Stop, .int .i64 r5.Node, .int .i64 r5.Arrive, .int .i64 r5.Start, .int .i64 r5.Leave, .int .i64 r5.Load]]) rfl (All2.cons (rfl) (All2.nil)) rfl rfl) 0 rfl) hz2 fun A8 c8 ch4 hO4 => ?_
  refine Pc rfl rfl (R_assign rfl (Pc rfl rfl (R_assign rfl (Pc rfl rfl (R_assign rfl (Pn rfl (hK7085 _ _ _ (WP.ret ?_))))))))
  have e_ := Option.some.inj h
  obtain ⟨e0a_, e0b_⟩ := Prod.mk.inj e_
  clear e_
  subst e0a_
  obtain ⟨e1a_, e1b_⟩ := Prod.mk.inj e0b_
  clear e0b_
  subst e1a_
  subst e1b_
  refine S_tmp rfl (S_tmp rfl (S_tmp rfl (S_nil (Upd.selS [some 5] 6 ?_))))
  exact Upd.done (hR A8 c8 ch4 (hO4))

end Go.Proofs.Ytjbminmhndgiaaa
