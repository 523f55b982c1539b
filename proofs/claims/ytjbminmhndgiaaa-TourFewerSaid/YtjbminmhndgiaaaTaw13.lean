/- Printed by gen.py of this repo: the walks that tie the functions to their specifications. -/
import Derived.Test.YtjbminmhndgiaaaTt
import Derived.Test.YtjbminmhndgiaaaTas
import Derived.Test.YtjbminmhndgiaaaTaw1
import Derived.Test.YtjbminmhndgiaaaTaw3
namespace Go.Proofs.Ytjbminmhndgiaaa
open Go.RowKit
set_option linter.unusedSimpArgs false
set_option linter.unusedVariables false
attribute [local irreducible] WP SemOk SemU Fn AN Upd vcR vcO vcOps vcPlan putK fillK resK inBlk forkOne Cell StAt Kept

theorem recyclinglaw22_TourFewer_fn {μ : Gh} {L : List Seg} {R : Value → Gh → List Seg → Prop} {F : Nat} {p1 : T_api_Problem} {t1 : T_api_Tour} {k1 : Int} {A1 : Option Addr} {c1 : Nat} {A2 : Option Addr} {c2 : Nat} {A3 : Option Addr} {c3 : Nat} {A4 : Option Addr} {c4 : Nat} {res1 : Bool}
    (hl1 : p1.Road.Edges.length ≤ c1 ∧ c1 ≤ maxLen) (hA1 : ArrR r_api_Edge μ A1 p1.Road.Edges) (hl2 : p1.Vehicles.length ≤ c2 ∧ c2 ≤ maxLen) (hA2 : ArrR r_api_Vehicle μ A2 p1.Vehicles) (hl3 : p1.Demands.length ≤ c3 ∧ c3 ≤ maxLen) (hA3 : ArrR r_api_Demand μ A3 p1.Demands) (hl4 : t1.Stops.length ≤ c4 ∧ c4 ≤ maxLen) (hA4 : ArrR rInt μ A4 t1.Stops) (h : recyclinglaw22_TourFewer F p1 t1 k1 = some res1)
    (hR : ∀ (μ' : Gh) , μ.le μ' → R (.bool res1) μ' (L)) :
    Fn Try.prog 7 [.agg #[.int .i64 p1.Road.Nodes, .slice A1 p1.Road.Edges.length c1, .slice A2 p1.Vehicles.length c2, .slice A3 p1.Demands.length c3, .int .i64 p1.Unload, .int .i64 p1.UnloadSecs], .agg #[.int .i64 t1.Vehicle, .slice A4 t1.Stops.length c4], .int .u8 k1] μ (L) R := by
  unfold recyclinglaw22_TourFewer at h
  refine Fn.of_body Tt_ok Try.func7 (by kernel_rfl) rfl Try.ntmps7 (by simp) ?_
  simp only [Try.f7, argFr, List.zipIdx, List.map, Nat.reduceAdd]
  refine WP.seq_k (fun K7826 hK7826 => WP.region Tt_ok (O_cons (O_box (cs := #[.int .i64 p1.Road.Nodes, .slice A1 p1.Road.Edges.length c1, .slice A2 p1.Vehicles.length c2, .slice A3 p1.Demands.length c3, .int .i64 p1.Unload, .int .i64 p1.UnloadSecs]) rfl rfl (fun g1 => P_some rfl (O_cons (O_box (cs := #[.int .i64 t1.Vehicle, .slice A4 t1.Stops.length c4]) rfl rfl (fun g2 => Pc rfl rfl (R_assign rfl (Pn rfl (hK7826 _ _ _ (WP.seq_k (fun K7829 hK7829 => WP.seq_k (fun K7830 hK7830 => ?_)))))))))))))
  obtain ⟨o7831, h7831, h⟩ := obind h
  refine WP.cutK (fun fr_ μ_ L_ => ∃ (v1 : Bool), v1 = o7831 ∧ SubFr [(2, .int .u8 k1), (3, .pointer (some ⟨g1, 0, none⟩)), (4, .pointer (some ⟨g2, 0, none⟩)), (28, .bool v1)] fr_ ∧ SegSub ([(g1, .cells #[.int .i64 p1.Road.Nodes, .slice A1 p1.Road.Edges.length c1, .slice A2 p1.Vehicles.length c2, .slice A3 p1.Demands.length c3, .int .i64 p1.Unload, .int .i64 p1.UnloadSecs] 28 (0, 0))] :: [(g2, .cells #[.int .i64 t1.Vehicle, .slice A4 t1.Stops.length c4] 35 (0, 0))] :: L) L_) ?_ ?_
  · refine Wr Tt_ok rfl (R_loadA rfl rfl rfl rfl (LA_ (vs := [.int .i64 p1.Road.Nodes, .slice A1 p1.Road.Edges.length c1, .slice A2 p1.Vehicles.length c2, .slice A3 p1.Demands.length c3, .int .i64 p1.Unload, .int .i64 p1.UnloadSecs]) 1 0 rfl rfl rfl rfl (P_some rfl (O_cons (O_call (all := [.agg #[.int .i64 p1.Road.Nodes, .slice A1 p1.Road.Edges.length c1, .slice A2 p1.Vehicles.length c2, .slice A3 p1.Demands.length c3, .int .i64 p1.Unload, .int .i64 p1.UnloadSecs]]) rfl rfl rfl ?_)))))
    obtain ⟨r1, hx1, h7831⟩ := obind h7831
    refine recyclingref22_Large_fn hl1 hA1 hl2 hA2 hl3 hA3 hx1 ((Pc rfl rfl (R_move rfl (P_some rfl ?_))))
    refine O_gv (z := r1) rfl rfl (fun hc1 => ?_) (fun hc1 => ?_)
    · replace h7831 := cond_f hc1 h7831
      refine O_read rfl (R_fa0 (o' := 1) rfl rfl rfl rfl rfl rfl (P_some rfl (O_gY rfl rfl hc1 (O_read rfl (R_load rfl rfl rfl (Ex.mk _ (Cell.seg 0 0 rfl rfl rfl) (P_some rfl (O_gY rfl rfl hc1 (O_read rfl (R_lenS rfl rfl rfl (P_some rfl (O_gY rfl rfl hc1 (O_read rfl (R_gtrD rfl rfl (Pc rfl rfl ?_)))))))))))))))
      refine R_pick_F rfl hc1 rfl (Pc rfl rfl (R_move rfl (P_some rfl ?_)))
      refine O_gv (z := (decide (100 < ((t1.Stops.length : Nat) : Int)))) rfl rfl (fun hc2 => ?_) (fun hc2 => ?_)
      · replace h7831 := cond_f hc2 h7831
        refine O_read rfl (R_fa0 (o' := 1) rfl rfl rfl rfl rfl rfl (P_some rfl (O_gY rfl rfl hc2 (O_read rfl (R_load rfl rfl rfl (Ex.mk _ (Cell.seg 0 0 rfl rfl rfl) (P_some rfl (O_gY rfl rfl hc2 (O_read rfl (R_lenS rfl rfl rfl (P_some rfl (O_gY rfl rfl hc2 (O_read rfl (R_eqlD rfl rfl (Pc rfl rfl ?_)))))))))))))))
        refine R_pick_F rfl hc2 rfl (Pn rfl ?_)
        have e_ := Option.some.inj h7831
        subst e_
        exact ⟨(decide (((t1.Stops.length : Nat) : Int) = 0)), rfl, SubFr.of ⟨rfl, rfl, rfl, rfl, trivial⟩, SegSub.sel _ [some 1, some 0] 2⟩
      replace h7831 := cond_t hc2 h7831
      refine P_some rfl (O_gN rfl rfl hc2 (P_some rfl (O_gN rfl rfl hc2 (P_some rfl (O_gN rfl rfl hc2 (Pc rfl rfl (R_pick_T rfl hc2 rfl (Pn rfl ?_))))))))
      have e_ := Option.some.inj h7831
      subst e_
      exact ⟨true, rfl, SubFr.of ⟨rfl, rfl, rfl, rfl, trivial⟩, SegSub.sel _ [some 1, some 0] 2⟩
    replace h7831 := cond_t hc1 h7831
    refine P_some rfl (O_gN rfl rfl hc1 (P_some rfl (O_gN rfl rfl hc1 (P_some rfl (O_gN rfl rfl hc1 (Pc rfl rfl (R_pick_T rfl hc1 rfl (Pc rfl rfl (R_move rfl (P_some rfl (O_gN rfl rfl rfl (P_some rfl (O_gN rfl rfl rfl ?_)))))))))))))
    refine P_some rfl (O_gN rfl rfl rfl (P_some rfl (O_gN rfl rfl rfl (Pc rfl rfl (R_pick_T rfl rfl rfl (Pn rfl ?_))))))
    have e_ := Option.some.inj h7831
    subst e_
    exact ⟨true, rfl, SubFr.of ⟨rfl, rfl, rfl, rfl, trivial⟩, SegSub.sel _ [some 1, some 0] 2⟩
  rintro fr7831 μ7831 L7831 hm7831 ⟨v1, ho7831, hF7831, hS7831⟩
  subst ho7831
  replace hA1 := hA1.mono hm7831
  replace hA2 := hA2.mono hm7831
  replace hA3 := hA3.mono hm7831
  replace hA4 := hA4.mono hm7831
  refine hK7830 _ _ _ (WP.at hF7831 hS7831 ?_)
  refine W_cond_v (b := v1) rfl (fun hc3 => ?_) (fun hc3 => ?_)
  · replace h := cond_t hc3 h
    refine WP.seq_k (fun K7836 hK7836 => WP.region Tt_ok (O_cons (O_call (all := []) rfl rfl rfl ?_)))
    obtain ⟨r2, hx2, h⟩ := obind h
    refine recyclinglaw22_awake_fn  hx2 (fun v2 hm_1 => ?_)
    replace hA1 := hA1.mono hm_1
    replace hA2 := hA2.mono hm_1
    replace hA3 := hA3.mono hm_1
    replace hA4 := hA4.mono hm_1
    refine Pc rfl rfl (R_assign rfl (Pn rfl (hK7836 _ _ _ (WP.ret ?_))))
    have e_ := Option.some.inj h
    subst e_
    refine S_tmp rfl (S_nil (Upd.selS [] 2 ?_))
    exact Upd.done (hR _ (Gh.le.trans hm7831 (hm_1)))
  replace h := cond_f hc3 h
  refine WP.skip (hK7829 _ _ _ (WP.seq_k (fun K7837 hK7837 => Wr Tt_ok rfl (R_loadA rfl rfl rfl rfl (LA_ (vs := [.int .i64 p1.Road.Nodes, .slice A1 p1.Road.Edges.length c1, .slice A2 p1.Vehicles.length c2, .slice A3 p1.Demands.length c3, .int .i64 p1.Unload, .int .i64 p1.UnloadSecs]) 0 0 rfl rfl rfl rfl (Pc rfl rfl (R_loadA rfl rfl rfl rfl (LA_ (vs := [.int .i64 t1.Vehicle, .slice A4 t1.Stops.length c4]) 1 0 rfl rfl rfl rfl (P_some rfl (O_cons (O_call (all := [.agg #[.int .i64 p1.Road.Nodes, .slice A1 p1.Road.Edges.length c1, .slice A2 p1.Vehicles.length c2, .slice A3 p1.Demands.length c3, .int .i64 p1.Unload, .int .i64 p1.UnloadSecs], .agg #[.int .i64 t1.Vehicle, .slice A4 t1.Stops.length c4]]) rfl rfl rfl ?_)))))))))))
  obtain ⟨⟨r3, r4, r5⟩, hx3, h⟩ := obind h
  replace h := oun_mk h
  replace h := oun_mk h
  refine tour_Walk_fn hl1 hA1 hl2 hA2 hl3 hA3 hl4 hA4 hx3 (fun v3 A5 c5 ch1 hm_2 hO1 => ?_)
  replace hA1 := hA1.mono hm_2
  replace hA2 := hA2.mono hm_2
  replace hA3 := hA3.mono hm_2
  replace hA4 := hA4.mono hm_2
  refine Pc rfl rfl (R_move rfl (Pc rfl rfl (R_ext rfl rfl (Pc rfl rfl (R_ext rfl rfl (Pc rfl rfl (R_ext rfl rfl (P_some rfl (O_cons ?_)))))))))
  refine O_read rfl (R_assign rfl (Pc rfl rfl (R_assign rfl (Pc rfl rfl (R_assign rfl (Pn rfl (hK7837 _ _ _ (WP.seq_k (fun K7839 hK7839 => Wr Tt_ok rfl (R_move rfl ?_))))))))))
  refine Pc rfl rfl (R_conv rfl rfl rfl rfl (Pc rfl rfl (R_fa0 (o' := 1) rfl rfl rfl rfl rfl rfl (Pc rfl rfl (R_load rfl rfl rfl (Ex.mk _ (Cell.seg 2 0 rfl rfl rfl) (Pc rfl rfl (R_lenS rfl rfl rfl (P_some rfl ?_)))))))))
  refine O_cons (O_read rfl (R_rem rfl rfl ?_))
  obtain ⟨u1, hg1, h⟩ := obind h
  refine ⟨guardO_some hg1, ?_⟩
  refine Pc rfl rfl (R_assign rfl (Pn rfl (hK7839 _ _ _ (WP.seq_k (fun K7840 hK7840 => WP.seq_k (fun K7841 hK7841 => ?_))))))
  obtain ⟨o7842, h7842, h⟩ := obind h
  refine WP.cutK (fun fr_ μ_ L_ => ∃ (f_at1 : Int) (v4 : Bool), (f_at1, v4) = o7842 ∧ SubFr [(3, .pointer (some ⟨g1, 0, none⟩)), (4, .pointer (some ⟨g2, 0, none⟩)), (10, .int .i64 f_at1), (52, .bool v4)] fr_ ∧ SegSub ([(g1, .cells #[.int .i64 p1.Road.Nodes, .slice A1 p1.Road.Edges.length c1, .slice A2 p1.Vehicles.length c2, .slice A3 p1.Demands.length c3, .int .i64 p1.Unload, .int .i64 p1.UnloadSecs] 28 (0, 0))] :: [(g2, .cells #[.int .i64 t1.Vehicle, .slice A4 t1.Stops.length c4] 35 (0, 0))] :: L) L_) ?_ ?_
  · refine Wr Tt_ok rfl (R_move rfl (Pc rfl rfl (R_neqD rfl rfl (Pc rfl rfl (R_move rfl (P_some rfl ?_))))))
    refine O_gv (z := !(decide (r4 = 0))) rfl rfl (fun hc4 => ?_) (fun hc4 => ?_)
    · replace h7842 := cond_f hc4 h7842
      refine O_read rfl (R_fa0 (o' := 1) rfl rfl rfl rfl rfl rfl (P_some rfl (O_gY rfl rfl hc4 (O_read rfl (R_load rfl rfl rfl (Ex.mk _ (Cell.seg 2 0 rfl rfl rfl) (P_some rfl (O_gY rfl rfl hc4 (O_read rfl (R_move rfl (P_some rfl (O_gY rfl rfl hc4 ?_))))))))))))
      obtain ⟨x1, hx4, h7842⟩ := obind h7842
      obtain ⟨a1, cs1, hA5, hr1, _, hc5⟩ := Rds.getI (ArrR.rds hA4 L) hx4
      obtain rfl := hr1
      refine O_read rfl (R_iaG rfl rfl rfl rfl rfl rfl ⟨(getI_lt hx4).1, (getI_lt hx4).2.1⟩ hA5 (P_some rfl (O_gY rfl rfl hc4 (O_read rfl (R_load rfl rfl rfl (Ex.mk _ (Cell.of_cells0 (hc5.push.push.push) rfl) (P_some rfl (O_gY rfl rfl hc4 (O_read rfl (R_lssD rfl rfl (Pc rfl rfl (R_pick_F rfl hc4 rfl (Pn rfl ?_)))))))))))))
      have e_ := Option.some.inj h7842
      subst e_
      exact ⟨Int.tmod (w64 (k1)) ((t1.Stops.length : Nat) : Int), (decide (x1 < 0)), rfl, SubFr.of ⟨rfl, rfl, rfl, rfl, trivial⟩, SegSub.sel _ [some 1, some 2] 3⟩
    replace h7842 := cond_t hc4 h7842
    refine P_some rfl (O_gN rfl rfl hc4 (P_some rfl (O_gN rfl rfl hc4 (P_some rfl (O_gN rfl rfl hc4 (P_some rfl (O_gN rfl rfl hc4 (P_some rfl (O_gN rfl rfl hc4 (Pc rfl rfl (R_pick_T rfl hc4 rfl (Pn rfl ?_))))))))))))
    have e_ := Option.some.inj h7842
    subst e_
    exact ⟨Int.tmod (w64 (k1)) ((t1.Stops.length : Nat) : Int), true, rfl, SubFr.of ⟨rfl, rfl, rfl, rfl, trivial⟩, SegSub.sel _ [some 1, some 2] 3⟩
  rintro fr7842 μ7842 L7842 hm7842 ⟨f_at1, v4, ho7842, hF7842, hS7842⟩
  subst ho7842
  replace h := oun_mk h
  replace hA1 := hA1.mono hm7842
  replace hA2 := hA2.mono hm7842
  replace hA3 := hA3.mono hm7842
  replace hA4 := hA4.mono hm7842
  replace hO1 := hO1.mono hm7842
  refine hK7841 _ _ _ (WP.at hF7842 hS7842 ?_)
  refine W_cond_v (b := v4) rfl (fun hc6 => ?_) (fun hc6 => ?_)
  · replace h := cond_t hc6 h
    refine WP.seq_k (fun K7847 hK7847 => WP.region Tt_ok (O_cons (O_call (all := []) rfl rfl rfl ?_)))
    obtain ⟨r6, hx5, h⟩ := obind h
    refine recyclinglaw22_awake_fn  hx5 (fun v5 hm_3 => ?_)
    replace hA1 := hA1.mono hm_3
    replace hA2 := hA2.mono hm_3
    replace hA3 := hA3.mono hm_3
    replace hA4 := hA4.mono hm_3
    replace hO1 := hO1.mono hm_3
    refine Pc rfl rfl (R_assign rfl (Pn rfl (hK7847 _ _ _ (WP.ret ?_))))
    have e_ := Option.some.inj h
    subst e_
    refine S_tmp rfl (S_nil (Upd.selS [] 2 ?_))
    exact Upd.done (hR _ (Gh.le.trans hm7831 (Gh.le.trans hm_2 (Gh.le.trans hm7842 (hm_3)))))
  replace h := cond_f hc6 h
  refine WP.skip (hK7840 _ _ _ (WP.seq_k (fun K7848 hK7848 => WP.drawn (id := 7) (l' := List.replicate 13 true) wide Tt_ok _ Kept.refl [(true, 1), (true, 2), (true, 3), (true, 4), (true, 6), (true, 7), (true, 8), (true, 9), (true, 10), (false, 0), (false, 5), (false, 11), (true, 12)] (by kernel_rfl) (by kernel_rfl) rfl (PL_t rfl (R_fa0 (o' := 1) rfl rfl rfl rfl rfl rfl (Pt rfl rfl (R_load rfl rfl rfl (Ex.mk _ (Cell.seg 1 0 rfl rfl rfl) (Pt rfl rfl (R_move rfl (Pt rfl rfl ?_)))))))))))
  obtain ⟨l1, hs1, h⟩ := obind h
  refine R_slHiS rfl rfl rfl rfl rfl rfl hl4.1 hs1 ?_
  have hA6 := ArrR.pre hA4 hs1
  have hl5 := preLen hl4 hs1
  refine Pt rfl rfl (R_fa0 (o' := 1) rfl rfl rfl rfl rfl rfl (Pt rfl rfl (R_load rfl rfl rfl (Ex.mk _ (Cell.seg 1 0 rfl rfl rfl) (Pt rfl rfl (R_move rfl (Pt rfl rfl (R_add rfl rfl (Pt rfl rfl ?_)))))))))
  obtain ⟨l2, hs2, h⟩ := obind h
  refine R_slLoS (r := rInt) rfl rfl rfl rfl rfl rfl rfl hl4.1 hs2 fun A6 hAe1 => ?_
  have hA7 := ArrR.sub hA4 hl4.1 hs2 hAe1
  have hl6 := subLen hl4 hs2
  refine P_some rfl (PL_f rfl (O_bsl (z := []) rfl rfl rfl rfl rfl rfl rfl (F_nil (fun g3 => ?_))))
  refine ⟨Kept.more (Kept.refl), ?_⟩
  refine P_some rfl (PL_f rfl (O_append rfl ?_))
  obtain ⟨l3, hz1, h⟩ := obind h
  refine sem_appR (r := rInt) Tt_ok rfl rfl rfl rfl (by decide) rfl rfl 0 rfl (Own.empty (r := rInt) (e := 3) (g := g3)) rfl (ArrR.rds hA6 ([(g3, .cells #[] 3 (0, 0))] :: [(g1, .cells #[.int .i64 p1.Road.Nodes, .slice A1 p1.Road.Edges.length c1, .slice A2 p1.Vehicles.length c2, .slice A3 p1.Demands.length c3, .int .i64 p1.Unload, .int .i64 p1.UnloadSecs] 28 (0, 0))] :: [(g2, .cells #[.int .i64 t1.Vehicle, .slice A4 t1.Stops.length c4] 35 (0, 0))] :: L)) hz1 fun A7 c6 ch2 hO2 => ?_
  refine ⟨Kept.more (Kept.refl), ?_⟩
  refine P_some rfl (PL_f rfl (O_append rfl ?_))
  obtain ⟨l4, hz2, h⟩ := obind h
  refine sem_appR (r := rInt) Tt_ok rfl rfl rfl rfl (by decide) rfl rfl 0 rfl hO2 rfl (ArrR.rds hA7 (ch2 :: [(g1, .cells #[.int .i64 p1.Road.Nodes, .slice A1 p1.Road.Edges.length c1, .slice A2 p1.Vehicles.length c2, .slice A3 p1.Demands.length c3, .int .i64 p1.Unload, .int .i64 p1.UnloadSecs] 28 (0, 0))] :: [(g2, .cells #[.int .i64 t1.Vehicle, .slice A4 t1.Stops.length c4] 35 (0, 0))] :: L)) hz2 fun A8 c7 ch3 hO3 => ?_
  refine ⟨Kept.more (Kept.refl), ?_⟩
  refine Pt rfl rfl (R_assign rfl (P_some rfl (PL_nil (AN.done0 (by kernel_rfl) (hK7848 _ _ _ (WP.seq_k (fun K7879 hK7879 => Wr Tt_ok rfl (R_loadA rfl rfl rfl rfl (LA_ (vs := [.int .i64 p1.Road.Nodes, .slice A1 p1.Road.Edges.length c1, .slice A2 p1.Vehicles.length c2, .slice A3 p1.Demands.length c3, .int .i64 p1.Unload, .int .i64 p1.UnloadSecs]) 1 0 rfl rfl rfl rfl (Pc rfl rfl (R_fa0 (o' := 0) rfl rfl rfl rfl rfl rfl (P_some rfl ?_))))))))))))
  refine O_cons (O_read rfl (R_load rfl rfl rfl (Ex.mk _ (Cell.seg 2 0 rfl rfl rfl) (Pc rfl rfl (R_move rfl (Pc rfl rfl (R_build rfl rfl rfl rfl (F_cons (cells' := [.int .i64 t1.Vehicle, .slice none 0 0]) rfl rfl rfl rfl (F_cons (cells' := [.int .i64 t1.Vehicle, .slice A8 l4.length c7]) rfl rfl rfl rfl (F_nil (P_some rfl (O_cons (O_call (all := [.agg #[.int .i64 p1.Road.Nodes, .slice A1 p1.Road.Edges.length c1, .slice A2 p1.Vehicles.length c2, .slice A3 p1.Demands.length c3, .int .i64 p1.Unload, .int .i64 p1.UnloadSecs], .agg #[.int .i64 t1.Vehicle, .slice A8 l4.length c7]]) rfl rfl rfl ?_)))))))))))))
  have hl7 := Own.lenOk hO3
  refine Fn.pre Try.func15 (by kernel_rfl) rfl (Upd.frzOwn 0 rfl hO3 fun v6 hm_4 hA8 => Upd.done ?_)
  replace hA1 := hA1.mono hm_4
  replace hA2 := hA2.mono hm_4
  replace hA3 := hA3.mono hm_4
  replace hA4 := hA4.mono hm_4
  replace hO1 := hO1.mono hm_4
  replace hA6 := hA6.mono hm_4
  replace hA7 := hA7.mono hm_4
  replace hO2 := hO2.mono hm_4
  replace hO3 := hO3.mono hm_4
  obtain ⟨⟨r7, r8, r9⟩, hx6, h⟩ := obind h
  replace h := oun_mk h
  replace h := oun_mk h
  refine tour_Walk_fn hl1 hA1 hl2 hA2 hl3 hA3 hl7 hA8 hx6 (fun v7 A9 c8 ch4 hm_5 hO4 => ?_)
  replace hA1 := hA1.mono hm_5
  replace hA2 := hA2.mono hm_5
  replace hA3 := hA3.mono hm_5
  replace hA4 := hA4.mono hm_5
  replace hO1 := hO1.mono hm_5
  replace hA6 := hA6.mono hm_5
  replace hA7 := hA7.mono hm_5
  replace hO2 := hO2.mono hm_5
  replace hO3 := hO3.mono hm_5
  replace hA8 := hA8.mono hm_5
  refine Pc rfl rfl (R_move rfl (Pc rfl rfl (R_ext rfl rfl (Pc rfl rfl (R_ext rfl rfl (Pc rfl rfl (R_ext rfl rfl (P_some rfl (O_cons ?_)))))))))
  refine O_read rfl (R_assign rfl (Pc rfl rfl (R_assign rfl (Pc rfl rfl (R_assign rfl (Pn rfl (hK7879 _ _ _ (WP.seq_k (fun K7886 hK7886 => ?_)))))))))
  obtain ⟨o7887, h7887, h⟩ := obind h
  refine WP.cutK (fun fr_ μ_ L_ => ∃ (v9 : Bool), v9 = o7887 ∧ SubFr [(6, .bool v9)] fr_ ∧ SegSub (L) L_) ?_ ?_
  · refine Wr Tt_ok rfl (R_move rfl (Pc rfl rfl (R_eqlD rfl rfl (Pc rfl rfl (R_move rfl (P_some rfl ?_))))))
    refine O_gv (z := (decide (r8 = 0))) rfl rfl (fun hc7 => ?_) (fun hc7 => ?_)
    · replace h7887 := cond_t hc7 h7887
      apply O_call (all := []); exact rfl; exact rfl; exact rfl
      obtain ⟨r10, hx7, h7887⟩ := obind h7887
      refine recyclinglaw22_awake_fn  hx7 (fun v8 hm_6 => ?_)
      replace hA1 := hA1.mono hm_6
      replace hA2 := hA2.mono hm_6
      replace hA3 := hA3.mono hm_6
      replace hA4 := hA4.mono hm_6
      replace hO1 := hO1.mono hm_6
      replace hA6 := hA6.mono hm_6
      replace hA7 := hA7.mono hm_6
      replace hO2 := hO2.mono hm_6
      replace hO3 := hO3.mono hm_6
      replace hA8 := hA8.mono hm_6
      replace hO4 := hO4.mono hm_6
      refine Pc rfl rfl (R_pick_T rfl hc7 rfl (Pc rfl rfl (R_assign rfl (Pn rfl ?_))))
      have e_ := Option.some.inj h7887
      subst e_
      exact ⟨r10, rfl, SubFr.of ⟨rfl, trivial⟩, SegSub.sel _ [] 4⟩
    replace h7887 := cond_f hc7 h7887
    refine Pc rfl rfl (R_pick_F rfl hc7 rfl (Pc rfl rfl (R_assign rfl (Pn rfl ?_))))
    have e_ := Option.some.inj h7887
    subst e_
    exact ⟨false, rfl, SubFr.of ⟨rfl, trivial⟩, SegSub.sel _ [] 4⟩
  rintro fr7887 μ7887 L7887 hm7887 ⟨v9, ho7887, hF7887, hS7887⟩
  subst ho7887
  replace hA1 := hA1.mono hm7887
  replace hA2 := hA2.mono hm7887
  replace hA3 := hA3.mono hm7887
  replace hA4 := hA4.mono hm7887
  replace hO1 := hO1.mono hm7887
  replace hA6 := hA6.mono hm7887
  replace hA7 := hA7.mono hm7887
  replace hO2 := hO2.mono hm7887
  replace hO3 := hO3.mono hm7887
  replace hA8 := hA8.mono hm7887
  replace hO4 := hO4.mono hm7887
  refine hK7886 _ _ _ (WP.at hF7887 hS7887 (WP.ret ?_))
  have e_ := Option.some.inj h
  subst e_
  refine S_tmp rfl (S_nil (Upd.selS [] 0 ?_))
  exact Upd.done (hR _ (Gh.le.trans hm7831 (Gh.le.trans hm_2 (Gh.le.trans hm7842 (Gh.le.trans hm_4 (Gh.le.trans hm_5 (hm7887)))))))

end Go.Proofs.Ytjbminmhndgiaaa
