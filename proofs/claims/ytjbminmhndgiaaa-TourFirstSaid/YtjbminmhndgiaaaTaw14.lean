/- Printed by gen.py of this repo: the walks that tie the functions to their specifications. -/
import Derived.Test.YtjbminmhndgiaaaTt
import Derived.Test.YtjbminmhndgiaaaTas
import Derived.Test.YtjbminmhndgiaaaTaw1
import Derived.Test.YtjbminmhndgiaaaTaw3
namespace Go.Proofs.Ytjbminmhndgiaaa
open Go.RowKit
set_option linter.unusedSimpArgs false
set_option linter.unusedVariables false
attribute [local irreducible] WP SemOk SemU Fn AN Upd vcR vcO vcOps vcPlan putK fillK resK inBlk forkOne Cell StAt Kept

theorem recyclinglaw22_TourFirst_fn {μ : Gh} {L : List Seg} {R : Value → Gh → List Seg → Prop} {F : Nat} {p1 : T_api_Problem} {t1 : T_api_Tour} {k1 : Int} {A1 : Option Addr} {c1 : Nat} {A2 : Option Addr} {c2 : Nat} {A3 : Option Addr} {c3 : Nat} {A4 : Option Addr} {c4 : Nat} {res1 : Bool}
    (hl1 : p1.Road.Edges.length ≤ c1 ∧ c1 ≤ maxLen) (hA1 : ArrR r_api_Edge μ A1 p1.Road.Edges) (hl2 : p1.Vehicles.length ≤ c2 ∧ c2 ≤ maxLen) (hA2 : ArrR r_api_Vehicle μ A2 p1.Vehicles) (hl3 : p1.Demands.length ≤ c3 ∧ c3 ≤ maxLen) (hA3 : ArrR r_api_Demand μ A3 p1.Demands) (hl4 : t1.Stops.length ≤ c4 ∧ c4 ≤ maxLen) (hA4 : ArrR rInt μ A4 t1.Stops) (h : recyclinglaw22_TourFirst F p1 t1 k1 = some res1)
    (hR : ∀ (μ' : Gh) , μ.le μ' → R (.bool res1) μ' (L)) :
    Fn Try.prog 8 [.agg #[.int .i64 p1.Road.Nodes, .slice A1 p1.Road.Edges.length c1, .slice A2 p1.Vehicles.length c2, .slice A3 p1.Demands.length c3, .int .i64 p1.Unload, .int .i64 p1.UnloadSecs], .agg #[.int .i64 t1.Vehicle, .slice A4 t1.Stops.length c4], .int .u8 k1] μ (L) R := by
  unfold recyclinglaw22_TourFirst at h
  refine Fn.of_body Tt_ok Try.func8 (by kernel_rfl) rfl Try.ntmps8 (by simp) ?_
  simp only [Try.f8, argFr, List.zipIdx, List.map, Nat.reduceAdd]
  refine WP.seq_k (fun K7936 hK7936 => WP.region Tt_ok (O_cons (O_box (cs := #[.int .i64 p1.Road.Nodes, .slice A1 p1.Road.Edges.length c1, .slice A2 p1.Vehicles.length c2, .slice A3 p1.Demands.length c3, .int .i64 p1.Unload, .int .i64 p1.UnloadSecs]) rfl rfl (fun g1 => P_some rfl (O_cons (O_box (cs := #[.int .i64 t1.Vehicle, .slice A4 t1.Stops.length c4]) rfl rfl (fun g2 => Pc rfl rfl (R_assign rfl (Pn rfl (hK7936 _ _ _ (WP.seq_k (fun K7939 hK7939 => WP.seq_k (fun K7940 hK7940 => ?_)))))))))))))
  obtain ⟨o7941, h7941, h⟩ := obind h
  refine WP.cutK (fun fr_ μ_ L_ => ∃ (v2 : Bool), v2 = o7941 ∧ SubFr [(2, .int .u8 k1), (3, .pointer (some ⟨g1, 0, none⟩)), (4, .pointer (some ⟨g2, 0, none⟩)), (39, .bool v2)] fr_ ∧ SegSub ([(g1, .cells #[.int .i64 p1.Road.Nodes, .slice A1 p1.Road.Edges.length c1, .slice A2 p1.Vehicles.length c2, .slice A3 p1.Demands.length c3, .int .i64 p1.Unload, .int .i64 p1.UnloadSecs] 28 (0, 0))] :: [(g2, .cells #[.int .i64 t1.Vehicle, .slice A4 t1.Stops.length c4] 35 (0, 0))] :: L) L_) ?_ ?_
  · refine Wr Tt_ok rfl (R_loadA rfl rfl rfl rfl (LA_ (vs := [.int .i64 p1.Road.Nodes, .slice A1 p1.Road.Edges.length c1, .slice A2 p1.Vehicles.length c2, .slice A3 p1.Demands.length c3, .int .i64 p1.Unload, .int .i64 p1.UnloadSecs]) 1 0 rfl rfl rfl rfl (P_some rfl (O_cons (O_call (all := [.agg #[.int .i64 p1.Road.Nodes, .slice A1 p1.Road.Edges.length c1, .slice A2 p1.Vehicles.length c2, .slice A3 p1.Demands.length c3, .int .i64 p1.Unload, .int .i64 p1.UnloadSecs]]) rfl rfl rfl ?_)))))
    obtain ⟨r1, hx1, h7941⟩ := obind h7941
    refine recyclingref22_Large_fn hl1 hA1 hl2 hA2 hl3 hA3 hx1 ((Pc rfl rfl (R_move rfl (P_some rfl ?_))))
    refine O_gv (z := r1) rfl rfl (fun hc1 => ?_) (fun hc1 => ?_)
    · replace h7941 := cond_f hc1 h7941
      refine O_read rfl (R_fa0 (o' := 1) rfl rfl rfl rfl rfl rfl (P_some rfl (O_gY rfl rfl hc1 (O_read rfl (R_load rfl rfl rfl (Ex.mk _ (Cell.seg 0 0 rfl rfl rfl) (P_some rfl (O_gY rfl rfl hc1 (O_read rfl (R_lenS rfl rfl rfl (P_some rfl (O_gY rfl rfl hc1 (O_read rfl (R_gtrD rfl rfl (Pc rfl rfl ?_)))))))))))))))
      refine R_pick_F rfl hc1 rfl (Pc rfl rfl (R_move rfl (P_some rfl ?_)))
      refine O_gv (z := (decide (40 < ((t1.Stops.length : Nat) : Int)))) rfl rfl (fun hc2 => ?_) (fun hc2 => ?_)
      · replace h7941 := cond_f hc2 h7941
        refine O_read rfl (R_loadA rfl rfl rfl rfl (LA_ (vs := [.int .i64 p1.Road.Nodes, .slice A1 p1.Road.Edges.length c1, .slice A2 p1.Vehicles.length c2, .slice A3 p1.Demands.length c3, .int .i64 p1.Unload, .int .i64 p1.UnloadSecs]) 1 0 rfl rfl rfl rfl (P_some rfl (O_gY rfl rfl hc2 (O_call (all := [.agg #[.int .i64 p1.Road.Nodes, .slice A1 p1.Road.Edges.length c1, .slice A2 p1.Vehicles.length c2, .slice A3 p1.Demands.length c3, .int .i64 p1.Unload, .int .i64 p1.UnloadSecs]]) rfl rfl rfl ?_)))))
        obtain ⟨r2, hx2, h7941⟩ := obind h7941
        refine tour_Check_fn hl1 hA1 hl2 hA2 hl3 hA3 hx2 (fun v1 hm_1 => ?_)
        replace hA1 := hA1.mono hm_1
        replace hA2 := hA2.mono hm_1
        replace hA3 := hA3.mono hm_1
        replace hA4 := hA4.mono hm_1
        refine P_some rfl (O_gY rfl rfl hc2 (O_read rfl (R_neqD rfl rfl (Pc rfl rfl (R_pick_F rfl hc2 rfl (Pc rfl rfl (R_move rfl (P_some rfl ?_))))))))
        refine O_gv (z := !(decide (r2 = 0))) rfl rfl (fun hc3 => ?_) (fun hc3 => ?_)
        · replace h7941 := cond_f hc3 h7941
          refine O_read rfl (R_fa0 (o' := 0) rfl rfl rfl rfl rfl rfl (P_some rfl (O_gY rfl rfl hc3 (O_read rfl (R_load rfl rfl rfl (Ex.mk _ (Cell.seg 0 0 rfl rfl rfl) (P_some rfl (O_gY rfl rfl hc3 (O_read rfl (R_lssD rfl rfl (Pc rfl rfl (R_pick_F rfl hc3 rfl (Pc rfl rfl ?_)))))))))))))
          refine R_move rfl (P_some rfl ?_)
          refine O_gv (z := (decide (t1.Vehicle < 0))) rfl rfl (fun hc4 => ?_) (fun hc4 => ?_)
          · replace h7941 := cond_f hc4 h7941
            refine O_read rfl (R_fa0 (o' := 0) rfl rfl rfl rfl rfl rfl (P_some rfl (O_gY rfl rfl hc4 (O_read rfl (R_load rfl rfl rfl (Ex.mk _ (Cell.seg 0 0 rfl rfl rfl) (P_some rfl (O_gY rfl rfl hc4 (O_read rfl (R_fa0 (o' := 2) rfl rfl rfl rfl rfl rfl (P_some rfl (O_gY rfl rfl hc4 (O_read rfl (R_load rfl rfl rfl (Ex.mk _ (Cell.seg 1 0 rfl rfl rfl) (P_some rfl (O_gY rfl rfl hc4 ?_)))))))))))))))))
            refine O_read rfl (R_lenS rfl rfl rfl (P_some rfl (O_gY rfl rfl hc4 (O_read rfl (R_geqD rfl rfl (Pc rfl rfl (R_pick_F rfl hc4 rfl (Pn rfl ?_))))))))
            have e_ := Option.some.inj h7941
            subst e_
            exact ⟨(decide (((p1.Vehicles.length : Nat) : Int) ≤ t1.Vehicle)), rfl, SubFr.of ⟨rfl, rfl, rfl, rfl, trivial⟩, SegSub.sel _ [some 1, some 0] 2⟩
          replace h7941 := cond_t hc4 h7941
          refine P_some rfl (O_gN rfl rfl hc4 (P_some rfl (O_gN rfl rfl hc4 (P_some rfl (O_gN rfl rfl hc4 (P_some rfl (O_gN rfl rfl hc4 (P_some rfl (O_gN rfl rfl hc4 (Pc rfl rfl (R_pick_T rfl hc4 rfl (Pn rfl ?_))))))))))))
          have e_ := Option.some.inj h7941
          subst e_
          exact ⟨true, rfl, SubFr.of ⟨rfl, rfl, rfl, rfl, trivial⟩, SegSub.sel _ [some 1, some 0] 2⟩
        replace h7941 := cond_t hc3 h7941
        refine P_some rfl (O_gN rfl rfl hc3 (P_some rfl (O_gN rfl rfl hc3 (Pc rfl rfl (R_pick_T rfl hc3 rfl (Pc rfl rfl (R_move rfl (P_some rfl (O_gN rfl rfl rfl (P_some rfl (O_gN rfl rfl rfl (P_some rfl (O_gN rfl rfl rfl ?_)))))))))))))
        refine P_some rfl (O_gN rfl rfl rfl (P_some rfl (O_gN rfl rfl rfl (P_some rfl (O_gN rfl rfl rfl (Pc rfl rfl (R_pick_T rfl rfl rfl (Pn rfl ?_))))))))
        have e_ := Option.some.inj h7941
        subst e_
        exact ⟨true, rfl, SubFr.of ⟨rfl, rfl, rfl, rfl, trivial⟩, SegSub.sel _ [some 1, some 0] 2⟩
      replace h7941 := cond_t hc2 h7941
      refine P_some rfl (O_gN rfl rfl hc2 (P_some rfl (O_gN rfl rfl hc2 (Pc rfl rfl (R_pick_T rfl hc2 rfl (Pc rfl rfl (R_move rfl (P_some rfl (O_gN rfl rfl rfl (P_some rfl (O_gN rfl rfl rfl (P_some rfl (O_gN rfl rfl rfl ?_)))))))))))))
      refine Pc rfl rfl (R_pick_T rfl rfl rfl (Pc rfl rfl (R_move rfl (P_some rfl (O_gN rfl rfl rfl (P_some rfl (O_gN rfl rfl rfl (P_some rfl (O_gN rfl rfl rfl (P_some rfl (O_gN rfl rfl rfl (P_some rfl (O_gN rfl rfl rfl ?_)))))))))))))
      refine P_some rfl (O_gN rfl rfl rfl (Pc rfl rfl (R_pick_T rfl rfl rfl (Pn rfl ?_))))
      have e_ := Option.some.inj h7941
      subst e_
      exact ⟨true, rfl, SubFr.of ⟨rfl, rfl, rfl, rfl, trivial⟩, SegSub.sel _ [some 1, some 0] 2⟩
    replace h7941 := cond_t hc1 h7941
    refine P_some rfl (O_gN rfl rfl hc1 (P_some rfl (O_gN rfl rfl hc1 (P_some rfl (O_gN rfl rfl hc1 (Pc rfl rfl (R_pick_T rfl hc1 rfl (Pc rfl rfl (R_move rfl (P_some rfl (O_gN rfl rfl rfl (P_some rfl (O_gN rfl rfl rfl ?_)))))))))))))
    refine P_some rfl (O_gN rfl rfl rfl (Pc rfl rfl (R_pick_T rfl rfl rfl (Pc rfl rfl (R_move rfl (P_some rfl (O_gN rfl rfl rfl (P_some rfl (O_gN rfl rfl rfl (P_some rfl (O_gN rfl rfl rfl (P_some rfl (O_cons ?_)))))))))))))
    refine O_read rfl (R_pick_T rfl rfl rfl (Pc rfl rfl (R_move rfl (P_some rfl (O_gN rfl rfl rfl (P_some rfl (O_gN rfl rfl rfl (P_some rfl (O_gN rfl rfl rfl (P_some rfl (O_gN rfl rfl rfl (P_some rfl (O_gN rfl rfl rfl (P_some rfl (O_gN rfl rfl rfl ?_)))))))))))))))
    refine Pc rfl rfl (R_pick_T rfl rfl rfl (Pn rfl ?_))
    have e_ := Option.some.inj h7941
    subst e_
    exact ⟨true, rfl, SubFr.of ⟨rfl, rfl, rfl, rfl, trivial⟩, SegSub.sel _ [some 1, some 0] 2⟩
  rintro fr7941 μ7941 L7941 hm7941 ⟨v2, ho7941, hF7941, hS7941⟩
  subst ho7941
  replace hA1 := hA1.mono hm7941
  replace hA2 := hA2.mono hm7941
  replace hA3 := hA3.mono hm7941
  replace hA4 := hA4.mono hm7941
  refine hK7940 _ _ _ (WP.at hF7941 hS7941 ?_)
  refine W_cond_v (b := v2) rfl (fun hc5 => ?_) (fun hc5 => ?_)
  · replace h := cond_t hc5 h
    refine WP.seq_k (fun K7946 hK7946 => WP.region Tt_ok (O_cons (O_call (all := []) rfl rfl rfl ?_)))
    obtain ⟨r3, hx3, h⟩ := obind h
    refine recyclinglaw22_awake_fn  hx3 (fun v3 hm_2 => ?_)
    replace hA1 := hA1.mono hm_2
    replace hA2 := hA2.mono hm_2
    replace hA3 := hA3.mono hm_2
    replace hA4 := hA4.mono hm_2
    refine Pc rfl rfl (R_assign rfl (Pn rfl (hK7946 _ _ _ (WP.ret ?_))))
    have e_ := Option.some.inj h
    subst e_
    refine S_tmp rfl (S_nil (Upd.selS [] 2 ?_))
    exact Upd.done (hR _ (Gh.le.trans hm7941 (hm_2)))
  replace h := cond_f hc5 h
  refine WP.skip (hK7939 _ _ _ (WP.seq_k (fun K7947 hK7947 => Wr Tt_ok rfl (R_loadA rfl rfl rfl rfl (LA_ (vs := [.int .i64 p1.Road.Nodes, .slice A1 p1.Road.Edges.length c1, .slice A2 p1.Vehicles.length c2, .slice A3 p1.Demands.length c3, .int .i64 p1.Unload, .int .i64 p1.UnloadSecs]) 0 0 rfl rfl rfl rfl (Pc rfl rfl (R_loadA rfl rfl rfl rfl (LA_ (vs := [.int .i64 t1.Vehicle, .slice A4 t1.Stops.length c4]) 1 0 rfl rfl rfl rfl (P_some rfl (O_cons (O_call (all := [.agg #[.int .i64 p1.Road.Nodes, .slice A1 p1.Road.Edges.length c1, .slice A2 p1.Vehicles.length c2, .slice A3 p1.Demands.length c3, .int .i64 p1.Unload, .int .i64 p1.UnloadSecs], .agg #[.int .i64 t1.Vehicle, .slice A4 t1.Stops.length c4]]) rfl rfl rfl ?_)))))))))))
  obtain ⟨⟨r4, r5, r6⟩, hx4, h⟩ := obind h
  replace h := oun_mk h
  replace h := oun_mk h
  refine tour_Walk_fn hl1 hA1 hl2 hA2 hl3 hA3 hl4 hA4 hx4 (fun v4 A5 c5 ch1 hm_3 hO1 => ?_)
  replace hA1 := hA1.mono hm_3
  replace hA2 := hA2.mono hm_3
  replace hA3 := hA3.mono hm_3
  replace hA4 := hA4.mono hm_3
  refine Pc rfl rfl (R_move rfl (Pc rfl rfl (R_ext rfl rfl (Pc rfl rfl (R_ext rfl rfl (Pc rfl rfl (R_ext rfl rfl (P_some rfl (O_cons ?_)))))))))
  refine O_read rfl (R_assign rfl (Pc rfl rfl (R_assign rfl (Pc rfl rfl (R_assign rfl (Pn rfl (hK7947 _ _ _ (WP.seq_k (fun K7949 hK7949 => Wr Tt_ok rfl (R_move rfl ?_))))))))))
  refine Pc rfl rfl (R_conv rfl rfl rfl rfl (Pc rfl rfl (R_fa0 (o' := 1) rfl rfl rfl rfl rfl rfl (Pc rfl rfl (R_load rfl rfl rfl (Ex.mk _ (Cell.seg 2 0 rfl rfl rfl) (Pc rfl rfl (R_lenS rfl rfl rfl (P_some rfl ?_)))))))))
  refine O_cons (O_read rfl (R_add rfl rfl (Pc rfl rfl (R_rem rfl rfl ?_))))
  obtain ⟨u1, hg1, h⟩ := obind h
  refine ⟨guardO_some hg1, ?_⟩
  refine Pc rfl rfl (R_assign rfl (Pn rfl (hK7949 _ _ _ (WP.seq_k (fun K7950 hK7950 => WP.drawn (id := 5) (l' := List.replicate 16 true) wide Tt_ok _ Kept.refl [(true, 0), (true, 1), (true, 2), (true, 3), (true, 4), (true, 5), (true, 6), (true, 7), (false, 8), (true, 9), (true, 10), (true, 11), (true, 12), (true, 13), (true, 14), (true, 15)] (by kernel_rfl) (by kernel_rfl) rfl (PL_t rfl (R_loadA rfl rfl rfl rfl (LA_ (vs := [.int .i64 p1.Road.Nodes, .slice A1 p1.Road.Edges.length c1, .slice A2 p1.Vehicles.length c2, .slice A3 p1.Demands.length c3, .int .i64 p1.Unload, .int .i64 p1.UnloadSecs]) 1 0 rfl rfl rfl rfl (Pt rfl rfl (R_fa0 (o' := 0) rfl rfl rfl rfl rfl rfl (Pt rfl rfl (R_load rfl rfl rfl ?_))))))))))))
  refine Ex.mk _ (Cell.seg 2 0 rfl rfl rfl) (Pt rfl rfl (R_fa0 (o' := 1) rfl rfl rfl rfl rfl rfl (Pt rfl rfl (R_load rfl rfl rfl (Ex.mk _ (Cell.seg 2 0 rfl rfl rfl) (Pt rfl rfl (R_move rfl (Pt rfl rfl ?_))))))))
  obtain ⟨l1, hs1, h⟩ := obind h
  refine R_slHiS rfl rfl rfl rfl rfl rfl hl4.1 hs1 ?_
  have hA5 := ArrR.pre hA4 hs1
  have hl5 := preLen hl4 hs1
  refine Pt rfl rfl (R_build rfl rfl rfl rfl (F_cons (cells' := [.int .i64 t1.Vehicle, .slice none 0 0]) rfl rfl rfl rfl (F_cons (cells' := [.int .i64 t1.Vehicle, .slice A4 l1.length c4]) rfl rfl rfl rfl (F_nil (P_some rfl (PL_f rfl (O_call (all := [.agg #[.int .i64 p1.Road.Nodes, .slice A1 p1.Road.Edges.length c1, .slice A2 p1.Vehicles.length c2, .slice A3 p1.Demands.length c3, .int .i64 p1.Unload, .int .i64 p1.UnloadSecs], .agg #[.int .i64 t1.Vehicle, .slice A4 l1.length c4]]) rfl rfl rfl ?_)))))))
  obtain ⟨⟨r7, r8, r9⟩, hx5, h⟩ := obind h
  replace h := oun_mk h
  replace h := oun_mk h
  refine tour_Walk_fn hl1 hA1 hl2 hA2 hl3 hA3 hl5 hA5 hx5 (fun v5 A6 c6 ch2 hm_4 hO2 => ?_)
  replace hA1 := hA1.mono hm_4
  replace hA2 := hA2.mono hm_4
  replace hA3 := hA3.mono hm_4
  replace hA4 := hA4.mono hm_4
  replace hO1 := hO1.mono hm_4
  replace hA5 := hA5.mono hm_4
  refine ⟨Kept.more (Kept.refl), ?_⟩
  refine Pt rfl rfl (R_move rfl (Pt rfl rfl (R_ext rfl rfl (Pt rfl rfl (R_ext rfl rfl (Pt rfl rfl (R_ext rfl rfl (Pt rfl rfl (R_assign rfl (Pt rfl rfl (R_assign rfl ?_)))))))))))
  refine Pt rfl rfl (R_assign rfl (P_some rfl (PL_nil (AN.done0 (by kernel_rfl) (hK7950 _ _ _ (WP.seq_k (fun K7969 hK7969 => WP.seq_k (fun K7970 hK7970 => ?_))))))))
  obtain ⟨o7971, h7971, h⟩ := obind h
  refine WP.cutK (fun fr_ μ_ L_ => ∃ (n1 : Int) (v6 : Bool), (n1, v6) = o7971 ∧ SubFr [(8, .int .i64 r5), (9, .int .i64 r6), (10, .int .i64 n1), (12, .int .i64 r8), (13, .int .i64 r9), (74, .bool v6)] fr_ ∧ SegSub (L) L_) ?_ ?_
  · refine Wr Tt_ok rfl (R_move rfl (Pc rfl rfl (R_neqD rfl rfl (Pc rfl rfl (R_move rfl (P_some rfl ?_))))))
    refine O_gv (z := !(decide (r5 = 0))) rfl rfl (fun hc6 => ?_) (fun hc6 => ?_)
    · replace h7971 := cond_t hc6 h7971
      refine O_read rfl (R_move rfl (P_some rfl (O_gY rfl rfl hc6 (O_read rfl (R_move rfl (P_some rfl (O_gY rfl rfl hc6 (O_read rfl (R_lssD rfl rfl (Pc rfl rfl (R_pick_T rfl hc6 rfl (Pn rfl ?_))))))))))))
      have e_ := Option.some.inj h7971
      subst e_
      exact ⟨Int.tmod (w64 (k1)) (w64 (((t1.Stops.length : Nat) : Int) + 1)), (decide (r6 < (Int.tmod (w64 (k1)) (w64 (((t1.Stops.length : Nat) : Int) + 1))))), rfl, SubFr.of ⟨rfl, rfl, rfl, rfl, rfl, rfl, trivial⟩, SegSub.sel _ [] 4⟩
    replace h7971 := cond_f hc6 h7971
    refine P_some rfl (O_gN rfl rfl hc6 (P_some rfl (O_gN rfl rfl hc6 (Pc rfl rfl (R_pick_F rfl hc6 rfl (Pn rfl ?_))))))
    have e_ := Option.some.inj h7971
    subst e_
    exact ⟨Int.tmod (w64 (k1)) (w64 (((t1.Stops.length : Nat) : Int) + 1)), false, rfl, SubFr.of ⟨rfl, rfl, rfl, rfl, rfl, rfl, trivial⟩, SegSub.sel _ [] 4⟩
  rintro fr7971 μ7971 L7971 hm7971 ⟨n1, v6, ho7971, hF7971, hS7971⟩
  subst ho7971
  replace h := oun_mk h
  replace hA1 := hA1.mono hm7971
  replace hA2 := hA2.mono hm7971
  replace hA3 := hA3.mono hm7971
  replace hA4 := hA4.mono hm7971
  replace hO1 := hO1.mono hm7971
  replace hA5 := hA5.mono hm7971
  replace hO2 := hO2.mono hm7971
  refine hK7970 _ _ _ (WP.at hF7971 hS7971 ?_)
  refine W_cond_v (b := v6) rfl (fun hc7 => ?_) (fun hc7 => ?_)
  · replace h := cond_t hc7 h
    refine WP.seq_k ?_; intro K7972 hK7972
    obtain ⟨o7973, h7973, h⟩ := obind h
    refine WP.cutK (fun fr_ μ_ L_ => ∃ (v8 : Bool), v8 = o7973 ∧ SubFr [(6, .bool v8)] fr_ ∧ SegSub (L) L_) ?_ ?_
    · refine Wr Tt_ok rfl (R_move rfl (Pc rfl rfl (R_move rfl (Pc rfl rfl (R_eqlD rfl rfl (Pc rfl rfl (R_move rfl (P_some rfl ?_))))))))
      refine O_gv (z := (decide (r8 = r5))) rfl rfl (fun hc8 => ?_) (fun hc8 => ?_)
      · replace h7973 := cond_t hc8 h7973
        refine O_read rfl (R_move rfl (P_some rfl (O_gY rfl rfl hc8 (O_read rfl (R_move rfl (P_some rfl (O_gY rfl rfl hc8 (O_read rfl (R_eqlD rfl rfl (Pc rfl rfl (R_pick_T rfl hc8 rfl (Pc rfl rfl (R_move rfl ?_)))))))))))))
        apply P_some; exact rfl
        refine O_gv (z := (decide (r9 = r6))) rfl rfl (fun hc9 => ?_) (fun hc9 => ?_)
        · replace h7973 := cond_t hc9 h7973
          apply O_call (all := []); exact rfl; exact rfl; exact rfl
          obtain ⟨r10, hx6, h7973⟩ := obind h7973
          refine recyclinglaw22_awake_fn  hx6 (fun v7 hm_5 => ?_)
          replace hA1 := hA1.mono hm_5
          replace hA2 := hA2.mono hm_5
          replace hA3 := hA3.mono hm_5
          replace hA4 := hA4.mono hm_5
          replace hO1 := hO1.mono hm_5
          replace hA5 := hA5.mono hm_5
          replace hO2 := hO2.mono hm_5
          refine Pc rfl rfl (R_pick_T rfl hc9 rfl (Pc rfl rfl (R_assign rfl (Pn rfl ?_))))
          have e_ := Option.some.inj h7973
          subst e_
          exact ⟨r10, rfl, SubFr.of ⟨rfl, trivial⟩, SegSub.sel _ [] 0⟩
        replace h7973 := cond_f hc9 h7973
        refine Pc rfl rfl (R_pick_F rfl hc9 rfl (Pc rfl rfl (R_assign rfl (Pn rfl ?_))))
        have e_ := Option.some.inj h7973
        subst e_
        exact ⟨false, rfl, SubFr.of ⟨rfl, trivial⟩, SegSub.sel _ [] 0⟩
      replace h7973 := cond_f hc8 h7973
      refine P_some rfl (O_gN rfl rfl hc8 (P_some rfl (O_gN rfl rfl hc8 (Pc rfl rfl (R_pick_F rfl hc8 rfl (Pc rfl rfl (R_move rfl (P_some rfl (O_gN rfl rfl rfl (Pc rfl rfl (R_pick_F rfl rfl rfl ?_)))))))))))
      refine Pc rfl rfl (R_assign rfl (Pn rfl ?_))
      have e_ := Option.some.inj h7973
      subst e_
      exact ⟨false, rfl, SubFr.of ⟨rfl, trivial⟩, SegSub.sel _ [] 0⟩
    rintro fr7973 μ7973 L7973 hm7973 ⟨v8, ho7973, hF7973, hS7973⟩
    subst ho7973
    replace hA1 := hA1.mono hm7973
    replace hA2 := hA2.mono hm7973
    replace hA3 := hA3.mono hm7973
    replace hA4 := hA4.mono hm7973
    replace hO1 := hO1.mono hm7973
    replace hA5 := hA5.mono hm7973
    replace hO2 := hO2.mono hm7973
    refine hK7972 _ _ _ (WP.at hF7973 hS7973 (WP.ret ?_))
    have e_ := Option.some.inj h
    subst e_
    refine S_tmp rfl (S_nil (Upd.selS [] 0 ?_))
    exact Upd.done (hR _ (Gh.le.trans hm7941 (Gh.le.trans hm_3 (Gh.le.trans hm_4 (Gh.le.trans hm7971 (hm7973))))))
  replace h := cond_f hc7 h
  refine WP.skip (hK7969 _ _ _ (WP.seq_k (fun K7974 hK7974 => ?_)))
  obtain ⟨o7975, h7975, h⟩ := obind h
  refine WP.cutK (fun fr_ μ_ L_ => ∃ (v16 : Bool), v16 = o7975 ∧ SubFr [(6, .bool v16)] fr_ ∧ SegSub (L) L_) ?_ ?_
  · refine Wr Tt_ok rfl (R_move rfl (Pc rfl rfl (R_eqlD rfl rfl (Pc rfl rfl (R_move rfl (P_some rfl ?_))))))
    refine O_gv (z := (decide (r8 = 0))) rfl rfl (fun hc10 => ?_) (fun hc10 => ?_)
    · replace h7975 := cond_t hc10 h7975
      refine O_read rfl (R_move rfl (P_some rfl (O_gY rfl rfl hc10 (O_read rfl (R_eqlD rfl rfl (Pc rfl rfl (R_pick_T rfl hc10 rfl (Pc rfl rfl (R_move rfl (P_some rfl ?_))))))))))
      refine O_gv (z := (decide (r9 = 0))) rfl rfl (fun hc11 => ?_) (fun hc11 => ?_)
      · replace h7975 := cond_f hc11 h7975
        refine O_read rfl (R_move rfl (P_some rfl (O_gY rfl rfl hc11 (O_read rfl (R_move rfl (P_some rfl (O_gY rfl rfl hc11 (O_read rfl (R_eqlD rfl rfl (P_some rfl (O_gY rfl rfl hc11 (O_read rfl (R_move rfl (P_some rfl ?_))))))))))))))
        refine O_gv (z := (decide (r9 = n1))) rfl rfl (fun hc12 => ?_) (fun hc12 => ?_)
        · replace h7975 := cond_t hc12 h7975
          refine O_read rfl (R_move rfl (P_some rfl (O_gY rfl rfl hc12 (O_read rfl (R_eqlD rfl rfl (P_some rfl (O_gY rfl rfl hc12 (O_read rfl (R_move rfl (P_some rfl ?_))))))))))
          refine O_gv (z := (decide (r8 = 22))) rfl rfl (fun hc13 => ?_) (fun hc13 => ?_)
          · replace h7975 := cond_f hc13 h7975
            refine O_read rfl (R_move rfl (P_some rfl (O_gY rfl rfl hc13 (O_read rfl (R_eqlD rfl rfl (P_some rfl (O_gY rfl rfl hc12 (O_read rfl (R_pick_F rfl hc13 rfl (P_some rfl (O_gY rfl rfl hc12 (O_read rfl (R_move rfl (P_some rfl ?_))))))))))))))
            refine O_gv (z := (decide (r8 = 20))) rfl rfl (fun hc14 => ?_) (fun hc14 => ?_)
            · replace h7975 := cond_f hc14 h7975
              refine O_read rfl (R_move rfl (P_some rfl (O_gY rfl rfl hc14 (O_read rfl (R_eqlD rfl rfl (P_some rfl (O_gY rfl rfl hc12 (O_read rfl (R_pick_F rfl hc14 rfl (P_some rfl (O_gY rfl rfl hc11 (O_read rfl (R_pick_T rfl hc12 rfl (Pc rfl rfl (R_pick_F rfl hc11 rfl ?_)))))))))))))))
              refine Pc rfl rfl (R_move rfl (P_some rfl ?_))
              refine O_gv (z := (decide (r8 = 19))) rfl rfl (fun hc15 => ?_) (fun hc15 => ?_)
              · replace h7975 := cond_t hc15 h7975
                apply O_call (all := []); exact rfl; exact rfl; exact rfl
                obtain ⟨r11, hx7, h7975⟩ := obind h7975
                refine recyclinglaw22_awake_fn  hx7 (fun v9 hm_6 => ?_)
                replace hA1 := hA1.mono hm_6
                replace hA2 := hA2.mono hm_6
                replace hA3 := hA3.mono hm_6
                replace hA4 := hA4.mono hm_6
                replace hO1 := hO1.mono hm_6
                replace hA5 := hA5.mono hm_6
                replace hO2 := hO2.mono hm_6
                refine Pc rfl rfl (R_pick_T rfl hc15 rfl (Pc rfl rfl (R_assign rfl (Pn rfl ?_))))
                have e_ := Option.some.inj h7975
                subst e_
                exact ⟨r11, rfl, SubFr.of ⟨rfl, trivial⟩, SegSub.sel _ [] 0⟩
              replace h7975 := cond_f hc15 h7975
              refine Pc rfl rfl (R_pick_F rfl hc15 rfl (Pc rfl rfl (R_assign rfl (Pn rfl ?_))))
              have e_ := Option.some.inj h7975
              subst e_
              exact ⟨false, rfl, SubFr.of ⟨rfl, trivial⟩, SegSub.sel _ [] 0⟩
            replace h7975 := cond_t hc14 h7975
            refine P_some rfl (O_gN rfl rfl hc14 (P_some rfl (O_gY rfl rfl hc12 (O_read rfl (R_pick_T rfl hc14 rfl (P_some rfl (O_gY rfl rfl hc11 (O_read rfl (R_pick_T rfl hc12 rfl (Pc rfl rfl (R_pick_F rfl hc11 rfl (Pc rfl rfl (R_move rfl ?_)))))))))))))
            refine P_some rfl (O_gY rfl rfl rfl (O_call (all := []) rfl rfl rfl ?_))
            obtain ⟨r12, hx8, h7975⟩ := obind h7975
            refine recyclinglaw22_awake_fn  hx8 (fun v10 hm_7 => ?_)
            replace hA1 := hA1.mono hm_7
            replace hA2 := hA2.mono hm_7
            replace hA3 := hA3.mono hm_7
            replace hA4 := hA4.mono hm_7
            replace hO1 := hO1.mono hm_7
            replace hA5 := hA5.mono hm_7
            replace hO2 := hO2.mono hm_7
            refine Pc rfl rfl (R_pick_T rfl rfl rfl (Pc rfl rfl (R_assign rfl (Pn rfl ?_))))
            have e_ := Option.some.inj h7975
            subst e_
            exact ⟨r12, rfl, SubFr.of ⟨rfl, trivial⟩, SegSub.sel _ [] 0⟩
          replace h7975 := cond_t hc13 h7975
          refine P_some rfl (O_gN rfl rfl hc13 (P_some rfl (O_gY rfl rfl hc12 (O_read rfl (R_pick_T rfl hc13 rfl (P_some rfl (O_gY rfl rfl hc12 (O_read rfl (R_move rfl (P_some rfl (O_gN rfl rfl rfl (P_some rfl (O_gN rfl rfl rfl (P_some rfl (O_gY rfl rfl hc12 (O_read rfl (R_pick_T rfl rfl rfl ?_)))))))))))))))))
          refine P_some rfl (O_gY rfl rfl hc11 (O_read rfl (R_pick_T rfl hc12 rfl (Pc rfl rfl (R_pick_F rfl hc11 rfl (Pc rfl rfl (R_move rfl (P_some rfl (O_gY rfl rfl rfl (O_call (all := []) rfl rfl rfl ?_))))))))))
          obtain ⟨r13, hx9, h7975⟩ := obind h7975
          refine recyclinglaw22_awake_fn  hx9 (fun v11 hm_8 => ?_)
          replace hA1 := hA1.mono hm_8
          replace hA2 := hA2.mono hm_8
          replace hA3 := hA3.mono hm_8
          replace hA4 := hA4.mono hm_8
          replace hO1 := hO1.mono hm_8
          replace hA5 := hA5.mono hm_8
          replace hO2 := hO2.mono hm_8
          refine Pc rfl rfl (R_pick_T rfl rfl rfl (Pc rfl rfl (R_assign rfl (Pn rfl ?_))))
          have e_ := Option.some.inj h7975
          subst e_
          exact ⟨r13, rfl, SubFr.of ⟨rfl, trivial⟩, SegSub.sel _ [] 0⟩
        replace h7975 := cond_f hc12 h7975
        refine P_some rfl (O_gN rfl rfl hc12 (P_some rfl (O_gN rfl rfl hc12 (P_some rfl (O_gu rfl rfl (P_some rfl (O_gu rfl rfl (P_some rfl (O_gN rfl rfl hc12 (P_some rfl (O_gN rfl rfl hc12 (P_some rfl (O_gu rfl rfl (P_some rfl (O_gu rfl rfl (P_some rfl (O_gN rfl rfl hc12 ?_)))))))))))))))))
        refine P_some rfl (O_gY rfl rfl hc11 (O_read rfl (R_pick_F rfl hc12 rfl (Pc rfl rfl (R_pick_F rfl hc11 rfl (Pc rfl rfl (R_move rfl (P_some rfl (O_gN rfl rfl rfl (Pc rfl rfl (R_pick_F rfl rfl rfl ?_)))))))))))
        refine Pc rfl rfl (R_assign rfl (Pn rfl ?_))
        have e_ := Option.some.inj h7975
        subst e_
        exact ⟨false, rfl, SubFr.of ⟨rfl, trivial⟩, SegSub.sel _ [] 0⟩
      replace h7975 := cond_t hc11 h7975
      refine P_some rfl (O_gN rfl rfl hc11 (P_some rfl (O_gN rfl rfl hc11 (P_some rfl (O_gN rfl rfl hc11 (P_some rfl (O_gu rfl rfl (P_some rfl (O_gu rfl rfl (P_some rfl (O_gu rfl rfl (P_some rfl (O_gu rfl rfl (P_some rfl (O_gu rfl rfl (P_some rfl (O_gu rfl rfl ?_)))))))))))))))))
      refine P_some rfl (O_gu rfl rfl (P_some rfl (O_gu rfl rfl (P_some rfl (O_gu rfl rfl (P_some rfl (O_gu rfl rfl (P_some rfl (O_gN rfl rfl hc11 (Pc rfl rfl (R_pick_T rfl hc11 rfl (Pc rfl rfl (R_move rfl ?_)))))))))))))
      refine P_some rfl (O_gY rfl rfl rfl (O_call (all := []) rfl rfl rfl ?_))
      obtain ⟨r14, hx10, h7975⟩ := obind h7975
      refine recyclinglaw22_awake_fn  hx10 (fun v12 hm_9 => ?_)
      replace hA1 := hA1.mono hm_9
      replace hA2 := hA2.mono hm_9
      replace hA3 := hA3.mono hm_9
      replace hA4 := hA4.mono hm_9
      replace hO1 := hO1.mono hm_9
      replace hA5 := hA5.mono hm_9
      replace hO2 := hO2.mono hm_9
      refine Pc rfl rfl (R_pick_T rfl rfl rfl (Pc rfl rfl (R_assign rfl (Pn rfl ?_))))
      have e_ := Option.some.inj h7975
      subst e_
      exact ⟨r14, rfl, SubFr.of ⟨rfl, trivial⟩, SegSub.sel _ [] 0⟩
    replace h7975 := cond_f hc10 h7975
    refine P_some rfl (O_gN rfl rfl hc10 (Pc rfl rfl (R_pick_F rfl hc10 rfl (Pc rfl rfl (R_move rfl (P_some rfl (O_gY rfl rfl rfl (O_read rfl (R_move rfl (P_some rfl (O_gY rfl rfl rfl (O_read rfl (R_move rfl ?_)))))))))))))
    refine P_some rfl (O_gY rfl rfl rfl (O_read rfl (R_eqlD rfl rfl (P_some rfl (O_gY rfl rfl rfl (O_read rfl (R_move rfl (P_some rfl ?_))))))))
    refine O_gv (z := (decide (r9 = n1))) rfl rfl (fun hc16 => ?_) (fun hc16 => ?_)
    · replace h7975 := cond_t hc16 h7975
      refine O_read rfl (R_move rfl (P_some rfl (O_gY rfl rfl hc16 (O_read rfl (R_eqlD rfl rfl (P_some rfl (O_gY rfl rfl hc16 (O_read rfl (R_move rfl (P_some rfl ?_))))))))))
      refine O_gv (z := (decide (r8 = 22))) rfl rfl (fun hc17 => ?_) (fun hc17 => ?_)
      · replace h7975 := cond_f hc17 h7975
        refine O_read rfl (R_move rfl (P_some rfl (O_gY rfl rfl hc17 (O_read rfl (R_eqlD rfl rfl (P_some rfl (O_gY rfl rfl hc16 (O_read rfl (R_pick_F rfl hc17 rfl (P_some rfl (O_gY rfl rfl hc16 (O_read rfl (R_move rfl (P_some rfl ?_))))))))))))))
        refine O_gv (z := (decide (r8 = 20))) rfl rfl (fun hc18 => ?_) (fun hc18 => ?_)
        · replace h7975 := cond_f hc18 h7975
          refine O_read rfl (R_move rfl (P_some rfl (O_gY rfl rfl hc18 (O_read rfl (R_eqlD rfl rfl (P_some rfl (O_gY rfl rfl hc16 (O_read rfl (R_pick_F rfl hc18 rfl (P_some rfl (O_gY rfl rfl rfl (O_read rfl (R_pick_T rfl hc16 rfl (Pc rfl rfl (R_pick_F rfl rfl rfl ?_)))))))))))))))
          refine Pc rfl rfl (R_move rfl (P_some rfl ?_))
          refine O_gv (z := (decide (r8 = 19))) rfl rfl (fun hc19 => ?_) (fun hc19 => ?_)
          · replace h7975 := cond_t hc19 h7975
            apply O_call (all := []); exact rfl; exact rfl; exact rfl
            obtain ⟨r15, hx11, h7975⟩ := obind h7975
            refine recyclinglaw22_awake_fn  hx11 (fun v13 hm_10 => ?_)
            replace hA1 := hA1.mono hm_10
            replace hA2 := hA2.mono hm_10
            replace hA3 := hA3.mono hm_10
            replace hA4 := hA4.mono hm_10
            replace hO1 := hO1.mono hm_10
            replace hA5 := hA5.mono hm_10
            replace hO2 := hO2.mono hm_10
            refine Pc rfl rfl (R_pick_T rfl hc19 rfl (Pc rfl rfl (R_assign rfl (Pn rfl ?_))))
            have e_ := Option.some.inj h7975
            subst e_
            exact ⟨r15, rfl, SubFr.of ⟨rfl, trivial⟩, SegSub.sel _ [] 0⟩
          replace h7975 := cond_f hc19 h7975
          refine Pc rfl rfl (R_pick_F rfl hc19 rfl (Pc rfl rfl (R_assign rfl (Pn rfl ?_))))
          have e_ := Option.some.inj h7975
          subst e_
          exact ⟨false, rfl, SubFr.of ⟨rfl, trivial⟩, SegSub.sel _ [] 0⟩
        replace h7975 := cond_t hc18 h7975
        refine P_some rfl (O_gN rfl rfl hc18 (P_some rfl (O_gY rfl rfl hc16 (O_read rfl (R_pick_T rfl hc18 rfl (P_some rfl (O_gY rfl rfl rfl (O_read rfl (R_pick_T rfl hc16 rfl (Pc rfl rfl (R_pick_F rfl rfl rfl (Pc rfl rfl (R_move rfl ?_)))))))))))))
        refine P_some rfl (O_gY rfl rfl rfl (O_call (all := []) rfl rfl rfl ?_))
        obtain ⟨r16, hx12, h7975⟩ := obind h7975
        refine recyclinglaw22_awake_fn  hx12 (fun v14 hm_11 => ?_)
        replace hA1 := hA1.mono hm_11
        replace hA2 := hA2.mono hm_11
        replace hA3 := hA3.mono hm_11
        replace hA4 := hA4.mono hm_11
        replace hO1 := hO1.mono hm_11
        replace hA5 := hA5.mono hm_11
        replace hO2 := hO2.mono hm_11
        refine Pc rfl rfl (R_pick_T rfl rfl rfl (Pc rfl rfl (R_assign rfl (Pn rfl ?_))))
        have e_ := Option.some.inj h7975
        subst e_
        exact ⟨r16, rfl, SubFr.of ⟨rfl, trivial⟩, SegSub.sel _ [] 0⟩
      replace h7975 := cond_t hc17 h7975
      refine P_some rfl (O_gN rfl rfl hc17 (P_some rfl (O_gY rfl rfl hc16 (O_read rfl (R_pick_T rfl hc17 rfl (P_some rfl (O_gY rfl rfl hc16 (O_read rfl (R_move rfl (P_some rfl (O_gN rfl rfl rfl (P_some rfl (O_gN rfl rfl rfl (P_some rfl (O_gY rfl rfl hc16 (O_read rfl (R_pick_T rfl rfl rfl ?_)))))))))))))))))
      refine P_some rfl (O_gY rfl rfl rfl (O_read rfl (R_pick_T rfl hc16 rfl (Pc rfl rfl (R_pick_F rfl rfl rfl (Pc rfl rfl (R_move rfl (P_some rfl (O_gY rfl rfl rfl (O_call (all := []) rfl rfl rfl ?_))))))))))
      obtain ⟨r17, hx13, h7975⟩ := obind h7975
      refine recyclinglaw22_awake_fn  hx13 (fun v15 hm_12 => ?_)
      replace hA1 := hA1.mono hm_12
      replace hA2 := hA2.mono hm_12
      replace hA3 := hA3.mono hm_12
      replace hA4 := hA4.mono hm_12
      replace hO1 := hO1.mono hm_12
      replace hA5 := hA5.mono hm_12
      replace hO2 := hO2.mono hm_12
      refine Pc rfl rfl (R_pick_T rfl rfl rfl (Pc rfl rfl (R_assign rfl (Pn rfl ?_))))
      have e_ := Option.some.inj h7975
      subst e_
      exact ⟨r17, rfl, SubFr.of ⟨rfl, trivial⟩, SegSub.sel _ [] 0⟩
    replace h7975 := cond_f hc16 h7975
    refine P_some rfl (O_gN rfl rfl hc16 (P_some rfl (O_gN rfl rfl hc16 (P_some rfl (O_gu rfl rfl (P_some rfl (O_gu rfl rfl (P_some rfl (O_gN rfl rfl hc16 (P_some rfl (O_gN rfl rfl hc16 (P_some rfl (O_gu rfl rfl (P_some rfl (O_gu rfl rfl (P_some rfl (O_gN rfl rfl hc16 ?_)))))))))))))))))
    refine P_some rfl (O_gY rfl rfl rfl (O_read rfl (R_pick_F rfl hc16 rfl (Pc rfl rfl (R_pick_F rfl rfl rfl (Pc rfl rfl (R_move rfl (P_some rfl (O_gN rfl rfl rfl (Pc rfl rfl (R_pick_F rfl rfl rfl ?_)))))))))))
    refine Pc rfl rfl (R_assign rfl (Pn rfl ?_))
    have e_ := Option.some.inj h7975
    subst e_
    exact ⟨false, rfl, SubFr.of ⟨rfl, trivial⟩, SegSub.sel _ [] 0⟩
  rintro fr7975 μ7975 L7975 hm7975 ⟨v16, ho7975, hF7975, hS7975⟩
  subst ho7975
  replace hA1 := hA1.mono hm7975
  replace hA2 := hA2.mono hm7975
  replace hA3 := hA3.mono hm7975
  replace hA4 := hA4.mono hm7975
  replace hO1 := hO1.mono hm7975
  replace hA5 := hA5.mono hm7975
  replace hO2 := hO2.mono hm7975
  refine hK7974 _ _ _ (WP.at hF7975 hS7975 (WP.ret ?_))
  have e_ := Option.some.inj h
  subst e_
  refine S_tmp rfl (S_nil (Upd.selS [] 0 ?_))
  exact Upd.done (hR _ (Gh.le.trans hm7941 (Gh.le.trans hm_3 (Gh.le.trans hm_4 (Gh.le.trans hm7971 (hm7975))))))

end Go.Proofs.Ytjbminmhndgiaaa
