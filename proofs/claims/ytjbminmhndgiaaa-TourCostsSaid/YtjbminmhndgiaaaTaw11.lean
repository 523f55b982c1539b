/- Printed by gen.py of this repo: the walks that tie the functions to their specifications. -/
import Derived.Test.YtjbminmhndgiaaaTt
import Derived.Test.YtjbminmhndgiaaaTas
import Derived.Test.YtjbminmhndgiaaaTaw1
import Derived.Test.YtjbminmhndgiaaaTaw3
import Derived.Test.YtjbminmhndgiaaaTaw7
namespace Go.Proofs.Ytjbminmhndgiaaa
open Go.RowKit
set_option linter.unusedSimpArgs false
set_option linter.unusedVariables false
attribute [local irreducible] WP SemOk SemU Fn AN Upd vcR vcO vcOps vcPlan putK fillK resK inBlk forkOne Cell StAt Kept

theorem recyclinglaw22_TourCosts_fn {μ : Gh} {L : List Seg} {R : Value → Gh → List Seg → Prop} {F : Nat} {p1 : T_api_Problem} {t1 : T_api_Tour} {A1 : Option Addr} {c1 : Nat} {A2 : Option Addr} {c2 : Nat} {A3 : Option Addr} {c3 : Nat} {A4 : Option Addr} {c4 : Nat} {res1 : Bool}
    (hl1 : p1.Road.Edges.length ≤ c1 ∧ c1 ≤ maxLen) (hA1 : ArrR r_api_Edge μ A1 p1.Road.Edges) (hl2 : p1.Vehicles.length ≤ c2 ∧ c2 ≤ maxLen) (hA2 : ArrR r_api_Vehicle μ A2 p1.Vehicles) (hl3 : p1.Demands.length ≤ c3 ∧ c3 ≤ maxLen) (hA3 : ArrR r_api_Demand μ A3 p1.Demands) (hl4 : t1.Stops.length ≤ c4 ∧ c4 ≤ maxLen) (hA4 : ArrR rInt μ A4 t1.Stops) (h : recyclinglaw22_TourCosts F p1 t1 = some res1)
    (hR : ∀ (μ' : Gh) , μ.le μ' → R (.bool res1) μ' (L)) :
    Fn Try.prog 5 [.agg #[.int .i64 p1.Road.Nodes, .slice A1 p1.Road.Edges.length c1, .slice A2 p1.Vehicles.length c2, .slice A3 p1.Demands.length c3, .int .i64 p1.Unload, .int .i64 p1.UnloadSecs], .agg #[.int .i64 t1.Vehicle, .slice A4 t1.Stops.length c4]] μ (L) R := by
  unfold recyclinglaw22_TourCosts at h
  refine Fn.of_body Tt_ok Try.func5 (by kernel_rfl) rfl Try.ntmps5 (by simp) ?_
  simp only [Try.f5, argFr, List.zipIdx, List.map, Nat.reduceAdd]
  refine WP.seq_k (fun K7177 hK7177 => WP.region Tt_ok (O_cons (O_box (cs := #[.int .i64 p1.Road.Nodes, .slice A1 p1.Road.Edges.length c1, .slice A2 p1.Vehicles.length c2, .slice A3 p1.Demands.length c3, .int .i64 p1.Unload, .int .i64 p1.UnloadSecs]) rfl rfl (fun g1 => P_some rfl (O_cons (O_box (cs := #[.int .i64 t1.Vehicle, .slice A4 t1.Stops.length c4]) rfl rfl (fun g2 => Pc rfl rfl (R_assign rfl (Pn rfl (hK7177 _ _ _ (WP.seq_k (fun K7180 hK7180 => WP.seq_k (fun K7181 hK7181 => ?_)))))))))))))
  obtain ⟨o7182, h7182, h⟩ := obind h
  refine WP.cutK (fun fr_ μ_ L_ => ∃ (v1 : Bool), v1 = o7182 ∧ SubFr [(2, .pointer (some ⟨g1, 0, none⟩)), (3, .pointer (some ⟨g2, 0, none⟩)), (16, .bool v1)] fr_ ∧ SegSub ([(g1, .cells #[.int .i64 p1.Road.Nodes, .slice A1 p1.Road.Edges.length c1, .slice A2 p1.Vehicles.length c2, .slice A3 p1.Demands.length c3, .int .i64 p1.Unload, .int .i64 p1.UnloadSecs] 28 (0, 0))] :: [(g2, .cells #[.int .i64 t1.Vehicle, .slice A4 t1.Stops.length c4] 35 (0, 0))] :: L) L_) ?_ ?_
  · refine Wr Tt_ok rfl (R_loadA rfl rfl rfl rfl (LA_ (vs := [.int .i64 p1.Road.Nodes, .slice A1 p1.Road.Edges.length c1, .slice A2 p1.Vehicles.length c2, .slice A3 p1.Demands.length c3, .int .i64 p1.Unload, .int .i64 p1.UnloadSecs]) 1 0 rfl rfl rfl rfl (P_some rfl (O_cons (O_call (all := [.agg #[.int .i64 p1.Road.Nodes, .slice A1 p1.Road.Edges.length c1, .slice A2 p1.Vehicles.length c2, .slice A3 p1.Demands.length c3, .int .i64 p1.Unload, .int .i64 p1.UnloadSecs]]) rfl rfl rfl ?_)))))
    obtain ⟨r1, hx1, h7182⟩ := obind h7182
    refine recyclingref22_Large_fn hl1 hA1 hl2 hA2 hl3 hA3 hx1 ((Pc rfl rfl (R_move rfl (P_some rfl ?_))))
    refine O_gv (z := r1) rfl rfl (fun hc1 => ?_) (fun hc1 => ?_)
    · replace h7182 := cond_f hc1 h7182
      refine O_read rfl (R_fa0 (o' := 1) rfl rfl rfl rfl rfl rfl (P_some rfl (O_gY rfl rfl hc1 (O_read rfl (R_load rfl rfl rfl (Ex.mk _ (Cell.seg 0 0 rfl rfl rfl) (P_some rfl (O_gY rfl rfl hc1 (O_read rfl (R_lenS rfl rfl rfl (P_some rfl (O_gY rfl rfl hc1 (O_read rfl (R_gtrD rfl rfl (Pc rfl rfl ?_)))))))))))))))
      refine R_pick_F rfl hc1 rfl (Pn rfl ?_)
      have e_ := Option.some.inj h7182
      subst e_
      exact ⟨(decide (100 < ((t1.Stops.length : Nat) : Int))), rfl, SubFr.of ⟨rfl, rfl, rfl, trivial⟩, SegSub.sel _ [some 1, some 0] 2⟩
    replace h7182 := cond_t hc1 h7182
    refine P_some rfl (O_gN rfl rfl hc1 (P_some rfl (O_gN rfl rfl hc1 (P_some rfl (O_gN rfl rfl hc1 (Pc rfl rfl (R_pick_T rfl hc1 rfl (Pn rfl ?_))))))))
    have e_ := Option.some.inj h7182
    subst e_
    exact ⟨true, rfl, SubFr.of ⟨rfl, rfl, rfl, trivial⟩, SegSub.sel _ [some 1, some 0] 2⟩
  rintro fr7182 μ7182 L7182 hm7182 ⟨v1, ho7182, hF7182, hS7182⟩
  subst ho7182
  replace hA1 := hA1.mono hm7182
  replace hA2 := hA2.mono hm7182
  replace hA3 := hA3.mono hm7182
  replace hA4 := hA4.mono hm7182
  refine hK7181 _ _ _ (WP.at hF7182 hS7182 ?_)
  refine W_cond_v (b := v1) rfl (fun hc2 => ?_) (fun hc2 => ?_)
  · replace h := cond_t hc2 h
    refine WP.seq_k (fun K7187 hK7187 => WP.region Tt_ok (O_cons (O_call (all := []) rfl rfl rfl ?_)))
    obtain ⟨r2, hx2, h⟩ := obind h
    refine recyclinglaw22_awake_fn  hx2 (fun v2 hm_1 => ?_)
    replace hA1 := hA1.mono hm_1
    replace hA2 := hA2.mono hm_1
    replace hA3 := hA3.mono hm_1
    replace hA4 := hA4.mono hm_1
    refine Pc rfl rfl (R_assign rfl (Pn rfl (hK7187 _ _ _ (WP.ret ?_))))
    have e_ := Option.some.inj h
    subst e_
    refine S_tmp rfl (S_nil (Upd.selS [] 2 ?_))
    exact Upd.done (hR _ (Gh.le.trans hm7182 (hm_1)))
  replace h := cond_f hc2 h
  refine WP.skip (hK7180 _ _ _ (WP.seq_k (fun K7188 hK7188 => Wr Tt_ok rfl (R_loadA rfl rfl rfl rfl (LA_ (vs := [.int .i64 p1.Road.Nodes, .slice A1 p1.Road.Edges.length c1, .slice A2 p1.Vehicles.length c2, .slice A3 p1.Demands.length c3, .int .i64 p1.Unload, .int .i64 p1.UnloadSecs]) 0 0 rfl rfl rfl rfl (Pc rfl rfl (R_loadA rfl rfl rfl rfl (LA_ (vs := [.int .i64 t1.Vehicle, .slice A4 t1.Stops.length c4]) 1 0 rfl rfl rfl rfl (P_some rfl (O_cons (O_call (all := [.agg #[.int .i64 p1.Road.Nodes, .slice A1 p1.Road.Edges.length c1, .slice A2 p1.Vehicles.length c2, .slice A3 p1.Demands.length c3, .int .i64 p1.Unload, .int .i64 p1.UnloadSecs], .agg #[.int .i64 t1.Vehicle, .slice A4 t1.Stops.length c4]]) rfl rfl rfl ?_)))))))))))
  obtain ⟨⟨r3, r4⟩, hx3, h⟩ := obind h
  replace h := oun_mk h
  refine tour_Cost_fn hl1 hA1 hl2 hA2 hl3 hA3 hl4 hA4 hx3 (fun v3 hm_2 => ?_)
  replace hA1 := hA1.mono hm_2
  replace hA2 := hA2.mono hm_2
  replace hA3 := hA3.mono hm_2
  replace hA4 := hA4.mono hm_2
  refine Pc rfl rfl (R_move rfl (Pc rfl rfl (R_ext rfl rfl (Pc rfl rfl (R_ext rfl rfl (Pc rfl rfl (R_assign rfl (P_some rfl (O_cons ?_)))))))))
  refine O_read rfl (R_assign rfl (Pn rfl (hK7188 _ _ _ (WP.seq_k (fun K7189 hK7189 => Wr Tt_ok rfl (R_loadA rfl rfl rfl rfl (LA_ (vs := [.int .i64 p1.Road.Nodes, .slice A1 p1.Road.Edges.length c1, .slice A2 p1.Vehicles.length c2, .slice A3 p1.Demands.length c3, .int .i64 p1.Unload, .int .i64 p1.UnloadSecs]) 0 0 rfl rfl rfl rfl (Pc rfl rfl (R_loadA rfl rfl rfl rfl (LA_ (vs := [.int .i64 t1.Vehicle, .slice A4 t1.Stops.length c4]) 1 0 rfl rfl rfl rfl (P_some rfl (O_cons ?_))))))))))))
  apply O_call (all := [.agg #[.int .i64 p1.Road.Nodes, .slice A1 p1.Road.Edges.length c1, .slice A2 p1.Vehicles.length c2, .slice A3 p1.Demands.length c3, .int .i64 p1.Unload, .int .i64 p1.UnloadSecs], .agg #[.int .i64 t1.Vehicle, .slice A4 t1.Stops.length c4]]); exact rfl; exact rfl; exact rfl
  obtain ⟨⟨r5, r6⟩, hx4, h⟩ := obind h
  replace h := oun_mk h
  refine recyclingref22_Cost_fn hl1 hA1 hl2 hA2 hl3 hA3 hl4 hA4 hx4 ((Pc rfl rfl (R_move rfl (Pc rfl rfl (R_ext rfl rfl (Pc rfl rfl (R_ext rfl rfl (Pc rfl rfl (R_assign rfl (P_some rfl ?_))))))))))
  refine O_cons (O_read rfl (R_assign rfl (Pn rfl (hK7189 _ _ _ (WP.seq_k (fun K7190 hK7190 => ?_))))))
  obtain ⟨o7191, h7191, h⟩ := obind h
  refine WP.cutK (fun fr_ μ_ L_ => ∃ (v5 : Bool), v5 = o7191 ∧ SubFr [(4, .bool v5)] fr_ ∧ SegSub (L) L_) ?_ ?_
  · refine Wr Tt_ok rfl (R_move rfl (Pc rfl rfl (R_move rfl (Pc rfl rfl (R_eqlD rfl rfl (Pc rfl rfl (R_move rfl (P_some rfl ?_))))))))
    refine O_gv (z := (decide (r3 = r5))) rfl rfl (fun hc3 => ?_) (fun hc3 => ?_)
    · replace h7191 := cond_t hc3 h7191
      refine O_read rfl (R_move rfl (P_some rfl (O_gY rfl rfl hc3 (O_read rfl (R_move rfl (P_some rfl (O_gY rfl rfl hc3 (O_read rfl (R_eqlD rfl rfl (Pc rfl rfl (R_pick_T rfl hc3 rfl (Pc rfl rfl (R_move rfl ?_)))))))))))))
      apply P_some; exact rfl
      refine O_gv (z := (decide (r4 = r6))) rfl rfl (fun hc4 => ?_) (fun hc4 => ?_)
      · replace h7191 := cond_t hc4 h7191
        apply O_call (all := []); exact rfl; exact rfl; exact rfl
        obtain ⟨r7, hx5, h7191⟩ := obind h7191
        refine recyclinglaw22_awake_fn  hx5 (fun v4 hm_3 => ?_)
        replace hA1 := hA1.mono hm_3
        replace hA2 := hA2.mono hm_3
        replace hA3 := hA3.mono hm_3
        replace hA4 := hA4.mono hm_3
        refine Pc rfl rfl (R_pick_T rfl hc4 rfl (Pc rfl rfl (R_assign rfl (Pn rfl ?_))))
        have e_ := Option.some.inj h7191
        subst e_
        exact ⟨r7, rfl, SubFr.of ⟨rfl, trivial⟩, SegSub.sel _ [] 2⟩
      replace h7191 := cond_f hc4 h7191
      refine Pc rfl rfl (R_pick_F rfl hc4 rfl (Pc rfl rfl (R_assign rfl (Pn rfl ?_))))
      have e_ := Option.some.inj h7191
      subst e_
      exact ⟨false, rfl, SubFr.of ⟨rfl, trivial⟩, SegSub.sel _ [] 2⟩
    replace h7191 := cond_f hc3 h7191
    refine P_some rfl (O_gN rfl rfl hc3 (P_some rfl (O_gN rfl rfl hc3 (Pc rfl rfl (R_pick_F rfl hc3 rfl (Pc rfl rfl (R_move rfl (P_some rfl (O_gN rfl rfl rfl (Pc rfl rfl (R_pick_F rfl rfl rfl ?_)))))))))))
    refine Pc rfl rfl (R_assign rfl (Pn rfl ?_))
    have e_ := Option.some.inj h7191
    subst e_
    exact ⟨false, rfl, SubFr.of ⟨rfl, trivial⟩, SegSub.sel _ [] 2⟩
  rintro fr7191 μ7191 L7191 hm7191 ⟨v5, ho7191, hF7191, hS7191⟩
  subst ho7191
  replace hA1 := hA1.mono hm7191
  replace hA2 := hA2.mono hm7191
  replace hA3 := hA3.mono hm7191
  replace hA4 := hA4.mono hm7191
  refine hK7190 _ _ _ (WP.at hF7191 hS7191 (WP.ret ?_))
  have e_ := Option.some.inj h
  subst e_
  refine S_tmp rfl (S_nil (Upd.selS [] 0 ?_))
  exact Upd.done (hR _ (Gh.le.trans hm7182 (Gh.le.trans hm_2 (hm7191))))

end Go.Proofs.Ytjbminmhndgiaaa
