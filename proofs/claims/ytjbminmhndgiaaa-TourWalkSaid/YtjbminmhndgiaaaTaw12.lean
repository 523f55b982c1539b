/- Printed by gen.py of this repo: the walks that tie the functions to their specifications. -/
import Derived.Test.YtjbminmhndgiaaaTt
import Derived.Test.YtjbminmhndgiaaaTas
import Derived.Test.YtjbminmhndgiaaaTaw1
import Derived.Test.YtjbminmhndgiaaaTaw3
import Derived.Test.YtjbminmhndgiaaaTaw4
import Derived.Test.YtjbminmhndgiaaaTaw5
namespace Go.Proofs.Ytjbminmhndgiaaa
open Go.RowKit
set_option linter.unusedSimpArgs false
set_option linter.unusedVariables false
attribute [local irreducible] WP SemOk SemU Fn AN Upd vcR vcO vcOps vcPlan putK fillK resK inBlk forkOne Cell StAt Kept

theorem recyclinglaw22_follows_fn {μ : Gh} {L : List Seg} {R : Value → Gh → List Seg → Prop}  {p1 : T_api_Problem} {v1 : T_api_Vehicle} {x1 : T_api_Visit} {y1 : T_api_Visit} {s1 : Int} {A1 : Option Addr} {c1 : Nat} {A2 : Option Addr} {c2 : Nat} {A3 : Option Addr} {c3 : Nat} {res1 : Bool}
    (hl1 : p1.Road.Edges.length ≤ c1 ∧ c1 ≤ maxLen) (hA1 : ArrR r_api_Edge μ A1 p1.Road.Edges) (hl2 : p1.Vehicles.length ≤ c2 ∧ c2 ≤ maxLen) (hA2 : ArrR r_api_Vehicle μ A2 p1.Vehicles) (hl3 : p1.Demands.length ≤ c3 ∧ c3 ≤ maxLen) (hA3 : ArrR r_api_Demand μ A3 p1.Demands) (h : recyclinglaw22_follows p1 v1 x1 y1 s1 = some res1)
    (hR : R (.bool res1) μ (L)) :
    Fn Try.prog 20 [.agg #[.int .i64 p1.Road.Nodes, .slice A1 p1.Road.Edges.length c1, .slice A2 p1.Vehicles.length c2, .slice A3 p1.Demands.length c3, .int .i64 p1.Unload, .int .i64 p1.UnloadSecs], .agg #[.string v1.ID, .int .i64 v1.Depot, .int .i64 v1.Shift.From, .int .i64 v1.Shift.To, .int .i64 v1.Grams, .int .i64 v1.Kinds], .agg #[.int .i64 x1.Stop, .int .i64 x1.Node, .int .i64 x1.Arrive, .int .i64 x1.Start, .int .i64 x1.Leave, .int .i64 x1.Load], .agg #[.int .i64 y1.Stop, .int .i64 y1.Node, .int .i64 y1.Arrive, .int .i64 y1.Start, .int .i64 y1.Leave, .int .i64 y1.Load], .int .i64 s1] μ (L) R := by
  unfold recyclinglaw22_follows at h
  refine Fn.of_body Tt_ok Try.func20 (by kernel_rfl) rfl Try.ntmps20 (by simp) ?_
  simp only [Try.f20, argFr, List.zipIdx, List.map, Nat.reduceAdd]
  refine WP.seq_k (fun K7253 hK7253 => WP.region Tt_ok (O_cons (O_box (cs := #[.int .i64 p1.Road.Nodes, .slice A1 p1.Road.Edges.length c1, .slice A2 p1.Vehicles.length c2, .slice A3 p1.Demands.length c3, .int .i64 p1.Unload, .int .i64 p1.UnloadSecs]) rfl rfl (fun g1 => P_some rfl (O_cons (O_box (cs := #[.string v1.ID, .int .i64 v1.Depot, .int .i64 v1.Shift.From, .int .i64 v1.Shift.To, .int .i64 v1.Grams, .int .i64 v1.Kinds]) rfl rfl (fun g2 => P_some rfl (O_cons (O_box (cs := #[.int .i64 x1.Stop, .int .i64 x1.Node, .int .i64 x1.Arrive, .int .i64 x1.Start, .int .i64 x1.Leave, .int .i64 x1.Load]) rfl rfl (fun g3 => P_some rfl (O_cons (O_box (cs := #[.int .i64 y1.Stop, .int .i64 y1.Node, .int .i64 y1.Arrive, .int .i64 y1.Start, .int .i64 y1.Leave, .int .i64 y1.Load]) rfl rfl (fun g4 => Pc rfl rfl ?_)))))))))))))
  refine R_assign rfl (Pn rfl (hK7253 _ _ _ (WP.seq_k (fun K7258 hK7258 => Wr Tt_ok rfl (R_loadA rfl rfl rfl rfl (LA_ (vs := [.int .i64 p1.Road.Nodes, .slice A1 p1.Road.Edges.length c1, .slice A2 p1.Vehicles.length c2, .slice A3 p1.Demands.length c3, .int .i64 p1.Unload, .int .i64 p1.UnloadSecs]) 3 0 rfl rfl rfl rfl (Pc rfl rfl (R_fa0 (o' := 1) rfl rfl rfl rfl rfl rfl (Pc rfl rfl (R_load rfl rfl rfl ?_))))))))))
  refine Ex.mk _ (Cell.seg 1 0 rfl rfl rfl) (Pc rfl rfl (R_fa0 (o' := 1) rfl rfl rfl rfl rfl rfl (Pc rfl rfl (R_load rfl rfl rfl (Ex.mk _ (Cell.seg 0 0 rfl rfl rfl) (P_some rfl (O_cons (O_call (all := [.agg #[.int .i64 p1.Road.Nodes, .slice A1 p1.Road.Edges.length c1, .slice A2 p1.Vehicles.length c2, .slice A3 p1.Demands.length c3, .int .i64 p1.Unload, .int .i64 p1.UnloadSecs], .int .i64 x1.Node, .int .i64 y1.Node]) rfl rfl rfl ?_))))))))
  obtain ⟨r1, hx1, h⟩ := obind h
  refine recyclingref22_Leg_fn hl1 hA1 hl2 hA2 hl3 hA3 hx1 ((P_some rfl (O_cons (O_alloc (cs := #[.int .i64 0, .int .i64 0]) rfl rfl (fun g5 => P_some rfl (O_cons (O_store (vs := [.int .i64 r1.Secs, .int .i64 r1.Meters]) rfl rfl rfl rfl rfl rfl (ST_ (L' := ([(g5, .cells #[.int .i64 r1.Secs, .int .i64 r1.Meters] 51 (0, 0))] :: [(g4, .cells #[.int .i64 y1.Stop, .int .i64 y1.Node, .int .i64 y1.Arrive, .int .i64 y1.Start, .int .i64 y1.Leave, .int .i64 y1.Load] 48 (0, 0))] :: [(g3, .cells #[.int .i64 x1.Stop, .int .i64 x1.Node, .int .i64 x1.Arrive, .int .i64 x1.Start, .int .i64 x1.Leave, .int .i64 x1.Load] 48 (0, 0))] :: [(g2, .cells #[.string v1.ID, .int .i64 v1.Depot, .int .i64 v1.Shift.From, .int .i64 v1.Shift.To, .int .i64 v1.Grams, .int .i64 v1.Kinds] 46 (0, 0))] :: [(g1, .cells #[.int .i64 p1.Road.Nodes, .slice A1 p1.Road.Edges.length c1, .slice A2 p1.Vehicles.length c2, .slice A3 p1.Demands.length c3, .int .i64 p1.Unload, .int .i64 p1.UnloadSecs] 28 (0, 0))] :: L)) 0 0 rfl rfl rfl rfl ?_))))))))
  refine P_none (O_nil (hK7258 _ _ _ (WP.seq_k (fun K7261 hK7261 => WP.seq_k (fun K7262 hK7262 => ?_)))))
  obtain ⟨o7263, h7263, h⟩ := obind h
  refine WP.cutK (fun fr_ μ_ L_ => ∃ (v2 : Bool), v2 = o7263 ∧ SubFr [(4, .int .i64 s1), (5, .pointer (some ⟨g1, 0, none⟩)), (6, .pointer (some ⟨g2, 0, none⟩)), (7, .pointer (some ⟨g3, 0, none⟩)), (8, .pointer (some ⟨g4, 0, none⟩)), (37, .bool v2)] fr_ ∧ SegSub ([(g1, .cells #[.int .i64 p1.Road.Nodes, .slice A1 p1.Road.Edges.length c1, .slice A2 p1.Vehicles.length c2, .slice A3 p1.Demands.length c3, .int .i64 p1.Unload, .int .i64 p1.UnloadSecs] 28 (0, 0))] :: [(g2, .cells #[.string v1.ID, .int .i64 v1.Depot, .int .i64 v1.Shift.From, .int .i64 v1.Shift.To, .int .i64 v1.Grams, .int .i64 v1.Kinds] 46 (0, 0))] :: [(g3, .cells #[.int .i64 x1.Stop, .int .i64 x1.Node, .int .i64 x1.Arrive, .int .i64 x1.Start, .int .i64 x1.Leave, .int .i64 x1.Load] 48 (0, 0))] :: [(g4, .cells #[.int .i64 y1.Stop, .int .i64 y1.Node, .int .i64 y1.Arrive, .int .i64 y1.Start, .int .i64 y1.Leave, .int .i64 y1.Load] 48 (0, 0))] :: L) L_ ∧ μ = μ_) ?_ ?_
  · refine Wr Tt_ok rfl (R_fa0 (o' := 0) rfl rfl rfl rfl rfl rfl (Pc rfl rfl (R_load rfl rfl rfl (Ex.mk _ (Cell.seg 0 0 rfl rfl rfl) (Pc rfl rfl (R_lssD rfl rfl (Pc rfl rfl (R_move rfl (P_some rfl ?_)))))))))
    refine O_gv (z := (decide (r1.Secs < 0))) rfl rfl (fun hc1 => ?_) (fun hc1 => ?_)
    · replace h7263 := cond_f hc1 h7263
      refine O_read rfl (R_fa0 (o' := 0) rfl rfl rfl rfl rfl rfl (P_some rfl (O_gY rfl rfl hc1 (O_read rfl (R_load rfl rfl rfl (Ex.mk _ (Cell.seg 1 0 rfl rfl rfl) (P_some rfl (O_gY rfl rfl hc1 (O_read rfl (R_move rfl (P_some rfl (O_gY rfl rfl hc1 (O_read rfl (R_neqD rfl rfl (Pc rfl rfl ?_)))))))))))))))
      refine R_pick_F rfl hc1 rfl (Pc rfl rfl (R_move rfl (P_some rfl ?_)))
      refine O_gv (z := !(decide (y1.Stop = s1))) rfl rfl (fun hc2 => ?_) (fun hc2 => ?_)
      · replace h7263 := cond_f hc2 h7263
        refine O_read rfl (R_fa0 (o' := 2) rfl rfl rfl rfl rfl rfl (P_some rfl (O_gY rfl rfl hc2 (O_read rfl (R_load rfl rfl rfl (Ex.mk _ (Cell.seg 1 0 rfl rfl rfl) (P_some rfl (O_gY rfl rfl hc2 (O_read rfl (R_fa0 (o' := 4) rfl rfl rfl rfl rfl rfl (P_some rfl (O_gY rfl rfl hc2 (O_read rfl (R_load rfl rfl rfl (Ex.mk _ (Cell.seg 2 0 rfl rfl rfl) (P_some rfl (O_gY rfl rfl hc2 ?_)))))))))))))))))
        refine O_read rfl (R_fa0 (o' := 0) rfl rfl rfl rfl rfl rfl (P_some rfl (O_gY rfl rfl hc2 (O_read rfl (R_load rfl rfl rfl (Ex.mk _ (Cell.seg 0 0 rfl rfl rfl) (P_some rfl (O_gY rfl rfl hc2 (O_read rfl (R_add rfl rfl (P_some rfl (O_gY rfl rfl hc2 (O_read rfl (R_neqD rfl rfl (Pc rfl rfl ?_)))))))))))))))
        refine R_pick_F rfl hc2 rfl (Pn rfl ?_)
        have e_ := Option.some.inj h7263
        subst e_
        exact ⟨!(decide (y1.Arrive = (w64 (x1.Leave + r1.Secs)))), rfl, SubFr.of ⟨rfl, rfl, rfl, rfl, rfl, rfl, trivial⟩, SegSub.sel _ [some 4, some 3, some 2, some 1] 5, rfl⟩
      replace h7263 := cond_t hc2 h7263
      refine P_some rfl (O_gN rfl rfl hc2 (P_some rfl (O_gN rfl rfl hc2 (P_some rfl (O_gN rfl rfl hc2 (P_some rfl (O_gN rfl rfl hc2 (P_some rfl (O_gN rfl rfl hc2 (P_some rfl (O_gN rfl rfl hc2 (P_some rfl (O_gN rfl rfl hc2 (Pc rfl rfl (R_pick_T rfl hc2 rfl ?_)))))))))))))))
      refine Pn rfl ?_
      have e_ := Option.some.inj h7263
      subst e_
      exact ⟨true, rfl, SubFr.of ⟨rfl, rfl, rfl, rfl, rfl, rfl, trivial⟩, SegSub.sel _ [some 4, some 3, some 2, some 1] 5, rfl⟩
    replace h7263 := cond_t hc1 h7263
    refine P_some rfl (O_gN rfl rfl hc1 (P_some rfl (O_gN rfl rfl hc1 (P_some rfl (O_gN rfl rfl hc1 (Pc rfl rfl (R_pick_T rfl hc1 rfl (Pc rfl rfl (R_move rfl (P_some rfl (O_gN rfl rfl rfl (P_some rfl (O_gN rfl rfl rfl ?_)))))))))))))
    refine P_some rfl (O_gN rfl rfl rfl (P_some rfl (O_gN rfl rfl rfl (P_some rfl (O_gN rfl rfl rfl (P_some rfl (O_gN rfl rfl rfl (P_some rfl (O_gN rfl rfl rfl (P_some rfl (O_gN rfl rfl rfl (Pc rfl rfl (R_pick_T rfl rfl rfl (Pn rfl ?_))))))))))))))
    have e_ := Option.some.inj h7263
    subst e_
    exact ⟨true, rfl, SubFr.of ⟨rfl, rfl, rfl, rfl, rfl, rfl, trivial⟩, SegSub.sel _ [some 4, some 3, some 2, some 1] 5, rfl⟩
  rintro fr7263 μ7263 L7263 hm7263 ⟨v2, ho7263, hF7263, hS7263, hu7263⟩
  subst ho7263
  subst hu7263
  refine hK7262 _ _ _ (WP.at hF7263 hS7263 ?_)
  refine W_cond_v (b := v2) rfl (fun hc3 => ?_) (fun hc3 => ?_)
  · replace h := cond_t hc3 h
    refine WP.seq_k (fun K7272 hK7272 => Wr Tt_ok rfl (R_assign rfl (Pn rfl (hK7272 _ _ _ (WP.ret ?_)))))
    have e_ := Option.some.inj h
    subst e_
    refine S_tmp rfl (S_nil (Upd.selS [] 4 ?_))
    exact Upd.done hR
  replace h := cond_f hc3 h
  refine WP.skip (hK7261 _ _ _ (WP.seq_k (fun K7273 hK7273 => WP.seq_k (fun K7274 hK7274 => Wr Tt_ok rfl (R_move rfl (Pc rfl rfl (R_lssD rfl rfl (Pn rfl (hK7274 _ _ _ ?_)))))))))
  refine W_cond_v (b := (decide (s1 < 0))) rfl (fun hc4 => ?_) (fun hc4 => ?_)
  · replace h := cond_t hc4 h
    refine WP.seq_k ?_; intro K7275 hK7275
    obtain ⟨o7276, h7276, h⟩ := obind h
    refine WP.cutK (fun fr_ μ_ L_ => ∃ (v3 : Bool), v3 = o7276 ∧ SubFr [(10, .bool v3)] fr_ ∧ SegSub (L) L_ ∧ μ = μ_) ?_ ?_
    · refine Wr Tt_ok rfl (R_fa0 (o' := 1) rfl rfl rfl rfl rfl rfl (Pc rfl rfl (R_load rfl rfl rfl (Ex.mk _ (Cell.seg 3 0 rfl rfl rfl) (Pc rfl rfl (R_fa0 (o' := 4) rfl rfl rfl rfl rfl rfl (Pc rfl rfl (R_load rfl rfl rfl (Ex.mk _ (Cell.seg 0 0 rfl rfl rfl) ?_)))))))))
      refine Pc rfl rfl (R_eqlD rfl rfl (Pc rfl rfl (R_move rfl (P_some rfl ?_))))
      refine O_gv (z := (decide (y1.Node = p1.Unload))) rfl rfl (fun hc5 => ?_) (fun hc5 => ?_)
      · replace h7276 := cond_t hc5 h7276
        refine O_read rfl (R_fa0 (o' := 3) rfl rfl rfl rfl rfl rfl (P_some rfl (O_gY rfl rfl hc5 (O_read rfl (R_load rfl rfl rfl (Ex.mk _ (Cell.seg 3 0 rfl rfl rfl) (P_some rfl (O_gY rfl rfl hc5 (O_read rfl (R_fa0 (o' := 2) rfl rfl rfl rfl rfl rfl (P_some rfl (O_gY rfl rfl hc5 (O_read rfl (R_load rfl rfl rfl (Ex.mk _ (Cell.seg 3 0 rfl rfl rfl) (P_some rfl (O_gY rfl rfl hc5 ?_)))))))))))))))))
        refine O_read rfl (R_eqlD rfl rfl (Pc rfl rfl (R_pick_T rfl hc5 rfl (Pc rfl rfl (R_move rfl (P_some rfl ?_))))))
        refine O_gv (z := (decide (y1.Start = y1.Arrive))) rfl rfl (fun hc6 => ?_) (fun hc6 => ?_)
        · replace h7276 := cond_t hc6 h7276
          refine O_read rfl (R_fa0 (o' := 4) rfl rfl rfl rfl rfl rfl (P_some rfl (O_gY rfl rfl hc6 (O_read rfl (R_load rfl rfl rfl (Ex.mk _ (Cell.seg 3 0 rfl rfl rfl) (P_some rfl (O_gY rfl rfl hc6 (O_read rfl (R_fa0 (o' := 3) rfl rfl rfl rfl rfl rfl (P_some rfl (O_gY rfl rfl hc6 (O_read rfl (R_load rfl rfl rfl (Ex.mk _ (Cell.seg 3 0 rfl rfl rfl) (P_some rfl (O_gY rfl rfl hc6 ?_)))))))))))))))))
          refine O_read rfl (R_fa0 (o' := 5) rfl rfl rfl rfl rfl rfl (P_some rfl (O_gY rfl rfl hc6 (O_read rfl (R_load rfl rfl rfl (Ex.mk _ (Cell.seg 0 0 rfl rfl rfl) (P_some rfl (O_gY rfl rfl hc6 (O_read rfl (R_add rfl rfl (P_some rfl (O_gY rfl rfl hc6 (O_read rfl (R_eqlD rfl rfl (Pc rfl rfl ?_)))))))))))))))
          refine R_pick_T rfl hc6 rfl (Pc rfl rfl (R_move rfl (P_some rfl ?_)))
          refine O_gv (z := (decide (y1.Leave = (w64 (y1.Start + p1.UnloadSecs))))) rfl rfl (fun hc7 => ?_) (fun hc7 => ?_)
          · replace h7276 := cond_t hc7 h7276
            refine O_read rfl (R_fa0 (o' := 5) rfl rfl rfl rfl rfl rfl (P_some rfl (O_gY rfl rfl hc7 (O_read rfl (R_load rfl rfl rfl (Ex.mk _ (Cell.seg 3 0 rfl rfl rfl) (P_some rfl (O_gY rfl rfl hc7 (O_read rfl (R_eqlD rfl rfl (Pc rfl rfl (R_pick_T rfl hc7 rfl (Pc rfl rfl ?_)))))))))))))
            refine R_assign rfl (Pn rfl ?_)
            have e_ := Option.some.inj h7276
            subst e_
            exact ⟨(decide (y1.Load = 0)), rfl, SubFr.of ⟨rfl, trivial⟩, SegSub.sel _ [] 4, rfl⟩
          replace h7276 := cond_f hc7 h7276
          refine P_some rfl (O_gN rfl rfl hc7 (P_some rfl (O_gN rfl rfl hc7 (Pc rfl rfl (R_pick_F rfl hc7 rfl (Pc rfl rfl (R_assign rfl (Pn rfl ?_))))))))
          have e_ := Option.some.inj h7276
          subst e_
          exact ⟨false, rfl, SubFr.of ⟨rfl, trivial⟩, SegSub.sel _ [] 4, rfl⟩
        replace h7276 := cond_f hc6 h7276
        refine P_some rfl (O_gN rfl rfl hc6 (P_some rfl (O_gN rfl rfl hc6 (P_some rfl (O_gN rfl rfl hc6 (P_some rfl (O_gN rfl rfl hc6 (P_some rfl (O_gN rfl rfl hc6 (P_some rfl (O_gN rfl rfl hc6 (P_some rfl (O_gN rfl rfl hc6 (Pc rfl rfl (R_pick_F rfl hc6 rfl ?_)))))))))))))))
        refine Pc rfl rfl (R_move rfl (P_some rfl (O_gN rfl rfl rfl (P_some rfl (O_gN rfl rfl rfl (P_some rfl (O_gN rfl rfl rfl (Pc rfl rfl (R_pick_F rfl rfl rfl (Pc rfl rfl (R_assign rfl ?_)))))))))))
        refine Pn rfl ?_
        have e_ := Option.some.inj h7276
        subst e_
        exact ⟨false, rfl, SubFr.of ⟨rfl, trivial⟩, SegSub.sel _ [] 4, rfl⟩
      replace h7276 := cond_f hc5 h7276
      refine P_some rfl (O_gN rfl rfl hc5 (P_some rfl (O_gN rfl rfl hc5 (P_some rfl (O_gN rfl rfl hc5 (P_some rfl (O_gN rfl rfl hc5 (Pc rfl rfl (R_pick_F rfl hc5 rfl (Pc rfl rfl (R_move rfl (P_some rfl (O_gN rfl rfl rfl ?_)))))))))))))
      refine P_some rfl (O_gN rfl rfl rfl (P_some rfl (O_gN rfl rfl rfl (P_some rfl (O_gN rfl rfl rfl (P_some rfl (O_gN rfl rfl rfl (P_some rfl (O_gN rfl rfl rfl (P_some rfl (O_gN rfl rfl rfl (P_some rfl (O_gN rfl rfl rfl (Pc rfl rfl (R_pick_F rfl rfl rfl ?_)))))))))))))))
      refine Pc rfl rfl (R_move rfl (P_some rfl (O_gN rfl rfl rfl (P_some rfl (O_gN rfl rfl rfl (P_some rfl (O_gN rfl rfl rfl (Pc rfl rfl (R_pick_F rfl rfl rfl (Pc rfl rfl (R_assign rfl ?_)))))))))))
      refine Pn rfl ?_
      have e_ := Option.some.inj h7276
      subst e_
      exact ⟨false, rfl, SubFr.of ⟨rfl, trivial⟩, SegSub.sel _ [] 4, rfl⟩
    rintro fr7276 μ7276 L7276 hm7276 ⟨v3, ho7276, hF7276, hS7276, hu7276⟩
    subst ho7276
    subst hu7276
    refine hK7275 _ _ _ (WP.at hF7276 hS7276 (WP.ret ?_))
    have e_ := Option.some.inj h
    subst e_
    refine S_tmp rfl (S_nil (Upd.selS [] 0 ?_))
    exact Upd.done hR
  replace h := cond_f hc4 h
  refine WP.skip (hK7273 _ _ _ (WP.seq_k (fun K7277 hK7277 => Wr Tt_ok rfl (R_fa0 (o' := 3) rfl rfl rfl rfl rfl rfl (Pc rfl rfl (R_load rfl rfl rfl (Ex.mk _ (Cell.seg 0 0 rfl rfl rfl) (Pc rfl rfl (R_move rfl (P_some rfl (O_cons ?_)))))))))))
  obtain ⟨x2, hx2, h⟩ := obind h
  obtain ⟨a1, cs1, hA4, hr1, _, hc8⟩ := Rds.getI (ArrR.rds hA3 L) hx2
  obtain rfl := hr1
  refine O_read rfl (R_iaG rfl rfl rfl rfl rfl rfl ⟨(getI_lt hx2).1, (getI_lt hx2).2.1⟩ hA4 (Pc rfl rfl (R_loadA rfl rfl rfl rfl (Ex.mk [.int .i64 x2.Container, .int .i64 x2.Node, .int .i64 x2.Kind, .int .i64 x2.Grams, .int .i64 x2.When.From, .int .i64 x2.When.To, .int .i64 x2.Service] ⟨rfl, (hc8.push.push.push.push)⟩ (P_some rfl (O_cons (O_alloc (cs := #[.int .i64 0, .int .i64 0, .int .i64 0, .int .i64 0, .int .i64 0, .int .i64 0, .int .i64 0]) rfl rfl (fun g6 => P_some rfl (O_cons (O_store (vs := [.int .i64 x2.Container, .int .i64 x2.Node, .int .i64 x2.Kind, .int .i64 x2.Grams, .int .i64 x2.When.From, .int .i64 x2.When.To, .int .i64 x2.Service]) rfl rfl rfl rfl rfl rfl (ST_ (L' := ([(g6, .cells #[.int .i64 x2.Container, .int .i64 x2.Node, .int .i64 x2.Kind, .int .i64 x2.Grams, .int .i64 x2.When.From, .int .i64 x2.When.To, .int .i64 x2.Service] 79 (0, 0))] :: [(g1, .cells #[.int .i64 p1.Road.Nodes, .slice A1 p1.Road.Edges.length c1, .slice A2 p1.Vehicles.length c2, .slice A3 p1.Demands.length c3, .int .i64 p1.Unload, .int .i64 p1.UnloadSecs] 28 (0, 0))] :: [(g2, .cells #[.string v1.ID, .int .i64 v1.Depot, .int .i64 v1.Shift.From, .int .i64 v1.Shift.To, .int .i64 v1.Grams, .int .i64 v1.Kinds] 46 (0, 0))] :: [(g3, .cells #[.int .i64 x1.Stop, .int .i64 x1.Node, .int .i64 x1.Arrive, .int .i64 x1.Start, .int .i64 x1.Leave, .int .i64 x1.Load] 48 (0, 0))] :: [(g4, .cells #[.int .i64 y1.Stop, .int .i64 y1.Node, .int .i64 y1.Arrive, .int .i64 y1.Start, .int .i64 y1.Leave, .int .i64 y1.Load] 48 (0, 0))] :: L)) 0 0 rfl rfl rfl rfl ?_)))))))))))
  refine P_none (O_nil (hK7277 _ _ _ (WP.seq_k (fun K7280 hK7280 => ?_))))
  obtain ⟨o7281, h7281, h⟩ := obind h
  refine WP.cutK (fun fr_ μ_ L_ => ∃ (v4 : Bool), v4 = o7281 ∧ SubFr [(10, .bool v4)] fr_ ∧ SegSub (L) L_ ∧ μ = μ_) ?_ ?_
  · refine Wr Tt_ok rfl (R_fa0 (o' := 1) rfl rfl rfl rfl rfl rfl (Pc rfl rfl (R_load rfl rfl rfl (Ex.mk _ (Cell.seg 4 0 rfl rfl rfl) (Pc rfl rfl (R_fa0 (o' := 1) rfl rfl rfl rfl rfl rfl (Pc rfl rfl (R_load rfl rfl rfl (Ex.mk _ (Cell.seg 0 0 rfl rfl rfl) ?_)))))))))
    refine Pc rfl rfl (R_eqlD rfl rfl (Pc rfl rfl (R_move rfl (P_some rfl ?_))))
    refine O_gv (z := (decide (y1.Node = x2.Node))) rfl rfl (fun hc9 => ?_) (fun hc9 => ?_)
    · replace h7281 := cond_t hc9 h7281
      refine O_read rfl (R_fa0 (o' := 3) rfl rfl rfl rfl rfl rfl (P_some rfl (O_gY rfl rfl hc9 (O_read rfl (R_load rfl rfl rfl (Ex.mk _ (Cell.seg 4 0 rfl rfl rfl) (P_some rfl (O_gY rfl rfl hc9 (O_read rfl (R_fa0 (o' := 2) rfl rfl rfl rfl rfl rfl (P_some rfl (O_gY rfl rfl hc9 (O_read rfl (R_load rfl rfl rfl (Ex.mk _ (Cell.seg 4 0 rfl rfl rfl) (P_some rfl (O_gY rfl rfl hc9 ?_)))))))))))))))))
      refine O_read rfl (R_fa0 (o' := 4) rfl rfl rfl rfl rfl rfl (P_some rfl (O_gY rfl rfl hc9 (O_read rfl (R_fa0 (o' := 4) rfl rfl rfl rfl rfl rfl (P_some rfl (O_gY rfl rfl hc9 (O_read rfl (R_load rfl rfl rfl (Ex.mk _ (Cell.seg 0 0 rfl rfl rfl) (P_some rfl (O_gY rfl rfl hc9 (O_read rfl (R_maxI rfl (P_some rfl (O_gY rfl rfl hc9 (O_read rfl ?_)))))))))))))))))
      refine R_eqlD rfl rfl (Pc rfl rfl (R_pick_T rfl hc9 rfl (Pc rfl rfl (R_move rfl (P_some rfl ?_)))))
      refine O_gv (z := (decide (y1.Start = (max y1.Arrive x2.When.From)))) rfl rfl (fun hc10 => ?_) (fun hc10 => ?_)
      · replace h7281 := cond_t hc10 h7281
        refine O_read rfl (R_fa0 (o' := 3) rfl rfl rfl rfl rfl rfl (P_some rfl (O_gY rfl rfl hc10 (O_read rfl (R_load rfl rfl rfl (Ex.mk _ (Cell.seg 4 0 rfl rfl rfl) (P_some rfl (O_gY rfl rfl hc10 (O_read rfl (R_fa0 (o' := 4) rfl rfl rfl rfl rfl rfl (P_some rfl (O_gY rfl rfl hc10 (O_read rfl (R_fa0 (o' := 5) rfl rfl rfl rfl rfl rfl (P_some rfl (O_gY rfl rfl hc10 (O_read rfl ?_)))))))))))))))))
        refine R_load rfl rfl rfl (Ex.mk _ (Cell.seg 0 0 rfl rfl rfl) (P_some rfl (O_gY rfl rfl hc10 (O_read rfl (R_lssD rfl rfl (Pc rfl rfl (R_pick_T rfl hc10 rfl (Pc rfl rfl (R_move rfl (P_some rfl ?_))))))))))
        refine O_gv (z := (decide (y1.Start < x2.When.To))) rfl rfl (fun hc11 => ?_) (fun hc11 => ?_)
        · replace h7281 := cond_t hc11 h7281
          refine O_read rfl (R_fa0 (o' := 4) rfl rfl rfl rfl rfl rfl (P_some rfl (O_gY rfl rfl hc11 (O_read rfl (R_load rfl rfl rfl (Ex.mk _ (Cell.seg 4 0 rfl rfl rfl) (P_some rfl (O_gY rfl rfl hc11 (O_read rfl (R_fa0 (o' := 3) rfl rfl rfl rfl rfl rfl (P_some rfl (O_gY rfl rfl hc11 (O_read rfl (R_load rfl rfl rfl (Ex.mk _ (Cell.seg 4 0 rfl rfl rfl) (P_some rfl (O_gY rfl rfl hc11 ?_)))))))))))))))))
          refine O_read rfl (R_fa0 (o' := 6) rfl rfl rfl rfl rfl rfl (P_some rfl (O_gY rfl rfl hc11 (O_read rfl (R_load rfl rfl rfl (Ex.mk _ (Cell.seg 0 0 rfl rfl rfl) (P_some rfl (O_gY rfl rfl hc11 (O_read rfl (R_add rfl rfl (P_some rfl (O_gY rfl rfl hc11 (O_read rfl (R_eqlD rfl rfl (Pc rfl rfl ?_)))))))))))))))
          refine R_pick_T rfl hc11 rfl (Pc rfl rfl (R_move rfl (P_some rfl ?_)))
          refine O_gv (z := (decide (y1.Leave = (w64 (y1.Start + x2.Service))))) rfl rfl (fun hc12 => ?_) (fun hc12 => ?_)
          · replace h7281 := cond_t hc12 h7281
            refine O_read rfl (R_fa0 (o' := 5) rfl rfl rfl rfl rfl rfl (P_some rfl (O_gY rfl rfl hc12 (O_read rfl (R_load rfl rfl rfl (Ex.mk _ (Cell.seg 4 0 rfl rfl rfl) (P_some rfl (O_gY rfl rfl hc12 (O_read rfl (R_fa0 (o' := 5) rfl rfl rfl rfl rfl rfl (P_some rfl (O_gY rfl rfl hc12 (O_read rfl (R_load rfl rfl rfl (Ex.mk _ (Cell.seg 3 0 rfl rfl rfl) (P_some rfl (O_gY rfl rfl hc12 ?_)))))))))))))))))
            refine O_read rfl (R_fa0 (o' := 3) rfl rfl rfl rfl rfl rfl (P_some rfl (O_gY rfl rfl hc12 (O_read rfl (R_load rfl rfl rfl (Ex.mk _ (Cell.seg 0 0 rfl rfl rfl) (P_some rfl (O_gY rfl rfl hc12 (O_read rfl (R_add rfl rfl (P_some rfl (O_gY rfl rfl hc12 (O_read rfl (R_eqlD rfl rfl (Pc rfl rfl ?_)))))))))))))))
            refine R_pick_T rfl hc12 rfl (Pc rfl rfl (R_move rfl (P_some rfl ?_)))
            refine O_gv (z := (decide (y1.Load = (w64 (x1.Load + x2.Grams))))) rfl rfl (fun hc13 => ?_) (fun hc13 => ?_)
            · replace h7281 := cond_t hc13 h7281
              refine O_read rfl (R_fa0 (o' := 5) rfl rfl rfl rfl rfl rfl (P_some rfl (O_gY rfl rfl hc13 (O_read rfl (R_load rfl rfl rfl (Ex.mk _ (Cell.seg 4 0 rfl rfl rfl) (P_some rfl (O_gY rfl rfl hc13 (O_read rfl (R_fa0 (o' := 4) rfl rfl rfl rfl rfl rfl (P_some rfl (O_gY rfl rfl hc13 (O_read rfl (R_load rfl rfl rfl (Ex.mk _ (Cell.seg 2 0 rfl rfl rfl) (P_some rfl (O_gY rfl rfl hc13 ?_)))))))))))))))))
              refine O_read rfl (R_leqD rfl rfl (Pc rfl rfl (R_pick_T rfl hc13 rfl (Pc rfl rfl (R_assign rfl (Pn rfl ?_))))))
              have e_ := Option.some.inj h7281
              subst e_
              exact ⟨(decide (y1.Load ≤ v1.Grams)), rfl, SubFr.of ⟨rfl, trivial⟩, SegSub.sel _ [] 5, rfl⟩
            replace h7281 := cond_f hc13 h7281
            refine P_some rfl (O_gN rfl rfl hc13 (P_some rfl (O_gN rfl rfl hc13 (P_some rfl (O_gN rfl rfl hc13 (P_some rfl (O_gN rfl rfl hc13 (Pc rfl rfl (R_pick_F rfl hc13 rfl (Pc rfl rfl (R_assign rfl (Pn rfl ?_))))))))))))
            have e_ := Option.some.inj h7281
            subst e_
            exact ⟨false, rfl, SubFr.of ⟨rfl, trivial⟩, SegSub.sel _ [] 5, rfl⟩
          replace h7281 := cond_f hc12 h7281
          refine P_some rfl (O_gN rfl rfl hc12 (P_some rfl (O_gN rfl rfl hc12 (P_some rfl (O_gN rfl rfl hc12 (P_some rfl (O_gN rfl rfl hc12 (P_some rfl (O_gN rfl rfl hc12 (P_some rfl (O_gN rfl rfl hc12 (P_some rfl (O_gN rfl rfl hc12 (Pc rfl rfl (R_pick_F rfl hc12 rfl ?_)))))))))))))))
          refine Pc rfl rfl (R_move rfl (P_some rfl (O_gN rfl rfl rfl (P_some rfl (O_gN rfl rfl rfl (P_some rfl (O_gN rfl rfl rfl (P_some rfl (O_gN rfl rfl rfl (P_some rfl (O_gN rfl rfl rfl (Pc rfl rfl (R_pick_F rfl rfl rfl ?_)))))))))))))
          refine Pc rfl rfl (R_assign rfl (Pn rfl ?_))
          have e_ := Option.some.inj h7281
          subst e_
          exact ⟨false, rfl, SubFr.of ⟨rfl, trivial⟩, SegSub.sel _ [] 5, rfl⟩
        replace h7281 := cond_f hc11 h7281
        refine P_some rfl (O_gN rfl rfl hc11 (P_some rfl (O_gN rfl rfl hc11 (P_some rfl (O_gN rfl rfl hc11 (P_some rfl (O_gN rfl rfl hc11 (P_some rfl (O_gN rfl rfl hc11 (P_some rfl (O_gN rfl rfl hc11 (P_some rfl (O_gN rfl rfl hc11 (Pc rfl rfl (R_pick_F rfl hc11 rfl ?_)))))))))))))))
        refine Pc rfl rfl (R_move rfl (P_some rfl (O_gN rfl rfl rfl (P_some rfl (O_gN rfl rfl rfl (P_some rfl (O_gN rfl rfl rfl (P_some rfl (O_gN rfl rfl rfl (P_some rfl (O_gN rfl rfl rfl (P_some rfl (O_gN rfl rfl rfl (P_some rfl (O_gN rfl rfl rfl ?_)))))))))))))))
        refine P_some rfl (O_gN rfl rfl rfl (Pc rfl rfl (R_pick_F rfl rfl rfl (Pc rfl rfl (R_move rfl (P_some rfl (O_gN rfl rfl rfl (P_some rfl (O_gN rfl rfl rfl (P_some rfl (O_gN rfl rfl rfl (P_some rfl (O_gN rfl rfl rfl ?_)))))))))))))
        refine P_some rfl (O_gN rfl rfl rfl (Pc rfl rfl (R_pick_F rfl rfl rfl (Pc rfl rfl (R_assign rfl (Pn rfl ?_))))))
        have e_ := Option.some.inj h7281
        subst e_
        exact ⟨false, rfl, SubFr.of ⟨rfl, trivial⟩, SegSub.sel _ [] 5, rfl⟩
      replace h7281 := cond_f hc10 h7281
      refine P_some rfl (O_gN rfl rfl hc10 (P_some rfl (O_gN rfl rfl hc10 (P_some rfl (O_gN rfl rfl hc10 (P_some rfl (O_gN rfl rfl hc10 (P_some rfl (O_gN rfl rfl hc10 (Pc rfl rfl (R_pick_F rfl hc10 rfl (Pc rfl rfl (R_move rfl ?_)))))))))))))
      refine P_some rfl (O_gN rfl rfl rfl (P_some rfl (O_gN rfl rfl rfl (P_some rfl (O_gN rfl rfl rfl (P_some rfl (O_gN rfl rfl rfl (P_some rfl (O_gN rfl rfl rfl (P_some rfl (O_gN rfl rfl rfl (P_some rfl (O_gN rfl rfl rfl (P_some rfl (O_gN rfl rfl rfl (P_some rfl (O_cons ?_)))))))))))))))))
      refine O_read rfl (R_pick_F rfl rfl rfl (Pc rfl rfl (R_move rfl (P_some rfl (O_gN rfl rfl rfl (P_some rfl (O_gN rfl rfl rfl (P_some rfl (O_gN rfl rfl rfl (P_some rfl (O_gN rfl rfl rfl (P_some rfl (O_gN rfl rfl rfl (P_some rfl (O_gN rfl rfl rfl ?_)))))))))))))))
      refine P_some rfl (O_gN rfl rfl rfl (P_some rfl (O_gN rfl rfl rfl (Pc rfl rfl (R_pick_F rfl rfl rfl (Pc rfl rfl (R_move rfl (P_some rfl (O_gN rfl rfl rfl (P_some rfl (O_gN rfl rfl rfl (P_some rfl (O_gN rfl rfl rfl ?_)))))))))))))
      refine P_some rfl (O_gN rfl rfl rfl (P_some rfl (O_gN rfl rfl rfl (Pc rfl rfl (R_pick_F rfl rfl rfl (Pc rfl rfl (R_assign rfl (Pn rfl ?_))))))))
      have e_ := Option.some.inj h7281
      subst e_
      exact ⟨false, rfl, SubFr.of ⟨rfl, trivial⟩, SegSub.sel _ [] 5, rfl⟩
    replace h7281 := cond_f hc9 h7281
    refine P_some rfl (O_gN rfl rfl hc9 (P_some rfl (O_gN rfl rfl hc9 (P_some rfl (O_gN rfl rfl hc9 (P_some rfl (O_gN rfl rfl hc9 (P_some rfl (O_gN rfl rfl hc9 (P_some rfl (O_gN rfl rfl hc9 (P_some rfl (O_gN rfl rfl hc9 (P_some rfl (O_gN rfl rfl hc9 (P_some rfl (O_cons ?_)))))))))))))))))
    refine O_read rfl (R_pick_F rfl hc9 rfl (Pc rfl rfl (R_move rfl (P_some rfl (O_gN rfl rfl rfl (P_some rfl (O_gN rfl rfl rfl (P_some rfl (O_gN rfl rfl rfl (P_some rfl (O_gN rfl rfl rfl (P_some rfl (O_gN rfl rfl rfl (P_some rfl (O_gN rfl rfl rfl ?_)))))))))))))))
    refine Pc rfl rfl (R_pick_F rfl rfl rfl (Pc rfl rfl (R_move rfl (P_some rfl (O_gN rfl rfl rfl (P_some rfl (O_gN rfl rfl rfl (P_some rfl (O_gN rfl rfl rfl (P_some rfl (O_gN rfl rfl rfl (P_some rfl (O_gN rfl rfl rfl ?_)))))))))))))
    refine P_some rfl (O_gN rfl rfl rfl (P_some rfl (O_gN rfl rfl rfl (P_some rfl (O_gN rfl rfl rfl (Pc rfl rfl (R_pick_F rfl rfl rfl (Pc rfl rfl (R_move rfl (P_some rfl (O_gN rfl rfl rfl (P_some rfl (O_gN rfl rfl rfl ?_)))))))))))))
    refine P_some rfl (O_gN rfl rfl rfl (P_some rfl (O_gN rfl rfl rfl (P_some rfl (O_gN rfl rfl rfl (P_some rfl (O_gN rfl rfl rfl (P_some rfl (O_gN rfl rfl rfl (P_some rfl (O_gN rfl rfl rfl (Pc rfl rfl (R_pick_F rfl rfl rfl (P_some rfl (O_cons ?_)))))))))))))))
    refine O_read rfl (R_move rfl (P_some rfl (O_gN rfl rfl rfl (P_some rfl (O_gN rfl rfl rfl (P_some rfl (O_gN rfl rfl rfl (P_some rfl (O_gN rfl rfl rfl (P_some rfl (O_gN rfl rfl rfl (Pc rfl rfl (R_pick_F rfl rfl rfl (P_some rfl (O_cons ?_)))))))))))))))
    refine O_read rfl (R_assign rfl (Pn rfl ?_))
    have e_ := Option.some.inj h7281
    subst e_
    exact ⟨false, rfl, SubFr.of ⟨rfl, trivial⟩, SegSub.sel _ [] 5, rfl⟩
  rintro fr7281 μ7281 L7281 hm7281 ⟨v4, ho7281, hF7281, hS7281, hu7281⟩
  subst ho7281
  subst hu7281
  refine hK7280 _ _ _ (WP.at hF7281 hS7281 (WP.ret ?_))
  have e_ := Option.some.inj h
  subst e_
  refine S_tmp rfl (S_nil (Upd.selS [] 0 ?_))
  exact Upd.done hR

theorem recyclinglaw22_TourWalk_fn {μ : Gh} {L : List Seg} {R : Value → Gh → List Seg → Prop} {F : Nat} {p1 : T_api_Problem} {t1 : T_api_Tour} {A1 : Option Addr} {c1 : Nat} {A2 : Option Addr} {c2 : Nat} {A3 : Option Addr} {c3 : Nat} {A4 : Option Addr} {c4 : Nat} {res1 : Bool}
    (hl1 : p1.Road.Edges.length ≤ c1 ∧ c1 ≤ maxLen) (hA1 : ArrR r_api_Edge μ A1 p1.Road.Edges) (hl2 : p1.Vehicles.length ≤ c2 ∧ c2 ≤ maxLen) (hA2 : ArrR r_api_Vehicle μ A2 p1.Vehicles) (hl3 : p1.Demands.length ≤ c3 ∧ c3 ≤ maxLen) (hA3 : ArrR r_api_Demand μ A3 p1.Demands) (hl4 : t1.Stops.length ≤ c4 ∧ c4 ≤ maxLen) (hA4 : ArrR rInt μ A4 t1.Stops) (h : recyclinglaw22_TourWalk F p1 t1 = some res1)
    (hR : ∀ (μ' : Gh) , μ.le μ' → R (.bool res1) μ' (L)) :
    Fn Try.prog 6 [.agg #[.int .i64 p1.Road.Nodes, .slice A1 p1.Road.Edges.length c1, .slice A2 p1.Vehicles.length c2, .slice A3 p1.Demands.length c3, .int .i64 p1.Unload, .int .i64 p1.UnloadSecs], .agg #[.int .i64 t1.Vehicle, .slice A4 t1.Stops.length c4]] μ (L) R := by
  unfold recyclinglaw22_TourWalk at h
  refine Fn.of_body Tt_ok Try.func6 (by kernel_rfl) rfl Try.ntmps6 (by simp) ?_
  simp only [Try.f6, argFr, List.zipIdx, List.map, Nat.reduceAdd]
  refine WP.seq_k (fun K7494 hK7494 => WP.region Tt_ok (O_cons (O_box (cs := #[.int .i64 p1.Road.Nodes, .slice A1 p1.Road.Edges.length c1, .slice A2 p1.Vehicles.length c2, .slice A3 p1.Demands.length c3, .int .i64 p1.Unload, .int .i64 p1.UnloadSecs]) rfl rfl (fun g1 => P_some rfl (O_cons (O_box (cs := #[.int .i64 t1.Vehicle, .slice A4 t1.Stops.length c4]) rfl rfl (fun g2 => Pc rfl rfl (R_assign rfl (Pn rfl (hK7494 _ _ _ (WP.seq_k (fun K7497 hK7497 => WP.seq_k (fun K7498 hK7498 => ?_)))))))))))))
  obtain ⟨o7499, h7499, h⟩ := obind h
  refine WP.cutK (fun fr_ μ_ L_ => ∃ (v1 : Bool), v1 = o7499 ∧ SubFr [(2, .pointer (some ⟨g1, 0, none⟩)), (3, .pointer (some ⟨g2, 0, none⟩)), (23, .bool v1)] fr_ ∧ SegSub ([(g1, .cells #[.int .i64 p1.Road.Nodes, .slice A1 p1.Road.Edges.length c1, .slice A2 p1.Vehicles.length c2, .slice A3 p1.Demands.length c3, .int .i64 p1.Unload, .int .i64 p1.UnloadSecs] 28 (0, 0))] :: [(g2, .cells #[.int .i64 t1.Vehicle, .slice A4 t1.Stops.length c4] 35 (0, 0))] :: L) L_) ?_ ?_
  · refine Wr Tt_ok rfl (R_loadA rfl rfl rfl rfl (LA_ (vs := [.int .i64 p1.Road.Nodes, .slice A1 p1.Road.Edges.length c1, .slice A2 p1.Vehicles.length c2, .slice A3 p1.Demands.length c3, .int .i64 p1.Unload, .int .i64 p1.UnloadSecs]) 1 0 rfl rfl rfl rfl (P_some rfl (O_cons (O_call (all := [.agg #[.int .i64 p1.Road.Nodes, .slice A1 p1.Road.Edges.length c1, .slice A2 p1.Vehicles.length c2, .slice A3 p1.Demands.length c3, .int .i64 p1.Unload, .int .i64 p1.UnloadSecs]]) rfl rfl rfl ?_)))))
    obtain ⟨r1, hx1, h7499⟩ := obind h7499
    refine recyclingref22_Large_fn hl1 hA1 hl2 hA2 hl3 hA3 hx1 ((Pc rfl rfl (R_move rfl (P_some rfl ?_))))
    refine O_gv (z := r1) rfl rfl (fun hc1 => ?_) (fun hc1 => ?_)
    · replace h7499 := cond_f hc1 h7499
      refine O_read rfl (R_fa0 (o' := 1) rfl rfl rfl rfl rfl rfl (P_some rfl (O_gY rfl rfl hc1 (O_read rfl (R_load rfl rfl rfl (Ex.mk _ (Cell.seg 0 0 rfl rfl rfl) (P_some rfl (O_gY rfl rfl hc1 (O_read rfl (R_lenS rfl rfl rfl (P_some rfl (O_gY rfl rfl hc1 (O_read rfl (R_gtrD rfl rfl (Pc rfl rfl ?_)))))))))))))))
      refine R_pick_F rfl hc1 rfl (Pn rfl ?_)
      have e_ := Option.some.inj h7499
      subst e_
      exact ⟨(decide (100 < ((t1.Stops.length : Nat) : Int))), rfl, SubFr.of ⟨rfl, rfl, rfl, trivial⟩, SegSub.sel _ [some 1, some 0] 2⟩
    replace h7499 := cond_t hc1 h7499
    refine P_some rfl (O_gN rfl rfl hc1 (P_some rfl (O_gN rfl rfl hc1 (P_some rfl (O_gN rfl rfl hc1 (Pc rfl rfl (R_pick_T rfl hc1 rfl (Pn rfl ?_))))))))
    have e_ := Option.some.inj h7499
    subst e_
    exact ⟨true, rfl, SubFr.of ⟨rfl, rfl, rfl, trivial⟩, SegSub.sel _ [some 1, some 0] 2⟩
  rintro fr7499 μ7499 L7499 hm7499 ⟨v1, ho7499, hF7499, hS7499⟩
  subst ho7499
  replace hA1 := hA1.mono hm7499
  replace hA2 := hA2.mono hm7499
  replace hA3 := hA3.mono hm7499
  replace hA4 := hA4.mono hm7499
  refine hK7498 _ _ _ (WP.at hF7499 hS7499 ?_)
  refine W_cond_v (b := v1) rfl (fun hc2 => ?_) (fun hc2 => ?_)
  · replace h := cond_t hc2 h
    refine WP.seq_k (fun K7504 hK7504 => WP.region Tt_ok (O_cons (O_call (all := []) rfl rfl rfl ?_)))
    obtain ⟨r2, hx2, h⟩ := obind h
    refine recyclinglaw22_awake_fn  hx2 (fun v2 hm_1 => ?_)
    replace hA1 := hA1.mono hm_1
    replace hA2 := hA2.mono hm_1
    replace hA3 := hA3.mono hm_1
    replace hA4 := hA4.mono hm_1
    refine Pc rfl rfl (R_assign rfl (Pn rfl (hK7504 _ _ _ (WP.ret ?_))))
    have e_ := Option.some.inj h
    subst e_
    refine S_tmp rfl (S_nil (Upd.selS [] 2 ?_))
    exact Upd.done (hR _ (Gh.le.trans hm7499 (hm_1)))
  replace h := cond_f hc2 h
  refine WP.skip (hK7497 _ _ _ (WP.seq_k (fun K7505 hK7505 => Wr Tt_ok rfl (R_loadA rfl rfl rfl rfl (LA_ (vs := [.int .i64 p1.Road.Nodes, .slice A1 p1.Road.Edges.length c1, .slice A2 p1.Vehicles.length c2, .slice A3 p1.Demands.length c3, .int .i64 p1.Unload, .int .i64 p1.UnloadSecs]) 0 0 rfl rfl rfl rfl (Pc rfl rfl (R_loadA rfl rfl rfl rfl (LA_ (vs := [.int .i64 t1.Vehicle, .slice A4 t1.Stops.length c4]) 1 0 rfl rfl rfl rfl (P_some rfl (O_cons (O_call (all := [.agg #[.int .i64 p1.Road.Nodes, .slice A1 p1.Road.Edges.length c1, .slice A2 p1.Vehicles.length c2, .slice A3 p1.Demands.length c3, .int .i64 p1.Unload, .int .i64 p1.UnloadSecs], .agg #[.int .i64 t1.Vehicle, .slice A4 t1.Stops.length c4]]) rfl rfl rfl ?_)))))))))))
  obtain ⟨⟨r3, r4, r5⟩, hx3, h⟩ := obind h
  replace h := oun_mk h
  replace h := oun_mk h
  refine tour_Walk_fn hl1 hA1 hl2 hA2 hl3 hA3 hl4 hA4 hx3 (fun v3 A5 c5 ch1 hm_2 hO1 => ?_)
  replace hA1 := hA1.mono hm_2
  replace hA2 := hA2.mono hm_2
  replace hA3 := hA3.mono hm_2
  replace hA4 := hA4.mono hm_2
  refine Pc rfl rfl (R_move rfl (Pc rfl rfl (R_ext rfl rfl (Pc rfl rfl (R_ext rfl rfl (Pc rfl rfl (R_ext rfl rfl (P_some rfl (O_cons ?_)))))))))
  refine O_read rfl (R_assign rfl (Pc rfl rfl (R_assign rfl (Pc rfl rfl (R_assign rfl (Pn rfl (hK7505 _ _ _ (WP.seq_k (fun K7507 hK7507 => WP.seq_k (fun K7508 hK7508 => Wr Tt_ok rfl ?_))))))))))
  refine R_move rfl (Pc rfl rfl (R_neqD rfl rfl (Pn rfl (hK7508 _ _ _ ?_))))
  refine W_cond_v (b := !(decide (r4 = 0))) rfl (fun hc3 => ?_) (fun hc3 => ?_)
  · replace h := cond_t hc3 h
    refine WP.seq_k ?_; intro K7509 hK7509
    obtain ⟨o7510, h7510, h⟩ := obind h
    refine WP.cutK (fun fr_ μ_ L_ => ∃ (v5 : Bool), v5 = o7510 ∧ SubFr [(4, .bool v5)] fr_ ∧ SegSub (L) L_) ?_ ?_
    · refine Wr Tt_ok rfl (R_move rfl (Pc rfl rfl (R_lenS rfl rfl rfl (Pc rfl rfl (R_eqlD rfl rfl (Pc rfl rfl (R_move rfl (P_some rfl ?_))))))))
      refine O_gv (z := (decide (((r3.length : Nat) : Int) = 0))) rfl rfl (fun hc4 => ?_) (fun hc4 => ?_)
      · replace h7510 := cond_t hc4 h7510
        refine O_read rfl (R_move rfl (P_some rfl (O_gY rfl rfl hc4 (O_read rfl (R_geqD rfl rfl (Pc rfl rfl (R_pick_T rfl hc4 rfl (Pc rfl rfl (R_move rfl (P_some rfl ?_))))))))))
        refine O_gv (z := (decide (0 ≤ r5))) rfl rfl (fun hc5 => ?_) (fun hc5 => ?_)
        · replace h7510 := cond_t hc5 h7510
          refine O_read rfl (R_move rfl (P_some rfl (O_gY rfl rfl hc5 (O_read rfl (R_fa0 (o' := 1) rfl rfl rfl rfl rfl rfl (P_some rfl (O_gY rfl rfl hc5 (O_read rfl (R_load rfl rfl rfl (Ex.mk _ (Cell.seg 2 0 rfl rfl rfl) (P_some rfl (O_gY rfl rfl hc5 (O_read rfl (R_lenS rfl rfl rfl (P_some rfl (O_gY rfl rfl hc5 (O_read rfl ?_)))))))))))))))))
          refine R_leqD rfl rfl (Pc rfl rfl (R_pick_T rfl hc5 rfl (Pc rfl rfl (R_move rfl (P_some rfl ?_)))))
          refine O_gv (z := (decide (r5 ≤ ((t1.Stops.length : Nat) : Int)))) rfl rfl (fun hc6 => ?_) (fun hc6 => ?_)
          · replace h7510 := cond_t hc6 h7510
            apply O_call (all := []); exact rfl; exact rfl; exact rfl
            obtain ⟨r6, hx4, h7510⟩ := obind h7510
            refine recyclinglaw22_awake_fn  hx4 (fun v4 hm_3 => ?_)
            replace hA1 := hA1.mono hm_3
            replace hA2 := hA2.mono hm_3
            replace hA3 := hA3.mono hm_3
            replace hA4 := hA4.mono hm_3
            replace hO1 := hO1.mono hm_3
            refine Pc rfl rfl (R_pick_T rfl hc6 rfl (Pc rfl rfl (R_assign rfl (Pn rfl ?_))))
            have e_ := Option.some.inj h7510
            subst e_
            exact ⟨r6, rfl, SubFr.of ⟨rfl, trivial⟩, SegSub.sel _ [] 3⟩
          replace h7510 := cond_f hc6 h7510
          refine Pc rfl rfl (R_pick_F rfl hc6 rfl (Pc rfl rfl (R_assign rfl (Pn rfl ?_))))
          have e_ := Option.some.inj h7510
          subst e_
          exact ⟨false, rfl, SubFr.of ⟨rfl, trivial⟩, SegSub.sel _ [] 3⟩
        replace h7510 := cond_f hc5 h7510
        refine P_some rfl (O_gN rfl rfl hc5 (P_some rfl (O_gN rfl rfl hc5 (P_some rfl (O_gN rfl rfl hc5 (P_some rfl (O_gN rfl rfl hc5 (Pc rfl rfl (R_pick_F rfl hc5 rfl (Pc rfl rfl (R_move rfl (P_some rfl (O_gN rfl rfl rfl ?_)))))))))))))
        refine Pc rfl rfl (R_pick_F rfl rfl rfl (Pc rfl rfl (R_assign rfl (Pn rfl ?_))))
        have e_ := Option.some.inj h7510
        subst e_
        exact ⟨false, rfl, SubFr.of ⟨rfl, trivial⟩, SegSub.sel _ [] 3⟩
      replace h7510 := cond_f hc4 h7510
      refine P_some rfl (O_gN rfl rfl hc4 (Pc rfl rfl (R_pick_F rfl hc4 rfl (Pc rfl rfl (R_move rfl (P_some rfl (O_gN rfl rfl rfl (P_some rfl (O_gN rfl rfl rfl (P_some rfl (O_gN rfl rfl rfl (P_some rfl (O_gN rfl rfl rfl ?_)))))))))))))
      refine P_some rfl (O_gN rfl rfl rfl (Pc rfl rfl (R_pick_F rfl rfl rfl (Pc rfl rfl (R_move rfl (P_some rfl (O_gN rfl rfl rfl (Pc rfl rfl (R_pick_F rfl rfl rfl (P_some rfl (O_cons ?_)))))))))))
      refine O_read rfl (R_assign rfl (Pn rfl ?_))
      have e_ := Option.some.inj h7510
      subst e_
      exact ⟨false, rfl, SubFr.of ⟨rfl, trivial⟩, SegSub.sel _ [] 3⟩
    rintro fr7510 μ7510 L7510 hm7510 ⟨v5, ho7510, hF7510, hS7510⟩
    subst ho7510
    replace hA1 := hA1.mono hm7510
    replace hA2 := hA2.mono hm7510
    replace hA3 := hA3.mono hm7510
    replace hA4 := hA4.mono hm7510
    replace hO1 := hO1.mono hm7510
    refine hK7509 _ _ _ (WP.at hF7510 hS7510 (WP.ret ?_))
    have e_ := Option.some.inj h
    subst e_
    refine S_tmp rfl (S_nil (Upd.selS [] 0 ?_))
    exact Upd.done (hR _ (Gh.le.trans hm7499 (Gh.le.trans hm_2 (hm7510))))
  replace h := cond_f hc3 h
  refine WP.skip (hK7507 _ _ _ (WP.seq_k (fun K7511 hK7511 => WP.seq_k (fun K7512 hK7512 => ?_))))
  obtain ⟨o7513, h7513, h⟩ := obind h
  refine WP.cutK (fun fr_ μ_ L_ => ∃ (v6 : Bool), v6 = o7513 ∧ SubFr [(2, .pointer (some ⟨g1, 0, none⟩)), (3, .pointer (some ⟨g2, 0, none⟩)), (5, .slice A5 r3.length c5), (85, .bool v6)] fr_ ∧ SegSub ([(g1, .cells #[.int .i64 p1.Road.Nodes, .slice A1 p1.Road.Edges.length c1, .slice A2 p1.Vehicles.length c2, .slice A3 p1.Demands.length c3, .int .i64 p1.Unload, .int .i64 p1.UnloadSecs] 28 (0, 0))] :: [(g2, .cells #[.int .i64 t1.Vehicle, .slice A4 t1.Stops.length c4] 35 (0, 0))] :: ch1 :: L) L_) ?_ ?_
  · refine Wr Tt_ok rfl (R_loadA rfl rfl rfl rfl (LA_ (vs := [.int .i64 p1.Road.Nodes, .slice A1 p1.Road.Edges.length c1, .slice A2 p1.Vehicles.length c2, .slice A3 p1.Demands.length c3, .int .i64 p1.Unload, .int .i64 p1.UnloadSecs]) 1 0 rfl rfl rfl rfl (P_some rfl (O_cons (O_call (all := [.agg #[.int .i64 p1.Road.Nodes, .slice A1 p1.Road.Edges.length c1, .slice A2 p1.Vehicles.length c2, .slice A3 p1.Demands.length c3, .int .i64 p1.Unload, .int .i64 p1.UnloadSecs]]) rfl rfl rfl ?_)))))
    obtain ⟨r7, hx5, h7513⟩ := obind h7513
    refine recyclingref22_Check_fn hl1 hA1 hl2 hA2 hl3 hA3 hx5 ((Pc rfl rfl (R_neqD rfl rfl (Pc rfl rfl (R_move rfl (P_some rfl ?_))))))
    refine O_gv (z := !(decide (r7 = 0))) rfl rfl (fun hc7 => ?_) (fun hc7 => ?_)
    · replace h7513 := cond_f hc7 h7513
      refine O_read rfl (R_fa0 (o' := 0) rfl rfl rfl rfl rfl rfl (P_some rfl (O_gY rfl rfl hc7 (O_read rfl (R_load rfl rfl rfl (Ex.mk _ (Cell.seg 2 0 rfl rfl rfl) (P_some rfl (O_gY rfl rfl hc7 (O_read rfl (R_lssD rfl rfl (Pc rfl rfl (R_pick_F rfl hc7 rfl (Pc rfl rfl ?_)))))))))))))
      refine R_move rfl (P_some rfl ?_)
      refine O_gv (z := (decide (t1.Vehicle < 0))) rfl rfl (fun hc8 => ?_) (fun hc8 => ?_)
      · replace h7513 := cond_f hc8 h7513
        refine O_read rfl (R_fa0 (o' := 0) rfl rfl rfl rfl rfl rfl (P_some rfl (O_gY rfl rfl hc8 (O_read rfl (R_load rfl rfl rfl (Ex.mk _ (Cell.seg 2 0 rfl rfl rfl) (P_some rfl (O_gY rfl rfl hc8 (O_read rfl (R_fa0 (o' := 2) rfl rfl rfl rfl rfl rfl (P_some rfl (O_gY rfl rfl hc8 (O_read rfl (R_load rfl rfl rfl (Ex.mk _ (Cell.seg 1 0 rfl rfl rfl) (P_some rfl (O_gY rfl rfl hc8 ?_)))))))))))))))))
        refine O_read rfl (R_lenS rfl rfl rfl (P_some rfl (O_gY rfl rfl hc8 (O_read rfl (R_geqD rfl rfl (Pc rfl rfl (R_pick_F rfl hc8 rfl (Pc rfl rfl (R_move rfl (P_some rfl ?_))))))))))
        refine O_gv (z := (decide (((p1.Vehicles.length : Nat) : Int) ≤ t1.Vehicle))) rfl rfl (fun hc9 => ?_) (fun hc9 => ?_)
        · replace h7513 := cond_f hc9 h7513
          refine O_read rfl (R_move rfl (P_some rfl (O_gY rfl rfl hc9 (O_read rfl (R_lenS rfl rfl rfl (P_some rfl (O_gY rfl rfl hc9 (O_read rfl (R_fa0 (o' := 1) rfl rfl rfl rfl rfl rfl (P_some rfl (O_gY rfl rfl hc9 (O_read rfl (R_load rfl rfl rfl (Ex.mk _ (Cell.seg 2 0 rfl rfl rfl) (P_some rfl (O_gY rfl rfl hc9 (O_read rfl ?_)))))))))))))))))
          refine R_lenS rfl rfl rfl (P_some rfl (O_gY rfl rfl hc9 (O_read rfl (R_add rfl rfl (P_some rfl (O_gY rfl rfl hc9 (O_read rfl (R_neqD rfl rfl (Pc rfl rfl (R_pick_F rfl hc9 rfl (Pc rfl rfl (R_move rfl (P_some rfl ?_)))))))))))))
          refine O_gv (z := !(decide (((r3.length : Nat) : Int) = (w64 (((t1.Stops.length : Nat) : Int) + 1))))) rfl rfl (fun hc10 => ?_) (fun hc10 => ?_)
          · replace h7513 := cond_f hc10 h7513
            refine O_read rfl (R_move rfl (P_some rfl (O_gY rfl rfl hc10 (O_read rfl (R_neqD rfl rfl (Pc rfl rfl (R_pick_F rfl hc10 rfl (Pc rfl rfl (R_move rfl (P_some rfl ?_))))))))))
            refine O_gv (z := !(decide (r5 = 0))) rfl rfl (fun hc11 => ?_) (fun hc11 => ?_)
            · replace h7513 := cond_f hc11 h7513
              refine O_read rfl (R_fa0 (o' := 1) rfl rfl rfl rfl rfl rfl (P_some rfl (O_gY rfl rfl hc11 (O_read rfl (R_load rfl rfl rfl (Ex.mk _ (Cell.seg 2 0 rfl rfl rfl) (P_some rfl (O_gY rfl rfl hc11 (O_read rfl (R_lenS rfl rfl rfl (P_some rfl (O_gY rfl rfl hc11 (O_read rfl (R_gtrD rfl rfl (Pc rfl rfl ?_)))))))))))))))
              refine R_pick_F rfl hc11 rfl (Pn rfl ?_)
              have e_ := Option.some.inj h7513
              subst e_
              exact ⟨(decide (40 < ((t1.Stops.length : Nat) : Int))), rfl, SubFr.of ⟨rfl, rfl, rfl, rfl, trivial⟩, SegSub.sel _ [some 1, some 2, some 0] 3⟩
            replace h7513 := cond_t hc11 h7513
            refine P_some rfl (O_gN rfl rfl hc11 (P_some rfl (O_gN rfl rfl hc11 (P_some rfl (O_gN rfl rfl hc11 (Pc rfl rfl (R_pick_T rfl hc11 rfl (Pn rfl ?_))))))))
            have e_ := Option.some.inj h7513
            subst e_
            exact ⟨true, rfl, SubFr.of ⟨rfl, rfl, rfl, rfl, trivial⟩, SegSub.sel _ [some 1, some 2, some 0] 3⟩
          replace h7513 := cond_t hc10 h7513
          refine P_some rfl (O_gN rfl rfl hc10 (Pc rfl rfl (R_pick_T rfl hc10 rfl (Pc rfl rfl (R_move rfl (P_some rfl (O_gN rfl rfl rfl (P_some rfl (O_gN rfl rfl rfl (P_some rfl (O_gN rfl rfl rfl (P_some rfl (O_gN rfl rfl rfl ?_)))))))))))))
          refine Pc rfl rfl (R_pick_T rfl rfl rfl (Pn rfl ?_))
          have e_ := Option.some.inj h7513
          subst e_
          exact ⟨true, rfl, SubFr.of ⟨rfl, rfl, rfl, rfl, trivial⟩, SegSub.sel _ [some 1, some 2, some 0] 3⟩
        replace h7513 := cond_t hc9 h7513
        refine P_some rfl (O_gN rfl rfl hc9 (P_some rfl (O_gN rfl rfl hc9 (P_some rfl (O_gN rfl rfl hc9 (P_some rfl (O_gN rfl rfl hc9 (P_some rfl (O_gN rfl rfl hc9 (P_some rfl (O_gN rfl rfl hc9 (Pc rfl rfl (R_pick_T rfl hc9 rfl (P_some rfl (O_cons ?_)))))))))))))))
        refine O_read rfl (R_move rfl (P_some rfl (O_gN rfl rfl rfl (P_some rfl (O_gN rfl rfl rfl (Pc rfl rfl (R_pick_T rfl rfl rfl (Pc rfl rfl (R_move rfl (P_some rfl (O_gN rfl rfl rfl (P_some rfl (O_gN rfl rfl rfl ?_)))))))))))))
        refine P_some rfl (O_gN rfl rfl rfl (P_some rfl (O_gN rfl rfl rfl (Pc rfl rfl (R_pick_T rfl rfl rfl (Pn rfl ?_))))))
        have e_ := Option.some.inj h7513
        subst e_
        exact ⟨true, rfl, SubFr.of ⟨rfl, rfl, rfl, rfl, trivial⟩, SegSub.sel _ [some 1, some 2, some 0] 3⟩
      replace h7513 := cond_t hc8 h7513
      refine P_some rfl (O_gN rfl rfl hc8 (P_some rfl (O_gN rfl rfl hc8 (P_some rfl (O_gN rfl rfl hc8 (P_some rfl (O_gN rfl rfl hc8 (P_some rfl (O_gN rfl rfl hc8 (Pc rfl rfl (R_pick_T rfl hc8 rfl (Pc rfl rfl (R_move rfl ?_)))))))))))))
      refine P_some rfl (O_gN rfl rfl rfl (P_some rfl (O_gN rfl rfl rfl (P_some rfl (O_gN rfl rfl rfl (P_some rfl (O_gN rfl rfl rfl (P_some rfl (O_gN rfl rfl rfl (P_some rfl (O_gN rfl rfl rfl (P_some rfl (O_gN rfl rfl rfl (Pc rfl rfl (R_pick_T rfl rfl rfl ?_)))))))))))))))
      refine Pc rfl rfl (R_move rfl (P_some rfl (O_gN rfl rfl rfl (P_some rfl (O_gN rfl rfl rfl (Pc rfl rfl (R_pick_T rfl rfl rfl (Pc rfl rfl (R_move rfl (P_some rfl (O_gN rfl rfl rfl ?_)))))))))))
      refine P_some rfl (O_gN rfl rfl rfl (P_some rfl (O_gN rfl rfl rfl (P_some rfl (O_gN rfl rfl rfl (Pc rfl rfl (R_pick_T rfl rfl rfl (Pn rfl ?_))))))))
      have e_ := Option.some.inj h7513
      subst e_
      exact ⟨true, rfl, SubFr.of ⟨rfl, rfl, rfl, rfl, trivial⟩, SegSub.sel _ [some 1, some 2, some 0] 3⟩
    replace h7513 := cond_t hc7 h7513
    refine P_some rfl (O_gN rfl rfl hc7 (P_some rfl (O_gN rfl rfl hc7 (Pc rfl rfl (R_pick_T rfl hc7 rfl (Pc rfl rfl (R_move rfl (P_some rfl (O_gN rfl rfl rfl (P_some rfl (O_gN rfl rfl rfl (P_some rfl (O_gN rfl rfl rfl ?_)))))))))))))
    refine P_some rfl (O_gN rfl rfl rfl (P_some rfl (O_gN rfl rfl rfl (P_some rfl (O_gN rfl rfl rfl (Pc rfl rfl (R_pick_T rfl rfl rfl (Pc rfl rfl (R_move rfl (P_some rfl (O_gN rfl rfl rfl (P_some rfl (O_gN rfl rfl rfl ?_)))))))))))))
    refine P_some rfl (O_gN rfl rfl rfl (P_some rfl (O_gN rfl rfl rfl (P_some rfl (O_gN rfl rfl rfl (P_some rfl (O_gN rfl rfl rfl (P_some rfl (O_gN rfl rfl rfl (Pc rfl rfl (R_pick_T rfl rfl rfl (Pc rfl rfl (R_move rfl ?_)))))))))))))
    refine P_some rfl (O_gN rfl rfl rfl (P_some rfl (O_gN rfl rfl rfl (Pc rfl rfl (R_pick_T rfl rfl rfl (Pc rfl rfl (R_move rfl (P_some rfl (O_gN rfl rfl rfl (P_some rfl (O_gN rfl rfl rfl (P_some rfl (O_gN rfl rfl rfl ?_)))))))))))))
    refine P_some rfl (O_gN rfl rfl rfl (Pc rfl rfl (R_pick_T rfl rfl rfl (Pn rfl ?_))))
    have e_ := Option.some.inj h7513
    subst e_
    exact ⟨true, rfl, SubFr.of ⟨rfl, rfl, rfl, rfl, trivial⟩, SegSub.sel _ [some 1, some 2, some 0] 3⟩
  rintro fr7513 μ7513 L7513 hm7513 ⟨v6, ho7513, hF7513, hS7513⟩
  subst ho7513
  replace hA1 := hA1.mono hm7513
  replace hA2 := hA2.mono hm7513
  replace hA3 := hA3.mono hm7513
  replace hA4 := hA4.mono hm7513
  replace hO1 := hO1.mono hm7513
  refine hK7512 _ _ _ (WP.at hF7513 hS7513 ?_)
  refine W_cond_v (b := v6) rfl (fun hc12 => ?_) (fun hc12 => ?_)
  · replace h := cond_t hc12 h
    refine WP.seq_k (fun K7518 hK7518 => Wr Tt_ok rfl (R_assign rfl (Pn rfl (hK7518 _ _ _ (WP.ret ?_)))))
    have e_ := Option.some.inj h
    subst e_
    refine S_tmp rfl (S_nil (Upd.selS [] 3 ?_))
    exact Upd.done (hR _ (Gh.le.trans hm7499 (Gh.le.trans hm_2 (hm7513))))
  replace h := cond_f hc12 h
  refine WP.skip (hK7511 _ _ _ (WP.seq_k (fun K7519 hK7519 => Wr Tt_ok rfl (R_fa0 (o' := 2) rfl rfl rfl rfl rfl rfl (Pc rfl rfl (R_load rfl rfl rfl (Ex.mk _ (Cell.seg 0 0 rfl rfl rfl) (Pc rfl rfl (R_fa0 (o' := 0) rfl rfl rfl rfl rfl rfl (P_some rfl (O_cons ?_)))))))))))
  refine O_read rfl (R_load rfl rfl rfl (Ex.mk _ (Cell.seg 1 0 rfl rfl rfl) (P_some rfl (O_cons ?_))))
  obtain ⟨x1, hx6, h⟩ := obind h
  obtain ⟨a1, cs1, hA5, hr1, _, hc13⟩ := Rds.getI (ArrR.rds hA2 L) hx6
  obtain rfl := hr1
  refine O_read rfl (R_iaG rfl rfl rfl rfl rfl rfl ⟨(getI_lt hx6).1, (getI_lt hx6).2.1⟩ hA5 (Pc rfl rfl (R_loadA rfl rfl rfl rfl (Ex.mk [.string x1.ID, .int .i64 x1.Depot, .int .i64 x1.Shift.From, .int .i64 x1.Shift.To, .int .i64 x1.Grams, .int .i64 x1.Kinds] ⟨rfl, (hc13.push.push.push)⟩ (P_some rfl (O_cons (O_alloc (cs := #[.string ⟨#[]⟩, .int .i64 0, .int .i64 0, .int .i64 0, .int .i64 0, .int .i64 0]) rfl rfl (fun g3 => P_some rfl (O_cons (O_store (vs := [.string x1.ID, .int .i64 x1.Depot, .int .i64 x1.Shift.From, .int .i64 x1.Shift.To, .int .i64 x1.Grams, .int .i64 x1.Kinds]) rfl rfl rfl rfl rfl rfl (ST_ (L' := ([(g3, .cells #[.string x1.ID, .int .i64 x1.Depot, .int .i64 x1.Shift.From, .int .i64 x1.Shift.To, .int .i64 x1.Grams, .int .i64 x1.Kinds] 46 (0, 0))] :: [(g1, .cells #[.int .i64 p1.Road.Nodes, .slice A1 p1.Road.Edges.length c1, .slice A2 p1.Vehicles.length c2, .slice A3 p1.Demands.length c3, .int .i64 p1.Unload, .int .i64 p1.UnloadSecs] 28 (0, 0))] :: [(g2, .cells #[.int .i64 t1.Vehicle, .slice A4 t1.Stops.length c4] 35 (0, 0))] :: ch1 :: L)) 0 0 rfl rfl rfl rfl ?_)))))))))))
  refine P_none (O_nil (hK7519 _ _ _ (WP.seq_k (fun K7522 hK7522 => Wr Tt_ok rfl (R_fa0 (o' := 1) rfl rfl rfl rfl rfl rfl (Pc rfl rfl (R_load rfl rfl rfl (Ex.mk _ (Cell.seg 0 0 rfl rfl rfl) (Pc rfl rfl (R_fa0 (o' := 2) rfl rfl rfl rfl rfl rfl (P_some rfl ?_)))))))))))
  refine O_cons (O_read rfl (R_fa0 (o' := 2) rfl rfl rfl rfl rfl rfl (Pc rfl rfl (R_load rfl rfl rfl (Ex.mk _ (Cell.seg 0 0 rfl rfl rfl) (Pc rfl rfl (R_build rfl rfl rfl rfl (F_cons (cells' := [.int .i64 0, .int .i64 x1.Depot, .int .i64 0, .int .i64 0, .int .i64 0, .int .i64 0]) rfl rfl rfl rfl (F_cons (cells' := [.int .i64 0, .int .i64 x1.Depot, .int .i64 0, .int .i64 0, .int .i64 x1.Shift.From, .int .i64 0]) rfl rfl rfl rfl (F_nil (P_some rfl (O_cons (O_alloc (cs := #[.int .i64 0, .int .i64 0, .int .i64 0, .int .i64 0, .int .i64 0, .int .i64 0]) rfl rfl (fun g4 => ?_))))))))))))))
  refine P_some rfl (O_cons (O_store (vs := [.int .i64 0, .int .i64 x1.Depot, .int .i64 0, .int .i64 0, .int .i64 x1.Shift.From, .int .i64 0]) rfl rfl rfl rfl rfl rfl (ST_ (L' := ([(g4, .cells #[.int .i64 0, .int .i64 x1.Depot, .int .i64 0, .int .i64 0, .int .i64 x1.Shift.From, .int .i64 0] 48 (0, 0))] :: [(g3, .cells #[.string x1.ID, .int .i64 x1.Depot, .int .i64 x1.Shift.From, .int .i64 x1.Shift.To, .int .i64 x1.Grams, .int .i64 x1.Kinds] 46 (0, 0))] :: [(g1, .cells #[.int .i64 p1.Road.Nodes, .slice A1 p1.Road.Edges.length c1, .slice A2 p1.Vehicles.length c2, .slice A3 p1.Demands.length c3, .int .i64 p1.Unload, .int .i64 p1.UnloadSecs] 28 (0, 0))] :: [(g2, .cells #[.int .i64 t1.Vehicle, .slice A4 t1.Stops.length c4] 35 (0, 0))] :: ch1 :: L)) 0 0 rfl rfl rfl rfl (P_none (O_nil (hK7522 _ _ _ (WP.seq_k (fun K7525 hK7525 => ?_))))))))
  refine WP.seq_k (fun K7526 hK7526 => Wr Tt_ok rfl (R_fa0 (o' := 1) rfl rfl rfl rfl rfl rfl (Pc rfl rfl (R_load rfl rfl rfl (Ex.mk _ (Cell.seg 3 0 rfl rfl rfl) (Pc rfl rfl (R_lenS rfl rfl rfl (Pc rfl rfl (R_move rfl ?_)))))))))
  refine Pn rfl (hK7526 _ _ _ ?_)
  obtain ⟨o7527, h7527, h⟩ := obind h
  refine WP.cutK (fun fr_ μ_ L_ => ∃ (f13 : Int) (f14 : Int) (f15 : Int) (f16 : Int) (f17 : Int) (f18 : Int), (.inl (f13, f14, f15, f16, f17, f18)) = o7527 ∧ SubFr [(2, .pointer (some ⟨g1, 0, none⟩)), (5, .slice A5 r3.length c5), (8, .pointer (some ⟨g3, 0, none⟩)), (9, .pointer (some ⟨g4, 0, none⟩))] fr_ ∧ SegSub ([(g1, .cells #[.int .i64 p1.Road.Nodes, .slice A1 p1.Road.Edges.length c1, .slice A2 p1.Vehicles.length c2, .slice A3 p1.Demands.length c3, .int .i64 p1.Unload, .int .i64 p1.UnloadSecs] 28 (0, 0))] :: ch1 :: [(g3, .cells #[.string x1.ID, .int .i64 x1.Depot, .int .i64 x1.Shift.From, .int .i64 x1.Shift.To, .int .i64 x1.Grams, .int .i64 x1.Kinds] 46 (0, 0))] :: [(g4, .cells #[.int .i64 f13, .int .i64 f14, .int .i64 f15, .int .i64 f16, .int .i64 f17, .int .i64 f18] 48 (0, 0))] :: L) L_) ?_ ?_
  · refine WP.block (WP.iter h7527 (fun (j_ : Int × Int × Int × Int × Int × Int × Int) fr_ μ_ L_ => ounP j_ fun f1 j_ => ounP j_ fun f2 j_ => ounP j_ fun f3 j_ => ounP j_ fun f4 j_ => ounP j_ fun f5 j_ => ounP j_ fun f6 v7 => SubFr [(2, .pointer (some ⟨g1, 0, none⟩)), (3, .pointer (some ⟨g2, 0, none⟩)), (5, .slice A5 r3.length c5), (8, .pointer (some ⟨g3, 0, none⟩)), (9, .pointer (some ⟨g4, 0, none⟩)), (99, .slice A4 t1.Stops.length c4), (100, .int .i64 ((t1.Stops.length : Nat) : Int)), (101, .int .i64 v7)] fr_ ∧ SegSub ([(g1, .cells #[.int .i64 p1.Road.Nodes, .slice A1 p1.Road.Edges.length c1, .slice A2 p1.Vehicles.length c2, .slice A3 p1.Demands.length c3, .int .i64 p1.Unload, .int .i64 p1.UnloadSecs] 28 (0, 0))] :: [(g2, .cells #[.int .i64 t1.Vehicle, .slice A4 t1.Stops.length c4] 35 (0, 0))] :: ch1 :: [(g3, .cells #[.string x1.ID, .int .i64 x1.Depot, .int .i64 x1.Shift.From, .int .i64 x1.Shift.To, .int .i64 x1.Grams, .int .i64 x1.Kinds] 46 (0, 0))] :: [(g4, .cells #[.int .i64 f1, .int .i64 f2, .int .i64 f3, .int .i64 f4, .int .i64 f5, .int .i64 f6] 48 (0, 0))] :: L) L_) ⟨SubFr.of ⟨rfl, rfl, rfl, rfl, rfl, rfl, rfl, rfl, trivial⟩, SegSub.sel _ [some 2, some 3, some 4, some 1, some 0] 5⟩ ?_)
    rintro ⟨f1, f2, f3, f4, f5, f6, v7⟩ q7635 fr7635 μ7635 L7635 hm7635 ⟨hF7635, hS7635⟩ hb7635 hq7635
    unfold recyclinglaw22_TourWalk_l2 at hb7635
    replace hb7635 := oun_mk hb7635
    replace hb7635 := oun_mk hb7635
    replace hb7635 := oun_mk hb7635
    replace hb7635 := oun_mk hb7635
    replace hb7635 := oun_mk hb7635
    replace hb7635 := oun_mk hb7635
    replace hA1 := hA1.mono hm7635
    replace hA2 := hA2.mono hm7635
    replace hA3 := hA3.mono hm7635
    replace hA4 := hA4.mono hm7635
    replace hO1 := hO1.mono hm7635
    replace hc13 := hc13.lift hm7635
    refine WP.at hF7635 hS7635 (WP.seq_k (fun K7648 hK7648 => Wr Tt_ok rfl (R_lssD rfl rfl (Pn rfl (hK7648 _ _ _ (WP.seq_k (fun K7649 hK7649 => ?_)))))))
    refine W_cond_v (b := (decide (v7 < ((t1.Stops.length : Nat) : Int)))) rfl (fun hc14 => ?_) (fun hc14 => ?_)
    · replace hb7635 := cond_t hc14 hb7635
      refine WP.skip (hK7649 _ _ _ (WP.seq_k (fun K7650 hK7650 => ?_)))
      obtain ⟨o7651, h7651, hb7635⟩ := obind hb7635
      refine WP.cutK (fun fr_ μ_ L_ => ∃ (f7 : Int) (f8 : Int) (f9 : Int) (f10 : Int) (f11 : Int) (f12 : Int), (.inl (f7, f8, f9, f10, f11, f12)) = o7651 ∧ SubFr [(2, .pointer (some ⟨g1, 0, none⟩)), (3, .pointer (some ⟨g2, 0, none⟩)), (5, .slice A5 r3.length c5), (8, .pointer (some ⟨g3, 0, none⟩)), (9, .pointer (some ⟨g4, 0, none⟩)), (99, .slice A4 t1.Stops.length c4), (100, .int .i64 ((t1.Stops.length : Nat) : Int)), (101, .int .i64 v7)] fr_ ∧ SegSub ([(g1, .cells #[.int .i64 p1.Road.Nodes, .slice A1 p1.Road.Edges.length c1, .slice A2 p1.Vehicles.length c2, .slice A3 p1.Demands.length c3, .int .i64 p1.Unload, .int .i64 p1.UnloadSecs] 28 (0, 0))] :: [(g2, .cells #[.int .i64 t1.Vehicle, .slice A4 t1.Stops.length c4] 35 (0, 0))] :: ch1 :: [(g3, .cells #[.string x1.ID, .int .i64 x1.Depot, .int .i64 x1.Shift.From, .int .i64 x1.Shift.To, .int .i64 x1.Grams, .int .i64 x1.Kinds] 46 (0, 0))] :: [(g4, .cells #[.int .i64 f7, .int .i64 f8, .int .i64 f9, .int .i64 f10, .int .i64 f11, .int .i64 f12] 48 (0, 0))] :: L) L_) ?_ ?_
      · refine WP.block (WP.seq_k (fun K7652 hK7652 => Wr Tt_ok rfl (R_move rfl (P_some rfl (O_cons ?_)))))
        obtain ⟨x2, hx7, h7651⟩ := obind h7651
        obtain ⟨a2, cs2, hA6, hr2, _, hc15⟩ := Rds.getI (ArrR.rds hA4 L) hx7
        obtain rfl := hr2
        refine O_read rfl (R_iaG rfl rfl rfl rfl rfl rfl ⟨(getI_lt hx7).1, (getI_lt hx7).2.1⟩ hA6 (Pc rfl rfl (R_load rfl rfl rfl (Ex.mk _ (Cell.of_cells0 (hc15.push.push.push.push.push) rfl) (Pc rfl rfl (R_assign rfl (Pc rfl rfl (R_assign rfl (Pn rfl (hK7652 _ _ _ ?_))))))))))
        refine WP.seq_k (fun K7653 hK7653 => WP.seq_k (fun K7654 hK7654 => ?_))
        obtain ⟨o7655, h7655, h7651⟩ := obind h7651
        refine WP.cutK (fun fr_ μ_ L_ => ∃ (v8 : Bool), v8 = o7655 ∧ SubFr [(2, .pointer (some ⟨g1, 0, none⟩)), (3, .pointer (some ⟨g2, 0, none⟩)), (5, .slice A5 r3.length c5), (8, .pointer (some ⟨g3, 0, none⟩)), (9, .pointer (some ⟨g4, 0, none⟩)), (10, .int .i64 v7), (11, .int .i64 x2), (99, .slice A4 t1.Stops.length c4), (100, .int .i64 ((t1.Stops.length : Nat) : Int)), (101, .int .i64 v7), (126, .bool v8)] fr_ ∧ SegSub ([(g1, .cells #[.int .i64 p1.Road.Nodes, .slice A1 p1.Road.Edges.length c1, .slice A2 p1.Vehicles.length c2, .slice A3 p1.Demands.length c3, .int .i64 p1.Unload, .int .i64 p1.UnloadSecs] 28 (0, 0))] :: [(g2, .cells #[.int .i64 t1.Vehicle, .slice A4 t1.Stops.length c4] 35 (0, 0))] :: ch1 :: [(g3, .cells #[.string x1.ID, .int .i64 x1.Depot, .int .i64 x1.Shift.From, .int .i64 x1.Shift.To, .int .i64 x1.Grams, .int .i64 x1.Kinds] 46 (0, 0))] :: [(g4, .cells #[.int .i64 f1, .int .i64 f2, .int .i64 f3, .int .i64 f4, .int .i64 f5, .int .i64 f6] 48 (0, 0))] :: L) L_) ?_ ?_
        · refine WP.drawn (id := 13) (l' := List.replicate 21 true) wide Tt_ok _ Kept.refl [(true, 0), (true, 1), (true, 2), (true, 3), (true, 4), (true, 5), (true, 6), (true, 7), (true, 8), (true, 9), (true, 10), (true, 11), (true, 12), (true, 13), (true, 14), (true, 15), (true, 16), (true, 17), (false, 18), (true, 19), (true, 20)] (by kernel_rfl) (by kernel_rfl) rfl (PL_t rfl (R_move rfl (Pt rfl rfl (R_lssD rfl rfl (Pt rfl rfl (R_move rfl (P_some rfl ?_)))))))
          refine PL_tv (z := (decide (x2 < (-1)))) rfl rfl rfl (fun hc16 => ?_) (fun hc16 => ?_)
          · replace h7655 := cond_f hc16 h7655
            refine R_move rfl (P_some rfl (PL_tY rfl rfl rfl hc16 (R_fa0 (o' := 3) rfl rfl rfl rfl rfl rfl (P_some rfl (PL_tY rfl rfl rfl hc16 (R_load rfl rfl rfl (Ex.mk _ (Cell.seg 0 0 rfl rfl rfl) (P_some rfl (PL_tY rfl rfl rfl hc16 (R_lenS rfl rfl rfl (P_some rfl (PL_tY rfl rfl rfl hc16 (R_geqD rfl rfl (Pt rfl rfl (R_pick_F rfl hc16 rfl (P_some rfl ?_))))))))))))))))
            refine PL_t rfl (R_move rfl (P_some rfl ?_))
            refine PL_tv (z := (decide (((p1.Demands.length : Nat) : Int) ≤ x2))) rfl rfl rfl (fun hc17 => ?_) (fun hc17 => ?_)
            · replace h7655 := cond_f hc17 h7655
              refine R_loadA rfl rfl rfl rfl (LA_ (vs := [.int .i64 p1.Road.Nodes, .slice A1 p1.Road.Edges.length c1, .slice A2 p1.Vehicles.length c2, .slice A3 p1.Demands.length c3, .int .i64 p1.Unload, .int .i64 p1.UnloadSecs]) 0 0 rfl rfl rfl rfl (P_some rfl (PL_tY rfl rfl rfl hc17 (R_loadA rfl rfl rfl rfl (LA_ (vs := [.string x1.ID, .int .i64 x1.Depot, .int .i64 x1.Shift.From, .int .i64 x1.Shift.To, .int .i64 x1.Grams, .int .i64 x1.Kinds]) 3 0 rfl rfl rfl rfl (P_some rfl (PL_tY rfl rfl rfl hc17 (R_loadA rfl rfl rfl rfl (LA_ (vs := [.int .i64 f1, .int .i64 f2, .int .i64 f3, .int .i64 f4, .int .i64 f5, .int .i64 f6]) 4 0 rfl rfl rfl rfl (P_some rfl (PL_tY rfl rfl rfl hc17 (R_move rfl (P_some rfl (PL_tY rfl rfl rfl hc17 (R_move rfl (P_some rfl (PL_tY rfl rfl rfl hc17 ?_)))))))))))))))))
              obtain ⟨x3, hx8, h7655⟩ := obind h7655
              obtain ⟨a3, cs3, hA7, hr3, _, hc18⟩ := Rds.getI (Own.rds (L := ([(g1, .cells #[.int .i64 p1.Road.Nodes, .slice A1 p1.Road.Edges.length c1, .slice A2 p1.Vehicles.length c2, .slice A3 p1.Demands.length c3, .int .i64 p1.Unload, .int .i64 p1.UnloadSecs] 28 (0, 0))] :: [(g2, .cells #[.int .i64 t1.Vehicle, .slice A4 t1.Stops.length c4] 35 (0, 0))] :: ch1 :: [(g3, .cells #[.string x1.ID, .int .i64 x1.Depot, .int .i64 x1.Shift.From, .int .i64 x1.Shift.To, .int .i64 x1.Grams, .int .i64 x1.Kinds] 46 (0, 0))] :: [(g4, .cells #[.int .i64 f1, .int .i64 f2, .int .i64 f3, .int .i64 f4, .int .i64 f5, .int .i64 f6] 48 (0, 0))] :: L)) hO1 2 rfl) hx8
              obtain rfl := hr3
              refine R_iaG rfl rfl rfl rfl rfl rfl ⟨(getI_lt hx8).1, (getI_lt hx8).2.1⟩ hA7 (P_some rfl (PL_tY rfl rfl rfl hc17 (R_loadA rfl rfl rfl rfl (Ex.mk [.int .i64 x3.Stop, .int .i64 x3.Node, .int .i64 x3.Arrive, .int .i64 x3.Start, .int .i64 x3.Leave, .int .i64 x3.Load] ⟨rfl, hc18⟩ (P_some rfl (PL_tY rfl rfl rfl hc17 (R_move rfl (P_some rfl (PL_fY rfl rfl rfl hc17 (O_call (all := [.agg #[.int .i64 p1.Road.Nodes, .slice A1 p1.Road.Edges.length c1, .slice A2 p1.Vehicles.length c2, .slice A3 p1.Demands.length c3, .int .i64 p1.Unload, .int .i64 p1.UnloadSecs], .agg #[.string x1.ID, .int .i64 x1.Depot, .int .i64 x1.Shift.From, .int .i64 x1.Shift.To, .int .i64 x1.Grams, .int .i64 x1.Kinds], .agg #[.int .i64 f1, .int .i64 f2, .int .i64 f3, .int .i64 f4, .int .i64 f5, .int .i64 f6], .agg #[.int .i64 x3.Stop, .int .i64 x3.Node, .int .i64 x3.Arrive, .int .i64 x3.Start, .int .i64 x3.Leave, .int .i64 x3.Load], .int .i64 x2]) rfl rfl rfl ?_))))))))))
              obtain ⟨r8, hx9, h7655⟩ := obind h7655
              refine recyclinglaw22_follows_fn hl1 hA1 hl2 hA2 hl3 hA3 hx9 (?_)
              refine ⟨Kept.refl, ?_⟩
              refine P_some rfl (PL_tY rfl rfl rfl hc17 (R_not rfl (Pt rfl rfl (R_pick_F rfl hc17 rfl (P_some rfl (PL_nil (AN.done0 (by kernel_rfl) ?_)))))))
              have e_ := Option.some.inj h7655
              subst e_
              exact ⟨!r8, rfl, SubFr.of ⟨rfl, rfl, rfl, rfl, rfl, rfl, rfl, rfl, rfl, rfl, rfl, trivial⟩, SegSub.sel _ [some 0, some 1, some 2, some 3, some 4] 5⟩
            replace h7655 := cond_t hc17 h7655
            refine P_some rfl (PL_tN rfl rfl rfl hc17 (P_some rfl (PL_tN rfl rfl rfl hc17 (P_some rfl (PL_tN rfl rfl rfl hc17 (P_some rfl (PL_tN rfl rfl rfl hc17 (P_some rfl (PL_tN rfl rfl rfl hc17 (P_some rfl (PL_tN rfl rfl rfl hc17 (P_some rfl (PL_tN rfl rfl rfl hc17 (P_some rfl (PL_fN rfl rfl rfl hc17 (P_some rfl (PL_tN rfl rfl rfl hc17 ?_)))))))))))))))))
            refine Pt rfl rfl (R_pick_T rfl hc17 rfl (P_some rfl (PL_nil (AN.done0 (by kernel_rfl) ?_))))
            have e_ := Option.some.inj h7655
            subst e_
            exact ⟨true, rfl, SubFr.of ⟨rfl, rfl, rfl, rfl, rfl, rfl, rfl, rfl, rfl, rfl, rfl, trivial⟩, SegSub.sel _ [some 0, some 1, some 2, some 3, some 4] 5⟩
          replace h7655 := cond_t hc16 h7655
          refine P_some rfl (PL_tN rfl rfl rfl hc16 (P_some rfl (PL_tN rfl rfl rfl hc16 (P_some rfl (PL_tN rfl rfl rfl hc16 (P_some rfl (PL_tN rfl rfl rfl hc16 (Pt rfl rfl (R_pick_T rfl hc16 rfl (Pt rfl rfl (R_move rfl (P_some rfl (PL_tN rfl rfl rfl rfl (P_some rfl (PL_tN rfl rfl rfl rfl ?_)))))))))))))))
          refine P_some rfl (PL_tN rfl rfl rfl rfl (P_some rfl (PL_tN rfl rfl rfl rfl (P_some rfl (PL_tN rfl rfl rfl rfl (P_some rfl (PL_tN rfl rfl rfl rfl (P_some rfl (PL_tN rfl rfl rfl rfl (P_some rfl (PL_tN rfl rfl rfl rfl (P_some rfl (PL_fN rfl rfl rfl rfl (P_some rfl (PL_tN rfl rfl rfl rfl (Pt rfl rfl ?_))))))))))))))))
          refine R_pick_T rfl rfl rfl (P_some rfl (PL_nil (AN.done0 (by kernel_rfl) ?_)))
          have e_ := Option.some.inj h7655
          subst e_
          exact ⟨true, rfl, SubFr.of ⟨rfl, rfl, rfl, rfl, rfl, rfl, rfl, rfl, rfl, rfl, rfl, trivial⟩, SegSub.sel _ [some 0, some 1, some 2, some 3, some 4] 5⟩
        rintro fr7655 μ7655 L7655 hm7655 ⟨v8, ho7655, hF7655, hS7655⟩
        subst ho7655
        replace hA1 := hA1.mono hm7655
        replace hA2 := hA2.mono hm7655
        replace hA3 := hA3.mono hm7655
        replace hA4 := hA4.mono hm7655
        replace hO1 := hO1.mono hm7655
        replace hc13 := hc13.lift hm7655
        replace hc15 := hc15.lift hm7655
        refine hK7654 _ _ _ (WP.at hF7655 hS7655 ?_)
        refine W_cond_v (b := v8) rfl (fun hc19 => ?_) (fun hc19 => ?_)
        · replace h7651 := cond_t hc19 h7651
          refine WP.seq_k (fun K7664 hK7664 => Wr Tt_ok rfl (R_assign rfl (Pn rfl (hK7664 _ _ _ (WP.ret ?_)))))
          have e_ := Option.some.inj h7651
          subst e_
          replace hb7635 := osum_r hb7635
          have e_ := Option.some.inj hb7635
          subst e_
          have hq_ := hq7635 _ rfl
          subst hq_
          replace h := osum_r h
          have e_ := Option.some.inj h
          subst e_
          refine S_tmp rfl (S_nil (Upd.selS [] 5 ?_))
          exact Upd.done (hR _ (Gh.le.trans hm7499 (Gh.le.trans hm_2 (Gh.le.trans hm7513 (Gh.le.trans hm7635 (hm7655))))))
        replace h7651 := cond_f hc19 h7651
        refine WP.skip (hK7653 _ _ _ (WP.seq_k (fun K7665 hK7665 => WP.seq_k (fun K7666 hK7666 => Wr Tt_ok rfl (R_fa0 (o' := 1) rfl rfl rfl rfl rfl rfl (Pc rfl rfl (R_load rfl rfl rfl (Ex.mk _ (Cell.seg 1 0 rfl rfl rfl) (Pc rfl rfl (R_move rfl (P_some rfl ?_)))))))))))
        apply O_cons
        obtain ⟨l1, hs1, h7651⟩ := obind h7651
        refine O_read rfl (R_slHiS rfl rfl rfl rfl rfl rfl hl4.1 hs1 ?_)
        have hA8 := ArrR.pre hA4 hs1
        have hl5 := preLen hl4 hs1
        refine Pc rfl rfl (R_lenS rfl rfl rfl (Pc rfl rfl (R_move rfl (Pn rfl (hK7666 _ _ _ ?_)))))
        obtain ⟨o7668, h7668, h7651⟩ := obind h7651
        refine WP.cutK (fun fr_ μ_ L_ => (.inl ()) = o7668 ∧ SubFr [(2, .pointer (some ⟨g1, 0, none⟩)), (3, .pointer (some ⟨g2, 0, none⟩)), (5, .slice A5 r3.length c5), (8, .pointer (some ⟨g3, 0, none⟩)), (9, .pointer (some ⟨g4, 0, none⟩)), (10, .int .i64 v7), (99, .slice A4 t1.Stops.length c4), (100, .int .i64 ((t1.Stops.length : Nat) : Int)), (101, .int .i64 v7)] fr_ ∧ SegSub ([(g1, .cells #[.int .i64 p1.Road.Nodes, .slice A1 p1.Road.Edges.length c1, .slice A2 p1.Vehicles.length c2, .slice A3 p1.Demands.length c3, .int .i64 p1.Unload, .int .i64 p1.UnloadSecs] 28 (0, 0))] :: [(g2, .cells #[.int .i64 t1.Vehicle, .slice A4 t1.Stops.length c4] 35 (0, 0))] :: ch1 :: [(g3, .cells #[.string x1.ID, .int .i64 x1.Depot, .int .i64 x1.Shift.From, .int .i64 x1.Shift.To, .int .i64 x1.Grams, .int .i64 x1.Kinds] 46 (0, 0))] :: [(g4, .cells #[.int .i64 f1, .int .i64 f2, .int .i64 f3, .int .i64 f4, .int .i64 f5, .int .i64 f6] 48 (0, 0))] :: L) L_) ?_ ?_
        · refine WP.block (WP.iter h7668 (fun (v9 : Int) fr_ μ_ L_ => SubFr [(2, .pointer (some ⟨g1, 0, none⟩)), (3, .pointer (some ⟨g2, 0, none⟩)), (5, .slice A5 r3.length c5), (8, .pointer (some ⟨g3, 0, none⟩)), (9, .pointer (some ⟨g4, 0, none⟩)), (10, .int .i64 v7), (11, .int .i64 x2), (99, .slice A4 t1.Stops.length c4), (100, .int .i64 ((t1.Stops.length : Nat) : Int)), (101, .int .i64 v7), (130, .slice A4 l1.length c4), (131, .int .i64 ((l1.length : Nat) : Int)), (132, .int .i64 v9)] fr_ ∧ SegSub ([(g1, .cells #[.int .i64 p1.Road.Nodes, .slice A1 p1.Road.Edges.length c1, .slice A2 p1.Vehicles.length c2, .slice A3 p1.Demands.length c3, .int .i64 p1.Unload, .int .i64 p1.UnloadSecs] 28 (0, 0))] :: [(g2, .cells #[.int .i64 t1.Vehicle, .slice A4 t1.Stops.length c4] 35 (0, 0))] :: ch1 :: [(g3, .cells #[.string x1.ID, .int .i64 x1.Depot, .int .i64 x1.Shift.From, .int .i64 x1.Shift.To, .int .i64 x1.Grams, .int .i64 x1.Kinds] 46 (0, 0))] :: [(g4, .cells #[.int .i64 f1, .int .i64 f2, .int .i64 f3, .int .i64 f4, .int .i64 f5, .int .i64 f6] 48 (0, 0))] :: L) L_) ⟨SubFr.of ⟨rfl, rfl, rfl, rfl, rfl, rfl, rfl, rfl, rfl, rfl, rfl, rfl, rfl, trivial⟩, SegSub.sel _ [some 0, some 1, some 2, some 3, some 4] 5⟩ ?_)
          rintro v9 q7697 fr7697 μ7697 L7697 hm7697 ⟨hF7697, hS7697⟩ hb7697 hq7697
          unfold recyclinglaw22_TourWalk_l1 at hb7697
          replace hA1 := hA1.mono hm7697
          replace hA2 := hA2.mono hm7697
          replace hA3 := hA3.mono hm7697
          replace hA4 := hA4.mono hm7697
          replace hO1 := hO1.mono hm7697
          replace hc13 := hc13.lift hm7697
          replace hc15 := hc15.lift hm7697
          replace hA8 := hA8.mono hm7697
          refine WP.at hF7697 hS7697 (WP.seq_k (fun K7710 hK7710 => Wr Tt_ok rfl (R_lssD rfl rfl (Pn rfl (hK7710 _ _ _ (WP.seq_k (fun K7711 hK7711 => ?_)))))))
          refine W_cond_v (b := (decide (v9 < ((l1.length : Nat) : Int)))) rfl (fun hc20 => ?_) (fun hc20 => ?_)
          · replace hb7697 := cond_t hc20 hb7697
            refine WP.skip (hK7711 _ _ _ (WP.seq_k (fun K7712 hK7712 => WP.block (WP.seq_k (fun K7713 hK7713 => WP.region Tt_ok (O_cons ?_))))))
            obtain ⟨x4, hx10, hb7697⟩ := obind hb7697
            obtain ⟨a4, cs4, hA9, hr4, _, hc21⟩ := Rds.getI (ArrR.rds hA8 L) hx10
            obtain rfl := hr4
            refine O_read rfl (R_iaG rfl rfl rfl rfl rfl rfl ⟨(getI_lt hx10).1, (getI_lt hx10).2.1⟩ hA9 (Pc rfl rfl (R_load rfl rfl rfl (Ex.mk _ (Cell.of_cells0 (hc21.push.push.push.push.push) rfl) (Pc rfl rfl (R_assign rfl (Pn rfl (hK7713 _ _ _ (WP.seq_k (fun K7714 hK7714 => ?_))))))))))
            obtain ⟨o7715, h7715, hb7697⟩ := obind hb7697
            refine WP.cutK (fun fr_ μ_ L_ => ∃ (v10 : Bool), v10 = o7715 ∧ SubFr [(2, .pointer (some ⟨g1, 0, none⟩)), (3, .pointer (some ⟨g2, 0, none⟩)), (5, .slice A5 r3.length c5), (8, .pointer (some ⟨g3, 0, none⟩)), (9, .pointer (some ⟨g4, 0, none⟩)), (10, .int .i64 v7), (11, .int .i64 x2), (99, .slice A4 t1.Stops.length c4), (100, .int .i64 ((t1.Stops.length : Nat) : Int)), (101, .int .i64 v7), (130, .slice A4 l1.length c4), (131, .int .i64 ((l1.length : Nat) : Int)), (132, .int .i64 v9), (142, .bool v10)] fr_ ∧ SegSub ([(g1, .cells #[.int .i64 p1.Road.Nodes, .slice A1 p1.Road.Edges.length c1, .slice A2 p1.Vehicles.length c2, .slice A3 p1.Demands.length c3, .int .i64 p1.Unload, .int .i64 p1.UnloadSecs] 28 (0, 0))] :: [(g2, .cells #[.int .i64 t1.Vehicle, .slice A4 t1.Stops.length c4] 35 (0, 0))] :: ch1 :: [(g3, .cells #[.string x1.ID, .int .i64 x1.Depot, .int .i64 x1.Shift.From, .int .i64 x1.Shift.To, .int .i64 x1.Grams, .int .i64 x1.Kinds] 46 (0, 0))] :: [(g4, .cells #[.int .i64 f1, .int .i64 f2, .int .i64 f3, .int .i64 f4, .int .i64 f5, .int .i64 f6] 48 (0, 0))] :: L) L_) ?_ ?_
            · refine Wr Tt_ok rfl (R_move rfl (Pc rfl rfl (R_geqD rfl rfl (Pc rfl rfl (R_move rfl (P_some rfl ?_))))))
              refine O_gv (z := (decide (0 ≤ x2))) rfl rfl (fun hc22 => ?_) (fun hc22 => ?_)
              · replace h7715 := cond_t hc22 h7715
                refine O_read rfl (R_move rfl (P_some rfl (O_gY rfl rfl hc22 (O_read rfl (R_move rfl (P_some rfl (O_gY rfl rfl hc22 (O_read rfl (R_eqlD rfl rfl (Pc rfl rfl (R_pick_T rfl hc22 rfl (Pn rfl ?_))))))))))))
                have e_ := Option.some.inj h7715
                subst e_
                exact ⟨(decide (x4 = x2)), rfl, SubFr.of ⟨rfl, rfl, rfl, rfl, rfl, rfl, rfl, rfl, rfl, rfl, rfl, rfl, rfl, rfl, trivial⟩, SegSub.sel _ [some 0, some 1, some 2, some 3, some 4] 5⟩
              replace h7715 := cond_f hc22 h7715
              refine P_some rfl (O_gN rfl rfl hc22 (P_some rfl (O_gN rfl rfl hc22 (Pc rfl rfl (R_pick_F rfl hc22 rfl (Pn rfl ?_))))))
              have e_ := Option.some.inj h7715
              subst e_
              exact ⟨false, rfl, SubFr.of ⟨rfl, rfl, rfl, rfl, rfl, rfl, rfl, rfl, rfl, rfl, rfl, rfl, rfl, rfl, trivial⟩, SegSub.sel _ [some 0, some 1, some 2, some 3, some 4] 5⟩
            rintro fr7715 μ7715 L7715 hm7715 ⟨v10, ho7715, hF7715, hS7715⟩
            subst ho7715
            replace hA1 := hA1.mono hm7715
            replace hA2 := hA2.mono hm7715
            replace hA3 := hA3.mono hm7715
            replace hA4 := hA4.mono hm7715
            replace hO1 := hO1.mono hm7715
            replace hc13 := hc13.lift hm7715
            replace hc15 := hc15.lift hm7715
            replace hA8 := hA8.mono hm7715
            replace hc21 := hc21.lift hm7715
            refine hK7714 _ _ _ (WP.at hF7715 hS7715 ?_)
            refine W_cond_v (b := v10) rfl (fun hc23 => ?_) (fun hc23 => ?_)
            · replace hb7697 := cond_t hc23 hb7697
              refine WP.seq_k (fun K7724 hK7724 => Wr Tt_ok rfl (R_assign rfl (Pn rfl (hK7724 _ _ _ (WP.ret ?_)))))
              have e_ := Option.some.inj hb7697
              subst e_
              have hq_ := hq7697 _ rfl
              subst hq_
              replace h7651 := osum_r h7651
              have e_ := Option.some.inj h7651
              subst e_
              replace hb7635 := osum_r hb7635
              have e_ := Option.some.inj hb7635
              subst e_
              have hq_ := hq7635 _ rfl
              subst hq_
              replace h := osum_r h
              have e_ := Option.some.inj h
              subst e_
              refine S_tmp rfl (S_nil (Upd.selS [] 5 ?_))
              exact Upd.done (hR _ (Gh.le.trans hm7499 (Gh.le.trans hm_2 (Gh.le.trans hm7513 (Gh.le.trans hm7635 (Gh.le.trans hm7655 (Gh.le.trans hm7697 (hm7715))))))))
            replace hb7697 := cond_f hc23 hb7697
            refine WP.skip (hK7712 _ _ _ (Wr Tt_ok rfl (R_add rfl rfl (Pc rfl rfl (R_move rfl (Pn rfl ?_))))))
            have e_ := Option.some.inj hb7697
            subst e_
            exact ⟨_, rfl, SubFr.of ⟨rfl, rfl, rfl, rfl, rfl, rfl, rfl, rfl, rfl, rfl, rfl, rfl, rfl, trivial⟩, SegSub.sel _ [some 0, some 1, some 2, some 3, some 4] 5⟩
          replace hb7697 := cond_f hc20 hb7697
          refine WP.exit (B_here ?_)
          have e_ := Option.some.inj hb7697
          subst e_
          have hq_ := hq7697 _ rfl
          subst hq_
          exact ⟨rfl, SubFr.of ⟨rfl, rfl, rfl, rfl, rfl, rfl, rfl, rfl, rfl, trivial⟩, SegSub.sel _ [some 0, some 1, some 2, some 3, some 4] 5⟩
        rintro fr7668 μ7668 L7668 hm7668 ⟨ho7668, hF7668, hS7668⟩
        subst ho7668
        replace h7651 := osum_l h7651
        replace hA1 := hA1.mono hm7668
        replace hA2 := hA2.mono hm7668
        replace hA3 := hA3.mono hm7668
        replace hA4 := hA4.mono hm7668
        replace hO1 := hO1.mono hm7668
        replace hc13 := hc13.lift hm7668
        replace hc15 := hc15.lift hm7668
        replace hA8 := hA8.mono hm7668
        refine hK7665 _ _ _ (WP.at hF7668 hS7668 (Wr Tt_ok rfl (R_move rfl (Pc rfl rfl (R_move rfl (P_some rfl (O_cons ?_)))))))
        obtain ⟨x5, hx11, h7651⟩ := obind h7651
        obtain ⟨a5, cs5, hA10, hr5, _, hc24⟩ := Rds.getI (Own.rds (L := ([(g1, .cells #[.int .i64 p1.Road.Nodes, .slice A1 p1.Road.Edges.length c1, .slice A2 p1.Vehicles.length c2, .slice A3 p1.Demands.length c3, .int .i64 p1.Unload, .int .i64 p1.UnloadSecs] 28 (0, 0))] :: [(g2, .cells #[.int .i64 t1.Vehicle, .slice A4 t1.Stops.length c4] 35 (0, 0))] :: ch1 :: [(g3, .cells #[.string x1.ID, .int .i64 x1.Depot, .int .i64 x1.Shift.From, .int .i64 x1.Shift.To, .int .i64 x1.Grams, .int .i64 x1.Kinds] 46 (0, 0))] :: [(g4, .cells #[.int .i64 f1, .int .i64 f2, .int .i64 f3, .int .i64 f4, .int .i64 f5, .int .i64 f6] 48 (0, 0))] :: L)) hO1 2 rfl) hx11
        obtain rfl := hr5
        refine O_read rfl (R_iaG rfl rfl rfl rfl rfl rfl ⟨(getI_lt hx11).1, (getI_lt hx11).2.1⟩ hA10 (Pc rfl rfl (R_loadA rfl rfl rfl rfl (Ex.mk [.int .i64 x5.Stop, .int .i64 x5.Node, .int .i64 x5.Arrive, .int .i64 x5.Start, .int .i64 x5.Leave, .int .i64 x5.Load] ⟨rfl, hc24⟩ (P_some rfl (O_cons (O_store (vs := [.int .i64 x5.Stop, .int .i64 x5.Node, .int .i64 x5.Arrive, .int .i64 x5.Start, .int .i64 x5.Leave, .int .i64 x5.Load]) rfl rfl rfl rfl rfl rfl (ST_ (L' := ([(g1, .cells #[.int .i64 p1.Road.Nodes, .slice A1 p1.Road.Edges.length c1, .slice A2 p1.Vehicles.length c2, .slice A3 p1.Demands.length c3, .int .i64 p1.Unload, .int .i64 p1.UnloadSecs] 28 (0, 0))] :: [(g2, .cells #[.int .i64 t1.Vehicle, .slice A4 t1.Stops.length c4] 35 (0, 0))] :: ch1 :: [(g3, .cells #[.string x1.ID, .int .i64 x1.Depot, .int .i64 x1.Shift.From, .int .i64 x1.Shift.To, .int .i64 x1.Grams, .int .i64 x1.Kinds] 46 (0, 0))] :: [(g4, .cells #[.int .i64 x5.Stop, .int .i64 x5.Node, .int .i64 x5.Arrive, .int .i64 x5.Start, .int .i64 x5.Leave, .int .i64 x5.Load] 48 (0, 0))] :: L)) 4 0 rfl rfl rfl rfl ?_))))))))
        refine P_none (O_nil ?_)
        have e_ := Option.some.inj h7651
        subst e_
        exact ⟨x5.Stop, x5.Node, x5.Arrive, x5.Start, x5.Leave, x5.Load, rfl, SubFr.of ⟨rfl, rfl, rfl, rfl, rfl, rfl, rfl, rfl, trivial⟩, SegSub.sel _ [some 0, some 1, some 2, some 3, some 4] 5⟩
      rintro fr7651 μ7651 L7651 hm7651 ⟨f7, f8, f9, f10, f11, f12, ho7651, hF7651, hS7651⟩
      subst ho7651
      replace hb7635 := osum_l hb7635
      replace hb7635 := oun_mk hb7635
      replace hb7635 := oun_mk hb7635
      replace hb7635 := oun_mk hb7635
      replace hb7635 := oun_mk hb7635
      replace hb7635 := oun_mk hb7635
      replace hA1 := hA1.mono hm7651
      replace hA2 := hA2.mono hm7651
      replace hA3 := hA3.mono hm7651
      replace hA4 := hA4.mono hm7651
      replace hO1 := hO1.mono hm7651
      replace hc13 := hc13.lift hm7651
      refine hK7650 _ _ _ (WP.at hF7651 hS7651 (Wr Tt_ok rfl (R_add rfl rfl (Pc rfl rfl (R_move rfl (Pn rfl ?_))))))
      have e_ := Option.some.inj hb7635
      subst e_
      exact ⟨_, rfl, SubFr.of ⟨rfl, rfl, rfl, rfl, rfl, rfl, rfl, rfl, trivial⟩, SegSub.sel _ [some 0, some 1, some 2, some 3, some 4] 5⟩
    replace hb7635 := cond_f hc14 hb7635
    refine WP.exit (B_here ?_)
    have e_ := Option.some.inj hb7635
    subst e_
    have hq_ := hq7635 _ rfl
    subst hq_
    exact ⟨f1, f2, f3, f4, f5, f6, rfl, SubFr.of ⟨rfl, rfl, rfl, rfl, trivial⟩, SegSub.sel _ [some 0, some 2, some 3, some 4] 5⟩
  rintro fr7527 μ7527 L7527 hm7527 ⟨f13, f14, f15, f16, f17, f18, ho7527, hF7527, hS7527⟩
  subst ho7527
  replace h := osum_l h
  replace h := oun_mk h
  replace h := oun_mk h
  replace h := oun_mk h
  replace h := oun_mk h
  replace h := oun_mk h
  replace hA1 := hA1.mono hm7527
  replace hA2 := hA2.mono hm7527
  replace hA3 := hA3.mono hm7527
  replace hA4 := hA4.mono hm7527
  replace hO1 := hO1.mono hm7527
  replace hc13 := hc13.lift hm7527
  refine hK7525 _ _ _ (WP.at hF7527 hS7527 (WP.seq_k (fun K7748 hK7748 => Wr Tt_ok rfl (R_loadA rfl rfl rfl rfl (LA_ (vs := [.int .i64 p1.Road.Nodes, .slice A1 p1.Road.Edges.length c1, .slice A2 p1.Vehicles.length c2, .slice A3 p1.Demands.length c3, .int .i64 p1.Unload, .int .i64 p1.UnloadSecs]) 0 0 rfl rfl rfl rfl (Pc rfl rfl (R_fa0 (o' := 1) rfl rfl rfl rfl rfl rfl (Pc rfl rfl (R_load rfl rfl rfl (Ex.mk _ (Cell.seg 3 0 rfl rfl rfl) (P_some rfl ?_)))))))))))
  refine O_cons (O_read rfl (R_fa0 (o' := 1) rfl rfl rfl rfl rfl rfl (Pc rfl rfl (R_load rfl rfl rfl (Ex.mk _ (Cell.seg 2 0 rfl rfl rfl) (P_some rfl (O_cons (O_call (all := [.agg #[.int .i64 p1.Road.Nodes, .slice A1 p1.Road.Edges.length c1, .slice A2 p1.Vehicles.length c2, .slice A3 p1.Demands.length c3, .int .i64 p1.Unload, .int .i64 p1.UnloadSecs], .int .i64 f14, .int .i64 x1.Depot]) rfl rfl rfl ?_))))))))
  obtain ⟨r9, hx12, h⟩ := obind h
  refine recyclingref22_Leg_fn hl1 hA1 hl2 hA2 hl3 hA3 hx12 ((P_some rfl (O_cons (O_alloc (cs := #[.int .i64 0, .int .i64 0]) rfl rfl (fun g5 => P_some rfl (O_cons (O_store (vs := [.int .i64 r9.Secs, .int .i64 r9.Meters]) rfl rfl rfl rfl rfl rfl (ST_ (L' := ([(g5, .cells #[.int .i64 r9.Secs, .int .i64 r9.Meters] 51 (0, 0))] :: [(g1, .cells #[.int .i64 p1.Road.Nodes, .slice A1 p1.Road.Edges.length c1, .slice A2 p1.Vehicles.length c2, .slice A3 p1.Demands.length c3, .int .i64 p1.Unload, .int .i64 p1.UnloadSecs] 28 (0, 0))] :: ch1 :: [(g3, .cells #[.string x1.ID, .int .i64 x1.Depot, .int .i64 x1.Shift.From, .int .i64 x1.Shift.To, .int .i64 x1.Grams, .int .i64 x1.Kinds] 46 (0, 0))] :: [(g4, .cells #[.int .i64 f13, .int .i64 f14, .int .i64 f15, .int .i64 f16, .int .i64 f17, .int .i64 f18] 48 (0, 0))] :: L)) 0 0 rfl rfl rfl rfl ?_))))))))
  refine P_none (O_nil (hK7748 _ _ _ (WP.seq_k (fun K7751 hK7751 => Wr Tt_ok rfl (R_move rfl (Pc rfl rfl (R_move rfl (Pc rfl rfl (R_lenS rfl rfl rfl (P_some rfl (O_cons ?_)))))))))))
  refine O_read rfl (R_sub rfl rfl (P_some rfl (O_cons ?_)))
  obtain ⟨x6, hx13, h⟩ := obind h
  obtain ⟨a6, cs6, hA11, hr6, _, hc25⟩ := Rds.getI (Own.rds (L := ([(g5, .cells #[.int .i64 r9.Secs, .int .i64 r9.Meters] 51 (0, 0))] :: [(g1, .cells #[.int .i64 p1.Road.Nodes, .slice A1 p1.Road.Edges.length c1, .slice A2 p1.Vehicles.length c2, .slice A3 p1.Demands.length c3, .int .i64 p1.Unload, .int .i64 p1.UnloadSecs] 28 (0, 0))] :: ch1 :: [(g3, .cells #[.string x1.ID, .int .i64 x1.Depot, .int .i64 x1.Shift.From, .int .i64 x1.Shift.To, .int .i64 x1.Grams, .int .i64 x1.Kinds] 46 (0, 0))] :: [(g4, .cells #[.int .i64 f13, .int .i64 f14, .int .i64 f15, .int .i64 f16, .int .i64 f17, .int .i64 f18] 48 (0, 0))] :: L)) hO1 2 rfl) hx13
  obtain rfl := hr6
  refine O_read rfl (R_iaG rfl rfl rfl rfl rfl rfl ⟨(getI_lt hx13).1, (getI_lt hx13).2.1⟩ hA11 (Pc rfl rfl (R_loadA rfl rfl rfl rfl (Ex.mk [.int .i64 x6.Stop, .int .i64 x6.Node, .int .i64 x6.Arrive, .int .i64 x6.Start, .int .i64 x6.Leave, .int .i64 x6.Load] ⟨rfl, hc25⟩ (P_some rfl (O_cons (O_alloc (cs := #[.int .i64 0, .int .i64 0, .int .i64 0, .int .i64 0, .int .i64 0, .int .i64 0]) rfl rfl (fun g6 => P_some rfl (O_cons (O_store (vs := [.int .i64 x6.Stop, .int .i64 x6.Node, .int .i64 x6.Arrive, .int .i64 x6.Start, .int .i64 x6.Leave, .int .i64 x6.Load]) rfl rfl rfl rfl rfl rfl (ST_ (L' := ([(g6, .cells #[.int .i64 x6.Stop, .int .i64 x6.Node, .int .i64 x6.Arrive, .int .i64 x6.Start, .int .i64 x6.Leave, .int .i64 x6.Load] 48 (0, 0))] :: [(g5, .cells #[.int .i64 r9.Secs, .int .i64 r9.Meters] 51 (0, 0))] :: [(g1, .cells #[.int .i64 p1.Road.Nodes, .slice A1 p1.Road.Edges.length c1, .slice A2 p1.Vehicles.length c2, .slice A3 p1.Demands.length c3, .int .i64 p1.Unload, .int .i64 p1.UnloadSecs] 28 (0, 0))] :: ch1 :: [(g3, .cells #[.string x1.ID, .int .i64 x1.Depot, .int .i64 x1.Shift.From, .int .i64 x1.Shift.To, .int .i64 x1.Grams, .int .i64 x1.Kinds] 46 (0, 0))] :: [(g4, .cells #[.int .i64 f13, .int .i64 f14, .int .i64 f15, .int .i64 f16, .int .i64 f17, .int .i64 f18] 48 (0, 0))] :: L)) 0 0 rfl rfl rfl rfl ?_)))))))))))
  refine P_none (O_nil (hK7751 _ _ _ (WP.seq_k (fun K7754 hK7754 => ?_))))
  obtain ⟨o7755, h7755, h⟩ := obind h
  refine WP.cutK (fun fr_ μ_ L_ => ∃ (v12 : Bool), v12 = o7755 ∧ SubFr [(4, .bool v12)] fr_ ∧ SegSub (L) L_) ?_ ?_
  · refine Wr Tt_ok rfl (R_fa0 (o' := 0) rfl rfl rfl rfl rfl rfl (Pc rfl rfl (R_load rfl rfl rfl (Ex.mk _ (Cell.seg 1 0 rfl rfl rfl) (Pc rfl rfl (R_geqD rfl rfl (Pc rfl rfl (R_move rfl (P_some rfl ?_)))))))))
    refine O_gv (z := (decide (0 ≤ r9.Secs))) rfl rfl (fun hc26 => ?_) (fun hc26 => ?_)
    · replace h7755 := cond_t hc26 h7755
      refine O_read rfl (R_fa0 (o' := 5) rfl rfl rfl rfl rfl rfl (P_some rfl (O_gY rfl rfl hc26 (O_read rfl (R_load rfl rfl rfl (Ex.mk _ (Cell.seg 5 0 rfl rfl rfl) (P_some rfl (O_gY rfl rfl hc26 (O_read rfl (R_eqlD rfl rfl (Pc rfl rfl (R_pick_T rfl hc26 rfl (Pc rfl rfl ?_)))))))))))))
      refine R_move rfl (P_some rfl ?_)
      refine O_gv (z := (decide (f18 = 0))) rfl rfl (fun hc27 => ?_) (fun hc27 => ?_)
      · replace h7755 := cond_t hc27 h7755
        refine O_read rfl (R_fa0 (o' := 2) rfl rfl rfl rfl rfl rfl (P_some rfl (O_gY rfl rfl hc27 (O_read rfl (R_load rfl rfl rfl (Ex.mk _ (Cell.seg 0 0 rfl rfl rfl) (P_some rfl (O_gY rfl rfl hc27 (O_read rfl (R_fa0 (o' := 4) rfl rfl rfl rfl rfl rfl (P_some rfl (O_gY rfl rfl hc27 (O_read rfl (R_load rfl rfl rfl (Ex.mk _ (Cell.seg 5 0 rfl rfl rfl) (P_some rfl (O_gY rfl rfl hc27 ?_)))))))))))))))))
        refine O_read rfl (R_fa0 (o' := 0) rfl rfl rfl rfl rfl rfl (P_some rfl (O_gY rfl rfl hc27 (O_read rfl (R_load rfl rfl rfl (Ex.mk _ (Cell.seg 1 0 rfl rfl rfl) (P_some rfl (O_gY rfl rfl hc27 (O_read rfl (R_add rfl rfl (P_some rfl (O_gY rfl rfl hc27 (O_read rfl (R_eqlD rfl rfl (Pc rfl rfl ?_)))))))))))))))
        refine R_pick_T rfl hc27 rfl (Pc rfl rfl (R_move rfl (P_some rfl ?_)))
        refine O_gv (z := (decide (x6.Arrive = (w64 (f17 + r9.Secs))))) rfl rfl (fun hc28 => ?_) (fun hc28 => ?_)
        · replace h7755 := cond_t hc28 h7755
          refine O_read rfl (R_fa0 (o' := 2) rfl rfl rfl rfl rfl rfl (P_some rfl (O_gY rfl rfl hc28 (O_read rfl (R_load rfl rfl rfl (Ex.mk _ (Cell.seg 0 0 rfl rfl rfl) (P_some rfl (O_gY rfl rfl hc28 (O_read rfl (R_fa0 (o' := 2) rfl rfl rfl rfl rfl rfl (P_some rfl (O_gY rfl rfl hc28 (O_read rfl (R_fa0 (o' := 3) rfl rfl rfl rfl rfl rfl (P_some rfl (O_gY rfl rfl hc28 (O_read rfl ?_)))))))))))))))))
          refine R_load rfl rfl rfl (Ex.mk _ (Cell.seg 4 0 rfl rfl rfl) (P_some rfl (O_gY rfl rfl hc28 (O_read rfl (R_lssD rfl rfl (Pc rfl rfl (R_pick_T rfl hc28 rfl (Pc rfl rfl (R_move rfl (P_some rfl ?_))))))))))
          refine O_gv (z := (decide (x6.Arrive < x1.Shift.To))) rfl rfl (fun hc29 => ?_) (fun hc29 => ?_)
          · replace h7755 := cond_t hc29 h7755
            refine O_read rfl (R_loadA rfl rfl rfl rfl (LA_ (vs := [.int .i64 x6.Stop, .int .i64 x6.Node, .int .i64 x6.Arrive, .int .i64 x6.Start, .int .i64 x6.Leave, .int .i64 x6.Load]) 0 0 rfl rfl rfl rfl (P_some rfl (O_gY rfl rfl hc29 (O_read rfl (R_fa0 (o' := 1) rfl rfl rfl rfl rfl rfl (P_some rfl (O_gY rfl rfl hc29 (O_read rfl (R_load rfl rfl rfl (Ex.mk _ (Cell.seg 4 0 rfl rfl rfl) (P_some rfl (O_gY rfl rfl hc29 (O_read rfl (R_fa0 (o' := 2) rfl rfl rfl rfl rfl rfl (P_some rfl (O_gY rfl rfl hc29 ?_)))))))))))))))))
            refine O_read rfl (R_load rfl rfl rfl (Ex.mk _ (Cell.seg 0 0 rfl rfl rfl) (P_some rfl (O_gY rfl rfl hc29 (O_read rfl (R_fa0 (o' := 2) rfl rfl rfl rfl rfl rfl (P_some rfl (O_gY rfl rfl hc29 (O_read rfl (R_load rfl rfl rfl (Ex.mk _ (Cell.seg 0 0 rfl rfl rfl) (P_some rfl (O_gY rfl rfl hc29 (O_read rfl (R_fa0 (o' := 2) rfl rfl rfl rfl rfl rfl (P_some rfl (O_gY rfl rfl hc29 ?_)))))))))))))))))
            refine O_read rfl (R_load rfl rfl rfl (Ex.mk _ (Cell.seg 0 0 rfl rfl rfl) (P_some rfl (O_gY rfl rfl hc29 (O_read rfl (R_build rfl rfl rfl rfl (F_cons (cells' := [.int .i64 (-2), .int .i64 0, .int .i64 0, .int .i64 0, .int .i64 0, .int .i64 0]) rfl rfl rfl rfl (F_cons (cells' := [.int .i64 (-2), .int .i64 x1.Depot, .int .i64 0, .int .i64 0, .int .i64 0, .int .i64 0]) rfl rfl rfl rfl (F_cons (cells' := [.int .i64 (-2), .int .i64 x1.Depot, .int .i64 x6.Arrive, .int .i64 0, .int .i64 0, .int .i64 0]) rfl rfl rfl rfl (F_cons (cells' := [.int .i64 (-2), .int .i64 x1.Depot, .int .i64 x6.Arrive, .int .i64 x6.Arrive, .int .i64 0, .int .i64 0]) rfl rfl rfl rfl (F_cons (cells' := [.int .i64 (-2), .int .i64 x1.Depot, .int .i64 x6.Arrive, .int .i64 x6.Arrive, .int .i64 x6.Arrive, .int .i64 0]) rfl rfl rfl rfl (F_nil (P_some rfl ?_)))))))))))))
            refine O_gY rfl rfl hc29 (O_read rfl (R_agg rfl rfl (Ex.mk _ (eqRun_T_api_Visit x6 (T_api_Visit.mk (-2) x1.Depot x6.Arrive x6.Arrive x6.Arrive 0)) (Pc rfl rfl (R_pick_T rfl hc29 rfl (Pc rfl rfl (R_move rfl (P_some rfl ?_))))))))
            refine O_gv (z := (decide (x6 = (T_api_Visit.mk (-2) x1.Depot x6.Arrive x6.Arrive x6.Arrive 0)))) rfl rfl (fun hc30 => ?_) (fun hc30 => ?_)
            · replace h7755 := cond_t hc30 h7755
              apply O_call (all := []); exact rfl; exact rfl; exact rfl
              obtain ⟨r10, hx14, h7755⟩ := obind h7755
              refine recyclinglaw22_awake_fn  hx14 (fun v11 hm_4 => ?_)
              replace hA1 := hA1.mono hm_4
              replace hA2 := hA2.mono hm_4
              replace hA3 := hA3.mono hm_4
              replace hA4 := hA4.mono hm_4
              replace hO1 := hO1.mono hm_4
              replace hc13 := hc13.lift hm_4
              replace hc25 := hc25.lift hm_4
              refine Pc rfl rfl (R_pick_T rfl hc30 rfl (Pc rfl rfl (R_assign rfl (Pn rfl ?_))))
              have e_ := Option.some.inj h7755
              subst e_
              exact ⟨r10, rfl, SubFr.of ⟨rfl, trivial⟩, SegSub.sel _ [] 6⟩
            replace h7755 := cond_f hc30 h7755
            refine Pc rfl rfl (R_pick_F rfl hc30 rfl (Pc rfl rfl (R_assign rfl (Pn rfl ?_))))
            have e_ := Option.some.inj h7755
            subst e_
            exact ⟨false, rfl, SubFr.of ⟨rfl, trivial⟩, SegSub.sel _ [] 6⟩
          replace h7755 := cond_f hc29 h7755
          refine P_some rfl (O_gN rfl rfl hc29 (P_some rfl (O_gN rfl rfl hc29 (P_some rfl (O_gN rfl rfl hc29 (P_some rfl (O_gN rfl rfl hc29 (P_some rfl (O_gN rfl rfl hc29 (P_some rfl (O_gN rfl rfl hc29 (P_some rfl (O_gN rfl rfl hc29 (P_some rfl (O_gN rfl rfl hc29 (P_some rfl (O_gN rfl rfl hc29 ?_)))))))))))))))))
          refine P_some rfl (O_gN rfl rfl hc29 (Pc rfl rfl (R_pick_F rfl hc29 rfl (Pc rfl rfl (R_move rfl (P_some rfl (O_gN rfl rfl rfl (Pc rfl rfl (R_pick_F rfl rfl rfl (P_some rfl (O_cons ?_)))))))))))
          refine O_read rfl (R_assign rfl (Pn rfl ?_))
          have e_ := Option.some.inj h7755
          subst e_
          exact ⟨false, rfl, SubFr.of ⟨rfl, trivial⟩, SegSub.sel _ [] 6⟩
        replace h7755 := cond_f hc28 h7755
        refine P_some rfl (O_gN rfl rfl hc28 (P_some rfl (O_gN rfl rfl hc28 (P_some rfl (O_gN rfl rfl hc28 (P_some rfl (O_gN rfl rfl hc28 (P_some rfl (O_gN rfl rfl hc28 (Pc rfl rfl (R_pick_F rfl hc28 rfl (Pc rfl rfl (R_move rfl ?_)))))))))))))
        refine P_some rfl (O_gN rfl rfl rfl (P_some rfl (O_gN rfl rfl rfl (P_some rfl (O_gN rfl rfl rfl (P_some rfl (O_gN rfl rfl rfl (P_some rfl (O_gN rfl rfl rfl (P_some rfl (O_gN rfl rfl rfl (P_some rfl (O_gN rfl rfl rfl (P_some rfl (O_gN rfl rfl rfl (P_some rfl (O_gN rfl rfl rfl ?_)))))))))))))))))
        refine P_some rfl (O_gN rfl rfl rfl (P_some rfl (O_gN rfl rfl rfl (Pc rfl rfl (R_pick_F rfl rfl rfl (Pc rfl rfl (R_move rfl (P_some rfl (O_gN rfl rfl rfl (Pc rfl rfl (R_pick_F rfl rfl rfl ?_)))))))))))
        refine Pc rfl rfl (R_assign rfl (Pn rfl ?_))
        have e_ := Option.some.inj h7755
        subst e_
        exact ⟨false, rfl, SubFr.of ⟨rfl, trivial⟩, SegSub.sel _ [] 6⟩
      replace h7755 := cond_f hc27 h7755
      refine P_some rfl (O_gN rfl rfl hc27 (P_some rfl (O_gN rfl rfl hc27 (P_some rfl (O_gN rfl rfl hc27 (P_some rfl (O_gN rfl rfl hc27 (P_some rfl (O_gN rfl rfl hc27 (P_some rfl (O_gN rfl rfl hc27 (P_some rfl (O_gN rfl rfl hc27 (Pc rfl rfl (R_pick_F rfl hc27 rfl ?_)))))))))))))))
      refine Pc rfl rfl (R_move rfl (P_some rfl (O_gN rfl rfl rfl (P_some rfl (O_gN rfl rfl rfl (P_some rfl (O_gN rfl rfl rfl (P_some rfl (O_gN rfl rfl rfl (P_some rfl (O_gN rfl rfl rfl (P_some rfl (O_gN rfl rfl rfl (P_some rfl (O_cons ?_)))))))))))))))
      refine O_read rfl (R_pick_F rfl rfl rfl (Pc rfl rfl (R_move rfl (P_some rfl (O_gN rfl rfl rfl (P_some rfl (O_gN rfl rfl rfl (P_some rfl (O_gN rfl rfl rfl (P_some rfl (O_gN rfl rfl rfl (P_some rfl (O_gN rfl rfl rfl (P_some rfl (O_gN rfl rfl rfl ?_)))))))))))))))
      refine P_some rfl (O_gN rfl rfl rfl (P_some rfl (O_gN rfl rfl rfl (P_some rfl (O_gN rfl rfl rfl (P_some rfl (O_gN rfl rfl rfl (P_some rfl (O_gN rfl rfl rfl (Pc rfl rfl (R_pick_F rfl rfl rfl (Pc rfl rfl (R_move rfl ?_)))))))))))))
      refine P_some rfl (O_gN rfl rfl rfl (Pc rfl rfl (R_pick_F rfl rfl rfl (Pc rfl rfl (R_assign rfl (Pn rfl ?_))))))
      have e_ := Option.some.inj h7755
      subst e_
      exact ⟨false, rfl, SubFr.of ⟨rfl, trivial⟩, SegSub.sel _ [] 6⟩
    replace h7755 := cond_f hc26 h7755
    refine P_some rfl (O_gN rfl rfl hc26 (P_some rfl (O_gN rfl rfl hc26 (Pc rfl rfl (R_pick_F rfl hc26 rfl (Pc rfl rfl (R_move rfl (P_some rfl (O_gN rfl rfl rfl (P_some rfl (O_gN rfl rfl rfl (P_some rfl (O_gN rfl rfl rfl ?_)))))))))))))
    refine P_some rfl (O_gN rfl rfl rfl (P_some rfl (O_gN rfl rfl rfl (P_some rfl (O_gN rfl rfl rfl (P_some rfl (O_gN rfl rfl rfl (P_some rfl (O_gN rfl rfl rfl (Pc rfl rfl (R_pick_F rfl rfl rfl (Pc rfl rfl (R_move rfl ?_)))))))))))))
    refine P_some rfl (O_gN rfl rfl rfl (P_some rfl (O_gN rfl rfl rfl (P_some rfl (O_gN rfl rfl rfl (P_some rfl (O_gN rfl rfl rfl (P_some rfl (O_gN rfl rfl rfl (P_some rfl (O_gN rfl rfl rfl (Pc rfl rfl (R_pick_F rfl rfl rfl (P_some rfl (O_cons ?_)))))))))))))))
    refine O_read rfl (R_move rfl (P_some rfl (O_gN rfl rfl rfl (P_some rfl (O_gN rfl rfl rfl (P_some rfl (O_gN rfl rfl rfl (P_some rfl (O_gN rfl rfl rfl (P_some rfl (O_gN rfl rfl rfl (P_some rfl (O_gN rfl rfl rfl (P_some rfl (O_gN rfl rfl rfl (P_some rfl (O_gN rfl rfl rfl ?_)))))))))))))))))
    refine P_some rfl (O_gN rfl rfl rfl (P_some rfl (O_gN rfl rfl rfl (P_some rfl (O_gN rfl rfl rfl (Pc rfl rfl (R_pick_F rfl rfl rfl (Pc rfl rfl (R_move rfl (P_some rfl (O_gN rfl rfl rfl (P_some rfl (O_cons ?_)))))))))))))
    refine O_read rfl (R_pick_F rfl rfl rfl (Pc rfl rfl (R_assign rfl (Pn rfl ?_))))
    have e_ := Option.some.inj h7755
    subst e_
    exact ⟨false, rfl, SubFr.of ⟨rfl, trivial⟩, SegSub.sel _ [] 6⟩
  rintro fr7755 μ7755 L7755 hm7755 ⟨v12, ho7755, hF7755, hS7755⟩
  subst ho7755
  replace hA1 := hA1.mono hm7755
  replace hA2 := hA2.mono hm7755
  replace hA3 := hA3.mono hm7755
  replace hA4 := hA4.mono hm7755
  replace hO1 := hO1.mono hm7755
  replace hc13 := hc13.lift hm7755
  replace hc25 := hc25.lift hm7755
  refine hK7754 _ _ _ (WP.at hF7755 hS7755 (WP.ret ?_))
  have e_ := Option.some.inj h
  subst e_
  refine S_tmp rfl (S_nil (Upd.selS [] 0 ?_))
  exact Upd.done (hR _ (Gh.le.trans hm7499 (Gh.le.trans hm_2 (Gh.le.trans hm7513 (Gh.le.trans hm7527 (hm7755))))))

end Go.Proofs.Ytjbminmhndgiaaa
