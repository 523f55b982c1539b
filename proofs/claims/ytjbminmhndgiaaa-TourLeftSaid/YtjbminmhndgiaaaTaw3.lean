/- Printed by gen.py of this repo: the walks that tie the functions to their specifications. -/
import Derived.Test.YtjbminmhndgiaaaTt
import Derived.Test.YtjbminmhndgiaaaTas
import Derived.Test.YtjbminmhndgiaaaTaw1
import Derived.Test.YtjbminmhndgiaaaTaw2
namespace Go.Proofs.Ytjbminmhndgiaaa
open Go.RowKit
set_option linter.unusedSimpArgs false
set_option linter.unusedVariables false
attribute [local irreducible] WP SemOk SemU Fn AN Upd vcR vcO vcOps vcPlan putK fillK resK inBlk forkOne Cell StAt Kept

theorem tour_walk_back_fn {μ : Gh} {L : List Seg} {R : Value → Gh → List Seg → Prop} {F : Nat} {w1 : T_tour_walk} {pv1 : Value} {so1 : Seg} {res1 : Int} {res2 : T_tour_walk}
    (hP1 : Obj_tour_walk μ pv1 w1 so1) (h : tour_walk_back F w1 = some (res1, res2))
    (hR : ∀ (μ' : Gh) (sp0 : Seg), μ.le μ' → Obj_tour_walk μ' pv1 res2 sp0 → R (.int .i64 res1) μ' (sp0 :: L)) :
    Fn Try.prog 49 [pv1] μ (so1 :: L) R := by
  unfold tour_walk_back at h
  refine Fn.of_body Tt_ok Try.func49 (by kernel_rfl) rfl Try.ntmps49 (by simp) ?_
  simp only [Try.f49, argFr, List.zipIdx, List.map, Nat.reduceAdd]
  refine WP.seq_k (fun K4491 hK4491 => Wr Tt_ok rfl (R_assign rfl (Pn rfl (hK4491 _ _ _ (WP.seq_k (fun K4492 hK4492 => ?_))))))
  obtain ⟨g1, A1, c1, A2, c2, A3, c3, g2, es1, cn1, A4, c4, ch1, hv1, rfl, ⟨hl1, hA1⟩, ⟨hl2, hA2⟩, ⟨hl3, hA3⟩, hM1, hO1⟩ := hP1
  subst hv1
  refine WP.seg (L2 := ([(g1, .cells #[.int .i64 w1.place.node, .int .i64 w1.place.time, .int .i64 w1.place.load, .int .i64 w1.place.meters, .int .i64 w1.p.Road.Nodes, .slice A1 w1.p.Road.Edges.length c1, .slice A2 w1.p.Vehicles.length c2, .slice A3 w1.p.Demands.length c3, .int .i64 w1.p.Unload, .int .i64 w1.p.UnloadSecs, .string w1.v.ID, .int .i64 w1.v.Depot, .int .i64 w1.v.Shift.From, .int .i64 w1.v.Shift.To, .int .i64 w1.v.Grams, .int .i64 w1.v.Kinds, .map (some g2), .slice A4 w1.visits.length c4] 73 (0, 0))] :: [(g2, .map es1 cn1)] :: ch1 :: L)) (SegSub.flat (by simp)) (Wr Tt_ok rfl (R_move rfl (Pc rfl rfl (R_move rfl (Pc rfl rfl (R_nilP rfl (Pc rfl rfl (R_fa0 (o' := 10) rfl rfl rfl rfl rfl rfl (P_some rfl ?_)))))))))
  refine O_cons (O_read rfl (R_fa0 (o' := 11) rfl rfl rfl rfl rfl rfl (Pc rfl rfl (R_load rfl rfl rfl (Ex.mk _ (Cell.seg 0 0 rfl rfl rfl) (P_some rfl (O_cons (O_call (all := [.pointer (some ⟨g1, 0, none⟩), .int .i64 w1.v.Depot]) rfl rfl rfl ?_))))))))
  have hP2 : Obj_tour_walk μ (.pointer (some ⟨g1, 0, none⟩)) w1 ((g1, Obj.cells #[.int .i64 w1.place.node, .int .i64 w1.place.time, .int .i64 w1.place.load, .int .i64 w1.place.meters, .int .i64 w1.p.Road.Nodes, .slice A1 w1.p.Road.Edges.length c1, .slice A2 w1.p.Vehicles.length c2, .slice A3 w1.p.Demands.length c3, .int .i64 w1.p.Unload, .int .i64 w1.p.UnloadSecs, .string w1.v.ID, .int .i64 w1.v.Depot, .int .i64 w1.v.Shift.From, .int .i64 w1.v.Shift.To, .int .i64 w1.v.Grams, .int .i64 w1.v.Kinds, .map (some g2), .slice A4 w1.visits.length c4] 73 (0, 0)) :: ((g2, Obj.map es1 cn1) :: (ch1 ++ []))) := ⟨g1, A1, c1, A2, c2, A3, c3, g2, es1, cn1, A4, c4, ch1, rfl, rfl, ⟨hl1, hA1⟩, ⟨hl2, hA2⟩, ⟨hl3, hA3⟩, hM1, hO1⟩
  refine Fn.seg (L2 := (((g1, Obj.cells #[.int .i64 w1.place.node, .int .i64 w1.place.time, .int .i64 w1.place.load, .int .i64 w1.place.meters, .int .i64 w1.p.Road.Nodes, .slice A1 w1.p.Road.Edges.length c1, .slice A2 w1.p.Vehicles.length c2, .slice A3 w1.p.Demands.length c3, .int .i64 w1.p.Unload, .int .i64 w1.p.UnloadSecs, .string w1.v.ID, .int .i64 w1.v.Depot, .int .i64 w1.v.Shift.From, .int .i64 w1.v.Shift.To, .int .i64 w1.v.Grams, .int .i64 w1.v.Kinds, .map (some g2), .slice A4 w1.visits.length c4] 73 (0, 0)) :: ((g2, Obj.map es1 cn1) :: (ch1 ++ []))) :: L)) (SegSub.trans (SegSub.flat (by simp [selS])) (SegSub.sel _ [some 0, some 1, some 2] 3)) ?_
  obtain ⟨⟨r1, r2, r3⟩, hx1, h⟩ := obind h
  replace h := oun_mk h
  replace h := oun_mk h
  refine tour_walk_leg_fn hP2 hx1 (fun v1 so2 hm_1 hP3 => ?_)
  replace hA1 := hA1.mono hm_1
  replace hA2 := hA2.mono hm_1
  replace hA3 := hA3.mono hm_1
  replace hM1 := hM1.mono hm_1
  replace hO1 := hO1.mono hm_1
  replace hP2 := hP2.mono hm_1
  refine Pc rfl rfl (R_move rfl (Pc rfl rfl (R_ext rfl rfl (Pc rfl rfl (R_ext rfl rfl (P_some rfl (O_cons (O_alloc (cs := #[.int .i64 0, .int .i64 0]) rfl rfl (fun g3 => P_some rfl (O_cons (O_store (vs := [.int .i64 r1.Secs, .int .i64 r1.Meters]) rfl rfl rfl rfl rfl rfl ?_)))))))))))
  refine ST_ (L' := ([(g3, .cells #[.int .i64 r1.Secs, .int .i64 r1.Meters] 51 (0, 0))] :: so2 :: L)) 0 0 rfl rfl rfl rfl (P_none (O_cons (O_read rfl (R_assign rfl (Pn rfl (hK4492 _ _ _ (WP.seq_k (fun K4504 hK4504 => WP.seq_k (fun K4505 hK4505 => Wr Tt_ok rfl (R_move rfl (Pc rfl rfl (R_not rfl ?_))))))))))))
  refine Pn rfl (hK4505 _ _ _ ?_)
  refine W_cond_v (b := !r2) rfl (fun hc1 => ?_) (fun hc1 => ?_)
  · replace h := cond_t hc1 h
    refine WP.seq_k (fun K4506 hK4506 => Wr Tt_ok rfl (R_assign rfl (Pn rfl (hK4506 _ _ _ (WP.ret ?_)))))
    have e_ := Option.some.inj h
    obtain ⟨e0a_, e0b_⟩ := Prod.mk.inj e_
    clear e_
    subst e0a_
    subst e0b_
    refine S_tmp rfl (S_nil (Upd.selS [some 1] 2 ?_))
    exact Upd.done (hR _ so2 (hm_1) (hP3))
  replace h := cond_f hc1 h
  refine WP.skip (hK4504 _ _ _ (WP.seq_k (fun K4507 hK4507 => WP.seq_k (fun K4508 hK4508 => ?_))))
  obtain ⟨g4, A5, c5, A6, c6, A7, c7, g5, es2, cn2, A8, c8, ch2, hv2, rfl, ⟨hl4, hA4⟩, ⟨hl5, hA5⟩, ⟨hl6, hA6⟩, hM2, hO2⟩ := hP3
  replace hv2 := ptr_inj hv2
  subst hv2
  refine WP.seg (L2 := ([(g3, .cells #[.int .i64 r1.Secs, .int .i64 r1.Meters] 51 (0, 0))] :: [(g1, .cells #[.int .i64 r3.place.node, .int .i64 r3.place.time, .int .i64 r3.place.load, .int .i64 r3.place.meters, .int .i64 r3.p.Road.Nodes, .slice A5 r3.p.Road.Edges.length c5, .slice A6 r3.p.Vehicles.length c6, .slice A7 r3.p.Demands.length c7, .int .i64 r3.p.Unload, .int .i64 r3.p.UnloadSecs, .string r3.v.ID, .int .i64 r3.v.Depot, .int .i64 r3.v.Shift.From, .int .i64 r3.v.Shift.To, .int .i64 r3.v.Grams, .int .i64 r3.v.Kinds, .map (some g5), .slice A8 r3.visits.length c8] 73 (0, 0))] :: [(g5, .map es2 cn2)] :: ch2 :: L)) (SegSub.flat (by simp)) (Wr Tt_ok rfl (R_move rfl (Pc rfl rfl (R_nilP rfl (Pc rfl rfl (R_fa0 (o' := 0) rfl rfl rfl rfl rfl rfl (P_some rfl ?_)))))))
  refine O_cons (O_read rfl (R_fa0 (o' := 2) rfl rfl rfl rfl rfl rfl (Pc rfl rfl (R_load rfl rfl rfl (Ex.mk _ (Cell.seg 1 0 rfl rfl rfl) (Pc rfl rfl (R_neqD rfl rfl (Pn rfl (hK4508 _ _ _ ?_)))))))))
  refine W_cond_v (b := !(decide (r3.place.load = 0))) rfl (fun hc2 => ?_) (fun hc2 => ?_)
  · replace h := cond_t hc2 h
    refine WP.seq_k (fun K4517 hK4517 => Wr Tt_ok rfl (R_assign rfl (Pn rfl (hK4517 _ _ _ (WP.ret ?_)))))
    have e_ := Option.some.inj h
    obtain ⟨e0a_, e0b_⟩ := Prod.mk.inj e_
    clear e_
    subst e0a_
    subst e0b_
    refine S_tmp rfl (S_nil (Upd.seg (L2 := (((g1, Obj.cells #[.int .i64 r3.place.node, .int .i64 r3.place.time, .int .i64 r3.place.load, .int .i64 r3.place.meters, .int .i64 r3.p.Road.Nodes, .slice A5 r3.p.Road.Edges.length c5, .slice A6 r3.p.Vehicles.length c6, .slice A7 r3.p.Demands.length c7, .int .i64 r3.p.Unload, .int .i64 r3.p.UnloadSecs, .string r3.v.ID, .int .i64 r3.v.Depot, .int .i64 r3.v.Shift.From, .int .i64 r3.v.Shift.To, .int .i64 r3.v.Grams, .int .i64 r3.v.Kinds, .map (some g5), .slice A8 r3.visits.length c8] 73 (0, 0)) :: ((g5, Obj.map es2 cn2) :: (ch2 ++ []))) :: L)) (SegSub.trans (SegSub.flat (by simp [selS])) (SegSub.sel _ [some 1, some 2, some 3] 4)) ?_))
    exact Upd.done (hR _ ((g1, Obj.cells #[.int .i64 r3.place.node, .int .i64 r3.place.time, .int .i64 r3.place.load, .int .i64 r3.place.meters, .int .i64 r3.p.Road.Nodes, .slice A5 r3.p.Road.Edges.length c5, .slice A6 r3.p.Vehicles.length c6, .slice A7 r3.p.Demands.length c7, .int .i64 r3.p.Unload, .int .i64 r3.p.UnloadSecs, .string r3.v.ID, .int .i64 r3.v.Depot, .int .i64 r3.v.Shift.From, .int .i64 r3.v.Shift.To, .int .i64 r3.v.Grams, .int .i64 r3.v.Kinds, .map (some g5), .slice A8 r3.visits.length c8] 73 (0, 0)) :: ((g5, Obj.map es2 cn2) :: (ch2 ++ []))) (hm_1) (⟨g1, A5, c5, A6, c6, A7, c7, g5, es2, cn2, A8, c8, ch2, rfl, rfl, ⟨hl4, hA4⟩, ⟨hl5, hA5⟩, ⟨hl6, hA6⟩, hM2, hO2⟩))
  replace h := cond_f hc2 h
  refine WP.skip (hK4507 _ _ _ (WP.seq_k (fun K4518 hK4518 => WP.drawn (id := 6) (l' := List.replicate 10 true) wide Tt_ok ([(g3, .cells #[.int .i64 r1.Secs, .int .i64 r1.Meters] 51 (0, 0))] :: [(g5, .map es2 cn2)] :: ch2 :: L) (Kept.ofT (keep := [[(g3, .cells #[.int .i64 r1.Secs, .int .i64 r1.Meters] 51 (0, 0))], [(g5, .map es2 cn2)], ch2]) (A := [[(g3, .cells #[.int .i64 r1.Secs, .int .i64 r1.Meters] 51 (0, 0))], [(g1, .cells #[.int .i64 r3.place.node, .int .i64 r3.place.time, .int .i64 r3.place.load, .int .i64 r3.place.meters, .int .i64 r3.p.Road.Nodes, .slice A5 r3.p.Road.Edges.length c5, .slice A6 r3.p.Vehicles.length c6, .slice A7 r3.p.Demands.length c7, .int .i64 r3.p.Unload, .int .i64 r3.p.UnloadSecs, .string r3.v.ID, .int .i64 r3.v.Depot, .int .i64 r3.v.Shift.From, .int .i64 r3.v.Shift.To, .int .i64 r3.v.Grams, .int .i64 r3.v.Kinds, .map (some g5), .slice A8 r3.visits.length c8] 73 (0, 0))], [(g5, .map es2 cn2)], ch2]) (by simp)) [(true, 0), (true, 1), (true, 2), (true, 3), (true, 4), (true, 5), (true, 6), (true, 8), (false, 7), (false, 9)] (by kernel_rfl) (by kernel_rfl) rfl ?_)))
  refine PL_t rfl (R_move rfl (Pt rfl rfl (R_nilP rfl (Pt rfl rfl (R_fa0 (o' := 0) rfl rfl rfl rfl rfl rfl (Pt rfl rfl (R_move rfl (Pt rfl rfl (R_nilP rfl (Pt rfl rfl (R_fa0 (o' := 10) rfl rfl rfl rfl rfl rfl (P_some rfl ?_))))))))))))
  refine PL_t rfl (R_fa0 (o' := 11) rfl rfl rfl rfl rfl rfl (Pt rfl rfl (R_loadA rfl rfl rfl rfl (LA_ (vs := [.int .i64 r1.Secs, .int .i64 r1.Meters]) 0 0 rfl rfl rfl rfl (P_some rfl (PL_f rfl (O_read rfl (R_load rfl rfl rfl (Ex.mk _ (Cell.seg 1 0 rfl rfl rfl) ?_)))))))))
  refine ⟨Kept.ofT (keep := [[(g3, .cells #[.int .i64 r1.Secs, .int .i64 r1.Meters] 51 (0, 0))], [(g5, .map es2 cn2)], ch2]) (A := [[(g3, .cells #[.int .i64 r1.Secs, .int .i64 r1.Meters] 51 (0, 0))], [(g1, .cells #[.int .i64 r3.place.node, .int .i64 r3.place.time, .int .i64 r3.place.load, .int .i64 r3.place.meters, .int .i64 r3.p.Road.Nodes, .slice A5 r3.p.Road.Edges.length c5, .slice A6 r3.p.Vehicles.length c6, .slice A7 r3.p.Demands.length c7, .int .i64 r3.p.Unload, .int .i64 r3.p.UnloadSecs, .string r3.v.ID, .int .i64 r3.v.Depot, .int .i64 r3.v.Shift.From, .int .i64 r3.v.Shift.To, .int .i64 r3.v.Grams, .int .i64 r3.v.Kinds, .map (some g5), .slice A8 r3.visits.length c8] 73 (0, 0))], [(g5, .map es2 cn2)], ch2]) (by simp), ?_⟩
  refine P_some rfl (PL_f rfl (O_call (all := [.pointer (some ⟨g1, 0, none⟩), .int .i64 r3.v.Depot, .agg #[.int .i64 r1.Secs, .int .i64 r1.Meters]]) rfl rfl rfl (Fn.of_body Tt_ok Try.func65 (by kernel_rfl) rfl Try.ntmps65 (by simp) ?_)))
  simp only [Try.f65, argFr, List.zipIdx, List.map, Nat.reduceAdd]
  refine WP.seq_k (fun K5203 hK5203 => WP.region Tt_ok (O_cons (O_box (cs := #[.int .i64 r1.Secs, .int .i64 r1.Meters]) rfl rfl (fun g6 => Pn rfl (hK5203 _ _ _ (WP.seq_k (fun K5205 hK5205 => Wr Tt_ok rfl (R_move rfl (Pc rfl rfl (R_move rfl (P_some rfl (O_cons ?_))))))))))))
  refine O_read rfl (R_nilP rfl (Pc rfl rfl (R_fa0 (o' := 0) rfl rfl rfl rfl rfl rfl (P_some rfl (O_cons (O_store (vs := [.int .i64 r3.v.Depot]) rfl rfl rfl rfl rfl rfl (ST_ (L' := ([(g6, .cells #[.int .i64 r1.Secs, .int .i64 r1.Meters] 51 (0, 0))] :: [(g3, .cells #[.int .i64 r1.Secs, .int .i64 r1.Meters] 51 (0, 0))] :: [(g1, .cells #[.int .i64 r3.v.Depot, .int .i64 r3.place.time, .int .i64 r3.place.load, .int .i64 r3.place.meters, .int .i64 r3.p.Road.Nodes, .slice A5 r3.p.Road.Edges.length c5, .slice A6 r3.p.Vehicles.length c6, .slice A7 r3.p.Demands.length c7, .int .i64 r3.p.Unload, .int .i64 r3.p.UnloadSecs, .string r3.v.ID, .int .i64 r3.v.Depot, .int .i64 r3.v.Shift.From, .int .i64 r3.v.Shift.To, .int .i64 r3.v.Grams, .int .i64 r3.v.Kinds, .map (some g5), .slice A8 r3.visits.length c8] 73 (0, 0))] :: [(g5, .map es2 cn2)] :: ch2 :: L)) 2 0 rfl rfl rfl rfl ?_)))))))
  refine P_none (O_nil (hK5205 _ _ _ (WP.seq_k (fun K5207 hK5207 => WP.drawn (id := 2) (l' := List.replicate 10 true) wide Tt_ok ([(g6, .cells #[.int .i64 r1.Secs, .int .i64 r1.Meters] 51 (0, 0))] :: [(g3, .cells #[.int .i64 r1.Secs, .int .i64 r1.Meters] 51 (0, 0))] :: [(g5, .map es2 cn2)] :: ch2 :: L) (Kept.ofT (keep := [[(g6, .cells #[.int .i64 r1.Secs, .int .i64 r1.Meters] 51 (0, 0))], [(g3, .cells #[.int .i64 r1.Secs, .int .i64 r1.Meters] 51 (0, 0))], [(g5, .map es2 cn2)], ch2]) (A := [[(g6, .cells #[.int .i64 r1.Secs, .int .i64 r1.Meters] 51 (0, 0))], [(g3, .cells #[.int .i64 r1.Secs, .int .i64 r1.Meters] 51 (0, 0))], [(g1, .cells #[.int .i64 r3.v.Depot, .int .i64 r3.place.time, .int .i64 r3.place.load, .int .i64 r3.place.meters, .int .i64 r3.p.Road.Nodes, .slice A5 r3.p.Road.Edges.length c5, .slice A6 r3.p.Vehicles.length c6, .slice A7 r3.p.Demands.length c7, .int .i64 r3.p.Unload, .int .i64 r3.p.UnloadSecs, .string r3.v.ID, .int .i64 r3.v.Depot, .int .i64 r3.v.Shift.From, .int .i64 r3.v.Shift.To, .int .i64 r3.v.Grams, .int .i64 r3.v.Kinds, .map (some g5), .slice A8 r3.visits.length c8] 73 (0, 0))], [(g5, .map es2 cn2)], ch2]) (by simp)) [(true, 0), (true, 1), (true, 2), (true, 4), (true, 5), (false, 3), (true, 6), (true, 7), (true, 8), (false, 9)] (by kernel_rfl) (by kernel_rfl) rfl ?_))))
  refine PL_t rfl (R_move rfl (Pt rfl rfl (R_nilP rfl (Pt rfl rfl (R_fa0 (o' := 1) rfl rfl rfl rfl rfl rfl (Pt rfl rfl (R_fa0 (o' := 0) rfl rfl rfl rfl rfl rfl (Pt rfl rfl (R_load rfl rfl rfl (Ex.mk _ (Cell.seg 0 0 rfl rfl rfl) (P_some rfl (PL_f rfl (O_read rfl ?_)))))))))))))
  refine R_load rfl rfl rfl (Ex.mk _ (Cell.seg 2 0 rfl rfl rfl) ?_)
  refine ⟨Kept.ofT (keep := [[(g6, .cells #[.int .i64 r1.Secs, .int .i64 r1.Meters] 51 (0, 0))], [(g3, .cells #[.int .i64 r1.Secs, .int .i64 r1.Meters] 51 (0, 0))], [(g5, .map es2 cn2)], ch2]) (A := [[(g6, .cells #[.int .i64 r1.Secs, .int .i64 r1.Meters] 51 (0, 0))], [(g3, .cells #[.int .i64 r1.Secs, .int .i64 r1.Meters] 51 (0, 0))], [(g1, .cells #[.int .i64 r3.v.Depot, .int .i64 r3.place.time, .int .i64 r3.place.load, .int .i64 r3.place.meters, .int .i64 r3.p.Road.Nodes, .slice A5 r3.p.Road.Edges.length c5, .slice A6 r3.p.Vehicles.length c6, .slice A7 r3.p.Demands.length c7, .int .i64 r3.p.Unload, .int .i64 r3.p.UnloadSecs, .string r3.v.ID, .int .i64 r3.v.Depot, .int .i64 r3.v.Shift.From, .int .i64 r3.v.Shift.To, .int .i64 r3.v.Grams, .int .i64 r3.v.Kinds, .map (some g5), .slice A8 r3.visits.length c8] 73 (0, 0))], [(g5, .map es2 cn2)], ch2]) (by simp), ?_⟩
  refine Pt rfl rfl (R_add rfl rfl (Pt rfl rfl (R_nilP rfl (Pt rfl rfl (R_fa0 (o' := 1) rfl rfl rfl rfl rfl rfl (P_some rfl (PL_f rfl (O_store (vs := [.int .i64 (w64 (r3.place.time + r1.Secs))]) rfl rfl rfl rfl rfl rfl (ST_ (L' := ([(g6, .cells #[.int .i64 r1.Secs, .int .i64 r1.Meters] 51 (0, 0))] :: [(g3, .cells #[.int .i64 r1.Secs, .int .i64 r1.Meters] 51 (0, 0))] :: [(g1, .cells #[.int .i64 r3.v.Depot, .int .i64 (w64 (r3.place.time + r1.Secs)), .int .i64 r3.place.load, .int .i64 r3.place.meters, .int .i64 r3.p.Road.Nodes, .slice A5 r3.p.Road.Edges.length c5, .slice A6 r3.p.Vehicles.length c6, .slice A7 r3.p.Demands.length c7, .int .i64 r3.p.Unload, .int .i64 r3.p.UnloadSecs, .string r3.v.ID, .int .i64 r3.v.Depot, .int .i64 r3.v.Shift.From, .int .i64 r3.v.Shift.To, .int .i64 r3.v.Grams, .int .i64 r3.v.Kinds, .map (some g5), .slice A8 r3.visits.length c8] 73 (0, 0))] :: [(g5, .map es2 cn2)] :: ch2 :: L)) 2 0 rfl rfl rfl rfl ?_)))))))))
  refine ⟨Kept.ofT (keep := [[(g6, .cells #[.int .i64 r1.Secs, .int .i64 r1.Meters] 51 (0, 0))], [(g3, .cells #[.int .i64 r1.Secs, .int .i64 r1.Meters] 51 (0, 0))], [(g5, .map es2 cn2)], ch2]) (A := [[(g6, .cells #[.int .i64 r1.Secs, .int .i64 r1.Meters] 51 (0, 0))], [(g3, .cells #[.int .i64 r1.Secs, .int .i64 r1.Meters] 51 (0, 0))], [(g1, .cells #[.int .i64 r3.v.Depot, .int .i64 (w64 (r3.place.time + r1.Secs)), .int .i64 r3.place.load, .int .i64 r3.place.meters, .int .i64 r3.p.Road.Nodes, .slice A5 r3.p.Road.Edges.length c5, .slice A6 r3.p.Vehicles.length c6, .slice A7 r3.p.Demands.length c7, .int .i64 r3.p.Unload, .int .i64 r3.p.UnloadSecs, .string r3.v.ID, .int .i64 r3.v.Depot, .int .i64 r3.v.Shift.From, .int .i64 r3.v.Shift.To, .int .i64 r3.v.Grams, .int .i64 r3.v.Kinds, .map (some g5), .slice A8 r3.visits.length c8] 73 (0, 0))], [(g5, .map es2 cn2)], ch2]) (by simp), ?_⟩
  refine P_none (PL_nil (AN.done0 (by kernel_rfl) (hK5207 _ _ _ (WP.drawn (id := 3) (l' := List.replicate 10 true) wide Tt_ok ([(g6, .cells #[.int .i64 r1.Secs, .int .i64 r1.Meters] 51 (0, 0))] :: [(g3, .cells #[.int .i64 r1.Secs, .int .i64 r1.Meters] 51 (0, 0))] :: [(g5, .map es2 cn2)] :: ch2 :: L) (Kept.ofT (keep := [[(g6, .cells #[.int .i64 r1.Secs, .int .i64 r1.Meters] 51 (0, 0))], [(g3, .cells #[.int .i64 r1.Secs, .int .i64 r1.Meters] 51 (0, 0))], [(g5, .map es2 cn2)], ch2]) (A := [[(g6, .cells #[.int .i64 r1.Secs, .int .i64 r1.Meters] 51 (0, 0))], [(g3, .cells #[.int .i64 r1.Secs, .int .i64 r1.Meters] 51 (0, 0))], [(g1, .cells #[.int .i64 r3.v.Depot, .int .i64 (w64 (r3.place.time + r1.Secs)), .int .i64 r3.place.load, .int .i64 r3.place.meters, .int .i64 r3.p.Road.Nodes, .slice A5 r3.p.Road.Edges.length c5, .slice A6 r3.p.Vehicles.length c6, .slice A7 r3.p.Demands.length c7, .int .i64 r3.p.Unload, .int .i64 r3.p.UnloadSecs, .string r3.v.ID, .int .i64 r3.v.Depot, .int .i64 r3.v.Shift.From, .int .i64 r3.v.Shift.To, .int .i64 r3.v.Grams, .int .i64 r3.v.Kinds, .map (some g5), .slice A8 r3.visits.length c8] 73 (0, 0))], [(g5, .map es2 cn2)], ch2]) (by simp)) [(true, 0), (true, 1), (true, 2), (true, 4), (true, 5), (false, 3), (true, 6), (true, 7), (true, 8), (false, 9)] (by kernel_rfl) (by kernel_rfl) rfl ?_))))
  refine PL_t rfl (R_move rfl (Pt rfl rfl (R_nilP rfl (Pt rfl rfl (R_fa0 (o' := 3) rfl rfl rfl rfl rfl rfl (Pt rfl rfl (R_fa0 (o' := 1) rfl rfl rfl rfl rfl rfl (Pt rfl rfl (R_load rfl rfl rfl (Ex.mk _ (Cell.seg 0 0 rfl rfl rfl) (P_some rfl (PL_f rfl (O_read rfl ?_)))))))))))))
  refine R_load rfl rfl rfl (Ex.mk _ (Cell.seg 2 0 rfl rfl rfl) ?_)
  refine ⟨Kept.ofT (keep := [[(g6, .cells #[.int .i64 r1.Secs, .int .i64 r1.Meters] 51 (0, 0))], [(g3, .cells #[.int .i64 r1.Secs, .int .i64 r1.Meters] 51 (0, 0))], [(g5, .map es2 cn2)], ch2]) (A := [[(g6, .cells #[.int .i64 r1.Secs, .int .i64 r1.Meters] 51 (0, 0))], [(g3, .cells #[.int .i64 r1.Secs, .int .i64 r1.Meters] 51 (0, 0))], [(g1, .cells #[.int .i64 r3.v.Depot, .int .i64 (w64 (r3.place.time + r1.Secs)), .int .i64 r3.place.load, .int .i64 r3.place.meters, .int .i64 r3.p.Road.Nodes, .slice A5 r3.p.Road.Edges.length c5, .slice A6 r3.p.Vehicles.length c6, .slice A7 r3.p.Demands.length c7, .int .i64 r3.p.Unload, .int .i64 r3.p.UnloadSecs, .string r3.v.ID, .int .i64 r3.v.Depot, .int .i64 r3.v.Shift.From, .int .i64 r3.v.Shift.To, .int .i64 r3.v.Grams, .int .i64 r3.v.Kinds, .map (some g5), .slice A8 r3.visits.length c8] 73 (0, 0))], [(g5, .map es2 cn2)], ch2]) (by simp), ?_⟩
  refine Pt rfl rfl (R_add rfl rfl (Pt rfl rfl (R_nilP rfl (Pt rfl rfl (R_fa0 (o' := 3) rfl rfl rfl rfl rfl rfl (P_some rfl (PL_f rfl (O_store (vs := [.int .i64 (w64 (r3.place.meters + r1.Meters))]) rfl rfl rfl rfl rfl rfl (ST_ (L' := ([(g6, .cells #[.int .i64 r1.Secs, .int .i64 r1.Meters] 51 (0, 0))] :: [(g3, .cells #[.int .i64 r1.Secs, .int .i64 r1.Meters] 51 (0, 0))] :: [(g1, .cells #[.int .i64 r3.v.Depot, .int .i64 (w64 (r3.place.time + r1.Secs)), .int .i64 r3.place.load, .int .i64 (w64 (r3.place.meters + r1.Meters)), .int .i64 r3.p.Road.Nodes, .slice A5 r3.p.Road.Edges.length c5, .slice A6 r3.p.Vehicles.length c6, .slice A7 r3.p.Demands.length c7, .int .i64 r3.p.Unload, .int .i64 r3.p.UnloadSecs, .string r3.v.ID, .int .i64 r3.v.Depot, .int .i64 r3.v.Shift.From, .int .i64 r3.v.Shift.To, .int .i64 r3.v.Grams, .int .i64 r3.v.Kinds, .map (some g5), .slice A8 r3.visits.length c8] 73 (0, 0))] :: [(g5, .map es2 cn2)] :: ch2 :: L)) 2 0 rfl rfl rfl rfl ?_)))))))))
  refine ⟨Kept.ofT (keep := [[(g6, .cells #[.int .i64 r1.Secs, .int .i64 r1.Meters] 51 (0, 0))], [(g3, .cells #[.int .i64 r1.Secs, .int .i64 r1.Meters] 51 (0, 0))], [(g5, .map es2 cn2)], ch2]) (A := [[(g6, .cells #[.int .i64 r1.Secs, .int .i64 r1.Meters] 51 (0, 0))], [(g3, .cells #[.int .i64 r1.Secs, .int .i64 r1.Meters] 51 (0, 0))], [(g1, .cells #[.int .i64 r3.v.Depot, .int .i64 (w64 (r3.place.time + r1.Secs)), .int .i64 r3.place.load, .int .i64 (w64 (r3.place.meters + r1.Meters)), .int .i64 r3.p.Road.Nodes, .slice A5 r3.p.Road.Edges.length c5, .slice A6 r3.p.Vehicles.length c6, .slice A7 r3.p.Demands.length c7, .int .i64 r3.p.Unload, .int .i64 r3.p.UnloadSecs, .string r3.v.ID, .int .i64 r3.v.Depot, .int .i64 r3.v.Shift.From, .int .i64 r3.v.Shift.To, .int .i64 r3.v.Grams, .int .i64 r3.v.Kinds, .map (some g5), .slice A8 r3.visits.length c8] 73 (0, 0))], [(g5, .map es2 cn2)], ch2]) (by simp), ?_⟩
  refine P_none (PL_nil (AN.done0 (by kernel_rfl) (S_nil (Upd.done ?_))))
  refine ⟨Kept.ofT (keep := [[(g3, .cells #[.int .i64 r1.Secs, .int .i64 r1.Meters] 51 (0, 0))], [(g5, .map es2 cn2)], ch2]) (A := [[(g6, .cells #[.int .i64 r1.Secs, .int .i64 r1.Meters] 51 (0, 0))], [(g3, .cells #[.int .i64 r1.Secs, .int .i64 r1.Meters] 51 (0, 0))], [(g1, .cells #[.int .i64 r3.v.Depot, .int .i64 (w64 (r3.place.time + r1.Secs)), .int .i64 r3.place.load, .int .i64 (w64 (r3.place.meters + r1.Meters)), .int .i64 r3.p.Road.Nodes, .slice A5 r3.p.Road.Edges.length c5, .slice A6 r3.p.Vehicles.length c6, .slice A7 r3.p.Demands.length c7, .int .i64 r3.p.Unload, .int .i64 r3.p.UnloadSecs, .string r3.v.ID, .int .i64 r3.v.Depot, .int .i64 r3.v.Shift.From, .int .i64 r3.v.Shift.To, .int .i64 r3.v.Grams, .int .i64 r3.v.Kinds, .map (some g5), .slice A8 r3.visits.length c8] 73 (0, 0))], [(g5, .map es2 cn2)], ch2]) (by simp), ?_⟩
  refine P_some rfl (PL_nil (AN.done0 (by kernel_rfl) (hK4518 _ _ _ (WP.seq_k (fun K5239 hK5239 => WP.seq_k (fun K5240 hK5240 => WP.drawn (id := 7) (l' := List.replicate 12 true) wide Tt_ok _ Kept.refl [(true, 0), (true, 1), (true, 2), (true, 3), (true, 4), (true, 5), (true, 6), (true, 7), (true, 8), (true, 9), (true, 10), (true, 11)] (by kernel_rfl) (by kernel_rfl) rfl (PL_t rfl (R_move rfl (Pt rfl rfl (R_nilP rfl (Pt rfl rfl (R_fa0 (o' := 0) rfl rfl rfl rfl rfl rfl (Pt rfl rfl (R_fa0 (o' := 1) rfl rfl rfl rfl rfl rfl ?_))))))))))))))
  refine Pt rfl rfl (R_load rfl rfl rfl (Ex.mk _ (Cell.seg 2 0 rfl rfl rfl) (Pt rfl rfl (R_move rfl (Pt rfl rfl (R_nilP rfl (Pt rfl rfl (R_fa0 (o' := 10) rfl rfl rfl rfl rfl rfl (Pt rfl rfl (R_fa0 (o' := 12) rfl rfl rfl rfl rfl rfl (Pt rfl rfl ?_)))))))))))
  refine R_fa0 (o' := 13) rfl rfl rfl rfl rfl rfl (Pt rfl rfl (R_load rfl rfl rfl (Ex.mk _ (Cell.seg 2 0 rfl rfl rfl) (Pt rfl rfl (R_geqD rfl rfl (P_some rfl (PL_nil (AN.done0 (by kernel_rfl) (hK5240 _ _ _ ?_)))))))))
  refine W_cond_v (b := (decide (r3.v.Shift.To ≤ (w64 (r3.place.time + r1.Secs))))) rfl (fun hc3 => ?_) (fun hc3 => ?_)
  · replace h := cond_t hc3 h
    refine WP.seq_k (fun K5241 hK5241 => Wr Tt_ok rfl (R_assign rfl (Pn rfl (hK5241 _ _ _ (WP.ret ?_)))))
    have e_ := Option.some.inj h
    obtain ⟨e0a_, e0b_⟩ := Prod.mk.inj e_
    clear e_
    subst e0a_
    subst e0b_
    refine S_tmp rfl (S_nil (Upd.seg (L2 := (((g1, Obj.cells #[.int .i64 r3.v.Depot, .int .i64 (w64 (r3.place.time + r1.Secs)), .int .i64 r3.place.load, .int .i64 (w64 (r3.place.meters + r1.Meters)), .int .i64 r3.p.Road.Nodes, .slice A5 r3.p.Road.Edges.length c5, .slice A6 r3.p.Vehicles.length c6, .slice A7 r3.p.Demands.length c7, .int .i64 r3.p.Unload, .int .i64 r3.p.UnloadSecs, .string r3.v.ID, .int .i64 r3.v.Depot, .int .i64 r3.v.Shift.From, .int .i64 r3.v.Shift.To, .int .i64 r3.v.Grams, .int .i64 r3.v.Kinds, .map (some g5), .slice A8 r3.visits.length c8] 73 (0, 0)) :: ((g5, Obj.map es2 cn2) :: (ch2 ++ []))) :: L)) (SegSub.trans (SegSub.flat (by simp [selS])) (SegSub.sel _ [some 2, some 3, some 4] 5)) ?_))
    exact Upd.done (hR _ ((g1, Obj.cells #[.int .i64 r3.v.Depot, .int .i64 (w64 (r3.place.time + r1.Secs)), .int .i64 r3.place.load, .int .i64 (w64 (r3.place.meters + r1.Meters)), .int .i64 r3.p.Road.Nodes, .slice A5 r3.p.Road.Edges.length c5, .slice A6 r3.p.Vehicles.length c6, .slice A7 r3.p.Demands.length c7, .int .i64 r3.p.Unload, .int .i64 r3.p.UnloadSecs, .string r3.v.ID, .int .i64 r3.v.Depot, .int .i64 r3.v.Shift.From, .int .i64 r3.v.Shift.To, .int .i64 r3.v.Grams, .int .i64 r3.v.Kinds, .map (some g5), .slice A8 r3.visits.length c8] 73 (0, 0)) :: ((g5, Obj.map es2 cn2) :: (ch2 ++ []))) (hm_1) (⟨g1, A5, c5, A6, c6, A7, c7, g5, es2, cn2, A8, c8, ch2, rfl, rfl, ⟨hl4, hA4⟩, ⟨hl5, hA5⟩, ⟨hl6, hA6⟩, hM2, hO2⟩))
  replace h := cond_f hc3 h
  refine WP.skip (hK5239 _ _ _ (WP.seq_k (fun K5242 hK5242 => WP.drawB (id := 9) (l' := List.replicate 11 true ++ [false]) wide Tt_ok _ Kept.refl 11 [(1, [5, 4, 3, 2]), (2, [5, 4, 3]), (3, [5, 4]), (4, [5]), (6, [10, 9, 8, 7]), (7, [10, 9, 8]), (8, [10, 9]), (9, [10])] [(true, 0), (true, 1), (true, 2), (true, 3), (true, 4), (true, 5), (true, 6), (true, 7), (true, 8), (true, 9), (true, 10)] (by kernel_rfl) (by kernel_rfl) rfl (by kernel_rfl) (by kernel_rfl) (PL_t rfl (R_move rfl (Pt rfl rfl (R_move rfl (Pt rfl rfl (R_nilP rfl (Pt rfl rfl (R_fa0 (o' := 0) rfl rfl rfl rfl rfl rfl (Pt rfl rfl (R_fa0 (o' := 1) rfl rfl rfl rfl rfl rfl ?_)))))))))))))
  refine Pt rfl rfl (R_load rfl rfl rfl (Ex.mk _ (Cell.seg 2 0 rfl rfl rfl) (Pt rfl rfl (R_move rfl (Pt rfl rfl (R_nilP rfl (Pt rfl rfl (R_fa0 (o' := 0) rfl rfl rfl rfl rfl rfl (Pt rfl rfl (R_fa0 (o' := 1) rfl rfl rfl rfl rfl rfl (Pt rfl rfl ?_)))))))))))
  refine R_load rfl rfl rfl (Ex.mk _ (Cell.seg 2 0 rfl rfl rfl) (P_some rfl (PL_nil (last_ rfl (O_call (all := [.pointer (some ⟨g1, 0, none⟩), .int .i64 (-2), .int .i64 (w64 (r3.place.time + r1.Secs)), .int .i64 (w64 (r3.place.time + r1.Secs))]) rfl rfl rfl ?_)))))
  have hP4 : Obj_tour_walk v1 (.pointer (some ⟨g1, 0, none⟩)) (T_tour_walk.mk (T_tour_place.mk r3.v.Depot (w64 (r3.place.time + r1.Secs)) r3.place.load (w64 (r3.place.meters + r1.Meters))) r3.p r3.v r3.legs r3.visits) ((g1, Obj.cells #[.int .i64 r3.v.Depot, .int .i64 (w64 (r3.place.time + r1.Secs)), .int .i64 r3.place.load, .int .i64 (w64 (r3.place.meters + r1.Meters)), .int .i64 r3.p.Road.Nodes, .slice A5 r3.p.Road.Edges.length c5, .slice A6 r3.p.Vehicles.length c6, .slice A7 r3.p.Demands.length c7, .int .i64 r3.p.Unload, .int .i64 r3.p.UnloadSecs, .string r3.v.ID, .int .i64 r3.v.Depot, .int .i64 r3.v.Shift.From, .int .i64 r3.v.Shift.To, .int .i64 r3.v.Grams, .int .i64 r3.v.Kinds, .map (some g5), .slice A8 r3.visits.length c8] 73 (0, 0)) :: ((g5, Obj.map es2 cn2) :: (ch2 ++ []))) := ⟨g1, A5, c5, A6, c6, A7, c7, g5, es2, cn2, A8, c8, ch2, rfl, rfl, ⟨hl4, hA4⟩, ⟨hl5, hA5⟩, ⟨hl6, hA6⟩, hM2, hO2⟩
  refine Fn.seg (L2 := (((g1, Obj.cells #[.int .i64 r3.v.Depot, .int .i64 (w64 (r3.place.time + r1.Secs)), .int .i64 r3.place.load, .int .i64 (w64 (r3.place.meters + r1.Meters)), .int .i64 r3.p.Road.Nodes, .slice A5 r3.p.Road.Edges.length c5, .slice A6 r3.p.Vehicles.length c6, .slice A7 r3.p.Demands.length c7, .int .i64 r3.p.Unload, .int .i64 r3.p.UnloadSecs, .string r3.v.ID, .int .i64 r3.v.Depot, .int .i64 r3.v.Shift.From, .int .i64 r3.v.Shift.To, .int .i64 r3.v.Grams, .int .i64 r3.v.Kinds, .map (some g5), .slice A8 r3.visits.length c8] 73 (0, 0)) :: ((g5, Obj.map es2 cn2) :: (ch2 ++ []))) :: [(g6, .cells #[.int .i64 r1.Secs, .int .i64 r1.Meters] 51 (0, 0))] :: [(g3, .cells #[.int .i64 r1.Secs, .int .i64 r1.Meters] 51 (0, 0))] :: L)) (SegSub.trans (SegSub.flat (by simp [selS])) (SegSub.sel _ [some 2, some 3, some 4, some 0, some 1] 5)) ?_
  obtain ⟨r4, hx2, h⟩ := obind h
  refine tour_walk_note_fn hP4 hx2 (fun so3 hP5 => P_some rfl (hK5242 _ _ _ (WP.seq_k (fun K5297 hK5297 => Wr Tt_ok rfl (R_assign rfl (Pn rfl (hK5297 _ _ _ (WP.ret ?_))))))))
  have e_ := Option.some.inj h
  obtain ⟨e0a_, e0b_⟩ := Prod.mk.inj e_
  clear e_
  subst e0a_
  subst e0b_
  refine S_tmp rfl (S_nil (Upd.selS [some 0] 3 ?_))
  exact Upd.done (hR _ so3 (hm_1) (hP5))

theorem tour_follow_fn {μ : Gh} {L : List Seg} {R : Value → Gh → List Seg → Prop} {F : Nat} {p1 : T_api_Problem} {t1 : T_api_Tour} {A1 : Option Addr} {c1 : Nat} {A2 : Option Addr} {c2 : Nat} {A3 : Option Addr} {c3 : Nat} {A4 : Option Addr} {c4 : Nat} {res1 : (Option T_tour_walk)} {res2 : Int} {res3 : Int}
    (hl1 : p1.Road.Edges.length ≤ c1 ∧ c1 ≤ maxLen) (hA1 : ArrR r_api_Edge μ A1 p1.Road.Edges) (hl2 : p1.Vehicles.length ≤ c2 ∧ c2 ≤ maxLen) (hA2 : ArrR r_api_Vehicle μ A2 p1.Vehicles) (hl3 : p1.Demands.length ≤ c3 ∧ c3 ≤ maxLen) (hA3 : ArrR r_api_Demand μ A3 p1.Demands) (hl4 : t1.Stops.length ≤ c4 ∧ c4 ≤ maxLen) (hA4 : ArrR rInt μ A4 t1.Stops) (h : tour_follow F p1 t1 = some (res1, res2, res3))
    (hR : ∀ (μ' : Gh) (v0 : Value) (so0 : Seg), μ.le μ' → ObjO Obj_tour_walk μ' v0 res1 so0 → R (.tuple #[v0, .int .i64 res2, .int .i64 res3]) μ' (so0 :: L)) :
    Fn Try.prog 34 [.agg #[.int .i64 p1.Road.Nodes, .slice A1 p1.Road.Edges.length c1, .slice A2 p1.Vehicles.length c2, .slice A3 p1.Demands.length c3, .int .i64 p1.Unload, .int .i64 p1.UnloadSecs], .agg #[.int .i64 t1.Vehicle, .slice A4 t1.Stops.length c4]] μ (L) R := by
  unfold tour_follow at h
  refine Fn.of_body Tt_ok Try.func34 (by kernel_rfl) rfl Try.ntmps34 (by simp) ?_
  simp only [Try.f34, argFr, List.zipIdx, List.map, Nat.reduceAdd]
  refine WP.seq_k (fun K5309 hK5309 => WP.region Tt_ok (O_cons (O_box (cs := #[.int .i64 p1.Road.Nodes, .slice A1 p1.Road.Edges.length c1, .slice A2 p1.Vehicles.length c2, .slice A3 p1.Demands.length c3, .int .i64 p1.Unload, .int .i64 p1.UnloadSecs]) rfl rfl (fun g1 => P_some rfl (O_cons (O_box (cs := #[.int .i64 t1.Vehicle, .slice A4 t1.Stops.length c4]) rfl rfl (fun g2 => Pc rfl rfl (R_assign rfl (Pc rfl rfl (R_assign rfl (Pc rfl rfl ?_)))))))))))
  refine R_assign rfl (Pn rfl (hK5309 _ _ _ (WP.scope (WP.seq_k (fun K5312 hK5312 => WP.seq_k (fun K5313 hK5313 => ?_))))))
  obtain ⟨o5314, h5314, h⟩ := obind h
  refine WP.cutK (fun fr_ μ_ L_ => ∃ (v1 : Bool), v1 = o5314 ∧ SubFr [(2, .pointer (some ⟨g1, 0, none⟩)), (3, .pointer (some ⟨g2, 0, none⟩)), (21, .bool v1)] fr_ ∧ SegSub ([(g1, .cells #[.int .i64 p1.Road.Nodes, .slice A1 p1.Road.Edges.length c1, .slice A2 p1.Vehicles.length c2, .slice A3 p1.Demands.length c3, .int .i64 p1.Unload, .int .i64 p1.UnloadSecs] 28 (0, 0))] :: [(g2, .cells #[.int .i64 t1.Vehicle, .slice A4 t1.Stops.length c4] 35 (0, 0))] :: L) L_) ?_ ?_
  · refine Wr Tt_ok rfl (R_fa0 (o' := 0) rfl rfl rfl rfl rfl rfl (Pc rfl rfl (R_load rfl rfl rfl (Ex.mk _ (Cell.seg 0 0 rfl rfl rfl) (Pc rfl rfl (R_lssD rfl rfl (Pc rfl rfl (R_move rfl (P_some rfl ?_)))))))))
    refine O_gv (z := (decide (t1.Vehicle < 0))) rfl rfl (fun hc1 => ?_) (fun hc1 => ?_)
    · replace h5314 := cond_f hc1 h5314
      refine O_read rfl (R_fa0 (o' := 0) rfl rfl rfl rfl rfl rfl (P_some rfl (O_gY rfl rfl hc1 (O_read rfl (R_load rfl rfl rfl (Ex.mk _ (Cell.seg 0 0 rfl rfl rfl) (P_some rfl (O_gY rfl rfl hc1 (O_read rfl (R_fa0 (o' := 2) rfl rfl rfl rfl rfl rfl (P_some rfl (O_gY rfl rfl hc1 (O_read rfl (R_load rfl rfl rfl (Ex.mk _ (Cell.seg 1 0 rfl rfl rfl) (P_some rfl (O_gY rfl rfl hc1 ?_)))))))))))))))))
      refine O_read rfl (R_lenS rfl rfl rfl (P_some rfl (O_gY rfl rfl hc1 (O_read rfl (R_geqD rfl rfl (Pc rfl rfl (R_pick_F rfl hc1 rfl (Pn rfl ?_))))))))
      have e_ := Option.some.inj h5314
      subst e_
      exact ⟨(decide (((p1.Vehicles.length : Nat) : Int) ≤ t1.Vehicle)), rfl, SubFr.of ⟨rfl, rfl, rfl, trivial⟩, SegSub.sel _ [some 1, some 0] 2⟩
    replace h5314 := cond_t hc1 h5314
    refine P_some rfl (O_gN rfl rfl hc1 (P_some rfl (O_gN rfl rfl hc1 (P_some rfl (O_gN rfl rfl hc1 (P_some rfl (O_gN rfl rfl hc1 (P_some rfl (O_gN rfl rfl hc1 (Pc rfl rfl (R_pick_T rfl hc1 rfl (Pn rfl ?_))))))))))))
    have e_ := Option.some.inj h5314
    subst e_
    exact ⟨true, rfl, SubFr.of ⟨rfl, rfl, rfl, trivial⟩, SegSub.sel _ [some 1, some 0] 2⟩
  rintro fr5314 μ5314 L5314 hm5314 ⟨v1, ho5314, hF5314, hS5314⟩
  subst ho5314
  replace hA1 := hA1.mono hm5314
  replace hA2 := hA2.mono hm5314
  replace hA3 := hA3.mono hm5314
  replace hA4 := hA4.mono hm5314
  refine hK5313 _ _ _ (WP.at hF5314 hS5314 ?_)
  refine W_cond_v (b := v1) rfl (fun hc2 => ?_) (fun hc2 => ?_)
  · replace h := cond_t hc2 h
    refine WP.seq_k (fun K5319 hK5319 => Wr Tt_ok rfl (R_assign rfl (Pc rfl rfl (R_assign rfl (Pc rfl rfl (R_assign rfl (Pn rfl (hK5319 _ _ _ (WP.ret ?_)))))))))
    have e_ := Option.some.inj h
    obtain ⟨e0a_, e0b_⟩ := Prod.mk.inj e_
    clear e_
    subst e0a_
    obtain ⟨e1a_, e1b_⟩ := Prod.mk.inj e0b_
    clear e0b_
    subst e1a_
    subst e1b_
    refine S_tmp rfl (S_tmp rfl (S_tmp rfl (S_nil (Upd.selS [none] 2 ?_))))
    exact Upd.done (hR _ (.pointer none) [] (hm5314) (ObjO.nil))
  replace h := cond_f hc2 h
  refine WP.skip (hK5312 _ _ _ (WP.seq_k (fun K5320 hK5320 => WP.seq_k (fun K5321 hK5321 => Wr Tt_ok rfl (R_fa0 (o' := 1) rfl rfl rfl rfl rfl rfl (Pc rfl rfl (R_load rfl rfl rfl (Ex.mk _ (Cell.seg 1 0 rfl rfl rfl) (Pc rfl rfl (R_lenS rfl rfl rfl (P_some rfl ?_)))))))))))
  refine O_cons (O_read rfl (R_gtrD rfl rfl (Pn rfl (hK5321 _ _ _ ?_))))
  refine W_cond_v (b := (decide (40 < ((t1.Stops.length : Nat) : Int)))) rfl (fun hc3 => ?_) (fun hc3 => ?_)
  · replace h := cond_t hc3 h
    refine WP.seq_k (fun K5322 hK5322 => Wr Tt_ok rfl (R_assign rfl (Pc rfl rfl (R_assign rfl (Pc rfl rfl (R_assign rfl (Pn rfl (hK5322 _ _ _ (WP.ret ?_)))))))))
    have e_ := Option.some.inj h
    obtain ⟨e0a_, e0b_⟩ := Prod.mk.inj e_
    clear e_
    subst e0a_
    obtain ⟨e1a_, e1b_⟩ := Prod.mk.inj e0b_
    clear e0b_
    subst e1a_
    subst e1b_
    refine S_tmp rfl (S_tmp rfl (S_tmp rfl (S_nil (Upd.selS [none] 2 ?_))))
    exact Upd.done (hR _ (.pointer none) [] (hm5314) (ObjO.nil))
  replace h := cond_f hc3 h
  refine WP.skip (hK5320 _ _ _ (WP.seq_k (fun K5323 hK5323 => Wr Tt_ok rfl (R_fa0 (o' := 2) rfl rfl rfl rfl rfl rfl (Pc rfl rfl (R_load rfl rfl rfl (Ex.mk _ (Cell.seg 0 0 rfl rfl rfl) (Pc rfl rfl (R_fa0 (o' := 0) rfl rfl rfl rfl rfl rfl (P_some rfl (O_cons ?_)))))))))))
  refine O_read rfl (R_load rfl rfl rfl (Ex.mk _ (Cell.seg 1 0 rfl rfl rfl) (P_some rfl (O_cons ?_))))
  obtain ⟨x1, hx1, h⟩ := obind h
  obtain ⟨a1, cs1, hA5, hr1, _, hc4⟩ := Rds.getI (ArrR.rds hA2 L) hx1
  obtain rfl := hr1
  refine O_read rfl (R_iaG rfl rfl rfl rfl rfl rfl ⟨(getI_lt hx1).1, (getI_lt hx1).2.1⟩ hA5 (Pc rfl rfl (R_loadA rfl rfl rfl rfl (Ex.mk [.string x1.ID, .int .i64 x1.Depot, .int .i64 x1.Shift.From, .int .i64 x1.Shift.To, .int .i64 x1.Grams, .int .i64 x1.Kinds] ⟨rfl, (hc4.push.push)⟩ (P_some rfl (O_cons (O_alloc (cs := #[.string ⟨#[]⟩, .int .i64 0, .int .i64 0, .int .i64 0, .int .i64 0, .int .i64 0]) rfl rfl (fun g3 => P_some rfl (O_cons (O_store (vs := [.string x1.ID, .int .i64 x1.Depot, .int .i64 x1.Shift.From, .int .i64 x1.Shift.To, .int .i64 x1.Grams, .int .i64 x1.Kinds]) rfl rfl rfl rfl rfl rfl (ST_ (L' := ([(g3, .cells #[.string x1.ID, .int .i64 x1.Depot, .int .i64 x1.Shift.From, .int .i64 x1.Shift.To, .int .i64 x1.Grams, .int .i64 x1.Kinds] 46 (0, 0))] :: [(g1, .cells #[.int .i64 p1.Road.Nodes, .slice A1 p1.Road.Edges.length c1, .slice A2 p1.Vehicles.length c2, .slice A3 p1.Demands.length c3, .int .i64 p1.Unload, .int .i64 p1.UnloadSecs] 28 (0, 0))] :: [(g2, .cells #[.int .i64 t1.Vehicle, .slice A4 t1.Stops.length c4] 35 (0, 0))] :: L)) 0 0 rfl rfl rfl rfl ?_)))))))))))
  refine P_none (O_nil (hK5323 _ _ _ (WP.seq_k (fun K5326 hK5326 => Wr Tt_ok rfl (R_fa0 (o' := 1) rfl rfl rfl rfl rfl rfl (Pc rfl rfl (R_load rfl rfl rfl (Ex.mk _ (Cell.seg 0 0 rfl rfl rfl) (Pc rfl rfl (R_fa0 (o' := 2) rfl rfl rfl rfl rfl rfl (P_some rfl ?_)))))))))))
  refine O_cons (O_read rfl (R_fa0 (o' := 2) rfl rfl rfl rfl rfl rfl (Pc rfl rfl (R_load rfl rfl rfl (Ex.mk _ (Cell.seg 0 0 rfl rfl rfl) (Pc rfl rfl (R_build rfl rfl rfl rfl (F_cons (cells' := [.int .i64 x1.Depot, .int .i64 0, .int .i64 0, .int .i64 0]) rfl rfl rfl rfl (F_cons (cells' := [.int .i64 x1.Depot, .int .i64 x1.Shift.From, .int .i64 0, .int .i64 0]) rfl rfl rfl rfl (F_nil (Pc rfl rfl ?_)))))))))))
  refine R_loadA rfl rfl rfl rfl (LA_ (vs := [.int .i64 p1.Road.Nodes, .slice A1 p1.Road.Edges.length c1, .slice A2 p1.Vehicles.length c2, .slice A3 p1.Demands.length c3, .int .i64 p1.Unload, .int .i64 p1.UnloadSecs]) 1 0 rfl rfl rfl rfl (Pc rfl rfl (R_loadA rfl rfl rfl rfl (LA_ (vs := [.string x1.ID, .int .i64 x1.Depot, .int .i64 x1.Shift.From, .int .i64 x1.Shift.To, .int .i64 x1.Grams, .int .i64 x1.Kinds]) 0 0 rfl rfl rfl rfl (P_some rfl (O_cons (O_mkmap (fun g4 => Pc rfl rfl (R_build rfl rfl rfl rfl (F_cons (cells' := [.int .i64 x1.Depot, .int .i64 x1.Shift.From, .int .i64 0, .int .i64 0, .int .i64 0, .slice none 0 0, .slice none 0 0, .slice none 0 0, .int .i64 0, .int .i64 0, .string ⟨#[]⟩, .int .i64 0, .int .i64 0, .int .i64 0, .int .i64 0, .int .i64 0, .map none, .slice none 0 0]) rfl rfl rfl rfl ?_))))))))))
  refine F_cons (cells' := [.int .i64 x1.Depot, .int .i64 x1.Shift.From, .int .i64 0, .int .i64 0, .int .i64 p1.Road.Nodes, .slice A1 p1.Road.Edges.length c1, .slice A2 p1.Vehicles.length c2, .slice A3 p1.Demands.length c3, .int .i64 p1.Unload, .int .i64 p1.UnloadSecs, .string ⟨#[]⟩, .int .i64 0, .int .i64 0, .int .i64 0, .int .i64 0, .int .i64 0, .map none, .slice none 0 0]) rfl rfl rfl rfl (F_cons (cells' := [.int .i64 x1.Depot, .int .i64 x1.Shift.From, .int .i64 0, .int .i64 0, .int .i64 p1.Road.Nodes, .slice A1 p1.Road.Edges.length c1, .slice A2 p1.Vehicles.length c2, .slice A3 p1.Demands.length c3, .int .i64 p1.Unload, .int .i64 p1.UnloadSecs, .string x1.ID, .int .i64 x1.Depot, .int .i64 x1.Shift.From, .int .i64 x1.Shift.To, .int .i64 x1.Grams, .int .i64 x1.Kinds, .map none, .slice none 0 0]) rfl rfl rfl rfl ?_)
  refine F_cons (cells' := [.int .i64 x1.Depot, .int .i64 x1.Shift.From, .int .i64 0, .int .i64 0, .int .i64 p1.Road.Nodes, .slice A1 p1.Road.Edges.length c1, .slice A2 p1.Vehicles.length c2, .slice A3 p1.Demands.length c3, .int .i64 p1.Unload, .int .i64 p1.UnloadSecs, .string x1.ID, .int .i64 x1.Depot, .int .i64 x1.Shift.From, .int .i64 x1.Shift.To, .int .i64 x1.Grams, .int .i64 x1.Kinds, .map (some g4), .slice none 0 0]) rfl rfl rfl rfl (F_nil (P_some rfl (O_cons (O_box (cs := #[.int .i64 x1.Depot, .int .i64 x1.Shift.From, .int .i64 0, .int .i64 0, .int .i64 p1.Road.Nodes, .slice A1 p1.Road.Edges.length c1, .slice A2 p1.Vehicles.length c2, .slice A3 p1.Demands.length c3, .int .i64 p1.Unload, .int .i64 p1.UnloadSecs, .string x1.ID, .int .i64 x1.Depot, .int .i64 x1.Shift.From, .int .i64 x1.Shift.To, .int .i64 x1.Grams, .int .i64 x1.Kinds, .map (some g4), .slice none 0 0]) rfl rfl (fun g5 => ?_)))))
  refine Pc rfl rfl (R_assign rfl (Pn rfl (hK5326 _ _ _ (WP.seq_k (fun K5333 hK5333 => Wr Tt_ok rfl (R_assign rfl (Pc rfl rfl (R_assign rfl (Pn rfl ?_)))))))))
  refine hK5333 _ _ _ (WP.seq_k (fun K5334 hK5334 => WP.label (hK5334 _ _ _ (WP.seq_k (fun K5335 hK5335 => ?_)))))
  have hP1 : Obj_tour_walk μ5314 (.pointer (some ⟨g5, 0, none⟩)) (T_tour_walk.mk (T_tour_place.mk x1.Depot x1.Shift.From 0 0) p1 x1 [] []) ((g5, Obj.cells #[.int .i64 x1.Depot, .int .i64 x1.Shift.From, .int .i64 0, .int .i64 0, .int .i64 p1.Road.Nodes, .slice A1 p1.Road.Edges.length c1, .slice A2 p1.Vehicles.length c2, .slice A3 p1.Demands.length c3, .int .i64 p1.Unload, .int .i64 p1.UnloadSecs, .string x1.ID, .int .i64 x1.Depot, .int .i64 x1.Shift.From, .int .i64 x1.Shift.To, .int .i64 x1.Grams, .int .i64 x1.Kinds, .map (some g4), .slice none 0 0] 73 (0, 0)) :: ((g4, Obj.map #[] 0) :: ([] ++ []))) := ⟨g5, A1, c1, A2, c2, A3, c3, g4, #[], 0, none, 0, [], rfl, rfl, ⟨hl1, hA1⟩, ⟨hl2, hA2⟩, ⟨hl3, hA3⟩, (MapF.nil (r := r_api_Leg)), Own.nil⟩
  refine WP.seg (L2 := (((g5, Obj.cells #[.int .i64 x1.Depot, .int .i64 x1.Shift.From, .int .i64 0, .int .i64 0, .int .i64 p1.Road.Nodes, .slice A1 p1.Road.Edges.length c1, .slice A2 p1.Vehicles.length c2, .slice A3 p1.Demands.length c3, .int .i64 p1.Unload, .int .i64 p1.UnloadSecs, .string x1.ID, .int .i64 x1.Depot, .int .i64 x1.Shift.From, .int .i64 x1.Shift.To, .int .i64 x1.Grams, .int .i64 x1.Kinds, .map (some g4), .slice none 0 0] 73 (0, 0)) :: ((g4, Obj.map #[] 0) :: ([] ++ []))) :: [(g3, .cells #[.string x1.ID, .int .i64 x1.Depot, .int .i64 x1.Shift.From, .int .i64 x1.Shift.To, .int .i64 x1.Grams, .int .i64 x1.Kinds] 46 (0, 0))] :: [(g1, .cells #[.int .i64 p1.Road.Nodes, .slice A1 p1.Road.Edges.length c1, .slice A2 p1.Vehicles.length c2, .slice A3 p1.Demands.length c3, .int .i64 p1.Unload, .int .i64 p1.UnloadSecs] 28 (0, 0))] :: [(g2, .cells #[.int .i64 t1.Vehicle, .slice A4 t1.Stops.length c4] 35 (0, 0))] :: L)) (SegSub.trans (SegSub.flat (by simp [selS])) (SegSub.sel _ [some 0, some 1, some 2, some 3, some 4] 5)) ?_
  obtain ⟨o5340, h5340, h⟩ := obind h
  refine WP.cutK (fun fr_ μ_ L_ => ∃ (q2 : T_tour_walk) (e2 : Int) (f_at2 : Int) (so3 : Seg), (q2, e2, f_at2) = o5340 ∧ SubFr [(8, .pointer (some ⟨g5, 0, none⟩)), (9, .int .i64 e2), (10, .int .i64 f_at2)] fr_ ∧ SegSub (so3 :: L) L_ ∧ Obj_tour_walk μ_ (.pointer (some ⟨g5, 0, none⟩)) q2 so3) ?_ ?_
  · refine WP.block (WP.iter h5340 (fun (j_ : T_tour_walk × Int × Int) fr_ μ_ L_ => ounP j_ fun q1 j_ => ounP j_ fun e1 f_at1 => ∃ (so1 : Seg), SubFr [(3, .pointer (some ⟨g2, 0, none⟩)), (8, .pointer (some ⟨g5, 0, none⟩)), (9, .int .i64 e1), (10, .int .i64 f_at1)] fr_ ∧ SegSub ([(g2, .cells #[.int .i64 t1.Vehicle, .slice A4 t1.Stops.length c4] 35 (0, 0))] :: so1 :: L) L_ ∧ Obj_tour_walk μ_ (.pointer (some ⟨g5, 0, none⟩)) q1 so1) ⟨((g5, Obj.cells #[.int .i64 x1.Depot, .int .i64 x1.Shift.From, .int .i64 0, .int .i64 0, .int .i64 p1.Road.Nodes, .slice A1 p1.Road.Edges.length c1, .slice A2 p1.Vehicles.length c2, .slice A3 p1.Demands.length c3, .int .i64 p1.Unload, .int .i64 p1.UnloadSecs, .string x1.ID, .int .i64 x1.Depot, .int .i64 x1.Shift.From, .int .i64 x1.Shift.To, .int .i64 x1.Grams, .int .i64 x1.Kinds, .map (some g4), .slice none 0 0] 73 (0, 0)) :: ((g4, Obj.map #[] 0) :: ([] ++ []))), SubFr.of ⟨rfl, rfl, rfl, rfl, trivial⟩, SegSub.sel _ [some 3, some 0] 4, (hP1)⟩ ?_)
    rintro ⟨q1, e1, f_at1⟩ q5358 fr5358 μ5358 L5358 hm5358 ⟨so1, hF5358, hS5358, hP2⟩ hb5358 hq5358
    unfold tour_follow_l1 at hb5358
    replace hb5358 := oun_mk hb5358
    replace hb5358 := oun_mk hb5358
    replace hA1 := hA1.mono hm5358
    replace hA2 := hA2.mono hm5358
    replace hA3 := hA3.mono hm5358
    replace hA4 := hA4.mono hm5358
    replace hc4 := hc4.lift hm5358
    replace hP1 := hP1.mono hm5358
    refine WP.at hF5358 hS5358 (WP.seq_k (fun K5366 hK5366 => WP.seq_k (fun K5367 hK5367 => Wr Tt_ok rfl (R_move rfl (Pc rfl rfl (R_fa0 (o' := 1) rfl rfl rfl rfl rfl rfl (Pc rfl rfl (R_load rfl rfl rfl (Ex.mk _ (Cell.seg 0 0 rfl rfl rfl) (P_some rfl (O_cons ?_)))))))))))
    refine O_read rfl (R_lenS rfl rfl rfl (Pc rfl rfl (R_lssD rfl rfl (Pn rfl (hK5367 _ _ _ ?_)))))
    refine W_cond_v (b := (decide (f_at1 < ((t1.Stops.length : Nat) : Int)))) rfl (fun hc5 => ?_) (fun hc5 => ?_)
    · replace hb5358 := cond_t hc5 hb5358
      refine WP.skip (hK5366 _ _ _ (WP.block (WP.seq_k (fun K5368 hK5368 => WP.seq_k (fun K5369 hK5369 => Wr Tt_ok rfl (R_move rfl (Pc rfl rfl (R_loadA rfl rfl rfl rfl (LA_ (vs := [.int .i64 t1.Vehicle, .slice A4 t1.Stops.length c4]) 0 0 rfl rfl rfl rfl (Pc rfl rfl (R_move rfl ?_)))))))))))
      refine P_some rfl (O_cons (O_call (all := [.pointer (some ⟨g5, 0, none⟩), .agg #[.int .i64 t1.Vehicle, .slice A4 t1.Stops.length c4], .int .i64 f_at1]) rfl rfl rfl (Fn.seg (L2 := (so1 :: [(g2, .cells #[.int .i64 t1.Vehicle, .slice A4 t1.Stops.length c4] 35 (0, 0))] :: L)) (SegSub.sel _ [some 1, some 0] 2) ?_)))
      obtain ⟨⟨r1, r2⟩, hx2, hb5358⟩ := obind hb5358
      replace hb5358 := oun_mk hb5358
      refine tour_walk_serve_fn hP2 hl4 hA4 hx2 (fun v2 so2 hm_1 hP3 => ?_)
      replace hA1 := hA1.mono hm_1
      replace hA2 := hA2.mono hm_1
      replace hA3 := hA3.mono hm_1
      replace hA4 := hA4.mono hm_1
      replace hc4 := hc4.lift hm_1
      replace hP1 := hP1.mono hm_1
      replace hP2 := hP2.mono hm_1
      refine Pc rfl rfl (R_assign rfl (Pn rfl (hK5369 _ _ _ (WP.seq_k (fun K5376 hK5376 => Wr Tt_ok rfl (R_move rfl (Pc rfl rfl (R_neqD rfl rfl (Pn rfl ?_)))))))))
      refine hK5376 _ _ _ ?_
      refine W_cond_v (b := !(decide (r1 = 0))) rfl (fun hc6 => ?_) (fun hc6 => ?_)
      · replace hb5358 := cond_t hc6 hb5358
        refine WP.exit (B_out rfl (B_here ?_))
        have e_ := Option.some.inj hb5358
        subst e_
        have hq_ := hq5358 _ rfl
        subst hq_
        exact ⟨r2, r1, f_at1, so2, rfl, SubFr.of ⟨rfl, rfl, rfl, trivial⟩, SegSub.sel _ [some 0] 2, (hP3)⟩
      replace hb5358 := cond_f hc6 hb5358
      refine WP.skip (hK5368 _ _ _ (Wr Tt_ok rfl (R_move rfl (Pc rfl rfl (R_add rfl rfl (Pc rfl rfl (R_assign rfl (Pn rfl ?_))))))))
      have e_ := Option.some.inj hb5358
      subst e_
      exact ⟨_, rfl, so2, SubFr.of ⟨rfl, rfl, rfl, rfl, trivial⟩, SegSub.sel _ [some 1, some 0] 2, (hP3)⟩
    replace hb5358 := cond_f hc5 hb5358
    refine WP.exit (B_here ?_)
    have e_ := Option.some.inj hb5358
    subst e_
    have hq_ := hq5358 _ rfl
    subst hq_
    exact ⟨q1, e1, f_at1, so1, rfl, SubFr.of ⟨rfl, rfl, rfl, trivial⟩, SegSub.sel _ [some 1] 2, (hP2)⟩
  rintro fr5340 μ5340 L5340 hm5340 ⟨q2, e2, f_at2, so3, ho5340, hF5340, hS5340, hP4⟩
  subst ho5340
  replace h := oun_mk h
  replace h := oun_mk h
  replace hA1 := hA1.mono hm5340
  replace hA2 := hA2.mono hm5340
  replace hA3 := hA3.mono hm5340
  replace hA4 := hA4.mono hm5340
  replace hc4 := hc4.lift hm5340
  replace hP1 := hP1.mono hm5340
  refine hK5335 _ _ _ (WP.at hF5340 hS5340 (WP.seq_k (fun K5378 hK5378 => WP.seq_k (fun K5379 hK5379 => Wr Tt_ok rfl (R_move rfl (Pc rfl rfl (R_eqlD rfl rfl (Pn rfl (hK5379 _ _ _ ?_)))))))))
  obtain ⟨o5380, h5380, h⟩ := obind h
  refine WP.cutK (fun fr_ μ_ L_ => ∃ (q3 : T_tour_walk) (e3 : Int) (so5 : Seg), (q3, e3) = o5380 ∧ SubFr [(8, .pointer (some ⟨g5, 0, none⟩)), (9, .int .i64 e3), (10, .int .i64 f_at2)] fr_ ∧ SegSub (so5 :: L) L_ ∧ Obj_tour_walk μ_ (.pointer (some ⟨g5, 0, none⟩)) q3 so5) ?_ ?_
  · refine W_cond_v (b := (decide (e2 = 0))) rfl (fun hc7 => ?_) (fun hc7 => ?_)
    · replace h5380 := cond_t hc7 h5380
      refine Wr Tt_ok rfl (R_move rfl (P_some rfl (O_cons (O_call (all := [.pointer (some ⟨g5, 0, none⟩)]) rfl rfl rfl ?_))))
      obtain ⟨⟨r3, r4⟩, hx3, h5380⟩ := obind h5380
      replace h5380 := oun_mk h5380
      refine tour_walk_back_fn hP4 hx3 (fun v3 so4 hm_2 hP5 => ?_)
      replace hA1 := hA1.mono hm_2
      replace hA2 := hA2.mono hm_2
      replace hA3 := hA3.mono hm_2
      replace hA4 := hA4.mono hm_2
      replace hc4 := hc4.lift hm_2
      replace hP1 := hP1.mono hm_2
      replace hP4 := hP4.mono hm_2
      refine Pc rfl rfl (R_assign rfl (Pn rfl ?_))
      have e_ := Option.some.inj h5380
      subst e_
      exact ⟨r4, r3, so4, rfl, SubFr.of ⟨rfl, rfl, rfl, trivial⟩, SegSub.sel _ [some 0] 1, (hP5)⟩
    replace h5380 := cond_f hc7 h5380
    apply WP.skip
    have e_ := Option.some.inj h5380
    subst e_
    exact ⟨q2, e2, so3, rfl, SubFr.of ⟨rfl, rfl, rfl, trivial⟩, SegSub.sel _ [some 0] 1, (hP4)⟩
  rintro fr5380 μ5380 L5380 hm5380 ⟨q3, e3, so5, ho5380, hF5380, hS5380, hP6⟩
  subst ho5380
  replace h := oun_mk h
  replace hA1 := hA1.mono hm5380
  replace hA2 := hA2.mono hm5380
  replace hA3 := hA3.mono hm5380
  replace hA4 := hA4.mono hm5380
  replace hc4 := hc4.lift hm5380
  replace hP1 := hP1.mono hm5380
  replace hP4 := hP4.mono hm5380
  refine hK5378 _ _ _ (WP.at hF5380 hS5380 (WP.seq_k (fun K5384 hK5384 => WP.seq_k (fun K5385 hK5385 => Wr Tt_ok rfl (R_move rfl (Pc rfl rfl (R_neqD rfl rfl (Pn rfl (hK5385 _ _ _ ?_)))))))))
  refine W_cond_v (b := !(decide (e3 = 0))) rfl (fun hc8 => ?_) (fun hc8 => ?_)
  · replace h := cond_t hc8 h
    refine WP.seq_k (fun K5386 hK5386 => Wr Tt_ok rfl (R_move rfl (Pc rfl rfl (R_move rfl (Pc rfl rfl (R_assign rfl (Pc rfl rfl (R_assign rfl (P_some rfl ?_)))))))))
    refine O_cons (O_read rfl (R_assign rfl (Pn rfl (hK5386 _ _ _ (WP.ret ?_)))))
    have e_ := Option.some.inj h
    obtain ⟨e0a_, e0b_⟩ := Prod.mk.inj e_
    clear e_
    subst e0a_
    obtain ⟨e1a_, e1b_⟩ := Prod.mk.inj e0b_
    clear e0b_
    subst e1a_
    subst e1b_
    refine S_tmp rfl (S_tmp rfl (S_tmp rfl (S_nil (Upd.selS [none] 1 ?_))))
    exact Upd.done (hR _ (.pointer none) [] (Gh.le.trans hm5314 (Gh.le.trans hm5340 (hm5380))) (ObjO.nil))
  replace h := cond_f hc8 h
  refine WP.skip (hK5384 _ _ _ (WP.seq_k (fun K5387 hK5387 => Wr Tt_ok rfl (R_move rfl (Pc rfl rfl (R_assign rfl (Pc rfl rfl (R_assign rfl (Pc rfl rfl ?_)))))))))
  refine R_assign rfl (Pn rfl (hK5387 _ _ _ (WP.ret ?_)))
  have e_ := Option.some.inj h
  obtain ⟨e0a_, e0b_⟩ := Prod.mk.inj e_
  clear e_
  subst e0a_
  obtain ⟨e1a_, e1b_⟩ := Prod.mk.inj e0b_
  clear e0b_
  subst e1a_
  subst e1b_
  refine S_tmp rfl (S_tmp rfl (S_tmp rfl (S_nil (Upd.selS [some 0] 1 ?_))))
  exact Upd.done (hR _ (.pointer (some ⟨g5, 0, none⟩)) so5 (Gh.le.trans hm5314 (Gh.le.trans hm5340 (hm5380))) (hP6))

theorem tour_Walk_fn {μ : Gh} {L : List Seg} {R : Value → Gh → List Seg → Prop} {F : Nat} {p1 : T_api_Problem} {t1 : T_api_Tour} {A1 : Option Addr} {c1 : Nat} {A2 : Option Addr} {c2 : Nat} {A3 : Option Addr} {c3 : Nat} {A4 : Option Addr} {c4 : Nat} {res1 : (List T_api_Visit)} {res2 : Int} {res3 : Int}
    (hl1 : p1.Road.Edges.length ≤ c1 ∧ c1 ≤ maxLen) (hA1 : ArrR r_api_Edge μ A1 p1.Road.Edges) (hl2 : p1.Vehicles.length ≤ c2 ∧ c2 ≤ maxLen) (hA2 : ArrR r_api_Vehicle μ A2 p1.Vehicles) (hl3 : p1.Demands.length ≤ c3 ∧ c3 ≤ maxLen) (hA3 : ArrR r_api_Demand μ A3 p1.Demands) (hl4 : t1.Stops.length ≤ c4 ∧ c4 ≤ maxLen) (hA4 : ArrR rInt μ A4 t1.Stops) (h : tour_Walk F p1 t1 = some (res1, res2, res3))
    (hR : ∀ (μ' : Gh) (A0 : Option Addr) (c0 : Nat) (ch0 : Seg), μ.le μ' → Own r_api_Visit 48 μ' (.slice A0 res1.length c0) res1 ch0 → R (.tuple #[.slice A0 res1.length c0, .int .i64 res2, .int .i64 res3]) μ' (ch0 :: L)) :
    Fn Try.prog 15 [.agg #[.int .i64 p1.Road.Nodes, .slice A1 p1.Road.Edges.length c1, .slice A2 p1.Vehicles.length c2, .slice A3 p1.Demands.length c3, .int .i64 p1.Unload, .int .i64 p1.UnloadSecs], .agg #[.int .i64 t1.Vehicle, .slice A4 t1.Stops.length c4]] μ (L) R := by
  unfold tour_Walk at h
  refine Fn.of_body Tt_ok Try.func15 (by kernel_rfl) rfl Try.ntmps15 (by simp) ?_
  simp only [Try.f15, argFr, List.zipIdx, List.map, Nat.reduceAdd]
  refine WP.seq_k (fun K5413 hK5413 => WP.region Tt_ok (O_cons (O_box (cs := #[.int .i64 p1.Road.Nodes, .slice A1 p1.Road.Edges.length c1, .slice A2 p1.Vehicles.length c2, .slice A3 p1.Demands.length c3, .int .i64 p1.Unload, .int .i64 p1.UnloadSecs]) rfl rfl (fun g1 => P_some rfl (O_cons (O_box (cs := #[.int .i64 t1.Vehicle, .slice A4 t1.Stops.length c4]) rfl rfl (fun g2 => Pc rfl rfl (R_assign rfl (Pc rfl rfl (R_assign rfl (Pc rfl rfl ?_)))))))))))
  refine R_assign rfl (Pn rfl (hK5413 _ _ _ (WP.seq_k (fun K5418 hK5418 => WP.seq_k (fun K5419 hK5419 => Wr Tt_ok rfl (R_loadA rfl rfl rfl rfl (LA_ (vs := [.int .i64 p1.Road.Nodes, .slice A1 p1.Road.Edges.length c1, .slice A2 p1.Vehicles.length c2, .slice A3 p1.Demands.length c3, .int .i64 p1.Unload, .int .i64 p1.UnloadSecs]) 1 0 rfl rfl rfl rfl (P_some rfl (O_cons (O_call (all := [.agg #[.int .i64 p1.Road.Nodes, .slice A1 p1.Road.Edges.length c1, .slice A2 p1.Vehicles.length c2, .slice A3 p1.Demands.length c3, .int .i64 p1.Unload, .int .i64 p1.UnloadSecs]]) rfl rfl rfl ?_))))))))))
  obtain ⟨r1, hx1, h⟩ := obind h
  refine tour_Check_fn hl1 hA1 hl2 hA2 hl3 hA3 hx1 (fun v1 hm_1 => ?_)
  replace hA1 := hA1.mono hm_1
  replace hA2 := hA2.mono hm_1
  replace hA3 := hA3.mono hm_1
  replace hA4 := hA4.mono hm_1
  refine Pc rfl rfl (R_assign rfl (Pn rfl (hK5419 _ _ _ (WP.seq_k (fun K5420 hK5420 => Wr Tt_ok rfl (R_move rfl (Pc rfl rfl (R_neqD rfl rfl (Pn rfl ?_)))))))))
  refine hK5420 _ _ _ ?_
  refine W_cond_v (b := !(decide (r1 = 0))) rfl (fun hc1 => ?_) (fun hc1 => ?_)
  · replace h := cond_t hc1 h
    refine WP.seq_k (fun K5421 hK5421 => Wr Tt_ok rfl (R_move rfl (Pc rfl rfl (R_assign rfl (Pc rfl rfl (R_assign rfl (Pc rfl rfl (R_assign rfl (P_some rfl ?_)))))))))
    refine O_nil (hK5421 _ _ _ (WP.ret ?_))
    have e_ := Option.some.inj h
    obtain ⟨e0a_, e0b_⟩ := Prod.mk.inj e_
    clear e_
    subst e0a_
    obtain ⟨e1a_, e1b_⟩ := Prod.mk.inj e0b_
    clear e0b_
    subst e1a_
    subst e1b_
    refine S_tmp rfl (S_tmp rfl (S_tmp rfl (S_nil (Upd.selS [none] 2 ?_))))
    exact Upd.done (hR _ none 0 [] (hm_1) (Own.nil))
  replace h := cond_f hc1 h
  refine WP.skip (hK5418 _ _ _ (WP.seq_k (fun K5424 hK5424 => Wr Tt_ok rfl (R_loadA rfl rfl rfl rfl (LA_ (vs := [.int .i64 p1.Road.Nodes, .slice A1 p1.Road.Edges.length c1, .slice A2 p1.Vehicles.length c2, .slice A3 p1.Demands.length c3, .int .i64 p1.Unload, .int .i64 p1.UnloadSecs]) 1 0 rfl rfl rfl rfl (Pc rfl rfl (R_loadA rfl rfl rfl rfl (LA_ (vs := [.int .i64 t1.Vehicle, .slice A4 t1.Stops.length c4]) 0 0 rfl rfl rfl rfl (P_some rfl (O_cons (O_call (all := [.agg #[.int .i64 p1.Road.Nodes, .slice A1 p1.Road.Edges.length c1, .slice A2 p1.Vehicles.length c2, .slice A3 p1.Demands.length c3, .int .i64 p1.Unload, .int .i64 p1.UnloadSecs], .agg #[.int .i64 t1.Vehicle, .slice A4 t1.Stops.length c4]]) rfl rfl rfl ?_)))))))))))
  obtain ⟨⟨r2, r3, r4⟩, hx2, h⟩ := obind h
  replace h := oun_mk h
  replace h := oun_mk h
  refine tour_follow_fn hl1 hA1 hl2 hA2 hl3 hA3 hl4 hA4 hx2 (fun v2 pv1 so1 hm_2 hP1 => ?_)
  replace hA1 := hA1.mono hm_2
  replace hA2 := hA2.mono hm_2
  replace hA3 := hA3.mono hm_2
  replace hA4 := hA4.mono hm_2
  refine Pc rfl rfl (R_move rfl (Pc rfl rfl (R_ext rfl rfl (Pc rfl rfl (R_ext rfl rfl (Pc rfl rfl (R_ext rfl rfl (P_some rfl (O_cons ?_)))))))))
  refine O_read rfl (R_assign rfl (Pc rfl rfl (R_assign rfl (Pc rfl rfl (R_assign rfl (Pn rfl (hK5424 _ _ _ (WP.seq_k (fun K5426 hK5426 => WP.seq_k (fun K5427 hK5427 => Wr Tt_ok rfl ?_))))))))))
  refine R_move rfl (Pc rfl rfl (R_neqD rfl rfl (Pn rfl (hK5427 _ _ _ ?_))))
  refine W_cond_v (b := !(decide (r3 = 0))) rfl (fun hc2 => ?_) (fun hc2 => ?_)
  · replace h := cond_t hc2 h
    refine WP.seq_k (fun K5428 hK5428 => Wr Tt_ok rfl (R_move rfl (Pc rfl rfl (R_move rfl (Pc rfl rfl (R_assign rfl (Pc rfl rfl (R_assign rfl (P_some rfl ?_)))))))))
    refine O_cons (O_read rfl (R_assign rfl (Pn rfl (hK5428 _ _ _ (WP.ret ?_)))))
    have e_ := Option.some.inj h
    obtain ⟨e0a_, e0b_⟩ := Prod.mk.inj e_
    clear e_
    subst e0a_
    obtain ⟨e1a_, e1b_⟩ := Prod.mk.inj e0b_
    clear e0b_
    subst e1a_
    subst e1b_
    refine S_tmp rfl (S_tmp rfl (S_tmp rfl (S_nil (Upd.selS [none] 3 ?_))))
    exact Upd.done (hR _ none 0 [] (Gh.le.trans hm_1 (hm_2)) (Own.nil))
  replace h := cond_f hc2 h
  refine WP.skip (hK5426 _ _ _ (WP.seq_k (fun K5433 hK5433 => ?_)))
  obtain ⟨q1, hm_3, h⟩ := obind h
  have hP2 := ObjO.get hP1 hm_3
  obtain ⟨g3, A5, c5, A6, c6, A7, c7, g4, es1, cn1, A8, c8, ch1, hv1, rfl, ⟨hl5, hA5⟩, ⟨hl6, hA6⟩, ⟨hl7, hA7⟩, hM1, hO1⟩ := hP2
  subst hv1
  refine WP.seg (L2 := ([(g3, .cells #[.int .i64 q1.place.node, .int .i64 q1.place.time, .int .i64 q1.place.load, .int .i64 q1.place.meters, .int .i64 q1.p.Road.Nodes, .slice A5 q1.p.Road.Edges.length c5, .slice A6 q1.p.Vehicles.length c6, .slice A7 q1.p.Demands.length c7, .int .i64 q1.p.Unload, .int .i64 q1.p.UnloadSecs, .string q1.v.ID, .int .i64 q1.v.Depot, .int .i64 q1.v.Shift.From, .int .i64 q1.v.Shift.To, .int .i64 q1.v.Grams, .int .i64 q1.v.Kinds, .map (some g4), .slice A8 q1.visits.length c8] 73 (0, 0))] :: [(g4, .map es1 cn1)] :: ch1 :: [(g2, .cells #[.int .i64 t1.Vehicle, .slice A4 t1.Stops.length c4] 35 (0, 0))] :: [(g1, .cells #[.int .i64 p1.Road.Nodes, .slice A1 p1.Road.Edges.length c1, .slice A2 p1.Vehicles.length c2, .slice A3 p1.Demands.length c3, .int .i64 p1.Unload, .int .i64 p1.UnloadSecs] 28 (0, 0))] :: L)) (SegSub.flat (by simp)) ?_
  refine Wr Tt_ok rfl (R_move rfl (Pc rfl rfl (R_nilP rfl (Pc rfl rfl (R_fa0 (o' := 17) rfl rfl rfl rfl rfl rfl (Pc rfl rfl (R_load rfl rfl rfl (Ex.mk _ (Cell.seg 0 0 rfl rfl rfl) (P_some rfl ?_)))))))))
  refine O_cons (O_read rfl (R_assign rfl (Pc rfl rfl (R_assign rfl (Pc rfl rfl (R_assign rfl (Pn rfl (hK5433 _ _ _ (WP.ret ?_)))))))))
  have e_ := Option.some.inj h
  obtain ⟨e0a_, e0b_⟩ := Prod.mk.inj e_
  clear e_
  subst e0a_
  obtain ⟨e1a_, e1b_⟩ := Prod.mk.inj e0b_
  clear e0b_
  subst e1a_
  subst e1b_
  refine S_tmp rfl (S_tmp rfl (S_tmp rfl (S_nil (Upd.selS [some 2] 5 ?_))))
  exact Upd.done (hR _ A8 c8 ch1 (Gh.le.trans hm_1 (hm_2)) (hO1))

theorem tour_Cost_fn {μ : Gh} {L : List Seg} {R : Value → Gh → List Seg → Prop} {F : Nat} {p1 : T_api_Problem} {t1 : T_api_Tour} {A1 : Option Addr} {c1 : Nat} {A2 : Option Addr} {c2 : Nat} {A3 : Option Addr} {c3 : Nat} {A4 : Option Addr} {c4 : Nat} {res1 : Int} {res2 : Int}
    (hl1 : p1.Road.Edges.length ≤ c1 ∧ c1 ≤ maxLen) (hA1 : ArrR r_api_Edge μ A1 p1.Road.Edges) (hl2 : p1.Vehicles.length ≤ c2 ∧ c2 ≤ maxLen) (hA2 : ArrR r_api_Vehicle μ A2 p1.Vehicles) (hl3 : p1.Demands.length ≤ c3 ∧ c3 ≤ maxLen) (hA3 : ArrR r_api_Demand μ A3 p1.Demands) (hl4 : t1.Stops.length ≤ c4 ∧ c4 ≤ maxLen) (hA4 : ArrR rInt μ A4 t1.Stops) (h : tour_Cost F p1 t1 = some (res1, res2))
    (hR : ∀ (μ' : Gh) , μ.le μ' → R (.tuple #[.int .i64 res1, .int .i64 res2]) μ' (L)) :
    Fn Try.prog 18 [.agg #[.int .i64 p1.Road.Nodes, .slice A1 p1.Road.Edges.length c1, .slice A2 p1.Vehicles.length c2, .slice A3 p1.Demands.length c3, .int .i64 p1.Unload, .int .i64 p1.UnloadSecs], .agg #[.int .i64 t1.Vehicle, .slice A4 t1.Stops.length c4]] μ (L) R := by
  unfold tour_Cost at h
  refine Fn.of_body Tt_ok Try.func18 (by kernel_rfl) rfl Try.ntmps18 (by simp) ?_
  simp only [Try.f18, argFr, List.zipIdx, List.map, Nat.reduceAdd]
  refine WP.seq_k (fun K5493 hK5493 => WP.region Tt_ok (O_cons (O_box (cs := #[.int .i64 p1.Road.Nodes, .slice A1 p1.Road.Edges.length c1, .slice A2 p1.Vehicles.length c2, .slice A3 p1.Demands.length c3, .int .i64 p1.Unload, .int .i64 p1.UnloadSecs]) rfl rfl (fun g1 => P_some rfl (O_cons (O_box (cs := #[.int .i64 t1.Vehicle, .slice A4 t1.Stops.length c4]) rfl rfl (fun g2 => Pc rfl rfl (R_assign rfl (Pc rfl rfl (R_assign rfl (Pn rfl (hK5493 _ _ _ ?_))))))))))))
  refine WP.seq_k (fun K5496 hK5496 => WP.seq_k (fun K5497 hK5497 => Wr Tt_ok rfl (R_loadA rfl rfl rfl rfl (LA_ (vs := [.int .i64 p1.Road.Nodes, .slice A1 p1.Road.Edges.length c1, .slice A2 p1.Vehicles.length c2, .slice A3 p1.Demands.length c3, .int .i64 p1.Unload, .int .i64 p1.UnloadSecs]) 1 0 rfl rfl rfl rfl (P_some rfl (O_cons (O_call (all := [.agg #[.int .i64 p1.Road.Nodes, .slice A1 p1.Road.Edges.length c1, .slice A2 p1.Vehicles.length c2, .slice A3 p1.Demands.length c3, .int .i64 p1.Unload, .int .i64 p1.UnloadSecs]]) rfl rfl rfl ?_)))))))
  obtain ⟨r1, hx1, h⟩ := obind h
  refine tour_Check_fn hl1 hA1 hl2 hA2 hl3 hA3 hx1 (fun v1 hm_1 => ?_)
  replace hA1 := hA1.mono hm_1
  replace hA2 := hA2.mono hm_1
  replace hA3 := hA3.mono hm_1
  replace hA4 := hA4.mono hm_1
  refine Pc rfl rfl (R_assign rfl (Pn rfl (hK5497 _ _ _ (WP.seq_k (fun K5498 hK5498 => Wr Tt_ok rfl (R_move rfl (Pc rfl rfl (R_neqD rfl rfl (Pn rfl ?_)))))))))
  refine hK5498 _ _ _ ?_
  refine W_cond_v (b := !(decide (r1 = 0))) rfl (fun hc1 => ?_) (fun hc1 => ?_)
  · replace h := cond_t hc1 h
    refine WP.seq_k (fun K5499 hK5499 => Wr Tt_ok rfl (R_move rfl (Pc rfl rfl (R_assign rfl (Pc rfl rfl (R_assign rfl (Pn rfl (hK5499 _ _ _ (WP.ret ?_)))))))))
    have e_ := Option.some.inj h
    obtain ⟨e0a_, e0b_⟩ := Prod.mk.inj e_
    clear e_
    subst e0a_
    subst e0b_
    refine S_tmp rfl (S_tmp rfl (S_nil (Upd.selS [] 2 ?_)))
    exact Upd.done (hR _ (hm_1))
  replace h := cond_f hc1 h
  refine WP.skip (hK5496 _ _ _ (WP.seq_k (fun K5500 hK5500 => Wr Tt_ok rfl (R_loadA rfl rfl rfl rfl (LA_ (vs := [.int .i64 p1.Road.Nodes, .slice A1 p1.Road.Edges.length c1, .slice A2 p1.Vehicles.length c2, .slice A3 p1.Demands.length c3, .int .i64 p1.Unload, .int .i64 p1.UnloadSecs]) 1 0 rfl rfl rfl rfl (Pc rfl rfl (R_loadA rfl rfl rfl rfl (LA_ (vs := [.int .i64 t1.Vehicle, .slice A4 t1.Stops.length c4]) 0 0 rfl rfl rfl rfl (P_some rfl (O_cons (O_call (all := [.agg #[.int .i64 p1.Road.Nodes, .slice A1 p1.Road.Edges.length c1, .slice A2 p1.Vehicles.length c2, .slice A3 p1.Demands.length c3, .int .i64 p1.Unload, .int .i64 p1.UnloadSecs], .agg #[.int .i64 t1.Vehicle, .slice A4 t1.Stops.length c4]]) rfl rfl rfl ?_)))))))))))
  obtain ⟨⟨r2, r3, r4⟩, hx2, h⟩ := obind h
  replace h := oun_mk h
  replace h := oun_mk h
  refine tour_follow_fn hl1 hA1 hl2 hA2 hl3 hA3 hl4 hA4 hx2 (fun v2 pv1 so1 hm_2 hP1 => ?_)
  replace hA1 := hA1.mono hm_2
  replace hA2 := hA2.mono hm_2
  replace hA3 := hA3.mono hm_2
  replace hA4 := hA4.mono hm_2
  refine Pc rfl rfl (R_move rfl (Pc rfl rfl (R_ext rfl rfl (Pc rfl rfl (R_ext rfl rfl (Pc rfl rfl (R_ext rfl rfl (P_some rfl (O_cons ?_)))))))))
  refine O_read rfl (R_assign rfl (Pc rfl rfl (R_assign rfl (Pc rfl rfl (R_assign rfl (Pn rfl (hK5500 _ _ _ (WP.seq_k (fun K5502 hK5502 => WP.seq_k (fun K5503 hK5503 => Wr Tt_ok rfl ?_))))))))))
  refine R_move rfl (Pc rfl rfl (R_neqD rfl rfl (Pn rfl (hK5503 _ _ _ ?_))))
  refine W_cond_v (b := !(decide (r3 = 0))) rfl (fun hc2 => ?_) (fun hc2 => ?_)
  · replace h := cond_t hc2 h
    refine WP.seq_k (fun K5504 hK5504 => Wr Tt_ok rfl (R_move rfl (Pc rfl rfl (R_assign rfl (Pc rfl rfl (R_assign rfl (Pn rfl (hK5504 _ _ _ (WP.ret ?_)))))))))
    have e_ := Option.some.inj h
    obtain ⟨e0a_, e0b_⟩ := Prod.mk.inj e_
    clear e_
    subst e0a_
    subst e0b_
    refine S_tmp rfl (S_tmp rfl (S_nil (Upd.selS [] 3 ?_)))
    exact Upd.done (hR _ (Gh.le.trans hm_1 (hm_2)))
  replace h := cond_f hc2 h
  refine WP.skip (hK5502 _ _ _ (WP.seq_k (fun K5505 hK5505 => ?_)))
  obtain ⟨q1, hm_3, h⟩ := obind h
  have hP2 := ObjO.get hP1 hm_3
  obtain ⟨g3, A5, c5, A6, c6, A7, c7, g4, es1, cn1, A8, c8, ch1, hv1, rfl, ⟨hl5, hA5⟩, ⟨hl6, hA6⟩, ⟨hl7, hA7⟩, hM1, hO1⟩ := hP2
  subst hv1
  refine WP.seg (L2 := ([(g3, .cells #[.int .i64 q1.place.node, .int .i64 q1.place.time, .int .i64 q1.place.load, .int .i64 q1.place.meters, .int .i64 q1.p.Road.Nodes, .slice A5 q1.p.Road.Edges.length c5, .slice A6 q1.p.Vehicles.length c6, .slice A7 q1.p.Demands.length c7, .int .i64 q1.p.Unload, .int .i64 q1.p.UnloadSecs, .string q1.v.ID, .int .i64 q1.v.Depot, .int .i64 q1.v.Shift.From, .int .i64 q1.v.Shift.To, .int .i64 q1.v.Grams, .int .i64 q1.v.Kinds, .map (some g4), .slice A8 q1.visits.length c8] 73 (0, 0))] :: [(g4, .map es1 cn1)] :: ch1 :: [(g2, .cells #[.int .i64 t1.Vehicle, .slice A4 t1.Stops.length c4] 35 (0, 0))] :: [(g1, .cells #[.int .i64 p1.Road.Nodes, .slice A1 p1.Road.Edges.length c1, .slice A2 p1.Vehicles.length c2, .slice A3 p1.Demands.length c3, .int .i64 p1.Unload, .int .i64 p1.UnloadSecs] 28 (0, 0))] :: L)) (SegSub.flat (by simp)) ?_
  refine Wr Tt_ok rfl (R_move rfl (Pc rfl rfl (R_nilP rfl (Pc rfl rfl (R_fa0 (o' := 0) rfl rfl rfl rfl rfl rfl (Pc rfl rfl (R_fa0 (o' := 3) rfl rfl rfl rfl rfl rfl (P_some rfl (O_cons ?_)))))))))
  refine O_read rfl (R_load rfl rfl rfl (Ex.mk _ (Cell.seg 0 0 rfl rfl rfl) (Pc rfl rfl (R_assign rfl (Pc rfl rfl (R_assign rfl (Pn rfl (hK5505 _ _ _ (WP.ret ?_)))))))))
  have e_ := Option.some.inj h
  obtain ⟨e0a_, e0b_⟩ := Prod.mk.inj e_
  clear e_
  subst e0a_
  subst e0b_
  refine S_tmp rfl (S_tmp rfl (S_nil (Upd.selS [] 5 ?_)))
  exact Upd.done (hR _ (Gh.le.trans hm_1 (hm_2)))

theorem recyclingref22_Same_fn {μ : Gh} {L : List Seg} {R : Value → Gh → List Seg → Prop}  {a1 : (List T_api_Visit)} {b1 : (List T_api_Visit)} {A1 : Option Addr} {c1 : Nat} {A2 : Option Addr} {c2 : Nat} {res1 : Bool}
    (hl1 : a1.length ≤ c1 ∧ c1 ≤ maxLen) (hA1 : Rds r_api_Visit μ L A1 a1) (hl2 : b1.length ≤ c2 ∧ c2 ≤ maxLen) (hA2 : Rds r_api_Visit μ L A2 b1) (h : recyclingref22_Same a1 b1 = some res1)
    (hR : R (.bool res1) μ (L)) :
    Fn Try.prog 17 [.slice A1 a1.length c1, .slice A2 b1.length c2] μ (L) R := by
  unfold recyclingref22_Same at h
  refine Fn.of_body Tt_ok Try.func17 (by kernel_rfl) rfl Try.ntmps17 (by simp) ?_
  simp only [Try.f17, argFr, List.zipIdx, List.map, Nat.reduceAdd]
  refine WP.seq_k (fun K5527 hK5527 => Wr Tt_ok rfl (R_assign rfl (Pn rfl (hK5527 _ _ _ (WP.seq_k (fun K5528 hK5528 => WP.seq_k (fun K5529 hK5529 => Wr Tt_ok rfl (R_move rfl (Pc rfl rfl (R_lenS rfl rfl rfl ?_))))))))))
  refine Pc rfl rfl (R_move rfl (Pc rfl rfl (R_lenS rfl rfl rfl (Pc rfl rfl (R_neqD rfl rfl (Pn rfl (hK5529 _ _ _ ?_)))))))
  refine W_cond_v (b := !(decide (((a1.length : Nat) : Int) = ((b1.length : Nat) : Int)))) rfl (fun hc1 => ?_) (fun hc1 => ?_)
  · replace h := cond_t hc1 h
    refine WP.seq_k (fun K5530 hK5530 => Wr Tt_ok rfl (R_assign rfl (Pn rfl (hK5530 _ _ _ (WP.ret ?_)))))
    have e_ := Option.some.inj h
    subst e_
    refine S_tmp rfl (S_nil (Upd.selS [] 0 ?_))
    exact Upd.done hR
  replace h := cond_f hc1 h
  refine WP.skip (hK5528 _ _ _ (WP.seq_k (fun K5531 hK5531 => WP.seq_k (fun K5532 hK5532 => Wr Tt_ok rfl (R_move rfl (Pc rfl rfl (R_lenS rfl rfl rfl (Pc rfl rfl (R_move rfl (Pn rfl ?_))))))))))
  refine hK5532 _ _ _ ?_
  obtain ⟨o5533, h5533, h⟩ := obind h
  refine WP.cutK (fun fr_ μ_ L_ => (.inl ()) = o5533 ∧ SubFr [] fr_ ∧ SegSub (L) L_ ∧ μ = μ_) ?_ ?_
  · refine WP.block (WP.iter h5533 (fun (v1 : Int) fr_ μ_ L_ => SubFr [(0, .slice A1 a1.length c1), (1, .slice A2 b1.length c2), (12, .int .i64 ((a1.length : Nat) : Int)), (13, .int .i64 v1)] fr_ ∧ SegSub (L) L_ ∧ μ = μ_) ⟨SubFr.of ⟨rfl, rfl, rfl, rfl, trivial⟩, SegSub.sel _ [] 0, rfl⟩ ?_)
    rintro v1 q5541 fr5541 μ5541 L5541 hm5541 ⟨hF5541, hS5541, hu5541⟩ hb5541 hq5541
    unfold recyclingref22_Same_l1 at hb5541
    subst hu5541
    refine WP.at hF5541 hS5541 (WP.seq_k (fun K5542 hK5542 => Wr Tt_ok rfl (R_lssD rfl rfl (Pn rfl (hK5542 _ _ _ (WP.seq_k (fun K5543 hK5543 => ?_)))))))
    refine W_cond_v (b := (decide (v1 < ((a1.length : Nat) : Int)))) rfl (fun hc2 => ?_) (fun hc2 => ?_)
    · replace hb5541 := cond_t hc2 hb5541
      refine WP.skip (hK5543 _ _ _ (WP.seq_k (fun K5544 hK5544 => WP.block (WP.seq_k (fun K5545 hK5545 => Wr Tt_ok rfl (R_move rfl (Pc rfl rfl (R_assign rfl (Pn rfl (hK5545 _ _ _ (WP.seq_k (fun K5546 hK5546 => WP.drawn (id := 6) (l' := List.replicate 9 true) wide Tt_ok _ Kept.refl [(true, 0), (true, 1), (true, 2), (true, 3), (true, 4), (true, 5), (true, 6), (true, 7), (true, 8)] (by kernel_rfl) (by kernel_rfl) rfl ?_))))))))))))
      refine PL_t rfl (R_move rfl (Pt rfl rfl (R_move rfl (Pt rfl rfl ?_))))
      obtain ⟨x1, hx1, hb5541⟩ := obind hb5541
      obtain ⟨a2, cs1, hA3, hr1, _, hc3⟩ := Rds.getI hA1 hx1
      obtain rfl := hr1
      refine R_iaG rfl rfl rfl rfl rfl rfl ⟨(getI_lt hx1).1, (getI_lt hx1).2.1⟩ hA3 (Pt rfl rfl (R_loadA rfl rfl rfl rfl (Ex.mk [.int .i64 x1.Stop, .int .i64 x1.Node, .int .i64 x1.Arrive, .int .i64 x1.Start, .int .i64 x1.Leave, .int .i64 x1.Load] ⟨rfl, hc3⟩ (Pt rfl rfl (R_move rfl (Pt rfl rfl (R_move rfl (Pt rfl rfl ?_))))))))
      obtain ⟨x2, hx2, hb5541⟩ := obind hb5541
      obtain ⟨a3, cs2, hA4, hr2, _, hc4⟩ := Rds.getI hA2 hx2
      obtain rfl := hr2
      refine R_iaG rfl rfl rfl rfl rfl rfl ⟨(getI_lt hx2).1, (getI_lt hx2).2.1⟩ hA4 (Pt rfl rfl (R_loadA rfl rfl rfl rfl (Ex.mk [.int .i64 x2.Stop, .int .i64 x2.Node, .int .i64 x2.Arrive, .int .i64 x2.Start, .int .i64 x2.Leave, .int .i64 x2.Load] ⟨rfl, hc4⟩ (Pt rfl rfl (R_agg rfl rfl (Ex.mk _ (neRun_T_api_Visit x1 x2) (P_some rfl (PL_nil (AN.done0 (by kernel_rfl) (hK5546 _ _ _ ?_))))))))))
      refine W_cond_v (b := !(decide (x1 = x2))) rfl (fun hc5 => ?_) (fun hc5 => ?_)
      · replace hb5541 := cond_t hc5 hb5541
        refine WP.seq_k (fun K5547 hK5547 => Wr Tt_ok rfl (R_assign rfl (Pn rfl (hK5547 _ _ _ (WP.ret ?_)))))
        have e_ := Option.some.inj hb5541
        subst e_
        have hq_ := hq5541 _ rfl
        subst hq_
        replace h := osum_r h
        have e_ := Option.some.inj h
        subst e_
        refine S_tmp rfl (S_nil (Upd.selS [] 0 ?_))
        exact Upd.done hR
      replace hb5541 := cond_f hc5 hb5541
      refine WP.skip (hK5544 _ _ _ (Wr Tt_ok rfl (R_add rfl rfl (Pc rfl rfl (R_move rfl (Pn rfl ?_))))))
      have e_ := Option.some.inj hb5541
      subst e_
      exact ⟨_, rfl, SubFr.of ⟨rfl, rfl, rfl, rfl, trivial⟩, SegSub.sel _ [] 0, rfl⟩
    replace hb5541 := cond_f hc2 hb5541
    refine WP.exit (B_here ?_)
    have e_ := Option.some.inj hb5541
    subst e_
    have hq_ := hq5541 _ rfl
    subst hq_
    exact ⟨rfl, SubFr.of trivial, SegSub.sel _ [] 0, rfl⟩
  rintro fr5533 μ5533 L5533 hm5533 ⟨ho5533, hF5533, hS5533, hu5533⟩
  subst ho5533
  replace h := osum_l h
  subst hu5533
  refine hK5531 _ _ _ (WP.at hF5533 hS5533 (WP.seq_k (fun K5548 hK5548 => Wr Tt_ok rfl (R_assign rfl (Pn rfl (hK5548 _ _ _ (WP.ret ?_)))))))
  have e_ := Option.some.inj h
  subst e_
  refine S_tmp rfl (S_nil (Upd.selS [] 0 ?_))
  exact Upd.done hR

theorem tour_plan_1_fn {μ : Gh} {L : List Seg} {R : Value → Gh → List Seg → Prop}  {u1 : T_api_Tour} {b1 : T_api_Tour} {A1 : Option Addr} {c1 : Nat} {g1 : Nat} {A2 : Option Addr} {c2 : Nat} {res1 : Bool}
    (hl1 : u1.Stops.length ≤ c1 ∧ c1 ≤ maxLen) (hA1 : ArrR rInt μ A1 u1.Stops) (hl2 : b1.Stops.length ≤ c2 ∧ c2 ≤ maxLen) (hA2 : ArrR rInt μ A2 b1.Stops) (h : tour_plan_1 u1 b1 = some res1)
    (hR : R (.bool res1) μ ([(g1, .cells #[.int .i64 b1.Vehicle, .slice A2 b1.Stops.length c2] 35 (0, 0))] :: L)) :
    Fn Try.prog 55 [.agg #[.int .i64 u1.Vehicle, .slice A1 u1.Stops.length c1], .pointer (some ⟨g1, 0, none⟩)] μ ([(g1, .cells #[.int .i64 b1.Vehicle, .slice A2 b1.Stops.length c2] 35 (0, 0))] :: L) R := by
  unfold tour_plan_1 at h
  refine Fn.of_body Tt_ok Try.func55 (by kernel_rfl) rfl Try.ntmps55 (by simp) ?_
  simp only [Try.f55, argFr, List.zipIdx, List.map, Nat.reduceAdd]
  refine WP.seq_k (fun K5619 hK5619 => WP.region Tt_ok (O_cons (O_box (cs := #[.int .i64 u1.Vehicle, .slice A1 u1.Stops.length c1]) rfl rfl (fun g2 => Pc rfl rfl (R_assign rfl (Pn rfl (hK5619 _ _ _ (WP.seq_k (fun K5621 hK5621 => Wr Tt_ok rfl (R_fa0 (o' := 0) rfl rfl rfl rfl rfl rfl (P_some rfl (O_cons ?_))))))))))))
  refine O_read rfl (R_load rfl rfl rfl (Ex.mk _ (Cell.seg 0 0 rfl rfl rfl) (Pc rfl rfl (R_fa0 (o' := 0) rfl rfl rfl rfl rfl rfl (Pc rfl rfl (R_load rfl rfl rfl (Ex.mk _ (Cell.seg 1 0 rfl rfl rfl) (Pc rfl rfl (R_eqlD rfl rfl (P_some rfl (O_cons ?_)))))))))))
  refine O_read rfl (R_assign rfl (Pn rfl (hK5621 _ _ _ (WP.ret ?_))))
  have e_ := Option.some.inj h
  subst e_
  refine S_tmp rfl (S_nil (Upd.seg (L2 := ([(g1, .cells #[.int .i64 b1.Vehicle, .slice A2 b1.Stops.length c2] 35 (0, 0))] :: L)) (SegSub.trans (SegSub.flat (by simp [selS])) (SegSub.sel _ [some 1] 2)) ?_))
  exact Upd.done hR

theorem slices_IndexFunc_Tour_c55_fn {μ : Gh} {L : List Seg} {R : Value → Gh → List Seg → Prop}  {s1 : (List T_api_Tour)} {b1 : T_api_Tour} {A1 : Option Addr} {c1 : Nat} {g1 : Nat} {A2 : Option Addr} {c2 : Nat} {res1 : Int}
    (hl1 : s1.length ≤ c1 ∧ c1 ≤ maxLen) (hA1 : Rds r_api_Tour μ L A1 s1) (hl2 : b1.Stops.length ≤ c2 ∧ c2 ≤ maxLen) (hA2 : ArrR rInt μ A2 b1.Stops) (h : slices_IndexFunc_Tour_c55 s1 b1 = some res1)
    (hR : R (.int .i64 res1) μ ([(g1, .cells #[.int .i64 b1.Vehicle, .slice A2 b1.Stops.length c2] 35 (0, 0))] :: L)) :
    Fn Try.prog 67 [.slice A1 s1.length c1, .func (.func 55) #[] #[.pointer (some ⟨g1, 0, none⟩)]] μ ([(g1, .cells #[.int .i64 b1.Vehicle, .slice A2 b1.Stops.length c2] 35 (0, 0))] :: L) R := by
  unfold slices_IndexFunc_Tour_c55 at h
  refine Fn.of_body Tt_ok Try.func67 (by kernel_rfl) rfl Try.ntmps67 (by simp) ?_
  simp only [Try.f67, argFr, List.zipIdx, List.map, Nat.reduceAdd]
  refine WP.seq_k (fun K5602 hK5602 => Wr Tt_ok rfl (R_assign rfl (Pn rfl (hK5602 _ _ _ (WP.seq_k (fun K5603 hK5603 => WP.seq_k (fun K5604 hK5604 => Wr Tt_ok rfl (R_move rfl (Pc rfl rfl (R_lenS rfl rfl rfl ?_))))))))))
  refine Pc rfl rfl (R_move rfl (Pn rfl (hK5604 _ _ _ ?_)))
  obtain ⟨o5605, h5605, h⟩ := obind h
  refine WP.cutK (fun fr_ μ_ L_ => (.inl ()) = o5605 ∧ SubFr [] fr_ ∧ SegSub ([(g1, .cells #[.int .i64 b1.Vehicle, .slice A2 b1.Stops.length c2] 35 (0, 0))] :: L) L_ ∧ μ = μ_) ?_ ?_
  · refine WP.block (WP.iter h5605 (fun (v1 : Int) fr_ μ_ L_ => SubFr [(0, .slice A1 s1.length c1), (1, .func (.func 55) #[] #[.pointer (some ⟨g1, 0, none⟩)]), (7, .int .i64 ((s1.length : Nat) : Int)), (8, .int .i64 v1)] fr_ ∧ SegSub ([(g1, .cells #[.int .i64 b1.Vehicle, .slice A2 b1.Stops.length c2] 35 (0, 0))] :: L) L_ ∧ μ = μ_) ⟨SubFr.of ⟨rfl, rfl, rfl, rfl, trivial⟩, SegSub.sel _ [some 0] 1, rfl⟩ ?_)
    rintro v1 q5624 fr5624 μ5624 L5624 hm5624 ⟨hF5624, hS5624, hu5624⟩ hb5624 hq5624
    unfold slices_IndexFunc_Tour_c55_l1 at hb5624
    subst hu5624
    refine WP.at hF5624 hS5624 (WP.seq_k (fun K5628 hK5628 => Wr Tt_ok rfl (R_lssD rfl rfl (Pn rfl (hK5628 _ _ _ (WP.seq_k (fun K5629 hK5629 => ?_)))))))
    refine W_cond_v (b := (decide (v1 < ((s1.length : Nat) : Int)))) rfl (fun hc1 => ?_) (fun hc1 => ?_)
    · replace hb5624 := cond_t hc1 hb5624
      refine WP.skip (hK5629 _ _ _ (WP.seq_k (fun K5630 hK5630 => WP.block (WP.seq_k (fun K5631 hK5631 => Wr Tt_ok rfl (R_move rfl (Pc rfl rfl (R_assign rfl (Pn rfl (hK5631 _ _ _ (WP.seq_k (fun K5632 hK5632 => WP.region Tt_ok ?_))))))))))))
      refine O_cons (O_read rfl (R_move rfl (Pc rfl rfl (R_move rfl (Pc rfl rfl (R_move rfl (P_some rfl (O_cons ?_))))))))
      obtain ⟨x1, hx1, hb5624⟩ := obind hb5624
      obtain ⟨a1, cs1, hA3, hr1, _, hc2⟩ := Rds.getI hA1 hx1
      obtain ⟨A3, c3, rfl, hl3, hA4⟩ := hr1
      refine O_read rfl (R_iaG rfl rfl rfl rfl rfl rfl ⟨(getI_lt hx1).1, (getI_lt hx1).2.1⟩ hA3 (Pc rfl rfl (R_loadA rfl rfl rfl rfl (Ex.mk [.int .i64 x1.Vehicle, .slice A3 x1.Stops.length c3] ⟨rfl, (hc2.push)⟩ (P_some rfl (O_cons (O_call (all := [.agg #[.int .i64 x1.Vehicle, .slice A3 x1.Stops.length c3], .pointer (some ⟨g1, 0, none⟩)]) rfl rfl rfl ?_)))))))
      obtain ⟨r1, hx2, hb5624⟩ := obind hb5624
      refine tour_plan_1_fn hl3 hA4 hl2 hA2 hx2 ((Pn rfl (hK5632 _ _ _ ?_)))
      refine W_cond_v (b := r1) rfl (fun hc3 => ?_) (fun hc3 => ?_)
      · replace hb5624 := cond_t hc3 hb5624
        refine WP.seq_k (fun K5635 hK5635 => Wr Tt_ok rfl (R_move rfl (Pc rfl rfl (R_assign rfl (Pn rfl (hK5635 _ _ _ (WP.ret ?_)))))))
        have e_ := Option.some.inj hb5624
        subst e_
        have hq_ := hq5624 _ rfl
        subst hq_
        replace h := osum_r h
        have e_ := Option.some.inj h
        subst e_
        refine S_tmp rfl (S_nil (Upd.seg (L2 := ([(g1, .cells #[.int .i64 b1.Vehicle, .slice A2 b1.Stops.length c2] 35 (0, 0))] :: L)) (SegSub.trans (SegSub.flat (by simp [selS])) (SegSub.sel _ [some 0] 1)) ?_))
        exact Upd.done hR
      replace hb5624 := cond_f hc3 hb5624
      refine WP.skip (hK5630 _ _ _ (Wr Tt_ok rfl (R_add rfl rfl (Pc rfl rfl (R_move rfl (Pn rfl ?_))))))
      have e_ := Option.some.inj hb5624
      subst e_
      exact ⟨_, rfl, SubFr.of ⟨rfl, rfl, rfl, rfl, trivial⟩, SegSub.sel _ [some 0] 1, rfl⟩
    replace hb5624 := cond_f hc1 hb5624
    refine WP.exit (B_here ?_)
    have e_ := Option.some.inj hb5624
    subst e_
    have hq_ := hq5624 _ rfl
    subst hq_
    exact ⟨rfl, SubFr.of trivial, SegSub.sel _ [some 0] 1, rfl⟩
  rintro fr5605 μ5605 L5605 hm5605 ⟨ho5605, hF5605, hS5605, hu5605⟩
  subst ho5605
  replace h := osum_l h
  subst hu5605
  refine hK5603 _ _ _ (WP.at hF5605 hS5605 (WP.seq_k (fun K5638 hK5638 => Wr Tt_ok rfl (R_assign rfl (Pn rfl (hK5638 _ _ _ (WP.ret ?_)))))))
  have e_ := Option.some.inj h
  subst e_
  refine S_tmp rfl (S_nil (Upd.seg (L2 := ([(g1, .cells #[.int .i64 b1.Vehicle, .slice A2 b1.Stops.length c2] 35 (0, 0))] :: L)) (SegSub.trans (SegSub.flat (by simp [selS])) (SegSub.sel _ [some 0] 1)) ?_))
  exact Upd.done hR

theorem slices_ContainsFunc_Tour_c55_fn {μ : Gh} {L : List Seg} {R : Value → Gh → List Seg → Prop}  {s1 : (List T_api_Tour)} {b1 : T_api_Tour} {A1 : Option Addr} {c1 : Nat} {g1 : Nat} {A2 : Option Addr} {c2 : Nat} {res1 : Bool}
    (hl1 : s1.length ≤ c1 ∧ c1 ≤ maxLen) (hA1 : Rds r_api_Tour μ L A1 s1) (hl2 : b1.Stops.length ≤ c2 ∧ c2 ≤ maxLen) (hA2 : ArrR rInt μ A2 b1.Stops) (h : slices_ContainsFunc_Tour_c55 s1 b1 = some res1)
    (hR : R (.bool res1) μ ([(g1, .cells #[.int .i64 b1.Vehicle, .slice A2 b1.Stops.length c2] 35 (0, 0))] :: L)) :
    Fn Try.prog 54 [.slice A1 s1.length c1, .func (.func 55) #[] #[.pointer (some ⟨g1, 0, none⟩)]] μ ([(g1, .cells #[.int .i64 b1.Vehicle, .slice A2 b1.Stops.length c2] 35 (0, 0))] :: L) R := by
  unfold slices_ContainsFunc_Tour_c55 at h
  refine Fn.of_body Tt_ok Try.func54 (by kernel_rfl) rfl Try.ntmps54 (by simp) ?_
  simp only [Try.f54, argFr, List.zipIdx, List.map, Nat.reduceAdd]
  refine WP.seq_k (fun K5597 hK5597 => Wr Tt_ok rfl (R_assign rfl (Pn rfl (hK5597 _ _ _ (WP.seq_k (fun K5598 hK5598 => Wr Tt_ok rfl (R_move rfl (Pc rfl rfl (R_move rfl (P_some rfl ?_))))))))))
  refine O_cons (O_call (all := [.slice A1 s1.length c1, .func (.func 55) #[] #[.pointer (some ⟨g1, 0, none⟩)]]) rfl rfl rfl ?_)
  obtain ⟨r1, hx1, h⟩ := obind h
  refine slices_IndexFunc_Tour_c55_fn hl1 hA1 hl2 hA2 hx1 ((Pc rfl rfl (R_geqD rfl rfl (Pc rfl rfl (R_assign rfl (Pn rfl (hK5598 _ _ _ (WP.ret ?_))))))))
  have e_ := Option.some.inj h
  subst e_
  refine S_tmp rfl (S_nil (Upd.seg (L2 := ([(g1, .cells #[.int .i64 b1.Vehicle, .slice A2 b1.Stops.length c2] 35 (0, 0))] :: L)) (SegSub.trans (SegSub.flat (by simp [selS])) (SegSub.sel _ [some 0] 1)) ?_))
  exact Upd.done hR

theorem tour_plan_2_fn {μ : Gh} {L : List Seg} {R : Value → Gh → List Seg → Prop}  {n1 : Int}  {res1 : Bool}
     (h : tour_plan_2 n1 = some res1)
    (hR : R (.bool res1) μ (L)) :
    Fn Try.prog 57 [.int .i64 n1] μ (L) R := by
  unfold tour_plan_2 at h
  refine Fn.of_body Tt_ok Try.func57 (by kernel_rfl) rfl Try.ntmps57 (by simp) ?_
  simp only [Try.f57, argFr, List.zipIdx, List.map, Nat.reduceAdd]
  refine WP.seq_k (fun K5844 hK5844 => Wr Tt_ok rfl (R_assign rfl (Pn rfl (hK5844 _ _ _ (WP.seq_k (fun K5845 hK5845 => Wr Tt_ok rfl (R_move rfl (Pc rfl rfl (R_gtrD rfl rfl (P_some rfl ?_))))))))))
  refine O_cons (O_read rfl (R_assign rfl (Pn rfl (hK5845 _ _ _ (WP.ret ?_)))))
  have e_ := Option.some.inj h
  subst e_
  refine S_tmp rfl (S_nil (Upd.selS [] 0 ?_))
  exact Upd.done hR

theorem slices_IndexFunc_int_c57_fn {μ : Gh} {L : List Seg} {R : Value → Gh → List Seg → Prop}  {s1 : (List Int)} {A1 : Option Addr} {c1 : Nat} {res1 : Int}
    (hl1 : s1.length ≤ c1 ∧ c1 ≤ maxLen) (hA1 : Rds rInt μ L A1 s1) (h : slices_IndexFunc_int_c57 s1 = some res1)
    (hR : R (.int .i64 res1) μ (L)) :
    Fn Try.prog 68 [.slice A1 s1.length c1, .func (.func 57) #[] #[]] μ (L) R := by
  unfold slices_IndexFunc_int_c57 at h
  refine Fn.of_body Tt_ok Try.func68 (by kernel_rfl) rfl Try.ntmps68 (by simp) ?_
  simp only [Try.f68, argFr, List.zipIdx, List.map, Nat.reduceAdd]
  refine WP.seq_k (fun K5834 hK5834 => Wr Tt_ok rfl (R_assign rfl (Pn rfl (hK5834 _ _ _ (WP.seq_k (fun K5835 hK5835 => WP.seq_k (fun K5836 hK5836 => Wr Tt_ok rfl (R_move rfl (Pc rfl rfl (R_lenS rfl rfl rfl ?_))))))))))
  refine Pc rfl rfl (R_move rfl (Pn rfl (hK5836 _ _ _ ?_)))
  obtain ⟨o5837, h5837, h⟩ := obind h
  refine WP.cutK (fun fr_ μ_ L_ => (.inl ()) = o5837 ∧ SubFr [] fr_ ∧ SegSub (L) L_ ∧ μ = μ_) ?_ ?_
  · refine WP.block (WP.iter h5837 (fun (v1 : Int) fr_ μ_ L_ => SubFr [(0, .slice A1 s1.length c1), (1, .func (.func 57) #[] #[]), (7, .int .i64 ((s1.length : Nat) : Int)), (8, .int .i64 v1)] fr_ ∧ SegSub (L) L_ ∧ μ = μ_) ⟨SubFr.of ⟨rfl, rfl, rfl, rfl, trivial⟩, SegSub.sel _ [] 0, rfl⟩ ?_)
    rintro v1 q5847 fr5847 μ5847 L5847 hm5847 ⟨hF5847, hS5847, hu5847⟩ hb5847 hq5847
    unfold slices_IndexFunc_int_c57_l1 at hb5847
    subst hu5847
    refine WP.at hF5847 hS5847 (WP.seq_k (fun K5848 hK5848 => Wr Tt_ok rfl (R_lssD rfl rfl (Pn rfl (hK5848 _ _ _ (WP.seq_k (fun K5849 hK5849 => ?_)))))))
    refine W_cond_v (b := (decide (v1 < ((s1.length : Nat) : Int)))) rfl (fun hc1 => ?_) (fun hc1 => ?_)
    · replace hb5847 := cond_t hc1 hb5847
      refine WP.skip (hK5849 _ _ _ (WP.seq_k (fun K5850 hK5850 => WP.block (WP.seq_k (fun K5851 hK5851 => Wr Tt_ok rfl (R_move rfl (Pc rfl rfl (R_assign rfl (Pn rfl (hK5851 _ _ _ (WP.seq_k (fun K5852 hK5852 => WP.region Tt_ok ?_))))))))))))
      refine O_cons (O_read rfl (R_move rfl (Pc rfl rfl (R_move rfl (Pc rfl rfl (R_move rfl (P_some rfl (O_cons ?_))))))))
      obtain ⟨x1, hx1, hb5847⟩ := obind hb5847
      obtain ⟨a1, cs1, hA2, hr1, _, hc2⟩ := Rds.getI hA1 hx1
      obtain rfl := hr1
      refine O_read rfl (R_iaG rfl rfl rfl rfl rfl rfl ⟨(getI_lt hx1).1, (getI_lt hx1).2.1⟩ hA2 (Pc rfl rfl (R_load rfl rfl rfl (Ex.mk _ (Cell.of_cells0 hc2 rfl) (P_some rfl (O_cons (O_call (all := [.int .i64 x1]) rfl rfl rfl ?_)))))))
      obtain ⟨r1, hx2, hb5847⟩ := obind hb5847
      refine tour_plan_2_fn  hx2 ((Pn rfl (hK5852 _ _ _ ?_)))
      refine W_cond_v (b := r1) rfl (fun hc3 => ?_) (fun hc3 => ?_)
      · replace hb5847 := cond_t hc3 hb5847
        refine WP.seq_k (fun K5853 hK5853 => Wr Tt_ok rfl (R_move rfl (Pc rfl rfl (R_assign rfl (Pn rfl (hK5853 _ _ _ (WP.ret ?_)))))))
        have e_ := Option.some.inj hb5847
        subst e_
        have hq_ := hq5847 _ rfl
        subst hq_
        replace h := osum_r h
        have e_ := Option.some.inj h
        subst e_
        refine S_tmp rfl (S_nil (Upd.selS [] 0 ?_))
        exact Upd.done hR
      replace hb5847 := cond_f hc3 hb5847
      refine WP.skip (hK5850 _ _ _ (Wr Tt_ok rfl (R_add rfl rfl (Pc rfl rfl (R_move rfl (Pn rfl ?_))))))
      have e_ := Option.some.inj hb5847
      subst e_
      exact ⟨_, rfl, SubFr.of ⟨rfl, rfl, rfl, rfl, trivial⟩, SegSub.sel _ [] 0, rfl⟩
    replace hb5847 := cond_f hc1 hb5847
    refine WP.exit (B_here ?_)
    have e_ := Option.some.inj hb5847
    subst e_
    have hq_ := hq5847 _ rfl
    subst hq_
    exact ⟨rfl, SubFr.of trivial, SegSub.sel _ [] 0, rfl⟩
  rintro fr5837 μ5837 L5837 hm5837 ⟨ho5837, hF5837, hS5837, hu5837⟩
  subst ho5837
  replace h := osum_l h
  subst hu5837
  refine hK5835 _ _ _ (WP.at hF5837 hS5837 (WP.seq_k (fun K5854 hK5854 => Wr Tt_ok rfl (R_assign rfl (Pn rfl (hK5854 _ _ _ (WP.ret ?_)))))))
  have e_ := Option.some.inj h
  subst e_
  refine S_tmp rfl (S_nil (Upd.selS [] 0 ?_))
  exact Upd.done hR

theorem slices_ContainsFunc_int_c57_fn {μ : Gh} {L : List Seg} {R : Value → Gh → List Seg → Prop}  {s1 : (List Int)} {A1 : Option Addr} {c1 : Nat} {res1 : Bool}
    (hl1 : s1.length ≤ c1 ∧ c1 ≤ maxLen) (hA1 : Rds rInt μ L A1 s1) (h : slices_ContainsFunc_int_c57 s1 = some res1)
    (hR : R (.bool res1) μ (L)) :
    Fn Try.prog 56 [.slice A1 s1.length c1, .func (.func 57) #[] #[]] μ (L) R := by
  unfold slices_ContainsFunc_int_c57 at h
  refine Fn.of_body Tt_ok Try.func56 (by kernel_rfl) rfl Try.ntmps56 (by simp) ?_
  simp only [Try.f56, argFr, List.zipIdx, List.map, Nat.reduceAdd]
  refine WP.seq_k (fun K5831 hK5831 => Wr Tt_ok rfl (R_assign rfl (Pn rfl (hK5831 _ _ _ (WP.seq_k (fun K5832 hK5832 => Wr Tt_ok rfl (R_move rfl (Pc rfl rfl (R_move rfl (P_some rfl ?_))))))))))
  refine O_cons (O_call (all := [.slice A1 s1.length c1, .func (.func 57) #[] #[]]) rfl rfl rfl ?_)
  obtain ⟨r1, hx1, h⟩ := obind h
  refine slices_IndexFunc_int_c57_fn hl1 hA1 hx1 ((Pc rfl rfl (R_geqD rfl rfl (Pc rfl rfl (R_assign rfl (Pn rfl (hK5832 _ _ _ (WP.ret ?_))))))))
  have e_ := Option.some.inj h
  subst e_
  refine S_tmp rfl (S_nil (Upd.selS [] 0 ?_))
  exact Upd.done hR

theorem tour_plan_fn {μ : Gh} {L : List Seg} {R : Value → Gh → List Seg → Prop} {F : Nat} {p1 : T_api_Problem} {x1 : T_api_Plan} {A1 : Option Addr} {c1 : Nat} {A2 : Option Addr} {c2 : Nat} {A3 : Option Addr} {c3 : Nat} {A4 : Option Addr} {c4 : Nat} {A5 : Option Addr} {c5 : Nat} {res1 : Int} {res2 : Int}
    (hl1 : p1.Road.Edges.length ≤ c1 ∧ c1 ≤ maxLen) (hA1 : ArrR r_api_Edge μ A1 p1.Road.Edges) (hl2 : p1.Vehicles.length ≤ c2 ∧ c2 ≤ maxLen) (hA2 : ArrR r_api_Vehicle μ A2 p1.Vehicles) (hl3 : p1.Demands.length ≤ c3 ∧ c3 ≤ maxLen) (hA3 : ArrR r_api_Demand μ A3 p1.Demands) (hl4 : x1.Tours.length ≤ c4 ∧ c4 ≤ maxLen) (hA4 : ArrR r_api_Tour μ A4 x1.Tours) (hl5 : x1.Left.length ≤ c5 ∧ c5 ≤ maxLen) (hA5 : ArrR rInt μ A5 x1.Left) (h : tour_plan F p1 x1 = some (res1, res2))
    (hR : ∀ (μ' : Gh) , μ.le μ' → R (.tuple #[.int .i64 res1, .int .i64 res2]) μ' (L)) :
    Fn Try.prog 39 [.agg #[.int .i64 p1.Road.Nodes, .slice A1 p1.Road.Edges.length c1, .slice A2 p1.Vehicles.length c2, .slice A3 p1.Demands.length c3, .int .i64 p1.Unload, .int .i64 p1.UnloadSecs], .agg #[.slice A4 x1.Tours.length c4, .slice A5 x1.Left.length c5]] μ (L) R := by
  unfold tour_plan at h
  refine Fn.of_body Tt_ok Try.func39 (by kernel_rfl) rfl Try.ntmps39 (by simp) ?_
  simp only [Try.f39, argFr, List.zipIdx, List.map, Nat.reduceAdd]
  refine WP.seq_k (fun K5865 hK5865 => WP.region Tt_ok (O_cons (O_box (cs := #[.int .i64 p1.Road.Nodes, .slice A1 p1.Road.Edges.length c1, .slice A2 p1.Vehicles.length c2, .slice A3 p1.Demands.length c3, .int .i64 p1.Unload, .int .i64 p1.UnloadSecs]) rfl rfl (fun g1 => P_some rfl (O_cons (O_box (cs := #[.slice A4 x1.Tours.length c4, .slice A5 x1.Left.length c5]) rfl rfl (fun g2 => Pc rfl rfl (R_assign rfl (Pc rfl rfl (R_assign rfl (Pn rfl (hK5865 _ _ _ ?_))))))))))))
  refine WP.seq_k (fun K5868 hK5868 => WP.seq_k (fun K5869 hK5869 => Wr Tt_ok rfl (R_loadA rfl rfl rfl rfl (LA_ (vs := [.int .i64 p1.Road.Nodes, .slice A1 p1.Road.Edges.length c1, .slice A2 p1.Vehicles.length c2, .slice A3 p1.Demands.length c3, .int .i64 p1.Unload, .int .i64 p1.UnloadSecs]) 1 0 rfl rfl rfl rfl (P_some rfl (O_cons (O_call (all := [.agg #[.int .i64 p1.Road.Nodes, .slice A1 p1.Road.Edges.length c1, .slice A2 p1.Vehicles.length c2, .slice A3 p1.Demands.length c3, .int .i64 p1.Unload, .int .i64 p1.UnloadSecs]]) rfl rfl rfl ?_)))))))
  obtain ⟨r1, hx1, h⟩ := obind h
  refine tour_Check_fn hl1 hA1 hl2 hA2 hl3 hA3 hx1 (fun v1 hm_1 => ?_)
  replace hA1 := hA1.mono hm_1
  replace hA2 := hA2.mono hm_1
  replace hA3 := hA3.mono hm_1
  replace hA4 := hA4.mono hm_1
  replace hA5 := hA5.mono hm_1
  refine Pc rfl rfl (R_assign rfl (Pn rfl (hK5869 _ _ _ (WP.seq_k (fun K5870 hK5870 => Wr Tt_ok rfl (R_move rfl (Pc rfl rfl (R_neqD rfl rfl (Pn rfl ?_)))))))))
  refine hK5870 _ _ _ ?_
  refine W_cond_v (b := !(decide (r1 = 0))) rfl (fun hc1 => ?_) (fun hc1 => ?_)
  · replace h := cond_t hc1 h
    refine WP.seq_k (fun K5871 hK5871 => Wr Tt_ok rfl (R_move rfl (Pc rfl rfl (R_assign rfl (Pc rfl rfl (R_assign rfl (Pn rfl (hK5871 _ _ _ (WP.ret ?_)))))))))
    have e_ := Option.some.inj h
    obtain ⟨e0a_, e0b_⟩ := Prod.mk.inj e_
    clear e_
    subst e0a_
    subst e0b_
    refine S_tmp rfl (S_tmp rfl (S_nil (Upd.selS [] 2 ?_)))
    exact Upd.done (hR _ (hm_1))
  replace h := cond_f hc1 h
  refine WP.skip (hK5868 _ _ _ (WP.seq_k (fun K5872 hK5872 => Wr Tt_ok rfl (R_assign rfl (Pn rfl (hK5872 _ _ _ (WP.seq_k (fun K5873 hK5873 => WP.seq_k (fun K5874 hK5874 => Wr Tt_ok rfl (R_fa0 (o' := 0) rfl rfl rfl rfl rfl rfl (P_some rfl (O_cons ?_))))))))))))
  refine O_read rfl (R_load rfl rfl rfl (Ex.mk _ (Cell.seg 0 0 rfl rfl rfl) (Pc rfl rfl (R_lenS rfl rfl rfl (Pc rfl rfl (R_move rfl (Pn rfl (hK5874 _ _ _ ?_))))))))
  obtain ⟨o5875, h5875, h⟩ := obind h
  refine WP.cutK (fun fr_ μ_ L_ => ∃ (sum2 : Int), (.inl sum2) = o5875 ∧ SubFr [(2, .pointer (some ⟨g1, 0, none⟩)), (3, .pointer (some ⟨g2, 0, none⟩)), (7, .int .i64 sum2)] fr_ ∧ SegSub ([(g1, .cells #[.int .i64 p1.Road.Nodes, .slice A1 p1.Road.Edges.length c1, .slice A2 p1.Vehicles.length c2, .slice A3 p1.Demands.length c3, .int .i64 p1.Unload, .int .i64 p1.UnloadSecs] 28 (0, 0))] :: [(g2, .cells #[.slice A4 x1.Tours.length c4, .slice A5 x1.Left.length c5] 56 (0, 0))] :: L) L_) ?_ ?_
  · refine WP.block (WP.iter h5875 (fun (j_ : Int × Int) fr_ μ_ L_ => ounP j_ fun sum1 v2 => SubFr [(2, .pointer (some ⟨g1, 0, none⟩)), (3, .pointer (some ⟨g2, 0, none⟩)), (7, .int .i64 sum1), (26, .slice A4 x1.Tours.length c4), (27, .int .i64 ((x1.Tours.length : Nat) : Int)), (28, .int .i64 v2)] fr_ ∧ SegSub ([(g1, .cells #[.int .i64 p1.Road.Nodes, .slice A1 p1.Road.Edges.length c1, .slice A2 p1.Vehicles.length c2, .slice A3 p1.Demands.length c3, .int .i64 p1.Unload, .int .i64 p1.UnloadSecs] 28 (0, 0))] :: [(g2, .cells #[.slice A4 x1.Tours.length c4, .slice A5 x1.Left.length c5] 56 (0, 0))] :: L) L_) ⟨SubFr.of ⟨rfl, rfl, rfl, rfl, rfl, rfl, trivial⟩, SegSub.sel _ [some 1, some 0] 2⟩ ?_)
    rintro ⟨sum1, v2⟩ q5917 fr5917 μ5917 L5917 hm5917 ⟨hF5917, hS5917⟩ hb5917 hq5917
    unfold tour_plan_l1 at hb5917
    replace hb5917 := oun_mk hb5917
    replace hA1 := hA1.mono hm5917
    replace hA2 := hA2.mono hm5917
    replace hA3 := hA3.mono hm5917
    replace hA4 := hA4.mono hm5917
    replace hA5 := hA5.mono hm5917
    refine WP.at hF5917 hS5917 (WP.seq_k (fun K5924 hK5924 => Wr Tt_ok rfl (R_lssD rfl rfl (Pn rfl (hK5924 _ _ _ (WP.seq_k (fun K5925 hK5925 => ?_)))))))
    refine W_cond_v (b := (decide (v2 < ((x1.Tours.length : Nat) : Int)))) rfl (fun hc2 => ?_) (fun hc2 => ?_)
    · replace hb5917 := cond_t hc2 hb5917
      refine WP.skip (hK5925 _ _ _ (WP.seq_k (fun K5926 hK5926 => WP.block (WP.seq_k (fun K5927 hK5927 => Wr Tt_ok rfl (R_move rfl (P_some rfl (O_cons ?_))))))))
      obtain ⟨x2, hx2, hb5917⟩ := obind hb5917
      obtain ⟨a1, cs1, hA6, hr1, _, hc3⟩ := Rds.getI (ArrR.rds hA4 L) hx2
      obtain ⟨A6, c6, rfl, hl6, hA7⟩ := hr1
      refine O_read rfl (R_iaG rfl rfl rfl rfl rfl rfl ⟨(getI_lt hx2).1, (getI_lt hx2).2.1⟩ hA6 (Pc rfl rfl (R_loadA rfl rfl rfl rfl (Ex.mk [.int .i64 x2.Vehicle, .slice A6 x2.Stops.length c6] ⟨rfl, (hc3.push.push)⟩ (P_some rfl (O_cons (O_alloc (cs := #[.int .i64 0, .slice none 0 0]) rfl rfl (fun g3 => Pc rfl rfl (R_assign rfl (P_some rfl (O_cons (O_store (vs := [.int .i64 x2.Vehicle, .slice A6 x2.Stops.length c6]) rfl rfl rfl rfl rfl rfl (ST_ (L' := ([(g3, .cells #[.int .i64 x2.Vehicle, .slice A6 x2.Stops.length c6] 35 (0, 0))] :: [(g1, .cells #[.int .i64 p1.Road.Nodes, .slice A1 p1.Road.Edges.length c1, .slice A2 p1.Vehicles.length c2, .slice A3 p1.Demands.length c3, .int .i64 p1.Unload, .int .i64 p1.UnloadSecs] 28 (0, 0))] :: [(g2, .cells #[.slice A4 x1.Tours.length c4, .slice A5 x1.Left.length c5] 56 (0, 0))] :: L)) 0 0 rfl rfl rfl rfl ?_)))))))))))))
      refine P_none (O_nil (hK5927 _ _ _ (WP.seq_k (fun K5932 hK5932 => WP.seq_k (fun K5933 hK5933 => Wr Tt_ok rfl (R_fa0 (o' := 0) rfl rfl rfl rfl rfl rfl (Pc rfl rfl (R_load rfl rfl rfl (Ex.mk _ (Cell.seg 2 0 rfl rfl rfl) (Pc rfl rfl (R_move rfl ?_)))))))))))
      refine P_some rfl (O_cons ?_)
      obtain ⟨l1, hs1, hb5917⟩ := obind hb5917
      refine O_read rfl (R_slHiS rfl rfl rfl rfl rfl rfl hl4.1 hs1 ?_)
      have hA8 := ArrR.pre hA4 hs1
      have hl7 := preLen hl4 hs1
      refine Pc rfl rfl (R_mkf rfl rfl (P_some rfl (O_cons (O_call (all := [.slice A4 l1.length c4, .func (.func 55) #[] #[.pointer (some ⟨g3, 0, none⟩)]]) rfl rfl rfl ?_))))
      obtain ⟨r2, hx3, hb5917⟩ := obind hb5917
      refine slices_ContainsFunc_Tour_c55_fn hl7 (ArrR.rds hA8 ([(g1, .cells #[.int .i64 p1.Road.Nodes, .slice A1 p1.Road.Edges.length c1, .slice A2 p1.Vehicles.length c2, .slice A3 p1.Demands.length c3, .int .i64 p1.Unload, .int .i64 p1.UnloadSecs] 28 (0, 0))] :: [(g2, .cells #[.slice A4 x1.Tours.length c4, .slice A5 x1.Left.length c5] 56 (0, 0))] :: L)) hl6 hA7 hx3 ((Pn rfl (hK5933 _ _ _ ?_)))
      refine W_cond_v (b := r2) rfl (fun hc4 => ?_) (fun hc4 => ?_)
      · replace hb5917 := cond_t hc4 hb5917
        refine WP.seq_k (fun K5938 hK5938 => Wr Tt_ok rfl (R_assign rfl (Pc rfl rfl (R_assign rfl (Pn rfl (hK5938 _ _ _ (WP.ret ?_)))))))
        have e_ := Option.some.inj hb5917
        subst e_
        have hq_ := hq5917 _ rfl
        subst hq_
        replace h := osum_r h
        have e_ := Option.some.inj h
        obtain ⟨e0a_, e0b_⟩ := Prod.mk.inj e_
        clear e_
        subst e0a_
        subst e0b_
        refine S_tmp rfl (S_tmp rfl (S_nil (Upd.selS [] 3 ?_)))
        exact Upd.done (hR _ (Gh.le.trans hm_1 (hm5917)))
      replace hb5917 := cond_f hc4 hb5917
      refine WP.skip (hK5932 _ _ _ (WP.seq_k (fun K5939 hK5939 => Wr Tt_ok rfl (R_loadA rfl rfl rfl rfl (LA_ (vs := [.int .i64 p1.Road.Nodes, .slice A1 p1.Road.Edges.length c1, .slice A2 p1.Vehicles.length c2, .slice A3 p1.Demands.length c3, .int .i64 p1.Unload, .int .i64 p1.UnloadSecs]) 1 0 rfl rfl rfl rfl (Pc rfl rfl (R_loadA rfl rfl rfl rfl (LA_ (vs := [.int .i64 x2.Vehicle, .slice A6 x2.Stops.length c6]) 0 0 rfl rfl rfl rfl (P_some rfl (O_cons (O_call (all := [.agg #[.int .i64 p1.Road.Nodes, .slice A1 p1.Road.Edges.length c1, .slice A2 p1.Vehicles.length c2, .slice A3 p1.Demands.length c3, .int .i64 p1.Unload, .int .i64 p1.UnloadSecs], .agg #[.int .i64 x2.Vehicle, .slice A6 x2.Stops.length c6]]) rfl rfl rfl ?_)))))))))))
      obtain ⟨⟨r3, r4, r5⟩, hx4, hb5917⟩ := obind hb5917
      replace hb5917 := oun_mk hb5917
      replace hb5917 := oun_mk hb5917
      refine tour_follow_fn hl1 hA1 hl2 hA2 hl3 hA3 hl6 hA7 hx4 (fun v3 pv1 so1 hm_2 hP1 => ?_)
      replace hA1 := hA1.mono hm_2
      replace hA2 := hA2.mono hm_2
      replace hA3 := hA3.mono hm_2
      replace hA4 := hA4.mono hm_2
      replace hA5 := hA5.mono hm_2
      replace hA7 := hA7.mono hm_2
      replace hc3 := hc3.lift hm_2
      replace hA8 := hA8.mono hm_2
      refine Pc rfl rfl (R_move rfl (Pc rfl rfl (R_ext rfl rfl (Pc rfl rfl (R_ext rfl rfl (Pc rfl rfl (R_ext rfl rfl (P_some rfl (O_cons ?_)))))))))
      refine O_read rfl (R_assign rfl (Pc rfl rfl (R_assign rfl (Pc rfl rfl (R_assign rfl (Pn rfl (hK5939 _ _ _ (WP.seq_k (fun K5941 hK5941 => WP.seq_k (fun K5942 hK5942 => Wr Tt_ok rfl ?_))))))))))
      refine R_move rfl (Pc rfl rfl (R_neqD rfl rfl (Pn rfl (hK5942 _ _ _ ?_))))
      refine W_cond_v (b := !(decide (r4 = 0))) rfl (fun hc5 => ?_) (fun hc5 => ?_)
      · replace hb5917 := cond_t hc5 hb5917
        refine WP.seq_k (fun K5943 hK5943 => Wr Tt_ok rfl (R_move rfl (Pc rfl rfl (R_assign rfl (Pc rfl rfl (R_assign rfl (Pn rfl (hK5943 _ _ _ (WP.ret ?_)))))))))
        have e_ := Option.some.inj hb5917
        subst e_
        have hq_ := hq5917 _ rfl
        subst hq_
        replace h := osum_r h
        have e_ := Option.some.inj h
        obtain ⟨e0a_, e0b_⟩ := Prod.mk.inj e_
        clear e_
        subst e0a_
        subst e0b_
        refine S_tmp rfl (S_tmp rfl (S_nil (Upd.selS [] 4 ?_)))
        exact Upd.done (hR _ (Gh.le.trans hm_1 (Gh.le.trans hm5917 (hm_2))))
      replace hb5917 := cond_f hc5 hb5917
      refine WP.skip (hK5941 _ _ _ ?_)
      obtain ⟨q1, hm_3, hb5917⟩ := obind hb5917
      have hP2 := ObjO.get hP1 hm_3
      obtain ⟨g4, A7, c7, A8, c8, A9, c9, g5, es1, cn1, A10, c10, ch1, hv1, rfl, ⟨hl8, hA9⟩, ⟨hl9, hA10⟩, ⟨hl10, hA11⟩, hM1, hO1⟩ := hP2
      subst hv1
      refine WP.seg (L2 := ([(g4, .cells #[.int .i64 q1.place.node, .int .i64 q1.place.time, .int .i64 q1.place.load, .int .i64 q1.place.meters, .int .i64 q1.p.Road.Nodes, .slice A7 q1.p.Road.Edges.length c7, .slice A8 q1.p.Vehicles.length c8, .slice A9 q1.p.Demands.length c9, .int .i64 q1.p.Unload, .int .i64 q1.p.UnloadSecs, .string q1.v.ID, .int .i64 q1.v.Depot, .int .i64 q1.v.Shift.From, .int .i64 q1.v.Shift.To, .int .i64 q1.v.Grams, .int .i64 q1.v.Kinds, .map (some g5), .slice A10 q1.visits.length c10] 73 (0, 0))] :: [(g5, .map es1 cn1)] :: ch1 :: [(g3, .cells #[.int .i64 x2.Vehicle, .slice A6 x2.Stops.length c6] 35 (0, 0))] :: [(g1, .cells #[.int .i64 p1.Road.Nodes, .slice A1 p1.Road.Edges.length c1, .slice A2 p1.Vehicles.length c2, .slice A3 p1.Demands.length c3, .int .i64 p1.Unload, .int .i64 p1.UnloadSecs] 28 (0, 0))] :: [(g2, .cells #[.slice A4 x1.Tours.length c4, .slice A5 x1.Left.length c5] 56 (0, 0))] :: L)) (SegSub.flat (by simp)) ?_
      refine Wr Tt_ok rfl (R_move rfl (Pc rfl rfl (R_move rfl (Pc rfl rfl (R_nilP rfl (Pc rfl rfl (R_fa0 (o' := 0) rfl rfl rfl rfl rfl rfl (P_some rfl (O_cons ?_)))))))))
      refine O_read rfl (R_fa0 (o' := 3) rfl rfl rfl rfl rfl rfl (Pc rfl rfl (R_load rfl rfl rfl (Ex.mk _ (Cell.seg 0 0 rfl rfl rfl) (Pc rfl rfl (R_add rfl rfl (Pc rfl rfl (R_assign rfl (Pn rfl (hK5926 _ _ _ ?_))))))))))
      refine Wr Tt_ok rfl (R_add rfl rfl (Pc rfl rfl (R_move rfl (Pn rfl ?_))))
      have e_ := Option.some.inj hb5917
      subst e_
      exact ⟨_, rfl, SubFr.of ⟨rfl, rfl, rfl, rfl, rfl, rfl, trivial⟩, SegSub.sel _ [some 4, some 5] 6⟩
    replace hb5917 := cond_f hc2 hb5917
    refine WP.exit (B_here ?_)
    have e_ := Option.some.inj hb5917
    subst e_
    have hq_ := hq5917 _ rfl
    subst hq_
    exact ⟨sum1, rfl, SubFr.of ⟨rfl, rfl, rfl, trivial⟩, SegSub.sel _ [some 0, some 1] 2⟩
  rintro fr5875 μ5875 L5875 hm5875 ⟨sum2, ho5875, hF5875, hS5875⟩
  subst ho5875
  replace h := osum_l h
  replace hA1 := hA1.mono hm5875
  replace hA2 := hA2.mono hm5875
  replace hA3 := hA3.mono hm5875
  replace hA4 := hA4.mono hm5875
  replace hA5 := hA5.mono hm5875
  refine hK5873 _ _ _ (WP.at hF5875 hS5875 (WP.seq_k (fun K5962 hK5962 => Wr Tt_ok rfl (R_fa0 (o' := 3) rfl rfl rfl rfl rfl rfl (Pc rfl rfl (R_load rfl rfl rfl (Ex.mk _ (Cell.seg 0 0 rfl rfl rfl) (Pc rfl rfl (R_lenS rfl rfl rfl (P_some rfl (O_cons ?_)))))))))))
  apply O_mksl; exact rfl; exact rfl
  obtain ⟨l2, hn1, h⟩ := obind h
  refine sem_mkO (r := rInt) (z := 0) (zc := [.int .i64 0]) Tt_ok rfl rfl rfl rfl rfl (rfl) rfl hn1 fun A11 c11 ch2 hO2 => Pc rfl rfl (R_assign rfl (Pn rfl (hK5962 _ _ _ (WP.seq_k (fun K5964 hK5964 => WP.seq_k (fun K5965 hK5965 => Wr Tt_ok rfl (R_fa0 (o' := 1) rfl rfl rfl rfl rfl rfl (Pc rfl rfl (R_load rfl rfl rfl ?_)))))))))
  refine Ex.mk _ (Cell.seg 2 0 rfl rfl rfl) (Pc rfl rfl (R_lenS rfl rfl rfl (Pc rfl rfl (R_move rfl (Pn rfl (hK5965 _ _ _ ?_))))))
  obtain ⟨o5966, h5966, h⟩ := obind h
  refine WP.cutK (fun fr_ μ_ L_ => ∃ (times2 : (List Int)) (A13 : Option Addr) (c13 : Nat) (ch5 : Seg), (.inl times2) = o5966 ∧ SubFr [(3, .pointer (some ⟨g2, 0, none⟩)), (7, .int .i64 sum2), (13, .slice A13 times2.length c13)] fr_ ∧ SegSub ([(g2, .cells #[.slice A4 x1.Tours.length c4, .slice A5 x1.Left.length c5] 56 (0, 0))] :: ch5 :: L) L_ ∧ Own rInt 3 μ_ (.slice A13 times2.length c13) times2 ch5) ?_ ?_
  · refine WP.block (WP.iter h5966 (fun (j_ : (List Int) × Int) fr_ μ_ L_ => ounP j_ fun times1 v4 => ∃ (A12 : Option Addr) (c12 : Nat) (ch3 : Seg), SubFr [(3, .pointer (some ⟨g2, 0, none⟩)), (7, .int .i64 sum2), (13, .slice A12 times1.length c12), (62, .slice A5 x1.Left.length c5), (63, .int .i64 ((x1.Left.length : Nat) : Int)), (64, .int .i64 v4)] fr_ ∧ SegSub ([(g2, .cells #[.slice A4 x1.Tours.length c4, .slice A5 x1.Left.length c5] 56 (0, 0))] :: ch3 :: L) L_ ∧ Own rInt 3 μ_ (.slice A12 times1.length c12) times1 ch3) ⟨A11, c11, ch2, SubFr.of ⟨rfl, rfl, rfl, rfl, rfl, rfl, trivial⟩, SegSub.sel _ [some 2, some 0] 3, (hO2)⟩ ?_)
    rintro ⟨times1, v4⟩ q5984 fr5984 μ5984 L5984 hm5984 ⟨A12, c12, ch3, hF5984, hS5984, hO3⟩ hb5984 hq5984
    unfold tour_plan_l2 at hb5984
    replace hb5984 := oun_mk hb5984
    replace hA1 := hA1.mono hm5984
    replace hA2 := hA2.mono hm5984
    replace hA3 := hA3.mono hm5984
    replace hA4 := hA4.mono hm5984
    replace hA5 := hA5.mono hm5984
    replace hO2 := hO2.mono hm5984
    refine WP.at hF5984 hS5984 (WP.seq_k (fun K5990 hK5990 => Wr Tt_ok rfl (R_lssD rfl rfl (Pn rfl (hK5990 _ _ _ (WP.seq_k (fun K5991 hK5991 => ?_)))))))
    refine W_cond_v (b := (decide (v4 < ((x1.Left.length : Nat) : Int)))) rfl (fun hc6 => ?_) (fun hc6 => ?_)
    · replace hb5984 := cond_t hc6 hb5984
      refine WP.skip (hK5991 _ _ _ (WP.seq_k (fun K5992 hK5992 => WP.block (WP.seq_k (fun K5993 hK5993 => WP.region Tt_ok (O_cons ?_))))))
      obtain ⟨x3, hx5, hb5984⟩ := obind hb5984
      obtain ⟨a2, cs2, hA12, hr2, _, hc7⟩ := Rds.getI (ArrR.rds hA5 L) hx5
      obtain rfl := hr2
      refine O_read rfl (R_iaG rfl rfl rfl rfl rfl rfl ⟨(getI_lt hx5).1, (getI_lt hx5).2.1⟩ hA12 (Pc rfl rfl (R_load rfl rfl rfl (Ex.mk _ (Cell.of_cells0 (hc7.push.push) rfl) (Pc rfl rfl (R_assign rfl (Pn rfl (hK5993 _ _ _ (WP.seq_k (fun K5994 hK5994 => WP.seq_k (fun K5995 hK5995 => ?_)))))))))))
      obtain ⟨o5996, h5996, hb5984⟩ := obind hb5984
      refine WP.cutK (fun fr_ μ_ L_ => ∃ (v5 : Bool), v5 = o5996 ∧ SubFr [(3, .pointer (some ⟨g2, 0, none⟩)), (7, .int .i64 sum2), (13, .slice A12 times1.length c12), (15, .int .i64 x3), (62, .slice A5 x1.Left.length c5), (63, .int .i64 ((x1.Left.length : Nat) : Int)), (64, .int .i64 v4), (75, .bool v5)] fr_ ∧ SegSub ([(g2, .cells #[.slice A4 x1.Tours.length c4, .slice A5 x1.Left.length c5] 56 (0, 0))] :: ch3 :: L) L_) ?_ ?_
      · refine Wr Tt_ok rfl (R_move rfl (Pc rfl rfl (R_lssD rfl rfl (Pc rfl rfl (R_move rfl (P_some rfl ?_))))))
        refine O_gv (z := (decide (x3 < 0))) rfl rfl (fun hc8 => ?_) (fun hc8 => ?_)
        · replace h5996 := cond_f hc8 h5996
          refine O_read rfl (R_move rfl (P_some rfl (O_gY rfl rfl hc8 (O_read rfl (R_move rfl (P_some rfl (O_gY rfl rfl hc8 (O_read rfl (R_lenS rfl rfl rfl (P_some rfl (O_gY rfl rfl hc8 (O_read rfl (R_geqD rfl rfl (Pc rfl rfl (R_pick_F rfl hc8 rfl ?_)))))))))))))))
          refine Pn rfl ?_
          have e_ := Option.some.inj h5996
          subst e_
          exact ⟨(decide (((times1.length : Nat) : Int) ≤ x3)), rfl, SubFr.of ⟨rfl, rfl, rfl, rfl, rfl, rfl, rfl, rfl, trivial⟩, SegSub.sel _ [some 0, some 1] 2⟩
        replace h5996 := cond_t hc8 h5996
        refine P_some rfl (O_gN rfl rfl hc8 (P_some rfl (O_gN rfl rfl hc8 (P_some rfl (O_gN rfl rfl hc8 (Pc rfl rfl (R_pick_T rfl hc8 rfl (Pn rfl ?_))))))))
        have e_ := Option.some.inj h5996
        subst e_
        exact ⟨true, rfl, SubFr.of ⟨rfl, rfl, rfl, rfl, rfl, rfl, rfl, rfl, trivial⟩, SegSub.sel _ [some 0, some 1] 2⟩
      rintro fr5996 μ5996 L5996 hm5996 ⟨v5, ho5996, hF5996, hS5996⟩
      subst ho5996
      replace hA1 := hA1.mono hm5996
      replace hA2 := hA2.mono hm5996
      replace hA3 := hA3.mono hm5996
      replace hA4 := hA4.mono hm5996
      replace hA5 := hA5.mono hm5996
      replace hO2 := hO2.mono hm5996
      replace hO3 := hO3.mono hm5996
      replace hc7 := hc7.lift hm5996
      refine hK5995 _ _ _ (WP.at hF5996 hS5996 ?_)
      refine W_cond_v (b := v5) rfl (fun hc9 => ?_) (fun hc9 => ?_)
      · replace hb5984 := cond_t hc9 hb5984
        refine WP.seq_k (fun K5999 hK5999 => Wr Tt_ok rfl (R_assign rfl (Pc rfl rfl (R_assign rfl (Pn rfl (hK5999 _ _ _ (WP.ret ?_)))))))
        have e_ := Option.some.inj hb5984
        subst e_
        have hq_ := hq5984 _ rfl
        subst hq_
        replace h := osum_r h
        have e_ := Option.some.inj h
        obtain ⟨e0a_, e0b_⟩ := Prod.mk.inj e_
        clear e_
        subst e0a_
        subst e0b_
        refine S_tmp rfl (S_tmp rfl (S_nil (Upd.selS [] 2 ?_)))
        exact Upd.done (hR _ (Gh.le.trans hm_1 (Gh.le.trans hm5875 (Gh.le.trans hm5984 (hm5996)))))
      replace hb5984 := cond_f hc9 hb5984
      refine WP.skip (hK5994 _ _ _ (Wr Tt_ok rfl (R_move rfl (Pc rfl rfl (R_move rfl (P_some rfl (O_cons ?_)))))))
      obtain ⟨x4, hx6, hb5984⟩ := obind hb5984
      obtain ⟨a3, cs3, hA13, hr3, _, hc10⟩ := Rds.getI (Own.rds (L := ([(g2, .cells #[.slice A4 x1.Tours.length c4, .slice A5 x1.Left.length c5] 56 (0, 0))] :: ch3 :: L)) hO3 1 rfl) hx6
      obtain rfl := hr3
      refine O_read rfl (R_iaG rfl rfl rfl rfl rfl rfl ⟨(getI_lt hx6).1, (getI_lt hx6).2.1⟩ hA13 (Pc rfl rfl (R_load rfl rfl rfl (Ex.mk _ (Cell.of_cells0 hc10 rfl) (Pc rfl rfl (R_add rfl rfl (P_some rfl (O_cons ?_))))))))
      obtain ⟨x5, hx7, hb5984⟩ := obind hb5984
      obtain ⟨a4, cs4, hA14, hr4, _, hc11⟩ := Rds.getI (Own.rds (L := ([(g2, .cells #[.slice A4 x1.Tours.length c4, .slice A5 x1.Left.length c5] 56 (0, 0))] :: ch3 :: L)) hO3 1 rfl) hx7
      obtain rfl := hr4
      refine O_read rfl (R_iaG rfl rfl rfl rfl rfl rfl ⟨(getI_lt hx7).1, (getI_lt hx7).2.1⟩ hA14 (P_some rfl (O_cons (O_store (vs := [.int .i64 (w64 (x4 + 1))]) rfl rfl rfl rfl rfl rfl ?_))))
      rw [← Addr.add_zero' ((a4.add (x3.toNat * 1)))]
      refine Own.store (r := rInt) (x' := w64 (x4 + 1)) (o := 0) (sz := 1) 1 rfl hO3 hA14 hx7 rfl rfl (by rintro _ rfl; rfl) fun ch4 hO4 => ?_
      rw [← length_setI times1 x3 (w64 (x4 + 1))] at hO4 ⊢
      refine P_none (O_nil (hK5992 _ _ _ (Wr Tt_ok rfl (R_add rfl rfl (Pc rfl rfl (R_move rfl (Pn rfl ?_)))))))
      have e_ := Option.some.inj hb5984
      subst e_
      exact ⟨_, rfl, A12, c12, ch4, SubFr.of ⟨rfl, rfl, rfl, rfl, rfl, rfl, trivial⟩, SegSub.sel _ [some 0, some 1] 2, (hO4)⟩
    replace hb5984 := cond_f hc6 hb5984
    refine WP.exit (B_here ?_)
    have e_ := Option.some.inj hb5984
    subst e_
    have hq_ := hq5984 _ rfl
    subst hq_
    exact ⟨times1, A12, c12, ch3, rfl, SubFr.of ⟨rfl, rfl, rfl, trivial⟩, SegSub.sel _ [some 0, some 1] 2, (hO3)⟩
  rintro fr5966 μ5966 L5966 hm5966 ⟨times2, A13, c13, ch5, ho5966, hF5966, hS5966, hO5⟩
  subst ho5966
  replace h := osum_l h
  replace hA1 := hA1.mono hm5966
  replace hA2 := hA2.mono hm5966
  replace hA3 := hA3.mono hm5966
  replace hA4 := hA4.mono hm5966
  replace hA5 := hA5.mono hm5966
  replace hO2 := hO2.mono hm5966
  refine hK5964 _ _ _ (WP.at hF5966 hS5966 (WP.seq_k (fun K6005 hK6005 => WP.seq_k (fun K6006 hK6006 => Wr Tt_ok rfl (R_fa0 (o' := 0) rfl rfl rfl rfl rfl rfl (Pc rfl rfl (R_load rfl rfl rfl (Ex.mk _ (Cell.seg 0 0 rfl rfl rfl) (Pc rfl rfl (R_lenS rfl rfl rfl (P_some rfl ?_)))))))))))
  refine O_cons (O_read rfl (R_move rfl (Pn rfl (hK6006 _ _ _ ?_))))
  obtain ⟨o6007, h6007, h⟩ := obind h
  refine WP.cutK (fun fr_ μ_ L_ => ∃ (times8 : (List Int)) (A20 : Option Addr) (c20 : Nat) (ch12 : Seg), times8 = o6007 ∧ SubFr [(7, .int .i64 sum2), (13, .slice A20 times8.length c20)] fr_ ∧ SegSub (ch12 :: L) L_ ∧ Own rInt 3 μ_ (.slice A20 times8.length c20) times8 ch12) ?_ ?_
  · refine WP.block (WP.iter h6007 (fun (j_ : (List Int) × Int) fr_ μ_ L_ => ounP j_ fun times3 v6 => ∃ (A14 : Option Addr) (c14 : Nat) (ch6 : Seg), SubFr [(7, .int .i64 sum2), (13, .slice A14 times3.length c14), (84, .slice A4 x1.Tours.length c4), (85, .int .i64 ((x1.Tours.length : Nat) : Int)), (86, .int .i64 v6)] fr_ ∧ SegSub (ch6 :: L) L_ ∧ Own rInt 3 μ_ (.slice A14 times3.length c14) times3 ch6) ⟨A13, c13, ch5, SubFr.of ⟨rfl, rfl, rfl, rfl, rfl, trivial⟩, SegSub.sel _ [some 1] 2, (hO5)⟩ ?_)
    rintro ⟨times3, v6⟩ q6044 fr6044 μ6044 L6044 hm6044 ⟨A14, c14, ch6, hF6044, hS6044, hO6⟩ hb6044 hq6044
    unfold tour_plan_l4 at hb6044
    replace hb6044 := oun_mk hb6044
    replace hA1 := hA1.mono hm6044
    replace hA2 := hA2.mono hm6044
    replace hA3 := hA3.mono hm6044
    replace hA4 := hA4.mono hm6044
    replace hA5 := hA5.mono hm6044
    replace hO2 := hO2.mono hm6044
    replace hO5 := hO5.mono hm6044
    refine WP.at hF6044 hS6044 (WP.seq_k (fun K6047 hK6047 => Wr Tt_ok rfl (R_lssD rfl rfl (Pn rfl (hK6047 _ _ _ (WP.seq_k (fun K6048 hK6048 => ?_)))))))
    refine W_cond_v (b := (decide (v6 < ((x1.Tours.length : Nat) : Int)))) rfl (fun hc12 => ?_) (fun hc12 => ?_)
    · replace hb6044 := cond_t hc12 hb6044
      refine WP.skip (hK6048 _ _ _ (WP.seq_k (fun K6049 hK6049 => ?_)))
      obtain ⟨o6050, h6050, hb6044⟩ := obind hb6044
      refine WP.cutK (fun fr_ μ_ L_ => ∃ (times7 : (List Int)) (A19 : Option Addr) (c19 : Nat) (ch11 : Seg), times7 = o6050 ∧ SubFr [(7, .int .i64 sum2), (13, .slice A19 times7.length c19), (84, .slice A4 x1.Tours.length c4), (85, .int .i64 ((x1.Tours.length : Nat) : Int)), (86, .int .i64 v6)] fr_ ∧ SegSub (ch11 :: L) L_ ∧ Own rInt 3 μ_ (.slice A19 times7.length c19) times7 ch11) ?_ ?_
      · refine WP.block (WP.seq_k (fun K6051 hK6051 => WP.region Tt_ok (O_cons ?_)))
        obtain ⟨x6, hx8, h6050⟩ := obind h6050
        obtain ⟨a5, cs5, hA15, hr5, _, hc13⟩ := Rds.getI (ArrR.rds hA4 L) hx8
        obtain ⟨A15, c15, rfl, hl11, hA16⟩ := hr5
        refine O_read rfl (R_iaG rfl rfl rfl rfl rfl rfl ⟨(getI_lt hx8).1, (getI_lt hx8).2.1⟩ hA15 (Pc rfl rfl (R_loadA rfl rfl rfl rfl (Ex.mk [.int .i64 x6.Vehicle, .slice A15 x6.Stops.length c15] ⟨rfl, (hc13.push)⟩ (P_some rfl (O_cons (O_alloc (cs := #[.int .i64 0, .slice none 0 0]) rfl rfl (fun g6 => P_some rfl (O_cons (O_store (vs := [.int .i64 x6.Vehicle, .slice A15 x6.Stops.length c15]) rfl rfl rfl rfl rfl rfl (ST_ (L' := ([(g6, .cells #[.int .i64 x6.Vehicle, .slice A15 x6.Stops.length c15] 35 (0, 0))] :: ch6 :: L)) 0 0 rfl rfl rfl rfl (P_none (O_nil (hK6051 _ _ _ (WP.seq_k (fun K6056 hK6056 => ?_))))))))))))))))
        refine Wr Tt_ok rfl (R_fa0 (o' := 1) rfl rfl rfl rfl rfl rfl (Pc rfl rfl (R_load rfl rfl rfl (Ex.mk _ (Cell.seg 0 0 rfl rfl rfl) (Pc rfl rfl (R_lenS rfl rfl rfl (Pc rfl rfl (R_move rfl (P_some rfl ?_)))))))))
        refine O_nil (hK6056 _ _ _ ?_)
        obtain ⟨o6057, h6057, h6050⟩ := obind h6050
        refine WP.cutK (fun fr_ μ_ L_ => ∃ (times6 : (List Int)) (A18 : Option Addr) (c18 : Nat) (ch10 : Seg), times6 = o6057 ∧ SubFr [(7, .int .i64 sum2), (13, .slice A18 times6.length c18), (84, .slice A4 x1.Tours.length c4), (85, .int .i64 ((x1.Tours.length : Nat) : Int)), (86, .int .i64 v6)] fr_ ∧ SegSub (ch10 :: L) L_ ∧ Own rInt 3 μ_ (.slice A18 times6.length c18) times6 ch10) ?_ ?_
        · refine WP.block (WP.iter h6057 (fun (j_ : (List Int) × Int) fr_ μ_ L_ => ounP j_ fun times4 v7 => ∃ (A16 : Option Addr) (c16 : Nat) (ch7 : Seg), SubFr [(7, .int .i64 sum2), (13, .slice A16 times4.length c16), (84, .slice A4 x1.Tours.length c4), (85, .int .i64 ((x1.Tours.length : Nat) : Int)), (86, .int .i64 v6), (91, .slice A15 x6.Stops.length c15), (92, .int .i64 ((x6.Stops.length : Nat) : Int)), (93, .int .i64 v7)] fr_ ∧ SegSub (ch7 :: L) L_ ∧ Own rInt 3 μ_ (.slice A16 times4.length c16) times4 ch7) ⟨A14, c14, ch6, SubFr.of ⟨rfl, rfl, rfl, rfl, rfl, rfl, rfl, rfl, trivial⟩, SegSub.sel _ [some 1] 2, (hO6)⟩ ?_)
          rintro ⟨times4, v7⟩ q6068 fr6068 μ6068 L6068 hm6068 ⟨A16, c16, ch7, hF6068, hS6068, hO7⟩ hb6068 hq6068
          unfold tour_plan_l3 at hb6068
          replace hb6068 := oun_mk hb6068
          replace hA1 := hA1.mono hm6068
          replace hA2 := hA2.mono hm6068
          replace hA3 := hA3.mono hm6068
          replace hA4 := hA4.mono hm6068
          replace hA5 := hA5.mono hm6068
          replace hO2 := hO2.mono hm6068
          replace hO5 := hO5.mono hm6068
          replace hO6 := hO6.mono hm6068
          replace hA16 := hA16.mono hm6068
          replace hc13 := hc13.lift hm6068
          refine WP.at hF6068 hS6068 (WP.seq_k (fun K6071 hK6071 => Wr Tt_ok rfl (R_lssD rfl rfl (Pn rfl (hK6071 _ _ _ (WP.seq_k (fun K6072 hK6072 => ?_)))))))
          refine W_cond_v (b := (decide (v7 < ((x6.Stops.length : Nat) : Int)))) rfl (fun hc14 => ?_) (fun hc14 => ?_)
          · replace hb6068 := cond_t hc14 hb6068
            refine WP.skip (hK6072 _ _ _ (WP.seq_k (fun K6073 hK6073 => ?_)))
            obtain ⟨o6074, h6074, hb6068⟩ := obind hb6068
            refine WP.cutK (fun fr_ μ_ L_ => ∃ (times5 : (List Int)) (A17 : Option Addr) (c17 : Nat) (ch9 : Seg), times5 = o6074 ∧ SubFr [(7, .int .i64 sum2), (13, .slice A17 times5.length c17), (84, .slice A4 x1.Tours.length c4), (85, .int .i64 ((x1.Tours.length : Nat) : Int)), (86, .int .i64 v6), (91, .slice A15 x6.Stops.length c15), (92, .int .i64 ((x6.Stops.length : Nat) : Int)), (93, .int .i64 v7)] fr_ ∧ SegSub (ch9 :: L) L_ ∧ Own rInt 3 μ_ (.slice A17 times5.length c17) times5 ch9) ?_ ?_
            · refine WP.block (WP.seq_k (fun K6075 hK6075 => WP.region Tt_ok (O_cons ?_)))
              obtain ⟨x7, hx9, h6074⟩ := obind h6074
              obtain ⟨a6, cs6, hA17, hr6, _, hc15⟩ := Rds.getI (ArrR.rds hA16 L) hx9
              obtain rfl := hr6
              refine O_read rfl (R_iaG rfl rfl rfl rfl rfl rfl ⟨(getI_lt hx9).1, (getI_lt hx9).2.1⟩ hA17 (Pc rfl rfl (R_load rfl rfl rfl (Ex.mk _ (Cell.of_cells0 (hc15.push) rfl) (Pc rfl rfl (R_assign rfl (Pn rfl (hK6075 _ _ _ (WP.seq_k (fun K6076 hK6076 => Wr Tt_ok rfl ?_))))))))))
              refine R_move rfl (Pc rfl rfl (R_neqD rfl rfl (Pn rfl (hK6076 _ _ _ ?_))))
              refine W_cond_v (b := !(decide (x7 = (-1)))) rfl (fun hc16 => ?_) (fun hc16 => ?_)
              · replace h6074 := cond_t hc16 h6074
                refine Wr Tt_ok rfl (R_move rfl (Pc rfl rfl (R_move rfl (P_some rfl (O_cons ?_)))))
                obtain ⟨x8, hx10, h6074⟩ := obind h6074
                obtain ⟨a7, cs7, hA18, hr7, _, hc17⟩ := Rds.getI (Own.rds (L := (ch7 :: L)) hO7 0 rfl) hx10
                obtain rfl := hr7
                refine O_read rfl (R_iaG rfl rfl rfl rfl rfl rfl ⟨(getI_lt hx10).1, (getI_lt hx10).2.1⟩ hA18 (Pc rfl rfl (R_load rfl rfl rfl (Ex.mk _ (Cell.of_cells0 hc17 rfl) (Pc rfl rfl (R_add rfl rfl (P_some rfl (O_cons ?_))))))))
                obtain ⟨x9, hx11, h6074⟩ := obind h6074
                obtain ⟨a8, cs8, hA19, hr8, _, hc18⟩ := Rds.getI (Own.rds (L := (ch7 :: L)) hO7 0 rfl) hx11
                obtain rfl := hr8
                refine O_read rfl (R_iaG rfl rfl rfl rfl rfl rfl ⟨(getI_lt hx11).1, (getI_lt hx11).2.1⟩ hA19 (P_some rfl (O_cons (O_store (vs := [.int .i64 (w64 (x8 + 1))]) rfl rfl rfl rfl rfl rfl ?_))))
                rw [← Addr.add_zero' ((a8.add (x7.toNat * 1)))]
                refine Own.store (r := rInt) (x' := w64 (x8 + 1)) (o := 0) (sz := 1) 0 rfl hO7 hA19 hx11 rfl rfl (by rintro _ rfl; rfl) fun ch8 hO8 => ?_
                rw [← length_setI times4 x7 (w64 (x8 + 1))] at hO8 ⊢
                refine P_none (O_nil ?_)
                have e_ := Option.some.inj h6074
                subst e_
                exact ⟨(setI times4 x7 (w64 (x8 + 1))), A16, c16, ch8, rfl, SubFr.of ⟨rfl, rfl, rfl, rfl, rfl, rfl, rfl, rfl, trivial⟩, SegSub.sel _ [some 0] 1, (hO8)⟩
              replace h6074 := cond_f hc16 h6074
              apply WP.skip
              have e_ := Option.some.inj h6074
              subst e_
              exact ⟨times4, A16, c16, ch7, rfl, SubFr.of ⟨rfl, rfl, rfl, rfl, rfl, rfl, rfl, rfl, trivial⟩, SegSub.sel _ [some 0] 1, (hO7)⟩
            rintro fr6074 μ6074 L6074 hm6074 ⟨times5, A17, c17, ch9, ho6074, hF6074, hS6074, hO9⟩
            subst ho6074
            replace hA1 := hA1.mono hm6074
            replace hA2 := hA2.mono hm6074
            replace hA3 := hA3.mono hm6074
            replace hA4 := hA4.mono hm6074
            replace hA5 := hA5.mono hm6074
            replace hO2 := hO2.mono hm6074
            replace hO5 := hO5.mono hm6074
            replace hO6 := hO6.mono hm6074
            replace hA16 := hA16.mono hm6074
            replace hc13 := hc13.lift hm6074
            replace hO7 := hO7.mono hm6074
            refine hK6073 _ _ _ (WP.at hF6074 hS6074 (Wr Tt_ok rfl (R_add rfl rfl (Pc rfl rfl (R_move rfl (Pn rfl ?_))))))
            have e_ := Option.some.inj hb6068
            subst e_
            exact ⟨_, rfl, A17, c17, ch9, SubFr.of ⟨rfl, rfl, rfl, rfl, rfl, rfl, rfl, rfl, trivial⟩, SegSub.sel _ [some 0] 1, (hO9)⟩
          replace hb6068 := cond_f hc14 hb6068
          refine WP.exit (B_here ?_)
          have e_ := Option.some.inj hb6068
          subst e_
          have hq_ := hq6068 _ rfl
          subst hq_
          exact ⟨times4, A16, c16, ch7, rfl, SubFr.of ⟨rfl, rfl, rfl, rfl, rfl, trivial⟩, SegSub.sel _ [some 0] 1, (hO7)⟩
        rintro fr6057 μ6057 L6057 hm6057 ⟨times6, A18, c18, ch10, ho6057, hF6057, hS6057, hO10⟩
        subst ho6057
        replace hA1 := hA1.mono hm6057
        replace hA2 := hA2.mono hm6057
        replace hA3 := hA3.mono hm6057
        replace hA4 := hA4.mono hm6057
        replace hA5 := hA5.mono hm6057
        replace hO2 := hO2.mono hm6057
        replace hO5 := hO5.mono hm6057
        replace hO6 := hO6.mono hm6057
        replace hA16 := hA16.mono hm6057
        replace hc13 := hc13.lift hm6057
        have e_ := Option.some.inj h6050
        subst e_
        exact ⟨times6, A18, c18, ch10, rfl, SubFr.trans (fr := [(7, .int .i64 sum2), (13, .slice A18 times6.length c18), (84, .slice A4 x1.Tours.length c4), (85, .int .i64 ((x1.Tours.length : Nat) : Int)), (86, .int .i64 v6)]) (SubFr.of ⟨rfl, rfl, rfl, rfl, rfl, trivial⟩) hF6057, SegSub.trans (M := (ch10 :: L)) (SegSub.sel _ [some 0] 1) hS6057, (hO10)⟩
      rintro fr6050 μ6050 L6050 hm6050 ⟨times7, A19, c19, ch11, ho6050, hF6050, hS6050, hO11⟩
      subst ho6050
      replace hA1 := hA1.mono hm6050
      replace hA2 := hA2.mono hm6050
      replace hA3 := hA3.mono hm6050
      replace hA4 := hA4.mono hm6050
      replace hA5 := hA5.mono hm6050
      replace hO2 := hO2.mono hm6050
      replace hO5 := hO5.mono hm6050
      replace hO6 := hO6.mono hm6050
      refine hK6049 _ _ _ (WP.at hF6050 hS6050 (Wr Tt_ok rfl (R_add rfl rfl (Pc rfl rfl (R_move rfl (Pn rfl ?_))))))
      have e_ := Option.some.inj hb6044
      subst e_
      exact ⟨_, rfl, A19, c19, ch11, SubFr.of ⟨rfl, rfl, rfl, rfl, rfl, trivial⟩, SegSub.sel _ [some 0] 1, (hO11)⟩
    replace hb6044 := cond_f hc12 hb6044
    refine WP.exit (B_here ?_)
    have e_ := Option.some.inj hb6044
    subst e_
    have hq_ := hq6044 _ rfl
    subst hq_
    exact ⟨times3, A14, c14, ch6, rfl, SubFr.of ⟨rfl, rfl, trivial⟩, SegSub.sel _ [some 0] 1, (hO6)⟩
  rintro fr6007 μ6007 L6007 hm6007 ⟨times8, A20, c20, ch12, ho6007, hF6007, hS6007, hO12⟩
  subst ho6007
  replace hA1 := hA1.mono hm6007
  replace hA2 := hA2.mono hm6007
  replace hA3 := hA3.mono hm6007
  replace hA4 := hA4.mono hm6007
  replace hA5 := hA5.mono hm6007
  replace hO2 := hO2.mono hm6007
  replace hO5 := hO5.mono hm6007
  refine hK6005 _ _ _ (WP.at hF6007 hS6007 (WP.seq_k (fun K6082 hK6082 => WP.seq_k (fun K6083 hK6083 => Wr Tt_ok rfl (R_move rfl (P_some rfl (O_cons (O_call (all := [.slice A20 times8.length c20, .func (.func 57) #[] #[]]) rfl rfl rfl ?_))))))))
  obtain ⟨r6, hx12, h⟩ := obind h
  refine slices_ContainsFunc_int_c57_fn (Own.lenOk hO12) (Own.rds (L := (ch12 :: L)) hO12 0 rfl) hx12 ((Pn rfl (hK6083 _ _ _ ?_)))
  refine W_cond_v (b := r6) rfl (fun hc19 => ?_) (fun hc19 => ?_)
  · replace h := cond_t hc19 h
    refine WP.seq_k (fun K6084 hK6084 => Wr Tt_ok rfl (R_assign rfl (Pc rfl rfl (R_assign rfl (Pn rfl (hK6084 _ _ _ (WP.ret ?_)))))))
    have e_ := Option.some.inj h
    obtain ⟨e0a_, e0b_⟩ := Prod.mk.inj e_
    clear e_
    subst e0a_
    subst e0b_
    refine S_tmp rfl (S_tmp rfl (S_nil (Upd.selS [] 1 ?_)))
    exact Upd.done (hR _ (Gh.le.trans hm_1 (Gh.le.trans hm5875 (Gh.le.trans hm5966 (hm6007)))))
  replace h := cond_f hc19 h
  refine WP.skip (hK6082 _ _ _ (WP.seq_k (fun K6085 hK6085 => WP.seq_k (fun K6086 hK6086 => Wr Tt_ok rfl (R_move rfl (P_some rfl (O_cons (O_call (all := [.slice A20 times8.length c20, .int .i64 0]) rfl rfl rfl ?_))))))))
  obtain ⟨r7, hx13, h⟩ := obind h
  refine slices_Contains_int_fn (Own.lenOk hO12) (Own.rds (L := (ch12 :: L)) hO12 0 rfl) hx13 ((Pn rfl (hK6086 _ _ _ ?_)))
  refine W_cond_v (b := r7) rfl (fun hc20 => ?_) (fun hc20 => ?_)
  · replace h := cond_t hc20 h
    refine WP.seq_k (fun K6087 hK6087 => Wr Tt_ok rfl (R_assign rfl (Pc rfl rfl (R_assign rfl (Pn rfl (hK6087 _ _ _ (WP.ret ?_)))))))
    have e_ := Option.some.inj h
    obtain ⟨e0a_, e0b_⟩ := Prod.mk.inj e_
    clear e_
    subst e0a_
    subst e0b_
    refine S_tmp rfl (S_tmp rfl (S_nil (Upd.selS [] 1 ?_)))
    exact Upd.done (hR _ (Gh.le.trans hm_1 (Gh.le.trans hm5875 (Gh.le.trans hm5966 (hm6007)))))
  replace h := cond_f hc20 h
  refine WP.skip (hK6085 _ _ _ (WP.seq_k (fun K6088 hK6088 => Wr Tt_ok rfl (R_move rfl (Pc rfl rfl (R_assign rfl (Pc rfl rfl (R_assign rfl (Pn rfl (hK6088 _ _ _ ?_))))))))))
  apply WP.ret
  have e_ := Option.some.inj h
  obtain ⟨e0a_, e0b_⟩ := Prod.mk.inj e_
  clear e_
  subst e0a_
  subst e0b_
  refine S_tmp rfl (S_tmp rfl (S_nil (Upd.selS [] 1 ?_)))
  exact Upd.done (hR _ (Gh.le.trans hm_1 (Gh.le.trans hm5875 (Gh.le.trans hm5966 (hm6007)))))

theorem tour_Feasible_fn {μ : Gh} {L : List Seg} {R : Value → Gh → List Seg → Prop} {F : Nat} {p1 : T_api_Problem} {x1 : T_api_Plan} {A1 : Option Addr} {c1 : Nat} {A2 : Option Addr} {c2 : Nat} {A3 : Option Addr} {c3 : Nat} {A4 : Option Addr} {c4 : Nat} {A5 : Option Addr} {c5 : Nat} {res1 : Int}
    (hl1 : p1.Road.Edges.length ≤ c1 ∧ c1 ≤ maxLen) (hA1 : ArrR r_api_Edge μ A1 p1.Road.Edges) (hl2 : p1.Vehicles.length ≤ c2 ∧ c2 ≤ maxLen) (hA2 : ArrR r_api_Vehicle μ A2 p1.Vehicles) (hl3 : p1.Demands.length ≤ c3 ∧ c3 ≤ maxLen) (hA3 : ArrR r_api_Demand μ A3 p1.Demands) (hl4 : x1.Tours.length ≤ c4 ∧ c4 ≤ maxLen) (hA4 : ArrR r_api_Tour μ A4 x1.Tours) (hl5 : x1.Left.length ≤ c5 ∧ c5 ≤ maxLen) (hA5 : ArrR rInt μ A5 x1.Left) (h : tour_Feasible F p1 x1 = some res1)
    (hR : ∀ (μ' : Gh) , μ.le μ' → R (.int .i64 res1) μ' (L)) :
    Fn Try.prog 25 [.agg #[.int .i64 p1.Road.Nodes, .slice A1 p1.Road.Edges.length c1, .slice A2 p1.Vehicles.length c2, .slice A3 p1.Demands.length c3, .int .i64 p1.Unload, .int .i64 p1.UnloadSecs], .agg #[.slice A4 x1.Tours.length c4, .slice A5 x1.Left.length c5]] μ (L) R := by
  unfold tour_Feasible at h
  refine Fn.of_body Tt_ok Try.func25 (by kernel_rfl) rfl Try.ntmps25 (by simp) ?_
  simp only [Try.f25, argFr, List.zipIdx, List.map, Nat.reduceAdd]
  refine WP.seq_k (fun K6095 hK6095 => WP.region Tt_ok (O_cons (O_box (cs := #[.int .i64 p1.Road.Nodes, .slice A1 p1.Road.Edges.length c1, .slice A2 p1.Vehicles.length c2, .slice A3 p1.Demands.length c3, .int .i64 p1.Unload, .int .i64 p1.UnloadSecs]) rfl rfl (fun g1 => P_some rfl (O_cons (O_box (cs := #[.slice A4 x1.Tours.length c4, .slice A5 x1.Left.length c5]) rfl rfl (fun g2 => Pc rfl rfl (R_assign rfl (Pn rfl (hK6095 _ _ _ (WP.seq_k (fun K6098 hK6098 => Wr Tt_ok rfl ?_))))))))))))
  refine R_loadA rfl rfl rfl rfl (LA_ (vs := [.int .i64 p1.Road.Nodes, .slice A1 p1.Road.Edges.length c1, .slice A2 p1.Vehicles.length c2, .slice A3 p1.Demands.length c3, .int .i64 p1.Unload, .int .i64 p1.UnloadSecs]) 1 0 rfl rfl rfl rfl (Pc rfl rfl (R_loadA rfl rfl rfl rfl (LA_ (vs := [.slice A4 x1.Tours.length c4, .slice A5 x1.Left.length c5]) 0 0 rfl rfl rfl rfl (P_some rfl (O_cons (O_call (all := [.agg #[.int .i64 p1.Road.Nodes, .slice A1 p1.Road.Edges.length c1, .slice A2 p1.Vehicles.length c2, .slice A3 p1.Demands.length c3, .int .i64 p1.Unload, .int .i64 p1.UnloadSecs], .agg #[.slice A4 x1.Tours.length c4, .slice A5 x1.Left.length c5]]) rfl rfl rfl ?_)))))))
  obtain ⟨⟨r1, r2⟩, hx1, h⟩ := obind h
  replace h := oun_mk h
  refine tour_plan_fn hl1 hA1 hl2 hA2 hl3 hA3 hl4 hA4 hl5 hA5 hx1 (fun v1 hm_1 => ?_)
  replace hA1 := hA1.mono hm_1
  replace hA2 := hA2.mono hm_1
  replace hA3 := hA3.mono hm_1
  replace hA4 := hA4.mono hm_1
  replace hA5 := hA5.mono hm_1
  refine Pc rfl rfl (R_move rfl (Pc rfl rfl (R_ext rfl rfl (Pc rfl rfl (R_ext rfl rfl (Pc rfl rfl (R_assign rfl (P_some rfl (O_cons ?_)))))))))
  refine O_read rfl (R_assign rfl (Pn rfl (hK6098 _ _ _ (WP.seq_k (fun K6099 hK6099 => Wr Tt_ok rfl (R_move rfl (Pc rfl rfl (R_assign rfl (Pn rfl (hK6099 _ _ _ (WP.ret ?_)))))))))))
  have e_ := Option.some.inj h
  subst e_
  refine S_tmp rfl (S_nil (Upd.selS [] 2 ?_))
  exact Upd.done (hR _ (hm_1))

theorem recyclinglaw22_awake_fn {μ : Gh} {L : List Seg} {R : Value → Gh → List Seg → Prop} {F : Nat}   {res1 : Bool}
     (h : recyclinglaw22_awake F = some res1)
    (hR : ∀ (μ' : Gh) , μ.le μ' → R (.bool res1) μ' (L)) :
    Fn Try.prog 12 [] μ (L) R := by
  unfold recyclinglaw22_awake at h
  refine Fn.of_body Tt_ok Try.func12 (by kernel_rfl) rfl Try.ntmps12 (by simp) ?_
  simp only [Try.f12, argFr, List.zipIdx, List.map, Nat.reduceAdd]
  refine WP.seq_k (fun K6100 hK6100 => Wr Tt_ok rfl (R_assign rfl (Pn rfl (hK6100 _ _ _ (WP.seq_k (fun K6101 hK6101 => WP.region Tt_ok (O_cons (O_call (all := []) rfl rfl rfl ?_))))))))
  obtain ⟨r1, hx1, h⟩ := obind h
  refine recyclinglaw22_example_fn  hx1 (fun v1 A1 c1 A2 c2 A3 c3 hm_1 hl1 hA1 hl2 hA2 hl3 hA3 => P_some rfl (O_cons (O_alloc (cs := #[.int .i64 0, .slice none 0 0, .slice none 0 0, .slice none 0 0, .int .i64 0, .int .i64 0]) rfl rfl (fun g1 => P_some rfl (O_cons (O_store (vs := [.int .i64 r1.Road.Nodes, .slice A1 r1.Road.Edges.length c1, .slice A2 r1.Vehicles.length c2, .slice A3 r1.Demands.length c3, .int .i64 r1.Unload, .int .i64 r1.UnloadSecs]) rfl rfl rfl rfl rfl rfl (ST_ (L' := ([(g1, .cells #[.int .i64 r1.Road.Nodes, .slice A1 r1.Road.Edges.length c1, .slice A2 r1.Vehicles.length c2, .slice A3 r1.Demands.length c3, .int .i64 r1.Unload, .int .i64 r1.UnloadSecs] 28 (0, 0))] :: L)) 0 0 rfl rfl rfl rfl (P_none (O_nil (hK6101 _ _ _ (WP.seq_k (fun K6110 hK6110 => Wr Tt_ok rfl (R_loadA rfl rfl rfl rfl ?_)))))))))))))
  refine LA_ (vs := [.int .i64 r1.Road.Nodes, .slice A1 r1.Road.Edges.length c1, .slice A2 r1.Vehicles.length c2, .slice A3 r1.Demands.length c3, .int .i64 r1.Unload, .int .i64 r1.UnloadSecs]) 0 0 rfl rfl rfl rfl (P_some rfl (O_cons (O_bsl (z := [.int .i64 0, .int .i64 0]) rfl rfl rfl rfl rfl rfl rfl (F_cons (cells' := [.int .i64 0, .int .i64 0]) rfl rfl rfl rfl (F_cons (cells' := [.int .i64 0, .int .i64 (-1)]) rfl rfl rfl rfl (F_nil (fun g2 => Pc rfl rfl (R_build rfl rfl rfl rfl (F_cons (cells' := [.int .i64 0, .slice (some ⟨g2, 0, none⟩) 2 2]) rfl rfl rfl rfl (F_nil (P_some rfl (O_cons (O_call (all := [.agg #[.int .i64 r1.Road.Nodes, .slice A1 r1.Road.Edges.length c1, .slice A2 r1.Vehicles.length c2, .slice A3 r1.Demands.length c3, .int .i64 r1.Unload, .int .i64 r1.UnloadSecs], .agg #[.int .i64 0, .slice (some ⟨g2, 0, none⟩) 2 2]]) rfl rfl rfl ?_)))))))))))))
  have hl4 : [0, (-1)].length ≤ 2 ∧ 2 ≤ maxLen := ⟨Nat.le_refl _, by unfold maxLen; omega⟩
  refine Fn.pre Try.func15 (by kernel_rfl) rfl (Upd.frzOwn 0 rfl (Own.lit (r := rInt) (e := 3) (g := g2) (xs := [0, (-1)]) (cs := [.int .i64 0, .int .i64 (-1)]) (css := [[.int .i64 0], [.int .i64 (-1)]]) rfl (All2.cons (rfl) (All2.cons (rfl) (All2.nil))) rfl rfl) fun v2 hm_2 hA4 => Upd.done ?_)
  replace hA1 := hA1.mono hm_2
  replace hA2 := hA2.mono hm_2
  replace hA3 := hA3.mono hm_2
  obtain ⟨⟨r2, r3, r4⟩, hx2, h⟩ := obind h
  replace h := oun_mk h
  replace h := oun_mk h
  refine tour_Walk_fn hl1 hA1 hl2 hA2 hl3 hA3 hl4 hA4 hx2 (fun v3 A4 c4 ch1 hm_3 hO1 => ?_)
  replace hA1 := hA1.mono hm_3
  replace hA2 := hA2.mono hm_3
  replace hA3 := hA3.mono hm_3
  replace hA4 := hA4.mono hm_3
  refine Pc rfl rfl (R_move rfl (Pc rfl rfl (R_ext rfl rfl (Pc rfl rfl (R_ext rfl rfl (Pc rfl rfl (R_ext rfl rfl (P_some rfl (O_cons ?_)))))))))
  refine O_read rfl (R_assign rfl (Pc rfl rfl (R_assign rfl (Pc rfl rfl (R_assign rfl (Pn rfl (hK6110 _ _ _ (WP.seq_k (fun K6117 hK6117 => Wr Tt_ok rfl (R_loadA rfl rfl rfl rfl ?_))))))))))
  refine LA_ (vs := [.int .i64 r1.Road.Nodes, .slice A1 r1.Road.Edges.length c1, .slice A2 r1.Vehicles.length c2, .slice A3 r1.Demands.length c3, .int .i64 r1.Unload, .int .i64 r1.UnloadSecs]) 2 0 rfl rfl rfl rfl (P_some rfl (O_cons (O_bsl (z := [.int .i64 0]) rfl rfl rfl rfl rfl rfl rfl (F_cons (cells' := [.int .i64 0]) rfl rfl rfl rfl (F_nil (fun g3 => Pc rfl rfl (R_build rfl rfl rfl rfl (F_cons (cells' := [.int .i64 0, .slice (some ⟨g3, 0, none⟩) 1 1]) rfl rfl rfl rfl (F_nil (P_some rfl (O_cons (O_call (all := [.agg #[.int .i64 r1.Road.Nodes, .slice A1 r1.Road.Edges.length c1, .slice A2 r1.Vehicles.length c2, .slice A3 r1.Demands.length c3, .int .i64 r1.Unload, .int .i64 r1.UnloadSecs], .agg #[.int .i64 0, .slice (some ⟨g3, 0, none⟩) 1 1]]) rfl rfl rfl ?_))))))))))))
  have hl5 : [0].length ≤ 1 ∧ 1 ≤ maxLen := ⟨Nat.le_refl _, by unfold maxLen; omega⟩
  refine Fn.pre Try.func15 (by kernel_rfl) rfl (Upd.frzOwn 0 rfl (Own.lit (r := rInt) (e := 3) (g := g3) (xs := [0]) (cs := [.int .i64 0]) (css := [[.int .i64 0]]) rfl (All2.cons (rfl) (All2.nil)) rfl rfl) fun v4 hm_4 hA5 => Upd.done ?_)
  replace hA1 := hA1.mono hm_4
  replace hA2 := hA2.mono hm_4
  replace hA3 := hA3.mono hm_4
  replace hA4 := hA4.mono hm_4
  replace hO1 := hO1.mono hm_4
  obtain ⟨⟨r5, r6, r7⟩, hx3, h⟩ := obind h
  replace h := oun_mk h
  replace h := oun_mk h
  refine tour_Walk_fn hl1 hA1 hl2 hA2 hl3 hA3 hl5 hA5 hx3 (fun v5 A5 c5 ch2 hm_5 hO2 => ?_)
  replace hA1 := hA1.mono hm_5
  replace hA2 := hA2.mono hm_5
  replace hA3 := hA3.mono hm_5
  replace hA4 := hA4.mono hm_5
  replace hO1 := hO1.mono hm_5
  replace hA5 := hA5.mono hm_5
  refine Pc rfl rfl (R_move rfl (Pc rfl rfl (R_ext rfl rfl (Pc rfl rfl (R_ext rfl rfl (Pc rfl rfl (R_ext rfl rfl (P_some rfl (O_cons ?_)))))))))
  refine O_read rfl (R_assign rfl (Pc rfl rfl (R_assign rfl (Pc rfl rfl (R_assign rfl (Pn rfl (hK6117 _ _ _ (WP.seq_k (fun K6124 hK6124 => Wr Tt_ok rfl (R_loadA rfl rfl rfl rfl ?_))))))))))
  refine LA_ (vs := [.int .i64 r1.Road.Nodes, .slice A1 r1.Road.Edges.length c1, .slice A2 r1.Vehicles.length c2, .slice A3 r1.Demands.length c3, .int .i64 r1.Unload, .int .i64 r1.UnloadSecs]) 4 0 rfl rfl rfl rfl (P_some rfl (O_cons (O_bsl (z := [.int .i64 0, .int .i64 0]) rfl rfl rfl rfl rfl rfl rfl (F_cons (cells' := [.int .i64 0, .int .i64 0]) rfl rfl rfl rfl (F_cons (cells' := [.int .i64 0, .int .i64 (-1)]) rfl rfl rfl rfl (F_nil (fun g4 => Pc rfl rfl (R_build rfl rfl rfl rfl (F_cons (cells' := [.int .i64 0, .slice (some ⟨g4, 0, none⟩) 2 2]) rfl rfl rfl rfl (F_nil (P_some rfl (O_cons (O_call (all := [.agg #[.int .i64 r1.Road.Nodes, .slice A1 r1.Road.Edges.length c1, .slice A2 r1.Vehicles.length c2, .slice A3 r1.Demands.length c3, .int .i64 r1.Unload, .int .i64 r1.UnloadSecs], .agg #[.int .i64 0, .slice (some ⟨g4, 0, none⟩) 2 2]]) rfl rfl rfl ?_)))))))))))))
  have hl6 : [0, (-1)].length ≤ 2 ∧ 2 ≤ maxLen := ⟨Nat.le_refl _, by unfold maxLen; omega⟩
  refine Fn.pre Try.func18 (by kernel_rfl) rfl (Upd.frzOwn 0 rfl (Own.lit (r := rInt) (e := 3) (g := g4) (xs := [0, (-1)]) (cs := [.int .i64 0, .int .i64 (-1)]) (css := [[.int .i64 0], [.int .i64 (-1)]]) rfl (All2.cons (rfl) (All2.cons (rfl) (All2.nil))) rfl rfl) fun v6 hm_6 hA6 => Upd.done ?_)
  replace hA1 := hA1.mono hm_6
  replace hA2 := hA2.mono hm_6
  replace hA3 := hA3.mono hm_6
  replace hA4 := hA4.mono hm_6
  replace hO1 := hO1.mono hm_6
  replace hA5 := hA5.mono hm_6
  replace hO2 := hO2.mono hm_6
  obtain ⟨⟨r8, r9⟩, hx4, h⟩ := obind h
  replace h := oun_mk h
  refine tour_Cost_fn hl1 hA1 hl2 hA2 hl3 hA3 hl6 hA6 hx4 (fun v7 hm_7 => ?_)
  replace hA1 := hA1.mono hm_7
  replace hA2 := hA2.mono hm_7
  replace hA3 := hA3.mono hm_7
  replace hA4 := hA4.mono hm_7
  replace hO1 := hO1.mono hm_7
  replace hA5 := hA5.mono hm_7
  replace hO2 := hO2.mono hm_7
  replace hA6 := hA6.mono hm_7
  refine Pc rfl rfl (R_move rfl (Pc rfl rfl (R_ext rfl rfl (Pc rfl rfl (R_ext rfl rfl (Pc rfl rfl (R_assign rfl (P_some rfl (O_cons ?_)))))))))
  refine O_read rfl (R_assign rfl (Pn rfl (hK6124 _ _ _ (WP.seq_k (fun K6130 hK6130 => Wr Tt_ok rfl (R_build rfl rfl rfl rfl (F_cons (cells' := [.int .i64 0, .int .i64 0, .int .i64 0, .int .i64 0, .int .i64 0, .int .i64 0]) rfl rfl rfl rfl (F_cons (cells' := [.int .i64 0, .int .i64 1, .int .i64 0, .int .i64 0, .int .i64 0, .int .i64 0]) rfl rfl rfl rfl (F_cons (cells' := [.int .i64 0, .int .i64 1, .int .i64 1060, .int .i64 0, .int .i64 0, .int .i64 0]) rfl rfl rfl rfl (F_cons (cells' := [.int .i64 0, .int .i64 1, .int .i64 1060, .int .i64 1100, .int .i64 0, .int .i64 0]) rfl rfl rfl rfl (F_cons (cells' := [.int .i64 0, .int .i64 1, .int .i64 1060, .int .i64 1100, .int .i64 1130, .int .i64 0]) rfl rfl rfl rfl (F_cons (cells' := [.int .i64 0, .int .i64 1, .int .i64 1060, .int .i64 1100, .int .i64 1130, .int .i64 300]) rfl rfl rfl rfl ?_))))))))))))
  refine F_nil (Pc rfl rfl (R_build rfl rfl rfl rfl (F_cons (cells' := [.int .i64 (-1), .int .i64 0, .int .i64 0, .int .i64 0, .int .i64 0, .int .i64 0]) rfl rfl rfl rfl (F_cons (cells' := [.int .i64 (-1), .int .i64 0, .int .i64 0, .int .i64 0, .int .i64 0, .int .i64 0]) rfl rfl rfl rfl (F_cons (cells' := [.int .i64 (-1), .int .i64 0, .int .i64 1190, .int .i64 0, .int .i64 0, .int .i64 0]) rfl rfl rfl rfl (F_cons (cells' := [.int .i64 (-1), .int .i64 0, .int .i64 1190, .int .i64 1190, .int .i64 0, .int .i64 0]) rfl rfl rfl rfl (F_cons (cells' := [.int .i64 (-1), .int .i64 0, .int .i64 1190, .int .i64 1190, .int .i64 1210, .int .i64 0]) rfl rfl rfl rfl (F_nil (Pc rfl rfl (R_build rfl rfl rfl rfl (F_cons (cells' := [.int .i64 (-2), .int .i64 0, .int .i64 0, .int .i64 0, .int .i64 0, .int .i64 0]) rfl rfl rfl rfl ?_)))))))))))
  refine F_cons (cells' := [.int .i64 (-2), .int .i64 0, .int .i64 0, .int .i64 0, .int .i64 0, .int .i64 0]) rfl rfl rfl rfl (F_cons (cells' := [.int .i64 (-2), .int .i64 0, .int .i64 1210, .int .i64 0, .int .i64 0, .int .i64 0]) rfl rfl rfl rfl (F_cons (cells' := [.int .i64 (-2), .int .i64 0, .int .i64 1210, .int .i64 1210, .int .i64 0, .int .i64 0]) rfl rfl rfl rfl (F_cons (cells' := [.int .i64 (-2), .int .i64 0, .int .i64 1210, .int .i64 1210, .int .i64 1210, .int .i64 0]) rfl rfl rfl rfl (F_nil (P_some rfl (O_cons (O_bsl (z := [.int .i64 0, .int .i64 0, .int .i64 0, .int .i64 0, .int .i64 0, .int .i64 0, .int .i64 0, .int .i64 0, .int .i64 0, .int .i64 0, .int .i64 0, .int .i64 0, .int .i64 0, .int .i64 0, .int .i64 0, .int .i64 0, .int .i64 0, .int .i64 0]) rfl rfl rfl rfl rfl rfl rfl (F_cons (cells' := [.int .i64 0, .int .i64 1, .int .i64 1060, .int .i64 1100, .int .i64 1130, .int .i64 300, .int .i64 0, .int .i64 0, .int .i64 0, .int .i64 0, .int .i64 0, .int .i64 0, .int .i64 0, .int .i64 0, .int .i64 0, .int .i64 0, .int .i64 0, .int .i64 0]) rfl rfl rfl rfl ?_))))))))
  refine F_cons (cells' := [.int .i64 0, .int .i64 1, .int .i64 1060, .int .i64 1100, .int .i64 1130, .int .i64 300, .int .i64 (-1), .int .i64 0, .int .i64 1190, .int .i64 1190, .int .i64 1210, .int .i64 0, .int .i64 0, .int .i64 0, .int .i64 0, .int .i64 0, .int .i64 0, .int .i64 0]) rfl rfl rfl rfl (F_cons (cells' := [.int .i64 0, .int .i64 1, .int .i64 1060, .int .i64 1100, .int .i64 1130, .int .i64 300, .int .i64 (-1), .int .i64 0, .int .i64 1190, .int .i64 1190, .int .i64 1210, .int .i64 0, .int .i64 (-2), .int .i64 0, .int .i64 1210, .int .i64 1210, .int .i64 1210, .int .i64 0]) rfl rfl rfl rfl (F_nil (fun g5 => Pc rfl rfl (R_assign rfl (Pn rfl (hK6130 _ _ _ (WP.seq_k (fun K6132 hK6132 => ?_))))))))
  obtain ⟨o6133, h6133, h⟩ := obind h
  refine WP.cutK (fun fr_ μ_ L_ => ∃ (v9 : Bool), v9 = o6133 ∧ SubFr [(0, .bool v9)] fr_ ∧ SegSub (L) L_) ?_ ?_
  · refine Wr Tt_ok rfl (R_move rfl (Pc rfl rfl (R_move rfl (P_some rfl (O_cons (O_call (all := [.slice A4 r2.length c4, .slice (some ⟨g5, 0, none⟩) 3 3]) rfl rfl rfl ?_))))))
    obtain ⟨r10, hx5, h6133⟩ := obind h6133
    refine recyclingref22_Same_fn (Own.lenOk hO1) (Own.rds (L := ([(g5, .cells #[.int .i64 0, .int .i64 1, .int .i64 1060, .int .i64 1100, .int .i64 1130, .int .i64 300, .int .i64 (-1), .int .i64 0, .int .i64 1190, .int .i64 1190, .int .i64 1210, .int .i64 0, .int .i64 (-2), .int .i64 0, .int .i64 1210, .int .i64 1210, .int .i64 1210, .int .i64 0] 48 (0, 0))] :: [] :: ch2 :: [] :: ch1 :: [] :: [(g1, .cells #[.int .i64 r1.Road.Nodes, .slice A1 r1.Road.Edges.length c1, .slice A2 r1.Vehicles.length c2, .slice A3 r1.Demands.length c3, .int .i64 r1.Unload, .int .i64 r1.UnloadSecs] 28 (0, 0))] :: L)) hO1 4 rfl) (lenLit (c := 3) rfl rfl) (Own.rds (L := ([(g5, .cells #[.int .i64 0, .int .i64 1, .int .i64 1060, .int .i64 1100, .int .i64 1130, .int .i64 300, .int .i64 (-1), .int .i64 0, .int .i64 1190, .int .i64 1190, .int .i64 1210, .int .i64 0, .int .i64 (-2), .int .i64 0, .int .i64 1210, .int .i64 1210, .int .i64 1210, .int .i64 0] 48 (0, 0))] :: [] :: ch2 :: [] :: ch1 :: [] :: [(g1, .cells #[.int .i64 r1.Road.Nodes, .slice A1 r1.Road.Edges.length c1, .slice A2 r1.Vehicles.length c2, .slice A3 r1.Demands.length c3, .int .i64 r1.Unload, .int .i64 r1.UnloadSecs] 28 (0, 0))] :: L)) (Own.lit (r := r_api_Visit) (e := 48) (g := g5) (xs := [(T_api_Visit.mk 0 1 1060 1100 1130 300), (T_api_Visit.mk (-1) 0 1190 1190 1210 0), (T_api_Visit.mk (-2) 0 1210 1210 1210 0)]) (cs := [.int .i64 0, .int .i64 1, .int .i64 1060, .int .i64 1100, .int .i64 1130, .int .i64 300, .int .i64 (-1), .int .i64 0, .int .i64 1190, .int .i64 1190, .int .i64 1210, .int .i64 0, .int .i64 (-2), .int .i64 0, .int .i64 1210, .int .i64 1210, .int .i64 1210, .int .i64 0]) (css := [[.int .i64 0, .int .i64 1, .int .i64 1060, .int .i64 1100, .int .i64 1130, .int .i64 300], [.int .i64 (-1), .int .i64 0, .int .i64 1190, .int .i64 1190, .int .i64 1210, .int .i64 0], [.int .i64 (-2), .int .i64 0, .int .i64 1210, .int .i64 1210, .int .i64 1210, .int .i64 0]]) rfl (All2.cons (rfl) (All2.cons (rfl) (All2.cons (rfl) (All2.nil)))) rfl rfl) 0 rfl) hx5 (?_)
    refine Pc rfl rfl (R_move rfl (P_some rfl ?_))
    refine O_gv (z := r10) rfl rfl (fun hc1 => ?_) (fun hc1 => ?_)
    · replace h6133 := cond_t hc1 h6133
      refine O_read rfl (R_move rfl (P_some rfl (O_gY rfl rfl hc1 (O_read rfl (R_eqlD rfl rfl (Pc rfl rfl (R_pick_T rfl hc1 rfl (Pc rfl rfl (R_move rfl (P_some rfl ?_))))))))))
      refine O_gv (z := (decide (r3 = 0))) rfl rfl (fun hc2 => ?_) (fun hc2 => ?_)
      · replace h6133 := cond_t hc2 h6133
        refine O_read rfl (R_move rfl (P_some rfl (O_gY rfl rfl hc2 (O_read rfl (R_eqlD rfl rfl (Pc rfl rfl (R_pick_T rfl hc2 rfl (Pc rfl rfl (R_move rfl (P_some rfl ?_))))))))))
        refine O_gv (z := (decide (r4 = 0))) rfl rfl (fun hc3 => ?_) (fun hc3 => ?_)
        · replace h6133 := cond_t hc3 h6133
          refine O_read rfl (R_move rfl (P_some rfl (O_gY rfl rfl hc3 (O_read rfl (R_eqlD rfl rfl (Pc rfl rfl (R_pick_T rfl hc3 rfl (Pc rfl rfl (R_move rfl (P_some rfl ?_))))))))))
          refine O_gv (z := (decide (r6 = 20))) rfl rfl (fun hc4 => ?_) (fun hc4 => ?_)
          · replace h6133 := cond_t hc4 h6133
            refine O_read rfl (R_move rfl (P_some rfl (O_gY rfl rfl hc4 (O_read rfl (R_eqlD rfl rfl (Pc rfl rfl (R_pick_T rfl hc4 rfl (Pc rfl rfl (R_move rfl (P_some rfl ?_))))))))))
            refine O_gv (z := (decide (r7 = 1))) rfl rfl (fun hc5 => ?_) (fun hc5 => ?_)
            · replace h6133 := cond_t hc5 h6133
              refine O_read rfl (R_move rfl (P_some rfl (O_gY rfl rfl hc5 (O_read rfl (R_eqlD rfl rfl (Pc rfl rfl (R_pick_T rfl hc5 rfl (Pc rfl rfl (R_move rfl (P_some rfl ?_))))))))))
              refine O_gv (z := (decide (r8 = 1000))) rfl rfl (fun hc6 => ?_) (fun hc6 => ?_)
              · replace h6133 := cond_t hc6 h6133
                refine O_read rfl (R_move rfl (P_some rfl (O_gY rfl rfl hc6 (O_read rfl (R_eqlD rfl rfl (Pc rfl rfl (R_pick_T rfl hc6 rfl (Pc rfl rfl (R_move rfl (P_some rfl ?_))))))))))
                refine O_gv (z := (decide (r9 = 0))) rfl rfl (fun hc7 => ?_) (fun hc7 => ?_)
                · replace h6133 := cond_t hc7 h6133
                  refine O_read rfl (R_loadA rfl rfl rfl rfl (LA_ (vs := [.int .i64 r1.Road.Nodes, .slice A1 r1.Road.Edges.length c1, .slice A2 r1.Vehicles.length c2, .slice A3 r1.Demands.length c3, .int .i64 r1.Unload, .int .i64 r1.UnloadSecs]) 6 0 rfl rfl rfl rfl (P_some rfl (O_gY rfl rfl hc7 (O_read rfl (R_build rfl rfl rfl rfl (F_nil (P_some rfl (O_gY rfl rfl hc7 (O_call (all := [.agg #[.int .i64 r1.Road.Nodes, .slice A1 r1.Road.Edges.length c1, .slice A2 r1.Vehicles.length c2, .slice A3 r1.Demands.length c3, .int .i64 r1.Unload, .int .i64 r1.UnloadSecs], .agg #[.slice none 0 0, .slice none 0 0]]) rfl rfl rfl ?_))))))))))
                  obtain ⟨r11, hx6, h6133⟩ := obind h6133
                  refine tour_Feasible_fn hl1 hA1 hl2 hA2 hl3 hA3 ⟨Nat.le_refl _, Nat.zero_le _⟩ ArrR.nil ⟨Nat.le_refl _, Nat.zero_le _⟩ ArrR.nil hx6 (fun v8 hm_8 => ?_)
                  replace hA1 := hA1.mono hm_8
                  replace hA2 := hA2.mono hm_8
                  replace hA3 := hA3.mono hm_8
                  replace hA4 := hA4.mono hm_8
                  replace hO1 := hO1.mono hm_8
                  replace hA5 := hA5.mono hm_8
                  replace hO2 := hO2.mono hm_8
                  replace hA6 := hA6.mono hm_8
                  refine P_some rfl (O_gY rfl rfl hc7 (O_read rfl (R_eqlD rfl rfl (Pc rfl rfl (R_pick_T rfl hc7 rfl (Pc rfl rfl (R_assign rfl (Pn rfl ?_))))))))
                  have e_ := Option.some.inj h6133
                  subst e_
                  exact ⟨(decide (r11 = 38)), rfl, SubFr.of ⟨rfl, trivial⟩, SegSub.sel _ [] 7⟩
                replace h6133 := cond_f hc7 h6133
                refine P_some rfl (O_gN rfl rfl hc7 (P_some rfl (O_gN rfl rfl hc7 (P_some rfl (O_gN rfl rfl hc7 (Pc rfl rfl (R_pick_F rfl hc7 rfl (Pc rfl rfl (R_assign rfl (Pn rfl ?_))))))))))
                have e_ := Option.some.inj h6133
                subst e_
                exact ⟨false, rfl, SubFr.of ⟨rfl, trivial⟩, SegSub.sel _ [] 7⟩
              replace h6133 := cond_f hc6 h6133
              refine P_some rfl (O_gN rfl rfl hc6 (Pc rfl rfl (R_pick_F rfl hc6 rfl (Pc rfl rfl (R_move rfl (P_some rfl (O_gN rfl rfl rfl (P_some rfl (O_gN rfl rfl rfl (P_some rfl (O_gN rfl rfl rfl (P_some rfl (O_gN rfl rfl rfl ?_)))))))))))))
              refine Pc rfl rfl (R_pick_F rfl rfl rfl (Pc rfl rfl (R_assign rfl (Pn rfl ?_))))
              have e_ := Option.some.inj h6133
              subst e_
              exact ⟨false, rfl, SubFr.of ⟨rfl, trivial⟩, SegSub.sel _ [] 7⟩
            replace h6133 := cond_f hc5 h6133
            refine P_some rfl (O_gN rfl rfl hc5 (Pc rfl rfl (R_pick_F rfl hc5 rfl (Pc rfl rfl (R_move rfl (P_some rfl (O_gN rfl rfl rfl (P_some rfl (O_gN rfl rfl rfl (Pc rfl rfl (R_pick_F rfl rfl rfl ?_)))))))))))
            refine Pc rfl rfl (R_move rfl (P_some rfl (O_gN rfl rfl rfl (P_some rfl (O_gN rfl rfl rfl (P_some rfl (O_gN rfl rfl rfl (P_some rfl (O_gN rfl rfl rfl (Pc rfl rfl (R_pick_F rfl rfl rfl (P_some rfl (O_cons ?_)))))))))))))
            refine O_read rfl (R_assign rfl (Pn rfl ?_))
            have e_ := Option.some.inj h6133
            subst e_
            exact ⟨false, rfl, SubFr.of ⟨rfl, trivial⟩, SegSub.sel _ [] 7⟩
          replace h6133 := cond_f hc4 h6133
          refine P_some rfl (O_gN rfl rfl hc4 (Pc rfl rfl (R_pick_F rfl hc4 rfl (Pc rfl rfl (R_move rfl (P_some rfl (O_gN rfl rfl rfl (P_some rfl (O_gN rfl rfl rfl (Pc rfl rfl (R_pick_F rfl rfl rfl ?_)))))))))))
          refine Pc rfl rfl (R_move rfl (P_some rfl (O_gN rfl rfl rfl (P_some rfl (O_gN rfl rfl rfl (Pc rfl rfl (R_pick_F rfl rfl rfl (Pc rfl rfl (R_move rfl (P_some rfl (O_gN rfl rfl rfl ?_)))))))))))
          refine P_some rfl (O_gN rfl rfl rfl (P_some rfl (O_gN rfl rfl rfl (P_some rfl (O_gN rfl rfl rfl (Pc rfl rfl (R_pick_F rfl rfl rfl (Pc rfl rfl (R_assign rfl (Pn rfl ?_))))))))))
          have e_ := Option.some.inj h6133
          subst e_
          exact ⟨false, rfl, SubFr.of ⟨rfl, trivial⟩, SegSub.sel _ [] 7⟩
        replace h6133 := cond_f hc3 h6133
        refine P_some rfl (O_gN rfl rfl hc3 (Pc rfl rfl (R_pick_F rfl hc3 rfl (Pc rfl rfl (R_move rfl (P_some rfl (O_gN rfl rfl rfl (P_some rfl (O_gN rfl rfl rfl (Pc rfl rfl (R_pick_F rfl rfl rfl ?_)))))))))))
        refine Pc rfl rfl (R_move rfl (P_some rfl (O_gN rfl rfl rfl (P_some rfl (O_gN rfl rfl rfl (Pc rfl rfl (R_pick_F rfl rfl rfl (Pc rfl rfl (R_move rfl (P_some rfl (O_gN rfl rfl rfl ?_)))))))))))
        refine P_some rfl (O_gN rfl rfl rfl (Pc rfl rfl (R_pick_F rfl rfl rfl (Pc rfl rfl (R_move rfl (P_some rfl (O_gN rfl rfl rfl (P_some rfl (O_gN rfl rfl rfl (P_some rfl (O_gN rfl rfl rfl (P_some rfl (O_gN rfl rfl rfl ?_)))))))))))))
        refine Pc rfl rfl (R_pick_F rfl rfl rfl (Pc rfl rfl (R_assign rfl (Pn rfl ?_))))
        have e_ := Option.some.inj h6133
        subst e_
        exact ⟨false, rfl, SubFr.of ⟨rfl, trivial⟩, SegSub.sel _ [] 7⟩
      replace h6133 := cond_f hc2 h6133
      refine P_some rfl (O_gN rfl rfl hc2 (Pc rfl rfl (R_pick_F rfl hc2 rfl (Pc rfl rfl (R_move rfl (P_some rfl (O_gN rfl rfl rfl (P_some rfl (O_gN rfl rfl rfl (Pc rfl rfl (R_pick_F rfl rfl rfl ?_)))))))))))
      refine Pc rfl rfl (R_move rfl (P_some rfl (O_gN rfl rfl rfl (P_some rfl (O_gN rfl rfl rfl (Pc rfl rfl (R_pick_F rfl rfl rfl (Pc rfl rfl (R_move rfl (P_some rfl (O_gN rfl rfl rfl ?_)))))))))))
      refine P_some rfl (O_gN rfl rfl rfl (Pc rfl rfl (R_pick_F rfl rfl rfl (Pc rfl rfl (R_move rfl (P_some rfl (O_gN rfl rfl rfl (P_some rfl (O_gN rfl rfl rfl (Pc rfl rfl (R_pick_F rfl rfl rfl ?_)))))))))))
      refine Pc rfl rfl (R_move rfl (P_some rfl (O_gN rfl rfl rfl (P_some rfl (O_gN rfl rfl rfl (P_some rfl (O_gN rfl rfl rfl (P_some rfl (O_gN rfl rfl rfl (Pc rfl rfl (R_pick_F rfl rfl rfl (P_some rfl (O_cons ?_)))))))))))))
      refine O_read rfl (R_assign rfl (Pn rfl ?_))
      have e_ := Option.some.inj h6133
      subst e_
      exact ⟨false, rfl, SubFr.of ⟨rfl, trivial⟩, SegSub.sel _ [] 7⟩
    replace h6133 := cond_f hc1 h6133
    refine P_some rfl (O_gN rfl rfl hc1 (Pc rfl rfl (R_pick_F rfl hc1 rfl (Pc rfl rfl (R_move rfl (P_some rfl (O_gN rfl rfl rfl (P_some rfl (O_gN rfl rfl rfl (Pc rfl rfl (R_pick_F rfl rfl rfl ?_)))))))))))
    refine Pc rfl rfl (R_move rfl (P_some rfl (O_gN rfl rfl rfl (P_some rfl (O_gN rfl rfl rfl (Pc rfl rfl (R_pick_F rfl rfl rfl (Pc rfl rfl (R_move rfl (P_some rfl (O_gN rfl rfl rfl ?_)))))))))))
    refine P_some rfl (O_gN rfl rfl rfl (Pc rfl rfl (R_pick_F rfl rfl rfl (Pc rfl rfl (R_move rfl (P_some rfl (O_gN rfl rfl rfl (P_some rfl (O_gN rfl rfl rfl (Pc rfl rfl (R_pick_F rfl rfl rfl ?_)))))))))))
    refine Pc rfl rfl (R_move rfl (P_some rfl (O_gN rfl rfl rfl (P_some rfl (O_gN rfl rfl rfl (Pc rfl rfl (R_pick_F rfl rfl rfl (Pc rfl rfl (R_move rfl (P_some rfl (O_gN rfl rfl rfl ?_)))))))))))
    refine P_some rfl (O_gN rfl rfl rfl (P_some rfl (O_gN rfl rfl rfl (P_some rfl (O_gN rfl rfl rfl (Pc rfl rfl (R_pick_F rfl rfl rfl (Pc rfl rfl (R_assign rfl (Pn rfl ?_))))))))))
    have e_ := Option.some.inj h6133
    subst e_
    exact ⟨false, rfl, SubFr.of ⟨rfl, trivial⟩, SegSub.sel _ [] 7⟩
  rintro fr6133 μ6133 L6133 hm6133 ⟨v9, ho6133, hF6133, hS6133⟩
  subst ho6133
  replace hA1 := hA1.mono hm6133
  replace hA2 := hA2.mono hm6133
  replace hA3 := hA3.mono hm6133
  replace hA4 := hA4.mono hm6133
  replace hO1 := hO1.mono hm6133
  replace hA5 := hA5.mono hm6133
  replace hO2 := hO2.mono hm6133
  replace hA6 := hA6.mono hm6133
  refine hK6132 _ _ _ (WP.at hF6133 hS6133 (WP.ret ?_))
  have e_ := Option.some.inj h
  subst e_
  refine S_tmp rfl (S_nil (Upd.selS [] 0 ?_))
  exact Upd.done (hR _ (Gh.le.trans hm_1 (Gh.le.trans hm_2 (Gh.le.trans hm_3 (Gh.le.trans hm_4 (Gh.le.trans hm_5 (Gh.le.trans hm_6 (Gh.le.trans hm_7 (hm6133)))))))))

end Go.Proofs.Ytjbminmhndgiaaa
