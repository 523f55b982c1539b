/- Printed by gen.py of this repo: the walks that tie the functions to their specifications. -/
import Derived.Test.YtjbminmhndgiaaaTt
import Derived.Test.YtjbminmhndgiaaaTas
import Derived.Test.YtjbminmhndgiaaaTaw1
import Derived.Test.YtjbminmhndgiaaaTaw3
namespace Go.Proofs.Ytjbminmhndgiaaa
open Go.RowKit
set_option linter.unusedSimpArgs false
set_option linter.unusedVariables false
attribute [local irreducible] WP SemOk SemU Fn AN Upd vcR vcO vcOps vcPlan putK fillK resK inBlk forkOne Cell StAt Kept

theorem recyclinglaw22_awake_fn {μ : Gh} {L : List Seg} {R : Value → Gh → List Seg → Prop} {F : Nat}   {res1 : Bool}
     (h : recyclinglaw22_awake F = some res1)
    (hR : ∀ (μ' : Gh) , μ.le μ' → R (.bool res1) μ' (L)) :
    Fn Try.prog 12 [] μ (L) R := by
  unfold recyclinglaw22_awake at h
  refine Fn.of_body Tt_ok Try.func12 (by kernel_rfl) rfl Try.ntmps12 (by simp) ?_
  simp only [Try.f12, argFr, List.zipIdx, List.map, Nat.reduceAdd]
  refine WP.seq_k (fun K6100 hK6100 => WP.region Tt_ok (O_cons (O_read rfl (R_assign rfl (P_some rfl (O_nil (hK6100 _ _ _ (WP.seq_k (fun K6101 hK6101 => WP.region Tt_ok (O_cons (O_call (all := []) rfl rfl rfl ?_)))))))))))
  obtain ⟨r1, hx1, h⟩ := obind h
  refine recyclinglaw22_example_fn  hx1 (fun v1 A1 c1 A2 c2 A3 c3 hm_1 hl1 hA1 hl2 hA2 hl3 hA3 => P_some rfl (O_cons (O_alloc (cs := #[.int .i64 0, .slice none 0 0, .slice none 0 0, .slice none 0 0, .int .i64 0, .int .i64 0]) rfl rfl (fun g1 => P_some rfl (O_cons (O_store (vs := [.int .i64 r1.Road.Nodes, .slice A1 r1.Road.Edges.length c1, .slice A2 r1.Vehicles.length c2, .slice A3 r1.Demands.length c3, .int .i64 r1.Unload, .int .i64 r1.UnloadSecs]) rfl rfl rfl rfl rfl rfl (ST_ (L' := ([(g1, .cells #[.int .i64 r1.Road.Nodes, .slice A1 r1.Road.Edges.length c1, .slice A2 r1.Vehicles.length c2, .slice A3 r1.Demands.length c3, .int .i64 r1.Unload, .int .i64 r1.UnloadSecs] 28 (0, 0))] :: L)) 0 0 rfl rfl rfl rfl ?_)))))))
  refine P_none (O_nil (hK6101 _ _ _ (WP.seq_k (fun K6110 hK6110 => WP.region Tt_ok (O_cons (O_read rfl (R_loadA rfl rfl rfl rfl (LA_ (vs := [.int .i64 r1.Road.Nodes, .slice A1 r1.Road.Edges.length c1, .slice A2 r1.Vehicles.length c2, .slice A3 r1.Demands.length c3, .int .i64 r1.Unload, .int .i64 r1.UnloadSecs]) 0 0 rfl rfl rfl rfl (P_some rfl (O_cons (O_bsl (z := [.int .i64 0, .int .i64 0]) rfl rfl rfl rfl rfl rfl rfl (F_cons (cells' := [.int .i64 0, .int .i64 0]) rfl rfl rfl rfl (F_cons (cells' := [.int .i64 0, .int .i64 (-1)]) rfl rfl rfl rfl ?_)))))))))))))
  refine F_nil (fun g2 => P_some rfl (O_cons (O_read rfl (R_build rfl rfl rfl rfl (F_cons (cells' := [.int .i64 0, .slice (some ⟨g2, 0, none⟩) 2 2]) rfl rfl rfl rfl (F_nil (P_some rfl (O_cons (O_call (all := [.agg #[.int .i64 r1.Road.Nodes, .slice A1 r1.Road.Edges.length c1, .slice A2 r1.Vehicles.length c2, .slice A3 r1.Demands.length c3, .int .i64 r1.Unload, .int .i64 r1.UnloadSecs], .agg #[.int .i64 0, .slice (some ⟨g2, 0, none⟩) 2 2]]) rfl rfl rfl ?_)))))))))
  have hl4 : [0, (-1)].length ≤ 2 ∧ 2 ≤ maxLen := ⟨Nat.le_refl _, by unfold maxLen; omega⟩
  refine Fn.pre Try.func15 (by kernel_rfl) rfl (Upd.frzOwn 0 rfl (Own.lit (r := rInt) (e := 3) (g := g2) (xs := [0, (-1)]) (cs := [.int .i64 0, .int .i64 (-1)]) (css := [[.int .i64 0], [.int .i64 (-1)]]) rfl (All2.cons (rfl) (All2.cons (rfl) (All2.nil))) rfl rfl) fun v2 hm_2 hA4 => Upd.done ?_)
  replace hA1 := hA1.mono hm_2
  replace hA2 := hA2.mono hm_2
  replace hA3 := hA3.mono hm_2
  obtain ⟨⟨r2, r3, r4⟩, hx2, h⟩ := obind h
  replace h := oun_mk h
  replace h := oun_mk h
  refine tour_Walk_fn hl1 hA1 hl2 hA2 hl3 hA3 hl4 hA4 hx2 (fun v3 A4 c4 ch1 hm_3 hO1 => ?_)
  replace hA1 := hA1.mono hm_3
  replace hA2 := hA2.mono hm_3
  replace hA3 := hA3.mono hm_3
  replace hA4 := hA4.mono hm_3
  refine P_some rfl (O_cons (O_read rfl (R_move rfl (P_some rfl (O_cons (O_read rfl (R_ext rfl rfl (P_some rfl (O_cons (O_read rfl (R_ext rfl rfl (P_some rfl (O_cons ?_)))))))))))))
  refine O_read rfl (R_ext rfl rfl (P_some rfl (O_cons (O_read rfl (R_assign rfl (P_some rfl (O_cons (O_read rfl (R_assign rfl (P_some rfl (O_cons (O_read rfl (R_assign rfl ?_)))))))))))))
  refine P_some rfl (O_nil (hK6110 _ _ _ (WP.seq_k (fun K6117 hK6117 => WP.region Tt_ok (O_cons (O_read rfl (R_loadA rfl rfl rfl rfl (LA_ (vs := [.int .i64 r1.Road.Nodes, .slice A1 r1.Road.Edges.length c1, .slice A2 r1.Vehicles.length c2, .slice A3 r1.Demands.length c3, .int .i64 r1.Unload, .int .i64 r1.UnloadSecs]) 2 0 rfl rfl rfl rfl (P_some rfl (O_cons (O_bsl (z := [.int .i64 0]) rfl rfl rfl rfl rfl rfl rfl (F_cons (cells' := [.int .i64 0]) rfl rfl rfl rfl (F_nil (fun g3 => ?_))))))))))))))
  refine P_some rfl (O_cons (O_read rfl (R_build rfl rfl rfl rfl (F_cons (cells' := [.int .i64 0, .slice (some ⟨g3, 0, none⟩) 1 1]) rfl rfl rfl rfl (F_nil (P_some rfl (O_cons (O_call (all := [.agg #[.int .i64 r1.Road.Nodes, .slice A1 r1.Road.Edges.length c1, .slice A2 r1.Vehicles.length c2, .slice A3 r1.Demands.length c3, .int .i64 r1.Unload, .int .i64 r1.UnloadSecs], .agg #[.int .i64 0, .slice (some ⟨g3, 0, none⟩) 1 1]]) rfl rfl rfl ?_))))))))
  have hl5 : [0].length ≤ 1 ∧ 1 ≤ maxLen := ⟨Nat.le_refl _, by unfold maxLen; omega⟩
  refine Fn.pre Try.func15 (by kernel_rfl) rfl (Upd.frzOwn 0 rfl (Own.lit (r := rInt) (e := 3) (g := g3) (xs := [0]) (cs := [.int .i64 0]) (css := [[.int .i64 0]]) rfl (All2.cons (rfl) (All2.nil)) rfl rfl) fun v4 hm_4 hA5 => Upd.done ?_)
  replace hA1 := hA1.mono hm_4
  replace hA2 := hA2.mono hm_4
  replace hA3 := hA3.mono hm_4
  replace hA4 := hA4.mono hm_4
  replace hO1 := hO1.mono hm_4
  obtain ⟨⟨r5, r6, r7⟩, hx3, h⟩ := obind h
  replace h := oun_mk h
  replace h := oun_mk h
  refine tour_Walk_fn hl1 hA1 hl2 hA2 hl3 hA3 hl5 hA5 hx3 (fun v5 A5 c5 ch2 hm_5 hO2 => ?_)
  replace hA1 := hA1.mono hm_5
  replace hA2 := hA2.mono hm_5
  replace hA3 := hA3.mono hm_5
  replace hA4 := hA4.mono hm_5
  replace hO1 := hO1.mono hm_5
  replace hA5 := hA5.mono hm_5
  refine P_some rfl (O_cons (O_read rfl (R_move rfl (P_some rfl (O_cons (O_read rfl (R_ext rfl rfl (P_some rfl (O_cons (O_read rfl (R_ext rfl rfl (P_some rfl (O_cons ?_)))))))))))))
  refine O_read rfl (R_ext rfl rfl (P_some rfl (O_cons (O_read rfl (R_assign rfl (P_some rfl (O_cons (O_read rfl (R_assign rfl (P_some rfl (O_cons (O_read rfl (R_assign rfl ?_)))))))))))))
  refine P_some rfl (O_nil (hK6117 _ _ _ (WP.seq_k (fun K6124 hK6124 => WP.region Tt_ok (O_cons (O_read rfl (R_loadA rfl rfl rfl rfl (LA_ (vs := [.int .i64 r1.Road.Nodes, .slice A1 r1.Road.Edges.length c1, .slice A2 r1.Vehicles.length c2, .slice A3 r1.Demands.length c3, .int .i64 r1.Unload, .int .i64 r1.UnloadSecs]) 4 0 rfl rfl rfl rfl (P_some rfl (O_cons (O_bsl (z := [.int .i64 0, .int .i64 0]) rfl rfl rfl rfl rfl rfl rfl (F_cons (cells' := [.int .i64 0, .int .i64 0]) rfl rfl rfl rfl (F_cons (cells' := [.int .i64 0, .int .i64 (-1)]) rfl rfl rfl rfl ?_)))))))))))))
  refine F_nil (fun g4 => P_some rfl (O_cons (O_read rfl (R_build rfl rfl rfl rfl (F_cons (cells' := [.int .i64 0, .slice (some ⟨g4, 0, none⟩) 2 2]) rfl rfl rfl rfl (F_nil (P_some rfl (O_cons (O_call (all := [.agg #[.int .i64 r1.Road.Nodes, .slice A1 r1.Road.Edges.length c1, .slice A2 r1.Vehicles.length c2, .slice A3 r1.Demands.length c3, .int .i64 r1.Unload, .int .i64 r1.UnloadSecs], .agg #[.int .i64 0, .slice (some ⟨g4, 0, none⟩) 2 2]]) rfl rfl rfl ?_)))))))))
  have hl6 : [0, (-1)].length ≤ 2 ∧ 2 ≤ maxLen := ⟨Nat.le_refl _, by unfold maxLen; omega⟩
  refine Fn.pre Try.func18 (by kernel_rfl) rfl (Upd.frzOwn 0 rfl (Own.lit (r := rInt) (e := 3) (g := g4) (xs := [0, (-1)]) (cs := [.int .i64 0, .int .i64 (-1)]) (css := [[.int .i64 0], [.int .i64 (-1)]]) rfl (All2.cons (rfl) (All2.cons (rfl) (All2.nil))) rfl rfl) fun v6 hm_6 hA6 => Upd.done ?_)
  replace hA1 := hA1.mono hm_6
  replace hA2 := hA2.mono hm_6
  replace hA3 := hA3.mono hm_6
  replace hA4 := hA4.mono hm_6
  replace hO1 := hO1.mono hm_6
  replace hA5 := hA5.mono hm_6
  replace hO2 := hO2.mono hm_6
  obtain ⟨⟨r8, r9⟩, hx4, h⟩ := obind h
  replace h := oun_mk h
  refine tour_Cost_fn hl1 hA1 hl2 hA2 hl3 hA3 hl6 hA6 hx4 (fun v7 hm_7 => ?_)
  replace hA1 := hA1.mono hm_7
  replace hA2 := hA2.mono hm_7
  replace hA3 := hA3.mono hm_7
  replace hA4 := hA4.mono hm_7
  replace hO1 := hO1.mono hm_7
  replace hA5 := hA5.mono hm_7
  replace hO2 := hO2.mono hm_7
  replace hA6 := hA6.mono hm_7
  refine P_some rfl (O_cons (O_read rfl (R_move rfl (P_some rfl (O_cons (O_read rfl (R_ext rfl rfl (P_some rfl (O_cons (O_read rfl (R_ext rfl rfl (P_some rfl (O_cons ?_)))))))))))))
  refine O_read rfl (R_assign rfl (P_some rfl (O_cons (O_read rfl (R_assign rfl (P_some rfl (O_nil (hK6124 _ _ _ (WP.seq_k (fun K6130 hK6130 => WP.region Tt_ok (O_cons (O_read rfl (R_build rfl rfl rfl rfl ?_)))))))))))))
  refine F_cons (cells' := [.int .i64 0, .int .i64 0, .int .i64 0, .int .i64 0, .int .i64 0, .int .i64 0]) rfl rfl rfl rfl (F_cons (cells' := [.int .i64 0, .int .i64 1, .int .i64 0, .int .i64 0, .int .i64 0, .int .i64 0]) rfl rfl rfl rfl (F_cons (cells' := [.int .i64 0, .int .i64 1, .int .i64 1060, .int .i64 0, .int .i64 0, .int .i64 0]) rfl rfl rfl rfl (F_cons (cells' := [.int .i64 0, .int .i64 1, .int .i64 1060, .int .i64 1100, .int .i64 0, .int .i64 0]) rfl rfl rfl rfl (F_cons (cells' := [.int .i64 0, .int .i64 1, .int .i64 1060, .int .i64 1100, .int .i64 1130, .int .i64 0]) rfl rfl rfl rfl (F_cons (cells' := [.int .i64 0, .int .i64 1, .int .i64 1060, .int .i64 1100, .int .i64 1130, .int .i64 300]) rfl rfl rfl rfl ?_)))))
  refine F_nil (P_some rfl (O_cons (O_read rfl (R_build rfl rfl rfl rfl (F_cons (cells' := [.int .i64 (-1), .int .i64 0, .int .i64 0, .int .i64 0, .int .i64 0, .int .i64 0]) rfl rfl rfl rfl (F_cons (cells' := [.int .i64 (-1), .int .i64 0, .int .i64 0, .int .i64 0, .int .i64 0, .int .i64 0]) rfl rfl rfl rfl (F_cons (cells' := [.int .i64 (-1), .int .i64 0, .int .i64 1190, .int .i64 0, .int .i64 0, .int .i64 0]) rfl rfl rfl rfl (F_cons (cells' := [.int .i64 (-1), .int .i64 0, .int .i64 1190, .int .i64 1190, .int .i64 0, .int .i64 0]) rfl rfl rfl rfl (F_cons (cells' := [.int .i64 (-1), .int .i64 0, .int .i64 1190, .int .i64 1190, .int .i64 1210, .int .i64 0]) rfl rfl rfl rfl (F_nil (P_some rfl (O_cons (O_read rfl ?_)))))))))))))
  refine R_build rfl rfl rfl rfl (F_cons (cells' := [.int .i64 (-2), .int .i64 0, .int .i64 0, .int .i64 0, .int .i64 0, .int .i64 0]) rfl rfl rfl rfl (F_cons (cells' := [.int .i64 (-2), .int .i64 0, .int .i64 0, .int .i64 0, .int .i64 0, .int .i64 0]) rfl rfl rfl rfl (F_cons (cells' := [.int .i64 (-2), .int .i64 0, .int .i64 1210, .int .i64 0, .int .i64 0, .int .i64 0]) rfl rfl rfl rfl (F_cons (cells' := [.int .i64 (-2), .int .i64 0, .int .i64 1210, .int .i64 1210, .int .i64 0, .int .i64 0]) rfl rfl rfl rfl (F_cons (cells' := [.int .i64 (-2), .int .i64 0, .int .i64 1210, .int .i64 1210, .int .i64 1210, .int .i64 0]) rfl rfl rfl rfl (F_nil (P_some rfl (O_cons (O_bsl (z := [.int .i64 0, .int .i64 0, .int .i64 0, .int .i64 0, .int .i64 0, .int .i64 0, .int .i64 0, .int .i64 0, .int .i64 0, .int .i64 0, .int .i64 0, .int .i64 0, .int .i64 0, .int .i64 0, .int .i64 0, .int .i64 0, .int .i64 0, .int .i64 0]) rfl rfl rfl rfl rfl rfl rfl ?_)))))))))
  refine F_cons (cells' := [.int .i64 0, .int .i64 1, .int .i64 1060, .int .i64 1100, .int .i64 1130, .int .i64 300, .int .i64 0, .int .i64 0, .int .i64 0, .int .i64 0, .int .i64 0, .int .i64 0, .int .i64 0, .int .i64 0, .int .i64 0, .int .i64 0, .int .i64 0, .int .i64 0]) rfl rfl rfl rfl (F_cons (cells' := [.int .i64 0, .int .i64 1, .int .i64 1060, .int .i64 1100, .int .i64 1130, .int .i64 300, .int .i64 (-1), .int .i64 0, .int .i64 1190, .int .i64 1190, .int .i64 1210, .int .i64 0, .int .i64 0, .int .i64 0, .int .i64 0, .int .i64 0, .int .i64 0, .int .i64 0]) rfl rfl rfl rfl (F_cons (cells' := [.int .i64 0, .int .i64 1, .int .i64 1060, .int .i64 1100, .int .i64 1130, .int .i64 300, .int .i64 (-1), .int .i64 0, .int .i64 1190, .int .i64 1190, .int .i64 1210, .int .i64 0, .int .i64 (-2), .int .i64 0, .int .i64 1210, .int .i64 1210, .int .i64 1210, .int .i64 0]) rfl rfl rfl rfl ?_))
  refine F_nil (fun g5 => P_some rfl (O_cons (O_read rfl (R_assign rfl (P_some rfl (O_nil (hK6130 _ _ _ (WP.seq_k (fun K6132 hK6132 => ?_)))))))))
  obtain ⟨o6133, h6133, h⟩ := obind h
  refine WP.cutK (fun fr_ μ_ L_ => ∃ (v9 : Bool), v9 = o6133 ∧ SubFr [(0, .bool v9)] fr_ ∧ SegSub (L) L_) ?_ ?_
  · refine WP.region Tt_ok (O_cons (O_read rfl (R_move rfl (P_some rfl (O_cons (O_read rfl (R_move rfl (P_some rfl (O_cons (O_call (all := [.slice A4 r2.length c4, .slice (some ⟨g5, 0, none⟩) 3 3]) rfl rfl rfl ?_))))))))))
    obtain ⟨r10, hx5, h6133⟩ := obind h6133
    refine recyclingref22_Same_fn (Own.lenOk hO1) (Own.rds (L := ([(g5, .cells #[.int .i64 0, .int .i64 1, .int .i64 1060, .int .i64 1100, .int .i64 1130, .int .i64 300, .int .i64 (-1), .int .i64 0, .int .i64 1190, .int .i64 1190, .int .i64 1210, .int .i64 0, .int .i64 (-2), .int .i64 0, .int .i64 1210, .int .i64 1210, .int .i64 1210, .int .i64 0] 48 (0, 0))] :: [] :: ch2 :: [] :: ch1 :: [] :: [(g1, .cells #[.int .i64 r1.Road.Nodes, .slice A1 r1.Road.Edges.length c1, .slice A2 r1.Vehicles.length c2, .slice A3 r1.Demands.length c3, .int .i64 r1.Unload, .int .i64 r1.UnloadSecs] 28 (0, 0))] :: L)) hO1 4 rfl) (lenLit (c := 3) rfl rfl) (Own.rds (L := ([(g5, .cells #[.int .i64 0, .int .i64 1, .int .i64 1060, .int .i64 1100, .int .i64 1130, .int .i64 300, .int .i64 (-1), .int .i64 0, .int .i64 1190, .int .i64 1190, .int .i64 1210, .int .i64 0, .int .i64 (-2), .int .i64 0, .int .i64 1210, .int .i64 1210, .int .i64 1210, .int .i64 0] 48 (0, 0))] :: [] :: ch2 :: [] :: ch1 :: [] :: [(g1, .cells #[.int .i64 r1.Road.Nodes, .slice A1 r1.Road.Edges.length c1, .slice A2 r1.Vehicles.length c2, .slice A3 r1.Demands.length c3, .int .i64 r1.Unload, .int .i64 r1.UnloadSecs] 28 (0, 0))] :: L)) (Own.lit (r := r_api_Visit) (e := 48) (g := g5) (xs := [(T_api_Visit.mk 0 1 1060 1100 1130 300), (T_api_Visit.mk (-1) 0 1190 1190 1210 0), (T_api_Visit.mk (-2) 0 1210 1210 1210 0)]) (cs := [.int .i64 0, .int .i64 1, .int .i64 1060, .int .i64 1100, .int .i64 1130, .int .i64 300, .int .i64 (-1), .int .i64 0, .int .i64 1190, .int .i64 1190, .int .i64 1210, .int .i64 0, .int .i64 (-2), .int .i64 0, .int .i64 1210, .int .i64 1210, .int .i64 1210, .int .i64 0]) (css := [[.int .i64 0, .int .i64 1, .int .i64 1060, .int .i64 1100, .int .i64 1130, .int .i64 300], [.int .i64 (-1), .int .i64 0, .int .i64 1190, .int .i64 1190, .int .i64 1210, .int .i64 0], [.int .i64 (-2), .int .i64 0, .int .i64 1210, .int .i64 1210, .int .i64 1210, .int .i64 0]]) rfl (All2.cons (rfl) (All2.cons (rfl) (All2.cons (rfl) (All2.nil)))) rfl rfl) 0 rfl) hx5 (?_)
    refine P_some rfl (O_cons (O_read rfl (R_move rfl (P_some rfl ?_))))
    refine O_gv (z := r10) rfl rfl (fun hc1 => ?_) (fun hc1 => ?_)
    · replace h6133 := cond_t hc1 h6133
      refine O_read rfl (R_move rfl (P_some rfl (O_gY rfl rfl hc1 (O_read rfl (R_eqlD rfl rfl (P_some rfl (O_cons (O_read rfl (R_pick_T rfl hc1 rfl (P_some rfl (O_cons (O_read rfl (R_move rfl ?_)))))))))))))
      apply P_some; exact rfl
      refine O_gv (z := (decide (r3 = 0))) rfl rfl (fun hc2 => ?_) (fun hc2 => ?_)
      · replace h6133 := cond_t hc2 h6133
        refine O_read rfl (R_move rfl (P_some rfl (O_gY rfl rfl hc2 (O_read rfl (R_eqlD rfl rfl (P_some rfl (O_cons (O_read rfl (R_pick_T rfl hc2 rfl (P_some rfl (O_cons (O_read rfl (R_move rfl ?_)))))))))))))
        apply P_some; exact rfl
        refine O_gv (z := (decide (r4 = 0))) rfl rfl (fun hc3 => ?_) (fun hc3 => ?_)
        · replace h6133 := cond_t hc3 h6133
          refine O_read rfl (R_move rfl (P_some rfl (O_gY rfl rfl hc3 (O_read rfl (R_eqlD rfl rfl (P_some rfl (O_cons (O_read rfl (R_pick_T rfl hc3 rfl (P_some rfl (O_cons (O_read rfl (R_move rfl ?_)))))))))))))
          apply P_some; exact rfl
          refine O_gv (z := (decide (r6 = 20))) rfl rfl (fun hc4 => ?_) (fun hc4 => ?_)
          · replace h6133 := cond_t hc4 h6133
            refine O_read rfl (R_move rfl (P_some rfl (O_gY rfl rfl hc4 (O_read rfl (R_eqlD rfl rfl (P_some rfl (O_cons (O_read rfl (R_pick_T rfl hc4 rfl (P_some rfl (O_cons (O_read rfl (R_move rfl ?_)))))))))))))
            apply P_some; exact rfl
            refine O_gv (z := (decide (r7 = 1))) rfl rfl (fun hc5 => ?_) (fun hc5 => ?_)
            · replace h6133 := cond_t hc5 h6133
              refine O_read rfl (R_move rfl (P_some rfl (O_gY rfl rfl hc5 (O_read rfl (R_eqlD rfl rfl (P_some rfl (O_cons (O_read rfl (R_pick_T rfl hc5 rfl (P_some rfl (O_cons (O_read rfl (R_move rfl ?_)))))))))))))
              apply P_some; exact rfl
              refine O_gv (z := (decide (r8 = 1000))) rfl rfl (fun hc6 => ?_) (fun hc6 => ?_)
              · replace h6133 := cond_t hc6 h6133
                refine O_read rfl (R_move rfl (P_some rfl (O_gY rfl rfl hc6 (O_read rfl (R_eqlD rfl rfl (P_some rfl (O_cons (O_read rfl (R_pick_T rfl hc6 rfl (P_some rfl (O_cons (O_read rfl (R_move rfl ?_)))))))))))))
                apply P_some; exact rfl
                refine O_gv (z := (decide (r9 = 0))) rfl rfl (fun hc7 => ?_) (fun hc7 => ?_)
                · replace h6133 := cond_t hc7 h6133
                  refine O_read rfl (R_loadA rfl rfl rfl rfl (LA_ (vs := [.int .i64 r1.Road.Nodes, .slice A1 r1.Road.Edges.length c1, .slice A2 r1.Vehicles.length c2, .slice A3 r1.Demands.length c3, .int .i64 r1.Unload, .int .i64 r1.UnloadSecs]) 6 0 rfl rfl rfl rfl (P_some rfl (O_gY rfl rfl hc7 (O_read rfl (R_build rfl rfl rfl rfl (F_nil (P_some rfl (O_gY rfl rfl hc7 (O_call (all := [.agg #[.int .i64 r1.Road.Nodes, .slice A1 r1.Road.Edges.length c1, .slice A2 r1.Vehicles.length c2, .slice A3 r1.Demands.length c3, .int .i64 r1.Unload, .int .i64 r1.UnloadSecs], .agg #[.slice none 0 0, .slice none 0 0]]) rfl rfl rfl ?_))))))))))
                  obtain ⟨r11, hx6, h6133⟩ := obind h6133
                  refine tour_Feasible_fn hl1 hA1 hl2 hA2 hl3 hA3 ⟨Nat.le_refl _, Nat.zero_le _⟩ ArrR.nil ⟨Nat.le_refl _, Nat.zero_le _⟩ ArrR.nil hx6 (fun v8 hm_8 => ?_)
                  replace hA1 := hA1.mono hm_8
                  replace hA2 := hA2.mono hm_8
                  replace hA3 := hA3.mono hm_8
                  replace hA4 := hA4.mono hm_8
                  replace hO1 := hO1.mono hm_8
                  replace hA5 := hA5.mono hm_8
                  replace hO2 := hO2.mono hm_8
                  replace hA6 := hA6.mono hm_8
                  refine P_some rfl (O_gY rfl rfl hc7 (O_read rfl (R_eqlD rfl rfl (P_some rfl (O_cons (O_read rfl (R_pick_T rfl hc7 rfl (P_some rfl (O_cons (O_read rfl (R_assign rfl (P_some rfl (O_nil ?_)))))))))))))
                  have e_ := Option.some.inj h6133
                  subst e_
                  exact ⟨(decide (r11 = 38)), rfl, SubFr.of ⟨rfl, trivial⟩, SegSub.sel _ [] 7⟩
                replace h6133 := cond_f hc7 h6133
                refine P_some rfl (O_gN rfl rfl hc7 (P_some rfl (O_gN rfl rfl hc7 (P_some rfl (O_gN rfl rfl hc7 (P_some rfl (O_cons (O_read rfl (R_pick_F rfl hc7 rfl (P_some rfl (O_cons (O_read rfl (R_assign rfl ?_)))))))))))))
                refine P_some rfl (O_nil ?_)
                have e_ := Option.some.inj h6133
                subst e_
                exact ⟨false, rfl, SubFr.of ⟨rfl, trivial⟩, SegSub.sel _ [] 7⟩
              replace h6133 := cond_f hc6 h6133
              refine P_some rfl (O_gN rfl rfl hc6 (P_some rfl (O_cons (O_read rfl (R_pick_F rfl hc6 rfl (P_some rfl (O_cons (O_read rfl (R_move rfl (P_some rfl (O_gN rfl rfl rfl (P_some rfl (O_gN rfl rfl rfl ?_)))))))))))))
              refine P_some rfl (O_gN rfl rfl rfl (P_some rfl (O_gN rfl rfl rfl (P_some rfl (O_cons (O_read rfl (R_pick_F rfl rfl rfl (P_some rfl (O_cons (O_read rfl (R_assign rfl (P_some rfl (O_nil ?_)))))))))))))
              have e_ := Option.some.inj h6133
              subst e_
              exact ⟨false, rfl, SubFr.of ⟨rfl, trivial⟩, SegSub.sel _ [] 7⟩
            replace h6133 := cond_f hc5 h6133
            refine P_some rfl (O_gN rfl rfl hc5 (P_some rfl (O_cons (O_read rfl (R_pick_F rfl hc5 rfl (P_some rfl (O_cons (O_read rfl (R_move rfl (P_some rfl (O_gN rfl rfl rfl (P_some rfl (O_gN rfl rfl rfl ?_)))))))))))))
            refine P_some rfl (O_cons (O_read rfl (R_pick_F rfl rfl rfl (P_some rfl (O_cons (O_read rfl (R_move rfl (P_some rfl (O_gN rfl rfl rfl (P_some rfl (O_gN rfl rfl rfl (P_some rfl (O_gN rfl rfl rfl ?_)))))))))))))
            refine P_some rfl (O_gN rfl rfl rfl (P_some rfl (O_cons (O_read rfl (R_pick_F rfl rfl rfl (P_some rfl (O_cons (O_read rfl (R_assign rfl (P_some rfl (O_nil ?_)))))))))))
            have e_ := Option.some.inj h6133
            subst e_
            exact ⟨false, rfl, SubFr.of ⟨rfl, trivial⟩, SegSub.sel _ [] 7⟩
          replace h6133 := cond_f hc4 h6133
          refine P_some rfl (O_gN rfl rfl hc4 (P_some rfl (O_cons (O_read rfl (R_pick_F rfl hc4 rfl (P_some rfl (O_cons (O_read rfl (R_move rfl (P_some rfl (O_gN rfl rfl rfl (P_some rfl (O_gN rfl rfl rfl ?_)))))))))))))
          refine P_some rfl (O_cons (O_read rfl (R_pick_F rfl rfl rfl (P_some rfl (O_cons (O_read rfl (R_move rfl (P_some rfl (O_gN rfl rfl rfl (P_some rfl (O_gN rfl rfl rfl (P_some rfl (O_cons ?_)))))))))))))
          refine O_read rfl (R_pick_F rfl rfl rfl (P_some rfl (O_cons (O_read rfl (R_move rfl (P_some rfl (O_gN rfl rfl rfl (P_some rfl (O_gN rfl rfl rfl (P_some rfl (O_gN rfl rfl rfl (P_some rfl (O_gN rfl rfl rfl ?_)))))))))))))
          refine P_some rfl (O_cons (O_read rfl (R_pick_F rfl rfl rfl (P_some rfl (O_cons (O_read rfl (R_assign rfl (P_some rfl (O_nil ?_)))))))))
          have e_ := Option.some.inj h6133
          subst e_
          exact ⟨false, rfl, SubFr.of ⟨rfl, trivial⟩, SegSub.sel _ [] 7⟩
        replace h6133 := cond_f hc3 h6133
        refine P_some rfl (O_gN rfl rfl hc3 (P_some rfl (O_cons (O_read rfl (R_pick_F rfl hc3 rfl (P_some rfl (O_cons (O_read rfl (R_move rfl (P_some rfl (O_gN rfl rfl rfl (P_some rfl (O_gN rfl rfl rfl ?_)))))))))))))
        refine P_some rfl (O_cons (O_read rfl (R_pick_F rfl rfl rfl (P_some rfl (O_cons (O_read rfl (R_move rfl (P_some rfl (O_gN rfl rfl rfl (P_some rfl (O_gN rfl rfl rfl (P_some rfl (O_cons ?_)))))))))))))
        refine O_read rfl (R_pick_F rfl rfl rfl (P_some rfl (O_cons (O_read rfl (R_move rfl (P_some rfl (O_gN rfl rfl rfl (P_some rfl (O_gN rfl rfl rfl (P_some rfl (O_cons (O_read rfl (R_pick_F rfl rfl rfl ?_)))))))))))))
        refine P_some rfl (O_cons (O_read rfl (R_move rfl (P_some rfl (O_gN rfl rfl rfl (P_some rfl (O_gN rfl rfl rfl (P_some rfl (O_gN rfl rfl rfl (P_some rfl (O_gN rfl rfl rfl (P_some rfl (O_cons ?_)))))))))))))
        refine O_read rfl (R_pick_F rfl rfl rfl (P_some rfl (O_cons (O_read rfl (R_assign rfl (P_some rfl (O_nil ?_)))))))
        have e_ := Option.some.inj h6133
        subst e_
        exact ⟨false, rfl, SubFr.of ⟨rfl, trivial⟩, SegSub.sel _ [] 7⟩
      replace h6133 := cond_f hc2 h6133
      refine P_some rfl (O_gN rfl rfl hc2 (P_some rfl (O_cons (O_read rfl (R_pick_F rfl hc2 rfl (P_some rfl (O_cons (O_read rfl (R_move rfl (P_some rfl (O_gN rfl rfl rfl (P_some rfl (O_gN rfl rfl rfl ?_)))))))))))))
      refine P_some rfl (O_cons (O_read rfl (R_pick_F rfl rfl rfl (P_some rfl (O_cons (O_read rfl (R_move rfl (P_some rfl (O_gN rfl rfl rfl (P_some rfl (O_gN rfl rfl rfl (P_some rfl (O_cons ?_)))))))))))))
      refine O_read rfl (R_pick_F rfl rfl rfl (P_some rfl (O_cons (O_read rfl (R_move rfl (P_some rfl (O_gN rfl rfl rfl (P_some rfl (O_gN rfl rfl rfl (P_some rfl (O_cons (O_read rfl (R_pick_F rfl rfl rfl ?_)))))))))))))
      refine P_some rfl (O_cons (O_read rfl (R_move rfl (P_some rfl (O_gN rfl rfl rfl (P_some rfl (O_gN rfl rfl rfl (P_some rfl (O_cons (O_read rfl (R_pick_F rfl rfl rfl (P_some rfl (O_cons ?_)))))))))))))
      refine O_read rfl (R_move rfl (P_some rfl (O_gN rfl rfl rfl (P_some rfl (O_gN rfl rfl rfl (P_some rfl (O_gN rfl rfl rfl (P_some rfl (O_gN rfl rfl rfl (P_some rfl (O_cons (O_read rfl (R_pick_F rfl rfl rfl ?_)))))))))))))
      refine P_some rfl (O_cons (O_read rfl (R_assign rfl (P_some rfl (O_nil ?_)))))
      have e_ := Option.some.inj h6133
      subst e_
      exact ⟨false, rfl, SubFr.of ⟨rfl, trivial⟩, SegSub.sel _ [] 7⟩
    replace h6133 := cond_f hc1 h6133
    refine P_some rfl (O_gN rfl rfl hc1 (P_some rfl (O_cons (O_read rfl (R_pick_F rfl hc1 rfl (P_some rfl (O_cons (O_read rfl (R_move rfl (P_some rfl (O_gN rfl rfl rfl (P_some rfl (O_gN rfl rfl rfl ?_)))))))))))))
    refine P_some rfl (O_cons (O_read rfl (R_pick_F rfl rfl rfl (P_some rfl (O_cons (O_read rfl (R_move rfl (P_some rfl (O_gN rfl rfl rfl (P_some rfl (O_gN rfl rfl rfl (P_some rfl (O_cons ?_)))))))))))))
    refine O_read rfl (R_pick_F rfl rfl rfl (P_some rfl (O_cons (O_read rfl (R_move rfl (P_some rfl (O_gN rfl rfl rfl (P_some rfl (O_gN rfl rfl rfl (P_some rfl (O_cons (O_read rfl (R_pick_F rfl rfl rfl ?_)))))))))))))
    refine P_some rfl (O_cons (O_read rfl (R_move rfl (P_some rfl (O_gN rfl rfl rfl (P_some rfl (O_gN rfl rfl rfl (P_some rfl (O_cons (O_read rfl (R_pick_F rfl rfl rfl (P_some rfl (O_cons ?_)))))))))))))
    refine O_read rfl (R_move rfl (P_some rfl (O_gN rfl rfl rfl (P_some rfl (O_gN rfl rfl rfl (P_some rfl (O_cons (O_read rfl (R_pick_F rfl rfl rfl (P_some rfl (O_cons (O_read rfl (R_move rfl ?_)))))))))))))
    refine P_some rfl (O_gN rfl rfl rfl (P_some rfl (O_gN rfl rfl rfl (P_some rfl (O_gN rfl rfl rfl (P_some rfl (O_gN rfl rfl rfl (P_some rfl (O_cons (O_read rfl (R_pick_F rfl rfl rfl (P_some rfl (O_cons ?_)))))))))))))
    refine O_read rfl (R_assign rfl (P_some rfl (O_nil ?_)))
    have e_ := Option.some.inj h6133
    subst e_
    exact ⟨false, rfl, SubFr.of ⟨rfl, trivial⟩, SegSub.sel _ [] 7⟩
  rintro fr6133 μ6133 L6133 hm6133 ⟨v9, ho6133, hF6133, hS6133⟩
  subst ho6133
  replace hA1 := hA1.mono hm6133
  replace hA2 := hA2.mono hm6133
  replace hA3 := hA3.mono hm6133
  replace hA4 := hA4.mono hm6133
  replace hO1 := hO1.mono hm6133
  replace hA5 := hA5.mono hm6133
  replace hO2 := hO2.mono hm6133
  replace hA6 := hA6.mono hm6133
  refine hK6132 _ _ _ (WP.at hF6133 hS6133 (WP.ret ?_))
  have e_ := Option.some.inj h
  subst e_
  refine S_tmp rfl (S_nil (Upd.selS [] 0 ?_))
  exact Upd.done (hR _ (Gh.le.trans hm_1 (Gh.le.trans hm_2 (Gh.le.trans hm_3 (Gh.le.trans hm_4 (Gh.le.trans hm_5 (Gh.le.trans hm_6 (Gh.le.trans hm_7 (hm6133)))))))))

end Go.Proofs.Ytjbminmhndgiaaa
