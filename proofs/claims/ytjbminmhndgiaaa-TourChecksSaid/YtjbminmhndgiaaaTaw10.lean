/- Printed by gen.py of this repo: the walks that tie the functions to their specifications. -/
import Derived.Test.YtjbminmhndgiaaaTt
import Derived.Test.YtjbminmhndgiaaaTas
import Derived.Test.YtjbminmhndgiaaaTaw1
import Derived.Test.YtjbminmhndgiaaaTaw4
import Derived.Test.YtjbminmhndgiaaaTaw5
namespace Go.Proofs.Ytjbminmhndgiaaa
open Go.RowKit
set_option linter.unusedSimpArgs false
set_option linter.unusedVariables false
attribute [local irreducible] WP SemOk SemU Fn AN Upd vcR vcO vcOps vcPlan putK fillK resK inBlk forkOne Cell StAt Kept

theorem recyclinglaw22_TourChecks_fn {μ : Gh} {L : List Seg} {R : Value → Gh → List Seg → Prop} {F : Nat} {p1 : T_api_Problem} {A1 : Option Addr} {c1 : Nat} {A2 : Option Addr} {c2 : Nat} {A3 : Option Addr} {c3 : Nat} {res1 : Bool}
    (hl1 : p1.Road.Edges.length ≤ c1 ∧ c1 ≤ maxLen) (hA1 : ArrR r_api_Edge μ A1 p1.Road.Edges) (hl2 : p1.Vehicles.length ≤ c2 ∧ c2 ≤ maxLen) (hA2 : ArrR r_api_Vehicle μ A2 p1.Vehicles) (hl3 : p1.Demands.length ≤ c3 ∧ c3 ≤ maxLen) (hA3 : ArrR r_api_Demand μ A3 p1.Demands) (h : recyclinglaw22_TourChecks F p1 = some res1)
    (hR : ∀ (μ' : Gh) , μ.le μ' → R (.bool res1) μ' (L)) :
    Fn Try.prog 3 [.agg #[.int .i64 p1.Road.Nodes, .slice A1 p1.Road.Edges.length c1, .slice A2 p1.Vehicles.length c2, .slice A3 p1.Demands.length c3, .int .i64 p1.Unload, .int .i64 p1.UnloadSecs]] μ (L) R := by
  unfold recyclinglaw22_TourChecks at h
  refine Fn.of_body Tt_ok Try.func3 (by kernel_rfl) rfl Try.ntmps3 (by simp) ?_
  simp only [Try.f3, argFr, List.zipIdx, List.map, Nat.reduceAdd]
  refine WP.seq_k (fun K6440 hK6440 => WP.region Tt_ok (O_cons (O_box (cs := #[.int .i64 p1.Road.Nodes, .slice A1 p1.Road.Edges.length c1, .slice A2 p1.Vehicles.length c2, .slice A3 p1.Demands.length c3, .int .i64 p1.Unload, .int .i64 p1.UnloadSecs]) rfl rfl (fun g1 => P_some rfl (O_cons (O_read rfl (R_assign rfl (P_some rfl (O_nil (hK6440 _ _ _ (WP.seq_k (fun K6442 hK6442 => WP.seq_k (fun K6443 hK6443 => WP.region Tt_ok ?_)))))))))))))
  refine O_cons (O_read rfl (R_loadA rfl rfl rfl rfl (LA_ (vs := [.int .i64 p1.Road.Nodes, .slice A1 p1.Road.Edges.length c1, .slice A2 p1.Vehicles.length c2, .slice A3 p1.Demands.length c3, .int .i64 p1.Unload, .int .i64 p1.UnloadSecs]) 0 0 rfl rfl rfl rfl (P_some rfl (O_cons (O_call (all := [.agg #[.int .i64 p1.Road.Nodes, .slice A1 p1.Road.Edges.length c1, .slice A2 p1.Vehicles.length c2, .slice A3 p1.Demands.length c3, .int .i64 p1.Unload, .int .i64 p1.UnloadSecs]]) rfl rfl rfl ?_))))))
  obtain ⟨r1, hx1, h⟩ := obind h
  refine recyclingref22_Large_fn hl1 hA1 hl2 hA2 hl3 hA3 hx1 ((P_some rfl (O_nil (hK6443 _ _ _ ?_))))
  refine W_cond_v (b := r1) rfl (fun hc1 => ?_) (fun hc1 => ?_)
  · replace h := cond_t hc1 h
    refine WP.seq_k (fun K6444 hK6444 => WP.region Tt_ok (O_cons (O_call (all := []) rfl rfl rfl ?_)))
    obtain ⟨r2, hx2, h⟩ := obind h
    refine recyclinglaw22_awake_fn  hx2 (fun v1 hm_1 => ?_)
    replace hA1 := hA1.mono hm_1
    replace hA2 := hA2.mono hm_1
    replace hA3 := hA3.mono hm_1
    refine P_some rfl (O_cons (O_read rfl (R_assign rfl (P_some rfl (O_nil (hK6444 _ _ _ (WP.ret ?_)))))))
    have e_ := Option.some.inj h
    subst e_
    refine S_tmp rfl (S_nil (Upd.selS [] 1 ?_))
    exact Upd.done (hR _ (hm_1))
  replace h := cond_f hc1 h
  refine WP.skip (hK6442 _ _ _ (WP.seq_k (fun K6445 hK6445 => ?_)))
  obtain ⟨o6446, h6446, h⟩ := obind h
  refine WP.cutK (fun fr_ μ_ L_ => ∃ (v4 : Bool), v4 = o6446 ∧ SubFr [(2, .bool v4)] fr_ ∧ SegSub (L) L_) ?_ ?_
  · refine WP.drawn (id := 3) (l' := List.replicate 9 true) wide Tt_ok _ Kept.refl [(true, 0), (true, 2), (false, 1), (false, 3), (true, 4), (true, 5), (false, 6), (true, 7), (true, 8)] (by kernel_rfl) (by kernel_rfl) rfl (PL_t rfl (R_loadA rfl rfl rfl rfl (LA_ (vs := [.int .i64 p1.Road.Nodes, .slice A1 p1.Road.Edges.length c1, .slice A2 p1.Vehicles.length c2, .slice A3 p1.Demands.length c3, .int .i64 p1.Unload, .int .i64 p1.UnloadSecs]) 0 0 rfl rfl rfl rfl (P_some rfl (PL_t rfl (R_loadA rfl rfl rfl rfl (LA_ (vs := [.int .i64 p1.Road.Nodes, .slice A1 p1.Road.Edges.length c1, .slice A2 p1.Vehicles.length c2, .slice A3 p1.Demands.length c3, .int .i64 p1.Unload, .int .i64 p1.UnloadSecs]) 0 0 rfl rfl rfl rfl ?_)))))))
    refine P_some rfl (PL_f rfl (O_call (all := [.agg #[.int .i64 p1.Road.Nodes, .slice A1 p1.Road.Edges.length c1, .slice A2 p1.Vehicles.length c2, .slice A3 p1.Demands.length c3, .int .i64 p1.Unload, .int .i64 p1.UnloadSecs]]) rfl rfl rfl ?_))
    obtain ⟨r3, hx3, h6446⟩ := obind h6446
    refine tour_Check_fn hl1 hA1 hl2 hA2 hl3 hA3 hx3 (fun v2 hm_2 => ?_)
    replace hA1 := hA1.mono hm_2
    replace hA2 := hA2.mono hm_2
    replace hA3 := hA3.mono hm_2
    refine ⟨Kept.refl, ?_⟩
    refine P_some rfl (PL_f rfl (O_call (all := [.agg #[.int .i64 p1.Road.Nodes, .slice A1 p1.Road.Edges.length c1, .slice A2 p1.Vehicles.length c2, .slice A3 p1.Demands.length c3, .int .i64 p1.Unload, .int .i64 p1.UnloadSecs]]) rfl rfl rfl ?_))
    obtain ⟨r4, hx4, h6446⟩ := obind h6446
    refine recyclingref22_Check_fn hl1 hA1 hl2 hA2 hl3 hA3 hx4 (?_)
    refine ⟨Kept.refl, ?_⟩
    refine P_some rfl (PL_t rfl (R_eqlD rfl rfl (P_some rfl (PL_t rfl (R_move rfl (P_some rfl ?_))))))
    refine PL_fv (z := (decide (r3 = r4))) rfl rfl rfl (fun hc2 => ?_) (fun hc2 => ?_)
    · replace h6446 := cond_t hc2 h6446
      apply O_call (all := []); exact rfl; exact rfl; exact rfl
      obtain ⟨r5, hx5, h6446⟩ := obind h6446
      refine recyclinglaw22_awake_fn  hx5 (fun v3 hm_3 => ?_)
      replace hA1 := hA1.mono hm_3
      replace hA2 := hA2.mono hm_3
      replace hA3 := hA3.mono hm_3
      refine ⟨Kept.refl, ?_⟩
      refine P_some rfl (PL_t rfl (R_pick_T rfl hc2 rfl (P_some rfl (PL_t rfl (R_assign rfl (P_some rfl (PL_nil (AN.done0 (by kernel_rfl) ?_))))))))
      have e_ := Option.some.inj h6446
      subst e_
      exact ⟨r5, rfl, SubFr.of ⟨rfl, trivial⟩, SegSub.sel _ [] 1⟩
    replace h6446 := cond_f hc2 h6446
    refine P_some rfl (PL_t rfl (R_pick_F rfl hc2 rfl (P_some rfl (PL_t rfl (R_assign rfl (P_some rfl (PL_nil (AN.done0 (by kernel_rfl) ?_))))))))
    have e_ := Option.some.inj h6446
    subst e_
    exact ⟨false, rfl, SubFr.of ⟨rfl, trivial⟩, SegSub.sel _ [] 1⟩
  rintro fr6446 μ6446 L6446 hm6446 ⟨v4, ho6446, hF6446, hS6446⟩
  subst ho6446
  replace hA1 := hA1.mono hm6446
  replace hA2 := hA2.mono hm6446
  replace hA3 := hA3.mono hm6446
  refine hK6445 _ _ _ (WP.at hF6446 hS6446 (WP.ret ?_))
  have e_ := Option.some.inj h
  subst e_
  refine S_tmp rfl (S_nil (Upd.selS [] 0 ?_))
  exact Upd.done (hR _ (hm6446))

end Go.Proofs.Ytjbminmhndgiaaa
