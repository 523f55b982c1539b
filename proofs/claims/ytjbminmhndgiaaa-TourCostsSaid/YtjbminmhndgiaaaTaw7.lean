/- Printed by gen.py of this repo: the walks that tie the functions to their specifications. -/
import Derived.Test.YtjbminmhndgiaaaTt
import Derived.Test.YtjbminmhndgiaaaTas
import Derived.Test.YtjbminmhndgiaaaTaw1
import Derived.Test.YtjbminmhndgiaaaTaw5
import Derived.Test.YtjbminmhndgiaaaTaw6
namespace Go.Proofs.Ytjbminmhndgiaaa
open Go.RowKit
set_option linter.unusedSimpArgs false
set_option linter.unusedVariables false
attribute [local irreducible] WP SemOk SemU Fn AN Upd vcR vcO vcOps vcPlan putK fillK resK inBlk forkOne Cell StAt Kept

theorem recyclingref22_Cost_fn {μ : Gh} {L : List Seg} {R : Value → Gh → List Seg → Prop}  {p1 : T_api_Problem} {t1 : T_api_Tour} {A1 : Option Addr} {c1 : Nat} {A2 : Option Addr} {c2 : Nat} {A3 : Option Addr} {c3 : Nat} {A4 : Option Addr} {c4 : Nat} {res1 : Int} {res2 : Int}
    (hl1 : p1.Road.Edges.length ≤ c1 ∧ c1 ≤ maxLen) (hA1 : ArrR r_api_Edge μ A1 p1.Road.Edges) (hl2 : p1.Vehicles.length ≤ c2 ∧ c2 ≤ maxLen) (hA2 : ArrR r_api_Vehicle μ A2 p1.Vehicles) (hl3 : p1.Demands.length ≤ c3 ∧ c3 ≤ maxLen) (hA3 : ArrR r_api_Demand μ A3 p1.Demands) (hl4 : t1.Stops.length ≤ c4 ∧ c4 ≤ maxLen) (hA4 : ArrR rInt μ A4 t1.Stops) (h : recyclingref22_Cost p1 t1 = some (res1, res2))
    (hR : R (.tuple #[.int .i64 res1, .int .i64 res2]) μ (L)) :
    Fn Try.prog 19 [.agg #[.int .i64 p1.Road.Nodes, .slice A1 p1.Road.Edges.length c1, .slice A2 p1.Vehicles.length c2, .slice A3 p1.Demands.length c3, .int .i64 p1.Unload, .int .i64 p1.UnloadSecs], .agg #[.int .i64 t1.Vehicle, .slice A4 t1.Stops.length c4]] μ (L) R := by
  unfold recyclingref22_Cost at h
  refine Fn.of_body Tt_ok Try.func19 (by kernel_rfl) rfl Try.ntmps19 (by simp) ?_
  simp only [Try.f19, argFr, List.zipIdx, List.map, Nat.reduceAdd]
  refine WP.seq_k (fun K7133 hK7133 => WP.region Tt_ok (O_cons (O_box (cs := #[.int .i64 p1.Road.Nodes, .slice A1 p1.Road.Edges.length c1, .slice A2 p1.Vehicles.length c2, .slice A3 p1.Demands.length c3, .int .i64 p1.Unload, .int .i64 p1.UnloadSecs]) rfl rfl (fun g1 => P_some rfl (O_cons (O_box (cs := #[.int .i64 t1.Vehicle, .slice A4 t1.Stops.length c4]) rfl rfl (fun g2 => Pc rfl rfl (R_assign rfl (Pc rfl rfl (R_assign rfl (Pn rfl (hK7133 _ _ _ ?_))))))))))))
  refine WP.seq_k (fun K7136 hK7136 => Wr Tt_ok rfl (R_loadA rfl rfl rfl rfl (LA_ (vs := [.int .i64 p1.Road.Nodes, .slice A1 p1.Road.Edges.length c1, .slice A2 p1.Vehicles.length c2, .slice A3 p1.Demands.length c3, .int .i64 p1.Unload, .int .i64 p1.UnloadSecs]) 1 0 rfl rfl rfl rfl (Pc rfl rfl (R_loadA rfl rfl rfl rfl (LA_ (vs := [.int .i64 t1.Vehicle, .slice A4 t1.Stops.length c4]) 0 0 rfl rfl rfl rfl (P_some rfl (O_cons (O_call (all := [.agg #[.int .i64 p1.Road.Nodes, .slice A1 p1.Road.Edges.length c1, .slice A2 p1.Vehicles.length c2, .slice A3 p1.Demands.length c3, .int .i64 p1.Unload, .int .i64 p1.UnloadSecs], .agg #[.int .i64 t1.Vehicle, .slice A4 t1.Stops.length c4]]) rfl rfl rfl ?_)))))))))
  obtain ⟨⟨r1, r2, r3⟩, hx1, h⟩ := obind h
  replace h := oun_mk h
  replace h := oun_mk h
  refine recyclingref22_Walk_fn hl1 hA1 hl2 hA2 hl3 hA3 hl4 hA4 hx1 (fun A5 c5 ch1 hO1 => Pc rfl rfl (R_move rfl (Pc rfl rfl (R_ext rfl rfl (Pc rfl rfl (R_ext rfl rfl (Pc rfl rfl (R_ext rfl rfl (P_some rfl ?_)))))))))
  refine O_cons (O_read rfl (R_assign rfl (Pc rfl rfl (R_assign rfl (Pc rfl rfl (R_assign rfl (Pn rfl (hK7136 _ _ _ (WP.seq_k (fun K7138 hK7138 => WP.seq_k (fun K7139 hK7139 => WP.region Tt_ok (O_cons ?_))))))))))))
  refine O_read rfl (R_move rfl (Pc rfl rfl (R_neqD rfl rfl (Pn rfl (hK7139 _ _ _ ?_)))))
  refine W_cond_v (b := !(decide (r2 = 0))) rfl (fun hc1 => ?_) (fun hc1 => ?_)
  · replace h := cond_t hc1 h
    refine WP.seq_k (fun K7140 hK7140 => Wr Tt_ok rfl (R_move rfl (Pc rfl rfl (R_assign rfl (Pc rfl rfl (R_assign rfl (Pn rfl (hK7140 _ _ _ (WP.ret ?_)))))))))
    have e_ := Option.some.inj h
    obtain ⟨e0a_, e0b_⟩ := Prod.mk.inj e_
    clear e_
    subst e0a_
    subst e0b_
    refine S_tmp rfl (S_tmp rfl (S_nil (Upd.selS [] 3 ?_)))
    exact Upd.done hR
  replace h := cond_f hc1 h
  refine WP.skip (hK7138 _ _ _ (WP.seq_k (fun K7141 hK7141 => Wr Tt_ok rfl (R_assign rfl (Pn rfl (hK7141 _ _ _ (WP.seq_k (fun K7142 hK7142 => Wr Tt_ok rfl (R_fa0 (o' := 2) rfl rfl rfl rfl rfl rfl (Pc rfl rfl ?_))))))))))
  refine R_load rfl rfl rfl (Ex.mk _ (Cell.seg 2 0 rfl rfl rfl) (Pc rfl rfl (R_fa0 (o' := 0) rfl rfl rfl rfl rfl rfl (Pc rfl rfl (R_load rfl rfl rfl (Ex.mk _ (Cell.seg 1 0 rfl rfl rfl) (P_some rfl (O_cons ?_))))))))
  obtain ⟨x1, hx2, h⟩ := obind h
  obtain ⟨a1, cs1, hA5, hr1, _, hc2⟩ := Rds.getI (ArrR.rds hA2 L) hx2
  obtain rfl := hr1
  refine O_read rfl (R_iaG rfl rfl rfl rfl rfl rfl ⟨(getI_lt hx2).1, (getI_lt hx2).2.1⟩ hA5 (Pc rfl rfl (R_fa rfl rfl rfl rfl rfl (Pc rfl rfl (R_load rfl rfl rfl (Ex.mk _ (Cell.of_cells (hc2.push.push.push) 1 rfl) (Pc rfl rfl (R_assign rfl (Pn rfl (hK7142 _ _ _ ?_))))))))))
  refine WP.seq_k (fun K7143 hK7143 => WP.seq_k (fun K7144 hK7144 => Wr Tt_ok rfl (R_move rfl (Pc rfl rfl (R_lenS rfl rfl rfl (Pc rfl rfl (R_move rfl (Pn rfl (hK7144 _ _ _ ?_)))))))))
  obtain ⟨o7145, h7145, h⟩ := obind h
  refine WP.cutK (fun fr_ μ_ L_ => ∃ (sum2 : Int), sum2 = o7145 ∧ SubFr [(9, .int .i64 sum2)] fr_ ∧ SegSub (L) L_ ∧ μ = μ_) ?_ ?_
  · refine WP.block (WP.iter h7145 (fun (j_ : Int × Int × Int) fr_ μ_ L_ => ounP j_ fun sum1 j_ => ounP j_ fun f_at1 v1 => SubFr [(2, .pointer (some ⟨g1, 0, none⟩)), (9, .int .i64 sum1), (10, .int .i64 f_at1), (30, .slice A5 r1.length c5), (31, .int .i64 ((r1.length : Nat) : Int)), (32, .int .i64 v1)] fr_ ∧ SegSub ([(g1, .cells #[.int .i64 p1.Road.Nodes, .slice A1 p1.Road.Edges.length c1, .slice A2 p1.Vehicles.length c2, .slice A3 p1.Demands.length c3, .int .i64 p1.Unload, .int .i64 p1.UnloadSecs] 28 (0, 0))] :: ch1 :: L) L_ ∧ μ = μ_) ⟨SubFr.of ⟨rfl, rfl, rfl, rfl, rfl, rfl, trivial⟩, SegSub.sel _ [some 2, some 0] 3, rfl⟩ ?_)
    rintro ⟨sum1, f_at1, v1⟩ q7158 fr7158 μ7158 L7158 hm7158 ⟨hF7158, hS7158, hu7158⟩ hb7158 hq7158
    unfold recyclingref22_Cost_l1 at hb7158
    replace hb7158 := oun_mk hb7158
    replace hb7158 := oun_mk hb7158
    subst hu7158
    refine WP.at hF7158 hS7158 (WP.seq_k (fun K7163 hK7163 => Wr Tt_ok rfl (R_lssD rfl rfl (Pn rfl (hK7163 _ _ _ (WP.seq_k (fun K7164 hK7164 => ?_)))))))
    refine W_cond_v (b := (decide (v1 < ((r1.length : Nat) : Int)))) rfl (fun hc3 => ?_) (fun hc3 => ?_)
    · replace hb7158 := cond_t hc3 hb7158
      refine WP.skip (hK7164 _ _ _ (WP.seq_k (fun K7165 hK7165 => WP.block (WP.seq_k (fun K7166 hK7166 => WP.region Tt_ok (O_cons ?_))))))
      obtain ⟨x2, hx3, hb7158⟩ := obind hb7158
      obtain ⟨a2, cs2, hA6, hr2, _, hc4⟩ := Rds.getI (Own.rds (L := ([(g1, .cells #[.int .i64 p1.Road.Nodes, .slice A1 p1.Road.Edges.length c1, .slice A2 p1.Vehicles.length c2, .slice A3 p1.Demands.length c3, .int .i64 p1.Unload, .int .i64 p1.UnloadSecs] 28 (0, 0))] :: ch1 :: L)) hO1 1 rfl) hx3
      obtain rfl := hr2
      refine O_read rfl (R_iaG rfl rfl rfl rfl rfl rfl ⟨(getI_lt hx3).1, (getI_lt hx3).2.1⟩ hA6 (Pc rfl rfl (R_loadA rfl rfl rfl rfl (Ex.mk [.int .i64 x2.Stop, .int .i64 x2.Node, .int .i64 x2.Arrive, .int .i64 x2.Start, .int .i64 x2.Leave, .int .i64 x2.Load] ⟨rfl, hc4⟩ (P_some rfl (O_cons (O_alloc (cs := #[.int .i64 0, .int .i64 0, .int .i64 0, .int .i64 0, .int .i64 0, .int .i64 0]) rfl rfl (fun g3 => P_some rfl (O_cons (O_store (vs := [.int .i64 x2.Stop, .int .i64 x2.Node, .int .i64 x2.Arrive, .int .i64 x2.Start, .int .i64 x2.Leave, .int .i64 x2.Load]) rfl rfl rfl rfl rfl rfl (ST_ (L' := ([(g3, .cells #[.int .i64 x2.Stop, .int .i64 x2.Node, .int .i64 x2.Arrive, .int .i64 x2.Start, .int .i64 x2.Leave, .int .i64 x2.Load] 48 (0, 0))] :: [(g1, .cells #[.int .i64 p1.Road.Nodes, .slice A1 p1.Road.Edges.length c1, .slice A2 p1.Vehicles.length c2, .slice A3 p1.Demands.length c3, .int .i64 p1.Unload, .int .i64 p1.UnloadSecs] 28 (0, 0))] :: ch1 :: L)) 0 0 rfl rfl rfl rfl ?_)))))))))))
      refine P_none (O_nil (hK7166 _ _ _ (WP.seq_k (fun K7169 hK7169 => Wr Tt_ok rfl (R_move rfl (Pc rfl rfl (R_loadA rfl rfl rfl rfl (LA_ (vs := [.int .i64 p1.Road.Nodes, .slice A1 p1.Road.Edges.length c1, .slice A2 p1.Vehicles.length c2, .slice A3 p1.Demands.length c3, .int .i64 p1.Unload, .int .i64 p1.UnloadSecs]) 1 0 rfl rfl rfl rfl (Pc rfl rfl (R_move rfl (P_some rfl ?_)))))))))))
      refine O_cons (O_read rfl (R_fa0 (o' := 1) rfl rfl rfl rfl rfl rfl (Pc rfl rfl (R_load rfl rfl rfl (Ex.mk _ (Cell.seg 0 0 rfl rfl rfl) (P_some rfl (O_cons (O_call (all := [.agg #[.int .i64 p1.Road.Nodes, .slice A1 p1.Road.Edges.length c1, .slice A2 p1.Vehicles.length c2, .slice A3 p1.Demands.length c3, .int .i64 p1.Unload, .int .i64 p1.UnloadSecs], .int .i64 f_at1, .int .i64 x2.Node]) rfl rfl rfl ?_))))))))
      obtain ⟨r4, hx4, hb7158⟩ := obind hb7158
      refine recyclingref22_Leg_fn hl1 hA1 hl2 hA2 hl3 hA3 hx4 ((Pc rfl rfl (R_field rfl rfl rfl rfl rfl (Pc rfl rfl (R_add rfl rfl (Pc rfl rfl (R_assign rfl (Pn rfl (hK7169 _ _ _ (WP.region Tt_ok (O_cons ?_)))))))))))
      refine O_read rfl (R_fa0 (o' := 1) rfl rfl rfl rfl rfl rfl (Pc rfl rfl (R_load rfl rfl rfl (Ex.mk _ (Cell.seg 0 0 rfl rfl rfl) (Pc rfl rfl (R_assign rfl (Pn rfl (hK7165 _ _ _ (Wr Tt_ok rfl (R_add rfl rfl ?_))))))))))
      refine Pc rfl rfl (R_move rfl (Pn rfl ?_))
      have e_ := Option.some.inj hb7158
      subst e_
      exact ⟨_, rfl, SubFr.of ⟨rfl, rfl, rfl, rfl, rfl, rfl, trivial⟩, SegSub.sel _ [some 1, some 2] 3, rfl⟩
    replace hb7158 := cond_f hc3 hb7158
    refine WP.exit (B_here ?_)
    have e_ := Option.some.inj hb7158
    subst e_
    have hq_ := hq7158 _ rfl
    subst hq_
    exact ⟨sum1, rfl, SubFr.of ⟨rfl, trivial⟩, SegSub.sel _ [] 2, rfl⟩
  rintro fr7145 μ7145 L7145 hm7145 ⟨sum2, ho7145, hF7145, hS7145, hu7145⟩
  subst ho7145
  subst hu7145
  refine hK7143 _ _ _ (WP.at hF7145 hS7145 (WP.seq_k (fun K7170 hK7170 => Wr Tt_ok rfl (R_move rfl (Pc rfl rfl (R_assign rfl (Pc rfl rfl (R_assign rfl (Pn rfl (hK7170 _ _ _ ?_))))))))))
  apply WP.ret
  have e_ := Option.some.inj h
  obtain ⟨e0a_, e0b_⟩ := Prod.mk.inj e_
  clear e_
  subst e0a_
  subst e0b_
  refine S_tmp rfl (S_tmp rfl (S_nil (Upd.selS [] 0 ?_)))
  exact Upd.done hR

end Go.Proofs.Ytjbminmhndgiaaa
