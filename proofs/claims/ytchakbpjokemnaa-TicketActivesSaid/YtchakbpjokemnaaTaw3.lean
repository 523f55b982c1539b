/- Printed by gen.py of this repo: the walks that tie the functions to their specifications. -/
import Derived.Test.YtchakbpjokemnaaTt
import Derived.Test.YtchakbpjokemnaaTaw2
namespace Go.Proofs.Ytchakbpjokemnaa
open Go.RowKit
set_option linter.unusedSimpArgs false
set_option linter.unusedVariables false
attribute [local irreducible] WP SemOk SemU Fn AN Upd vcR vcO vcOps vcPlan putK fillK resK inBlk forkOne Cell StAt Kept

theorem recyclingref27_List_fn {μ : Gh} {L : List Seg} {R : Value → Gh → List Seg → Prop}  {l1 : (List T_api_Ticket)} {A1 : Option Addr} {c1 : Nat} {res1 : Int}
    (hl1 : l1.length ≤ c1 ∧ c1 ≤ maxLen) (hA1 : Rds r_api_Ticket μ L A1 l1) (h : recyclingref27_List l1 = some res1)
    (hR : R (.int .i64 res1) μ (L)) :
    Fn Try.prog 31 [.slice A1 l1.length c1] μ (L) R := by
  unfold recyclingref27_List at h
  refine Fn.of_body Tt_ok Try.func31 (by kernel_rfl) rfl Try.ntmps31 (by simp) ?_
  simp only [Try.f31, argFr, List.zipIdx, List.map, Nat.reduceAdd]
  refine WP.seq_k (fun K1152 hK1152 => WP.region Tt_ok (O_cons (O_read rfl (R_assign rfl (P_some rfl (O_nil (hK1152 _ _ _ (WP.seq_k (fun K1153 hK1153 => WP.seq_k (fun K1154 hK1154 => WP.region Tt_ok (O_cons (O_read rfl (R_move rfl ?_)))))))))))))
  refine P_some rfl (O_cons (O_read rfl (R_lenS rfl rfl rfl (P_some rfl (O_cons (O_read rfl (R_gtrD rfl rfl (P_some rfl (O_nil (hK1154 _ _ _ ?_))))))))))
  refine W_cond_v (b := (decide (512 < ((l1.length : Nat) : Int)))) rfl (fun hc1 => ?_) (fun hc1 => ?_)
  · replace h := cond_t hc1 h
    refine WP.seq_k (fun K1155 hK1155 => WP.region Tt_ok (O_cons (O_read rfl (R_assign rfl (P_some rfl (O_nil (hK1155 _ _ _ (WP.ret ?_))))))))
    have e_ := Option.some.inj h
    subst e_
    refine S_tmp rfl (S_nil (Upd.selS [] 0 ?_))
    exact Upd.done hR
  replace h := cond_f hc1 h
  refine WP.skip (hK1153 _ _ _ (WP.seq_k (fun K1156 hK1156 => WP.seq_k (fun K1157 hK1157 => WP.region Tt_ok (O_cons (O_read rfl (R_assign rfl (P_some rfl (O_nil (hK1157 _ _ _ ?_))))))))))
  obtain ⟨o1158, h1158, h⟩ := obind h
  refine WP.cutK (fun fr_ μ_ L_ => (.inl ()) = o1158 ∧ SubFr [(0, .slice A1 l1.length c1)] fr_ ∧ SegSub (L) L_ ∧ μ = μ_) ?_ ?_
  · refine WP.block (WP.iter h1158 (fun (i1 : Int) fr_ μ_ L_ => SubFr [(0, .slice A1 l1.length c1), (3, .int .i64 i1)] fr_ ∧ SegSub (L) L_ ∧ μ = μ_) ⟨SubFr.of ⟨rfl, rfl, trivial⟩, SegSub.sel _ [] 0, rfl⟩ ?_)
    rintro i1 q1166 fr1166 μ1166 L1166 hm1166 ⟨hF1166, hS1166, hu1166⟩ hb1166 hq1166
    unfold recyclingref27_List_l1 at hb1166
    subst hu1166
    refine WP.at hF1166 hS1166 (WP.seq_k (fun K1167 hK1167 => WP.seq_k (fun K1168 hK1168 => WP.region Tt_ok (O_cons (O_read rfl (R_move rfl (P_some rfl (O_cons (O_read rfl (R_move rfl (P_some rfl (O_cons (O_read rfl ?_)))))))))))))
    refine R_lenS rfl rfl rfl (P_some rfl (O_cons (O_read rfl (R_lssD rfl rfl (P_some rfl (O_nil (hK1168 _ _ _ ?_)))))))
    refine W_cond_v (b := (decide (i1 < ((l1.length : Nat) : Int)))) rfl (fun hc2 => ?_) (fun hc2 => ?_)
    · replace hb1166 := cond_t hc2 hb1166
      refine WP.skip (hK1167 _ _ _ (WP.seq_k (fun K1169 hK1169 => WP.block (WP.seq_k (fun K1170 hK1170 => ?_)))))
      obtain ⟨o1171, h1171, hb1166⟩ := obind hb1166
      refine WP.cutK (fun fr_ μ_ L_ => ∃ (v1 : Bool), v1 = o1171 ∧ SubFr [(0, .slice A1 l1.length c1), (3, .int .i64 i1), (30, .bool v1)] fr_ ∧ SegSub (L) L_ ∧ μ = μ_) ?_ ?_
      · refine WP.region Tt_ok (O_cons (O_read rfl (R_move rfl (P_some rfl (O_cons (O_read rfl (R_move rfl (P_some rfl (O_cons ?_)))))))))
        obtain ⟨x1, hx1, h1171⟩ := obind h1171
        obtain ⟨a1, cs1, hA2, hr1, _, hc3⟩ := Rds.getI hA1 hx1
        obtain rfl := hr1
        refine O_read rfl (R_iaG rfl rfl rfl rfl rfl rfl ⟨(getI_lt hx1).1, (getI_lt hx1).2.1⟩ hA2 (P_some rfl (O_cons (O_read rfl (R_faz rfl rfl rfl rfl rfl (P_some rfl (O_cons (O_read rfl (R_load rfl rfl rfl (Ex.mk _ (Cell.of_cells0 hc3 rfl) (P_some rfl (O_cons (O_read rfl ?_)))))))))))))
        refine R_lssD rfl rfl (P_some rfl (O_cons (O_read rfl (R_move rfl (P_some rfl ?_)))))
        refine O_gv (z := (decide (x1.ID < 1))) rfl rfl (fun hc4 => ?_) (fun hc4 => ?_)
        · replace h1171 := cond_f hc4 h1171
          refine O_read rfl (R_move rfl (P_some rfl (O_gY rfl rfl hc4 (O_read rfl (R_move rfl (P_some rfl (O_gY rfl rfl hc4 ?_)))))))
          obtain ⟨x2, hx2, h1171⟩ := obind h1171
          obtain ⟨a2, cs2, hA3, hr2, _, hc5⟩ := Rds.getI hA1 hx2
          obtain rfl := hr2
          refine O_read rfl (R_iaG rfl rfl rfl rfl rfl rfl ⟨(getI_lt hx2).1, (getI_lt hx2).2.1⟩ hA3 (P_some rfl (O_gY rfl rfl hc4 (O_read rfl (R_faz rfl rfl rfl rfl rfl (P_some rfl (O_gY rfl rfl hc4 (O_read rfl (R_load rfl rfl rfl (Ex.mk _ (Cell.of_cells0 hc5 rfl) (P_some rfl (O_gY rfl rfl hc4 (O_read rfl ?_)))))))))))))
          refine R_gtrD rfl rfl (P_some rfl (O_cons (O_read rfl (R_pick_F rfl hc4 rfl (P_some rfl (O_nil ?_))))))
          have e_ := Option.some.inj h1171
          subst e_
          exact ⟨(decide (1000000 < x2.ID)), rfl, SubFr.of ⟨rfl, rfl, rfl, trivial⟩, SegSub.sel _ [] 0, rfl⟩
        replace h1171 := cond_t hc4 h1171
        refine P_some rfl (O_gN rfl rfl hc4 (P_some rfl (O_gN rfl rfl hc4 (P_some rfl (O_gN rfl rfl hc4 (P_some rfl (O_gN rfl rfl hc4 (P_some rfl (O_gN rfl rfl hc4 (P_some rfl (O_cons (O_read rfl (R_pick_T rfl hc4 rfl ?_)))))))))))))
        refine P_some rfl (O_nil ?_)
        have e_ := Option.some.inj h1171
        subst e_
        exact ⟨true, rfl, SubFr.of ⟨rfl, rfl, rfl, trivial⟩, SegSub.sel _ [] 0, rfl⟩
      rintro fr1171 μ1171 L1171 hm1171 ⟨v1, ho1171, hF1171, hS1171, hu1171⟩
      subst ho1171
      subst hu1171
      refine hK1170 _ _ _ (WP.at hF1171 hS1171 ?_)
      refine W_cond_v (b := v1) rfl (fun hc6 => ?_) (fun hc6 => ?_)
      · replace hb1166 := cond_t hc6 hb1166
        refine WP.seq_k (fun K1172 hK1172 => WP.region Tt_ok (O_cons (O_read rfl (R_assign rfl (P_some rfl (O_nil (hK1172 _ _ _ (WP.ret ?_))))))))
        have e_ := Option.some.inj hb1166
        subst e_
        have hq_ := hq1166 _ rfl
        subst hq_
        replace h := osum_r h
        have e_ := Option.some.inj h
        subst e_
        refine S_tmp rfl (S_nil (Upd.selS [] 0 ?_))
        exact Upd.done hR
      replace hb1166 := cond_f hc6 hb1166
      refine WP.skip (hK1169 _ _ _ (WP.region Tt_ok (O_cons (O_read rfl (R_move rfl (P_some rfl (O_cons (O_read rfl (R_add rfl rfl (P_some rfl (O_cons (O_read rfl (R_assign rfl ?_)))))))))))))
      refine P_some rfl (O_nil ?_)
      have e_ := Option.some.inj hb1166
      subst e_
      exact ⟨_, rfl, SubFr.of ⟨rfl, rfl, trivial⟩, SegSub.sel _ [] 0, rfl⟩
    replace hb1166 := cond_f hc2 hb1166
    refine WP.exit (B_here ?_)
    have e_ := Option.some.inj hb1166
    subst e_
    have hq_ := hq1166 _ rfl
    subst hq_
    exact ⟨rfl, SubFr.of ⟨rfl, trivial⟩, SegSub.sel _ [] 0, rfl⟩
  rintro fr1158 μ1158 L1158 hm1158 ⟨ho1158, hF1158, hS1158, hu1158⟩
  subst ho1158
  replace h := osum_l h
  subst hu1158
  refine hK1156 _ _ _ (WP.at hF1158 hS1158 (WP.seq_k (fun K1173 hK1173 => WP.seq_k (fun K1174 hK1174 => WP.region Tt_ok (O_cons (O_read rfl (R_assign rfl (P_some rfl (O_nil (hK1174 _ _ _ ?_))))))))))
  obtain ⟨o1175, h1175, h⟩ := obind h
  refine WP.cutK (fun fr_ μ_ L_ => (.inl ()) = o1175 ∧ SubFr [(0, .slice A1 l1.length c1)] fr_ ∧ SegSub (L) L_ ∧ μ = μ_) ?_ ?_
  · refine WP.block (WP.iter h1175 (fun (i2 : Int) fr_ μ_ L_ => SubFr [(0, .slice A1 l1.length c1), (4, .int .i64 i2)] fr_ ∧ SegSub (L) L_ ∧ μ = μ_) ⟨SubFr.of ⟨rfl, rfl, trivial⟩, SegSub.sel _ [] 0, rfl⟩ ?_)
    rintro i2 q1200 fr1200 μ1200 L1200 hm1200 ⟨hF1200, hS1200, hu1200⟩ hb1200 hq1200
    unfold recyclingref27_List_l2 at hb1200
    subst hu1200
    refine WP.at hF1200 hS1200 (WP.seq_k (fun K1201 hK1201 => WP.seq_k (fun K1202 hK1202 => WP.region Tt_ok (O_cons (O_read rfl (R_move rfl (P_some rfl (O_cons (O_read rfl (R_move rfl (P_some rfl (O_cons (O_read rfl ?_)))))))))))))
    refine R_lenS rfl rfl rfl (P_some rfl (O_cons (O_read rfl (R_lssD rfl rfl (P_some rfl (O_nil (hK1202 _ _ _ ?_)))))))
    refine W_cond_v (b := (decide (i2 < ((l1.length : Nat) : Int)))) rfl (fun hc7 => ?_) (fun hc7 => ?_)
    · replace hb1200 := cond_t hc7 hb1200
      refine WP.skip (hK1201 _ _ _ (WP.seq_k (fun K1203 hK1203 => WP.block (WP.seq_k (fun K1204 hK1204 => WP.region Tt_ok (O_cons (O_read rfl (R_move rfl (P_some rfl (O_cons (O_read rfl (R_move rfl (P_some rfl ?_)))))))))))))
      refine O_cons (O_read rfl (R_move rfl (P_some rfl (O_cons (O_read rfl (R_move rfl (P_some rfl (O_cons ?_))))))))
      obtain ⟨x3, hx3, hb1200⟩ := obind hb1200
      obtain ⟨a3, cs3, hA4, hr3, _, hc8⟩ := Rds.getI hA1 hx3
      obtain rfl := hr3
      refine O_read rfl (R_iaG rfl rfl rfl rfl rfl rfl ⟨(getI_lt hx3).1, (getI_lt hx3).2.1⟩ hA4 (P_some rfl (O_cons (O_read rfl (R_faz rfl rfl rfl rfl rfl (P_some rfl (O_cons (O_read rfl (R_load rfl rfl rfl (Ex.mk _ (Cell.of_cells0 hc8 rfl) (P_some rfl (O_cons (O_call (all := [.slice A1 l1.length c1, .int .i64 i2, .int .i64 x3.ID]) rfl rfl rfl ?_)))))))))))))
      obtain ⟨r1, hx4, hb1200⟩ := obind hb1200
      refine recyclingref27_place_fn hl1 hA1 hx4 ((P_some rfl (O_cons (O_read rfl (R_geqD rfl rfl (P_some rfl (O_nil (hK1204 _ _ _ ?_))))))))
      refine W_cond_v (b := (decide (0 ≤ r1))) rfl (fun hc9 => ?_) (fun hc9 => ?_)
      · replace hb1200 := cond_t hc9 hb1200
        refine WP.seq_k (fun K1205 hK1205 => WP.region Tt_ok (O_cons (O_read rfl (R_assign rfl (P_some rfl (O_nil (hK1205 _ _ _ (WP.ret ?_))))))))
        have e_ := Option.some.inj hb1200
        subst e_
        have hq_ := hq1200 _ rfl
        subst hq_
        replace h := osum_r h
        have e_ := Option.some.inj h
        subst e_
        refine S_tmp rfl (S_nil (Upd.selS [] 0 ?_))
        exact Upd.done hR
      replace hb1200 := cond_f hc9 hb1200
      refine WP.skip (hK1203 _ _ _ (WP.region Tt_ok (O_cons (O_read rfl (R_move rfl (P_some rfl (O_cons (O_read rfl (R_add rfl rfl (P_some rfl (O_cons (O_read rfl (R_assign rfl ?_)))))))))))))
      refine P_some rfl (O_nil ?_)
      have e_ := Option.some.inj hb1200
      subst e_
      exact ⟨_, rfl, SubFr.of ⟨rfl, rfl, trivial⟩, SegSub.sel _ [] 0, rfl⟩
    replace hb1200 := cond_f hc7 hb1200
    refine WP.exit (B_here ?_)
    have e_ := Option.some.inj hb1200
    subst e_
    have hq_ := hq1200 _ rfl
    subst hq_
    exact ⟨rfl, SubFr.of ⟨rfl, trivial⟩, SegSub.sel _ [] 0, rfl⟩
  rintro fr1175 μ1175 L1175 hm1175 ⟨ho1175, hF1175, hS1175, hu1175⟩
  subst ho1175
  replace h := osum_l h
  subst hu1175
  refine hK1173 _ _ _ (WP.at hF1175 hS1175 (WP.seq_k (fun K1206 hK1206 => WP.seq_k (fun K1207 hK1207 => WP.region Tt_ok (O_cons (O_read rfl (R_assign rfl (P_some rfl (O_nil (hK1207 _ _ _ ?_))))))))))
  obtain ⟨o1208, h1208, h⟩ := obind h
  refine WP.cutK (fun fr_ μ_ L_ => (.inl ()) = o1208 ∧ SubFr [(0, .slice A1 l1.length c1)] fr_ ∧ SegSub (L) L_ ∧ μ = μ_) ?_ ?_
  · refine WP.block (WP.iter h1208 (fun (i3 : Int) fr_ μ_ L_ => SubFr [(0, .slice A1 l1.length c1), (5, .int .i64 i3)] fr_ ∧ SegSub (L) L_ ∧ μ = μ_) ⟨SubFr.of ⟨rfl, rfl, trivial⟩, SegSub.sel _ [] 0, rfl⟩ ?_)
    rintro i3 q1216 fr1216 μ1216 L1216 hm1216 ⟨hF1216, hS1216, hu1216⟩ hb1216 hq1216
    unfold recyclingref27_List_l3 at hb1216
    subst hu1216
    refine WP.at hF1216 hS1216 (WP.seq_k (fun K1217 hK1217 => WP.seq_k (fun K1218 hK1218 => WP.region Tt_ok (O_cons (O_read rfl (R_move rfl (P_some rfl (O_cons (O_read rfl (R_move rfl (P_some rfl (O_cons (O_read rfl ?_)))))))))))))
    refine R_lenS rfl rfl rfl (P_some rfl (O_cons (O_read rfl (R_lssD rfl rfl (P_some rfl (O_nil (hK1218 _ _ _ ?_)))))))
    refine W_cond_v (b := (decide (i3 < ((l1.length : Nat) : Int)))) rfl (fun hc10 => ?_) (fun hc10 => ?_)
    · replace hb1216 := cond_t hc10 hb1216
      refine WP.skip (hK1217 _ _ _ (WP.seq_k (fun K1219 hK1219 => WP.block (WP.seq_k (fun K1220 hK1220 => ?_)))))
      obtain ⟨o1221, h1221, hb1216⟩ := obind hb1216
      refine WP.cutK (fun fr_ μ_ L_ => ∃ (v2 : Bool), v2 = o1221 ∧ SubFr [(0, .slice A1 l1.length c1), (5, .int .i64 i3), (68, .bool v2)] fr_ ∧ SegSub (L) L_ ∧ μ = μ_) ?_ ?_
      · refine WP.region Tt_ok (O_cons (O_read rfl (R_move rfl (P_some rfl (O_cons (O_read rfl (R_move rfl (P_some rfl (O_cons ?_)))))))))
        obtain ⟨x4, hx5, h1221⟩ := obind h1221
        obtain ⟨a4, cs4, hA5, hr4, _, hc11⟩ := Rds.getI hA1 hx5
        obtain rfl := hr4
        refine O_read rfl (R_iaG rfl rfl rfl rfl rfl rfl ⟨(getI_lt hx5).1, (getI_lt hx5).2.1⟩ hA5 (P_some rfl (O_cons (O_read rfl (R_fa rfl rfl rfl rfl rfl (P_some rfl (O_cons (O_read rfl (R_load rfl rfl rfl (Ex.mk _ (Cell.of_cells hc11 5 rfl) (P_some rfl (O_cons (O_read rfl ?_)))))))))))))
        refine R_neqD rfl rfl (P_some rfl (O_cons (O_read rfl (R_move rfl (P_some rfl ?_)))))
        refine O_gv (z := !(decide (x4.Replaces = 0))) rfl rfl (fun hc12 => ?_) (fun hc12 => ?_)
        · replace h1221 := cond_t hc12 h1221
          refine O_read rfl (R_move rfl (P_some rfl (O_gY rfl rfl hc12 (O_read rfl (R_move rfl (P_some rfl (O_gY rfl rfl hc12 (O_read rfl (R_move rfl (P_some rfl (O_gY rfl rfl hc12 (O_read rfl (R_move rfl ?_)))))))))))))
          refine P_some rfl (O_gY rfl rfl hc12 ?_)
          obtain ⟨x5, hx6, h1221⟩ := obind h1221
          obtain ⟨a5, cs5, hA6, hr5, _, hc13⟩ := Rds.getI hA1 hx6
          obtain rfl := hr5
          refine O_read rfl (R_iaG rfl rfl rfl rfl rfl rfl ⟨(getI_lt hx6).1, (getI_lt hx6).2.1⟩ hA6 (P_some rfl (O_gY rfl rfl hc12 (O_read rfl (R_fa rfl rfl rfl rfl rfl (P_some rfl (O_gY rfl rfl hc12 (O_read rfl (R_load rfl rfl rfl (Ex.mk _ (Cell.of_cells hc13 5 rfl) (P_some rfl (O_gY rfl rfl hc12 (O_call (all := [.slice A1 l1.length c1, .int .i64 i3, .int .i64 x5.Replaces]) rfl rfl rfl ?_)))))))))))))
          obtain ⟨r2, hx7, h1221⟩ := obind h1221
          refine recyclingref27_place_fn hl1 hA1 hx7 ((P_some rfl (O_gY rfl rfl hc12 (O_read rfl (R_lssD rfl rfl (P_some rfl (O_cons (O_read rfl (R_pick_T rfl hc12 rfl (P_some rfl (O_nil ?_)))))))))))
          have e_ := Option.some.inj h1221
          subst e_
          exact ⟨(decide (r2 < 0)), rfl, SubFr.of ⟨rfl, rfl, rfl, trivial⟩, SegSub.sel _ [] 0, rfl⟩
        replace h1221 := cond_f hc12 h1221
        refine P_some rfl (O_gN rfl rfl hc12 (P_some rfl (O_gN rfl rfl hc12 (P_some rfl (O_gN rfl rfl hc12 (P_some rfl (O_gN rfl rfl hc12 (P_some rfl (O_gN rfl rfl hc12 (P_some rfl (O_gN rfl rfl hc12 (P_some rfl (O_gN rfl rfl hc12 ?_)))))))))))))
        refine P_some rfl (O_gN rfl rfl hc12 (P_some rfl (O_cons (O_read rfl (R_pick_F rfl hc12 rfl (P_some rfl (O_nil ?_)))))))
        have e_ := Option.some.inj h1221
        subst e_
        exact ⟨false, rfl, SubFr.of ⟨rfl, rfl, rfl, trivial⟩, SegSub.sel _ [] 0, rfl⟩
      rintro fr1221 μ1221 L1221 hm1221 ⟨v2, ho1221, hF1221, hS1221, hu1221⟩
      subst ho1221
      subst hu1221
      refine hK1220 _ _ _ (WP.at hF1221 hS1221 ?_)
      refine W_cond_v (b := v2) rfl (fun hc14 => ?_) (fun hc14 => ?_)
      · replace hb1216 := cond_t hc14 hb1216
        refine WP.seq_k (fun K1222 hK1222 => WP.region Tt_ok (O_cons (O_read rfl (R_assign rfl (P_some rfl (O_nil (hK1222 _ _ _ (WP.ret ?_))))))))
        have e_ := Option.some.inj hb1216
        subst e_
        have hq_ := hq1216 _ rfl
        subst hq_
        replace h := osum_r h
        have e_ := Option.some.inj h
        subst e_
        refine S_tmp rfl (S_nil (Upd.selS [] 0 ?_))
        exact Upd.done hR
      replace hb1216 := cond_f hc14 hb1216
      refine WP.skip (hK1219 _ _ _ (WP.region Tt_ok (O_cons (O_read rfl (R_move rfl (P_some rfl (O_cons (O_read rfl (R_add rfl rfl (P_some rfl (O_cons (O_read rfl (R_assign rfl ?_)))))))))))))
      refine P_some rfl (O_nil ?_)
      have e_ := Option.some.inj hb1216
      subst e_
      exact ⟨_, rfl, SubFr.of ⟨rfl, rfl, trivial⟩, SegSub.sel _ [] 0, rfl⟩
    replace hb1216 := cond_f hc10 hb1216
    refine WP.exit (B_here ?_)
    have e_ := Option.some.inj hb1216
    subst e_
    have hq_ := hq1216 _ rfl
    subst hq_
    exact ⟨rfl, SubFr.of ⟨rfl, trivial⟩, SegSub.sel _ [] 0, rfl⟩
  rintro fr1208 μ1208 L1208 hm1208 ⟨ho1208, hF1208, hS1208, hu1208⟩
  subst ho1208
  replace h := osum_l h
  subst hu1208
  refine hK1206 _ _ _ (WP.at hF1208 hS1208 (WP.seq_k (fun K1223 hK1223 => WP.seq_k (fun K1224 hK1224 => WP.region Tt_ok (O_cons (O_read rfl (R_assign rfl (P_some rfl (O_nil (hK1224 _ _ _ ?_))))))))))
  obtain ⟨o1225, h1225, h⟩ := obind h
  refine WP.cutK (fun fr_ μ_ L_ => (.inl ()) = o1225 ∧ SubFr [] fr_ ∧ SegSub (L) L_ ∧ μ = μ_) ?_ ?_
  · refine WP.block (WP.iter h1225 (fun (i4 : Int) fr_ μ_ L_ => SubFr [(0, .slice A1 l1.length c1), (6, .int .i64 i4)] fr_ ∧ SegSub (L) L_ ∧ μ = μ_) ⟨SubFr.of ⟨rfl, rfl, trivial⟩, SegSub.sel _ [] 0, rfl⟩ ?_)
    rintro i4 q1247 fr1247 μ1247 L1247 hm1247 ⟨hF1247, hS1247, hu1247⟩ hb1247 hq1247
    unfold recyclingref27_List_l5 at hb1247
    subst hu1247
    refine WP.at hF1247 hS1247 (WP.seq_k (fun K1248 hK1248 => WP.seq_k (fun K1249 hK1249 => WP.region Tt_ok (O_cons (O_read rfl (R_move rfl (P_some rfl (O_cons (O_read rfl (R_move rfl (P_some rfl (O_cons (O_read rfl ?_)))))))))))))
    refine R_lenS rfl rfl rfl (P_some rfl (O_cons (O_read rfl (R_lssD rfl rfl (P_some rfl (O_nil (hK1249 _ _ _ ?_)))))))
    refine W_cond_v (b := (decide (i4 < ((l1.length : Nat) : Int)))) rfl (fun hc15 => ?_) (fun hc15 => ?_)
    · replace hb1247 := cond_t hc15 hb1247
      refine WP.skip (hK1248 _ _ _ (WP.seq_k (fun K1250 hK1250 => ?_)))
      obtain ⟨o1251, h1251, hb1247⟩ := obind hb1247
      refine WP.cutK (fun fr_ μ_ L_ => (.inl ()) = o1251 ∧ SubFr [(0, .slice A1 l1.length c1), (6, .int .i64 i4)] fr_ ∧ SegSub (L) L_ ∧ μ = μ_) ?_ ?_
      · refine WP.block (WP.seq_k (fun K1252 hK1252 => WP.region Tt_ok (O_cons (O_read rfl (R_assign rfl (P_some rfl (O_nil (hK1252 _ _ _ ?_))))))))
        obtain ⟨o1253, h1253, h1251⟩ := obind h1251
        refine WP.cutK (fun fr_ μ_ L_ => (.inl ()) = o1253 ∧ SubFr [(0, .slice A1 l1.length c1), (6, .int .i64 i4)] fr_ ∧ SegSub (L) L_ ∧ μ = μ_) ?_ ?_
        · refine WP.block (WP.iter h1253 (fun (k1 : Int) fr_ μ_ L_ => SubFr [(0, .slice A1 l1.length c1), (6, .int .i64 i4), (7, .int .i64 k1)] fr_ ∧ SegSub (L) L_ ∧ μ = μ_) ⟨SubFr.of ⟨rfl, rfl, rfl, trivial⟩, SegSub.sel _ [] 0, rfl⟩ ?_)
          rintro k1 q1261 fr1261 μ1261 L1261 hm1261 ⟨hF1261, hS1261, hu1261⟩ hb1261 hq1261
          unfold recyclingref27_List_l4 at hb1261
          subst hu1261
          refine WP.at hF1261 hS1261 (WP.seq_k (fun K1262 hK1262 => WP.seq_k (fun K1263 hK1263 => WP.region Tt_ok (O_cons (O_read rfl (R_move rfl (P_some rfl (O_cons (O_read rfl (R_move rfl (P_some rfl (O_cons (O_read rfl ?_)))))))))))))
          refine R_lssD rfl rfl (P_some rfl (O_nil (hK1263 _ _ _ ?_)))
          refine W_cond_v (b := (decide (k1 < i4))) rfl (fun hc16 => ?_) (fun hc16 => ?_)
          · replace hb1261 := cond_t hc16 hb1261
            refine WP.skip (hK1262 _ _ _ (WP.seq_k (fun K1264 hK1264 => WP.block (WP.seq_k (fun K1265 hK1265 => ?_)))))
            obtain ⟨o1266, h1266, hb1261⟩ := obind hb1261
            refine WP.cutK (fun fr_ μ_ L_ => ∃ (v3 : Bool), v3 = o1266 ∧ SubFr [(0, .slice A1 l1.length c1), (6, .int .i64 i4), (7, .int .i64 k1), (98, .bool v3)] fr_ ∧ SegSub (L) L_ ∧ μ = μ_) ?_ ?_
            · refine WP.drawn (id := 24) (l' := List.replicate 19 true) wide Tt_ok _ Kept.refl [(true, 0), (true, 1), (true, 2), (true, 3), (true, 4), (true, 5), (true, 6), (true, 7), (true, 8), (true, 9), (true, 10), (true, 11), (true, 12), (true, 13), (true, 14), (true, 15), (true, 16), (true, 17), (true, 18)] (by kernel_rfl) (by kernel_rfl) rfl (PL_t rfl (R_move rfl (P_some rfl (PL_t rfl (R_move rfl (P_some rfl (PL_t rfl ?_)))))))
              obtain ⟨x6, hx8, h1266⟩ := obind h1266
              obtain ⟨a6, cs6, hA7, hr6, _, hc17⟩ := Rds.getI hA1 hx8
              obtain rfl := hr6
              refine R_iaG rfl rfl rfl rfl rfl rfl ⟨(getI_lt hx8).1, (getI_lt hx8).2.1⟩ hA7 (P_some rfl (PL_t rfl (R_fa rfl rfl rfl rfl rfl (P_some rfl (PL_t rfl (R_load rfl rfl rfl (Ex.mk _ (Cell.of_cells hc17 5 rfl) (P_some rfl (PL_t rfl (R_neqD rfl rfl (P_some rfl (PL_t rfl (R_move rfl ?_)))))))))))))
              apply P_some; exact rfl
              refine PL_tv (z := !(decide (x6.Replaces = 0))) rfl rfl rfl (fun hc18 => ?_) (fun hc18 => ?_)
              · replace h1266 := cond_t hc18 h1266
                refine R_move rfl (P_some rfl (PL_tY rfl rfl rfl hc18 (R_move rfl (P_some rfl (PL_tY rfl rfl rfl hc18 ?_)))))
                obtain ⟨x7, hx9, h1266⟩ := obind h1266
                obtain ⟨a7, cs7, hA8, hr7, _, hc19⟩ := Rds.getI hA1 hx9
                obtain rfl := hr7
                refine R_iaG rfl rfl rfl rfl rfl rfl ⟨(getI_lt hx9).1, (getI_lt hx9).2.1⟩ hA8 (P_some rfl (PL_tY rfl rfl rfl hc18 (R_fa rfl rfl rfl rfl rfl (P_some rfl (PL_tY rfl rfl rfl hc18 (R_load rfl rfl rfl (Ex.mk _ (Cell.of_cells hc19 5 rfl) (P_some rfl (PL_tY rfl rfl rfl hc18 (R_move rfl (P_some rfl (PL_tY rfl rfl rfl hc18 (R_move rfl ?_)))))))))))))
                refine P_some rfl (PL_tY rfl rfl rfl hc18 ?_)
                obtain ⟨x8, hx10, h1266⟩ := obind h1266
                obtain ⟨a8, cs8, hA9, hr8, _, hc20⟩ := Rds.getI hA1 hx10
                obtain rfl := hr8
                refine R_iaG rfl rfl rfl rfl rfl rfl ⟨(getI_lt hx10).1, (getI_lt hx10).2.1⟩ hA9 (P_some rfl (PL_tY rfl rfl rfl hc18 (R_fa rfl rfl rfl rfl rfl (P_some rfl (PL_tY rfl rfl rfl hc18 (R_load rfl rfl rfl (Ex.mk _ (Cell.of_cells hc20 5 rfl) (P_some rfl (PL_tY rfl rfl rfl hc18 (R_eqlD rfl rfl (P_some rfl (PL_t rfl (R_pick_T rfl hc18 rfl ?_)))))))))))))
                refine P_some rfl (PL_nil (AN.done0 (by kernel_rfl) ?_))
                have e_ := Option.some.inj h1266
                subst e_
                exact ⟨(decide (x7.Replaces = x8.Replaces)), rfl, SubFr.of ⟨rfl, rfl, rfl, rfl, trivial⟩, SegSub.sel _ [] 0, rfl⟩
              replace h1266 := cond_f hc18 h1266
              refine P_some rfl (PL_tN rfl rfl rfl hc18 (P_some rfl (PL_tN rfl rfl rfl hc18 (P_some rfl (PL_tN rfl rfl rfl hc18 (P_some rfl (PL_tN rfl rfl rfl hc18 (P_some rfl (PL_tN rfl rfl rfl hc18 (P_some rfl (PL_tN rfl rfl rfl hc18 (P_some rfl (PL_tN rfl rfl rfl hc18 ?_)))))))))))))
              refine P_some rfl (PL_tN rfl rfl rfl hc18 (P_some rfl (PL_tN rfl rfl rfl hc18 (P_some rfl (PL_tN rfl rfl rfl hc18 (P_some rfl (PL_t rfl (R_pick_F rfl hc18 rfl (P_some rfl (PL_nil (AN.done0 (by kernel_rfl) ?_)))))))))))
              have e_ := Option.some.inj h1266
              subst e_
              exact ⟨false, rfl, SubFr.of ⟨rfl, rfl, rfl, rfl, trivial⟩, SegSub.sel _ [] 0, rfl⟩
            rintro fr1266 μ1266 L1266 hm1266 ⟨v3, ho1266, hF1266, hS1266, hu1266⟩
            subst ho1266
            subst hu1266
            refine hK1265 _ _ _ (WP.at hF1266 hS1266 ?_)
            refine W_cond_v (b := v3) rfl (fun hc21 => ?_) (fun hc21 => ?_)
            · replace hb1261 := cond_t hc21 hb1261
              refine WP.seq_k (fun K1267 hK1267 => WP.region Tt_ok (O_cons (O_read rfl (R_assign rfl (P_some rfl (O_nil (hK1267 _ _ _ (WP.ret ?_))))))))
              have e_ := Option.some.inj hb1261
              subst e_
              have hq_ := hq1261 _ rfl
              subst hq_
              replace h1251 := osum_r h1251
              have e_ := Option.some.inj h1251
              subst e_
              replace hb1247 := osum_r hb1247
              have e_ := Option.some.inj hb1247
              subst e_
              have hq_ := hq1247 _ rfl
              subst hq_
              replace h := osum_r h
              have e_ := Option.some.inj h
              subst e_
              refine S_tmp rfl (S_nil (Upd.selS [] 0 ?_))
              exact Upd.done hR
            replace hb1261 := cond_f hc21 hb1261
            refine WP.skip (hK1264 _ _ _ (WP.region Tt_ok (O_cons (O_read rfl (R_move rfl (P_some rfl (O_cons (O_read rfl (R_add rfl rfl (P_some rfl (O_cons (O_read rfl (R_assign rfl ?_)))))))))))))
            refine P_some rfl (O_nil ?_)
            have e_ := Option.some.inj hb1261
            subst e_
            exact ⟨_, rfl, SubFr.of ⟨rfl, rfl, rfl, trivial⟩, SegSub.sel _ [] 0, rfl⟩
          replace hb1261 := cond_f hc16 hb1261
          refine WP.exit (B_here ?_)
          have e_ := Option.some.inj hb1261
          subst e_
          have hq_ := hq1261 _ rfl
          subst hq_
          exact ⟨rfl, SubFr.of ⟨rfl, rfl, trivial⟩, SegSub.sel _ [] 0, rfl⟩
        rintro fr1253 μ1253 L1253 hm1253 ⟨ho1253, hF1253, hS1253, hu1253⟩
        subst ho1253
        replace h1251 := osum_l h1251
        subst hu1253
        have e_ := Option.some.inj h1251
        subst e_
        exact ⟨rfl, SubFr.trans (fr := [(0, .slice A1 l1.length c1), (6, .int .i64 i4)]) (SubFr.of ⟨rfl, rfl, trivial⟩) hF1253, SegSub.trans (M := (L)) (SegSub.sel _ [] 0) hS1253, rfl⟩
      rintro fr1251 μ1251 L1251 hm1251 ⟨ho1251, hF1251, hS1251, hu1251⟩
      subst ho1251
      replace hb1247 := osum_l hb1247
      subst hu1251
      refine hK1250 _ _ _ (WP.at hF1251 hS1251 (WP.region Tt_ok (O_cons (O_read rfl (R_move rfl (P_some rfl (O_cons (O_read rfl (R_add rfl rfl (P_some rfl (O_cons (O_read rfl (R_assign rfl ?_)))))))))))))
      refine P_some rfl (O_nil ?_)
      have e_ := Option.some.inj hb1247
      subst e_
      exact ⟨_, rfl, SubFr.of ⟨rfl, rfl, trivial⟩, SegSub.sel _ [] 0, rfl⟩
    replace hb1247 := cond_f hc15 hb1247
    refine WP.exit (B_here ?_)
    have e_ := Option.some.inj hb1247
    subst e_
    have hq_ := hq1247 _ rfl
    subst hq_
    exact ⟨rfl, SubFr.of trivial, SegSub.sel _ [] 0, rfl⟩
  rintro fr1225 μ1225 L1225 hm1225 ⟨ho1225, hF1225, hS1225, hu1225⟩
  subst ho1225
  replace h := osum_l h
  subst hu1225
  refine hK1223 _ _ _ (WP.at hF1225 hS1225 (WP.seq_k (fun K1268 hK1268 => WP.region Tt_ok (O_cons (O_read rfl (R_assign rfl (P_some rfl (O_nil (hK1268 _ _ _ (WP.ret ?_))))))))))
  have e_ := Option.some.inj h
  subst e_
  refine S_tmp rfl (S_nil (Upd.selS [] 0 ?_))
  exact Upd.done hR

theorem recyclingref27_Check_fn {μ : Gh} {L : List Seg} {R : Value → Gh → List Seg → Prop} {F : Nat} {s1 : (List T_api_Scale)} {l1 : (List T_api_Ticket)} {A1 : Option Addr} {c1 : Nat} {A2 : Option Addr} {c2 : Nat} {res1 : Int}
    (hl1 : s1.length ≤ c1 ∧ c1 ≤ maxLen) (hA1 : Rds r_api_Scale μ L A1 s1) (hl2 : l1.length ≤ c2 ∧ c2 ≤ maxLen) (hA2 : Rds r_api_Ticket μ L A2 l1) (h : recyclingref27_Check F s1 l1 = some res1)
    (hR : R (.int .i64 res1) μ (L)) :
    Fn Try.prog 14 [.slice A1 s1.length c1, .slice A2 l1.length c2] μ (L) R := by
  unfold recyclingref27_Check at h
  refine Fn.of_body Tt_ok Try.func14 (by kernel_rfl) rfl Try.ntmps14 (by simp) ?_
  simp only [Try.f14, argFr, List.zipIdx, List.map, Nat.reduceAdd]
  refine WP.seq_k (fun K911 hK911 => WP.region Tt_ok (O_cons (O_read rfl (R_assign rfl (P_some rfl (O_nil (hK911 _ _ _ (WP.seq_k (fun K912 hK912 => WP.seq_k (fun K913 hK913 => WP.region Tt_ok (O_cons (O_read rfl (R_move rfl ?_)))))))))))))
  refine P_some rfl (O_cons (O_call (all := [.slice A1 s1.length c1]) rfl rfl rfl ?_))
  obtain ⟨r1, hx1, h⟩ := obind h
  refine recyclingref27_scales_fn hl1 hA1 hx1 ((P_some rfl (O_cons (O_read rfl (R_assign rfl (P_some rfl (O_nil (hK913 _ _ _ (WP.seq_k (fun K944 hK944 => WP.region Tt_ok (O_cons (O_read rfl (R_move rfl (P_some rfl ?_))))))))))))))
  refine O_cons (O_read rfl (R_neqD rfl rfl (P_some rfl (O_nil (hK944 _ _ _ ?_)))))
  refine W_cond_v (b := !(decide (r1 = 0))) rfl (fun hc1 => ?_) (fun hc1 => ?_)
  · replace h := cond_t hc1 h
    refine WP.seq_k (fun K945 hK945 => WP.region Tt_ok (O_cons (O_read rfl (R_move rfl (P_some rfl (O_cons (O_read rfl (R_assign rfl (P_some rfl (O_nil (hK945 _ _ _ (WP.ret ?_))))))))))))
    have e_ := Option.some.inj h
    subst e_
    refine S_tmp rfl (S_nil (Upd.selS [] 0 ?_))
    exact Upd.done hR
  replace h := cond_f hc1 h
  refine WP.skip (hK912 _ _ _ (WP.seq_k (fun K946 hK946 => WP.seq_k (fun K947 hK947 => WP.region Tt_ok (O_cons (O_read rfl (R_move rfl (P_some rfl (O_cons (O_read rfl (R_lenS rfl rfl rfl (P_some rfl (O_cons ?_)))))))))))))
  refine O_read rfl (R_gtrD rfl rfl (P_some rfl (O_nil (hK947 _ _ _ ?_))))
  refine W_cond_v (b := (decide (512 < ((l1.length : Nat) : Int)))) rfl (fun hc2 => ?_) (fun hc2 => ?_)
  · replace h := cond_t hc2 h
    refine WP.seq_k (fun K948 hK948 => WP.region Tt_ok (O_cons (O_read rfl (R_assign rfl (P_some rfl (O_nil (hK948 _ _ _ (WP.ret ?_))))))))
    have e_ := Option.some.inj h
    subst e_
    refine S_tmp rfl (S_nil (Upd.selS [] 0 ?_))
    exact Upd.done hR
  replace h := cond_f hc2 h
  refine WP.skip (hK946 _ _ _ (WP.seq_k (fun K949 hK949 => WP.seq_k (fun K950 hK950 => WP.region Tt_ok (O_cons (O_read rfl (R_assign rfl (P_some rfl (O_nil (hK950 _ _ _ ?_))))))))))
  obtain ⟨o951, h951, h⟩ := obind h
  refine WP.cutK (fun fr_ μ_ L_ => (.inl ()) = o951 ∧ SubFr [(1, .slice A2 l1.length c2)] fr_ ∧ SegSub (L) L_ ∧ μ = μ_) ?_ ?_
  · refine WP.block (WP.iter h951 (fun (i1 : Int) fr_ μ_ L_ => SubFr [(0, .slice A1 s1.length c1), (1, .slice A2 l1.length c2), (6, .int .i64 i1)] fr_ ∧ SegSub (L) L_ ∧ μ = μ_) ⟨SubFr.of ⟨rfl, rfl, rfl, trivial⟩, SegSub.sel _ [] 0, rfl⟩ ?_)
    rintro i1 q1143 fr1143 μ1143 L1143 hm1143 ⟨hF1143, hS1143, hu1143⟩ hb1143 hq1143
    unfold recyclingref27_Check_l1 at hb1143
    subst hu1143
    refine WP.at hF1143 hS1143 (WP.seq_k (fun K1144 hK1144 => WP.seq_k (fun K1145 hK1145 => WP.region Tt_ok (O_cons (O_read rfl (R_move rfl (P_some rfl (O_cons (O_read rfl (R_move rfl (P_some rfl (O_cons (O_read rfl ?_)))))))))))))
    refine R_lenS rfl rfl rfl (P_some rfl (O_cons (O_read rfl (R_lssD rfl rfl (P_some rfl (O_nil (hK1145 _ _ _ ?_)))))))
    refine W_cond_v (b := (decide (i1 < ((l1.length : Nat) : Int)))) rfl (fun hc3 => ?_) (fun hc3 => ?_)
    · replace hb1143 := cond_t hc3 hb1143
      refine WP.skip (hK1144 _ _ _ (WP.seq_k (fun K1146 hK1146 => WP.block (WP.seq_k (fun K1147 hK1147 => WP.region Tt_ok (O_cons (O_read rfl (R_move rfl (P_some rfl (O_cons (O_read rfl (R_move rfl (P_some rfl ?_)))))))))))))
      refine O_cons (O_read rfl (R_move rfl (P_some rfl (O_cons ?_))))
      obtain ⟨x1, hx2, hb1143⟩ := obind hb1143
      obtain ⟨a1, cs1, hA3, hr1, _, hc4⟩ := Rds.getI hA2 hx2
      obtain rfl := hr1
      refine O_read rfl (R_iaG rfl rfl rfl rfl rfl rfl ⟨(getI_lt hx2).1, (getI_lt hx2).2.1⟩ hA3 (P_some rfl (O_cons (O_read rfl (R_loadA rfl rfl rfl rfl (Ex.mk [.int .i64 x1.ID, .int .i64 x1.Scale, .int .i64 x1.At, .int .i64 x1.Gross, .int .i64 x1.Tare, .int .i64 x1.Replaces] ⟨rfl, hc4⟩ (P_some rfl (O_cons (O_call (all := [.slice A1 s1.length c1, .agg #[.int .i64 x1.ID, .int .i64 x1.Scale, .int .i64 x1.At, .int .i64 x1.Gross, .int .i64 x1.Tare, .int .i64 x1.Replaces]]) rfl rfl rfl ?_)))))))))
      obtain ⟨r2, hx3, hb1143⟩ := obind hb1143
      refine recyclingref27_fault_fn hl1 hA1 hx3 ((P_some rfl (O_cons (O_read rfl (R_assign rfl (P_some rfl (O_nil (hK1147 _ _ _ (WP.seq_k (fun K1148 hK1148 => WP.region Tt_ok (O_cons (O_read rfl (R_move rfl (P_some rfl ?_))))))))))))))
      refine O_cons (O_read rfl (R_neqD rfl rfl (P_some rfl (O_nil (hK1148 _ _ _ ?_)))))
      refine W_cond_v (b := !(decide (r2 = 0))) rfl (fun hc5 => ?_) (fun hc5 => ?_)
      · replace hb1143 := cond_t hc5 hb1143
        refine WP.seq_k (fun K1149 hK1149 => WP.region Tt_ok (O_cons (O_read rfl (R_move rfl (P_some rfl (O_cons (O_read rfl (R_assign rfl (P_some rfl (O_nil (hK1149 _ _ _ (WP.ret ?_))))))))))))
        have e_ := Option.some.inj hb1143
        subst e_
        have hq_ := hq1143 _ rfl
        subst hq_
        replace h := osum_r h
        have e_ := Option.some.inj h
        subst e_
        refine S_tmp rfl (S_nil (Upd.selS [] 0 ?_))
        exact Upd.done hR
      replace hb1143 := cond_f hc5 hb1143
      refine WP.skip (hK1146 _ _ _ (WP.region Tt_ok (O_cons (O_read rfl (R_move rfl (P_some rfl (O_cons (O_read rfl (R_add rfl rfl (P_some rfl (O_cons (O_read rfl (R_assign rfl ?_)))))))))))))
      refine P_some rfl (O_nil ?_)
      have e_ := Option.some.inj hb1143
      subst e_
      exact ⟨_, rfl, SubFr.of ⟨rfl, rfl, rfl, trivial⟩, SegSub.sel _ [] 0, rfl⟩
    replace hb1143 := cond_f hc3 hb1143
    refine WP.exit (B_here ?_)
    have e_ := Option.some.inj hb1143
    subst e_
    have hq_ := hq1143 _ rfl
    subst hq_
    exact ⟨rfl, SubFr.of ⟨rfl, trivial⟩, SegSub.sel _ [] 0, rfl⟩
  rintro fr951 μ951 L951 hm951 ⟨ho951, hF951, hS951, hu951⟩
  subst ho951
  replace h := osum_l h
  subst hu951
  refine hK949 _ _ _ (WP.at hF951 hS951 (WP.seq_k (fun K1150 hK1150 => WP.region Tt_ok (O_cons (O_read rfl (R_move rfl (P_some rfl (O_cons (O_call (all := [.slice A2 l1.length c2]) rfl rfl rfl ?_)))))))))
  obtain ⟨r3, hx4, h⟩ := obind h
  refine recyclingref27_List_fn hl2 hA2 hx4 ((P_some rfl (O_cons (O_read rfl (R_assign rfl (P_some rfl (O_nil (hK1150 _ _ _ (WP.ret ?_)))))))))
  have e_ := Option.some.inj h
  subst e_
  refine S_tmp rfl (S_nil (Upd.selS [] 0 ?_))
  exact Upd.done hR

theorem recyclinglaw27_TicketChecks_fn {μ : Gh} {L : List Seg} {R : Value → Gh → List Seg → Prop} {F : Nat} {s1 : (List T_api_Scale)} {l1 : (List T_api_Ticket)} {A1 : Option Addr} {c1 : Nat} {A2 : Option Addr} {c2 : Nat} {res1 : Bool}
    (hl1 : s1.length ≤ c1 ∧ c1 ≤ maxLen) (hA1 : Rds r_api_Scale μ L A1 s1) (hl2 : l1.length ≤ c2 ∧ c2 ≤ maxLen) (hA2 : Rds r_api_Ticket μ L A2 l1) (h : recyclinglaw27_TicketChecks F s1 l1 = some res1)
    (hR : R (.bool res1) μ (L)) :
    Fn Try.prog 3 [.slice A1 s1.length c1, .slice A2 l1.length c2] μ (L) R := by
  unfold recyclinglaw27_TicketChecks at h
  refine Fn.of_body Tt_ok Try.func3 (by kernel_rfl) rfl Try.ntmps3 (by simp) ?_
  simp only [Try.f3, argFr, List.zipIdx, List.map, Nat.reduceAdd]
  refine WP.seq_k (fun K3 hK3 => WP.region Tt_ok (O_cons (O_read rfl (R_assign rfl (P_some rfl (O_nil (hK3 _ _ _ (WP.seq_k (fun K4 hK4 => WP.seq_k (fun K5 hK5 => WP.region Tt_ok (O_cons (O_read rfl (R_move rfl ?_)))))))))))))
  refine P_some rfl (O_cons (O_read rfl (R_move rfl (P_some rfl (O_cons (O_call (all := [.slice A1 s1.length c1, .slice A2 l1.length c2]) rfl rfl rfl ?_))))))
  obtain ⟨r1, hx1, h⟩ := obind h
  refine recyclinglaw27_great_fn hl1 hA1 hl2 hA2 hx1 ((P_some rfl (O_nil (hK5 _ _ _ ?_))))
  refine W_cond_v (b := r1) rfl (fun hc1 => ?_) (fun hc1 => ?_)
  · replace h := cond_t hc1 h
    refine WP.seq_k (fun K11 hK11 => WP.region Tt_ok (O_cons (O_call (all := []) rfl rfl rfl ?_)))
    obtain ⟨r2, hx2, h⟩ := obind h
    refine recyclinglaw27_awake_fn  hx2 ((P_some rfl (O_cons (O_read rfl (R_assign rfl (P_some rfl (O_nil (hK11 _ _ _ (WP.ret ?_)))))))))
    have e_ := Option.some.inj h
    subst e_
    refine S_tmp rfl (S_nil (Upd.selS [] 0 ?_))
    exact Upd.done hR
  replace h := cond_f hc1 h
  refine WP.skip (hK4 _ _ _ (WP.seq_k (fun K907 hK907 => ?_)))
  obtain ⟨o908, h908, h⟩ := obind h
  refine WP.cutK (fun fr_ μ_ L_ => ∃ (v1 : Bool), v1 = o908 ∧ SubFr [(4, .bool v1)] fr_ ∧ SegSub (L) L_ ∧ μ = μ_) ?_ ?_
  · refine WP.region Tt_ok (O_cons (O_read rfl (R_move rfl (P_some rfl (O_cons (O_read rfl (R_move rfl (P_some rfl (O_cons (O_call (all := [.slice A1 s1.length c1, .slice A2 l1.length c2]) rfl rfl rfl ?_))))))))))
    obtain ⟨r3, hx3, h908⟩ := obind h908
    refine ticket_Check_fn hl1 hA1 hl2 hA2 hx3 ((P_some rfl (O_cons (O_read rfl (R_move rfl (P_some rfl (O_cons (O_read rfl (R_move rfl (P_some rfl (O_cons (O_call (all := [.slice A1 s1.length c1, .slice A2 l1.length c2]) rfl rfl rfl ?_))))))))))))
    obtain ⟨r4, hx4, h908⟩ := obind h908
    refine recyclingref27_Check_fn hl1 hA1 hl2 hA2 hx4 ((P_some rfl (O_cons (O_read rfl (R_eqlD rfl rfl (P_some rfl (O_cons (O_read rfl (R_move rfl (P_some rfl ?_))))))))))
    refine O_gv (z := (decide (r3 = r4))) rfl rfl (fun hc2 => ?_) (fun hc2 => ?_)
    · replace h908 := cond_t hc2 h908
      apply O_call (all := []); exact rfl; exact rfl; exact rfl
      obtain ⟨r5, hx5, h908⟩ := obind h908
      refine recyclinglaw27_awake_fn  hx5 ((P_some rfl (O_cons (O_read rfl (R_pick_T rfl hc2 rfl (P_some rfl (O_cons (O_read rfl (R_assign rfl (P_some rfl (O_nil ?_)))))))))))
      have e_ := Option.some.inj h908
      subst e_
      exact ⟨r5, rfl, SubFr.of ⟨rfl, trivial⟩, SegSub.sel _ [] 0, rfl⟩
    replace h908 := cond_f hc2 h908
    refine P_some rfl (O_cons (O_read rfl (R_pick_F rfl hc2 rfl (P_some rfl (O_cons (O_read rfl (R_assign rfl (P_some rfl (O_nil ?_)))))))))
    have e_ := Option.some.inj h908
    subst e_
    exact ⟨false, rfl, SubFr.of ⟨rfl, trivial⟩, SegSub.sel _ [] 0, rfl⟩
  rintro fr908 μ908 L908 hm908 ⟨v1, ho908, hF908, hS908, hu908⟩
  subst ho908
  subst hu908
  refine hK907 _ _ _ (WP.at hF908 hS908 (WP.ret ?_))
  have e_ := Option.some.inj h
  subst e_
  refine S_tmp rfl (S_nil (Upd.selS [] 0 ?_))
  exact Upd.done hR

theorem recyclingref27_Net_fn {μ : Gh} {L : List Seg} {R : Value → Gh → List Seg → Prop} {F : Nat} {s1 : (List T_api_Scale)} {x1 : T_api_Ticket} {A1 : Option Addr} {c1 : Nat} {res1 : T_api_Span} {res2 : Int}
    (hl1 : s1.length ≤ c1 ∧ c1 ≤ maxLen) (hA1 : Rds r_api_Scale μ L A1 s1) (h : recyclingref27_Net F s1 x1 = some (res1, res2))
    (hR : R (.tuple #[.agg #[.int .i64 res1.Lo, .int .i64 res1.Hi], .int .i64 res2]) μ (L)) :
    Fn Try.prog 16 [.slice A1 s1.length c1, .agg #[.int .i64 x1.ID, .int .i64 x1.Scale, .int .i64 x1.At, .int .i64 x1.Gross, .int .i64 x1.Tare, .int .i64 x1.Replaces]] μ (L) R := by
  unfold recyclingref27_Net at h
  refine Fn.of_body Tt_ok Try.func16 (by kernel_rfl) rfl Try.ntmps16 (by simp) ?_
  simp only [Try.f16, argFr, List.zipIdx, List.map, Nat.reduceAdd]
  refine WP.seq_k (fun K1280 hK1280 => WP.region Tt_ok (O_cons (O_box (cs := #[.int .i64 x1.ID, .int .i64 x1.Scale, .int .i64 x1.At, .int .i64 x1.Gross, .int .i64 x1.Tare, .int .i64 x1.Replaces]) rfl rfl (fun g1 => P_some rfl (O_cons (O_alloc (cs := #[.int .i64 0, .int .i64 0]) rfl rfl (fun g2 => P_some rfl (O_cons (O_read rfl (R_assign rfl (P_some rfl (O_nil (hK1280 _ _ _ ?_)))))))))))))
  refine WP.seq_k (fun K1283 hK1283 => WP.seq_k (fun K1284 hK1284 => WP.region Tt_ok (O_cons (O_read rfl (R_move rfl (P_some rfl (O_cons (O_call (all := [.slice A1 s1.length c1]) rfl rfl rfl ?_))))))))
  obtain ⟨r1, hx1, h⟩ := obind h
  refine recyclingref27_scales_fn hl1 (Rds.push (Rds.push hA1)) hx1 ((P_some rfl (O_cons (O_read rfl (R_assign rfl (P_some rfl (O_nil (hK1284 _ _ _ (WP.seq_k (fun K1285 hK1285 => WP.region Tt_ok (O_cons (O_read rfl (R_move rfl (P_some rfl ?_))))))))))))))
  refine O_cons (O_read rfl (R_neqD rfl rfl (P_some rfl (O_nil (hK1285 _ _ _ ?_)))))
  refine W_cond_v (b := !(decide (r1 = 0))) rfl (fun hc1 => ?_) (fun hc1 => ?_)
  · replace h := cond_t hc1 h
    refine WP.seq_k (fun K1286 hK1286 => WP.region Tt_ok (O_cons (O_read rfl (R_build rfl rfl rfl rfl (F_nil (P_some rfl (O_cons (O_read rfl (R_move rfl (P_some rfl (O_cons (O_store (vs := [.int .i64 0, .int .i64 0]) rfl rfl rfl rfl rfl rfl (ST_ (L' := ([(g2, .cells #[.int .i64 0, .int .i64 0] 31 (0, 0))] :: [(g1, .cells #[.int .i64 x1.ID, .int .i64 x1.Scale, .int .i64 x1.At, .int .i64 x1.Gross, .int .i64 x1.Tare, .int .i64 x1.Replaces] 29 (0, 0))] :: L)) 0 0 rfl rfl rfl rfl ?_)))))))))))))
    refine P_none (O_cons (O_read rfl (R_assign rfl (P_some rfl (O_nil (hK1286 _ _ _ (WP.ret ?_)))))))
    have e_ := Option.some.inj h
    obtain ⟨e0a_, e0b_⟩ := Prod.mk.inj e_
    clear e_
    subst e0a_
    subst e0b_
    refine S_cell rfl rfl rfl rfl (LA_ (vs := [.int .i64 0, .int .i64 0]) 0 0 rfl rfl rfl rfl (S_tmp rfl (S_nil (Upd.selS [] 2 ?_))))
    exact Upd.done hR
  replace h := cond_f hc1 h
  refine WP.skip (hK1283 _ _ _ (WP.seq_k (fun K1288 hK1288 => WP.seq_k (fun K1289 hK1289 => WP.region Tt_ok (O_cons (O_read rfl (R_move rfl (P_some rfl (O_cons (O_read rfl (R_loadA rfl rfl rfl rfl (LA_ (vs := [.int .i64 x1.ID, .int .i64 x1.Scale, .int .i64 x1.At, .int .i64 x1.Gross, .int .i64 x1.Tare, .int .i64 x1.Replaces]) 1 0 rfl rfl rfl rfl (P_some rfl ?_)))))))))))))
  refine O_cons (O_call (all := [.slice A1 s1.length c1, .agg #[.int .i64 x1.ID, .int .i64 x1.Scale, .int .i64 x1.At, .int .i64 x1.Gross, .int .i64 x1.Tare, .int .i64 x1.Replaces]]) rfl rfl rfl ?_)
  obtain ⟨r2, hx2, h⟩ := obind h
  refine recyclingref27_fault_fn hl1 (Rds.push (Rds.push hA1)) hx2 ((P_some rfl (O_cons (O_read rfl (R_assign rfl (P_some rfl (O_nil (hK1289 _ _ _ (WP.seq_k (fun K1290 hK1290 => WP.region Tt_ok (O_cons (O_read rfl (R_move rfl (P_some rfl ?_))))))))))))))
  refine O_cons (O_read rfl (R_neqD rfl rfl (P_some rfl (O_nil (hK1290 _ _ _ ?_)))))
  refine W_cond_v (b := !(decide (r2 = 0))) rfl (fun hc2 => ?_) (fun hc2 => ?_)
  · replace h := cond_t hc2 h
    refine WP.seq_k (fun K1291 hK1291 => WP.region Tt_ok (O_cons (O_read rfl (R_build rfl rfl rfl rfl (F_nil (P_some rfl (O_cons (O_read rfl (R_move rfl (P_some rfl (O_cons (O_store (vs := [.int .i64 0, .int .i64 0]) rfl rfl rfl rfl rfl rfl (ST_ (L' := ([(g2, .cells #[.int .i64 0, .int .i64 0] 31 (0, 0))] :: [(g1, .cells #[.int .i64 x1.ID, .int .i64 x1.Scale, .int .i64 x1.At, .int .i64 x1.Gross, .int .i64 x1.Tare, .int .i64 x1.Replaces] 29 (0, 0))] :: L)) 0 0 rfl rfl rfl rfl ?_)))))))))))))
    refine P_none (O_cons (O_read rfl (R_assign rfl (P_some rfl (O_nil (hK1291 _ _ _ (WP.ret ?_)))))))
    have e_ := Option.some.inj h
    obtain ⟨e0a_, e0b_⟩ := Prod.mk.inj e_
    clear e_
    subst e0a_
    subst e0b_
    refine S_cell rfl rfl rfl rfl (LA_ (vs := [.int .i64 0, .int .i64 0]) 0 0 rfl rfl rfl rfl (S_tmp rfl (S_nil (Upd.selS [] 2 ?_))))
    exact Upd.done hR
  replace h := cond_f hc2 h
  refine WP.skip (hK1288 _ _ _ (WP.seq_k (fun K1293 hK1293 => ?_)))
  obtain ⟨o1300, h1300, h⟩ := obind h
  refine WP.cutK (fun fr_ μ_ L_ => ∃ (f1 : Int) (f2 : Int) (g4 : Nat), (f1, f2) = o1300 ∧ SubFr [(0, .slice A1 s1.length c1), (3, .pointer (some ⟨g1, 0, none⟩)), (4, .pointer (some ⟨g2, 0, none⟩)), (8, .pointer (some ⟨g4, 0, none⟩))] fr_ ∧ SegSub ([(g1, .cells #[.int .i64 x1.ID, .int .i64 x1.Scale, .int .i64 x1.At, .int .i64 x1.Gross, .int .i64 x1.Tare, .int .i64 x1.Replaces] 29 (0, 0))] :: [(g2, .cells #[.int .i64 0, .int .i64 0] 31 (0, 0))] :: [(g4, .cells #[.int .i64 f1, .int .i64 f2] 31 (0, 0))] :: L) L_ ∧ μ = μ_) ?_ ?_
  · refine WP.draw (id := 7) wide _ Kept.refl rfl (AN.run (fuel := 7) (listed' := [true, true, true, true, true, true, true, true, true, false, false, false, false, false, false, false]) Tt_ok [(true, 0), (true, 1), (true, 2), (true, 3), (true, 4), (true, 5), (true, 6), (true, 7), (true, 8)] (by kernel_rfl) (by kernel_rfl) rfl (PL_t rfl (R_move rfl (P_some rfl (PL_t rfl (R_fa0 (o' := 1) rfl rfl rfl rfl rfl rfl (P_some rfl (PL_t rfl (R_load rfl rfl rfl (Ex.mk _ (Cell.seg 1 0 rfl rfl rfl) (P_some rfl (PL_t rfl ?_))))))))))))
    obtain ⟨x2, hx3, h1300⟩ := obind h1300
    obtain ⟨a1, cs1, hA2, hr1, _, hc3⟩ := Rds.getI hA1 hx3
    obtain rfl := hr1
    refine R_iaG rfl rfl rfl rfl rfl rfl ⟨(getI_lt hx3).1, (getI_lt hx3).2.1⟩ hA2 (P_some rfl (PL_t rfl (R_loadA rfl rfl rfl rfl (Ex.mk [.int .i64 x2.Step, .int .i64 x2.Max, .int .i64 x2.Base, .int .i64 x2.Slope, .int .i64 x2.Drift, .int .i64 x2.Checked] ⟨rfl, (hc3.push.push)⟩ (P_some rfl (PL_t rfl (R_fa0 (o' := 3) rfl rfl rfl rfl rfl rfl (P_some rfl (PL_t rfl (R_load rfl rfl rfl (Ex.mk _ (Cell.seg 1 0 rfl rfl rfl) (P_some rfl (PL_t rfl ?_)))))))))))))
    refine R_fa0 (o' := 2) rfl rfl rfl rfl rfl rfl (P_some rfl (PL_t rfl (R_load rfl rfl rfl (Ex.mk _ (Cell.seg 1 0 rfl rfl rfl) (P_some rfl (PL_nil ?_))))))
    refine FK_2 Tt_ok (a := 9) (b := 13) (by kernel_rfl) ?_ ?_
    · refine FO_ rfl rfl (O_call (all := [.agg #[.int .i64 x2.Step, .int .i64 x2.Max, .int .i64 x2.Base, .int .i64 x2.Slope, .int .i64 x2.Drift, .int .i64 x2.Checked], .int .i64 x1.Gross, .int .i64 x1.At]) rfl rfl rfl ?_)
      obtain ⟨⟨r3, r4⟩, hx4, h1300⟩ := obind h1300
      replace h1300 := oun_mk h1300
      refine recyclingref26_True_fn  hx4 (?_)
      refine ⟨Kept.refl, ?_⟩
      refine P_some rfl (AN.run (fuel := 0) (listed' := [true, true, true, true, true, true, true, true, true, true, true, true, true, true, true, true]) Tt_ok [(true, 10), (true, 11), (true, 12), (false, 13), (false, 14), (true, 15)] (by kernel_rfl) (by kernel_rfl) rfl (PL_t rfl (R_move rfl (P_some rfl (PL_t rfl (R_ext rfl rfl (P_some rfl (PL_t rfl (R_ext rfl rfl (P_some rfl (PL_f rfl (O_alloc (cs := #[.int .i64 0, .int .i64 0]) rfl rfl (fun g3 => ?_)))))))))))))
      refine ⟨Kept.more (Kept.refl), ?_⟩
      refine P_some rfl (PL_f rfl (O_store (vs := [.int .i64 r3.Lo, .int .i64 r3.Hi]) rfl rfl rfl rfl rfl rfl (ST_ (L' := ([(g3, .cells #[.int .i64 r3.Lo, .int .i64 r3.Hi] 31 (0, 0))] :: [(g2, .cells #[.int .i64 0, .int .i64 0] 31 (0, 0))] :: [(g1, .cells #[.int .i64 x1.ID, .int .i64 x1.Scale, .int .i64 x1.At, .int .i64 x1.Gross, .int .i64 x1.Tare, .int .i64 x1.Replaces] 29 (0, 0))] :: L)) 0 0 rfl rfl rfl rfl ?_)))
      refine ⟨Kept.more (Kept.refl), ?_⟩
      refine P_none (PL_t rfl (R_assign rfl (P_some rfl (PL_nil (AN.done0 (by kernel_rfl) ?_)))))
      have e_ := Option.some.inj h1300
      subst e_
      exact ⟨r3.Lo, r3.Hi, g3, rfl, SubFr.of ⟨rfl, rfl, rfl, rfl, trivial⟩, SegSub.sel _ [some 2, some 1, some 0] 3, rfl⟩
    obtain ⟨⟨r3, r4⟩, hx4, h1300⟩ := obind h1300
    replace h1300 := oun_mk h1300
    refine FO_ rfl rfl (O_alloc (cs := #[.int .i64 0, .int .i64 0]) rfl rfl (fun g3 => ?_))
    refine ⟨Kept.more (Kept.refl), ?_⟩
    refine P_some rfl (AN.run (fuel := 0) (listed' := [true, true, true, true, true, true, true, true, true, true, true, true, true, true, true, true]) Tt_ok [(false, 9), (true, 10), (true, 11), (true, 12), (false, 14), (true, 15)] (by kernel_rfl) (by kernel_rfl) rfl (PL_f rfl (O_call (all := [.agg #[.int .i64 x2.Step, .int .i64 x2.Max, .int .i64 x2.Base, .int .i64 x2.Slope, .int .i64 x2.Drift, .int .i64 x2.Checked], .int .i64 x1.Gross, .int .i64 x1.At]) rfl rfl rfl (recyclingref26_True_fn  hx4 (?_)))))
    refine ⟨Kept.more (Kept.refl), ?_⟩
    refine P_some rfl (PL_t rfl (R_move rfl (P_some rfl (PL_t rfl (R_ext rfl rfl (P_some rfl (PL_t rfl (R_ext rfl rfl (P_some rfl (PL_f rfl (O_store (vs := [.int .i64 r3.Lo, .int .i64 r3.Hi]) rfl rfl rfl rfl rfl rfl (ST_ (L' := ([(g3, .cells #[.int .i64 r3.Lo, .int .i64 r3.Hi] 31 (0, 0))] :: [(g2, .cells #[.int .i64 0, .int .i64 0] 31 (0, 0))] :: [(g1, .cells #[.int .i64 x1.ID, .int .i64 x1.Scale, .int .i64 x1.At, .int .i64 x1.Gross, .int .i64 x1.Tare, .int .i64 x1.Replaces] 29 (0, 0))] :: L)) 0 0 rfl rfl rfl rfl ?_))))))))))))
    refine ⟨Kept.more (Kept.refl), ?_⟩
    refine P_none (PL_t rfl (R_assign rfl (P_some rfl (PL_nil (AN.done0 (by kernel_rfl) ?_)))))
    have e_ := Option.some.inj h1300
    subst e_
    exact ⟨r3.Lo, r3.Hi, g3, rfl, SubFr.of ⟨rfl, rfl, rfl, rfl, trivial⟩, SegSub.sel _ [some 2, some 1, some 0] 3, rfl⟩
  rintro fr1300 μ1300 L1300 hm1300 ⟨f1, f2, g4, ho1300, hF1300, hS1300, hu1300⟩
  subst ho1300
  replace h := oun_mk h
  subst hu1300
  refine hK1293 _ _ _ (WP.at hF1300 hS1300 (WP.seq_k (fun K1320 hK1320 => ?_)))
  obtain ⟨o1327, h1327, h⟩ := obind h
  refine WP.cutK (fun fr_ μ_ L_ => ∃ (f3 : Int) (f4 : Int) (g6 : Nat), (f3, f4) = o1327 ∧ SubFr [(4, .pointer (some ⟨g2, 0, none⟩)), (8, .pointer (some ⟨g4, 0, none⟩)), (10, .pointer (some ⟨g6, 0, none⟩))] fr_ ∧ SegSub ([(g2, .cells #[.int .i64 0, .int .i64 0] 31 (0, 0))] :: [(g4, .cells #[.int .i64 f1, .int .i64 f2] 31 (0, 0))] :: [(g6, .cells #[.int .i64 f3, .int .i64 f4] 31 (0, 0))] :: L) L_ ∧ μ = μ_) ?_ ?_
  · refine WP.draw (id := 8) wide _ Kept.refl rfl (AN.run (fuel := 7) (listed' := [true, true, true, true, true, true, true, true, true, false, false, false, false, false, false, false]) Tt_ok [(true, 0), (true, 1), (true, 2), (true, 3), (true, 4), (true, 5), (true, 6), (true, 7), (true, 8)] (by kernel_rfl) (by kernel_rfl) rfl (PL_t rfl (R_move rfl (P_some rfl (PL_t rfl (R_fa0 (o' := 1) rfl rfl rfl rfl rfl rfl (P_some rfl (PL_t rfl (R_load rfl rfl rfl (Ex.mk _ (Cell.seg 0 0 rfl rfl rfl) (P_some rfl (PL_t rfl ?_))))))))))))
    obtain ⟨x3, hx5, h1327⟩ := obind h1327
    obtain ⟨a2, cs2, hA3, hr2, _, hc4⟩ := Rds.getI hA1 hx5
    obtain rfl := hr2
    refine R_iaG rfl rfl rfl rfl rfl rfl ⟨(getI_lt hx5).1, (getI_lt hx5).2.1⟩ hA3 (P_some rfl (PL_t rfl (R_loadA rfl rfl rfl rfl (Ex.mk [.int .i64 x3.Step, .int .i64 x3.Max, .int .i64 x3.Base, .int .i64 x3.Slope, .int .i64 x3.Drift, .int .i64 x3.Checked] ⟨rfl, (hc4.push.push.push)⟩ (P_some rfl (PL_t rfl (R_fa0 (o' := 4) rfl rfl rfl rfl rfl rfl (P_some rfl (PL_t rfl (R_load rfl rfl rfl (Ex.mk _ (Cell.seg 0 0 rfl rfl rfl) (P_some rfl (PL_t rfl ?_)))))))))))))
    refine R_fa0 (o' := 2) rfl rfl rfl rfl rfl rfl (P_some rfl (PL_t rfl (R_load rfl rfl rfl (Ex.mk _ (Cell.seg 0 0 rfl rfl rfl) (P_some rfl (PL_nil ?_))))))
    refine FK_2 Tt_ok (a := 9) (b := 13) (by kernel_rfl) ?_ ?_
    · refine FO_ rfl rfl (O_call (all := [.agg #[.int .i64 x3.Step, .int .i64 x3.Max, .int .i64 x3.Base, .int .i64 x3.Slope, .int .i64 x3.Drift, .int .i64 x3.Checked], .int .i64 x1.Tare, .int .i64 x1.At]) rfl rfl rfl ?_)
      obtain ⟨⟨r5, r6⟩, hx6, h1327⟩ := obind h1327
      replace h1327 := oun_mk h1327
      refine recyclingref26_True_fn  hx6 (?_)
      refine ⟨Kept.refl, ?_⟩
      refine P_some rfl (AN.run (fuel := 0) (listed' := [true, true, true, true, true, true, true, true, true, true, true, true, true, true, true, true]) Tt_ok [(true, 10), (true, 11), (true, 12), (false, 13), (false, 14), (true, 15)] (by kernel_rfl) (by kernel_rfl) rfl (PL_t rfl (R_move rfl (P_some rfl (PL_t rfl (R_ext rfl rfl (P_some rfl (PL_t rfl (R_ext rfl rfl (P_some rfl (PL_f rfl (O_alloc (cs := #[.int .i64 0, .int .i64 0]) rfl rfl (fun g5 => ?_)))))))))))))
      refine ⟨Kept.more (Kept.refl), ?_⟩
      refine P_some rfl (PL_f rfl (O_store (vs := [.int .i64 r5.Lo, .int .i64 r5.Hi]) rfl rfl rfl rfl rfl rfl (ST_ (L' := ([(g5, .cells #[.int .i64 r5.Lo, .int .i64 r5.Hi] 31 (0, 0))] :: [(g1, .cells #[.int .i64 x1.ID, .int .i64 x1.Scale, .int .i64 x1.At, .int .i64 x1.Gross, .int .i64 x1.Tare, .int .i64 x1.Replaces] 29 (0, 0))] :: [(g2, .cells #[.int .i64 0, .int .i64 0] 31 (0, 0))] :: [(g4, .cells #[.int .i64 f1, .int .i64 f2] 31 (0, 0))] :: L)) 0 0 rfl rfl rfl rfl ?_)))
      refine ⟨Kept.more (Kept.refl), ?_⟩
      refine P_none (PL_t rfl (R_assign rfl (P_some rfl (PL_nil (AN.done0 (by kernel_rfl) ?_)))))
      have e_ := Option.some.inj h1327
      subst e_
      exact ⟨r5.Lo, r5.Hi, g5, rfl, SubFr.of ⟨rfl, rfl, rfl, trivial⟩, SegSub.sel _ [some 2, some 3, some 0] 4, rfl⟩
    obtain ⟨⟨r5, r6⟩, hx6, h1327⟩ := obind h1327
    replace h1327 := oun_mk h1327
    refine FO_ rfl rfl (O_alloc (cs := #[.int .i64 0, .int .i64 0]) rfl rfl (fun g5 => ?_))
    refine ⟨Kept.more (Kept.refl), ?_⟩
    refine P_some rfl (AN.run (fuel := 0) (listed' := [true, true, true, true, true, true, true, true, true, true, true, true, true, true, true, true]) Tt_ok [(false, 9), (true, 10), (true, 11), (true, 12), (false, 14), (true, 15)] (by kernel_rfl) (by kernel_rfl) rfl (PL_f rfl (O_call (all := [.agg #[.int .i64 x3.Step, .int .i64 x3.Max, .int .i64 x3.Base, .int .i64 x3.Slope, .int .i64 x3.Drift, .int .i64 x3.Checked], .int .i64 x1.Tare, .int .i64 x1.At]) rfl rfl rfl (recyclingref26_True_fn  hx6 (?_)))))
    refine ⟨Kept.more (Kept.refl), ?_⟩
    refine P_some rfl (PL_t rfl (R_move rfl (P_some rfl (PL_t rfl (R_ext rfl rfl (P_some rfl (PL_t rfl (R_ext rfl rfl (P_some rfl (PL_f rfl (O_store (vs := [.int .i64 r5.Lo, .int .i64 r5.Hi]) rfl rfl rfl rfl rfl rfl (ST_ (L' := ([(g5, .cells #[.int .i64 r5.Lo, .int .i64 r5.Hi] 31 (0, 0))] :: [(g1, .cells #[.int .i64 x1.ID, .int .i64 x1.Scale, .int .i64 x1.At, .int .i64 x1.Gross, .int .i64 x1.Tare, .int .i64 x1.Replaces] 29 (0, 0))] :: [(g2, .cells #[.int .i64 0, .int .i64 0] 31 (0, 0))] :: [(g4, .cells #[.int .i64 f1, .int .i64 f2] 31 (0, 0))] :: L)) 0 0 rfl rfl rfl rfl ?_))))))))))))
    refine ⟨Kept.more (Kept.refl), ?_⟩
    refine P_none (PL_t rfl (R_assign rfl (P_some rfl (PL_nil (AN.done0 (by kernel_rfl) ?_)))))
    have e_ := Option.some.inj h1327
    subst e_
    exact ⟨r5.Lo, r5.Hi, g5, rfl, SubFr.of ⟨rfl, rfl, rfl, trivial⟩, SegSub.sel _ [some 2, some 3, some 0] 4, rfl⟩
  rintro fr1327 μ1327 L1327 hm1327 ⟨f3, f4, g6, ho1327, hF1327, hS1327, hu1327⟩
  subst ho1327
  replace h := oun_mk h
  subst hu1327
  refine hK1320 _ _ _ (WP.at hF1327 hS1327 (WP.seq_k (fun K1347 hK1347 => WP.region Tt_ok (O_cons (O_read rfl (R_fa0 (o' := 0) rfl rfl rfl rfl rfl rfl (P_some rfl (O_cons (O_read rfl (R_load rfl rfl rfl (Ex.mk _ (Cell.seg 1 0 rfl rfl rfl) (P_some rfl (O_cons ?_)))))))))))))
  refine O_read rfl (R_fa0 (o' := 1) rfl rfl rfl rfl rfl rfl (P_some rfl (O_cons (O_read rfl (R_load rfl rfl rfl (Ex.mk _ (Cell.seg 2 0 rfl rfl rfl) (P_some rfl (O_cons (O_read rfl (R_sub rfl rfl (P_some rfl (O_cons (O_read rfl ?_)))))))))))))
  refine R_maxI rfl (P_some rfl (O_cons (O_read rfl (R_fa0 (o' := 1) rfl rfl rfl rfl rfl rfl (P_some rfl (O_cons (O_read rfl (R_load rfl rfl rfl (Ex.mk _ (Cell.seg 1 0 rfl rfl rfl) (P_some rfl (O_cons (O_read rfl (R_fa0 (o' := 0) rfl rfl rfl rfl rfl rfl ?_)))))))))))))
  refine P_some rfl (O_cons (O_read rfl (R_load rfl rfl rfl (Ex.mk _ (Cell.seg 2 0 rfl rfl rfl) (P_some rfl (O_cons (O_read rfl (R_sub rfl rfl (P_some rfl (O_cons (O_read rfl (R_maxI rfl (P_some rfl ?_)))))))))))))
  refine O_cons (O_read rfl (R_build rfl rfl rfl rfl (F_cons (cells' := [.int .i64 (max 0 (w64 (f1 - f4))), .int .i64 0]) rfl rfl rfl rfl (F_cons (cells' := [.int .i64 (max 0 (w64 (f1 - f4))), .int .i64 (max 0 (w64 (f2 - f3)))]) rfl rfl rfl rfl (F_nil (P_some rfl (O_cons (O_store (vs := [.int .i64 (max 0 (w64 (f1 - f4))), .int .i64 (max 0 (w64 (f2 - f3)))]) rfl rfl rfl rfl rfl rfl (ST_ (L' := ([(g2, .cells #[.int .i64 (max 0 (w64 (f1 - f4))), .int .i64 (max 0 (w64 (f2 - f3)))] 31 (0, 0))] :: [(g4, .cells #[.int .i64 f1, .int .i64 f2] 31 (0, 0))] :: [(g6, .cells #[.int .i64 f3, .int .i64 f4] 31 (0, 0))] :: L)) 0 0 rfl rfl rfl rfl (P_none (O_cons (O_read rfl (R_assign rfl ?_)))))))))))))
  refine P_some rfl (O_nil (hK1347 _ _ _ (WP.ret ?_)))
  have e_ := Option.some.inj h
  obtain ⟨e0a_, e0b_⟩ := Prod.mk.inj e_
  clear e_
  subst e0a_
  subst e0b_
  refine S_cell rfl rfl rfl rfl (LA_ (vs := [.int .i64 (max 0 (w64 (f1 - f4))), .int .i64 (max 0 (w64 (f2 - f3)))]) 0 0 rfl rfl rfl rfl (S_tmp rfl (S_nil (Upd.selS [] 3 ?_))))
  exact Upd.done hR

theorem recyclinglaw27_TicketNets_fn {μ : Gh} {L : List Seg} {R : Value → Gh → List Seg → Prop} {F : Nat} {s1 : (List T_api_Scale)} {x1 : T_api_Ticket} {A1 : Option Addr} {c1 : Nat} {res1 : Bool}
    (hl1 : s1.length ≤ c1 ∧ c1 ≤ maxLen) (hA1 : Rds r_api_Scale μ L A1 s1) (h : recyclinglaw27_TicketNets F s1 x1 = some res1)
    (hR : R (.bool res1) μ (L)) :
    Fn Try.prog 4 [.slice A1 s1.length c1, .agg #[.int .i64 x1.ID, .int .i64 x1.Scale, .int .i64 x1.At, .int .i64 x1.Gross, .int .i64 x1.Tare, .int .i64 x1.Replaces]] μ (L) R := by
  unfold recyclinglaw27_TicketNets at h
  refine Fn.of_body Tt_ok Try.func4 (by kernel_rfl) rfl Try.ntmps4 (by simp) ?_
  simp only [Try.f4, argFr, List.zipIdx, List.map, Nat.reduceAdd]
  refine WP.seq_k (fun K1270 hK1270 => WP.region Tt_ok (O_cons (O_box (cs := #[.int .i64 x1.ID, .int .i64 x1.Scale, .int .i64 x1.At, .int .i64 x1.Gross, .int .i64 x1.Tare, .int .i64 x1.Replaces]) rfl rfl (fun g1 => P_some rfl (O_cons (O_read rfl (R_assign rfl (P_some rfl (O_nil (hK1270 _ _ _ (WP.seq_k (fun K1272 hK1272 => WP.seq_k (fun K1273 hK1273 => WP.region Tt_ok ?_)))))))))))))
  refine O_cons (O_read rfl (R_move rfl (P_some rfl (O_cons (O_read rfl (R_lenS rfl rfl rfl (P_some rfl (O_cons (O_read rfl (R_gtrD rfl rfl (P_some rfl (O_nil (hK1273 _ _ _ ?_)))))))))))))
  refine W_cond_v (b := (decide (20 < ((s1.length : Nat) : Int)))) rfl (fun hc1 => ?_) (fun hc1 => ?_)
  · replace h := cond_t hc1 h
    refine WP.seq_k (fun K1274 hK1274 => WP.region Tt_ok (O_cons (O_call (all := []) rfl rfl rfl ?_)))
    obtain ⟨r1, hx1, h⟩ := obind h
    refine recyclinglaw27_awake_fn  hx1 ((P_some rfl (O_cons (O_read rfl (R_assign rfl (P_some rfl (O_nil (hK1274 _ _ _ (WP.ret ?_)))))))))
    have e_ := Option.some.inj h
    subst e_
    refine S_tmp rfl (S_nil (Upd.selS [] 1 ?_))
    exact Upd.done hR
  replace h := cond_f hc1 h
  refine WP.skip (hK1272 _ _ _ (WP.seq_k (fun K1275 hK1275 => WP.region Tt_ok (O_cons (O_read rfl (R_move rfl (P_some rfl (O_cons (O_read rfl (R_loadA rfl rfl rfl rfl (LA_ (vs := [.int .i64 x1.ID, .int .i64 x1.Scale, .int .i64 x1.At, .int .i64 x1.Gross, .int .i64 x1.Tare, .int .i64 x1.Replaces]) 0 0 rfl rfl rfl rfl (P_some rfl (O_cons ?_)))))))))))))
  apply O_call (all := [.slice A1 s1.length c1, .agg #[.int .i64 x1.ID, .int .i64 x1.Scale, .int .i64 x1.At, .int .i64 x1.Gross, .int .i64 x1.Tare, .int .i64 x1.Replaces]]); exact rfl; exact rfl; exact rfl
  obtain ⟨⟨r2, r3⟩, hx2, h⟩ := obind h
  replace h := oun_mk h
  refine ticket_Net_fn hl1 (Rds.push hA1) hx2 ((P_some rfl (O_cons (O_read rfl (R_move rfl (P_some rfl (O_cons (O_read rfl (R_ext rfl rfl (P_some rfl (O_cons (O_read rfl (R_ext rfl rfl (P_some rfl ?_))))))))))))))
  refine O_cons (O_alloc (cs := #[.int .i64 0, .int .i64 0]) rfl rfl (fun g2 => P_some rfl (O_cons (O_store (vs := [.int .i64 r2.Lo, .int .i64 r2.Hi]) rfl rfl rfl rfl rfl rfl (ST_ (L' := ([(g2, .cells #[.int .i64 r2.Lo, .int .i64 r2.Hi] 31 (0, 0))] :: [(g1, .cells #[.int .i64 x1.ID, .int .i64 x1.Scale, .int .i64 x1.At, .int .i64 x1.Gross, .int .i64 x1.Tare, .int .i64 x1.Replaces] 29 (0, 0))] :: L)) 0 0 rfl rfl rfl rfl (P_none (O_cons (O_read rfl (R_assign rfl (P_some rfl (O_nil (hK1275 _ _ _ (WP.seq_k (fun K1278 hK1278 => ?_))))))))))))))
  refine WP.region Tt_ok (O_cons (O_read rfl (R_move rfl (P_some rfl (O_cons (O_read rfl (R_loadA rfl rfl rfl rfl (LA_ (vs := [.int .i64 x1.ID, .int .i64 x1.Scale, .int .i64 x1.At, .int .i64 x1.Gross, .int .i64 x1.Tare, .int .i64 x1.Replaces]) 1 0 rfl rfl rfl rfl (P_some rfl (O_cons (O_call (all := [.slice A1 s1.length c1, .agg #[.int .i64 x1.ID, .int .i64 x1.Scale, .int .i64 x1.At, .int .i64 x1.Gross, .int .i64 x1.Tare, .int .i64 x1.Replaces]]) rfl rfl rfl ?_)))))))))))
  obtain ⟨⟨r4, r5⟩, hx3, h⟩ := obind h
  replace h := oun_mk h
  refine recyclingref27_Net_fn hl1 (Rds.push (Rds.push hA1)) hx3 ((P_some rfl (O_cons (O_read rfl (R_move rfl (P_some rfl (O_cons (O_read rfl (R_ext rfl rfl (P_some rfl (O_cons (O_read rfl (R_ext rfl rfl (P_some rfl ?_))))))))))))))
  refine O_cons (O_alloc (cs := #[.int .i64 0, .int .i64 0]) rfl rfl (fun g3 => P_some rfl (O_cons (O_store (vs := [.int .i64 r4.Lo, .int .i64 r4.Hi]) rfl rfl rfl rfl rfl rfl (ST_ (L' := ([(g3, .cells #[.int .i64 r4.Lo, .int .i64 r4.Hi] 31 (0, 0))] :: [(g2, .cells #[.int .i64 r2.Lo, .int .i64 r2.Hi] 31 (0, 0))] :: [(g1, .cells #[.int .i64 x1.ID, .int .i64 x1.Scale, .int .i64 x1.At, .int .i64 x1.Gross, .int .i64 x1.Tare, .int .i64 x1.Replaces] 29 (0, 0))] :: L)) 0 0 rfl rfl rfl rfl (P_none (O_cons (O_read rfl (R_assign rfl (P_some rfl (O_nil (hK1278 _ _ _ (WP.seq_k (fun K1351 hK1351 => ?_))))))))))))))
  obtain ⟨o1352, h1352, h⟩ := obind h
  refine WP.cutK (fun fr_ μ_ L_ => ∃ (v1 : Bool), v1 = o1352 ∧ SubFr [(4, .bool v1)] fr_ ∧ SegSub (L) L_ ∧ μ = μ_) ?_ ?_
  · refine WP.region Tt_ok (O_cons (O_read rfl (R_loadA rfl rfl rfl rfl (LA_ (vs := [.int .i64 r2.Lo, .int .i64 r2.Hi]) 1 0 rfl rfl rfl rfl (P_some rfl (O_cons (O_read rfl (R_loadA rfl rfl rfl rfl (LA_ (vs := [.int .i64 r4.Lo, .int .i64 r4.Hi]) 0 0 rfl rfl rfl rfl (P_some rfl (O_cons (O_read rfl (R_agg rfl rfl ?_)))))))))))))
    refine Ex.mk _ (eqRun_T_api_Span r2 r4) (P_some rfl (O_cons (O_read rfl (R_move rfl (P_some rfl ?_)))))
    refine O_gv (z := (decide (r2 = r4))) rfl rfl (fun hc2 => ?_) (fun hc2 => ?_)
    · replace h1352 := cond_t hc2 h1352
      refine O_read rfl (R_move rfl (P_some rfl (O_gY rfl rfl hc2 (O_read rfl (R_move rfl (P_some rfl (O_gY rfl rfl hc2 (O_read rfl (R_eqlD rfl rfl (P_some rfl (O_cons (O_read rfl (R_pick_T rfl hc2 rfl ?_)))))))))))))
      refine P_some rfl (O_cons (O_read rfl (R_move rfl (P_some rfl ?_))))
      refine O_gv (z := (decide (r3 = r5))) rfl rfl (fun hc3 => ?_) (fun hc3 => ?_)
      · replace h1352 := cond_t hc3 h1352
        apply O_call (all := []); exact rfl; exact rfl; exact rfl
        obtain ⟨r6, hx4, h1352⟩ := obind h1352
        refine recyclinglaw27_awake_fn  hx4 ((P_some rfl (O_cons (O_read rfl (R_pick_T rfl hc3 rfl (P_some rfl (O_cons (O_read rfl (R_assign rfl (P_some rfl (O_nil ?_)))))))))))
        have e_ := Option.some.inj h1352
        subst e_
        exact ⟨r6, rfl, SubFr.of ⟨rfl, trivial⟩, SegSub.sel _ [] 3, rfl⟩
      replace h1352 := cond_f hc3 h1352
      refine P_some rfl (O_cons (O_read rfl (R_pick_F rfl hc3 rfl (P_some rfl (O_cons (O_read rfl (R_assign rfl (P_some rfl (O_nil ?_)))))))))
      have e_ := Option.some.inj h1352
      subst e_
      exact ⟨false, rfl, SubFr.of ⟨rfl, trivial⟩, SegSub.sel _ [] 3, rfl⟩
    replace h1352 := cond_f hc2 h1352
    refine P_some rfl (O_gN rfl rfl hc2 (P_some rfl (O_gN rfl rfl hc2 (P_some rfl (O_cons (O_read rfl (R_pick_F rfl hc2 rfl (P_some rfl (O_cons (O_read rfl (R_move rfl (P_some rfl (O_gN rfl rfl rfl ?_)))))))))))))
    refine P_some rfl (O_cons (O_read rfl (R_pick_F rfl rfl rfl (P_some rfl (O_cons (O_read rfl (R_assign rfl (P_some rfl (O_nil ?_)))))))))
    have e_ := Option.some.inj h1352
    subst e_
    exact ⟨false, rfl, SubFr.of ⟨rfl, trivial⟩, SegSub.sel _ [] 3, rfl⟩
  rintro fr1352 μ1352 L1352 hm1352 ⟨v1, ho1352, hF1352, hS1352, hu1352⟩
  subst ho1352
  subst hu1352
  refine hK1351 _ _ _ (WP.at hF1352 hS1352 (WP.ret ?_))
  have e_ := Option.some.inj h
  subst e_
  refine S_tmp rfl (S_nil (Upd.selS [] 0 ?_))
  exact Upd.done hR

theorem recyclingref27_replaced_fn {μ : Gh} {L : List Seg} {R : Value → Gh → List Seg → Prop}  {l1 : (List T_api_Ticket)} {i1 : Int} {A1 : Option Addr} {c1 : Nat} {res1 : Bool}
    (hl1 : l1.length ≤ c1 ∧ c1 ≤ maxLen) (hA1 : Rds r_api_Ticket μ L A1 l1) (h : recyclingref27_replaced l1 i1 = some res1)
    (hR : R (.bool res1) μ (L)) :
    Fn Try.prog 35 [.slice A1 l1.length c1, .int .i64 i1] μ (L) R := by
  unfold recyclingref27_replaced at h
  refine Fn.of_body Tt_ok Try.func35 (by kernel_rfl) rfl Try.ntmps35 (by simp) ?_
  simp only [Try.f35, argFr, List.zipIdx, List.map, Nat.reduceAdd]
  refine WP.seq_k (fun K1384 hK1384 => WP.region Tt_ok (O_cons (O_read rfl (R_assign rfl (P_some rfl (O_nil (hK1384 _ _ _ (WP.seq_k (fun K1385 hK1385 => WP.seq_k (fun K1386 hK1386 => WP.region Tt_ok (O_cons (O_read rfl (R_assign rfl ?_)))))))))))))
  refine P_some rfl (O_nil (hK1386 _ _ _ ?_))
  obtain ⟨o1387, h1387, h⟩ := obind h
  refine WP.cutK (fun fr_ μ_ L_ => (.inl ()) = o1387 ∧ SubFr [] fr_ ∧ SegSub (L) L_ ∧ μ = μ_) ?_ ?_
  · refine WP.block (WP.iter h1387 (fun (k1 : Int) fr_ μ_ L_ => SubFr [(0, .slice A1 l1.length c1), (1, .int .i64 i1), (5, .int .i64 k1)] fr_ ∧ SegSub (L) L_ ∧ μ = μ_) ⟨SubFr.of ⟨rfl, rfl, rfl, trivial⟩, SegSub.sel _ [] 0, rfl⟩ ?_)
    rintro k1 q1394 fr1394 μ1394 L1394 hm1394 ⟨hF1394, hS1394, hu1394⟩ hb1394 hq1394
    unfold recyclingref27_replaced_l1 at hb1394
    subst hu1394
    refine WP.at hF1394 hS1394 (WP.seq_k (fun K1395 hK1395 => WP.seq_k (fun K1396 hK1396 => WP.region Tt_ok (O_cons (O_read rfl (R_move rfl (P_some rfl (O_cons (O_read rfl (R_move rfl (P_some rfl (O_cons (O_read rfl ?_)))))))))))))
    refine R_lenS rfl rfl rfl (P_some rfl (O_cons (O_read rfl (R_lssD rfl rfl (P_some rfl (O_nil (hK1396 _ _ _ ?_)))))))
    refine W_cond_v (b := (decide (k1 < ((l1.length : Nat) : Int)))) rfl (fun hc1 => ?_) (fun hc1 => ?_)
    · replace hb1394 := cond_t hc1 hb1394
      refine WP.skip (hK1395 _ _ _ (WP.seq_k (fun K1397 hK1397 => WP.block (WP.seq_k (fun K1398 hK1398 => WP.drawn (id := 4) (l' := List.replicate 11 true) wide Tt_ok _ Kept.refl [(true, 0), (true, 1), (true, 2), (true, 3), (true, 4), (true, 5), (true, 6), (true, 7), (true, 8), (true, 9), (true, 10)] (by kernel_rfl) (by kernel_rfl) rfl (PL_t rfl (R_move rfl (P_some rfl (PL_t rfl (R_move rfl (P_some rfl (PL_t rfl ?_))))))))))))
      obtain ⟨x1, hx1, hb1394⟩ := obind hb1394
      obtain ⟨a1, cs1, hA2, hr1, _, hc2⟩ := Rds.getI hA1 hx1
      obtain rfl := hr1
      refine R_iaG rfl rfl rfl rfl rfl rfl ⟨(getI_lt hx1).1, (getI_lt hx1).2.1⟩ hA2 (P_some rfl (PL_t rfl (R_fa rfl rfl rfl rfl rfl (P_some rfl (PL_t rfl (R_load rfl rfl rfl (Ex.mk _ (Cell.of_cells hc2 5 rfl) (P_some rfl (PL_t rfl (R_move rfl (P_some rfl (PL_t rfl (R_move rfl ?_)))))))))))))
      refine P_some rfl (PL_t rfl ?_)
      obtain ⟨x2, hx2, hb1394⟩ := obind hb1394
      obtain ⟨a2, cs2, hA3, hr2, _, hc3⟩ := Rds.getI hA1 hx2
      obtain rfl := hr2
      refine R_iaG rfl rfl rfl rfl rfl rfl ⟨(getI_lt hx2).1, (getI_lt hx2).2.1⟩ hA3 (P_some rfl (PL_t rfl (R_faz rfl rfl rfl rfl rfl (P_some rfl (PL_t rfl (R_load rfl rfl rfl (Ex.mk _ (Cell.of_cells0 hc3 rfl) (P_some rfl (PL_t rfl (R_eqlD rfl rfl (P_some rfl (PL_nil (AN.done0 (by kernel_rfl) ?_)))))))))))))
      refine hK1398 _ _ _ ?_
      refine W_cond_v (b := (decide (x1.Replaces = x2.ID))) rfl (fun hc4 => ?_) (fun hc4 => ?_)
      · replace hb1394 := cond_t hc4 hb1394
        refine WP.seq_k (fun K1399 hK1399 => WP.region Tt_ok (O_cons (O_read rfl (R_assign rfl (P_some rfl (O_nil (hK1399 _ _ _ (WP.ret ?_))))))))
        have e_ := Option.some.inj hb1394
        subst e_
        have hq_ := hq1394 _ rfl
        subst hq_
        replace h := osum_r h
        have e_ := Option.some.inj h
        subst e_
        refine S_tmp rfl (S_nil (Upd.selS [] 0 ?_))
        exact Upd.done hR
      replace hb1394 := cond_f hc4 hb1394
      refine WP.skip (hK1397 _ _ _ (WP.region Tt_ok (O_cons (O_read rfl (R_move rfl (P_some rfl (O_cons (O_read rfl (R_add rfl rfl (P_some rfl (O_cons (O_read rfl (R_assign rfl ?_)))))))))))))
      refine P_some rfl (O_nil ?_)
      have e_ := Option.some.inj hb1394
      subst e_
      exact ⟨_, rfl, SubFr.of ⟨rfl, rfl, rfl, trivial⟩, SegSub.sel _ [] 0, rfl⟩
    replace hb1394 := cond_f hc1 hb1394
    refine WP.exit (B_here ?_)
    have e_ := Option.some.inj hb1394
    subst e_
    have hq_ := hq1394 _ rfl
    subst hq_
    exact ⟨rfl, SubFr.of trivial, SegSub.sel _ [] 0, rfl⟩
  rintro fr1387 μ1387 L1387 hm1387 ⟨ho1387, hF1387, hS1387, hu1387⟩
  subst ho1387
  replace h := osum_l h
  subst hu1387
  refine hK1385 _ _ _ (WP.at hF1387 hS1387 (WP.seq_k (fun K1400 hK1400 => WP.region Tt_ok (O_cons (O_read rfl (R_assign rfl (P_some rfl (O_nil (hK1400 _ _ _ (WP.ret ?_))))))))))
  have e_ := Option.some.inj h
  subst e_
  refine S_tmp rfl (S_nil (Upd.selS [] 0 ?_))
  exact Upd.done hR

theorem recyclingref27_Active_fn {μ : Gh} {L : List Seg} {R : Value → Gh → List Seg → Prop}  {l1 : (List T_api_Ticket)} {A1 : Option Addr} {c1 : Nat} {res1 : (List Int)} {res2 : Int}
    (hl1 : l1.length ≤ c1 ∧ c1 ≤ maxLen) (hA1 : Rds r_api_Ticket μ L A1 l1) (h : recyclingref27_Active l1 = some (res1, res2))
    (hR : ∀ (A0 : Option Addr) (c0 : Nat) (ch0 : Seg), Own rInt 3 μ (.slice A0 res1.length c0) res1 ch0 → R (.tuple #[.slice A0 res1.length c0, .int .i64 res2]) μ (ch0 :: L)) :
    Fn Try.prog 18 [.slice A1 l1.length c1] μ (L) R := by
  unfold recyclingref27_Active at h
  refine Fn.of_body Tt_ok Try.func18 (by kernel_rfl) rfl Try.ntmps18 (by simp) ?_
  simp only [Try.f18, argFr, List.zipIdx, List.map, Nat.reduceAdd]
  refine WP.seq_k (fun K1362 hK1362 => WP.region Tt_ok (O_cons (O_read rfl (R_assign rfl (P_some rfl (O_cons (O_read rfl (R_assign rfl (P_some rfl (O_nil (hK1362 _ _ _ (WP.seq_k (fun K1365 hK1365 => WP.seq_k (fun K1366 hK1366 => ?_))))))))))))))
  refine WP.region Tt_ok (O_cons (O_read rfl (R_move rfl (P_some rfl (O_cons (O_call (all := [.slice A1 l1.length c1]) rfl rfl rfl ?_))))))
  obtain ⟨r1, hx1, h⟩ := obind h
  refine recyclingref27_List_fn hl1 hA1 hx1 ((P_some rfl (O_cons (O_read rfl (R_assign rfl (P_some rfl (O_nil (hK1366 _ _ _ (WP.seq_k (fun K1367 hK1367 => WP.region Tt_ok (O_cons (O_read rfl (R_move rfl (P_some rfl ?_))))))))))))))
  refine O_cons (O_read rfl (R_neqD rfl rfl (P_some rfl (O_nil (hK1367 _ _ _ ?_)))))
  refine W_cond_v (b := !(decide (r1 = 0))) rfl (fun hc1 => ?_) (fun hc1 => ?_)
  · replace h := cond_t hc1 h
    refine WP.seq_k (fun K1368 hK1368 => WP.region Tt_ok (O_cons (O_read rfl (R_move rfl (P_some rfl (O_cons (O_read rfl (R_assign rfl (P_some rfl (O_cons (O_read rfl (R_assign rfl (P_some rfl ?_)))))))))))))
    refine O_nil (hK1368 _ _ _ (WP.ret ?_))
    have e_ := Option.some.inj h
    obtain ⟨e0a_, e0b_⟩ := Prod.mk.inj e_
    clear e_
    subst e0a_
    subst e0b_
    refine S_tmp rfl (S_tmp rfl (S_nil (Upd.selS [none] 0 ?_)))
    exact Upd.done (hR none 0 [] (Own.nil))
  replace h := cond_f hc1 h
  refine WP.skip (hK1365 _ _ _ (WP.seq_k (fun K1371 hK1371 => WP.region Tt_ok (O_cons (O_read rfl (R_assign rfl (P_some rfl (O_nil (hK1371 _ _ _ (WP.seq_k (fun K1374 hK1374 => WP.seq_k (fun K1375 hK1375 => WP.region Tt_ok (O_cons ?_)))))))))))))
  refine O_read rfl (R_assign rfl (P_some rfl (O_nil (hK1375 _ _ _ ?_))))
  obtain ⟨o1376, h1376, h⟩ := obind h
  refine WP.cutK (fun fr_ μ_ L_ => ∃ (out3 : (List Int)) (A5 : Option Addr) (c5 : Nat) (ch4 : Seg), out3 = o1376 ∧ SubFr [(5, .slice A5 out3.length c5)] fr_ ∧ SegSub (ch4 :: L) L_ ∧ Own rInt 3 μ_ (.slice A5 out3.length c5) out3 ch4 ∧ μ = μ_) ?_ ?_
  · refine WP.block (WP.iter h1376 (fun (j_ : (List Int) × Int) fr_ μ_ L_ => ounP j_ fun out1 i1 => ∃ (A2 : Option Addr) (c2 : Nat) (ch1 : Seg), SubFr [(0, .slice A1 l1.length c1), (5, .slice A2 out1.length c2), (6, .int .i64 i1)] fr_ ∧ SegSub (ch1 :: L) L_ ∧ Own rInt 3 μ_ (.slice A2 out1.length c2) out1 ch1 ∧ μ = μ_) ⟨none, 0, [], SubFr.of ⟨rfl, rfl, rfl, trivial⟩, SegSub.sel _ [none] 0, (Own.nil), rfl⟩ ?_)
    rintro ⟨out1, i1⟩ q1405 fr1405 μ1405 L1405 hm1405 ⟨A2, c2, ch1, hF1405, hS1405, hO1, hu1405⟩ hb1405 hq1405
    unfold recyclingref27_Active_l1 at hb1405
    replace hb1405 := oun_mk hb1405
    subst hu1405
    refine WP.at hF1405 hS1405 (WP.seq_k (fun K1408 hK1408 => WP.seq_k (fun K1409 hK1409 => WP.region Tt_ok (O_cons (O_read rfl (R_move rfl (P_some rfl (O_cons (O_read rfl (R_move rfl (P_some rfl (O_cons (O_read rfl ?_)))))))))))))
    refine R_lenS rfl rfl rfl (P_some rfl (O_cons (O_read rfl (R_lssD rfl rfl (P_some rfl (O_nil (hK1409 _ _ _ ?_)))))))
    refine W_cond_v (b := (decide (i1 < ((l1.length : Nat) : Int)))) rfl (fun hc2 => ?_) (fun hc2 => ?_)
    · replace hb1405 := cond_t hc2 hb1405
      refine WP.skip (hK1408 _ _ _ (WP.seq_k (fun K1410 hK1410 => ?_)))
      obtain ⟨o1411, h1411, hb1405⟩ := obind hb1405
      refine WP.cutK (fun fr_ μ_ L_ => ∃ (out2 : (List Int)) (A4 : Option Addr) (c4 : Nat) (ch3 : Seg), out2 = o1411 ∧ SubFr [(0, .slice A1 l1.length c1), (5, .slice A4 out2.length c4), (6, .int .i64 i1)] fr_ ∧ SegSub (ch3 :: L) L_ ∧ Own rInt 3 μ_ (.slice A4 out2.length c4) out2 ch3 ∧ μ = μ_) ?_ ?_
      · refine WP.block (WP.seq_k (fun K1412 hK1412 => WP.region Tt_ok (O_cons (O_read rfl (R_move rfl (P_some rfl (O_cons (O_read rfl (R_move rfl (P_some rfl (O_cons (O_call (all := [.slice A1 l1.length c1, .int .i64 i1]) rfl rfl rfl ?_))))))))))))
        obtain ⟨r2, hx2, h1411⟩ := obind h1411
        refine recyclingref27_replaced_fn hl1 (Rds.push hA1) hx2 ((P_some rfl (O_cons (O_read rfl (R_not rfl (P_some rfl (O_nil (hK1412 _ _ _ ?_))))))))
        refine W_cond_v (b := !r2) rfl (fun hc3 => ?_) (fun hc3 => ?_)
        · replace h1411 := cond_t hc3 h1411
          refine WP.region Tt_ok (O_cons (O_read rfl (R_move rfl (P_some rfl (O_cons (O_read rfl (R_move rfl (P_some rfl (O_cons (O_bsl (z := [.int .i64 0]) rfl rfl rfl rfl rfl rfl rfl (F_cons (cells' := [.int .i64 i1]) rfl rfl rfl rfl (F_nil (fun g1 => P_some rfl ?_)))))))))))))
          refine O_cons (O_append rfl ?_)
          obtain ⟨l2, hz1, h1411⟩ := obind h1411
          refine sem_appR (r := rInt) Tt_ok rfl rfl rfl rfl (by decide) rfl rfl 1 rfl hO1 rfl (Own.rds (L := ([(g1, .cells #[.int .i64 i1] 3 (0, 0))] :: ch1 :: L)) (Own.lit (r := rInt) (e := 3) (g := g1) (xs := [i1]) (cs := [.int .i64 i1]) (css := [[.int .i64 i1]]) rfl (All2.cons (rfl) (All2.nil)) rfl rfl) 0 rfl) hz1 fun A3 c3 ch2 hO2 => P_some rfl (O_cons (O_read rfl (R_assign rfl (P_some rfl (O_nil ?_)))))
          have e_ := Option.some.inj h1411
          subst e_
          exact ⟨l2, A3, c3, ch2, rfl, SubFr.of ⟨rfl, rfl, rfl, trivial⟩, SegSub.sel _ [some 1] 2, (hO2), rfl⟩
        replace h1411 := cond_f hc3 h1411
        apply WP.skip
        have e_ := Option.some.inj h1411
        subst e_
        exact ⟨out1, A2, c2, ch1, rfl, SubFr.of ⟨rfl, rfl, rfl, trivial⟩, SegSub.sel _ [some 0] 1, (hO1), rfl⟩
      rintro fr1411 μ1411 L1411 hm1411 ⟨out2, A4, c4, ch3, ho1411, hF1411, hS1411, hO3, hu1411⟩
      subst ho1411
      subst hu1411
      refine hK1410 _ _ _ (WP.at hF1411 hS1411 (WP.region Tt_ok (O_cons (O_read rfl (R_move rfl (P_some rfl (O_cons (O_read rfl (R_add rfl rfl (P_some rfl (O_cons (O_read rfl (R_assign rfl ?_)))))))))))))
      refine P_some rfl (O_nil ?_)
      have e_ := Option.some.inj hb1405
      subst e_
      exact ⟨_, rfl, A4, c4, ch3, SubFr.of ⟨rfl, rfl, rfl, trivial⟩, SegSub.sel _ [some 0] 1, (hO3), rfl⟩
    replace hb1405 := cond_f hc2 hb1405
    refine WP.exit (B_here ?_)
    have e_ := Option.some.inj hb1405
    subst e_
    have hq_ := hq1405 _ rfl
    subst hq_
    exact ⟨out1, A2, c2, ch1, rfl, SubFr.of ⟨rfl, trivial⟩, SegSub.sel _ [some 0] 1, (hO1), rfl⟩
  rintro fr1376 μ1376 L1376 hm1376 ⟨out3, A5, c5, ch4, ho1376, hF1376, hS1376, hO4, hu1376⟩
  subst ho1376
  subst hu1376
  refine hK1374 _ _ _ (WP.at hF1376 hS1376 (WP.seq_k (fun K1417 hK1417 => WP.region Tt_ok (O_cons (O_read rfl (R_move rfl (P_some rfl (O_cons (O_read rfl (R_assign rfl (P_some rfl (O_cons (O_read rfl ?_)))))))))))))
  refine R_assign rfl (P_some rfl (O_nil (hK1417 _ _ _ (WP.ret ?_))))
  have e_ := Option.some.inj h
  obtain ⟨e0a_, e0b_⟩ := Prod.mk.inj e_
  clear e_
  subst e0a_
  subst e0b_
  refine S_tmp rfl (S_tmp rfl (S_nil (Upd.selS [some 0] 1 ?_)))
  exact Upd.done (hR A5 c5 ch4 (hO4))

theorem recyclingref27_Chain_fn {μ : Gh} {L : List Seg} {R : Value → Gh → List Seg → Prop} {F : Nat} {l1 : (List T_api_Ticket)} {id1 : Int} {A1 : Option Addr} {c1 : Nat} {res1 : (List Int)} {res2 : Int}
    (hl1 : l1.length ≤ c1 ∧ c1 ≤ maxLen) (hA1 : Rds r_api_Ticket μ L A1 l1) (h : recyclingref27_Chain F l1 id1 = some (res1, res2))
    (hR : ∀ (A0 : Option Addr) (c0 : Nat) (ch0 : Seg), Own rInt 3 μ (.slice A0 res1.length c0) res1 ch0 → R (.tuple #[.slice A0 res1.length c0, .int .i64 res2]) μ (ch0 :: L)) :
    Fn Try.prog 20 [.slice A1 l1.length c1, .int .i64 id1] μ (L) R := by
  unfold recyclingref27_Chain at h
  refine Fn.of_body Tt_ok Try.func20 (by kernel_rfl) rfl Try.ntmps20 (by simp) ?_
  simp only [Try.f20, argFr, List.zipIdx, List.map, Nat.reduceAdd]
  refine WP.seq_k (fun K1423 hK1423 => WP.region Tt_ok (O_cons (O_read rfl (R_assign rfl (P_some rfl (O_cons (O_read rfl (R_assign rfl (P_some rfl (O_nil (hK1423 _ _ _ (WP.seq_k (fun K1426 hK1426 => WP.seq_k (fun K1427 hK1427 => ?_))))))))))))))
  refine WP.region Tt_ok (O_cons (O_read rfl (R_move rfl (P_some rfl (O_cons (O_call (all := [.slice A1 l1.length c1]) rfl rfl rfl ?_))))))
  obtain ⟨r1, hx1, h⟩ := obind h
  refine recyclingref27_List_fn hl1 hA1 hx1 ((P_some rfl (O_cons (O_read rfl (R_assign rfl (P_some rfl (O_nil (hK1427 _ _ _ (WP.seq_k (fun K1428 hK1428 => WP.region Tt_ok (O_cons (O_read rfl (R_move rfl (P_some rfl ?_))))))))))))))
  refine O_cons (O_read rfl (R_neqD rfl rfl (P_some rfl (O_nil (hK1428 _ _ _ ?_)))))
  refine W_cond_v (b := !(decide (r1 = 0))) rfl (fun hc1 => ?_) (fun hc1 => ?_)
  · replace h := cond_t hc1 h
    refine WP.seq_k (fun K1429 hK1429 => WP.region Tt_ok (O_cons (O_read rfl (R_move rfl (P_some rfl (O_cons (O_read rfl (R_assign rfl (P_some rfl (O_cons (O_read rfl (R_assign rfl (P_some rfl ?_)))))))))))))
    refine O_nil (hK1429 _ _ _ (WP.ret ?_))
    have e_ := Option.some.inj h
    obtain ⟨e0a_, e0b_⟩ := Prod.mk.inj e_
    clear e_
    subst e0a_
    subst e0b_
    refine S_tmp rfl (S_tmp rfl (S_nil (Upd.selS [none] 0 ?_)))
    exact Upd.done (hR none 0 [] (Own.nil))
  replace h := cond_f hc1 h
  refine WP.skip (hK1426 _ _ _ (WP.seq_k (fun K1432 hK1432 => WP.region Tt_ok (O_cons (O_read rfl (R_move rfl (P_some rfl (O_cons (O_read rfl (R_move rfl (P_some rfl (O_cons (O_read rfl ?_)))))))))))))
  refine R_lenS rfl rfl rfl (P_some rfl (O_cons (O_read rfl (R_move rfl (P_some rfl (O_cons (O_call (all := [.slice A1 l1.length c1, .int .i64 ((l1.length : Nat) : Int), .int .i64 id1]) rfl rfl rfl ?_)))))))
  obtain ⟨r2, hx2, h⟩ := obind h
  refine recyclingref27_place_fn hl1 hA1 hx2 ((P_some rfl (O_cons (O_read rfl (R_assign rfl (P_some rfl (O_nil (hK1432 _ _ _ (WP.seq_k (fun K1433 hK1433 => WP.seq_k (fun K1434 hK1434 => WP.region Tt_ok (O_cons (O_read rfl (R_move rfl ?_))))))))))))))
  refine P_some rfl (O_cons (O_read rfl (R_lssD rfl rfl (P_some rfl (O_nil (hK1434 _ _ _ ?_))))))
  refine W_cond_v (b := (decide (r2 < 0))) rfl (fun hc2 => ?_) (fun hc2 => ?_)
  · replace h := cond_t hc2 h
    refine WP.seq_k (fun K1435 hK1435 => WP.region Tt_ok (O_cons (O_read rfl (R_assign rfl (P_some rfl (O_cons (O_read rfl (R_assign rfl (P_some rfl (O_nil (hK1435 _ _ _ (WP.ret ?_))))))))))))
    have e_ := Option.some.inj h
    obtain ⟨e0a_, e0b_⟩ := Prod.mk.inj e_
    clear e_
    subst e0a_
    subst e0b_
    refine S_tmp rfl (S_tmp rfl (S_nil (Upd.selS [none] 0 ?_)))
    exact Upd.done (hR none 0 [] (Own.nil))
  replace h := cond_f hc2 h
  refine WP.skip (hK1433 _ _ _ (WP.seq_k (fun K1438 hK1438 => WP.region Tt_ok (O_cons (O_read rfl (R_move rfl (P_some rfl (O_cons (O_bsl (z := [.int .i64 0]) rfl rfl rfl rfl rfl rfl rfl (F_cons (cells' := [.int .i64 r2]) rfl rfl rfl rfl (F_nil (fun g1 => P_some rfl (O_cons ?_)))))))))))))
  refine O_read rfl (R_assign rfl (P_some rfl (O_nil (hK1438 _ _ _ (WP.seq_k (fun K1440 hK1440 => ?_))))))
  obtain ⟨o1441, h1441, h⟩ := obind h
  refine WP.cutK (fun fr_ μ_ L_ => ∃ (out2 : (List Int)) (A4 : Option Addr) (c4 : Nat) (ch3 : Seg), out2 = o1441 ∧ SubFr [(8, .slice A4 out2.length c4)] fr_ ∧ SegSub (ch3 :: L) L_ ∧ Own rInt 3 μ_ (.slice A4 out2.length c4) out2 ch3 ∧ μ = μ_) ?_ ?_
  · refine WP.block (WP.iter h1441 (fun (out1 : (List Int)) fr_ μ_ L_ => ∃ (A2 : Option Addr) (c2 : Nat) (ch1 : Seg), SubFr [(0, .slice A1 l1.length c1), (8, .slice A2 out1.length c2)] fr_ ∧ SegSub (ch1 :: L) L_ ∧ Own rInt 3 μ_ (.slice A2 out1.length c2) out1 ch1 ∧ μ = μ_) ⟨(some ⟨g1, 0, none⟩), 1, [(g1, .cells #[.int .i64 r2] 3 (0, 0))], SubFr.of ⟨rfl, rfl, trivial⟩, SegSub.sel _ [some 0] 1, ((Own.lit (r := rInt) (e := 3) (g := g1) (xs := [r2]) (cs := [.int .i64 r2]) (css := [[.int .i64 r2]]) rfl (All2.cons (rfl) (All2.nil)) rfl rfl)), rfl⟩ ?_)
    rintro out1 q1453 fr1453 μ1453 L1453 hm1453 ⟨A2, c2, ch1, hF1453, hS1453, hO1, hu1453⟩ hb1453 hq1453
    unfold recyclingref27_Chain_l1 at hb1453
    subst hu1453
    refine WP.at hF1453 hS1453 (WP.seq_k (fun K1455 hK1455 => WP.seq_k (fun K1456 hK1456 => WP.region Tt_ok (O_cons (O_read rfl (R_move rfl (P_some rfl (O_cons (O_read rfl (R_move rfl (P_some rfl (O_cons ?_))))))))))))
    obtain ⟨x1, hx3, hb1453⟩ := obind hb1453
    obtain ⟨a1, cs1, hA2, hr1, _, hc3⟩ := Rds.getI (Own.rds (L := (ch1 :: L)) hO1 0 rfl) hx3
    obtain rfl := hr1
    refine O_read rfl (R_iaG rfl rfl rfl rfl rfl rfl ⟨(getI_lt hx3).1, (getI_lt hx3).2.1⟩ hA2 (P_some rfl (O_cons (O_read rfl (R_load rfl rfl rfl (Ex.mk _ (Cell.of_cells0 hc3 rfl) (P_some rfl (O_cons ?_))))))))
    obtain ⟨x2, hx4, hb1453⟩ := obind hb1453
    obtain ⟨a2, cs2, hA3, hr2, _, hc4⟩ := Rds.getI hA1 hx4
    obtain rfl := hr2
    refine O_read rfl (R_iaG rfl rfl rfl rfl rfl rfl ⟨(getI_lt hx4).1, (getI_lt hx4).2.1⟩ hA3 (P_some rfl (O_cons (O_read rfl (R_fa rfl rfl rfl rfl rfl (P_some rfl (O_cons (O_read rfl (R_load rfl rfl rfl (Ex.mk _ (Cell.of_cells (hc4.push) 5 rfl) (P_some rfl (O_cons (O_read rfl ?_)))))))))))))
    refine R_neqD rfl rfl (P_some rfl (O_nil (hK1456 _ _ _ ?_)))
    refine W_cond_v (b := !(decide (x2.Replaces = 0))) rfl (fun hc5 => ?_) (fun hc5 => ?_)
    · replace hb1453 := cond_t hc5 hb1453
      refine WP.skip (hK1455 _ _ _ (WP.block (WP.drawn (id := 9) (l' := List.replicate 16 true) wide Tt_ok _ Kept.refl [(true, 0), (true, 1), (true, 2), (true, 3), (true, 4), (true, 5), (true, 6), (true, 7), (true, 8), (true, 9), (true, 10), (true, 13), (false, 11), (false, 12), (false, 14), (true, 15)] (by kernel_rfl) (by kernel_rfl) rfl (PL_t rfl (R_move rfl (P_some rfl (PL_t rfl (R_move rfl (P_some rfl (PL_t rfl ?_))))))))))
      obtain ⟨x3, hx5, hb1453⟩ := obind hb1453
      obtain ⟨a3, cs3, hA4, hr3, _, hc6⟩ := Rds.getI (Own.rds (L := (ch1 :: L)) hO1 0 rfl) hx5
      obtain rfl := hr3
      refine R_iaG rfl rfl rfl rfl rfl rfl ⟨(getI_lt hx5).1, (getI_lt hx5).2.1⟩ hA4 (P_some rfl (PL_t rfl (R_load rfl rfl rfl (Ex.mk _ (Cell.of_cells0 hc6 rfl) (P_some rfl (PL_t rfl (R_move rfl (P_some rfl (PL_t rfl (R_move rfl (P_some rfl (PL_t rfl ?_))))))))))))
      obtain ⟨x4, hx6, hb1453⟩ := obind hb1453
      obtain ⟨a4, cs4, hA5, hr4, _, hc7⟩ := Rds.getI (Own.rds (L := (ch1 :: L)) hO1 0 rfl) hx6
      obtain rfl := hr4
      refine R_iaG rfl rfl rfl rfl rfl rfl ⟨(getI_lt hx6).1, (getI_lt hx6).2.1⟩ hA5 (P_some rfl (PL_t rfl (R_load rfl rfl rfl (Ex.mk _ (Cell.of_cells0 hc7 rfl) (P_some rfl (PL_t rfl ?_))))))
      obtain ⟨x5, hx7, hb1453⟩ := obind hb1453
      obtain ⟨a5, cs5, hA6, hr5, _, hc8⟩ := Rds.getI hA1 hx7
      obtain rfl := hr5
      refine R_iaG rfl rfl rfl rfl rfl rfl ⟨(getI_lt hx7).1, (getI_lt hx7).2.1⟩ hA6 (P_some rfl (PL_t rfl (R_fa rfl rfl rfl rfl rfl (P_some rfl (PL_t rfl (R_load rfl rfl rfl (Ex.mk _ (Cell.of_cells (hc8.push) 5 rfl) (P_some rfl (PL_t rfl (R_move rfl (P_some rfl (PL_f rfl (O_call (all := [.slice A1 l1.length c1, .int .i64 x3, .int .i64 x5.Replaces]) rfl rfl rfl ?_)))))))))))))
      obtain ⟨r3, hx8, hb1453⟩ := obind hb1453
      refine recyclingref27_place_fn hl1 (Rds.push hA1) hx8 (?_)
      refine ⟨Kept.refl, ?_⟩
      refine P_some rfl (PL_f rfl (O_bsl (z := [.int .i64 0]) rfl rfl rfl rfl rfl rfl rfl (F_cons (cells' := [.int .i64 r3]) rfl rfl rfl rfl (F_nil (fun g2 => ?_)))))
      refine ⟨Kept.more (Kept.refl), ?_⟩
      refine P_some rfl (PL_f rfl (O_append rfl ?_))
      obtain ⟨l2, hz1, hb1453⟩ := obind hb1453
      refine sem_appR (r := rInt) Tt_ok rfl rfl rfl rfl (by decide) rfl rfl 0 rfl (Own.lit (r := rInt) (e := 3) (g := g2) (xs := [r3]) (cs := [.int .i64 r3]) (css := [[.int .i64 r3]]) rfl (All2.cons (rfl) (All2.nil)) rfl rfl) rfl (Own.rds (L := ([(g2, .cells #[.int .i64 r3] 3 (0, 0))] :: ch1 :: L)) hO1 1 rfl) hz1 fun A3 c3 ch2 hO2 => ?_
      refine ⟨Kept.more (Kept.refl), ?_⟩
      refine P_some rfl (PL_t rfl (R_assign rfl (P_some rfl (PL_nil (AN.done0 (by kernel_rfl) ?_)))))
      have e_ := Option.some.inj hb1453
      subst e_
      exact ⟨_, rfl, A3, c3, ch2, SubFr.of ⟨rfl, rfl, trivial⟩, SegSub.sel _ [some 0] 2, (hO2), rfl⟩
    replace hb1453 := cond_f hc5 hb1453
    refine WP.exit (B_here ?_)
    have e_ := Option.some.inj hb1453
    subst e_
    have hq_ := hq1453 _ rfl
    subst hq_
    exact ⟨out1, A2, c2, ch1, rfl, SubFr.of ⟨rfl, trivial⟩, SegSub.sel _ [some 0] 1, (hO1), rfl⟩
  rintro fr1441 μ1441 L1441 hm1441 ⟨out2, A4, c4, ch3, ho1441, hF1441, hS1441, hO3, hu1441⟩
  subst ho1441
  subst hu1441
  refine hK1440 _ _ _ (WP.at hF1441 hS1441 (WP.seq_k (fun K1466 hK1466 => WP.region Tt_ok (O_cons (O_read rfl (R_move rfl (P_some rfl (O_cons (O_read rfl (R_assign rfl (P_some rfl (O_cons (O_read rfl ?_)))))))))))))
  refine R_assign rfl (P_some rfl (O_nil (hK1466 _ _ _ (WP.ret ?_))))
  have e_ := Option.some.inj h
  obtain ⟨e0a_, e0b_⟩ := Prod.mk.inj e_
  clear e_
  subst e0a_
  subst e0b_
  refine S_tmp rfl (S_tmp rfl (S_nil (Upd.selS [some 0] 1 ?_)))
  exact Upd.done (hR A4 c4 ch3 (hO3))

theorem recyclinglaw27_TicketActives_fn {μ : Gh} {L : List Seg} {R : Value → Gh → List Seg → Prop} {F : Nat} {l1 : (List T_api_Ticket)} {id1 : Int} {A1 : Option Addr} {c1 : Nat} {res1 : Bool}
    (hl1 : l1.length ≤ c1 ∧ c1 ≤ maxLen) (hA1 : Rds r_api_Ticket μ L A1 l1) (h : recyclinglaw27_TicketActives F l1 id1 = some res1)
    (hR : R (.bool res1) μ (L)) :
    Fn Try.prog 5 [.slice A1 l1.length c1, .int .i64 id1] μ (L) R := by
  unfold recyclinglaw27_TicketActives at h
  refine Fn.of_body Tt_ok Try.func5 (by kernel_rfl) rfl Try.ntmps5 (by simp) ?_
  simp only [Try.f5, argFr, List.zipIdx, List.map, Nat.reduceAdd]
  refine WP.seq_k (fun K1354 hK1354 => WP.region Tt_ok (O_cons (O_read rfl (R_assign rfl (P_some rfl (O_nil (hK1354 _ _ _ (WP.seq_k (fun K1355 hK1355 => WP.seq_k (fun K1356 hK1356 => WP.region Tt_ok (O_cons (O_read rfl (R_move rfl ?_)))))))))))))
  refine P_some rfl (O_cons (O_read rfl (R_lenS rfl rfl rfl (P_some rfl (O_cons (O_read rfl (R_gtrD rfl rfl (P_some rfl (O_nil (hK1356 _ _ _ ?_))))))))))
  refine W_cond_v (b := (decide (60 < ((l1.length : Nat) : Int)))) rfl (fun hc1 => ?_) (fun hc1 => ?_)
  · replace h := cond_t hc1 h
    refine WP.seq_k (fun K1357 hK1357 => WP.region Tt_ok (O_cons (O_call (all := []) rfl rfl rfl ?_)))
    obtain ⟨r1, hx1, h⟩ := obind h
    refine recyclinglaw27_awake_fn  hx1 ((P_some rfl (O_cons (O_read rfl (R_assign rfl (P_some rfl (O_nil (hK1357 _ _ _ (WP.ret ?_)))))))))
    have e_ := Option.some.inj h
    subst e_
    refine S_tmp rfl (S_nil (Upd.selS [] 0 ?_))
    exact Upd.done hR
  replace h := cond_f hc1 h
  refine WP.skip (hK1355 _ _ _ (WP.seq_k (fun K1358 hK1358 => WP.region Tt_ok (O_cons (O_read rfl (R_move rfl (P_some rfl (O_cons (O_call (all := [.slice A1 l1.length c1]) rfl rfl rfl ?_)))))))))
  obtain ⟨⟨r2, r3⟩, hx2, h⟩ := obind h
  replace h := oun_mk h
  refine ticket_Active_fn hl1 hA1 hx2 (fun A2 c2 ch1 hO1 => P_some rfl (O_cons (O_read rfl (R_move rfl (P_some rfl (O_cons (O_read rfl (R_ext rfl rfl (P_some rfl (O_cons (O_read rfl (R_ext rfl rfl (P_some rfl ?_)))))))))))))
  refine O_cons (O_read rfl (R_assign rfl (P_some rfl (O_cons (O_read rfl (R_assign rfl (P_some rfl (O_nil (hK1358 _ _ _ (WP.seq_k (fun K1360 hK1360 => WP.region Tt_ok (O_cons (O_read rfl ?_)))))))))))))
  refine R_move rfl (P_some rfl (O_cons (O_call (all := [.slice A1 l1.length c1]) rfl rfl rfl ?_)))
  obtain ⟨⟨r4, r5⟩, hx3, h⟩ := obind h
  replace h := oun_mk h
  refine recyclingref27_Active_fn hl1 (Rds.push hA1) hx3 (fun A3 c3 ch2 hO2 => P_some rfl (O_cons (O_read rfl (R_move rfl (P_some rfl (O_cons (O_read rfl (R_ext rfl rfl (P_some rfl (O_cons (O_read rfl (R_ext rfl rfl (P_some rfl ?_)))))))))))))
  refine O_cons (O_read rfl (R_assign rfl (P_some rfl (O_cons (O_read rfl (R_assign rfl (P_some rfl (O_nil (hK1360 _ _ _ (WP.seq_k (fun K1419 hK1419 => WP.region Tt_ok (O_cons (O_read rfl ?_)))))))))))))
  refine R_move rfl (P_some rfl (O_cons (O_read rfl (R_move rfl (P_some rfl (O_cons (O_call (all := [.slice A1 l1.length c1, .int .i64 id1]) rfl rfl rfl ?_)))))))
  obtain ⟨⟨r6, r7⟩, hx4, h⟩ := obind h
  replace h := oun_mk h
  refine ticket_Chain_fn hl1 (Rds.push (Rds.push hA1)) hx4 (fun A4 c4 ch3 hO3 => P_some rfl (O_cons (O_read rfl (R_move rfl (P_some rfl (O_cons (O_read rfl (R_ext rfl rfl (P_some rfl (O_cons (O_read rfl (R_ext rfl rfl (P_some rfl ?_)))))))))))))
  refine O_cons (O_read rfl (R_assign rfl (P_some rfl (O_cons (O_read rfl (R_assign rfl (P_some rfl (O_nil (hK1419 _ _ _ (WP.seq_k (fun K1421 hK1421 => WP.region Tt_ok (O_cons (O_read rfl ?_)))))))))))))
  refine R_move rfl (P_some rfl (O_cons (O_read rfl (R_move rfl (P_some rfl (O_cons (O_call (all := [.slice A1 l1.length c1, .int .i64 id1]) rfl rfl rfl ?_)))))))
  obtain ⟨⟨r8, r9⟩, hx5, h⟩ := obind h
  replace h := oun_mk h
  refine recyclingref27_Chain_fn hl1 (Rds.push (Rds.push (Rds.push hA1))) hx5 (fun A5 c5 ch4 hO4 => P_some rfl (O_cons (O_read rfl (R_move rfl (P_some rfl (O_cons (O_read rfl (R_ext rfl rfl (P_some rfl (O_cons (O_read rfl (R_ext rfl rfl (P_some rfl ?_)))))))))))))
  refine O_cons (O_read rfl (R_assign rfl (P_some rfl (O_cons (O_read rfl (R_assign rfl (P_some rfl (O_nil (hK1421 _ _ _ (WP.seq_k (fun K1468 hK1468 => ?_)))))))))))
  obtain ⟨o1469, h1469, h⟩ := obind h
  refine WP.cutK (fun fr_ μ_ L_ => ∃ (v1 : Bool), v1 = o1469 ∧ SubFr [(4, .bool v1)] fr_ ∧ SegSub (L) L_ ∧ μ = μ_) ?_ ?_
  · refine WP.region Tt_ok (O_cons (O_read rfl (R_move rfl (P_some rfl (O_cons (O_read rfl (R_move rfl (P_some rfl (O_cons (O_call (all := [.slice A2 r2.length c2, .slice A3 r4.length c3]) rfl rfl rfl ?_))))))))))
    obtain ⟨r10, hx6, h1469⟩ := obind h1469
    refine recyclingref27_Same_fn (Own.lenOk hO1) (Own.rds (L := (ch4 :: ch3 :: ch2 :: ch1 :: L)) hO1 3 rfl) (Own.lenOk hO2) (Own.rds (L := (ch4 :: ch3 :: ch2 :: ch1 :: L)) hO2 2 rfl) hx6 ((P_some rfl (O_cons (O_read rfl (R_move rfl (P_some rfl ?_))))))
    refine O_gv (z := r10) rfl rfl (fun hc2 => ?_) (fun hc2 => ?_)
    · replace h1469 := cond_t hc2 h1469
      refine O_read rfl (R_move rfl (P_some rfl (O_gY rfl rfl hc2 (O_read rfl (R_move rfl (P_some rfl (O_gY rfl rfl hc2 (O_read rfl (R_eqlD rfl rfl (P_some rfl (O_cons (O_read rfl (R_pick_T rfl hc2 rfl ?_)))))))))))))
      refine P_some rfl (O_cons (O_read rfl (R_move rfl (P_some rfl ?_))))
      refine O_gv (z := (decide (r3 = r5))) rfl rfl (fun hc3 => ?_) (fun hc3 => ?_)
      · replace h1469 := cond_t hc3 h1469
        refine O_read rfl (R_move rfl (P_some rfl (O_gY rfl rfl hc3 (O_read rfl (R_move rfl (P_some rfl (O_gY rfl rfl hc3 (O_call (all := [.slice A4 r6.length c4, .slice A5 r8.length c5]) rfl rfl rfl ?_))))))))
        obtain ⟨r11, hx7, h1469⟩ := obind h1469
        refine recyclingref27_Same_fn (Own.lenOk hO3) (Own.rds (L := (ch4 :: ch3 :: ch2 :: ch1 :: L)) hO3 1 rfl) (Own.lenOk hO4) (Own.rds (L := (ch4 :: ch3 :: ch2 :: ch1 :: L)) hO4 0 rfl) hx7 ((P_some rfl (O_cons (O_read rfl (R_pick_T rfl hc3 rfl (P_some rfl (O_cons (O_read rfl (R_move rfl (P_some rfl ?_))))))))))
        refine O_gv (z := r11) rfl rfl (fun hc4 => ?_) (fun hc4 => ?_)
        · replace h1469 := cond_t hc4 h1469
          refine O_read rfl (R_move rfl (P_some rfl (O_gY rfl rfl hc4 (O_read rfl (R_move rfl (P_some rfl (O_gY rfl rfl hc4 (O_read rfl (R_eqlD rfl rfl (P_some rfl (O_cons (O_read rfl (R_pick_T rfl hc4 rfl ?_)))))))))))))
          refine P_some rfl (O_cons (O_read rfl (R_move rfl (P_some rfl ?_))))
          refine O_gv (z := (decide (r7 = r9))) rfl rfl (fun hc5 => ?_) (fun hc5 => ?_)
          · replace h1469 := cond_t hc5 h1469
            apply O_call (all := []); exact rfl; exact rfl; exact rfl
            obtain ⟨r12, hx8, h1469⟩ := obind h1469
            refine recyclinglaw27_awake_fn  hx8 ((P_some rfl (O_cons (O_read rfl (R_pick_T rfl hc5 rfl (P_some rfl (O_cons (O_read rfl (R_assign rfl (P_some rfl (O_nil ?_)))))))))))
            have e_ := Option.some.inj h1469
            subst e_
            exact ⟨r12, rfl, SubFr.of ⟨rfl, trivial⟩, SegSub.sel _ [] 4, rfl⟩
          replace h1469 := cond_f hc5 h1469
          refine P_some rfl (O_cons (O_read rfl (R_pick_F rfl hc5 rfl (P_some rfl (O_cons (O_read rfl (R_assign rfl (P_some rfl (O_nil ?_)))))))))
          have e_ := Option.some.inj h1469
          subst e_
          exact ⟨false, rfl, SubFr.of ⟨rfl, trivial⟩, SegSub.sel _ [] 4, rfl⟩
        replace h1469 := cond_f hc4 h1469
        refine P_some rfl (O_gN rfl rfl hc4 (P_some rfl (O_gN rfl rfl hc4 (P_some rfl (O_cons (O_read rfl (R_pick_F rfl hc4 rfl (P_some rfl (O_cons (O_read rfl (R_move rfl (P_some rfl (O_gN rfl rfl rfl ?_)))))))))))))
        refine P_some rfl (O_cons (O_read rfl (R_pick_F rfl rfl rfl (P_some rfl (O_cons (O_read rfl (R_assign rfl (P_some rfl (O_nil ?_)))))))))
        have e_ := Option.some.inj h1469
        subst e_
        exact ⟨false, rfl, SubFr.of ⟨rfl, trivial⟩, SegSub.sel _ [] 4, rfl⟩
      replace h1469 := cond_f hc3 h1469
      refine P_some rfl (O_gN rfl rfl hc3 (P_some rfl (O_gN rfl rfl hc3 (P_some rfl (O_cons (O_read rfl (R_pick_F rfl hc3 rfl (P_some rfl (O_cons (O_read rfl (R_move rfl (P_some rfl (O_gN rfl rfl rfl ?_)))))))))))))
      refine P_some rfl (O_gN rfl rfl rfl (P_some rfl (O_gN rfl rfl rfl (P_some rfl (O_cons (O_read rfl (R_pick_F rfl rfl rfl (P_some rfl (O_cons (O_read rfl (R_move rfl (P_some rfl (O_gN rfl rfl rfl ?_)))))))))))))
      refine P_some rfl (O_cons (O_read rfl (R_pick_F rfl rfl rfl (P_some rfl (O_cons (O_read rfl (R_assign rfl (P_some rfl (O_nil ?_)))))))))
      have e_ := Option.some.inj h1469
      subst e_
      exact ⟨false, rfl, SubFr.of ⟨rfl, trivial⟩, SegSub.sel _ [] 4, rfl⟩
    replace h1469 := cond_f hc2 h1469
    refine P_some rfl (O_gN rfl rfl hc2 (P_some rfl (O_gN rfl rfl hc2 (P_some rfl (O_cons (O_read rfl (R_pick_F rfl hc2 rfl (P_some rfl (O_cons (O_read rfl (R_move rfl (P_some rfl (O_gN rfl rfl rfl ?_)))))))))))))
    refine P_some rfl (O_gN rfl rfl rfl (P_some rfl (O_gN rfl rfl rfl (P_some rfl (O_cons (O_read rfl (R_pick_F rfl rfl rfl (P_some rfl (O_cons (O_read rfl (R_move rfl (P_some rfl (O_gN rfl rfl rfl ?_)))))))))))))
    refine P_some rfl (O_gN rfl rfl rfl (P_some rfl (O_gN rfl rfl rfl (P_some rfl (O_cons (O_read rfl (R_pick_F rfl rfl rfl (P_some rfl (O_cons (O_read rfl (R_move rfl (P_some rfl (O_gN rfl rfl rfl ?_)))))))))))))
    refine P_some rfl (O_cons (O_read rfl (R_pick_F rfl rfl rfl (P_some rfl (O_cons (O_read rfl (R_assign rfl (P_some rfl (O_nil ?_)))))))))
    have e_ := Option.some.inj h1469
    subst e_
    exact ⟨false, rfl, SubFr.of ⟨rfl, trivial⟩, SegSub.sel _ [] 4, rfl⟩
  rintro fr1469 μ1469 L1469 hm1469 ⟨v1, ho1469, hF1469, hS1469, hu1469⟩
  subst ho1469
  subst hu1469
  refine hK1468 _ _ _ (WP.at hF1469 hS1469 (WP.ret ?_))
  have e_ := Option.some.inj h
  subst e_
  refine S_tmp rfl (S_nil (Upd.selS [] 0 ?_))
  exact Upd.done hR

theorem recyclingref27_Total_fn {μ : Gh} {L : List Seg} {R : Value → Gh → List Seg → Prop} {F : Nat} {s1 : (List T_api_Scale)} {l1 : (List T_api_Ticket)} {w1 : T_api_Window} {A1 : Option Addr} {c1 : Nat} {A2 : Option Addr} {c2 : Nat} {res1 : T_api_Span} {res2 : Int}
    (hl1 : s1.length ≤ c1 ∧ c1 ≤ maxLen) (hA1 : Rds r_api_Scale μ L A1 s1) (hl2 : l1.length ≤ c2 ∧ c2 ≤ maxLen) (hA2 : Rds r_api_Ticket μ L A2 l1) (h : recyclingref27_Total F s1 l1 w1 = some (res1, res2))
    (hR : R (.tuple #[.agg #[.int .i64 res1.Lo, .int .i64 res1.Hi], .int .i64 res2]) μ (L)) :
    Fn Try.prog 23 [.slice A1 s1.length c1, .slice A2 l1.length c2, .agg #[.int .i64 w1.From, .int .i64 w1.To]] μ (L) R := by
  unfold recyclingref27_Total at h
  refine Fn.of_body Tt_ok Try.func23 (by kernel_rfl) rfl Try.ntmps23 (by simp) ?_
  simp only [Try.f23, argFr, List.zipIdx, List.map, Nat.reduceAdd]
  refine WP.seq_k (fun K1483 hK1483 => WP.region Tt_ok (O_cons (O_box (cs := #[.int .i64 w1.From, .int .i64 w1.To]) rfl rfl (fun g1 => P_some rfl (O_cons (O_alloc (cs := #[.int .i64 0, .int .i64 0]) rfl rfl (fun g2 => P_some rfl (O_cons (O_read rfl (R_assign rfl (P_some rfl (O_nil (hK1483 _ _ _ ?_)))))))))))))
  refine WP.seq_k (fun K1486 hK1486 => WP.seq_k (fun K1487 hK1487 => WP.region Tt_ok (O_cons (O_read rfl (R_move rfl (P_some rfl (O_cons (O_read rfl (R_move rfl (P_some rfl (O_cons (O_call (all := [.slice A1 s1.length c1, .slice A2 l1.length c2]) rfl rfl rfl ?_))))))))))))
  obtain ⟨r1, hx1, h⟩ := obind h
  refine recyclingref27_Check_fn hl1 (Rds.push (Rds.push hA1)) hl2 (Rds.push (Rds.push hA2)) hx1 ((P_some rfl (O_cons (O_read rfl (R_assign rfl (P_some rfl (O_nil (hK1487 _ _ _ (WP.seq_k (fun K1488 hK1488 => WP.region Tt_ok (O_cons (O_read rfl (R_move rfl (P_some rfl ?_))))))))))))))
  refine O_cons (O_read rfl (R_neqD rfl rfl (P_some rfl (O_nil (hK1488 _ _ _ ?_)))))
  refine W_cond_v (b := !(decide (r1 = 0))) rfl (fun hc1 => ?_) (fun hc1 => ?_)
  · replace h := cond_t hc1 h
    refine WP.seq_k (fun K1489 hK1489 => WP.region Tt_ok (O_cons (O_read rfl (R_build rfl rfl rfl rfl (F_nil (P_some rfl (O_cons (O_read rfl (R_move rfl (P_some rfl (O_cons (O_store (vs := [.int .i64 0, .int .i64 0]) rfl rfl rfl rfl rfl rfl (ST_ (L' := ([(g2, .cells #[.int .i64 0, .int .i64 0] 31 (0, 0))] :: [(g1, .cells #[.int .i64 w1.From, .int .i64 w1.To] 42 (0, 0))] :: L)) 0 0 rfl rfl rfl rfl ?_)))))))))))))
    refine P_none (O_cons (O_read rfl (R_assign rfl (P_some rfl (O_nil (hK1489 _ _ _ (WP.ret ?_)))))))
    have e_ := Option.some.inj h
    obtain ⟨e0a_, e0b_⟩ := Prod.mk.inj e_
    clear e_
    subst e0a_
    subst e0b_
    refine S_cell rfl rfl rfl rfl (LA_ (vs := [.int .i64 0, .int .i64 0]) 0 0 rfl rfl rfl rfl (S_tmp rfl (S_nil (Upd.selS [] 2 ?_))))
    exact Upd.done hR
  replace h := cond_f hc1 h
  refine WP.skip (hK1486 _ _ _ (WP.seq_k (fun K1491 hK1491 => WP.seq_k (fun K1492 hK1492 => ?_))))
  obtain ⟨o1493, h1493, h⟩ := obind h
  refine WP.cutK (fun fr_ μ_ L_ => ∃ (v1 : Bool), v1 = o1493 ∧ SubFr [(0, .slice A1 s1.length c1), (1, .slice A2 l1.length c2), (5, .pointer (some ⟨g1, 0, none⟩)), (6, .pointer (some ⟨g2, 0, none⟩)), (34, .bool v1)] fr_ ∧ SegSub ([(g1, .cells #[.int .i64 w1.From, .int .i64 w1.To] 42 (0, 0))] :: [(g2, .cells #[.int .i64 0, .int .i64 0] 31 (0, 0))] :: L) L_ ∧ μ = μ_) ?_ ?_
  · refine WP.region Tt_ok (O_cons (O_read rfl (R_fa0 (o' := 0) rfl rfl rfl rfl rfl rfl (P_some rfl (O_cons (O_read rfl (R_load rfl rfl rfl (Ex.mk _ (Cell.seg 1 0 rfl rfl rfl) (P_some rfl (O_cons (O_read rfl (R_lssD rfl rfl (P_some rfl ?_)))))))))))))
    refine O_cons (O_read rfl (R_move rfl (P_some rfl ?_)))
    refine O_gv (z := (decide (w1.From < 0))) rfl rfl (fun hc2 => ?_) (fun hc2 => ?_)
    · replace h1493 := cond_f hc2 h1493
      refine O_read rfl (R_fa0 (o' := 0) rfl rfl rfl rfl rfl rfl (P_some rfl (O_gY rfl rfl hc2 (O_read rfl (R_load rfl rfl rfl (Ex.mk _ (Cell.seg 1 0 rfl rfl rfl) (P_some rfl (O_gY rfl rfl hc2 (O_read rfl (R_fa0 (o' := 1) rfl rfl rfl rfl rfl rfl (P_some rfl (O_gY rfl rfl hc2 (O_read rfl ?_)))))))))))))
      refine R_load rfl rfl rfl (Ex.mk _ (Cell.seg 1 0 rfl rfl rfl) (P_some rfl (O_gY rfl rfl hc2 (O_read rfl (R_gtrD rfl rfl (P_some rfl (O_cons (O_read rfl (R_pick_F rfl hc2 rfl (P_some rfl (O_cons (O_read rfl (R_move rfl ?_)))))))))))))
      apply P_some; exact rfl
      refine O_gv (z := (decide (w1.To < w1.From))) rfl rfl (fun hc3 => ?_) (fun hc3 => ?_)
      · replace h1493 := cond_f hc3 h1493
        refine O_read rfl (R_fa0 (o' := 1) rfl rfl rfl rfl rfl rfl (P_some rfl (O_gY rfl rfl hc3 (O_read rfl (R_load rfl rfl rfl (Ex.mk _ (Cell.seg 1 0 rfl rfl rfl) (P_some rfl (O_gY rfl rfl hc3 (O_read rfl (R_gtrD rfl rfl (P_some rfl (O_cons (O_read rfl ?_)))))))))))))
        refine R_pick_F rfl hc3 rfl (P_some rfl (O_nil ?_))
        have e_ := Option.some.inj h1493
        subst e_
        exact ⟨(decide (3155760000 < w1.To)), rfl, SubFr.of ⟨rfl, rfl, rfl, rfl, rfl, trivial⟩, SegSub.sel _ [some 1, some 0] 2, rfl⟩
      replace h1493 := cond_t hc3 h1493
      refine P_some rfl (O_gN rfl rfl hc3 (P_some rfl (O_gN rfl rfl hc3 (P_some rfl (O_cons (O_read rfl (R_pick_T rfl hc3 rfl (P_some rfl (O_nil ?_)))))))))
      have e_ := Option.some.inj h1493
      subst e_
      exact ⟨true, rfl, SubFr.of ⟨rfl, rfl, rfl, rfl, rfl, trivial⟩, SegSub.sel _ [some 1, some 0] 2, rfl⟩
    replace h1493 := cond_t hc2 h1493
    refine P_some rfl (O_gN rfl rfl hc2 (P_some rfl (O_gN rfl rfl hc2 (P_some rfl (O_gN rfl rfl hc2 (P_some rfl (O_gN rfl rfl hc2 (P_some rfl (O_cons (O_read rfl (R_pick_T rfl hc2 rfl (P_some rfl (O_cons ?_)))))))))))))
    refine O_read rfl (R_move rfl (P_some rfl (O_gN rfl rfl rfl (P_some rfl (O_gN rfl rfl rfl (P_some rfl (O_gN rfl rfl rfl (P_some rfl (O_cons (O_read rfl (R_pick_T rfl rfl rfl (P_some rfl (O_nil ?_)))))))))))))
    have e_ := Option.some.inj h1493
    subst e_
    exact ⟨true, rfl, SubFr.of ⟨rfl, rfl, rfl, rfl, rfl, trivial⟩, SegSub.sel _ [some 1, some 0] 2, rfl⟩
  rintro fr1493 μ1493 L1493 hm1493 ⟨v1, ho1493, hF1493, hS1493, hu1493⟩
  subst ho1493
  subst hu1493
  refine hK1492 _ _ _ (WP.at hF1493 hS1493 ?_)
  refine W_cond_v (b := v1) rfl (fun hc4 => ?_) (fun hc4 => ?_)
  · replace h := cond_t hc4 h
    refine WP.seq_k (fun K1498 hK1498 => WP.region Tt_ok (O_cons (O_read rfl (R_build rfl rfl rfl rfl (F_nil (P_some rfl (O_cons (O_store (vs := [.int .i64 0, .int .i64 0]) rfl rfl rfl rfl rfl rfl (ST_ (L' := ([(g1, .cells #[.int .i64 w1.From, .int .i64 w1.To] 42 (0, 0))] :: [(g2, .cells #[.int .i64 0, .int .i64 0] 31 (0, 0))] :: L)) 1 0 rfl rfl rfl rfl (P_none (O_cons (O_read rfl (R_assign rfl ?_)))))))))))))
    refine P_some rfl (O_nil (hK1498 _ _ _ (WP.ret ?_)))
    have e_ := Option.some.inj h
    obtain ⟨e0a_, e0b_⟩ := Prod.mk.inj e_
    clear e_
    subst e0a_
    subst e0b_
    refine S_cell rfl rfl rfl rfl (LA_ (vs := [.int .i64 0, .int .i64 0]) 1 0 rfl rfl rfl rfl (S_tmp rfl (S_nil (Upd.selS [] 2 ?_))))
    exact Upd.done hR
  replace h := cond_f hc4 h
  refine WP.skip (hK1491 _ _ _ (WP.seq_k (fun K1500 hK1500 => WP.region Tt_ok (O_cons (O_read rfl (R_build rfl rfl rfl rfl (F_nil (P_some rfl (O_cons (O_alloc (cs := #[.int .i64 0, .int .i64 0]) rfl rfl (fun g3 => P_some rfl (O_cons (O_store (vs := [.int .i64 0, .int .i64 0]) rfl rfl rfl rfl rfl rfl ?_)))))))))))))
  refine ST_ (L' := ([(g3, .cells #[.int .i64 0, .int .i64 0] 31 (0, 0))] :: [(g1, .cells #[.int .i64 w1.From, .int .i64 w1.To] 42 (0, 0))] :: [(g2, .cells #[.int .i64 0, .int .i64 0] 31 (0, 0))] :: L)) 0 0 rfl rfl rfl rfl (P_none (O_nil (hK1500 _ _ _ (WP.seq_k (fun K1503 hK1503 => WP.seq_k (fun K1504 hK1504 => WP.region Tt_ok (O_cons (O_read rfl (R_assign rfl (P_some rfl (O_nil (hK1504 _ _ _ ?_))))))))))))
  obtain ⟨o1505, h1505, h⟩ := obind h
  refine WP.cutK (fun fr_ μ_ L_ => ∃ (f5 : Int) (f6 : Int), (f5, f6) = o1505 ∧ SubFr [(6, .pointer (some ⟨g2, 0, none⟩)), (9, .pointer (some ⟨g3, 0, none⟩))] fr_ ∧ SegSub ([(g2, .cells #[.int .i64 0, .int .i64 0] 31 (0, 0))] :: [(g3, .cells #[.int .i64 f5, .int .i64 f6] 31 (0, 0))] :: L) L_ ∧ μ = μ_) ?_ ?_
  · refine WP.block (WP.iter h1505 (fun (j_ : Int × Int × Int) fr_ μ_ L_ => ounP j_ fun f1 j_ => ounP j_ fun f2 i1 => SubFr [(0, .slice A1 s1.length c1), (1, .slice A2 l1.length c2), (5, .pointer (some ⟨g1, 0, none⟩)), (6, .pointer (some ⟨g2, 0, none⟩)), (9, .pointer (some ⟨g3, 0, none⟩)), (10, .int .i64 i1)] fr_ ∧ SegSub ([(g1, .cells #[.int .i64 w1.From, .int .i64 w1.To] 42 (0, 0))] :: [(g2, .cells #[.int .i64 0, .int .i64 0] 31 (0, 0))] :: [(g3, .cells #[.int .i64 f1, .int .i64 f2] 31 (0, 0))] :: L) L_ ∧ μ = μ_) ⟨SubFr.of ⟨rfl, rfl, rfl, rfl, rfl, rfl, trivial⟩, SegSub.sel _ [some 1, some 2, some 0] 3, rfl⟩ ?_)
    rintro ⟨f1, f2, i1⟩ q1541 fr1541 μ1541 L1541 hm1541 ⟨hF1541, hS1541, hu1541⟩ hb1541 hq1541
    unfold recyclingref27_Total_l1 at hb1541
    replace hb1541 := oun_mk hb1541
    replace hb1541 := oun_mk hb1541
    subst hu1541
    refine WP.at hF1541 hS1541 (WP.seq_k (fun K1551 hK1551 => WP.seq_k (fun K1552 hK1552 => WP.region Tt_ok (O_cons (O_read rfl (R_move rfl (P_some rfl (O_cons (O_read rfl (R_move rfl (P_some rfl (O_cons (O_read rfl ?_)))))))))))))
    refine R_lenS rfl rfl rfl (P_some rfl (O_cons (O_read rfl (R_lssD rfl rfl (P_some rfl (O_nil (hK1552 _ _ _ ?_)))))))
    refine W_cond_v (b := (decide (i1 < ((l1.length : Nat) : Int)))) rfl (fun hc5 => ?_) (fun hc5 => ?_)
    · replace hb1541 := cond_t hc5 hb1541
      refine WP.skip (hK1551 _ _ _ (WP.seq_k (fun K1553 hK1553 => ?_)))
      obtain ⟨o1554, h1554, hb1541⟩ := obind hb1541
      refine WP.cutK (fun fr_ μ_ L_ => ∃ (f3 : Int) (f4 : Int), (f3, f4) = o1554 ∧ SubFr [(0, .slice A1 s1.length c1), (1, .slice A2 l1.length c2), (5, .pointer (some ⟨g1, 0, none⟩)), (6, .pointer (some ⟨g2, 0, none⟩)), (9, .pointer (some ⟨g3, 0, none⟩)), (10, .int .i64 i1)] fr_ ∧ SegSub ([(g1, .cells #[.int .i64 w1.From, .int .i64 w1.To] 42 (0, 0))] :: [(g2, .cells #[.int .i64 0, .int .i64 0] 31 (0, 0))] :: [(g3, .cells #[.int .i64 f3, .int .i64 f4] 31 (0, 0))] :: L) L_ ∧ μ = μ_) ?_ ?_
      · refine WP.block (WP.seq_k (fun K1555 hK1555 => WP.seq_k (fun K1556 hK1556 => ?_)))
        obtain ⟨o1557, h1557, h1554⟩ := obind h1554
        refine WP.cutK (fun fr_ μ_ L_ => ∃ (v2 : Bool), v2 = o1557 ∧ SubFr [(0, .slice A1 s1.length c1), (1, .slice A2 l1.length c2), (5, .pointer (some ⟨g1, 0, none⟩)), (6, .pointer (some ⟨g2, 0, none⟩)), (9, .pointer (some ⟨g3, 0, none⟩)), (10, .int .i64 i1), (65, .bool v2)] fr_ ∧ SegSub ([(g1, .cells #[.int .i64 w1.From, .int .i64 w1.To] 42 (0, 0))] :: [(g2, .cells #[.int .i64 0, .int .i64 0] 31 (0, 0))] :: [(g3, .cells #[.int .i64 f1, .int .i64 f2] 31 (0, 0))] :: L) L_ ∧ μ = μ_) ?_ ?_
        · refine WP.drawn (id := 10) (l' := List.replicate 23 true) wide Tt_ok _ Kept.refl [(true, 0), (true, 1), (false, 2), (true, 3), (true, 4), (true, 5), (true, 6), (true, 7), (true, 8), (true, 9), (true, 10), (true, 11), (true, 12), (true, 13), (true, 14), (true, 15), (true, 16), (true, 17), (true, 18), (true, 19), (true, 20), (true, 21), (true, 22)] (by kernel_rfl) (by kernel_rfl) rfl (PL_t rfl (R_move rfl (P_some rfl (PL_t rfl (R_move rfl (P_some rfl (PL_f rfl (O_call (all := [.slice A2 l1.length c2, .int .i64 i1]) rfl rfl rfl ?_))))))))
          obtain ⟨r2, hx2, h1557⟩ := obind h1557
          refine recyclingref27_replaced_fn hl2 (Rds.push (Rds.push (Rds.push hA2))) hx2 (?_)
          refine ⟨Kept.refl, ?_⟩
          refine P_some rfl (PL_t rfl (R_move rfl (P_some rfl ?_)))
          refine PL_tv (z := r2) rfl rfl rfl (fun hc6 => ?_) (fun hc6 => ?_)
          · replace h1557 := cond_f hc6 h1557
            refine R_move rfl (P_some rfl (PL_tY rfl rfl rfl hc6 (R_move rfl (P_some rfl (PL_tY rfl rfl rfl hc6 ?_)))))
            obtain ⟨x1, hx3, h1557⟩ := obind h1557
            obtain ⟨a1, cs1, hA3, hr1, _, hc7⟩ := Rds.getI hA2 hx3
            obtain rfl := hr1
            refine R_iaG rfl rfl rfl rfl rfl rfl ⟨(getI_lt hx3).1, (getI_lt hx3).2.1⟩ hA3 (P_some rfl (PL_tY rfl rfl rfl hc6 (R_fa rfl rfl rfl rfl rfl (P_some rfl (PL_tY rfl rfl rfl hc6 (R_load rfl rfl rfl (Ex.mk _ (Cell.of_cells (hc7.push.push.push) 2 rfl) (P_some rfl (PL_tY rfl rfl rfl hc6 (R_fa0 (o' := 0) rfl rfl rfl rfl rfl rfl (P_some rfl (PL_tY rfl rfl rfl hc6 (R_load rfl rfl rfl ?_)))))))))))))
            refine Ex.mk _ (Cell.seg 0 0 rfl rfl rfl) (P_some rfl (PL_tY rfl rfl rfl hc6 (R_lssD rfl rfl (P_some rfl (PL_t rfl (R_pick_F rfl hc6 rfl (P_some rfl (PL_t rfl (R_move rfl (P_some rfl ?_))))))))))
            refine PL_tv (z := (decide (x1.At < w1.From))) rfl rfl rfl (fun hc8 => ?_) (fun hc8 => ?_)
            · replace h1557 := cond_f hc8 h1557
              refine R_move rfl (P_some rfl (PL_tY rfl rfl rfl hc8 (R_move rfl (P_some rfl (PL_tY rfl rfl rfl hc8 ?_)))))
              obtain ⟨x2, hx4, h1557⟩ := obind h1557
              obtain ⟨a2, cs2, hA4, hr2, _, hc9⟩ := Rds.getI hA2 hx4
              obtain rfl := hr2
              refine R_iaG rfl rfl rfl rfl rfl rfl ⟨(getI_lt hx4).1, (getI_lt hx4).2.1⟩ hA4 (P_some rfl (PL_tY rfl rfl rfl hc8 (R_fa rfl rfl rfl rfl rfl (P_some rfl (PL_tY rfl rfl rfl hc8 (R_load rfl rfl rfl (Ex.mk _ (Cell.of_cells (hc9.push.push.push) 2 rfl) (P_some rfl (PL_tY rfl rfl rfl hc8 (R_fa0 (o' := 1) rfl rfl rfl rfl rfl rfl (P_some rfl (PL_tY rfl rfl rfl hc8 (R_load rfl rfl rfl ?_)))))))))))))
              refine Ex.mk _ (Cell.seg 0 0 rfl rfl rfl) (P_some rfl (PL_tY rfl rfl rfl hc8 (R_geqD rfl rfl (P_some rfl (PL_t rfl (R_pick_F rfl hc8 rfl (P_some rfl (PL_nil (AN.done0 (by kernel_rfl) ?_)))))))))
              have e_ := Option.some.inj h1557
              subst e_
              exact ⟨(decide (w1.To ≤ x2.At)), rfl, SubFr.of ⟨rfl, rfl, rfl, rfl, rfl, rfl, rfl, trivial⟩, SegSub.sel _ [some 0, some 1, some 2] 3, rfl⟩
            replace h1557 := cond_t hc8 h1557
            refine P_some rfl (PL_tN rfl rfl rfl hc8 (P_some rfl (PL_tN rfl rfl rfl hc8 (P_some rfl (PL_tN rfl rfl rfl hc8 (P_some rfl (PL_tN rfl rfl rfl hc8 (P_some rfl (PL_tN rfl rfl rfl hc8 (P_some rfl (PL_tN rfl rfl rfl hc8 (P_some rfl (PL_tN rfl rfl rfl hc8 ?_)))))))))))))
            refine P_some rfl (PL_t rfl (R_pick_T rfl hc8 rfl (P_some rfl (PL_nil (AN.done0 (by kernel_rfl) ?_)))))
            have e_ := Option.some.inj h1557
            subst e_
            exact ⟨true, rfl, SubFr.of ⟨rfl, rfl, rfl, rfl, rfl, rfl, rfl, trivial⟩, SegSub.sel _ [some 0, some 1, some 2] 3, rfl⟩
          replace h1557 := cond_t hc6 h1557
          refine P_some rfl (PL_tN rfl rfl rfl hc6 (P_some rfl (PL_tN rfl rfl rfl hc6 (P_some rfl (PL_tN rfl rfl rfl hc6 (P_some rfl (PL_tN rfl rfl rfl hc6 (P_some rfl (PL_tN rfl rfl rfl hc6 (P_some rfl (PL_tN rfl rfl rfl hc6 (P_some rfl (PL_tN rfl rfl rfl hc6 ?_)))))))))))))
          refine P_some rfl (PL_t rfl (R_pick_T rfl hc6 rfl (P_some rfl (PL_t rfl (R_move rfl (P_some rfl (PL_tN rfl rfl rfl rfl (P_some rfl (PL_tN rfl rfl rfl rfl (P_some rfl (PL_tN rfl rfl rfl rfl (P_some rfl (PL_tN rfl rfl rfl rfl ?_)))))))))))))
          refine P_some rfl (PL_tN rfl rfl rfl rfl (P_some rfl (PL_tN rfl rfl rfl rfl (P_some rfl (PL_tN rfl rfl rfl rfl (P_some rfl (PL_tN rfl rfl rfl rfl (P_some rfl (PL_t rfl (R_pick_T rfl rfl rfl (P_some rfl (PL_nil (AN.done0 (by kernel_rfl) ?_)))))))))))))
          have e_ := Option.some.inj h1557
          subst e_
          exact ⟨true, rfl, SubFr.of ⟨rfl, rfl, rfl, rfl, rfl, rfl, rfl, trivial⟩, SegSub.sel _ [some 0, some 1, some 2] 3, rfl⟩
        rintro fr1557 μ1557 L1557 hm1557 ⟨v2, ho1557, hF1557, hS1557, hu1557⟩
        subst ho1557
        subst hu1557
        refine hK1556 _ _ _ (WP.at hF1557 hS1557 ?_)
        refine W_cond_v (b := v2) rfl (fun hc10 => ?_) (fun hc10 => ?_)
        · replace h1554 := cond_t hc10 h1554
          refine WP.exit (B_here ?_)
          have e_ := Option.some.inj h1554
          subst e_
          exact ⟨f1, f2, rfl, SubFr.of ⟨rfl, rfl, rfl, rfl, rfl, rfl, trivial⟩, SegSub.sel _ [some 0, some 1, some 2] 3, rfl⟩
        replace h1554 := cond_f hc10 h1554
        refine WP.skip (hK1555 _ _ _ (WP.seq_k (fun K1564 hK1564 => WP.region Tt_ok (O_cons (O_read rfl (R_move rfl (P_some rfl (O_cons (O_read rfl (R_move rfl (P_some rfl (O_cons (O_read rfl ?_)))))))))))))
        refine R_move rfl (P_some rfl (O_cons ?_))
        obtain ⟨x3, hx5, h1554⟩ := obind h1554
        obtain ⟨a3, cs3, hA5, hr3, _, hc11⟩ := Rds.getI hA2 hx5
        obtain rfl := hr3
        refine O_read rfl (R_iaG rfl rfl rfl rfl rfl rfl ⟨(getI_lt hx5).1, (getI_lt hx5).2.1⟩ hA5 (P_some rfl (O_cons (O_read rfl (R_loadA rfl rfl rfl rfl (Ex.mk [.int .i64 x3.ID, .int .i64 x3.Scale, .int .i64 x3.At, .int .i64 x3.Gross, .int .i64 x3.Tare, .int .i64 x3.Replaces] ⟨rfl, (hc11.push.push.push)⟩ (P_some rfl (O_cons (O_call (all := [.slice A1 s1.length c1, .agg #[.int .i64 x3.ID, .int .i64 x3.Scale, .int .i64 x3.At, .int .i64 x3.Gross, .int .i64 x3.Tare, .int .i64 x3.Replaces]]) rfl rfl rfl ?_)))))))))
        obtain ⟨⟨r3, r4⟩, hx6, h1554⟩ := obind h1554
        replace h1554 := oun_mk h1554
        refine recyclingref27_Net_fn hl1 (Rds.push (Rds.push (Rds.push hA1))) hx6 ((P_some rfl (O_cons (O_read rfl (R_move rfl (P_some rfl (O_cons (O_read rfl (R_ext rfl rfl (P_some rfl (O_cons (O_read rfl (R_ext rfl rfl (P_some rfl ?_))))))))))))))
        refine O_cons (O_alloc (cs := #[.int .i64 0, .int .i64 0]) rfl rfl (fun g4 => P_some rfl (O_cons (O_store (vs := [.int .i64 r3.Lo, .int .i64 r3.Hi]) rfl rfl rfl rfl rfl rfl (ST_ (L' := ([(g4, .cells #[.int .i64 r3.Lo, .int .i64 r3.Hi] 31 (0, 0))] :: [(g1, .cells #[.int .i64 w1.From, .int .i64 w1.To] 42 (0, 0))] :: [(g2, .cells #[.int .i64 0, .int .i64 0] 31 (0, 0))] :: [(g3, .cells #[.int .i64 f1, .int .i64 f2] 31 (0, 0))] :: L)) 0 0 rfl rfl rfl rfl (P_none (O_cons (O_read rfl (R_assign rfl (P_some rfl (O_nil (hK1564 _ _ _ (WP.seq_k (fun K1567 hK1567 => ?_))))))))))))))
        refine WP.region Tt_ok (O_cons (O_read rfl (R_fa0 (o' := 0) rfl rfl rfl rfl rfl rfl (P_some rfl (O_cons (O_read rfl (R_load rfl rfl rfl (Ex.mk _ (Cell.seg 3 0 rfl rfl rfl) (P_some rfl (O_cons (O_read rfl (R_fa0 (o' := 0) rfl rfl rfl rfl rfl rfl (P_some rfl ?_)))))))))))))
        refine O_cons (O_read rfl (R_load rfl rfl rfl (Ex.mk _ (Cell.seg 0 0 rfl rfl rfl) (P_some rfl (O_cons (O_read rfl (R_add rfl rfl (P_some rfl (O_cons (O_read rfl (R_fa0 (o' := 0) rfl rfl rfl rfl rfl rfl (P_some rfl (O_cons ?_)))))))))))))
        refine O_store (vs := [.int .i64 (w64 (f1 + r3.Lo))]) rfl rfl rfl rfl rfl rfl (ST_ (L' := ([(g4, .cells #[.int .i64 r3.Lo, .int .i64 r3.Hi] 31 (0, 0))] :: [(g1, .cells #[.int .i64 w1.From, .int .i64 w1.To] 42 (0, 0))] :: [(g2, .cells #[.int .i64 0, .int .i64 0] 31 (0, 0))] :: [(g3, .cells #[.int .i64 (w64 (f1 + r3.Lo)), .int .i64 f2] 31 (0, 0))] :: L)) 3 0 rfl rfl rfl rfl (P_none (O_nil (hK1567 _ _ _ (WP.region Tt_ok (O_cons (O_read rfl (R_fa0 (o' := 1) rfl rfl rfl rfl rfl rfl (P_some rfl (O_cons (O_read rfl (R_load rfl rfl rfl (Ex.mk _ (Cell.seg 3 0 rfl rfl rfl) ?_)))))))))))))
        refine P_some rfl (O_cons (O_read rfl (R_fa0 (o' := 1) rfl rfl rfl rfl rfl rfl (P_some rfl (O_cons (O_read rfl (R_load rfl rfl rfl (Ex.mk _ (Cell.seg 0 0 rfl rfl rfl) (P_some rfl (O_cons (O_read rfl (R_add rfl rfl (P_some rfl ?_)))))))))))))
        refine O_cons (O_read rfl (R_fa0 (o' := 1) rfl rfl rfl rfl rfl rfl (P_some rfl (O_cons (O_store (vs := [.int .i64 (w64 (f2 + r3.Hi))]) rfl rfl rfl rfl rfl rfl (ST_ (L' := ([(g4, .cells #[.int .i64 r3.Lo, .int .i64 r3.Hi] 31 (0, 0))] :: [(g1, .cells #[.int .i64 w1.From, .int .i64 w1.To] 42 (0, 0))] :: [(g2, .cells #[.int .i64 0, .int .i64 0] 31 (0, 0))] :: [(g3, .cells #[.int .i64 (w64 (f1 + r3.Lo)), .int .i64 (w64 (f2 + r3.Hi))] 31 (0, 0))] :: L)) 3 0 rfl rfl rfl rfl (P_none (O_nil ?_))))))))
        have e_ := Option.some.inj h1554
        subst e_
        exact ⟨w64 (f1 + r3.Lo), w64 (f2 + r3.Hi), rfl, SubFr.of ⟨rfl, rfl, rfl, rfl, rfl, rfl, trivial⟩, SegSub.sel _ [some 1, some 2, some 3] 4, rfl⟩
      rintro fr1554 μ1554 L1554 hm1554 ⟨f3, f4, ho1554, hF1554, hS1554, hu1554⟩
      subst ho1554
      replace hb1541 := oun_mk hb1541
      subst hu1554
      refine hK1553 _ _ _ (WP.at hF1554 hS1554 (WP.region Tt_ok (O_cons (O_read rfl (R_move rfl (P_some rfl (O_cons (O_read rfl (R_add rfl rfl (P_some rfl (O_cons (O_read rfl (R_assign rfl ?_)))))))))))))
      refine P_some rfl (O_nil ?_)
      have e_ := Option.some.inj hb1541
      subst e_
      exact ⟨_, rfl, SubFr.of ⟨rfl, rfl, rfl, rfl, rfl, rfl, trivial⟩, SegSub.sel _ [some 0, some 1, some 2] 3, rfl⟩
    replace hb1541 := cond_f hc5 hb1541
    refine WP.exit (B_here ?_)
    have e_ := Option.some.inj hb1541
    subst e_
    have hq_ := hq1541 _ rfl
    subst hq_
    exact ⟨f1, f2, rfl, SubFr.of ⟨rfl, rfl, trivial⟩, SegSub.sel _ [some 1, some 2] 3, rfl⟩
  rintro fr1505 μ1505 L1505 hm1505 ⟨f5, f6, ho1505, hF1505, hS1505, hu1505⟩
  subst ho1505
  replace h := oun_mk h
  subst hu1505
  refine hK1503 _ _ _ (WP.at hF1505 hS1505 (WP.seq_k (fun K1580 hK1580 => WP.region Tt_ok (O_cons (O_read rfl (R_loadA rfl rfl rfl rfl (LA_ (vs := [.int .i64 f5, .int .i64 f6]) 1 0 rfl rfl rfl rfl (P_some rfl (O_cons (O_store (vs := [.int .i64 f5, .int .i64 f6]) rfl rfl rfl rfl rfl rfl (ST_ (L' := ([(g2, .cells #[.int .i64 f5, .int .i64 f6] 31 (0, 0))] :: [(g3, .cells #[.int .i64 f5, .int .i64 f6] 31 (0, 0))] :: L)) 0 0 rfl rfl rfl rfl (P_none (O_cons ?_)))))))))))))
  refine O_read rfl (R_assign rfl (P_some rfl (O_nil (hK1580 _ _ _ (WP.ret ?_)))))
  have e_ := Option.some.inj h
  obtain ⟨e0a_, e0b_⟩ := Prod.mk.inj e_
  clear e_
  subst e0a_
  subst e0b_
  refine S_cell rfl rfl rfl rfl (LA_ (vs := [.int .i64 f5, .int .i64 f6]) 0 0 rfl rfl rfl rfl (S_tmp rfl (S_nil (Upd.selS [] 2 ?_))))
  exact Upd.done hR

theorem recyclinglaw27_TicketTotals_fn {μ : Gh} {L : List Seg} {R : Value → Gh → List Seg → Prop} {F : Nat} {s1 : (List T_api_Scale)} {l1 : (List T_api_Ticket)} {w1 : T_api_Window} {A1 : Option Addr} {c1 : Nat} {A2 : Option Addr} {c2 : Nat} {res1 : Bool}
    (hl1 : s1.length ≤ c1 ∧ c1 ≤ maxLen) (hA1 : Rds r_api_Scale μ L A1 s1) (hl2 : l1.length ≤ c2 ∧ c2 ≤ maxLen) (hA2 : Rds r_api_Ticket μ L A2 l1) (h : recyclinglaw27_TicketTotals F s1 l1 w1 = some res1)
    (hR : R (.bool res1) μ (L)) :
    Fn Try.prog 6 [.slice A1 s1.length c1, .slice A2 l1.length c2, .agg #[.int .i64 w1.From, .int .i64 w1.To]] μ (L) R := by
  unfold recyclinglaw27_TicketTotals at h
  refine Fn.of_body Tt_ok Try.func6 (by kernel_rfl) rfl Try.ntmps6 (by simp) ?_
  simp only [Try.f6, argFr, List.zipIdx, List.map, Nat.reduceAdd]
  refine WP.seq_k (fun K1472 hK1472 => WP.region Tt_ok (O_cons (O_box (cs := #[.int .i64 w1.From, .int .i64 w1.To]) rfl rfl (fun g1 => P_some rfl (O_cons (O_read rfl (R_assign rfl (P_some rfl (O_nil (hK1472 _ _ _ (WP.seq_k (fun K1474 hK1474 => WP.seq_k (fun K1475 hK1475 => WP.region Tt_ok ?_)))))))))))))
  refine O_cons (O_read rfl (R_move rfl (P_some rfl (O_cons (O_read rfl (R_move rfl (P_some rfl (O_cons (O_call (all := [.slice A1 s1.length c1, .slice A2 l1.length c2]) rfl rfl rfl ?_)))))))))
  obtain ⟨r1, hx1, h⟩ := obind h
  refine recyclinglaw27_great_fn hl1 (Rds.push hA1) hl2 (Rds.push hA2) hx1 ((P_some rfl (O_nil (hK1475 _ _ _ ?_))))
  refine W_cond_v (b := r1) rfl (fun hc1 => ?_) (fun hc1 => ?_)
  · replace h := cond_t hc1 h
    refine WP.seq_k (fun K1476 hK1476 => WP.region Tt_ok (O_cons (O_call (all := []) rfl rfl rfl ?_)))
    obtain ⟨r2, hx2, h⟩ := obind h
    refine recyclinglaw27_awake_fn  hx2 ((P_some rfl (O_cons (O_read rfl (R_assign rfl (P_some rfl (O_nil (hK1476 _ _ _ (WP.ret ?_)))))))))
    have e_ := Option.some.inj h
    subst e_
    refine S_tmp rfl (S_nil (Upd.selS [] 1 ?_))
    exact Upd.done hR
  replace h := cond_f hc1 h
  refine WP.skip (hK1474 _ _ _ (WP.seq_k (fun K1477 hK1477 => WP.region Tt_ok (O_cons (O_read rfl (R_move rfl (P_some rfl (O_cons (O_read rfl (R_move rfl (P_some rfl (O_cons (O_read rfl ?_)))))))))))))
  refine R_loadA rfl rfl rfl rfl (LA_ (vs := [.int .i64 w1.From, .int .i64 w1.To]) 0 0 rfl rfl rfl rfl (P_some rfl (O_cons (O_call (all := [.slice A1 s1.length c1, .slice A2 l1.length c2, .agg #[.int .i64 w1.From, .int .i64 w1.To]]) rfl rfl rfl ?_))))
  obtain ⟨⟨r3, r4⟩, hx3, h⟩ := obind h
  replace h := oun_mk h
  refine ticket_Total_fn hl1 (Rds.push hA1) hl2 (Rds.push hA2) hx3 ((P_some rfl (O_cons (O_read rfl (R_move rfl (P_some rfl (O_cons (O_read rfl (R_ext rfl rfl (P_some rfl (O_cons (O_read rfl (R_ext rfl rfl (P_some rfl ?_))))))))))))))
  refine O_cons (O_alloc (cs := #[.int .i64 0, .int .i64 0]) rfl rfl (fun g2 => P_some rfl (O_cons (O_store (vs := [.int .i64 r3.Lo, .int .i64 r3.Hi]) rfl rfl rfl rfl rfl rfl (ST_ (L' := ([(g2, .cells #[.int .i64 r3.Lo, .int .i64 r3.Hi] 31 (0, 0))] :: [(g1, .cells #[.int .i64 w1.From, .int .i64 w1.To] 42 (0, 0))] :: L)) 0 0 rfl rfl rfl rfl (P_none (O_cons (O_read rfl (R_assign rfl (P_some rfl (O_nil (hK1477 _ _ _ (WP.seq_k (fun K1480 hK1480 => ?_))))))))))))))
  refine WP.region Tt_ok (O_cons (O_read rfl (R_move rfl (P_some rfl (O_cons (O_read rfl (R_move rfl (P_some rfl (O_cons (O_read rfl (R_loadA rfl rfl rfl rfl (LA_ (vs := [.int .i64 w1.From, .int .i64 w1.To]) 1 0 rfl rfl rfl rfl (P_some rfl ?_)))))))))))))
  refine O_cons (O_call (all := [.slice A1 s1.length c1, .slice A2 l1.length c2, .agg #[.int .i64 w1.From, .int .i64 w1.To]]) rfl rfl rfl ?_)
  obtain ⟨⟨r5, r6⟩, hx4, h⟩ := obind h
  replace h := oun_mk h
  refine recyclingref27_Total_fn hl1 (Rds.push (Rds.push hA1)) hl2 (Rds.push (Rds.push hA2)) hx4 ((P_some rfl (O_cons (O_read rfl (R_move rfl (P_some rfl (O_cons (O_read rfl (R_ext rfl rfl (P_some rfl (O_cons (O_read rfl (R_ext rfl rfl (P_some rfl ?_))))))))))))))
  refine O_cons (O_alloc (cs := #[.int .i64 0, .int .i64 0]) rfl rfl (fun g3 => P_some rfl (O_cons (O_store (vs := [.int .i64 r5.Lo, .int .i64 r5.Hi]) rfl rfl rfl rfl rfl rfl (ST_ (L' := ([(g3, .cells #[.int .i64 r5.Lo, .int .i64 r5.Hi] 31 (0, 0))] :: [(g2, .cells #[.int .i64 r3.Lo, .int .i64 r3.Hi] 31 (0, 0))] :: [(g1, .cells #[.int .i64 w1.From, .int .i64 w1.To] 42 (0, 0))] :: L)) 0 0 rfl rfl rfl rfl (P_none (O_cons (O_read rfl (R_assign rfl (P_some rfl (O_nil (hK1480 _ _ _ (WP.seq_k (fun K1584 hK1584 => ?_))))))))))))))
  obtain ⟨o1585, h1585, h⟩ := obind h
  refine WP.cutK (fun fr_ μ_ L_ => ∃ (v1 : Bool), v1 = o1585 ∧ SubFr [(6, .bool v1)] fr_ ∧ SegSub (L) L_ ∧ μ = μ_) ?_ ?_
  · refine WP.region Tt_ok (O_cons (O_read rfl (R_loadA rfl rfl rfl rfl (LA_ (vs := [.int .i64 r3.Lo, .int .i64 r3.Hi]) 1 0 rfl rfl rfl rfl (P_some rfl (O_cons (O_read rfl (R_loadA rfl rfl rfl rfl (LA_ (vs := [.int .i64 r5.Lo, .int .i64 r5.Hi]) 0 0 rfl rfl rfl rfl (P_some rfl (O_cons (O_read rfl (R_agg rfl rfl ?_)))))))))))))
    refine Ex.mk _ (eqRun_T_api_Span r3 r5) (P_some rfl (O_cons (O_read rfl (R_move rfl (P_some rfl ?_)))))
    refine O_gv (z := (decide (r3 = r5))) rfl rfl (fun hc2 => ?_) (fun hc2 => ?_)
    · replace h1585 := cond_t hc2 h1585
      refine O_read rfl (R_move rfl (P_some rfl (O_gY rfl rfl hc2 (O_read rfl (R_move rfl (P_some rfl (O_gY rfl rfl hc2 (O_read rfl (R_eqlD rfl rfl (P_some rfl (O_cons (O_read rfl (R_pick_T rfl hc2 rfl ?_)))))))))))))
      refine P_some rfl (O_cons (O_read rfl (R_move rfl (P_some rfl ?_))))
      refine O_gv (z := (decide (r4 = r6))) rfl rfl (fun hc3 => ?_) (fun hc3 => ?_)
      · replace h1585 := cond_t hc3 h1585
        apply O_call (all := []); exact rfl; exact rfl; exact rfl
        obtain ⟨r7, hx5, h1585⟩ := obind h1585
        refine recyclinglaw27_awake_fn  hx5 ((P_some rfl (O_cons (O_read rfl (R_pick_T rfl hc3 rfl (P_some rfl (O_cons (O_read rfl (R_assign rfl (P_some rfl (O_nil ?_)))))))))))
        have e_ := Option.some.inj h1585
        subst e_
        exact ⟨r7, rfl, SubFr.of ⟨rfl, trivial⟩, SegSub.sel _ [] 3, rfl⟩
      replace h1585 := cond_f hc3 h1585
      refine P_some rfl (O_cons (O_read rfl (R_pick_F rfl hc3 rfl (P_some rfl (O_cons (O_read rfl (R_assign rfl (P_some rfl (O_nil ?_)))))))))
      have e_ := Option.some.inj h1585
      subst e_
      exact ⟨false, rfl, SubFr.of ⟨rfl, trivial⟩, SegSub.sel _ [] 3, rfl⟩
    replace h1585 := cond_f hc2 h1585
    refine P_some rfl (O_gN rfl rfl hc2 (P_some rfl (O_gN rfl rfl hc2 (P_some rfl (O_cons (O_read rfl (R_pick_F rfl hc2 rfl (P_some rfl (O_cons (O_read rfl (R_move rfl (P_some rfl (O_gN rfl rfl rfl ?_)))))))))))))
    refine P_some rfl (O_cons (O_read rfl (R_pick_F rfl rfl rfl (P_some rfl (O_cons (O_read rfl (R_assign rfl (P_some rfl (O_nil ?_)))))))))
    have e_ := Option.some.inj h1585
    subst e_
    exact ⟨false, rfl, SubFr.of ⟨rfl, trivial⟩, SegSub.sel _ [] 3, rfl⟩
  rintro fr1585 μ1585 L1585 hm1585 ⟨v1, ho1585, hF1585, hS1585, hu1585⟩
  subst ho1585
  subst hu1585
  refine hK1584 _ _ _ (WP.at hF1585 hS1585 (WP.ret ?_))
  have e_ := Option.some.inj h
  subst e_
  refine S_tmp rfl (S_nil (Upd.selS [] 0 ?_))
  exact Upd.done hR

theorem recyclinglaw27_TicketChains_fn {μ : Gh} {L : List Seg} {R : Value → Gh → List Seg → Prop} {F : Nat} {l1 : (List T_api_Ticket)} {A1 : Option Addr} {c1 : Nat} {res1 : Bool}
    (hl1 : l1.length ≤ c1 ∧ c1 ≤ maxLen) (hA1 : Rds r_api_Ticket μ L A1 l1) (h : recyclinglaw27_TicketChains F l1 = some res1)
    (hR : R (.bool res1) μ (L)) :
    Fn Try.prog 7 [.slice A1 l1.length c1] μ (L) R := by
  unfold recyclinglaw27_TicketChains at h
  refine Fn.of_body Tt_ok Try.func7 (by kernel_rfl) rfl Try.ntmps7 (by simp) ?_
  simp only [Try.f7, argFr, List.zipIdx, List.map, Nat.reduceAdd]
  refine WP.seq_k (fun K1587 hK1587 => WP.region Tt_ok (O_cons (O_read rfl (R_assign rfl (P_some rfl (O_nil (hK1587 _ _ _ (WP.seq_k (fun K1588 hK1588 => WP.seq_k (fun K1589 hK1589 => WP.region Tt_ok (O_cons (O_read rfl (R_move rfl ?_)))))))))))))
  refine P_some rfl (O_cons (O_read rfl (R_lenS rfl rfl rfl (P_some rfl (O_cons (O_read rfl (R_gtrD rfl rfl (P_some rfl (O_nil (hK1589 _ _ _ ?_))))))))))
  refine W_cond_v (b := (decide (60 < ((l1.length : Nat) : Int)))) rfl (fun hc1 => ?_) (fun hc1 => ?_)
  · replace h := cond_t hc1 h
    refine WP.seq_k (fun K1590 hK1590 => WP.region Tt_ok (O_cons (O_call (all := []) rfl rfl rfl ?_)))
    obtain ⟨r1, hx1, h⟩ := obind h
    refine recyclinglaw27_awake_fn  hx1 ((P_some rfl (O_cons (O_read rfl (R_assign rfl (P_some rfl (O_nil (hK1590 _ _ _ (WP.ret ?_)))))))))
    have e_ := Option.some.inj h
    subst e_
    refine S_tmp rfl (S_nil (Upd.selS [] 0 ?_))
    exact Upd.done hR
  replace h := cond_f hc1 h
  refine WP.skip (hK1588 _ _ _ (WP.seq_k (fun K1591 hK1591 => WP.region Tt_ok (O_cons (O_read rfl (R_move rfl (P_some rfl (O_cons (O_call (all := [.slice A1 l1.length c1]) rfl rfl rfl ?_)))))))))
  obtain ⟨⟨r2, r3⟩, hx2, h⟩ := obind h
  replace h := oun_mk h
  refine ticket_Active_fn hl1 hA1 hx2 (fun A2 c2 ch1 hO1 => P_some rfl (O_cons (O_read rfl (R_move rfl (P_some rfl (O_cons (O_read rfl (R_ext rfl rfl (P_some rfl (O_cons (O_read rfl (R_ext rfl rfl (P_some rfl ?_)))))))))))))
  refine O_cons (O_read rfl (R_assign rfl (P_some rfl (O_cons (O_read rfl (R_assign rfl (P_some rfl (O_nil (hK1591 _ _ _ (WP.seq_k (fun K1593 hK1593 => WP.seq_k (fun K1594 hK1594 => WP.region Tt_ok (O_cons ?_)))))))))))))
  refine O_read rfl (R_move rfl (P_some rfl (O_cons (O_read rfl (R_neqD rfl rfl (P_some rfl (O_nil (hK1594 _ _ _ ?_))))))))
  refine W_cond_v (b := !(decide (r3 = 0))) rfl (fun hc2 => ?_) (fun hc2 => ?_)
  · replace h := cond_t hc2 h
    refine WP.seq_k ?_; intro K1595 hK1595
    obtain ⟨o1596, h1596, h⟩ := obind h
    refine WP.cutK (fun fr_ μ_ L_ => ∃ (v1 : Bool), v1 = o1596 ∧ SubFr [(2, .bool v1)] fr_ ∧ SegSub (L) L_ ∧ μ = μ_) ?_ ?_
    · refine WP.region Tt_ok (O_cons (O_read rfl (R_move rfl (P_some rfl (O_cons (O_read rfl (R_lenS rfl rfl rfl (P_some rfl (O_cons (O_read rfl (R_eqlD rfl rfl (P_some rfl (O_cons ?_)))))))))))))
      refine O_read rfl (R_move rfl (P_some rfl ?_))
      refine O_gv (z := (decide (((r2.length : Nat) : Int) = 0))) rfl rfl (fun hc3 => ?_) (fun hc3 => ?_)
      · replace h1596 := cond_t hc3 h1596
        apply O_call (all := []); exact rfl; exact rfl; exact rfl
        obtain ⟨r4, hx3, h1596⟩ := obind h1596
        refine recyclinglaw27_awake_fn  hx3 ((P_some rfl (O_cons (O_read rfl (R_pick_T rfl hc3 rfl (P_some rfl (O_cons (O_read rfl (R_assign rfl (P_some rfl (O_nil ?_)))))))))))
        have e_ := Option.some.inj h1596
        subst e_
        exact ⟨r4, rfl, SubFr.of ⟨rfl, trivial⟩, SegSub.sel _ [] 1, rfl⟩
      replace h1596 := cond_f hc3 h1596
      refine P_some rfl (O_cons (O_read rfl (R_pick_F rfl hc3 rfl (P_some rfl (O_cons (O_read rfl (R_assign rfl (P_some rfl (O_nil ?_)))))))))
      have e_ := Option.some.inj h1596
      subst e_
      exact ⟨false, rfl, SubFr.of ⟨rfl, trivial⟩, SegSub.sel _ [] 1, rfl⟩
    rintro fr1596 μ1596 L1596 hm1596 ⟨v1, ho1596, hF1596, hS1596, hu1596⟩
    subst ho1596
    subst hu1596
    refine hK1595 _ _ _ (WP.at hF1596 hS1596 (WP.ret ?_))
    have e_ := Option.some.inj h
    subst e_
    refine S_tmp rfl (S_nil (Upd.selS [] 0 ?_))
    exact Upd.done hR
  replace h := cond_f hc2 h
  refine WP.skip (hK1593 _ _ _ (WP.seq_k (fun K1597 hK1597 => WP.region Tt_ok (O_cons (O_read rfl (R_move rfl (P_some rfl (O_cons (O_read rfl (R_lenS rfl rfl rfl (P_some rfl (O_cons (O_mksl rfl rfl ?_)))))))))))))
  obtain ⟨l2, hn1, h⟩ := obind h
  refine sem_mkO (r := rInt) (zc := [.int .i64 0]) Tt_ok rfl rfl rfl rfl rfl (rfl) rfl hn1 fun A3 c3 ch2 hO2 => P_some rfl (O_cons (O_read rfl (R_assign rfl (P_some rfl (O_nil (hK1597 _ _ _ (WP.seq_k (fun K1599 hK1599 => WP.seq_k (fun K1600 hK1600 => WP.region Tt_ok (O_cons (O_read rfl (R_assign rfl ?_))))))))))))
  refine P_some rfl (O_nil (hK1600 _ _ _ ?_))
  obtain ⟨o1601, h1601, h⟩ := obind h
  refine WP.cutK (fun fr_ μ_ L_ => ∃ (seen5 : (List Int)) (A9 : Option Addr) (c9 : Nat) (ch9 : Seg), (.inl seen5) = o1601 ∧ SubFr [(5, .slice A9 seen5.length c9)] fr_ ∧ SegSub (ch9 :: L) L_ ∧ Own rInt 3 μ_ (.slice A9 seen5.length c9) seen5 ch9 ∧ μ = μ_) ?_ ?_
  · refine WP.block (WP.iter h1601 (fun (j_ : (List Int) × Int) fr_ μ_ L_ => ounP j_ fun seen1 i1 => ∃ (A4 : Option Addr) (c4 : Nat) (ch3 : Seg), SubFr [(0, .slice A1 l1.length c1), (3, .slice A2 r2.length c2), (5, .slice A4 seen1.length c4), (6, .int .i64 i1)] fr_ ∧ SegSub (ch1 :: ch3 :: L) L_ ∧ Own rInt 3 μ_ (.slice A4 seen1.length c4) seen1 ch3 ∧ μ = μ_) ⟨A3, c3, ch2, SubFr.of ⟨rfl, rfl, rfl, rfl, trivial⟩, SegSub.sel _ [some 1, some 0] 2, (hO2), rfl⟩ ?_)
    rintro ⟨seen1, i1⟩ q1662 fr1662 μ1662 L1662 hm1662 ⟨A4, c4, ch3, hF1662, hS1662, hO3, hu1662⟩ hb1662 hq1662
    unfold recyclinglaw27_TicketChains_l2 at hb1662
    replace hb1662 := oun_mk hb1662
    subst hu1662
    refine WP.at hF1662 hS1662 (WP.seq_k (fun K1664 hK1664 => WP.seq_k (fun K1665 hK1665 => WP.region Tt_ok (O_cons (O_read rfl (R_move rfl (P_some rfl (O_cons (O_read rfl (R_move rfl (P_some rfl (O_cons (O_read rfl ?_)))))))))))))
    refine R_lenS rfl rfl rfl (P_some rfl (O_cons (O_read rfl (R_lssD rfl rfl (P_some rfl (O_nil (hK1665 _ _ _ ?_)))))))
    refine W_cond_v (b := (decide (i1 < ((r2.length : Nat) : Int)))) rfl (fun hc4 => ?_) (fun hc4 => ?_)
    · replace hb1662 := cond_t hc4 hb1662
      refine WP.skip (hK1664 _ _ _ (WP.seq_k (fun K1666 hK1666 => ?_)))
      obtain ⟨o1667, h1667, hb1662⟩ := obind hb1662
      refine WP.cutK (fun fr_ μ_ L_ => ∃ (seen4 : (List Int)) (A8 : Option Addr) (c8 : Nat) (ch8 : Seg), (.inl seen4) = o1667 ∧ SubFr [(0, .slice A1 l1.length c1), (3, .slice A2 r2.length c2), (5, .slice A8 seen4.length c8), (6, .int .i64 i1)] fr_ ∧ SegSub (ch1 :: ch8 :: L) L_ ∧ Own rInt 3 μ_ (.slice A8 seen4.length c8) seen4 ch8 ∧ μ = μ_) ?_ ?_
      · refine WP.block (WP.seq_k (fun K1668 hK1668 => WP.seq_k (fun K1669 hK1669 => ?_)))
        obtain ⟨o1670, h1670, h1667⟩ := obind h1667
        refine WP.cutK (fun fr_ μ_ L_ => ∃ (v2 : Bool), v2 = o1670 ∧ SubFr [(0, .slice A1 l1.length c1), (3, .slice A2 r2.length c2), (5, .slice A4 seen1.length c4), (6, .int .i64 i1), (50, .bool v2)] fr_ ∧ SegSub (ch1 :: ch3 :: L) L_ ∧ μ = μ_) ?_ ?_
        · refine WP.region Tt_ok (O_cons (O_read rfl (R_move rfl (P_some rfl (O_cons (O_read rfl (R_move rfl (P_some rfl (O_cons ?_)))))))))
          obtain ⟨x1, hx4, h1670⟩ := obind h1670
          obtain ⟨a1, cs1, hA2, hr1, _, hc5⟩ := Rds.getI (Own.rds (L := (ch1 :: ch3 :: L)) hO1 0 rfl) hx4
          obtain rfl := hr1
          refine O_read rfl (R_iaG rfl rfl rfl rfl rfl rfl ⟨(getI_lt hx4).1, (getI_lt hx4).2.1⟩ hA2 (P_some rfl (O_cons (O_read rfl (R_load rfl rfl rfl (Ex.mk _ (Cell.of_cells0 hc5 rfl) (P_some rfl (O_cons (O_read rfl (R_lssD rfl rfl (P_some rfl (O_cons (O_read rfl ?_)))))))))))))
          refine R_move rfl (P_some rfl ?_)
          refine O_gv (z := (decide (x1 < 0))) rfl rfl (fun hc6 => ?_) (fun hc6 => ?_)
          · replace h1670 := cond_f hc6 h1670
            refine O_read rfl (R_move rfl (P_some rfl (O_gY rfl rfl hc6 (O_read rfl (R_move rfl (P_some rfl (O_gY rfl rfl hc6 ?_)))))))
            obtain ⟨x2, hx5, h1670⟩ := obind h1670
            obtain ⟨a2, cs2, hA3, hr2, _, hc7⟩ := Rds.getI (Own.rds (L := (ch1 :: ch3 :: L)) hO1 0 rfl) hx5
            obtain rfl := hr2
            refine O_read rfl (R_iaG rfl rfl rfl rfl rfl rfl ⟨(getI_lt hx5).1, (getI_lt hx5).2.1⟩ hA3 (P_some rfl (O_gY rfl rfl hc6 (O_read rfl (R_load rfl rfl rfl (Ex.mk _ (Cell.of_cells0 hc7 rfl) (P_some rfl (O_gY rfl rfl hc6 (O_read rfl (R_move rfl (P_some rfl (O_gY rfl rfl hc6 (O_read rfl ?_)))))))))))))
            refine R_lenS rfl rfl rfl (P_some rfl (O_gY rfl rfl hc6 (O_read rfl (R_geqD rfl rfl (P_some rfl (O_cons (O_read rfl (R_pick_F rfl hc6 rfl (P_some rfl (O_nil ?_))))))))))
            have e_ := Option.some.inj h1670
            subst e_
            exact ⟨(decide (((l1.length : Nat) : Int) ≤ x2)), rfl, SubFr.of ⟨rfl, rfl, rfl, rfl, rfl, trivial⟩, SegSub.sel _ [some 0, some 1] 2, rfl⟩
          replace h1670 := cond_t hc6 h1670
          refine P_some rfl (O_gN rfl rfl hc6 (P_some rfl (O_gN rfl rfl hc6 (P_some rfl (O_gN rfl rfl hc6 (P_some rfl (O_gN rfl rfl hc6 (P_some rfl (O_gN rfl rfl hc6 (P_some rfl (O_gN rfl rfl hc6 (P_some rfl (O_cons ?_)))))))))))))
          refine O_read rfl (R_pick_T rfl hc6 rfl (P_some rfl (O_nil ?_)))
          have e_ := Option.some.inj h1670
          subst e_
          exact ⟨true, rfl, SubFr.of ⟨rfl, rfl, rfl, rfl, rfl, trivial⟩, SegSub.sel _ [some 0, some 1] 2, rfl⟩
        rintro fr1670 μ1670 L1670 hm1670 ⟨v2, ho1670, hF1670, hS1670, hu1670⟩
        subst ho1670
        subst hu1670
        refine hK1669 _ _ _ (WP.at hF1670 hS1670 ?_)
        refine W_cond_v (b := v2) rfl (fun hc8 => ?_) (fun hc8 => ?_)
        · replace h1667 := cond_t hc8 h1667
          refine WP.seq_k (fun K1671 hK1671 => WP.region Tt_ok (O_cons (O_read rfl (R_assign rfl (P_some rfl (O_nil (hK1671 _ _ _ (WP.ret ?_))))))))
          have e_ := Option.some.inj h1667
          subst e_
          replace hb1662 := osum_r hb1662
          have e_ := Option.some.inj hb1662
          subst e_
          have hq_ := hq1662 _ rfl
          subst hq_
          replace h := osum_r h
          have e_ := Option.some.inj h
          subst e_
          refine S_tmp rfl (S_nil (Upd.selS [] 2 ?_))
          exact Upd.done hR
        replace h1667 := cond_f hc8 h1667
        refine WP.skip (hK1668 _ _ _ (WP.seq_k (fun K1672 hK1672 => WP.region Tt_ok (O_cons (O_read rfl (R_move rfl (P_some rfl (O_cons (O_read rfl (R_move rfl (P_some rfl (O_cons (O_read rfl ?_)))))))))))))
        refine R_move rfl (P_some rfl (O_cons (O_read rfl (R_move rfl (P_some rfl (O_cons ?_))))))
        obtain ⟨x3, hx6, h1667⟩ := obind h1667
        obtain ⟨a3, cs3, hA4, hr3, _, hc9⟩ := Rds.getI (Own.rds (L := (ch1 :: ch3 :: L)) hO1 0 rfl) hx6
        obtain rfl := hr3
        refine O_read rfl (R_iaG rfl rfl rfl rfl rfl rfl ⟨(getI_lt hx6).1, (getI_lt hx6).2.1⟩ hA4 (P_some rfl (O_cons (O_read rfl (R_load rfl rfl rfl (Ex.mk _ (Cell.of_cells0 hc9 rfl) (P_some rfl (O_cons ?_))))))))
        obtain ⟨x4, hx7, h1667⟩ := obind h1667
        obtain ⟨a4, cs4, hA5, hr4, _, hc10⟩ := Rds.getI hA1 hx7
        obtain rfl := hr4
        refine O_read rfl (R_iaG rfl rfl rfl rfl rfl rfl ⟨(getI_lt hx7).1, (getI_lt hx7).2.1⟩ hA5 (P_some rfl (O_cons (O_read rfl (R_faz rfl rfl rfl rfl rfl (P_some rfl (O_cons (O_read rfl (R_load rfl rfl rfl (Ex.mk _ (Cell.of_cells0 (hc10.push.push) rfl) (P_some rfl (O_cons (O_call (all := [.slice A1 l1.length c1, .int .i64 x4.ID]) rfl rfl rfl ?_)))))))))))))
        obtain ⟨⟨r5, r6⟩, hx8, h1667⟩ := obind h1667
        replace h1667 := oun_mk h1667
        refine ticket_Chain_fn hl1 (Rds.push (Rds.push hA1)) hx8 (fun A5 c5 ch4 hO4 => P_some rfl (O_cons (O_read rfl (R_move rfl (P_some rfl (O_cons (O_read rfl (R_ext rfl rfl (P_some rfl (O_cons (O_read rfl (R_ext rfl rfl (P_some rfl ?_)))))))))))))
        refine O_cons (O_read rfl (R_assign rfl (P_some rfl (O_cons (O_read rfl (R_assign rfl (P_some rfl (O_nil (hK1672 _ _ _ (WP.seq_k (fun K1674 hK1674 => WP.seq_k (fun K1675 hK1675 => ?_))))))))))))
        obtain ⟨o1676, h1676, h1667⟩ := obind h1667
        refine WP.cutK (fun fr_ μ_ L_ => ∃ (v3 : Bool), v3 = o1676 ∧ SubFr [(0, .slice A1 l1.length c1), (3, .slice A2 r2.length c2), (5, .slice A4 seen1.length c4), (6, .int .i64 i1), (7, .slice A5 r5.length c5), (83, .bool v3)] fr_ ∧ SegSub (ch1 :: ch3 :: ch4 :: L) L_ ∧ μ = μ_) ?_ ?_
        · refine WP.drawn (id := 13) (l' := List.replicate 20 true) wide Tt_ok _ Kept.refl [(true, 0), (true, 1), (true, 2), (true, 3), (true, 4), (true, 5), (true, 6), (true, 7), (true, 8), (true, 9), (true, 10), (true, 11), (true, 12), (true, 13), (true, 14), (true, 15), (true, 16), (true, 17), (true, 18), (true, 19)] (by kernel_rfl) (by kernel_rfl) rfl (PL_t rfl (R_move rfl (P_some rfl (PL_t rfl (R_neqD rfl rfl (P_some rfl (PL_t rfl (R_move rfl (P_some rfl ?_)))))))))
          refine PL_tv (z := !(decide (r6 = 0))) rfl rfl rfl (fun hc11 => ?_) (fun hc11 => ?_)
          · replace h1676 := cond_f hc11 h1676
            refine R_move rfl (P_some rfl (PL_tY rfl rfl rfl hc11 (R_lenS rfl rfl rfl (P_some rfl (PL_tY rfl rfl rfl hc11 (R_eqlD rfl rfl (P_some rfl (PL_t rfl (R_pick_F rfl hc11 rfl (P_some rfl (PL_t rfl (R_move rfl (P_some rfl ?_)))))))))))))
            refine PL_tv (z := (decide (((r5.length : Nat) : Int) = 0))) rfl rfl rfl (fun hc12 => ?_) (fun hc12 => ?_)
            · replace h1676 := cond_f hc12 h1676
              refine R_move rfl (P_some rfl (PL_tY rfl rfl rfl hc12 (R_move rfl (P_some rfl (PL_tY rfl rfl rfl hc12 (R_lenS rfl rfl rfl (P_some rfl (PL_tY rfl rfl rfl hc12 (R_sub rfl rfl (P_some rfl (PL_tY rfl rfl rfl hc12 ?_)))))))))))
              obtain ⟨x5, hx9, h1676⟩ := obind h1676
              obtain ⟨a5, cs5, hA6, hr5, _, hc13⟩ := Rds.getI (Own.rds (L := (ch4 :: ch1 :: ch3 :: L)) hO4 0 rfl) hx9
              obtain rfl := hr5
              refine R_iaG rfl rfl rfl rfl rfl rfl ⟨(getI_lt hx9).1, (getI_lt hx9).2.1⟩ hA6 (P_some rfl (PL_tY rfl rfl rfl hc12 (R_load rfl rfl rfl (Ex.mk _ (Cell.of_cells0 hc13 rfl) (P_some rfl (PL_tY rfl rfl rfl hc12 (R_move rfl (P_some rfl (PL_tY rfl rfl rfl hc12 (R_move rfl (P_some rfl (PL_tY rfl rfl rfl hc12 ?_))))))))))))
              obtain ⟨x6, hx10, h1676⟩ := obind h1676
              obtain ⟨a6, cs6, hA7, hr6, _, hc14⟩ := Rds.getI (Own.rds (L := (ch4 :: ch1 :: ch3 :: L)) hO1 1 rfl) hx10
              obtain rfl := hr6
              refine R_iaG rfl rfl rfl rfl rfl rfl ⟨(getI_lt hx10).1, (getI_lt hx10).2.1⟩ hA7 (P_some rfl (PL_tY rfl rfl rfl hc12 (R_load rfl rfl rfl (Ex.mk _ (Cell.of_cells0 hc14 rfl) (P_some rfl (PL_tY rfl rfl rfl hc12 (R_neqD rfl rfl (P_some rfl (PL_t rfl (R_pick_F rfl hc12 rfl (P_some rfl (PL_nil (AN.done0 (by kernel_rfl) ?_)))))))))))))
              have e_ := Option.some.inj h1676
              subst e_
              exact ⟨!(decide (x5 = x6)), rfl, SubFr.of ⟨rfl, rfl, rfl, rfl, rfl, rfl, trivial⟩, SegSub.sel _ [some 1, some 2, some 0] 3, rfl⟩
            replace h1676 := cond_t hc12 h1676
            refine P_some rfl (PL_tN rfl rfl rfl hc12 (P_some rfl (PL_tN rfl rfl rfl hc12 (P_some rfl (PL_tN rfl rfl rfl hc12 (P_some rfl (PL_tN rfl rfl rfl hc12 (P_some rfl (PL_tN rfl rfl rfl hc12 (P_some rfl (PL_tN rfl rfl rfl hc12 (P_some rfl (PL_tN rfl rfl rfl hc12 ?_)))))))))))))
            refine P_some rfl (PL_tN rfl rfl rfl hc12 (P_some rfl (PL_tN rfl rfl rfl hc12 (P_some rfl (PL_tN rfl rfl rfl hc12 (P_some rfl (PL_t rfl (R_pick_T rfl hc12 rfl (P_some rfl (PL_nil (AN.done0 (by kernel_rfl) ?_)))))))))))
            have e_ := Option.some.inj h1676
            subst e_
            exact ⟨true, rfl, SubFr.of ⟨rfl, rfl, rfl, rfl, rfl, rfl, trivial⟩, SegSub.sel _ [some 1, some 2, some 0] 3, rfl⟩
          replace h1676 := cond_t hc11 h1676
          refine P_some rfl (PL_tN rfl rfl rfl hc11 (P_some rfl (PL_tN rfl rfl rfl hc11 (P_some rfl (PL_t rfl (R_pick_T rfl hc11 rfl (P_some rfl (PL_t rfl (R_move rfl (P_some rfl (PL_tN rfl rfl rfl rfl (P_some rfl (PL_tN rfl rfl rfl rfl ?_)))))))))))))
          refine P_some rfl (PL_tN rfl rfl rfl rfl (P_some rfl (PL_tN rfl rfl rfl rfl (P_some rfl (PL_tN rfl rfl rfl rfl (P_some rfl (PL_tN rfl rfl rfl rfl (P_some rfl (PL_tN rfl rfl rfl rfl (P_some rfl (PL_tN rfl rfl rfl rfl (P_some rfl (PL_tN rfl rfl rfl rfl ?_)))))))))))))
          refine P_some rfl (PL_tN rfl rfl rfl rfl (P_some rfl (PL_tN rfl rfl rfl rfl (P_some rfl (PL_t rfl (R_pick_T rfl rfl rfl (P_some rfl (PL_nil (AN.done0 (by kernel_rfl) ?_)))))))))
          have e_ := Option.some.inj h1676
          subst e_
          exact ⟨true, rfl, SubFr.of ⟨rfl, rfl, rfl, rfl, rfl, rfl, trivial⟩, SegSub.sel _ [some 1, some 2, some 0] 3, rfl⟩
        rintro fr1676 μ1676 L1676 hm1676 ⟨v3, ho1676, hF1676, hS1676, hu1676⟩
        subst ho1676
        subst hu1676
        refine hK1675 _ _ _ (WP.at hF1676 hS1676 ?_)
        refine W_cond_v (b := v3) rfl (fun hc15 => ?_) (fun hc15 => ?_)
        · replace h1667 := cond_t hc15 h1667
          refine WP.seq_k (fun K1677 hK1677 => WP.region Tt_ok (O_cons (O_read rfl (R_assign rfl (P_some rfl (O_nil (hK1677 _ _ _ (WP.ret ?_))))))))
          have e_ := Option.some.inj h1667
          subst e_
          replace hb1662 := osum_r hb1662
          have e_ := Option.some.inj hb1662
          subst e_
          have hq_ := hq1662 _ rfl
          subst hq_
          replace h := osum_r h
          have e_ := Option.some.inj h
          subst e_
          refine S_tmp rfl (S_nil (Upd.selS [] 3 ?_))
          exact Upd.done hR
        replace h1667 := cond_f hc15 h1667
        refine WP.skip (hK1674 _ _ _ (WP.seq_k (fun K1678 hK1678 => WP.region Tt_ok (O_cons (O_read rfl (R_assign rfl (P_some rfl (O_nil (hK1678 _ _ _ ?_)))))))))
        obtain ⟨o1679, h1679, h1667⟩ := obind h1667
        refine WP.cutK (fun fr_ μ_ L_ => ∃ (seen3 : (List Int)) (A7 : Option Addr) (c7 : Nat) (ch7 : Seg), (.inl seen3) = o1679 ∧ SubFr [(0, .slice A1 l1.length c1), (3, .slice A2 r2.length c2), (5, .slice A7 seen3.length c7), (6, .int .i64 i1)] fr_ ∧ SegSub (ch1 :: ch7 :: L) L_ ∧ Own rInt 3 μ_ (.slice A7 seen3.length c7) seen3 ch7 ∧ μ = μ_) ?_ ?_
        · refine WP.block (WP.iter h1679 (fun (j_ : (List Int) × Int) fr_ μ_ L_ => ounP j_ fun seen2 k1 => ∃ (A6 : Option Addr) (c6 : Nat) (ch5 : Seg), SubFr [(0, .slice A1 l1.length c1), (3, .slice A2 r2.length c2), (5, .slice A6 seen2.length c6), (6, .int .i64 i1), (7, .slice A5 r5.length c5), (9, .int .i64 k1)] fr_ ∧ SegSub (ch1 :: ch5 :: ch4 :: L) L_ ∧ Own rInt 3 μ_ (.slice A6 seen2.length c6) seen2 ch5 ∧ μ = μ_) ⟨A4, c4, ch3, SubFr.of ⟨rfl, rfl, rfl, rfl, rfl, rfl, trivial⟩, SegSub.sel _ [some 0, some 1, some 2] 3, (hO3), rfl⟩ ?_)
          rintro ⟨seen2, k1⟩ q1700 fr1700 μ1700 L1700 hm1700 ⟨A6, c6, ch5, hF1700, hS1700, hO5, hu1700⟩ hb1700 hq1700
          unfold recyclinglaw27_TicketChains_l1 at hb1700
          replace hb1700 := oun_mk hb1700
          subst hu1700
          refine WP.at hF1700 hS1700 (WP.seq_k (fun K1702 hK1702 => WP.seq_k (fun K1703 hK1703 => WP.region Tt_ok (O_cons (O_read rfl (R_move rfl (P_some rfl (O_cons (O_read rfl (R_move rfl (P_some rfl (O_cons (O_read rfl ?_)))))))))))))
          refine R_lenS rfl rfl rfl (P_some rfl (O_cons (O_read rfl (R_lssD rfl rfl (P_some rfl (O_nil (hK1703 _ _ _ ?_)))))))
          refine W_cond_v (b := (decide (k1 < ((r5.length : Nat) : Int)))) rfl (fun hc16 => ?_) (fun hc16 => ?_)
          · replace hb1700 := cond_t hc16 hb1700
            refine WP.skip (hK1702 _ _ _ (WP.seq_k (fun K1704 hK1704 => WP.block (WP.seq_k (fun K1705 hK1705 => WP.seq_k (fun K1706 hK1706 => ?_))))))
            obtain ⟨o1707, h1707, hb1700⟩ := obind hb1700
            refine WP.cutK (fun fr_ μ_ L_ => ∃ (v4 : Bool), v4 = o1707 ∧ SubFr [(0, .slice A1 l1.length c1), (3, .slice A2 r2.length c2), (5, .slice A6 seen2.length c6), (6, .int .i64 i1), (7, .slice A5 r5.length c5), (9, .int .i64 k1), (142, .bool v4)] fr_ ∧ SegSub (ch1 :: ch5 :: ch4 :: L) L_ ∧ μ = μ_) ?_ ?_
            · refine WP.drawn (id := 18) (l' := List.replicate 53 true) wide Tt_ok _ Kept.refl [(true, 0), (true, 1), (true, 2), (true, 3), (true, 4), (true, 5), (true, 6), (true, 7), (true, 8), (true, 9), (true, 10), (true, 11), (true, 12), (true, 13), (true, 14), (true, 15), (true, 16), (true, 17), (true, 18), (true, 19), (true, 20), (true, 21), (true, 22), (true, 23), (true, 24), (true, 25), (true, 26), (true, 27), (true, 28), (true, 29), (true, 30), (true, 31), (true, 32), (true, 33), (true, 34), (true, 35), (true, 36), (true, 37), (true, 38), (true, 39), (true, 40), (true, 41), (true, 42), (true, 43), (true, 44), (true, 45), (true, 46), (true, 47), (true, 48), (true, 49), (true, 50), (true, 51), (true, 52)] (by kernel_rfl) (by kernel_rfl) rfl ?_
              refine PL_t rfl (R_move rfl (P_some rfl (PL_t rfl (R_move rfl (P_some rfl (PL_t rfl ?_))))))
              obtain ⟨x7, hx11, h1707⟩ := obind h1707
              obtain ⟨a7, cs7, hA8, hr7, _, hc17⟩ := Rds.getI (Own.rds (L := (ch1 :: ch5 :: ch4 :: L)) hO4 2 rfl) hx11
              obtain rfl := hr7
              refine R_iaG rfl rfl rfl rfl rfl rfl ⟨(getI_lt hx11).1, (getI_lt hx11).2.1⟩ hA8 (P_some rfl (PL_t rfl (R_load rfl rfl rfl (Ex.mk _ (Cell.of_cells0 hc17 rfl) (P_some rfl (PL_t rfl (R_lssD rfl rfl (P_some rfl (PL_t rfl (R_move rfl (P_some rfl ?_)))))))))))
              refine PL_tv (z := (decide (x7 < 0))) rfl rfl rfl (fun hc18 => ?_) (fun hc18 => ?_)
              · replace h1707 := cond_f hc18 h1707
                refine R_move rfl (P_some rfl (PL_tY rfl rfl rfl hc18 (R_move rfl (P_some rfl (PL_tY rfl rfl rfl hc18 ?_)))))
                obtain ⟨x8, hx12, h1707⟩ := obind h1707
                obtain ⟨a8, cs8, hA9, hr8, _, hc19⟩ := Rds.getI (Own.rds (L := (ch1 :: ch5 :: ch4 :: L)) hO4 2 rfl) hx12
                obtain rfl := hr8
                refine R_iaG rfl rfl rfl rfl rfl rfl ⟨(getI_lt hx12).1, (getI_lt hx12).2.1⟩ hA9 (P_some rfl (PL_tY rfl rfl rfl hc18 (R_load rfl rfl rfl (Ex.mk _ (Cell.of_cells0 hc19 rfl) (P_some rfl (PL_tY rfl rfl rfl hc18 (R_move rfl (P_some rfl (PL_tY rfl rfl rfl hc18 (R_lenS rfl rfl rfl (P_some rfl (PL_tY rfl rfl rfl hc18 (R_geqD rfl rfl ?_)))))))))))))
                refine P_some rfl (PL_t rfl (R_pick_F rfl hc18 rfl (P_some rfl (PL_t rfl (R_move rfl (P_some rfl ?_))))))
                refine PL_tv (z := (decide (((l1.length : Nat) : Int) ≤ x8))) rfl rfl rfl (fun hc20 => ?_) (fun hc20 => ?_)
                · replace h1707 := cond_f hc20 h1707
                  refine R_move rfl (P_some rfl (PL_tY rfl rfl rfl hc20 (R_eqlD rfl rfl (P_some rfl (PL_tY rfl rfl rfl hc20 (R_move rfl (P_some rfl ?_)))))))
                  refine PL_tv (z := (decide (k1 = 0))) rfl rfl rfl (fun hc21 => ?_) (fun hc21 => ?_)
                  · replace h1707 := cond_t hc21 h1707
                    refine R_move rfl (P_some rfl (PL_tY rfl rfl rfl hc21 (R_move rfl (P_some rfl (PL_tY rfl rfl rfl hc21 (R_move rfl (P_some rfl (PL_tY rfl rfl rfl hc21 ?_))))))))
                    obtain ⟨x9, hx13, h1707⟩ := obind h1707
                    obtain ⟨a9, cs9, hA10, hr9, _, hc22⟩ := Rds.getI (Own.rds (L := (ch1 :: ch5 :: ch4 :: L)) hO4 2 rfl) hx13
                    obtain rfl := hr9
                    refine R_iaG rfl rfl rfl rfl rfl rfl ⟨(getI_lt hx13).1, (getI_lt hx13).2.1⟩ hA10 (P_some rfl (PL_tY rfl rfl rfl hc21 (R_load rfl rfl rfl (Ex.mk _ (Cell.of_cells0 hc22 rfl) (P_some rfl (PL_tY rfl rfl rfl hc21 ?_))))))
                    obtain ⟨x10, hx14, h1707⟩ := obind h1707
                    obtain ⟨a10, cs10, hA11, hr10, _, hc23⟩ := Rds.getI hA1 hx14
                    obtain rfl := hr10
                    refine R_iaG rfl rfl rfl rfl rfl rfl ⟨(getI_lt hx14).1, (getI_lt hx14).2.1⟩ hA11 (P_some rfl (PL_tY rfl rfl rfl hc21 (R_fa rfl rfl rfl rfl rfl (P_some rfl (PL_tY rfl rfl rfl hc21 (R_load rfl rfl rfl (Ex.mk _ (Cell.of_cells (hc23.push.push.push) 5 rfl) (P_some rfl (PL_tY rfl rfl rfl hc21 (R_neqD rfl rfl (P_some rfl (PL_tY rfl rfl rfl hc20 (R_pick_T rfl hc21 rfl ?_)))))))))))))
                    refine P_some rfl (PL_t rfl (R_pick_F rfl hc20 rfl (P_some rfl (PL_t rfl (R_move rfl (P_some rfl ?_))))))
                    refine PL_tv (z := !(decide (x10.Replaces = 0))) rfl rfl rfl (fun hc24 => ?_) (fun hc24 => ?_)
                    · replace h1707 := cond_f hc24 h1707
                      refine R_move rfl (P_some rfl (PL_tY rfl rfl rfl hc24 (R_gtrD rfl rfl (P_some rfl (PL_tY rfl rfl rfl hc24 (R_move rfl (P_some rfl ?_)))))))
                      refine PL_tv (z := (decide (0 < k1))) rfl rfl rfl (fun hc25 => ?_) (fun hc25 => ?_)
                      · replace h1707 := cond_t hc25 h1707
                        refine R_move rfl (P_some rfl (PL_tY rfl rfl rfl hc25 (R_move rfl (P_some rfl (PL_tY rfl rfl rfl hc25 (R_move rfl (P_some rfl (PL_tY rfl rfl rfl hc25 ?_))))))))
                        obtain ⟨x11, hx15, h1707⟩ := obind h1707
                        obtain ⟨a11, cs11, hA12, hr11, _, hc26⟩ := Rds.getI (Own.rds (L := (ch1 :: ch5 :: ch4 :: L)) hO4 2 rfl) hx15
                        obtain rfl := hr11
                        refine R_iaG rfl rfl rfl rfl rfl rfl ⟨(getI_lt hx15).1, (getI_lt hx15).2.1⟩ hA12 (P_some rfl (PL_tY rfl rfl rfl hc25 (R_load rfl rfl rfl (Ex.mk _ (Cell.of_cells0 hc26 rfl) (P_some rfl (PL_tY rfl rfl rfl hc25 ?_))))))
                        obtain ⟨x12, hx16, h1707⟩ := obind h1707
                        obtain ⟨a12, cs12, hA13, hr12, _, hc27⟩ := Rds.getI hA1 hx16
                        obtain rfl := hr12
                        refine R_iaG rfl rfl rfl rfl rfl rfl ⟨(getI_lt hx16).1, (getI_lt hx16).2.1⟩ hA13 (P_some rfl (PL_tY rfl rfl rfl hc25 (R_fa rfl rfl rfl rfl rfl (P_some rfl (PL_tY rfl rfl rfl hc25 (R_load rfl rfl rfl (Ex.mk _ (Cell.of_cells (hc27.push.push.push) 5 rfl) (P_some rfl (PL_tY rfl rfl rfl hc25 (R_move rfl (P_some rfl (PL_tY rfl rfl rfl hc25 (R_move rfl ?_)))))))))))))
                        refine P_some rfl (PL_tY rfl rfl rfl hc25 (R_move rfl (P_some rfl (PL_tY rfl rfl rfl hc25 (R_sub rfl rfl (P_some rfl (PL_tY rfl rfl rfl hc25 ?_)))))))
                        obtain ⟨x13, hx17, h1707⟩ := obind h1707
                        obtain ⟨a13, cs13, hA14, hr13, _, hc28⟩ := Rds.getI (Own.rds (L := (ch1 :: ch5 :: ch4 :: L)) hO4 2 rfl) hx17
                        obtain rfl := hr13
                        refine R_iaG rfl rfl rfl rfl rfl rfl ⟨(getI_lt hx17).1, (getI_lt hx17).2.1⟩ hA14 (P_some rfl (PL_tY rfl rfl rfl hc25 (R_load rfl rfl rfl (Ex.mk _ (Cell.of_cells0 hc28 rfl) (P_some rfl (PL_tY rfl rfl rfl hc25 ?_))))))
                        obtain ⟨x14, hx18, h1707⟩ := obind h1707
                        obtain ⟨a14, cs14, hA15, hr14, _, hc29⟩ := Rds.getI hA1 hx18
                        obtain rfl := hr14
                        refine R_iaG rfl rfl rfl rfl rfl rfl ⟨(getI_lt hx18).1, (getI_lt hx18).2.1⟩ hA15 (P_some rfl (PL_tY rfl rfl rfl hc25 (R_faz rfl rfl rfl rfl rfl (P_some rfl (PL_tY rfl rfl rfl hc25 (R_load rfl rfl rfl (Ex.mk _ (Cell.of_cells0 (hc29.push.push.push) rfl) (P_some rfl (PL_tY rfl rfl rfl hc25 (R_neqD rfl rfl (P_some rfl (PL_tY rfl rfl rfl hc24 (R_pick_T rfl hc25 rfl ?_)))))))))))))
                        refine P_some rfl (PL_t rfl (R_pick_F rfl hc24 rfl (P_some rfl (PL_nil (AN.done0 (by kernel_rfl) ?_)))))
                        have e_ := Option.some.inj h1707
                        subst e_
                        exact ⟨!(decide (x12.Replaces = x14.ID)), rfl, SubFr.of ⟨rfl, rfl, rfl, rfl, rfl, rfl, rfl, trivial⟩, SegSub.sel _ [some 0, some 1, some 2] 3, rfl⟩
                      replace h1707 := cond_f hc25 h1707
                      refine P_some rfl (PL_tN rfl rfl rfl hc25 (P_some rfl (PL_tN rfl rfl rfl hc25 (P_some rfl (PL_tN rfl rfl rfl hc25 (P_some rfl (PL_tN rfl rfl rfl hc25 (P_some rfl (PL_tN rfl rfl rfl hc25 (P_some rfl (PL_tN rfl rfl rfl hc25 (P_some rfl (PL_tN rfl rfl rfl hc25 ?_)))))))))))))
                      refine P_some rfl (PL_tN rfl rfl rfl hc25 (P_some rfl (PL_tN rfl rfl rfl hc25 (P_some rfl (PL_tN rfl rfl rfl hc25 (P_some rfl (PL_tN rfl rfl rfl hc25 (P_some rfl (PL_tN rfl rfl rfl hc25 (P_some rfl (PL_tN rfl rfl rfl hc25 (P_some rfl (PL_tN rfl rfl rfl hc25 ?_)))))))))))))
                      refine P_some rfl (PL_tN rfl rfl rfl hc25 (P_some rfl (PL_tN rfl rfl rfl hc25 (P_some rfl (PL_tN rfl rfl rfl hc25 (P_some rfl (PL_tY rfl rfl rfl hc24 (R_pick_F rfl hc25 rfl (P_some rfl (PL_t rfl (R_pick_F rfl hc24 rfl (P_some rfl (PL_nil ?_)))))))))))))
                      apply AN.done0; kernel_rfl
                      have e_ := Option.some.inj h1707
                      subst e_
                      exact ⟨false, rfl, SubFr.of ⟨rfl, rfl, rfl, rfl, rfl, rfl, rfl, trivial⟩, SegSub.sel _ [some 0, some 1, some 2] 3, rfl⟩
                    replace h1707 := cond_t hc24 h1707
                    refine P_some rfl (PL_tN rfl rfl rfl hc24 (P_some rfl (PL_tN rfl rfl rfl hc24 (P_some rfl (PL_tu rfl rfl rfl (P_some rfl (PL_tu rfl rfl rfl (P_some rfl (PL_tu rfl rfl rfl (P_some rfl (PL_tu rfl rfl rfl (P_some rfl (PL_tu rfl rfl rfl ?_)))))))))))))
                    refine P_some rfl (PL_tu rfl rfl rfl (P_some rfl (PL_tu rfl rfl rfl (P_some rfl (PL_tu rfl rfl rfl (P_some rfl (PL_tu rfl rfl rfl (P_some rfl (PL_tu rfl rfl rfl (P_some rfl (PL_tu rfl rfl rfl (P_some rfl (PL_tu rfl rfl rfl ?_)))))))))))))
                    refine P_some rfl (PL_tu rfl rfl rfl (P_some rfl (PL_tu rfl rfl rfl (P_some rfl (PL_tu rfl rfl rfl (P_some rfl (PL_tu rfl rfl rfl (P_some rfl (PL_tu rfl rfl rfl (P_some rfl (PL_tu rfl rfl rfl (P_some rfl (PL_tN rfl rfl rfl hc24 ?_)))))))))))))
                    refine P_some rfl (PL_t rfl (R_pick_T rfl hc24 rfl (P_some rfl (PL_nil (AN.done0 (by kernel_rfl) ?_)))))
                    have e_ := Option.some.inj h1707
                    subst e_
                    exact ⟨true, rfl, SubFr.of ⟨rfl, rfl, rfl, rfl, rfl, rfl, rfl, trivial⟩, SegSub.sel _ [some 0, some 1, some 2] 3, rfl⟩
                  replace h1707 := cond_f hc21 h1707
                  refine P_some rfl (PL_tN rfl rfl rfl hc21 (P_some rfl (PL_tN rfl rfl rfl hc21 (P_some rfl (PL_tN rfl rfl rfl hc21 (P_some rfl (PL_tN rfl rfl rfl hc21 (P_some rfl (PL_tN rfl rfl rfl hc21 (P_some rfl (PL_tN rfl rfl rfl hc21 (P_some rfl (PL_tN rfl rfl rfl hc21 ?_)))))))))))))
                  refine P_some rfl (PL_tN rfl rfl rfl hc21 (P_some rfl (PL_tY rfl rfl rfl hc20 (R_pick_F rfl hc21 rfl (P_some rfl (PL_t rfl (R_pick_F rfl hc20 rfl (P_some rfl (PL_t rfl (R_move rfl (P_some rfl (PL_tY rfl rfl rfl rfl (R_move rfl ?_)))))))))))))
                  refine P_some rfl (PL_tY rfl rfl rfl rfl (R_gtrD rfl rfl (P_some rfl (PL_tY rfl rfl rfl rfl (R_move rfl (P_some rfl ?_))))))
                  refine PL_tv (z := (decide (0 < k1))) rfl rfl rfl (fun hc30 => ?_) (fun hc30 => ?_)
                  · replace h1707 := cond_t hc30 h1707
                    refine R_move rfl (P_some rfl (PL_tY rfl rfl rfl hc30 (R_move rfl (P_some rfl (PL_tY rfl rfl rfl hc30 (R_move rfl (P_some rfl (PL_tY rfl rfl rfl hc30 ?_))))))))
                    obtain ⟨x15, hx19, h1707⟩ := obind h1707
                    obtain ⟨a15, cs15, hA16, hr15, _, hc31⟩ := Rds.getI (Own.rds (L := (ch1 :: ch5 :: ch4 :: L)) hO4 2 rfl) hx19
                    obtain rfl := hr15
                    refine R_iaG rfl rfl rfl rfl rfl rfl ⟨(getI_lt hx19).1, (getI_lt hx19).2.1⟩ hA16 (P_some rfl (PL_tY rfl rfl rfl hc30 (R_load rfl rfl rfl (Ex.mk _ (Cell.of_cells0 hc31 rfl) (P_some rfl (PL_tY rfl rfl rfl hc30 ?_))))))
                    obtain ⟨x16, hx20, h1707⟩ := obind h1707
                    obtain ⟨a16, cs16, hA17, hr16, _, hc32⟩ := Rds.getI hA1 hx20
                    obtain rfl := hr16
                    refine R_iaG rfl rfl rfl rfl rfl rfl ⟨(getI_lt hx20).1, (getI_lt hx20).2.1⟩ hA17 (P_some rfl (PL_tY rfl rfl rfl hc30 (R_fa rfl rfl rfl rfl rfl (P_some rfl (PL_tY rfl rfl rfl hc30 (R_load rfl rfl rfl (Ex.mk _ (Cell.of_cells (hc32.push.push.push) 5 rfl) (P_some rfl (PL_tY rfl rfl rfl hc30 (R_move rfl (P_some rfl (PL_tY rfl rfl rfl hc30 (R_move rfl ?_)))))))))))))
                    refine P_some rfl (PL_tY rfl rfl rfl hc30 (R_move rfl (P_some rfl (PL_tY rfl rfl rfl hc30 (R_sub rfl rfl (P_some rfl (PL_tY rfl rfl rfl hc30 ?_)))))))
                    obtain ⟨x17, hx21, h1707⟩ := obind h1707
                    obtain ⟨a17, cs17, hA18, hr17, _, hc33⟩ := Rds.getI (Own.rds (L := (ch1 :: ch5 :: ch4 :: L)) hO4 2 rfl) hx21
                    obtain rfl := hr17
                    refine R_iaG rfl rfl rfl rfl rfl rfl ⟨(getI_lt hx21).1, (getI_lt hx21).2.1⟩ hA18 (P_some rfl (PL_tY rfl rfl rfl hc30 (R_load rfl rfl rfl (Ex.mk _ (Cell.of_cells0 hc33 rfl) (P_some rfl (PL_tY rfl rfl rfl hc30 ?_))))))
                    obtain ⟨x18, hx22, h1707⟩ := obind h1707
                    obtain ⟨a18, cs18, hA19, hr18, _, hc34⟩ := Rds.getI hA1 hx22
                    obtain rfl := hr18
                    refine R_iaG rfl rfl rfl rfl rfl rfl ⟨(getI_lt hx22).1, (getI_lt hx22).2.1⟩ hA19 (P_some rfl (PL_tY rfl rfl rfl hc30 (R_faz rfl rfl rfl rfl rfl (P_some rfl (PL_tY rfl rfl rfl hc30 (R_load rfl rfl rfl (Ex.mk _ (Cell.of_cells0 (hc34.push.push.push) rfl) (P_some rfl (PL_tY rfl rfl rfl hc30 (R_neqD rfl rfl (P_some rfl (PL_tY rfl rfl rfl rfl (R_pick_T rfl hc30 rfl ?_)))))))))))))
                    refine P_some rfl (PL_t rfl (R_pick_F rfl rfl rfl (P_some rfl (PL_nil (AN.done0 (by kernel_rfl) ?_)))))
                    have e_ := Option.some.inj h1707
                    subst e_
                    exact ⟨!(decide (x16.Replaces = x18.ID)), rfl, SubFr.of ⟨rfl, rfl, rfl, rfl, rfl, rfl, rfl, trivial⟩, SegSub.sel _ [some 0, some 1, some 2] 3, rfl⟩
                  replace h1707 := cond_f hc30 h1707
                  refine P_some rfl (PL_tN rfl rfl rfl hc30 (P_some rfl (PL_tN rfl rfl rfl hc30 (P_some rfl (PL_tN rfl rfl rfl hc30 (P_some rfl (PL_tN rfl rfl rfl hc30 (P_some rfl (PL_tN rfl rfl rfl hc30 (P_some rfl (PL_tN rfl rfl rfl hc30 (P_some rfl (PL_tN rfl rfl rfl hc30 ?_)))))))))))))
                  refine P_some rfl (PL_tN rfl rfl rfl hc30 (P_some rfl (PL_tN rfl rfl rfl hc30 (P_some rfl (PL_tN rfl rfl rfl hc30 (P_some rfl (PL_tN rfl rfl rfl hc30 (P_some rfl (PL_tN rfl rfl rfl hc30 (P_some rfl (PL_tN rfl rfl rfl hc30 (P_some rfl (PL_tN rfl rfl rfl hc30 ?_)))))))))))))
                  refine P_some rfl (PL_tN rfl rfl rfl hc30 (P_some rfl (PL_tN rfl rfl rfl hc30 (P_some rfl (PL_tN rfl rfl rfl hc30 (P_some rfl (PL_tY rfl rfl rfl rfl (R_pick_F rfl hc30 rfl (P_some rfl (PL_t rfl (R_pick_F rfl rfl rfl (P_some rfl (PL_nil ?_)))))))))))))
                  apply AN.done0; kernel_rfl
                  have e_ := Option.some.inj h1707
                  subst e_
                  exact ⟨false, rfl, SubFr.of ⟨rfl, rfl, rfl, rfl, rfl, rfl, rfl, trivial⟩, SegSub.sel _ [some 0, some 1, some 2] 3, rfl⟩
                replace h1707 := cond_t hc20 h1707
                refine P_some rfl (PL_tN rfl rfl rfl hc20 (P_some rfl (PL_tN rfl rfl rfl hc20 (P_some rfl (PL_tu rfl rfl rfl (P_some rfl (PL_tu rfl rfl rfl (P_some rfl (PL_tu rfl rfl rfl (P_some rfl (PL_tu rfl rfl rfl (P_some rfl (PL_tu rfl rfl rfl ?_)))))))))))))
                refine P_some rfl (PL_tu rfl rfl rfl (P_some rfl (PL_tu rfl rfl rfl (P_some rfl (PL_tu rfl rfl rfl (P_some rfl (PL_tu rfl rfl rfl (P_some rfl (PL_tN rfl rfl rfl hc20 (P_some rfl (PL_t rfl (R_pick_T rfl hc20 rfl (P_some rfl ?_)))))))))))))
                refine PL_t rfl (R_move rfl (P_some rfl (PL_tN rfl rfl rfl rfl (P_some rfl (PL_tN rfl rfl rfl rfl (P_some rfl (PL_tN rfl rfl rfl rfl (P_some rfl (PL_tu rfl rfl rfl (P_some rfl (PL_tu rfl rfl rfl (P_some rfl (PL_tu rfl rfl rfl ?_)))))))))))))
                refine P_some rfl (PL_tu rfl rfl rfl (P_some rfl (PL_tu rfl rfl rfl (P_some rfl (PL_tu rfl rfl rfl (P_some rfl (PL_tu rfl rfl rfl (P_some rfl (PL_tu rfl rfl rfl (P_some rfl (PL_tu rfl rfl rfl (P_some rfl (PL_tu rfl rfl rfl ?_)))))))))))))
                refine P_some rfl (PL_tu rfl rfl rfl (P_some rfl (PL_tu rfl rfl rfl (P_some rfl (PL_tu rfl rfl rfl (P_some rfl (PL_tu rfl rfl rfl (P_some rfl (PL_tu rfl rfl rfl (P_some rfl (PL_tu rfl rfl rfl (P_some rfl (PL_tu rfl rfl rfl ?_)))))))))))))
                refine P_some rfl (PL_tu rfl rfl rfl (P_some rfl (PL_tN rfl rfl rfl rfl (P_some rfl (PL_t rfl (R_pick_T rfl rfl rfl (P_some rfl (PL_nil (AN.done0 (by kernel_rfl) ?_)))))))))
                have e_ := Option.some.inj h1707
                subst e_
                exact ⟨true, rfl, SubFr.of ⟨rfl, rfl, rfl, rfl, rfl, rfl, rfl, trivial⟩, SegSub.sel _ [some 0, some 1, some 2] 3, rfl⟩
              replace h1707 := cond_t hc18 h1707
              refine P_some rfl (PL_tN rfl rfl rfl hc18 (P_some rfl (PL_tN rfl rfl rfl hc18 (P_some rfl (PL_tN rfl rfl rfl hc18 (P_some rfl (PL_tN rfl rfl rfl hc18 (P_some rfl (PL_tN rfl rfl rfl hc18 (P_some rfl (PL_tN rfl rfl rfl hc18 (P_some rfl (PL_t rfl ?_)))))))))))))
              refine R_pick_T rfl hc18 rfl (P_some rfl (PL_t rfl (R_move rfl (P_some rfl (PL_tN rfl rfl rfl rfl (P_some rfl (PL_tN rfl rfl rfl rfl (P_some rfl (PL_tN rfl rfl rfl rfl (P_some rfl (PL_tu rfl rfl rfl (P_some rfl (PL_tu rfl rfl rfl ?_)))))))))))))
              refine P_some rfl (PL_tu rfl rfl rfl (P_some rfl (PL_tu rfl rfl rfl (P_some rfl (PL_tu rfl rfl rfl (P_some rfl (PL_tu rfl rfl rfl (P_some rfl (PL_tu rfl rfl rfl (P_some rfl (PL_tu rfl rfl rfl (P_some rfl (PL_tu rfl rfl rfl ?_)))))))))))))
              refine P_some rfl (PL_tN rfl rfl rfl rfl (P_some rfl (PL_t rfl (R_pick_T rfl rfl rfl (P_some rfl (PL_t rfl (R_move rfl (P_some rfl (PL_tN rfl rfl rfl rfl (P_some rfl (PL_tN rfl rfl rfl rfl (P_some rfl (PL_tN rfl rfl rfl rfl ?_)))))))))))))
              refine P_some rfl (PL_tu rfl rfl rfl (P_some rfl (PL_tu rfl rfl rfl (P_some rfl (PL_tu rfl rfl rfl (P_some rfl (PL_tu rfl rfl rfl (P_some rfl (PL_tu rfl rfl rfl (P_some rfl (PL_tu rfl rfl rfl (P_some rfl (PL_tu rfl rfl rfl ?_)))))))))))))
              refine P_some rfl (PL_tu rfl rfl rfl (P_some rfl (PL_tu rfl rfl rfl (P_some rfl (PL_tu rfl rfl rfl (P_some rfl (PL_tu rfl rfl rfl (P_some rfl (PL_tu rfl rfl rfl (P_some rfl (PL_tu rfl rfl rfl (P_some rfl (PL_tu rfl rfl rfl ?_)))))))))))))
              refine P_some rfl (PL_tu rfl rfl rfl (P_some rfl (PL_tu rfl rfl rfl (P_some rfl (PL_tu rfl rfl rfl (P_some rfl (PL_tu rfl rfl rfl (P_some rfl (PL_tN rfl rfl rfl rfl (P_some rfl (PL_t rfl (R_pick_T rfl rfl rfl (P_some rfl ?_)))))))))))))
              refine PL_nil (AN.done0 (by kernel_rfl) ?_)
              have e_ := Option.some.inj h1707
              subst e_
              exact ⟨true, rfl, SubFr.of ⟨rfl, rfl, rfl, rfl, rfl, rfl, rfl, trivial⟩, SegSub.sel _ [some 0, some 1, some 2] 3, rfl⟩
            rintro fr1707 μ1707 L1707 hm1707 ⟨v4, ho1707, hF1707, hS1707, hu1707⟩
            subst ho1707
            subst hu1707
            refine hK1706 _ _ _ (WP.at hF1707 hS1707 ?_)
            refine W_cond_v (b := v4) rfl (fun hc35 => ?_) (fun hc35 => ?_)
            · replace hb1700 := cond_t hc35 hb1700
              refine WP.seq_k (fun K1708 hK1708 => WP.region Tt_ok (O_cons (O_read rfl (R_assign rfl (P_some rfl (O_nil (hK1708 _ _ _ (WP.ret ?_))))))))
              have e_ := Option.some.inj hb1700
              subst e_
              have hq_ := hq1700 _ rfl
              subst hq_
              replace h1667 := osum_r h1667
              have e_ := Option.some.inj h1667
              subst e_
              replace hb1662 := osum_r hb1662
              have e_ := Option.some.inj hb1662
              subst e_
              have hq_ := hq1662 _ rfl
              subst hq_
              replace h := osum_r h
              have e_ := Option.some.inj h
              subst e_
              refine S_tmp rfl (S_nil (Upd.selS [] 3 ?_))
              exact Upd.done hR
            replace hb1700 := cond_f hc35 hb1700
            refine WP.skip (hK1705 _ _ _ (WP.drawn (id := 20) (l' := List.replicate 15 true) wide Tt_ok (ch1 :: ch4 :: L) (Kept.ofT (keep := [ch1, ch4]) (A := [ch1, ch5, ch4]) (by simp)) [(true, 0), (true, 1), (true, 2), (true, 3), (true, 4), (true, 5), (true, 6), (true, 7), (true, 8), (true, 9), (false, 10), (false, 11), (true, 12), (false, 13), (false, 14)] (by kernel_rfl) (by kernel_rfl) rfl (PL_t rfl (R_move rfl (P_some rfl (PL_t rfl (R_move rfl (P_some rfl (PL_t rfl (R_move rfl (P_some rfl (PL_t rfl ?_))))))))))))
            obtain ⟨x19, hx23, hb1700⟩ := obind hb1700
            obtain ⟨a19, cs19, hA20, hr19, _, hc36⟩ := Rds.getI (Own.rds (L := (ch1 :: ch4 :: L)) hO4 1 rfl) hx23
            obtain rfl := hr19
            refine R_iaG rfl rfl rfl rfl rfl rfl ⟨(getI_lt hx23).1, (getI_lt hx23).2.1⟩ hA20 (P_some rfl (PL_t rfl (R_load rfl rfl rfl (Ex.mk _ (Cell.of_cells0 hc36 rfl) (P_some rfl (PL_t rfl (R_move rfl (P_some rfl (PL_t rfl (R_move rfl (P_some rfl (PL_t rfl (R_move rfl ?_)))))))))))))
            refine P_some rfl (PL_t rfl ?_)
            obtain ⟨x20, hx24, hb1700⟩ := obind hb1700
            obtain ⟨a20, cs20, hA21, hr20, _, hc37⟩ := Rds.getI (Own.rds (L := (ch1 :: ch4 :: L)) hO4 1 rfl) hx24
            obtain rfl := hr20
            refine R_iaG rfl rfl rfl rfl rfl rfl ⟨(getI_lt hx24).1, (getI_lt hx24).2.1⟩ hA21 (P_some rfl (PL_t rfl (R_load rfl rfl rfl (Ex.mk _ (Cell.of_cells0 hc37 rfl) (P_some rfl (PL_f rfl ?_))))))
            obtain ⟨x21, hx25, hb1700⟩ := obind hb1700
            obtain ⟨a21, cs21, hA22, hr21, _, hc38⟩ := Rds.getI (Own.rds (L := (ch1 :: ch5 :: ch4 :: L)) hO5 1 rfl) hx25
            obtain rfl := hr21
            refine O_read rfl (R_iaG rfl rfl rfl rfl rfl rfl ⟨(getI_lt hx25).1, (getI_lt hx25).2.1⟩ hA22 ?_)
            refine ⟨Kept.ofT (keep := [ch1, ch4]) (A := [ch1, ch5, ch4]) (by simp), ?_⟩
            refine P_some rfl (PL_f rfl (O_read rfl (R_load rfl rfl rfl (Ex.mk _ (Cell.of_cells0 hc38 rfl) ?_))))
            refine ⟨Kept.ofT (keep := [ch1, ch4]) (A := [ch1, ch5, ch4]) (by simp), ?_⟩
            refine P_some rfl (PL_t rfl (R_add rfl rfl (P_some rfl (PL_f rfl ?_))))
            obtain ⟨x22, hx26, hb1700⟩ := obind hb1700
            obtain ⟨a22, cs22, hA23, hr22, _, hc39⟩ := Rds.getI (Own.rds (L := (ch1 :: ch5 :: ch4 :: L)) hO5 1 rfl) hx26
            obtain rfl := hr22
            refine O_read rfl (R_iaG rfl rfl rfl rfl rfl rfl ⟨(getI_lt hx26).1, (getI_lt hx26).2.1⟩ hA23 ?_)
            refine ⟨Kept.ofT (keep := [ch1, ch4]) (A := [ch1, ch5, ch4]) (by simp), ?_⟩
            refine P_some rfl (PL_f rfl (O_store (vs := [.int .i64 (w64 (x21 + 1))]) rfl rfl rfl rfl rfl rfl ?_))
            rw [← Addr.add_zero' ((a22.add (x19.toNat * 1)))]
            refine Own.store (r := rInt) (x' := w64 (x21 + 1)) (o := 0) (sz := 1) 1 rfl hO5 hA23 hx26 rfl rfl (by rintro _ rfl; rfl) fun ch6 hO6 => ?_
            rw [← length_setI seen2 x19 (w64 (x21 + 1))] at hO6 ⊢
            refine ⟨Kept.ofT (keep := [ch1, ch4]) (A := [ch1, ch6, ch4]) (by simp), ?_⟩
            refine P_none (PL_nil (AN.done0 (by kernel_rfl) (hK1704 _ _ _ (WP.region Tt_ok (O_cons (O_read rfl (R_move rfl (P_some rfl (O_cons (O_read rfl (R_add rfl rfl (P_some rfl (O_cons ?_)))))))))))))
            refine O_read rfl (R_assign rfl (P_some rfl (O_nil ?_)))
            have e_ := Option.some.inj hb1700
            subst e_
            exact ⟨_, rfl, A6, c6, ch6, SubFr.of ⟨rfl, rfl, rfl, rfl, rfl, rfl, trivial⟩, SegSub.sel _ [some 0, some 1, some 2] 3, (hO6), rfl⟩
          replace hb1700 := cond_f hc16 hb1700
          refine WP.exit (B_here ?_)
          have e_ := Option.some.inj hb1700
          subst e_
          have hq_ := hq1700 _ rfl
          subst hq_
          exact ⟨seen2, A6, c6, ch5, rfl, SubFr.of ⟨rfl, rfl, rfl, rfl, trivial⟩, SegSub.sel _ [some 0, some 1] 3, (hO5), rfl⟩
        rintro fr1679 μ1679 L1679 hm1679 ⟨seen3, A7, c7, ch7, ho1679, hF1679, hS1679, hO7, hu1679⟩
        subst ho1679
        replace h1667 := osum_l h1667
        subst hu1679
        have e_ := Option.some.inj h1667
        subst e_
        exact ⟨seen3, A7, c7, ch7, rfl, SubFr.trans (fr := [(0, .slice A1 l1.length c1), (3, .slice A2 r2.length c2), (5, .slice A7 seen3.length c7), (6, .int .i64 i1)]) (SubFr.of ⟨rfl, rfl, rfl, rfl, trivial⟩) hF1679, SegSub.trans (M := (ch1 :: ch7 :: L)) (SegSub.sel _ [some 0, some 1] 2) hS1679, (hO7), rfl⟩
      rintro fr1667 μ1667 L1667 hm1667 ⟨seen4, A8, c8, ch8, ho1667, hF1667, hS1667, hO8, hu1667⟩
      subst ho1667
      replace hb1662 := osum_l hb1662
      subst hu1667
      refine hK1666 _ _ _ (WP.at hF1667 hS1667 (WP.region Tt_ok (O_cons (O_read rfl (R_move rfl (P_some rfl (O_cons (O_read rfl (R_add rfl rfl (P_some rfl (O_cons (O_read rfl (R_assign rfl ?_)))))))))))))
      refine P_some rfl (O_nil ?_)
      have e_ := Option.some.inj hb1662
      subst e_
      exact ⟨_, rfl, A8, c8, ch8, SubFr.of ⟨rfl, rfl, rfl, rfl, trivial⟩, SegSub.sel _ [some 0, some 1] 2, (hO8), rfl⟩
    replace hb1662 := cond_f hc4 hb1662
    refine WP.exit (B_here ?_)
    have e_ := Option.some.inj hb1662
    subst e_
    have hq_ := hq1662 _ rfl
    subst hq_
    exact ⟨seen1, A4, c4, ch3, rfl, SubFr.of ⟨rfl, trivial⟩, SegSub.sel _ [some 1] 2, (hO3), rfl⟩
  rintro fr1601 μ1601 L1601 hm1601 ⟨seen5, A9, c9, ch9, ho1601, hF1601, hS1601, hO9, hu1601⟩
  subst ho1601
  replace h := osum_l h
  subst hu1601
  refine hK1599 _ _ _ (WP.at hF1601 hS1601 (WP.seq_k (fun K1724 hK1724 => WP.seq_k (fun K1725 hK1725 => WP.region Tt_ok (O_cons (O_read rfl (R_assign rfl (P_some rfl (O_nil (hK1725 _ _ _ ?_))))))))))
  obtain ⟨o1726, h1726, h⟩ := obind h
  refine WP.cutK (fun fr_ μ_ L_ => (.inl ()) = o1726 ∧ SubFr [] fr_ ∧ SegSub (L) L_ ∧ μ = μ_) ?_ ?_
  · refine WP.block (WP.iter h1726 (fun (i2 : Int) fr_ μ_ L_ => SubFr [(5, .slice A9 seen5.length c9), (10, .int .i64 i2)] fr_ ∧ SegSub (ch9 :: L) L_ ∧ μ = μ_) ⟨SubFr.of ⟨rfl, rfl, trivial⟩, SegSub.sel _ [some 0] 1, rfl⟩ ?_)
    rintro i2 q1733 fr1733 μ1733 L1733 hm1733 ⟨hF1733, hS1733, hu1733⟩ hb1733 hq1733
    unfold recyclinglaw27_TicketChains_l3 at hb1733
    subst hu1733
    refine WP.at hF1733 hS1733 (WP.seq_k (fun K1734 hK1734 => WP.seq_k (fun K1735 hK1735 => WP.region Tt_ok (O_cons (O_read rfl (R_move rfl (P_some rfl (O_cons (O_read rfl (R_move rfl (P_some rfl (O_cons (O_read rfl ?_)))))))))))))
    refine R_lenS rfl rfl rfl (P_some rfl (O_cons (O_read rfl (R_lssD rfl rfl (P_some rfl (O_nil (hK1735 _ _ _ ?_)))))))
    refine W_cond_v (b := (decide (i2 < ((seen5.length : Nat) : Int)))) rfl (fun hc40 => ?_) (fun hc40 => ?_)
    · replace hb1733 := cond_t hc40 hb1733
      refine WP.skip (hK1734 _ _ _ (WP.seq_k (fun K1736 hK1736 => WP.block (WP.seq_k (fun K1737 hK1737 => WP.region Tt_ok (O_cons (O_read rfl (R_move rfl (P_some rfl (O_cons (O_read rfl (R_move rfl (P_some rfl ?_)))))))))))))
      apply O_cons
      obtain ⟨x23, hx27, hb1733⟩ := obind hb1733
      obtain ⟨a23, cs23, hA24, hr23, _, hc41⟩ := Rds.getI (Own.rds (L := (ch9 :: L)) hO9 0 rfl) hx27
      obtain rfl := hr23
      refine O_read rfl (R_iaG rfl rfl rfl rfl rfl rfl ⟨(getI_lt hx27).1, (getI_lt hx27).2.1⟩ hA24 (P_some rfl (O_cons (O_read rfl (R_load rfl rfl rfl (Ex.mk _ (Cell.of_cells0 hc41 rfl) (P_some rfl (O_cons (O_read rfl (R_neqD rfl rfl (P_some rfl (O_nil (hK1737 _ _ _ ?_)))))))))))))
      refine W_cond_v (b := !(decide (x23 = 1))) rfl (fun hc42 => ?_) (fun hc42 => ?_)
      · replace hb1733 := cond_t hc42 hb1733
        refine WP.seq_k (fun K1738 hK1738 => WP.region Tt_ok (O_cons (O_read rfl (R_assign rfl (P_some rfl (O_nil (hK1738 _ _ _ (WP.ret ?_))))))))
        have e_ := Option.some.inj hb1733
        subst e_
        have hq_ := hq1733 _ rfl
        subst hq_
        replace h := osum_r h
        have e_ := Option.some.inj h
        subst e_
        refine S_tmp rfl (S_nil (Upd.selS [] 1 ?_))
        exact Upd.done hR
      replace hb1733 := cond_f hc42 hb1733
      refine WP.skip (hK1736 _ _ _ (WP.region Tt_ok (O_cons (O_read rfl (R_move rfl (P_some rfl (O_cons (O_read rfl (R_add rfl rfl (P_some rfl (O_cons (O_read rfl (R_assign rfl ?_)))))))))))))
      refine P_some rfl (O_nil ?_)
      have e_ := Option.some.inj hb1733
      subst e_
      exact ⟨_, rfl, SubFr.of ⟨rfl, rfl, trivial⟩, SegSub.sel _ [some 0] 1, rfl⟩
    replace hb1733 := cond_f hc40 hb1733
    refine WP.exit (B_here ?_)
    have e_ := Option.some.inj hb1733
    subst e_
    have hq_ := hq1733 _ rfl
    subst hq_
    exact ⟨rfl, SubFr.of trivial, SegSub.sel _ [] 1, rfl⟩
  rintro fr1726 μ1726 L1726 hm1726 ⟨ho1726, hF1726, hS1726, hu1726⟩
  subst ho1726
  replace h := osum_l h
  subst hu1726
  refine hK1724 _ _ _ (WP.at hF1726 hS1726 (WP.seq_k (fun K1739 hK1739 => WP.region Tt_ok (O_cons (O_call (all := []) rfl rfl rfl ?_)))))
  obtain ⟨r7, hx28, h⟩ := obind h
  refine recyclinglaw27_awake_fn  hx28 ((P_some rfl (O_cons (O_read rfl (R_assign rfl (P_some rfl (O_nil (hK1739 _ _ _ (WP.ret ?_)))))))))
  have e_ := Option.some.inj h
  subst e_
  refine S_tmp rfl (S_nil (Upd.selS [] 0 ?_))
  exact Upd.done hR

theorem recyclinglaw27_unused_fn {μ : Gh} {L : List Seg} {R : Value → Gh → List Seg → Prop}  {l1 : (List T_api_Ticket)} {A1 : Option Addr} {c1 : Nat} {res1 : Int}
    (hl1 : l1.length ≤ c1 ∧ c1 ≤ maxLen) (hA1 : Rds r_api_Ticket μ L A1 l1) (h : recyclinglaw27_unused l1 = some res1)
    (hR : R (.int .i64 res1) μ (L)) :
    Fn Try.prog 24 [.slice A1 l1.length c1] μ (L) R := by
  unfold recyclinglaw27_unused at h
  refine Fn.of_body Tt_ok Try.func24 (by kernel_rfl) rfl Try.ntmps24 (by simp) ?_
  simp only [Try.f24, argFr, List.zipIdx, List.map, Nat.reduceAdd]
  refine WP.seq_k (fun K1781 hK1781 => WP.region Tt_ok (O_cons (O_read rfl (R_assign rfl (P_some rfl (O_nil (hK1781 _ _ _ (WP.seq_k (fun K1782 hK1782 => WP.region Tt_ok (O_cons (O_read rfl (R_assign rfl (P_some rfl ?_)))))))))))))
  refine O_nil (hK1782 _ _ _ (WP.seq_k (fun K1783 hK1783 => WP.seq_k (fun K1784 hK1784 => WP.region Tt_ok (O_cons (O_read rfl (R_assign rfl (P_some rfl (O_nil (hK1784 _ _ _ ?_))))))))))
  obtain ⟨o1785, h1785, h⟩ := obind h
  refine WP.cutK (fun fr_ μ_ L_ => ∃ (id6 : Int), id6 = o1785 ∧ SubFr [(3, .int .i64 id6)] fr_ ∧ SegSub (L) L_ ∧ μ = μ_) ?_ ?_
  · refine WP.block (WP.iter h1785 (fun (j_ : Int × Int) fr_ μ_ L_ => ounP j_ fun id1 i1 => SubFr [(0, .slice A1 l1.length c1), (3, .int .i64 id1), (4, .int .i64 i1)] fr_ ∧ SegSub (L) L_ ∧ μ = μ_) ⟨SubFr.of ⟨rfl, rfl, rfl, trivial⟩, SegSub.sel _ [] 0, rfl⟩ ?_)
    rintro ⟨id1, i1⟩ q1805 fr1805 μ1805 L1805 hm1805 ⟨hF1805, hS1805, hu1805⟩ hb1805 hq1805
    unfold recyclinglaw27_unused_l2 at hb1805
    replace hb1805 := oun_mk hb1805
    subst hu1805
    refine WP.at hF1805 hS1805 (WP.seq_k (fun K1806 hK1806 => WP.seq_k (fun K1807 hK1807 => WP.region Tt_ok (O_cons (O_read rfl (R_move rfl (P_some rfl (O_cons (O_read rfl (R_move rfl (P_some rfl (O_cons (O_read rfl ?_)))))))))))))
    refine R_lenS rfl rfl rfl (P_some rfl (O_cons (O_read rfl (R_lssD rfl rfl (P_some rfl (O_nil (hK1807 _ _ _ ?_)))))))
    refine W_cond_v (b := (decide (i1 < ((l1.length : Nat) : Int)))) rfl (fun hc1 => ?_) (fun hc1 => ?_)
    · replace hb1805 := cond_t hc1 hb1805
      refine WP.skip (hK1806 _ _ _ (WP.seq_k (fun K1808 hK1808 => ?_)))
      obtain ⟨o1809, h1809, hb1805⟩ := obind hb1805
      refine WP.cutK (fun fr_ μ_ L_ => ∃ (id5 : Int), id5 = o1809 ∧ SubFr [(0, .slice A1 l1.length c1), (3, .int .i64 id5), (4, .int .i64 i1)] fr_ ∧ SegSub (L) L_ ∧ μ = μ_) ?_ ?_
      · refine WP.block (WP.seq_k (fun K1810 hK1810 => WP.region Tt_ok (O_cons (O_read rfl (R_assign rfl (P_some rfl (O_nil (hK1810 _ _ _ ?_))))))))
        obtain ⟨o1811, h1811, h1809⟩ := obind h1809
        refine WP.cutK (fun fr_ μ_ L_ => ∃ (id4 : Int), id4 = o1811 ∧ SubFr [(0, .slice A1 l1.length c1), (3, .int .i64 id4), (4, .int .i64 i1)] fr_ ∧ SegSub (L) L_ ∧ μ = μ_) ?_ ?_
        · refine WP.block (WP.iter h1811 (fun (j_ : Int × Int) fr_ μ_ L_ => ounP j_ fun id2 k1 => SubFr [(0, .slice A1 l1.length c1), (3, .int .i64 id2), (4, .int .i64 i1), (5, .int .i64 k1)] fr_ ∧ SegSub (L) L_ ∧ μ = μ_) ⟨SubFr.of ⟨rfl, rfl, rfl, rfl, trivial⟩, SegSub.sel _ [] 0, rfl⟩ ?_)
          rintro ⟨id2, k1⟩ q1818 fr1818 μ1818 L1818 hm1818 ⟨hF1818, hS1818, hu1818⟩ hb1818 hq1818
          unfold recyclinglaw27_unused_l1 at hb1818
          replace hb1818 := oun_mk hb1818
          subst hu1818
          refine WP.at hF1818 hS1818 (WP.seq_k (fun K1819 hK1819 => WP.seq_k (fun K1820 hK1820 => WP.region Tt_ok (O_cons (O_read rfl (R_move rfl (P_some rfl (O_cons (O_read rfl (R_move rfl (P_some rfl (O_cons (O_read rfl ?_)))))))))))))
          refine R_lenS rfl rfl rfl (P_some rfl (O_cons (O_read rfl (R_lssD rfl rfl (P_some rfl (O_nil (hK1820 _ _ _ ?_)))))))
          refine W_cond_v (b := (decide (k1 < ((l1.length : Nat) : Int)))) rfl (fun hc2 => ?_) (fun hc2 => ?_)
          · replace hb1818 := cond_t hc2 hb1818
            refine WP.skip (hK1819 _ _ _ (WP.seq_k (fun K1821 hK1821 => ?_)))
            obtain ⟨o1822, h1822, hb1818⟩ := obind hb1818
            refine WP.cutK (fun fr_ μ_ L_ => ∃ (id3 : Int), id3 = o1822 ∧ SubFr [(0, .slice A1 l1.length c1), (3, .int .i64 id3), (4, .int .i64 i1), (5, .int .i64 k1)] fr_ ∧ SegSub (L) L_ ∧ μ = μ_) ?_ ?_
            · refine WP.block (WP.seq_k (fun K1823 hK1823 => WP.region Tt_ok (O_cons (O_read rfl (R_move rfl (P_some rfl (O_cons (O_read rfl (R_move rfl (P_some rfl (O_cons ?_)))))))))))
              obtain ⟨x1, hx1, h1822⟩ := obind h1822
              obtain ⟨a1, cs1, hA2, hr1, _, hc3⟩ := Rds.getI hA1 hx1
              obtain rfl := hr1
              refine O_read rfl (R_iaG rfl rfl rfl rfl rfl rfl ⟨(getI_lt hx1).1, (getI_lt hx1).2.1⟩ hA2 (P_some rfl (O_cons (O_read rfl (R_faz rfl rfl rfl rfl rfl (P_some rfl (O_cons (O_read rfl (R_load rfl rfl rfl (Ex.mk _ (Cell.of_cells0 hc3 rfl) (P_some rfl (O_cons (O_read rfl ?_)))))))))))))
              refine R_move rfl (P_some rfl (O_cons (O_read rfl (R_eqlD rfl rfl (P_some rfl (O_nil (hK1823 _ _ _ ?_)))))))
              refine W_cond_v (b := (decide (x1.ID = id2))) rfl (fun hc4 => ?_) (fun hc4 => ?_)
              · replace h1822 := cond_t hc4 h1822
                refine WP.region Tt_ok (O_cons (O_read rfl (R_move rfl (P_some rfl (O_cons (O_read rfl (R_sub rfl rfl (P_some rfl (O_cons (O_read rfl (R_assign rfl (P_some rfl (O_nil ?_)))))))))))))
                have e_ := Option.some.inj h1822
                subst e_
                exact ⟨w64 (id2 - 1), rfl, SubFr.of ⟨rfl, rfl, rfl, rfl, trivial⟩, SegSub.sel _ [] 0, rfl⟩
              replace h1822 := cond_f hc4 h1822
              apply WP.skip
              have e_ := Option.some.inj h1822
              subst e_
              exact ⟨id2, rfl, SubFr.of ⟨rfl, rfl, rfl, rfl, trivial⟩, SegSub.sel _ [] 0, rfl⟩
            rintro fr1822 μ1822 L1822 hm1822 ⟨id3, ho1822, hF1822, hS1822, hu1822⟩
            subst ho1822
            subst hu1822
            refine hK1821 _ _ _ (WP.at hF1822 hS1822 (WP.region Tt_ok (O_cons (O_read rfl (R_move rfl (P_some rfl (O_cons (O_read rfl (R_add rfl rfl (P_some rfl (O_cons (O_read rfl (R_assign rfl ?_)))))))))))))
            refine P_some rfl (O_nil ?_)
            have e_ := Option.some.inj hb1818
            subst e_
            exact ⟨_, rfl, SubFr.of ⟨rfl, rfl, rfl, rfl, trivial⟩, SegSub.sel _ [] 0, rfl⟩
          replace hb1818 := cond_f hc2 hb1818
          refine WP.exit (B_here ?_)
          have e_ := Option.some.inj hb1818
          subst e_
          have hq_ := hq1818 _ rfl
          subst hq_
          exact ⟨id2, rfl, SubFr.of ⟨rfl, rfl, rfl, trivial⟩, SegSub.sel _ [] 0, rfl⟩
        rintro fr1811 μ1811 L1811 hm1811 ⟨id4, ho1811, hF1811, hS1811, hu1811⟩
        subst ho1811
        subst hu1811
        have e_ := Option.some.inj h1809
        subst e_
        exact ⟨id4, rfl, SubFr.trans (fr := [(0, .slice A1 l1.length c1), (3, .int .i64 id4), (4, .int .i64 i1)]) (SubFr.of ⟨rfl, rfl, rfl, trivial⟩) hF1811, SegSub.trans (M := (L)) (SegSub.sel _ [] 0) hS1811, rfl⟩
      rintro fr1809 μ1809 L1809 hm1809 ⟨id5, ho1809, hF1809, hS1809, hu1809⟩
      subst ho1809
      subst hu1809
      refine hK1808 _ _ _ (WP.at hF1809 hS1809 (WP.region Tt_ok (O_cons (O_read rfl (R_move rfl (P_some rfl (O_cons (O_read rfl (R_add rfl rfl (P_some rfl (O_cons (O_read rfl (R_assign rfl ?_)))))))))))))
      refine P_some rfl (O_nil ?_)
      have e_ := Option.some.inj hb1805
      subst e_
      exact ⟨_, rfl, SubFr.of ⟨rfl, rfl, rfl, trivial⟩, SegSub.sel _ [] 0, rfl⟩
    replace hb1805 := cond_f hc1 hb1805
    refine WP.exit (B_here ?_)
    have e_ := Option.some.inj hb1805
    subst e_
    have hq_ := hq1805 _ rfl
    subst hq_
    exact ⟨id1, rfl, SubFr.of ⟨rfl, trivial⟩, SegSub.sel _ [] 0, rfl⟩
  rintro fr1785 μ1785 L1785 hm1785 ⟨id6, ho1785, hF1785, hS1785, hu1785⟩
  subst ho1785
  subst hu1785
  refine hK1783 _ _ _ (WP.at hF1785 hS1785 (WP.seq_k (fun K1824 hK1824 => WP.region Tt_ok (O_cons (O_read rfl (R_move rfl (P_some rfl (O_cons (O_read rfl (R_assign rfl (P_some rfl (O_nil (hK1824 _ _ _ ?_)))))))))))))
  apply WP.ret
  have e_ := Option.some.inj h
  subst e_
  refine S_tmp rfl (S_nil (Upd.selS [] 0 ?_))
  exact Upd.done hR

end Go.Proofs.Ytchakbpjokemnaa
