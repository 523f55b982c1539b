/- Printed by gen.py of this repo: the walks that tie the functions to their specifications. -/
import Derived.Test.YtjbminmhndgiaaaTt
import Derived.Test.YtjbminmhndgiaaaTas
import Derived.Test.YtjbminmhndgiaaaTaw1
namespace Go.Proofs.Ytjbminmhndgiaaa
open Go.RowKit
set_option linter.unusedSimpArgs false
set_option linter.unusedVariables false
attribute [local irreducible] WP SemOk SemU Fn AN Upd vcR vcO vcOps vcPlan putK fillK resK inBlk forkOne Cell StAt Kept

theorem recyclingref19_Check_fn {μ : Gh} {L : List Seg} {R : Value → Gh → List Seg → Prop}  {r1 : T_api_Road} {A1 : Option Addr} {c1 : Nat} {res1 : Int}
    (hl1 : r1.Edges.length ≤ c1 ∧ c1 ≤ maxLen) (hA1 : ArrR r_api_Edge μ A1 r1.Edges) (h : recyclingref19_Check r1 = some res1)
    (hR : R (.int .i64 res1) μ (L)) :
    Fn Try.prog 31 [.agg #[.int .i64 r1.Nodes, .slice A1 r1.Edges.length c1]] μ (L) R := by
  unfold recyclingref19_Check at h
  refine Fn.of_body Tt_ok Try.func31 (by kernel_rfl) rfl Try.ntmps31 (by simp) ?_
  simp only [Try.f31, argFr, List.zipIdx, List.map, Nat.reduceAdd]
  refine WP.seq_k (fun K6145 hK6145 => WP.region Tt_ok (O_cons (O_box (cs := #[.int .i64 r1.Nodes, .slice A1 r1.Edges.length c1]) rfl rfl (fun g1 => Pc rfl rfl (R_assign rfl (Pn rfl (hK6145 _ _ _ (WP.seq_k (fun K6147 hK6147 => WP.seq_k (fun K6148 hK6148 => ?_))))))))))
  obtain ⟨o6149, h6149, h⟩ := obind h
  refine WP.cutK (fun fr_ μ_ L_ => ∃ (v1 : Bool), v1 = o6149 ∧ SubFr [(1, .pointer (some ⟨g1, 0, none⟩)), (12, .bool v1)] fr_ ∧ SegSub ([(g1, .cells #[.int .i64 r1.Nodes, .slice A1 r1.Edges.length c1] 24 (0, 0))] :: L) L_ ∧ μ = μ_) ?_ ?_
  · refine Wr Tt_ok rfl (R_fa0 (o' := 0) rfl rfl rfl rfl rfl rfl (Pc rfl rfl (R_load rfl rfl rfl (Ex.mk _ (Cell.seg 0 0 rfl rfl rfl) (Pc rfl rfl (R_lssD rfl rfl (Pc rfl rfl (R_move rfl (P_some rfl ?_)))))))))
    refine O_gv (z := (decide (r1.Nodes < 1))) rfl rfl (fun hc1 => ?_) (fun hc1 => ?_)
    · replace h6149 := cond_f hc1 h6149
      refine O_read rfl (R_fa0 (o' := 0) rfl rfl rfl rfl rfl rfl (P_some rfl (O_gY rfl rfl hc1 (O_read rfl (R_load rfl rfl rfl (Ex.mk _ (Cell.seg 0 0 rfl rfl rfl) (P_some rfl (O_gY rfl rfl hc1 (O_read rfl (R_gtrD rfl rfl (Pc rfl rfl (R_pick_F rfl hc1 rfl (Pn rfl ?_)))))))))))))
      have e_ := Option.some.inj h6149
      subst e_
      exact ⟨(decide (64 < r1.Nodes)), rfl, SubFr.of ⟨rfl, rfl, trivial⟩, SegSub.sel _ [some 0] 1, rfl⟩
    replace h6149 := cond_t hc1 h6149
    refine P_some rfl (O_gN rfl rfl hc1 (P_some rfl (O_gN rfl rfl hc1 (Pc rfl rfl (R_pick_T rfl hc1 rfl (Pn rfl ?_))))))
    have e_ := Option.some.inj h6149
    subst e_
    exact ⟨true, rfl, SubFr.of ⟨rfl, rfl, trivial⟩, SegSub.sel _ [some 0] 1, rfl⟩
  rintro fr6149 μ6149 L6149 hm6149 ⟨v1, ho6149, hF6149, hS6149, hu6149⟩
  subst ho6149
  subst hu6149
  refine hK6148 _ _ _ (WP.at hF6149 hS6149 ?_)
  refine W_cond_v (b := v1) rfl (fun hc2 => ?_) (fun hc2 => ?_)
  · replace h := cond_t hc2 h
    refine WP.seq_k (fun K6152 hK6152 => Wr Tt_ok rfl (R_assign rfl (Pn rfl (hK6152 _ _ _ (WP.ret ?_)))))
    have e_ := Option.some.inj h
    subst e_
    refine S_tmp rfl (S_nil (Upd.selS [] 1 ?_))
    exact Upd.done hR
  replace h := cond_f hc2 h
  refine WP.skip (hK6147 _ _ _ (WP.seq_k (fun K6153 hK6153 => WP.seq_k (fun K6154 hK6154 => Wr Tt_ok rfl (R_fa0 (o' := 1) rfl rfl rfl rfl rfl rfl (Pc rfl rfl (R_load rfl rfl rfl (Ex.mk _ (Cell.seg 0 0 rfl rfl rfl) (Pc rfl rfl (R_lenS rfl rfl rfl (P_some rfl ?_)))))))))))
  refine O_cons (O_read rfl (R_gtrD rfl rfl (Pn rfl (hK6154 _ _ _ ?_))))
  refine W_cond_v (b := (decide (512 < ((r1.Edges.length : Nat) : Int)))) rfl (fun hc3 => ?_) (fun hc3 => ?_)
  · replace h := cond_t hc3 h
    refine WP.seq_k (fun K6155 hK6155 => Wr Tt_ok rfl (R_assign rfl (Pn rfl (hK6155 _ _ _ (WP.ret ?_)))))
    have e_ := Option.some.inj h
    subst e_
    refine S_tmp rfl (S_nil (Upd.selS [] 1 ?_))
    exact Upd.done hR
  replace h := cond_f hc3 h
  refine WP.skip (hK6153 _ _ _ (WP.seq_k (fun K6156 hK6156 => WP.seq_k (fun K6157 hK6157 => Wr Tt_ok rfl (R_fa0 (o' := 1) rfl rfl rfl rfl rfl rfl (Pc rfl rfl (R_load rfl rfl rfl (Ex.mk _ (Cell.seg 0 0 rfl rfl rfl) (Pc rfl rfl (R_lenS rfl rfl rfl (P_some rfl ?_)))))))))))
  refine O_cons (O_read rfl (R_move rfl (Pn rfl (hK6157 _ _ _ ?_))))
  obtain ⟨o6158, h6158, h⟩ := obind h
  refine WP.cutK (fun fr_ μ_ L_ => (.inl ()) = o6158 ∧ SubFr [] fr_ ∧ SegSub (L) L_ ∧ μ = μ_) ?_ ?_
  · refine WP.block (WP.iter h6158 (fun (v2 : Int) fr_ μ_ L_ => SubFr [(1, .pointer (some ⟨g1, 0, none⟩)), (18, .slice A1 r1.Edges.length c1), (19, .int .i64 ((r1.Edges.length : Nat) : Int)), (20, .int .i64 v2)] fr_ ∧ SegSub ([(g1, .cells #[.int .i64 r1.Nodes, .slice A1 r1.Edges.length c1] 24 (0, 0))] :: L) L_ ∧ μ = μ_) ⟨SubFr.of ⟨rfl, rfl, rfl, rfl, trivial⟩, SegSub.sel _ [some 0] 1, rfl⟩ ?_)
    rintro v2 q6182 fr6182 μ6182 L6182 hm6182 ⟨hF6182, hS6182, hu6182⟩ hb6182 hq6182
    unfold recyclingref19_Check_l1 at hb6182
    subst hu6182
    refine WP.at hF6182 hS6182 (WP.seq_k (fun K6186 hK6186 => Wr Tt_ok rfl (R_lssD rfl rfl (Pn rfl (hK6186 _ _ _ (WP.seq_k (fun K6187 hK6187 => ?_)))))))
    refine W_cond_v (b := (decide (v2 < ((r1.Edges.length : Nat) : Int)))) rfl (fun hc4 => ?_) (fun hc4 => ?_)
    · replace hb6182 := cond_t hc4 hb6182
      refine WP.skip (hK6187 _ _ _ (WP.seq_k (fun K6188 hK6188 => WP.block (WP.seq_k (fun K6189 hK6189 => WP.region Tt_ok (O_cons ?_))))))
      obtain ⟨x1, hx1, hb6182⟩ := obind hb6182
      obtain ⟨a1, cs1, hA2, hr1, _, hc5⟩ := Rds.getI (ArrR.rds hA1 L) hx1
      obtain rfl := hr1
      refine O_read rfl (R_iaG rfl rfl rfl rfl rfl rfl ⟨(getI_lt hx1).1, (getI_lt hx1).2.1⟩ hA2 (Pc rfl rfl (R_loadA rfl rfl rfl rfl (Ex.mk [.int .i64 x1.From, .int .i64 x1.To, .int .i64 x1.Meters, .int .i64 x1.Secs] ⟨rfl, (hc5.push)⟩ (P_some rfl (O_cons (O_alloc (cs := #[.int .i64 0, .int .i64 0, .int .i64 0, .int .i64 0]) rfl rfl (fun g2 => P_some rfl (O_cons (O_store (vs := [.int .i64 x1.From, .int .i64 x1.To, .int .i64 x1.Meters, .int .i64 x1.Secs]) rfl rfl rfl rfl rfl rfl (ST_ (L' := ([(g2, .cells #[.int .i64 x1.From, .int .i64 x1.To, .int .i64 x1.Meters, .int .i64 x1.Secs] 86 (0, 0))] :: [(g1, .cells #[.int .i64 r1.Nodes, .slice A1 r1.Edges.length c1] 24 (0, 0))] :: L)) 0 0 rfl rfl rfl rfl (P_none (O_nil (hK6189 _ _ _ (WP.seq_k (fun K6192 hK6192 => ?_))))))))))))))))
      refine WP.seq_k ?_; intro K6193 hK6193
      obtain ⟨o6194, h6194, hb6182⟩ := obind hb6182
      refine WP.cutK (fun fr_ μ_ L_ => ∃ (v3 : Bool), v3 = o6194 ∧ SubFr [(1, .pointer (some ⟨g1, 0, none⟩)), (4, .pointer (some ⟨g2, 0, none⟩)), (18, .slice A1 r1.Edges.length c1), (19, .int .i64 ((r1.Edges.length : Nat) : Int)), (20, .int .i64 v2), (45, .bool v3)] fr_ ∧ SegSub ([(g1, .cells #[.int .i64 r1.Nodes, .slice A1 r1.Edges.length c1] 24 (0, 0))] :: [(g2, .cells #[.int .i64 x1.From, .int .i64 x1.To, .int .i64 x1.Meters, .int .i64 x1.Secs] 86 (0, 0))] :: L) L_ ∧ μ = μ_) ?_ ?_
      · refine Wr Tt_ok rfl (R_fa0 (o' := 0) rfl rfl rfl rfl rfl rfl (Pc rfl rfl (R_load rfl rfl rfl (Ex.mk _ (Cell.seg 0 0 rfl rfl rfl) (Pc rfl rfl (R_lssD rfl rfl (Pc rfl rfl (R_move rfl (P_some rfl ?_)))))))))
        refine O_gv (z := (decide (x1.From < 0))) rfl rfl (fun hc6 => ?_) (fun hc6 => ?_)
        · replace h6194 := cond_f hc6 h6194
          refine O_read rfl (R_fa0 (o' := 0) rfl rfl rfl rfl rfl rfl (P_some rfl (O_gY rfl rfl hc6 (O_read rfl (R_load rfl rfl rfl (Ex.mk _ (Cell.seg 0 0 rfl rfl rfl) (P_some rfl (O_gY rfl rfl hc6 (O_read rfl (R_fa0 (o' := 0) rfl rfl rfl rfl rfl rfl (P_some rfl (O_gY rfl rfl hc6 (O_read rfl (R_load rfl rfl rfl (Ex.mk _ (Cell.seg 1 0 rfl rfl rfl) (P_some rfl (O_gY rfl rfl hc6 ?_)))))))))))))))))
          refine O_read rfl (R_geqD rfl rfl (Pc rfl rfl (R_pick_F rfl hc6 rfl (Pc rfl rfl (R_move rfl (P_some rfl ?_))))))
          refine O_gv (z := (decide (r1.Nodes ≤ x1.From))) rfl rfl (fun hc7 => ?_) (fun hc7 => ?_)
          · replace h6194 := cond_f hc7 h6194
            refine O_read rfl (R_fa0 (o' := 1) rfl rfl rfl rfl rfl rfl (P_some rfl (O_gY rfl rfl hc7 (O_read rfl (R_load rfl rfl rfl (Ex.mk _ (Cell.seg 0 0 rfl rfl rfl) (P_some rfl (O_gY rfl rfl hc7 (O_read rfl (R_lssD rfl rfl (Pc rfl rfl (R_pick_F rfl hc7 rfl (Pc rfl rfl ?_)))))))))))))
            refine R_move rfl (P_some rfl ?_)
            refine O_gv (z := (decide (x1.To < 0))) rfl rfl (fun hc8 => ?_) (fun hc8 => ?_)
            · replace h6194 := cond_f hc8 h6194
              refine O_read rfl (R_fa0 (o' := 1) rfl rfl rfl rfl rfl rfl (P_some rfl (O_gY rfl rfl hc8 (O_read rfl (R_load rfl rfl rfl (Ex.mk _ (Cell.seg 0 0 rfl rfl rfl) (P_some rfl (O_gY rfl rfl hc8 (O_read rfl (R_fa0 (o' := 0) rfl rfl rfl rfl rfl rfl (P_some rfl (O_gY rfl rfl hc8 (O_read rfl (R_load rfl rfl rfl (Ex.mk _ (Cell.seg 1 0 rfl rfl rfl) (P_some rfl (O_gY rfl rfl hc8 ?_)))))))))))))))))
              refine O_read rfl (R_geqD rfl rfl (Pc rfl rfl (R_pick_F rfl hc8 rfl (Pn rfl ?_))))
              have e_ := Option.some.inj h6194
              subst e_
              exact ⟨(decide (r1.Nodes ≤ x1.To)), rfl, SubFr.of ⟨rfl, rfl, rfl, rfl, rfl, rfl, trivial⟩, SegSub.sel _ [some 1, some 0] 2, rfl⟩
            replace h6194 := cond_t hc8 h6194
            refine P_some rfl (O_gN rfl rfl hc8 (P_some rfl (O_gN rfl rfl hc8 (P_some rfl (O_gN rfl rfl hc8 (P_some rfl (O_gN rfl rfl hc8 (Pc rfl rfl (R_pick_T rfl hc8 rfl (Pn rfl ?_))))))))))
            have e_ := Option.some.inj h6194
            subst e_
            exact ⟨true, rfl, SubFr.of ⟨rfl, rfl, rfl, rfl, rfl, rfl, trivial⟩, SegSub.sel _ [some 1, some 0] 2, rfl⟩
          replace h6194 := cond_t hc7 h6194
          refine P_some rfl (O_gN rfl rfl hc7 (P_some rfl (O_gN rfl rfl hc7 (Pc rfl rfl (R_pick_T rfl hc7 rfl (Pc rfl rfl (R_move rfl (P_some rfl (O_gN rfl rfl rfl (P_some rfl (O_gN rfl rfl rfl (P_some rfl (O_gN rfl rfl rfl ?_)))))))))))))
          refine P_some rfl (O_gN rfl rfl rfl (P_some rfl (O_gN rfl rfl rfl (Pc rfl rfl (R_pick_T rfl rfl rfl (Pn rfl ?_))))))
          have e_ := Option.some.inj h6194
          subst e_
          exact ⟨true, rfl, SubFr.of ⟨rfl, rfl, rfl, rfl, rfl, rfl, trivial⟩, SegSub.sel _ [some 1, some 0] 2, rfl⟩
        replace h6194 := cond_t hc6 h6194
        refine P_some rfl (O_gN rfl rfl hc6 (P_some rfl (O_gN rfl rfl hc6 (P_some rfl (O_gN rfl rfl hc6 (P_some rfl (O_gN rfl rfl hc6 (Pc rfl rfl (R_pick_T rfl hc6 rfl (Pc rfl rfl (R_move rfl (P_some rfl (O_gN rfl rfl rfl ?_)))))))))))))
        refine P_some rfl (O_gN rfl rfl rfl (P_some rfl (O_gN rfl rfl rfl (Pc rfl rfl (R_pick_T rfl rfl rfl (Pc rfl rfl (R_move rfl (P_some rfl (O_gN rfl rfl rfl (P_some rfl (O_gN rfl rfl rfl (P_some rfl (O_gN rfl rfl rfl ?_)))))))))))))
        refine P_some rfl (O_gN rfl rfl rfl (P_some rfl (O_gN rfl rfl rfl (Pc rfl rfl (R_pick_T rfl rfl rfl (Pn rfl ?_))))))
        have e_ := Option.some.inj h6194
        subst e_
        exact ⟨true, rfl, SubFr.of ⟨rfl, rfl, rfl, rfl, rfl, rfl, trivial⟩, SegSub.sel _ [some 1, some 0] 2, rfl⟩
      rintro fr6194 μ6194 L6194 hm6194 ⟨v3, ho6194, hF6194, hS6194, hu6194⟩
      subst ho6194
      subst hu6194
      refine hK6193 _ _ _ (WP.at hF6194 hS6194 ?_)
      refine W_cond_v (b := v3) rfl (fun hc9 => ?_) (fun hc9 => ?_)
      · replace hb6182 := cond_t hc9 hb6182
        refine WP.seq_k (fun K6199 hK6199 => Wr Tt_ok rfl (R_assign rfl (Pn rfl (hK6199 _ _ _ (WP.ret ?_)))))
        have e_ := Option.some.inj hb6182
        subst e_
        have hq_ := hq6182 _ rfl
        subst hq_
        replace h := osum_r h
        have e_ := Option.some.inj h
        subst e_
        refine S_tmp rfl (S_nil (Upd.selS [] 2 ?_))
        exact Upd.done hR
      replace hb6182 := cond_f hc9 hb6182
      refine WP.skip (hK6192 _ _ _ (WP.seq_k (fun K6200 hK6200 => ?_)))
      obtain ⟨o6201, h6201, hb6182⟩ := obind hb6182
      refine WP.cutK (fun fr_ μ_ L_ => ∃ (v4 : Bool), v4 = o6201 ∧ SubFr [(1, .pointer (some ⟨g1, 0, none⟩)), (18, .slice A1 r1.Edges.length c1), (19, .int .i64 ((r1.Edges.length : Nat) : Int)), (20, .int .i64 v2), (70, .bool v4)] fr_ ∧ SegSub ([(g1, .cells #[.int .i64 r1.Nodes, .slice A1 r1.Edges.length c1] 24 (0, 0))] :: L) L_ ∧ μ = μ_) ?_ ?_
      · refine Wr Tt_ok rfl (R_fa0 (o' := 0) rfl rfl rfl rfl rfl rfl (Pc rfl rfl (R_load rfl rfl rfl (Ex.mk _ (Cell.seg 1 0 rfl rfl rfl) (Pc rfl rfl (R_fa0 (o' := 1) rfl rfl rfl rfl rfl rfl (Pc rfl rfl (R_load rfl rfl rfl (Ex.mk _ (Cell.seg 1 0 rfl rfl rfl) ?_)))))))))
        refine Pc rfl rfl (R_eqlD rfl rfl (Pc rfl rfl (R_move rfl (P_some rfl ?_))))
        refine O_gv (z := (decide (x1.From = x1.To))) rfl rfl (fun hc10 => ?_) (fun hc10 => ?_)
        · replace h6201 := cond_f hc10 h6201
          refine O_read rfl (R_fa0 (o' := 2) rfl rfl rfl rfl rfl rfl (P_some rfl (O_gY rfl rfl hc10 (O_read rfl (R_load rfl rfl rfl (Ex.mk _ (Cell.seg 1 0 rfl rfl rfl) (P_some rfl (O_gY rfl rfl hc10 (O_read rfl (R_lssD rfl rfl (Pc rfl rfl (R_pick_F rfl hc10 rfl (Pc rfl rfl ?_)))))))))))))
          refine R_move rfl (P_some rfl ?_)
          refine O_gv (z := (decide (x1.Meters < 1))) rfl rfl (fun hc11 => ?_) (fun hc11 => ?_)
          · replace h6201 := cond_f hc11 h6201
            refine O_read rfl (R_fa0 (o' := 2) rfl rfl rfl rfl rfl rfl (P_some rfl (O_gY rfl rfl hc11 (O_read rfl (R_load rfl rfl rfl (Ex.mk _ (Cell.seg 1 0 rfl rfl rfl) (P_some rfl (O_gY rfl rfl hc11 (O_read rfl (R_gtrD rfl rfl (Pc rfl rfl (R_pick_F rfl hc11 rfl (Pc rfl rfl ?_)))))))))))))
            refine R_move rfl (P_some rfl ?_)
            refine O_gv (z := (decide (100000 < x1.Meters))) rfl rfl (fun hc12 => ?_) (fun hc12 => ?_)
            · replace h6201 := cond_f hc12 h6201
              refine O_read rfl (R_fa0 (o' := 3) rfl rfl rfl rfl rfl rfl (P_some rfl (O_gY rfl rfl hc12 (O_read rfl (R_load rfl rfl rfl (Ex.mk _ (Cell.seg 1 0 rfl rfl rfl) (P_some rfl (O_gY rfl rfl hc12 (O_read rfl (R_lssD rfl rfl (Pc rfl rfl (R_pick_F rfl hc12 rfl (Pc rfl rfl ?_)))))))))))))
              refine R_move rfl (P_some rfl ?_)
              refine O_gv (z := (decide (x1.Secs < 1))) rfl rfl (fun hc13 => ?_) (fun hc13 => ?_)
              · replace h6201 := cond_f hc13 h6201
                refine O_read rfl (R_fa0 (o' := 3) rfl rfl rfl rfl rfl rfl (P_some rfl (O_gY rfl rfl hc13 (O_read rfl (R_load rfl rfl rfl (Ex.mk _ (Cell.seg 1 0 rfl rfl rfl) (P_some rfl (O_gY rfl rfl hc13 (O_read rfl (R_gtrD rfl rfl (Pc rfl rfl (R_pick_F rfl hc13 rfl (Pn rfl ?_)))))))))))))
                have e_ := Option.some.inj h6201
                subst e_
                exact ⟨(decide (100000 < x1.Secs)), rfl, SubFr.of ⟨rfl, rfl, rfl, rfl, rfl, trivial⟩, SegSub.sel _ [some 0] 2, rfl⟩
              replace h6201 := cond_t hc13 h6201
              refine P_some rfl (O_gN rfl rfl hc13 (P_some rfl (O_gN rfl rfl hc13 (Pc rfl rfl (R_pick_T rfl hc13 rfl (Pn rfl ?_))))))
              have e_ := Option.some.inj h6201
              subst e_
              exact ⟨true, rfl, SubFr.of ⟨rfl, rfl, rfl, rfl, rfl, trivial⟩, SegSub.sel _ [some 0] 2, rfl⟩
            replace h6201 := cond_t hc12 h6201
            refine P_some rfl (O_gN rfl rfl hc12 (P_some rfl (O_gN rfl rfl hc12 (Pc rfl rfl (R_pick_T rfl hc12 rfl (Pc rfl rfl (R_move rfl (P_some rfl (O_gN rfl rfl rfl (P_some rfl (O_gN rfl rfl rfl (P_some rfl (O_gN rfl rfl rfl ?_)))))))))))))
            refine Pc rfl rfl (R_pick_T rfl rfl rfl (Pn rfl ?_))
            have e_ := Option.some.inj h6201
            subst e_
            exact ⟨true, rfl, SubFr.of ⟨rfl, rfl, rfl, rfl, rfl, trivial⟩, SegSub.sel _ [some 0] 2, rfl⟩
          replace h6201 := cond_t hc11 h6201
          refine P_some rfl (O_gN rfl rfl hc11 (P_some rfl (O_gN rfl rfl hc11 (Pc rfl rfl (R_pick_T rfl hc11 rfl (Pc rfl rfl (R_move rfl (P_some rfl (O_gN rfl rfl rfl (P_some rfl (O_gN rfl rfl rfl (P_some rfl (O_gN rfl rfl rfl ?_)))))))))))))
          refine Pc rfl rfl (R_pick_T rfl rfl rfl (Pc rfl rfl (R_move rfl (P_some rfl (O_gN rfl rfl rfl (P_some rfl (O_gN rfl rfl rfl (P_some rfl (O_gN rfl rfl rfl (Pc rfl rfl (R_pick_T rfl rfl rfl ?_)))))))))))
          refine Pn rfl ?_
          have e_ := Option.some.inj h6201
          subst e_
          exact ⟨true, rfl, SubFr.of ⟨rfl, rfl, rfl, rfl, rfl, trivial⟩, SegSub.sel _ [some 0] 2, rfl⟩
        replace h6201 := cond_t hc10 h6201
        refine P_some rfl (O_gN rfl rfl hc10 (P_some rfl (O_gN rfl rfl hc10 (Pc rfl rfl (R_pick_T rfl hc10 rfl (Pc rfl rfl (R_move rfl (P_some rfl (O_gN rfl rfl rfl (P_some rfl (O_gN rfl rfl rfl (P_some rfl (O_gN rfl rfl rfl ?_)))))))))))))
        refine Pc rfl rfl (R_pick_T rfl rfl rfl (Pc rfl rfl (R_move rfl (P_some rfl (O_gN rfl rfl rfl (P_some rfl (O_gN rfl rfl rfl (P_some rfl (O_gN rfl rfl rfl (Pc rfl rfl (R_pick_T rfl rfl rfl ?_)))))))))))
        refine Pc rfl rfl (R_move rfl (P_some rfl (O_gN rfl rfl rfl (P_some rfl (O_gN rfl rfl rfl (P_some rfl (O_gN rfl rfl rfl (Pc rfl rfl (R_pick_T rfl rfl rfl (Pn rfl ?_))))))))))
        have e_ := Option.some.inj h6201
        subst e_
        exact ⟨true, rfl, SubFr.of ⟨rfl, rfl, rfl, rfl, rfl, trivial⟩, SegSub.sel _ [some 0] 2, rfl⟩
      rintro fr6201 μ6201 L6201 hm6201 ⟨v4, ho6201, hF6201, hS6201, hu6201⟩
      subst ho6201
      subst hu6201
      refine hK6200 _ _ _ (WP.at hF6201 hS6201 ?_)
      refine W_cond_v (b := v4) rfl (fun hc14 => ?_) (fun hc14 => ?_)
      · replace hb6182 := cond_t hc14 hb6182
        refine WP.seq_k (fun K6204 hK6204 => Wr Tt_ok rfl (R_assign rfl (Pn rfl (hK6204 _ _ _ (WP.ret ?_)))))
        have e_ := Option.some.inj hb6182
        subst e_
        have hq_ := hq6182 _ rfl
        subst hq_
        replace h := osum_r h
        have e_ := Option.some.inj h
        subst e_
        refine S_tmp rfl (S_nil (Upd.selS [] 1 ?_))
        exact Upd.done hR
      replace hb6182 := cond_f hc14 hb6182
      refine WP.skip (hK6188 _ _ _ (Wr Tt_ok rfl (R_add rfl rfl (Pc rfl rfl (R_move rfl (Pn rfl ?_))))))
      have e_ := Option.some.inj hb6182
      subst e_
      exact ⟨_, rfl, SubFr.of ⟨rfl, rfl, rfl, rfl, trivial⟩, SegSub.sel _ [some 0] 1, rfl⟩
    replace hb6182 := cond_f hc4 hb6182
    refine WP.exit (B_here ?_)
    have e_ := Option.some.inj hb6182
    subst e_
    have hq_ := hq6182 _ rfl
    subst hq_
    exact ⟨rfl, SubFr.of trivial, SegSub.sel _ [] 1, rfl⟩
  rintro fr6158 μ6158 L6158 hm6158 ⟨ho6158, hF6158, hS6158, hu6158⟩
  subst ho6158
  replace h := osum_l h
  subst hu6158
  refine hK6156 _ _ _ (WP.at hF6158 hS6158 (WP.seq_k (fun K6205 hK6205 => Wr Tt_ok rfl (R_assign rfl (Pn rfl (hK6205 _ _ _ (WP.ret ?_)))))))
  have e_ := Option.some.inj h
  subst e_
  refine S_tmp rfl (S_nil (Upd.selS [] 0 ?_))
  exact Upd.done hR

theorem recyclingref04_letter_fn {μ : Gh} {L : List Seg} {R : Value → Gh → List Seg → Prop}  {c1 : Int}  {res1 : Bool}
     (h : recyclingref04_letter c1 = some res1)
    (hR : R (.bool res1) μ (L)) :
    Fn Try.prog 71 [.int .u8 c1] μ (L) R := by
  unfold recyclingref04_letter at h
  refine Fn.of_body Tt_ok Try.func71 (by kernel_rfl) rfl Try.ntmps71 (by simp) ?_
  simp only [Try.f71, argFr, List.zipIdx, List.map, Nat.reduceAdd]
  refine WP.seq_k (fun K6238 hK6238 => Wr Tt_ok rfl (R_assign rfl (Pn rfl (hK6238 _ _ _ (WP.seq_k (fun K6239 hK6239 => ?_))))))
  obtain ⟨o6240, h6240, h⟩ := obind h
  refine WP.cutK (fun fr_ μ_ L_ => ∃ (v1 : Bool), v1 = o6240 ∧ SubFr [(2, .bool v1)] fr_ ∧ SegSub (L) L_ ∧ μ = μ_) ?_ ?_
  · refine Wr Tt_ok rfl (R_move rfl (Pc rfl rfl (R_geqD rfl rfl (Pc rfl rfl (R_move rfl (P_some rfl ?_))))))
    refine O_gv (z := (decide (65 ≤ c1))) rfl rfl (fun hc1 => ?_) (fun hc1 => ?_)
    · replace h6240 := cond_t hc1 h6240
      refine O_read rfl (R_move rfl (P_some rfl (O_gY rfl rfl hc1 (O_read rfl (R_leqD rfl rfl (Pc rfl rfl (R_pick_T rfl hc1 rfl (Pc rfl rfl (R_move rfl (P_some rfl ?_))))))))))
      refine O_gv (z := (decide (c1 ≤ 90))) rfl rfl (fun hc2 => ?_) (fun hc2 => ?_)
      · replace h6240 := cond_f hc2 h6240
        refine O_read rfl (R_move rfl (P_some rfl (O_gY rfl rfl hc2 (O_read rfl (R_geqD rfl rfl (P_some rfl (O_gY rfl rfl hc2 (O_read rfl (R_move rfl (P_some rfl ?_))))))))))
        refine O_gv (z := (decide (97 ≤ c1))) rfl rfl (fun hc3 => ?_) (fun hc3 => ?_)
        · replace h6240 := cond_t hc3 h6240
          refine O_read rfl (R_move rfl (P_some rfl (O_gY rfl rfl hc3 (O_read rfl (R_leqD rfl rfl (P_some rfl (O_gY rfl rfl hc2 (O_read rfl (R_pick_T rfl hc3 rfl (Pc rfl rfl (R_pick_F rfl hc2 rfl (Pc rfl rfl (R_assign rfl ?_)))))))))))))
          refine Pn rfl ?_
          have e_ := Option.some.inj h6240
          subst e_
          exact ⟨(decide (c1 ≤ 122)), rfl, SubFr.of ⟨rfl, trivial⟩, SegSub.sel _ [] 0, rfl⟩
        replace h6240 := cond_f hc3 h6240
        refine P_some rfl (O_gN rfl rfl hc3 (P_some rfl (O_gY rfl rfl hc2 (O_read rfl (R_pick_F rfl hc3 rfl (Pc rfl rfl (R_pick_F rfl hc2 rfl (Pc rfl rfl (R_assign rfl (Pn rfl ?_))))))))))
        have e_ := Option.some.inj h6240
        subst e_
        exact ⟨false, rfl, SubFr.of ⟨rfl, trivial⟩, SegSub.sel _ [] 0, rfl⟩
      replace h6240 := cond_t hc2 h6240
      refine P_some rfl (O_gN rfl rfl hc2 (P_some rfl (O_gN rfl rfl hc2 (P_some rfl (O_gu rfl rfl (P_some rfl (O_gu rfl rfl (P_some rfl (O_gN rfl rfl hc2 (Pc rfl rfl (R_pick_T rfl hc2 rfl (Pc rfl rfl (R_assign rfl ?_)))))))))))))
      refine Pn rfl ?_
      have e_ := Option.some.inj h6240
      subst e_
      exact ⟨true, rfl, SubFr.of ⟨rfl, trivial⟩, SegSub.sel _ [] 0, rfl⟩
    replace h6240 := cond_f hc1 h6240
    refine P_some rfl (O_gN rfl rfl hc1 (Pc rfl rfl (R_pick_F rfl hc1 rfl (Pc rfl rfl (R_move rfl (P_some rfl (O_gY rfl rfl rfl (O_read rfl (R_move rfl (P_some rfl (O_gY rfl rfl rfl (O_read rfl (R_geqD rfl rfl ?_)))))))))))))
    refine P_some rfl (O_gY rfl rfl rfl (O_read rfl (R_move rfl (P_some rfl ?_))))
    refine O_gv (z := (decide (97 ≤ c1))) rfl rfl (fun hc4 => ?_) (fun hc4 => ?_)
    · replace h6240 := cond_t hc4 h6240
      refine O_read rfl (R_move rfl (P_some rfl (O_gY rfl rfl hc4 (O_read rfl (R_leqD rfl rfl (P_some rfl (O_gY rfl rfl rfl (O_read rfl (R_pick_T rfl hc4 rfl (Pc rfl rfl (R_pick_F rfl rfl rfl (Pc rfl rfl (R_assign rfl ?_)))))))))))))
      refine Pn rfl ?_
      have e_ := Option.some.inj h6240
      subst e_
      exact ⟨(decide (c1 ≤ 122)), rfl, SubFr.of ⟨rfl, trivial⟩, SegSub.sel _ [] 0, rfl⟩
    replace h6240 := cond_f hc4 h6240
    refine P_some rfl (O_gN rfl rfl hc4 (P_some rfl (O_gY rfl rfl rfl (O_read rfl (R_pick_F rfl hc4 rfl (Pc rfl rfl (R_pick_F rfl rfl rfl (Pc rfl rfl (R_assign rfl (Pn rfl ?_))))))))))
    have e_ := Option.some.inj h6240
    subst e_
    exact ⟨false, rfl, SubFr.of ⟨rfl, trivial⟩, SegSub.sel _ [] 0, rfl⟩
  rintro fr6240 μ6240 L6240 hm6240 ⟨v1, ho6240, hF6240, hS6240, hu6240⟩
  subst ho6240
  subst hu6240
  refine hK6239 _ _ _ (WP.at hF6240 hS6240 (WP.ret ?_))
  have e_ := Option.some.inj h
  subst e_
  refine S_tmp rfl (S_nil (Upd.selS [] 0 ?_))
  exact Upd.done hR

theorem recyclingref04_Valid_fn {μ : Gh} {L : List Seg} {R : Value → Gh → List Seg → Prop}  {s1 : ByteArray}  {res1 : Bool}
     (h : recyclingref04_Valid s1 = some res1)
    (hR : R (.bool res1) μ (L)) :
    Fn Try.prog 62 [.string s1] μ (L) R := by
  unfold recyclingref04_Valid at h
  refine Fn.of_body Tt_ok Try.func62 (by kernel_rfl) rfl Try.ntmps62 (by simp) ?_
  simp only [Try.f62, argFr, List.zipIdx, List.map, Nat.reduceAdd]
  refine WP.seq_k (fun K6234 hK6234 => Wr Tt_ok rfl (R_assign rfl (Pn rfl (hK6234 _ _ _ (WP.seq_k (fun K6235 hK6235 => WP.seq_k (fun K6236 hK6236 => ?_)))))))
  obtain ⟨o6237, h6237, h⟩ := obind h
  refine WP.cutK (fun fr_ μ_ L_ => ∃ (v1 : Bool), v1 = o6237 ∧ SubFr [(0, .string s1), (18, .bool v1)] fr_ ∧ SegSub (L) L_ ∧ μ = μ_) ?_ ?_
  · refine Wr Tt_ok rfl (R_move rfl (Pc rfl rfl (R_lenG rfl rfl rfl (Pc rfl rfl (R_lssD rfl rfl (Pc rfl rfl (R_move rfl (P_some rfl ?_))))))))
    refine O_gv (z := (decide (((s1.size : Nat) : Int) < 1))) rfl rfl (fun hc1 => ?_) (fun hc1 => ?_)
    · replace h6237 := cond_f hc1 h6237
      refine O_read rfl (R_move rfl (P_some rfl (O_gY rfl rfl hc1 (O_read rfl (R_lenG rfl rfl rfl (P_some rfl (O_gY rfl rfl hc1 (O_read rfl (R_gtrD rfl rfl (Pc rfl rfl (R_pick_F rfl hc1 rfl (Pc rfl rfl (R_move rfl ?_)))))))))))))
      apply P_some; exact rfl
      refine O_gv (z := (decide (32 < ((s1.size : Nat) : Int)))) rfl rfl (fun hc2 => ?_) (fun hc2 => ?_)
      · replace h6237 := cond_f hc2 h6237
        refine O_read rfl (R_move rfl (P_some rfl (O_gY rfl rfl hc2 ?_)))
        obtain ⟨x1, hb1, h6237⟩ := obind h6237
        refine O_read rfl (R_idxB Tt_ok rfl rfl rfl rfl hb1 (P_some rfl (O_gY rfl rfl hc2 (O_call (all := [.int .u8 x1]) rfl rfl rfl ?_))))
        obtain ⟨r1, hx1, h6237⟩ := obind h6237
        refine recyclingref04_letter_fn  hx1 ((P_some rfl (O_gY rfl rfl hc2 (O_read rfl (R_not rfl (Pc rfl rfl (R_pick_F rfl hc2 rfl (Pn rfl ?_))))))))
        have e_ := Option.some.inj h6237
        subst e_
        exact ⟨!r1, rfl, SubFr.of ⟨rfl, rfl, trivial⟩, SegSub.sel _ [] 0, rfl⟩
      replace h6237 := cond_t hc2 h6237
      refine P_some rfl (O_gN rfl rfl hc2 (P_some rfl (O_gN rfl rfl hc2 (P_some rfl (O_gN rfl rfl hc2 (Pc rfl rfl (R_pick_T rfl hc2 rfl (Pn rfl ?_))))))))
      have e_ := Option.some.inj h6237
      subst e_
      exact ⟨true, rfl, SubFr.of ⟨rfl, rfl, trivial⟩, SegSub.sel _ [] 0, rfl⟩
    replace h6237 := cond_t hc1 h6237
    refine P_some rfl (O_gN rfl rfl hc1 (P_some rfl (O_gN rfl rfl hc1 (Pc rfl rfl (R_pick_T rfl hc1 rfl (Pc rfl rfl (R_move rfl (P_some rfl (O_gN rfl rfl rfl (P_some rfl (O_gN rfl rfl rfl (P_some rfl (O_gN rfl rfl rfl ?_)))))))))))))
    refine P_some rfl (O_gN rfl rfl rfl (Pc rfl rfl (R_pick_T rfl rfl rfl (Pn rfl ?_))))
    have e_ := Option.some.inj h6237
    subst e_
    exact ⟨true, rfl, SubFr.of ⟨rfl, rfl, trivial⟩, SegSub.sel _ [] 0, rfl⟩
  rintro fr6237 μ6237 L6237 hm6237 ⟨v1, ho6237, hF6237, hS6237, hu6237⟩
  subst ho6237
  subst hu6237
  refine hK6236 _ _ _ (WP.at hF6237 hS6237 ?_)
  refine W_cond_v (b := v1) rfl (fun hc3 => ?_) (fun hc3 => ?_)
  · replace h := cond_t hc3 h
    refine WP.seq_k (fun K6241 hK6241 => Wr Tt_ok rfl (R_assign rfl (Pn rfl (hK6241 _ _ _ (WP.ret ?_)))))
    have e_ := Option.some.inj h
    subst e_
    refine S_tmp rfl (S_nil (Upd.selS [] 0 ?_))
    exact Upd.done hR
  replace h := cond_f hc3 h
  refine WP.skip (hK6235 _ _ _ (WP.seq_k (fun K6242 hK6242 => WP.seq_k (fun K6243 hK6243 => Wr Tt_ok rfl (R_assign rfl (Pn rfl (hK6243 _ _ _ ?_)))))))
  obtain ⟨o6244, h6244, h⟩ := obind h
  refine WP.cutK (fun fr_ μ_ L_ => (.inl ()) = o6244 ∧ SubFr [] fr_ ∧ SegSub (L) L_ ∧ μ = μ_) ?_ ?_
  · refine WP.block (WP.iter h6244 (fun (i1 : Int) fr_ μ_ L_ => SubFr [(0, .string s1), (3, .int .i64 i1)] fr_ ∧ SegSub (L) L_ ∧ μ = μ_) ⟨SubFr.of ⟨rfl, rfl, trivial⟩, SegSub.sel _ [] 0, rfl⟩ ?_)
    rintro i1 q6253 fr6253 μ6253 L6253 hm6253 ⟨hF6253, hS6253, hu6253⟩ hb6253 hq6253
    unfold recyclingref04_Valid_l1 at hb6253
    subst hu6253
    refine WP.at hF6253 hS6253 (WP.seq_k (fun K6254 hK6254 => WP.seq_k (fun K6255 hK6255 => Wr Tt_ok rfl (R_move rfl (Pc rfl rfl (R_move rfl (Pc rfl rfl (R_lenG rfl rfl rfl (Pc rfl rfl ?_)))))))))
    refine R_lssD rfl rfl (Pn rfl (hK6255 _ _ _ ?_))
    refine W_cond_v (b := (decide (i1 < ((s1.size : Nat) : Int)))) rfl (fun hc4 => ?_) (fun hc4 => ?_)
    · replace hb6253 := cond_t hc4 hb6253
      refine WP.skip (hK6254 _ _ _ (WP.seq_k (fun K6256 hK6256 => WP.block (WP.seq_k (fun K6257 hK6257 => Wr Tt_ok rfl (R_move rfl (Pc rfl rfl (R_move rfl (P_some rfl (O_cons ?_))))))))))
      obtain ⟨x2, hb2, hb6253⟩ := obind hb6253
      refine O_read rfl (R_idxB Tt_ok rfl rfl rfl rfl hb2 (Pc rfl rfl (R_assign rfl (Pn rfl (hK6257 _ _ _ (WP.seq_k (fun K6258 hK6258 => ?_)))))))
      obtain ⟨o6259, h6259, hb6253⟩ := obind hb6253
      refine WP.cutK (fun fr_ μ_ L_ => ∃ (v2 : Bool), v2 = o6259 ∧ SubFr [(0, .string s1), (3, .int .i64 i1), (50, .bool v2)] fr_ ∧ SegSub (L) L_ ∧ μ = μ_) ?_ ?_
      · refine Wr Tt_ok rfl (R_move rfl (P_some rfl (O_cons (O_call (all := [.int .u8 x2]) rfl rfl rfl ?_))))
        obtain ⟨r2, hx2, h6259⟩ := obind h6259
        refine recyclingref04_letter_fn  hx2 ((Pc rfl rfl (R_not rfl (Pc rfl rfl (R_move rfl (P_some rfl ?_))))))
        refine O_gv (z := !r2) rfl rfl (fun hc5 => ?_) (fun hc5 => ?_)
        · replace h6259 := cond_t hc5 h6259
          refine O_read rfl (R_move rfl (P_some rfl (O_gY rfl rfl hc5 (O_read rfl (R_lssD rfl rfl (P_some rfl (O_gY rfl rfl hc5 (O_read rfl (R_move rfl (P_some rfl ?_))))))))))
          refine O_gv (z := (decide (x2 < 48))) rfl rfl (fun hc6 => ?_) (fun hc6 => ?_)
          · replace h6259 := cond_f hc6 h6259
            refine O_read rfl (R_move rfl (P_some rfl (O_gY rfl rfl hc6 (O_read rfl (R_gtrD rfl rfl (P_some rfl (O_gY rfl rfl hc5 (O_read rfl (R_pick_F rfl hc6 rfl (Pc rfl rfl (R_pick_T rfl hc5 rfl (Pc rfl rfl (R_move rfl ?_)))))))))))))
            apply P_some; exact rfl
            refine O_gv (z := (decide (57 < x2))) rfl rfl (fun hc7 => ?_) (fun hc7 => ?_)
            · replace h6259 := cond_t hc7 h6259
              refine O_read rfl (R_move rfl (P_some rfl (O_gY rfl rfl hc7 (O_read rfl (R_neqD rfl rfl (Pc rfl rfl (R_pick_T rfl hc7 rfl (Pc rfl rfl (R_move rfl (P_some rfl ?_))))))))))
              refine O_gv (z := !(decide (x2 = 45))) rfl rfl (fun hc8 => ?_) (fun hc8 => ?_)
              · replace h6259 := cond_t hc8 h6259
                refine O_read rfl (R_move rfl (P_some rfl (O_gY rfl rfl hc8 (O_read rfl (R_neqD rfl rfl (Pc rfl rfl (R_pick_T rfl hc8 rfl (Pc rfl rfl (R_move rfl (P_some rfl ?_))))))))))
                refine O_gv (z := !(decide (x2 = 95))) rfl rfl (fun hc9 => ?_) (fun hc9 => ?_)
                · replace h6259 := cond_t hc9 h6259
                  refine O_read rfl (R_move rfl (P_some rfl (O_gY rfl rfl hc9 (O_read rfl (R_neqD rfl rfl (Pc rfl rfl (R_pick_T rfl hc9 rfl (Pn rfl ?_))))))))
                  have e_ := Option.some.inj h6259
                  subst e_
                  exact ⟨!(decide (x2 = 46)), rfl, SubFr.of ⟨rfl, rfl, rfl, trivial⟩, SegSub.sel _ [] 0, rfl⟩
                replace h6259 := cond_f hc9 h6259
                refine P_some rfl (O_gN rfl rfl hc9 (Pc rfl rfl (R_pick_F rfl hc9 rfl (Pn rfl ?_))))
                have e_ := Option.some.inj h6259
                subst e_
                exact ⟨false, rfl, SubFr.of ⟨rfl, rfl, rfl, trivial⟩, SegSub.sel _ [] 0, rfl⟩
              replace h6259 := cond_f hc8 h6259
              refine P_some rfl (O_gN rfl rfl hc8 (Pc rfl rfl (R_pick_F rfl hc8 rfl (Pc rfl rfl (R_move rfl (P_some rfl (O_gN rfl rfl rfl (P_some rfl (O_gN rfl rfl rfl (Pc rfl rfl (R_pick_F rfl rfl rfl ?_)))))))))))
              refine Pn rfl ?_
              have e_ := Option.some.inj h6259
              subst e_
              exact ⟨false, rfl, SubFr.of ⟨rfl, rfl, rfl, trivial⟩, SegSub.sel _ [] 0, rfl⟩
            replace h6259 := cond_f hc7 h6259
            refine P_some rfl (O_gN rfl rfl hc7 (Pc rfl rfl (R_pick_F rfl hc7 rfl (Pc rfl rfl (R_move rfl (P_some rfl (O_gN rfl rfl rfl (P_some rfl (O_gN rfl rfl rfl (Pc rfl rfl (R_pick_F rfl rfl rfl ?_)))))))))))
            refine Pc rfl rfl (R_move rfl (P_some rfl (O_gN rfl rfl rfl (P_some rfl (O_gN rfl rfl rfl (Pc rfl rfl (R_pick_F rfl rfl rfl (Pn rfl ?_))))))))
            have e_ := Option.some.inj h6259
            subst e_
            exact ⟨false, rfl, SubFr.of ⟨rfl, rfl, rfl, trivial⟩, SegSub.sel _ [] 0, rfl⟩
          replace h6259 := cond_t hc6 h6259
          refine P_some rfl (O_gN rfl rfl hc6 (P_some rfl (O_gY rfl rfl hc5 (O_read rfl (R_pick_T rfl hc6 rfl (Pc rfl rfl (R_pick_T rfl hc5 rfl (Pc rfl rfl (R_move rfl (P_some rfl (O_gY rfl rfl rfl (O_read rfl (R_move rfl ?_)))))))))))))
          refine P_some rfl (O_gY rfl rfl rfl (O_read rfl (R_neqD rfl rfl (Pc rfl rfl (R_pick_T rfl rfl rfl (Pc rfl rfl (R_move rfl (P_some rfl ?_))))))))
          refine O_gv (z := !(decide (x2 = 45))) rfl rfl (fun hc10 => ?_) (fun hc10 => ?_)
          · replace h6259 := cond_t hc10 h6259
            refine O_read rfl (R_move rfl (P_some rfl (O_gY rfl rfl hc10 (O_read rfl (R_neqD rfl rfl (Pc rfl rfl (R_pick_T rfl hc10 rfl (Pc rfl rfl (R_move rfl (P_some rfl ?_))))))))))
            refine O_gv (z := !(decide (x2 = 95))) rfl rfl (fun hc11 => ?_) (fun hc11 => ?_)
            · replace h6259 := cond_t hc11 h6259
              refine O_read rfl (R_move rfl (P_some rfl (O_gY rfl rfl hc11 (O_read rfl (R_neqD rfl rfl (Pc rfl rfl (R_pick_T rfl hc11 rfl (Pn rfl ?_))))))))
              have e_ := Option.some.inj h6259
              subst e_
              exact ⟨!(decide (x2 = 46)), rfl, SubFr.of ⟨rfl, rfl, rfl, trivial⟩, SegSub.sel _ [] 0, rfl⟩
            replace h6259 := cond_f hc11 h6259
            refine P_some rfl (O_gN rfl rfl hc11 (Pc rfl rfl (R_pick_F rfl hc11 rfl (Pn rfl ?_))))
            have e_ := Option.some.inj h6259
            subst e_
            exact ⟨false, rfl, SubFr.of ⟨rfl, rfl, rfl, trivial⟩, SegSub.sel _ [] 0, rfl⟩
          replace h6259 := cond_f hc10 h6259
          refine P_some rfl (O_gN rfl rfl hc10 (Pc rfl rfl (R_pick_F rfl hc10 rfl (Pc rfl rfl (R_move rfl (P_some rfl (O_gN rfl rfl rfl (P_some rfl (O_gN rfl rfl rfl (Pc rfl rfl (R_pick_F rfl rfl rfl ?_)))))))))))
          refine Pn rfl ?_
          have e_ := Option.some.inj h6259
          subst e_
          exact ⟨false, rfl, SubFr.of ⟨rfl, rfl, rfl, trivial⟩, SegSub.sel _ [] 0, rfl⟩
        replace h6259 := cond_f hc5 h6259
        refine P_some rfl (O_gN rfl rfl hc5 (P_some rfl (O_gN rfl rfl hc5 (P_some rfl (O_gu rfl rfl (P_some rfl (O_gu rfl rfl (P_some rfl (O_gN rfl rfl hc5 (Pc rfl rfl (R_pick_F rfl hc5 rfl (Pc rfl rfl (R_move rfl ?_)))))))))))))
        refine P_some rfl (O_gN rfl rfl rfl (P_some rfl (O_gN rfl rfl rfl (Pc rfl rfl (R_pick_F rfl rfl rfl (Pc rfl rfl (R_move rfl (P_some rfl (O_gN rfl rfl rfl (P_some rfl (O_gN rfl rfl rfl (P_some rfl (O_cons ?_)))))))))))))
        refine O_read rfl (R_pick_F rfl rfl rfl (Pc rfl rfl (R_move rfl (P_some rfl (O_gN rfl rfl rfl (P_some rfl (O_gN rfl rfl rfl (Pc rfl rfl (R_pick_F rfl rfl rfl (Pn rfl ?_))))))))))
        have e_ := Option.some.inj h6259
        subst e_
        exact ⟨false, rfl, SubFr.of ⟨rfl, rfl, rfl, trivial⟩, SegSub.sel _ [] 0, rfl⟩
      rintro fr6259 μ6259 L6259 hm6259 ⟨v2, ho6259, hF6259, hS6259, hu6259⟩
      subst ho6259
      subst hu6259
      refine hK6258 _ _ _ (WP.at hF6259 hS6259 ?_)
      refine W_cond_v (b := v2) rfl (fun hc12 => ?_) (fun hc12 => ?_)
      · replace hb6253 := cond_t hc12 hb6253
        refine WP.seq_k (fun K6260 hK6260 => Wr Tt_ok rfl (R_assign rfl (Pn rfl (hK6260 _ _ _ (WP.ret ?_)))))
        have e_ := Option.some.inj hb6253
        subst e_
        have hq_ := hq6253 _ rfl
        subst hq_
        replace h := osum_r h
        have e_ := Option.some.inj h
        subst e_
        refine S_tmp rfl (S_nil (Upd.selS [] 0 ?_))
        exact Upd.done hR
      replace hb6253 := cond_f hc12 hb6253
      refine WP.skip (hK6256 _ _ _ (Wr Tt_ok rfl (R_move rfl (Pc rfl rfl (R_add rfl rfl (Pc rfl rfl (R_assign rfl (Pn rfl ?_))))))))
      have e_ := Option.some.inj hb6253
      subst e_
      exact ⟨_, rfl, SubFr.of ⟨rfl, rfl, trivial⟩, SegSub.sel _ [] 0, rfl⟩
    replace hb6253 := cond_f hc4 hb6253
    refine WP.exit (B_here ?_)
    have e_ := Option.some.inj hb6253
    subst e_
    have hq_ := hq6253 _ rfl
    subst hq_
    exact ⟨rfl, SubFr.of trivial, SegSub.sel _ [] 0, rfl⟩
  rintro fr6244 μ6244 L6244 hm6244 ⟨ho6244, hF6244, hS6244, hu6244⟩
  subst ho6244
  replace h := osum_l h
  subst hu6244
  refine hK6242 _ _ _ (WP.at hF6244 hS6244 (WP.seq_k (fun K6261 hK6261 => Wr Tt_ok rfl (R_assign rfl (Pn rfl (hK6261 _ _ _ (WP.ret ?_)))))))
  have e_ := Option.some.inj h
  subst e_
  refine S_tmp rfl (S_nil (Upd.selS [] 0 ?_))
  exact Upd.done hR

theorem recyclingref20_one_fn {μ : Gh} {L : List Seg} {R : Value → Gh → List Seg → Prop}  {v1 : T_api_Vehicle} {nodes1 : Int} {materials1 : Int}  {res1 : Int}
     (h : recyclingref20_one v1 nodes1 materials1 = some res1)
    (hR : R (.int .i64 res1) μ (L)) :
    Fn Try.prog 47 [.agg #[.string v1.ID, .int .i64 v1.Depot, .int .i64 v1.Shift.From, .int .i64 v1.Shift.To, .int .i64 v1.Grams, .int .i64 v1.Kinds], .int .i64 nodes1, .int .i64 materials1] μ (L) R := by
  unfold recyclingref20_one at h
  refine Fn.of_body Tt_ok Try.func47 (by kernel_rfl) rfl Try.ntmps47 (by simp) ?_
  simp only [Try.f47, argFr, List.zipIdx, List.map, Nat.reduceAdd]
  refine WP.seq_k (fun K6230 hK6230 => WP.region Tt_ok (O_cons (O_box (cs := #[.string v1.ID, .int .i64 v1.Depot, .int .i64 v1.Shift.From, .int .i64 v1.Shift.To, .int .i64 v1.Grams, .int .i64 v1.Kinds]) rfl rfl (fun g1 => Pc rfl rfl (R_assign rfl (Pn rfl (hK6230 _ _ _ (WP.seq_k (fun K6232 hK6232 => WP.seq_k (fun K6233 hK6233 => Wr Tt_ok rfl (R_fa0 (o' := 0) rfl rfl rfl rfl rfl rfl (P_some rfl ?_))))))))))))
  refine O_cons (O_read rfl (R_load rfl rfl rfl (Ex.mk _ (Cell.seg 0 0 rfl rfl rfl) (P_some rfl (O_cons (O_call (all := [.string v1.ID]) rfl rfl rfl ?_))))))
  obtain ⟨r1, hx1, h⟩ := obind h
  refine recyclingref04_Valid_fn  hx1 ((Pc rfl rfl (R_not rfl (Pn rfl (hK6233 _ _ _ ?_)))))
  refine W_cond_v (b := !r1) rfl (fun hc1 => ?_) (fun hc1 => ?_)
  · replace h := cond_t hc1 h
    refine WP.seq_k (fun K6262 hK6262 => Wr Tt_ok rfl (R_assign rfl (Pn rfl (hK6262 _ _ _ (WP.ret ?_)))))
    have e_ := Option.some.inj h
    subst e_
    refine S_tmp rfl (S_nil (Upd.selS [] 1 ?_))
    exact Upd.done hR
  replace h := cond_f hc1 h
  refine WP.skip (hK6232 _ _ _ (WP.seq_k (fun K6263 hK6263 => WP.seq_k (fun K6264 hK6264 => ?_))))
  obtain ⟨o6265, h6265, h⟩ := obind h
  refine WP.cutK (fun fr_ μ_ L_ => ∃ (v2 : Bool), v2 = o6265 ∧ SubFr [(2, .int .i64 materials1), (3, .pointer (some ⟨g1, 0, none⟩)), (19, .bool v2)] fr_ ∧ SegSub ([(g1, .cells #[.string v1.ID, .int .i64 v1.Depot, .int .i64 v1.Shift.From, .int .i64 v1.Shift.To, .int .i64 v1.Grams, .int .i64 v1.Kinds] 46 (0, 0))] :: L) L_ ∧ μ = μ_) ?_ ?_
  · refine Wr Tt_ok rfl (R_fa0 (o' := 1) rfl rfl rfl rfl rfl rfl (Pc rfl rfl (R_load rfl rfl rfl (Ex.mk _ (Cell.seg 0 0 rfl rfl rfl) (Pc rfl rfl (R_lssD rfl rfl (Pc rfl rfl (R_move rfl (P_some rfl ?_)))))))))
    refine O_gv (z := (decide (v1.Depot < 0))) rfl rfl (fun hc2 => ?_) (fun hc2 => ?_)
    · replace h6265 := cond_f hc2 h6265
      refine O_read rfl (R_fa0 (o' := 1) rfl rfl rfl rfl rfl rfl (P_some rfl (O_gY rfl rfl hc2 (O_read rfl (R_load rfl rfl rfl (Ex.mk _ (Cell.seg 0 0 rfl rfl rfl) (P_some rfl (O_gY rfl rfl hc2 (O_read rfl (R_move rfl (P_some rfl (O_gY rfl rfl hc2 (O_read rfl (R_geqD rfl rfl (Pc rfl rfl ?_)))))))))))))))
      refine R_pick_F rfl hc2 rfl (Pn rfl ?_)
      have e_ := Option.some.inj h6265
      subst e_
      exact ⟨(decide (nodes1 ≤ v1.Depot)), rfl, SubFr.of ⟨rfl, rfl, rfl, trivial⟩, SegSub.sel _ [some 0] 1, rfl⟩
    replace h6265 := cond_t hc2 h6265
    refine P_some rfl (O_gN rfl rfl hc2 (P_some rfl (O_gN rfl rfl hc2 (P_some rfl (O_gN rfl rfl hc2 (Pc rfl rfl (R_pick_T rfl hc2 rfl (Pn rfl ?_))))))))
    have e_ := Option.some.inj h6265
    subst e_
    exact ⟨true, rfl, SubFr.of ⟨rfl, rfl, rfl, trivial⟩, SegSub.sel _ [some 0] 1, rfl⟩
  rintro fr6265 μ6265 L6265 hm6265 ⟨v2, ho6265, hF6265, hS6265, hu6265⟩
  subst ho6265
  subst hu6265
  refine hK6264 _ _ _ (WP.at hF6265 hS6265 ?_)
  refine W_cond_v (b := v2) rfl (fun hc3 => ?_) (fun hc3 => ?_)
  · replace h := cond_t hc3 h
    refine WP.seq_k (fun K6268 hK6268 => Wr Tt_ok rfl (R_assign rfl (Pn rfl (hK6268 _ _ _ (WP.ret ?_)))))
    have e_ := Option.some.inj h
    subst e_
    refine S_tmp rfl (S_nil (Upd.selS [] 1 ?_))
    exact Upd.done hR
  replace h := cond_f hc3 h
  refine WP.skip (hK6263 _ _ _ (WP.seq_k (fun K6269 hK6269 => WP.seq_k (fun K6270 hK6270 => ?_))))
  obtain ⟨o6271, h6271, h⟩ := obind h
  refine WP.cutK (fun fr_ μ_ L_ => ∃ (v3 : Bool), v3 = o6271 ∧ SubFr [(2, .int .i64 materials1), (3, .pointer (some ⟨g1, 0, none⟩)), (38, .bool v3)] fr_ ∧ SegSub ([(g1, .cells #[.string v1.ID, .int .i64 v1.Depot, .int .i64 v1.Shift.From, .int .i64 v1.Shift.To, .int .i64 v1.Grams, .int .i64 v1.Kinds] 46 (0, 0))] :: L) L_ ∧ μ = μ_) ?_ ?_
  · refine Wr Tt_ok rfl (R_fa0 (o' := 2) rfl rfl rfl rfl rfl rfl (Pc rfl rfl (R_fa0 (o' := 2) rfl rfl rfl rfl rfl rfl (Pc rfl rfl (R_load rfl rfl rfl (Ex.mk _ (Cell.seg 0 0 rfl rfl rfl) (Pc rfl rfl (R_lssD rfl rfl (P_some rfl ?_)))))))))
    refine O_cons (O_read rfl (R_move rfl (P_some rfl ?_)))
    refine O_gv (z := (decide (v1.Shift.From < 0))) rfl rfl (fun hc4 => ?_) (fun hc4 => ?_)
    · replace h6271 := cond_f hc4 h6271
      refine O_read rfl (R_fa0 (o' := 2) rfl rfl rfl rfl rfl rfl (P_some rfl (O_gY rfl rfl hc4 (O_read rfl (R_fa0 (o' := 2) rfl rfl rfl rfl rfl rfl (P_some rfl (O_gY rfl rfl hc4 (O_read rfl (R_load rfl rfl rfl (Ex.mk _ (Cell.seg 0 0 rfl rfl rfl) (P_some rfl (O_gY rfl rfl hc4 (O_read rfl (R_fa0 (o' := 2) rfl rfl rfl rfl rfl rfl (P_some rfl (O_gY rfl rfl hc4 (O_read rfl ?_)))))))))))))))))
      refine R_fa0 (o' := 3) rfl rfl rfl rfl rfl rfl (P_some rfl (O_gY rfl rfl hc4 (O_read rfl (R_load rfl rfl rfl (Ex.mk _ (Cell.seg 0 0 rfl rfl rfl) (P_some rfl (O_gY rfl rfl hc4 (O_read rfl (R_geqD rfl rfl (Pc rfl rfl (R_pick_F rfl hc4 rfl (Pc rfl rfl (R_move rfl ?_)))))))))))))
      apply P_some; exact rfl
      refine O_gv (z := (decide (v1.Shift.To ≤ v1.Shift.From))) rfl rfl (fun hc5 => ?_) (fun hc5 => ?_)
      · replace h6271 := cond_f hc5 h6271
        refine O_read rfl (R_fa0 (o' := 2) rfl rfl rfl rfl rfl rfl (P_some rfl (O_gY rfl rfl hc5 (O_read rfl (R_fa0 (o' := 3) rfl rfl rfl rfl rfl rfl (P_some rfl (O_gY rfl rfl hc5 (O_read rfl (R_load rfl rfl rfl (Ex.mk _ (Cell.seg 0 0 rfl rfl rfl) (P_some rfl (O_gY rfl rfl hc5 (O_read rfl (R_gtrD rfl rfl (Pc rfl rfl ?_)))))))))))))))
        refine R_pick_F rfl hc5 rfl (Pn rfl ?_)
        have e_ := Option.some.inj h6271
        subst e_
        exact ⟨(decide (86400 < v1.Shift.To)), rfl, SubFr.of ⟨rfl, rfl, rfl, trivial⟩, SegSub.sel _ [some 0] 1, rfl⟩
      replace h6271 := cond_t hc5 h6271
      refine P_some rfl (O_gN rfl rfl hc5 (P_some rfl (O_gN rfl rfl hc5 (P_some rfl (O_gN rfl rfl hc5 (Pc rfl rfl (R_pick_T rfl hc5 rfl (Pn rfl ?_))))))))
      have e_ := Option.some.inj h6271
      subst e_
      exact ⟨true, rfl, SubFr.of ⟨rfl, rfl, rfl, trivial⟩, SegSub.sel _ [some 0] 1, rfl⟩
    replace h6271 := cond_t hc4 h6271
    refine P_some rfl (O_gN rfl rfl hc4 (P_some rfl (O_gN rfl rfl hc4 (P_some rfl (O_gN rfl rfl hc4 (P_some rfl (O_gN rfl rfl hc4 (P_some rfl (O_gN rfl rfl hc4 (P_some rfl (O_gN rfl rfl hc4 (Pc rfl rfl (R_pick_T rfl hc4 rfl (P_some rfl (O_cons ?_)))))))))))))))
    refine O_read rfl (R_move rfl (P_some rfl (O_gN rfl rfl rfl (P_some rfl (O_gN rfl rfl rfl (P_some rfl (O_gN rfl rfl rfl (P_some rfl (O_gN rfl rfl rfl (Pc rfl rfl (R_pick_T rfl rfl rfl (Pn rfl ?_))))))))))))
    have e_ := Option.some.inj h6271
    subst e_
    exact ⟨true, rfl, SubFr.of ⟨rfl, rfl, rfl, trivial⟩, SegSub.sel _ [some 0] 1, rfl⟩
  rintro fr6271 μ6271 L6271 hm6271 ⟨v3, ho6271, hF6271, hS6271, hu6271⟩
  subst ho6271
  subst hu6271
  refine hK6270 _ _ _ (WP.at hF6271 hS6271 ?_)
  refine W_cond_v (b := v3) rfl (fun hc6 => ?_) (fun hc6 => ?_)
  · replace h := cond_t hc6 h
    refine WP.seq_k (fun K6274 hK6274 => Wr Tt_ok rfl (R_assign rfl (Pn rfl (hK6274 _ _ _ (WP.ret ?_)))))
    have e_ := Option.some.inj h
    subst e_
    refine S_tmp rfl (S_nil (Upd.selS [] 1 ?_))
    exact Upd.done hR
  replace h := cond_f hc6 h
  refine WP.skip (hK6269 _ _ _ (WP.seq_k (fun K6275 hK6275 => WP.seq_k (fun K6276 hK6276 => ?_))))
  obtain ⟨o6277, h6277, h⟩ := obind h
  refine WP.cutK (fun fr_ μ_ L_ => ∃ (v4 : Bool), v4 = o6277 ∧ SubFr [(2, .int .i64 materials1), (3, .pointer (some ⟨g1, 0, none⟩)), (46, .bool v4)] fr_ ∧ SegSub ([(g1, .cells #[.string v1.ID, .int .i64 v1.Depot, .int .i64 v1.Shift.From, .int .i64 v1.Shift.To, .int .i64 v1.Grams, .int .i64 v1.Kinds] 46 (0, 0))] :: L) L_ ∧ μ = μ_) ?_ ?_
  · refine Wr Tt_ok rfl (R_fa0 (o' := 4) rfl rfl rfl rfl rfl rfl (Pc rfl rfl (R_load rfl rfl rfl (Ex.mk _ (Cell.seg 0 0 rfl rfl rfl) (Pc rfl rfl (R_lssD rfl rfl (Pc rfl rfl (R_move rfl (P_some rfl ?_)))))))))
    refine O_gv (z := (decide (v1.Grams < 1))) rfl rfl (fun hc7 => ?_) (fun hc7 => ?_)
    · replace h6277 := cond_f hc7 h6277
      refine O_read rfl (R_fa0 (o' := 4) rfl rfl rfl rfl rfl rfl (P_some rfl (O_gY rfl rfl hc7 (O_read rfl (R_load rfl rfl rfl (Ex.mk _ (Cell.seg 0 0 rfl rfl rfl) (P_some rfl (O_gY rfl rfl hc7 (O_read rfl (R_gtrD rfl rfl (Pc rfl rfl (R_pick_F rfl hc7 rfl (Pn rfl ?_)))))))))))))
      have e_ := Option.some.inj h6277
      subst e_
      exact ⟨(decide (1073741824 < v1.Grams)), rfl, SubFr.of ⟨rfl, rfl, rfl, trivial⟩, SegSub.sel _ [some 0] 1, rfl⟩
    replace h6277 := cond_t hc7 h6277
    refine P_some rfl (O_gN rfl rfl hc7 (P_some rfl (O_gN rfl rfl hc7 (Pc rfl rfl (R_pick_T rfl hc7 rfl (Pn rfl ?_))))))
    have e_ := Option.some.inj h6277
    subst e_
    exact ⟨true, rfl, SubFr.of ⟨rfl, rfl, rfl, trivial⟩, SegSub.sel _ [some 0] 1, rfl⟩
  rintro fr6277 μ6277 L6277 hm6277 ⟨v4, ho6277, hF6277, hS6277, hu6277⟩
  subst ho6277
  subst hu6277
  refine hK6276 _ _ _ (WP.at hF6277 hS6277 ?_)
  refine W_cond_v (b := v4) rfl (fun hc8 => ?_) (fun hc8 => ?_)
  · replace h := cond_t hc8 h
    refine WP.seq_k (fun K6280 hK6280 => Wr Tt_ok rfl (R_assign rfl (Pn rfl (hK6280 _ _ _ (WP.ret ?_)))))
    have e_ := Option.some.inj h
    subst e_
    refine S_tmp rfl (S_nil (Upd.selS [] 1 ?_))
    exact Upd.done hR
  replace h := cond_f hc8 h
  refine WP.skip (hK6275 _ _ _ (WP.seq_k (fun K6281 hK6281 => WP.seq_k (fun K6282 hK6282 => ?_))))
  obtain ⟨o6283, h6283, h⟩ := obind h
  refine WP.cutK (fun fr_ μ_ L_ => ∃ (v5 : Bool), v5 = o6283 ∧ SubFr [(56, .bool v5)] fr_ ∧ SegSub (L) L_ ∧ μ = μ_) ?_ ?_
  · refine WP.drawn (id := 9) (l' := List.replicate 10 true) wide Tt_ok _ Kept.refl [(true, 0), (true, 1), (true, 2), (true, 3), (true, 4), (true, 5), (true, 6), (true, 7), (true, 8), (true, 9)] (by kernel_rfl) (by kernel_rfl) rfl (PL_t rfl (R_fa0 (o' := 5) rfl rfl rfl rfl rfl rfl (Pt rfl rfl (R_load rfl rfl rfl (Ex.mk _ (Cell.seg 0 0 rfl rfl rfl) (Pt rfl rfl (R_lssD rfl rfl (Pt rfl rfl (R_move rfl (P_some rfl ?_))))))))))
    refine PL_tv (z := (decide (v1.Kinds < 1))) rfl rfl rfl (fun hc9 => ?_) (fun hc9 => ?_)
    · replace h6283 := cond_f hc9 h6283
      refine R_fa0 (o' := 5) rfl rfl rfl rfl rfl rfl (P_some rfl (PL_tY rfl rfl rfl hc9 (R_load rfl rfl rfl (Ex.mk _ (Cell.seg 0 0 rfl rfl rfl) (P_some rfl (PL_tY rfl rfl rfl hc9 (R_move rfl (P_some rfl (PL_tY rfl rfl rfl hc9 ?_)))))))))
      obtain ⟨u1, hg1, h6283⟩ := obind h6283
      refine R_shlD rfl rfl rfl (guardO_some hg1) (P_some rfl (PL_tY rfl rfl rfl hc9 (R_geqD rfl rfl (Pt rfl rfl (R_pick_F rfl hc9 rfl (P_some rfl (PL_nil (AN.done0 (by kernel_rfl) ?_))))))))
      have e_ := Option.some.inj h6283
      subst e_
      exact ⟨(decide ((w64 (1 * 2 ^ materials1.toNat)) ≤ v1.Kinds)), rfl, SubFr.of ⟨rfl, trivial⟩, SegSub.sel _ [] 1, rfl⟩
    replace h6283 := cond_t hc9 h6283
    refine P_some rfl (PL_tN rfl rfl rfl hc9 (P_some rfl (PL_tN rfl rfl rfl hc9 (P_some rfl (PL_tN rfl rfl rfl hc9 (P_some rfl (PL_tN rfl rfl rfl hc9 (Pt rfl rfl (R_pick_T rfl hc9 rfl (P_some rfl (PL_nil (AN.done0 (by kernel_rfl) ?_))))))))))))
    have e_ := Option.some.inj h6283
    subst e_
    exact ⟨true, rfl, SubFr.of ⟨rfl, trivial⟩, SegSub.sel _ [] 1, rfl⟩
  rintro fr6283 μ6283 L6283 hm6283 ⟨v5, ho6283, hF6283, hS6283, hu6283⟩
  subst ho6283
  subst hu6283
  refine hK6282 _ _ _ (WP.at hF6283 hS6283 ?_)
  refine W_cond_v (b := v5) rfl (fun hc10 => ?_) (fun hc10 => ?_)
  · replace h := cond_t hc10 h
    refine WP.seq_k (fun K6284 hK6284 => Wr Tt_ok rfl (R_assign rfl (Pn rfl (hK6284 _ _ _ (WP.ret ?_)))))
    have e_ := Option.some.inj h
    subst e_
    refine S_tmp rfl (S_nil (Upd.selS [] 0 ?_))
    exact Upd.done hR
  replace h := cond_f hc10 h
  refine WP.skip (hK6281 _ _ _ (WP.seq_k (fun K6285 hK6285 => Wr Tt_ok rfl (R_assign rfl (Pn rfl (hK6285 _ _ _ (WP.ret ?_)))))))
  have e_ := Option.some.inj h
  subst e_
  refine S_tmp rfl (S_nil (Upd.selS [] 0 ?_))
  exact Upd.done hR

theorem recyclingref20_Check_fn {μ : Gh} {L : List Seg} {R : Value → Gh → List Seg → Prop}  {l1 : (List T_api_Vehicle)} {nodes1 : Int} {materials1 : Int} {A1 : Option Addr} {c1 : Nat} {res1 : Int}
    (hl1 : l1.length ≤ c1 ∧ c1 ≤ maxLen) (hA1 : Rds r_api_Vehicle μ L A1 l1) (h : recyclingref20_Check l1 nodes1 materials1 = some res1)
    (hR : R (.int .i64 res1) μ (L)) :
    Fn Try.prog 32 [.slice A1 l1.length c1, .int .i64 nodes1, .int .i64 materials1] μ (L) R := by
  unfold recyclingref20_Check at h
  refine Fn.of_body Tt_ok Try.func32 (by kernel_rfl) rfl Try.ntmps32 (by simp) ?_
  simp only [Try.f32, argFr, List.zipIdx, List.map, Nat.reduceAdd]
  refine WP.seq_k (fun K6211 hK6211 => Wr Tt_ok rfl (R_assign rfl (Pn rfl (hK6211 _ _ _ (WP.seq_k (fun K6212 hK6212 => WP.seq_k (fun K6213 hK6213 => ?_)))))))
  obtain ⟨o6214, h6214, h⟩ := obind h
  refine WP.cutK (fun fr_ μ_ L_ => ∃ (v1 : Bool), v1 = o6214 ∧ SubFr [(0, .slice A1 l1.length c1), (1, .int .i64 nodes1), (2, .int .i64 materials1), (24, .bool v1)] fr_ ∧ SegSub (L) L_ ∧ μ = μ_) ?_ ?_
  · refine Wr Tt_ok rfl (R_move rfl (Pc rfl rfl (R_lssD rfl rfl (Pc rfl rfl (R_move rfl (P_some rfl ?_))))))
    refine O_gv (z := (decide (nodes1 < 1))) rfl rfl (fun hc1 => ?_) (fun hc1 => ?_)
    · replace h6214 := cond_f hc1 h6214
      refine O_read rfl (R_move rfl (P_some rfl (O_gY rfl rfl hc1 (O_read rfl (R_gtrD rfl rfl (Pc rfl rfl (R_pick_F rfl hc1 rfl (Pc rfl rfl (R_move rfl (P_some rfl ?_))))))))))
      refine O_gv (z := (decide (64 < nodes1))) rfl rfl (fun hc2 => ?_) (fun hc2 => ?_)
      · replace h6214 := cond_f hc2 h6214
        refine O_read rfl (R_move rfl (P_some rfl (O_gY rfl rfl hc2 (O_read rfl (R_lssD rfl rfl (Pc rfl rfl (R_pick_F rfl hc2 rfl (Pc rfl rfl (R_move rfl (P_some rfl ?_))))))))))
        refine O_gv (z := (decide (materials1 < 1))) rfl rfl (fun hc3 => ?_) (fun hc3 => ?_)
        · replace h6214 := cond_f hc3 h6214
          refine O_read rfl (R_move rfl (P_some rfl (O_gY rfl rfl hc3 (O_read rfl (R_gtrD rfl rfl (Pc rfl rfl (R_pick_F rfl hc3 rfl (Pn rfl ?_))))))))
          have e_ := Option.some.inj h6214
          subst e_
          exact ⟨(decide (16 < materials1)), rfl, SubFr.of ⟨rfl, rfl, rfl, rfl, trivial⟩, SegSub.sel _ [] 0, rfl⟩
        replace h6214 := cond_t hc3 h6214
        refine P_some rfl (O_gN rfl rfl hc3 (Pc rfl rfl (R_pick_T rfl hc3 rfl (Pn rfl ?_))))
        have e_ := Option.some.inj h6214
        subst e_
        exact ⟨true, rfl, SubFr.of ⟨rfl, rfl, rfl, rfl, trivial⟩, SegSub.sel _ [] 0, rfl⟩
      replace h6214 := cond_t hc2 h6214
      refine P_some rfl (O_gN rfl rfl hc2 (Pc rfl rfl (R_pick_T rfl hc2 rfl (Pc rfl rfl (R_move rfl (P_some rfl (O_gN rfl rfl rfl (P_some rfl (O_gN rfl rfl rfl (Pc rfl rfl (R_pick_T rfl rfl rfl ?_)))))))))))
      refine Pn rfl ?_
      have e_ := Option.some.inj h6214
      subst e_
      exact ⟨true, rfl, SubFr.of ⟨rfl, rfl, rfl, rfl, trivial⟩, SegSub.sel _ [] 0, rfl⟩
    replace h6214 := cond_t hc1 h6214
    refine P_some rfl (O_gN rfl rfl hc1 (Pc rfl rfl (R_pick_T rfl hc1 rfl (Pc rfl rfl (R_move rfl (P_some rfl (O_gN rfl rfl rfl (P_some rfl (O_gN rfl rfl rfl (Pc rfl rfl (R_pick_T rfl rfl rfl ?_)))))))))))
    refine Pc rfl rfl (R_move rfl (P_some rfl (O_gN rfl rfl rfl (P_some rfl (O_gN rfl rfl rfl (Pc rfl rfl (R_pick_T rfl rfl rfl (Pn rfl ?_))))))))
    have e_ := Option.some.inj h6214
    subst e_
    exact ⟨true, rfl, SubFr.of ⟨rfl, rfl, rfl, rfl, trivial⟩, SegSub.sel _ [] 0, rfl⟩
  rintro fr6214 μ6214 L6214 hm6214 ⟨v1, ho6214, hF6214, hS6214, hu6214⟩
  subst ho6214
  subst hu6214
  refine hK6213 _ _ _ (WP.at hF6214 hS6214 ?_)
  refine W_cond_v (b := v1) rfl (fun hc4 => ?_) (fun hc4 => ?_)
  · replace h := cond_t hc4 h
    refine WP.seq_k (fun K6215 hK6215 => Wr Tt_ok rfl (R_assign rfl (Pn rfl (hK6215 _ _ _ (WP.ret ?_)))))
    have e_ := Option.some.inj h
    subst e_
    refine S_tmp rfl (S_nil (Upd.selS [] 0 ?_))
    exact Upd.done hR
  replace h := cond_f hc4 h
  refine WP.skip (hK6212 _ _ _ (WP.seq_k (fun K6216 hK6216 => WP.seq_k (fun K6217 hK6217 => Wr Tt_ok rfl (R_move rfl (Pc rfl rfl (R_lenS rfl rfl rfl (Pc rfl rfl (R_eqlD rfl rfl (Pn rfl ?_))))))))))
  refine hK6217 _ _ _ ?_
  refine W_cond_v (b := (decide (((l1.length : Nat) : Int) = 0))) rfl (fun hc5 => ?_) (fun hc5 => ?_)
  · replace h := cond_t hc5 h
    refine WP.seq_k (fun K6218 hK6218 => Wr Tt_ok rfl (R_assign rfl (Pn rfl (hK6218 _ _ _ (WP.ret ?_)))))
    have e_ := Option.some.inj h
    subst e_
    refine S_tmp rfl (S_nil (Upd.selS [] 0 ?_))
    exact Upd.done hR
  replace h := cond_f hc5 h
  refine WP.skip (hK6216 _ _ _ (WP.seq_k (fun K6219 hK6219 => WP.seq_k (fun K6220 hK6220 => Wr Tt_ok rfl (R_move rfl (Pc rfl rfl (R_lenS rfl rfl rfl (Pc rfl rfl (R_gtrD rfl rfl (Pn rfl ?_))))))))))
  refine hK6220 _ _ _ ?_
  refine W_cond_v (b := (decide (16 < ((l1.length : Nat) : Int)))) rfl (fun hc6 => ?_) (fun hc6 => ?_)
  · replace h := cond_t hc6 h
    refine WP.seq_k (fun K6221 hK6221 => Wr Tt_ok rfl (R_assign rfl (Pn rfl (hK6221 _ _ _ (WP.ret ?_)))))
    have e_ := Option.some.inj h
    subst e_
    refine S_tmp rfl (S_nil (Upd.selS [] 0 ?_))
    exact Upd.done hR
  replace h := cond_f hc6 h
  refine WP.skip (hK6219 _ _ _ (WP.seq_k (fun K6222 hK6222 => WP.seq_k (fun K6223 hK6223 => Wr Tt_ok rfl (R_assign rfl (Pn rfl (hK6223 _ _ _ ?_)))))))
  obtain ⟨o6224, h6224, h⟩ := obind h
  refine WP.cutK (fun fr_ μ_ L_ => (.inl ()) = o6224 ∧ SubFr [(0, .slice A1 l1.length c1)] fr_ ∧ SegSub (L) L_ ∧ μ = μ_) ?_ ?_
  · refine WP.block (WP.iter h6224 (fun (i1 : Int) fr_ μ_ L_ => SubFr [(0, .slice A1 l1.length c1), (1, .int .i64 nodes1), (2, .int .i64 materials1), (7, .int .i64 i1)] fr_ ∧ SegSub (L) L_ ∧ μ = μ_) ⟨SubFr.of ⟨rfl, rfl, rfl, rfl, trivial⟩, SegSub.sel _ [] 0, rfl⟩ ?_)
    rintro i1 q6288 fr6288 μ6288 L6288 hm6288 ⟨hF6288, hS6288, hu6288⟩ hb6288 hq6288
    unfold recyclingref20_Check_l1 at hb6288
    subst hu6288
    refine WP.at hF6288 hS6288 (WP.seq_k (fun K6289 hK6289 => WP.seq_k (fun K6290 hK6290 => Wr Tt_ok rfl (R_move rfl (Pc rfl rfl (R_move rfl (Pc rfl rfl (R_lenS rfl rfl rfl (Pc rfl rfl ?_)))))))))
    refine R_lssD rfl rfl (Pn rfl (hK6290 _ _ _ ?_))
    refine W_cond_v (b := (decide (i1 < ((l1.length : Nat) : Int)))) rfl (fun hc7 => ?_) (fun hc7 => ?_)
    · replace hb6288 := cond_t hc7 hb6288
      refine WP.skip (hK6289 _ _ _ (WP.seq_k (fun K6291 hK6291 => WP.block (WP.seq_k (fun K6292 hK6292 => Wr Tt_ok rfl (R_move rfl (Pc rfl rfl (R_move rfl (P_some rfl (O_cons ?_))))))))))
      obtain ⟨x1, hx1, hb6288⟩ := obind hb6288
      obtain ⟨a1, cs1, hA2, hr1, _, hc8⟩ := Rds.getI hA1 hx1
      obtain rfl := hr1
      refine O_read rfl (R_iaG rfl rfl rfl rfl rfl rfl ⟨(getI_lt hx1).1, (getI_lt hx1).2.1⟩ hA2 (Pc rfl rfl (R_loadA rfl rfl rfl rfl (Ex.mk [.string x1.ID, .int .i64 x1.Depot, .int .i64 x1.Shift.From, .int .i64 x1.Shift.To, .int .i64 x1.Grams, .int .i64 x1.Kinds] ⟨rfl, hc8⟩ (Pc rfl rfl (R_move rfl (Pc rfl rfl (R_move rfl (P_some rfl (O_cons (O_call (all := [.agg #[.string x1.ID, .int .i64 x1.Depot, .int .i64 x1.Shift.From, .int .i64 x1.Shift.To, .int .i64 x1.Grams, .int .i64 x1.Kinds], .int .i64 nodes1, .int .i64 materials1]) rfl rfl rfl ?_)))))))))))
      obtain ⟨r1, hx2, hb6288⟩ := obind hb6288
      refine recyclingref20_one_fn  hx2 ((Pc rfl rfl (R_assign rfl (Pn rfl (hK6292 _ _ _ (WP.seq_k (fun K6293 hK6293 => Wr Tt_ok rfl (R_move rfl (Pc rfl rfl (R_neqD rfl rfl (P_some rfl ?_)))))))))))
      refine O_nil (hK6293 _ _ _ ?_)
      refine W_cond_v (b := !(decide (r1 = 0))) rfl (fun hc9 => ?_) (fun hc9 => ?_)
      · replace hb6288 := cond_t hc9 hb6288
        refine WP.seq_k (fun K6294 hK6294 => Wr Tt_ok rfl (R_move rfl (Pc rfl rfl (R_assign rfl (Pn rfl (hK6294 _ _ _ (WP.ret ?_)))))))
        have e_ := Option.some.inj hb6288
        subst e_
        have hq_ := hq6288 _ rfl
        subst hq_
        replace h := osum_r h
        have e_ := Option.some.inj h
        subst e_
        refine S_tmp rfl (S_nil (Upd.selS [] 0 ?_))
        exact Upd.done hR
      replace hb6288 := cond_f hc9 hb6288
      refine WP.skip (hK6291 _ _ _ (Wr Tt_ok rfl (R_move rfl (Pc rfl rfl (R_add rfl rfl (Pc rfl rfl (R_assign rfl (Pn rfl ?_))))))))
      have e_ := Option.some.inj hb6288
      subst e_
      exact ⟨_, rfl, SubFr.of ⟨rfl, rfl, rfl, rfl, trivial⟩, SegSub.sel _ [] 0, rfl⟩
    replace hb6288 := cond_f hc7 hb6288
    refine WP.exit (B_here ?_)
    have e_ := Option.some.inj hb6288
    subst e_
    have hq_ := hq6288 _ rfl
    subst hq_
    exact ⟨rfl, SubFr.of ⟨rfl, trivial⟩, SegSub.sel _ [] 0, rfl⟩
  rintro fr6224 μ6224 L6224 hm6224 ⟨ho6224, hF6224, hS6224, hu6224⟩
  subst ho6224
  replace h := osum_l h
  subst hu6224
  refine hK6222 _ _ _ (WP.at hF6224 hS6224 (WP.seq_k (fun K6295 hK6295 => WP.seq_k (fun K6296 hK6296 => Wr Tt_ok rfl (R_assign rfl (Pn rfl (hK6296 _ _ _ ?_)))))))
  obtain ⟨o6297, h6297, h⟩ := obind h
  refine WP.cutK (fun fr_ μ_ L_ => (.inl ()) = o6297 ∧ SubFr [] fr_ ∧ SegSub (L) L_ ∧ μ = μ_) ?_ ?_
  · refine WP.block (WP.iter h6297 (fun (i2 : Int) fr_ μ_ L_ => SubFr [(0, .slice A1 l1.length c1), (9, .int .i64 i2)] fr_ ∧ SegSub (L) L_ ∧ μ = μ_) ⟨SubFr.of ⟨rfl, rfl, trivial⟩, SegSub.sel _ [] 0, rfl⟩ ?_)
    rintro i2 q6317 fr6317 μ6317 L6317 hm6317 ⟨hF6317, hS6317, hu6317⟩ hb6317 hq6317
    unfold recyclingref20_Check_l3 at hb6317
    subst hu6317
    refine WP.at hF6317 hS6317 (WP.seq_k (fun K6318 hK6318 => WP.seq_k (fun K6319 hK6319 => Wr Tt_ok rfl (R_move rfl (Pc rfl rfl (R_move rfl (Pc rfl rfl (R_lenS rfl rfl rfl (Pc rfl rfl ?_)))))))))
    refine R_lssD rfl rfl (Pn rfl (hK6319 _ _ _ ?_))
    refine W_cond_v (b := (decide (i2 < ((l1.length : Nat) : Int)))) rfl (fun hc10 => ?_) (fun hc10 => ?_)
    · replace hb6317 := cond_t hc10 hb6317
      refine WP.skip (hK6318 _ _ _ (WP.seq_k (fun K6320 hK6320 => ?_)))
      obtain ⟨o6321, h6321, hb6317⟩ := obind hb6317
      refine WP.cutK (fun fr_ μ_ L_ => (.inl ()) = o6321 ∧ SubFr [(0, .slice A1 l1.length c1), (9, .int .i64 i2)] fr_ ∧ SegSub (L) L_ ∧ μ = μ_) ?_ ?_
      · refine WP.block (WP.seq_k (fun K6322 hK6322 => Wr Tt_ok rfl (R_assign rfl (Pn rfl (hK6322 _ _ _ ?_)))))
        obtain ⟨o6323, h6323, h6321⟩ := obind h6321
        refine WP.cutK (fun fr_ μ_ L_ => (.inl ()) = o6323 ∧ SubFr [(0, .slice A1 l1.length c1), (9, .int .i64 i2)] fr_ ∧ SegSub (L) L_ ∧ μ = μ_) ?_ ?_
        · refine WP.block (WP.iter h6323 (fun (k1 : Int) fr_ μ_ L_ => SubFr [(0, .slice A1 l1.length c1), (9, .int .i64 i2), (10, .int .i64 k1)] fr_ ∧ SegSub (L) L_ ∧ μ = μ_) ⟨SubFr.of ⟨rfl, rfl, rfl, trivial⟩, SegSub.sel _ [] 0, rfl⟩ ?_)
          rintro k1 q6330 fr6330 μ6330 L6330 hm6330 ⟨hF6330, hS6330, hu6330⟩ hb6330 hq6330
          unfold recyclingref20_Check_l2 at hb6330
          subst hu6330
          refine WP.at hF6330 hS6330 (WP.seq_k (fun K6331 hK6331 => WP.seq_k (fun K6332 hK6332 => Wr Tt_ok rfl (R_move rfl (Pc rfl rfl (R_move rfl (Pc rfl rfl (R_lssD rfl rfl (Pn rfl (hK6332 _ _ _ ?_))))))))))
          refine W_cond_v (b := (decide (k1 < i2))) rfl (fun hc11 => ?_) (fun hc11 => ?_)
          · replace hb6330 := cond_t hc11 hb6330
            refine WP.skip (hK6331 _ _ _ (WP.seq_k (fun K6333 hK6333 => WP.block (WP.seq_k (fun K6334 hK6334 => WP.drawn (id := 19) (l' := List.replicate 11 true) wide Tt_ok _ Kept.refl [(true, 0), (true, 1), (true, 2), (true, 3), (true, 4), (true, 5), (true, 6), (true, 7), (true, 8), (true, 9), (true, 10)] (by kernel_rfl) (by kernel_rfl) rfl (PL_t rfl (R_move rfl (Pt rfl rfl (R_move rfl (Pt rfl rfl ?_))))))))))
            obtain ⟨x2, hx3, hb6330⟩ := obind hb6330
            obtain ⟨a2, cs2, hA3, hr2, _, hc12⟩ := Rds.getI hA1 hx3
            obtain rfl := hr2
            refine R_iaG rfl rfl rfl rfl rfl rfl ⟨(getI_lt hx3).1, (getI_lt hx3).2.1⟩ hA3 (Pt rfl rfl (R_faz rfl rfl rfl rfl rfl (Pt rfl rfl (R_load rfl rfl rfl (Ex.mk _ (Cell.of_cells0 hc12 rfl) (Pt rfl rfl (R_move rfl (Pt rfl rfl (R_move rfl (Pt rfl rfl ?_))))))))))
            obtain ⟨x3, hx4, hb6330⟩ := obind hb6330
            obtain ⟨a3, cs3, hA4, hr3, _, hc13⟩ := Rds.getI hA1 hx4
            obtain rfl := hr3
            refine R_iaG rfl rfl rfl rfl rfl rfl ⟨(getI_lt hx4).1, (getI_lt hx4).2.1⟩ hA4 (Pt rfl rfl (R_faz rfl rfl rfl rfl rfl (Pt rfl rfl (R_load rfl rfl rfl (Ex.mk _ (Cell.of_cells0 hc13 rfl) (Pt rfl rfl (R_eqSg Tt_ok rfl rfl rfl rfl (P_some rfl (PL_nil (AN.done0 (by kernel_rfl) (hK6334 _ _ _ ?_)))))))))))
            refine W_cond_v (b := (decide (x2.ID = x3.ID))) rfl (fun hc14 => ?_) (fun hc14 => ?_)
            · replace hb6330 := cond_t hc14 hb6330
              refine WP.seq_k (fun K6335 hK6335 => Wr Tt_ok rfl (R_assign rfl (Pn rfl (hK6335 _ _ _ (WP.ret ?_)))))
              have e_ := Option.some.inj hb6330
              subst e_
              have hq_ := hq6330 _ rfl
              subst hq_
              replace h6321 := osum_r h6321
              have e_ := Option.some.inj h6321
              subst e_
              replace hb6317 := osum_r hb6317
              have e_ := Option.some.inj hb6317
              subst e_
              have hq_ := hq6317 _ rfl
              subst hq_
              replace h := osum_r h
              have e_ := Option.some.inj h
              subst e_
              refine S_tmp rfl (S_nil (Upd.selS [] 0 ?_))
              exact Upd.done hR
            replace hb6330 := cond_f hc14 hb6330
            refine WP.skip (hK6333 _ _ _ (Wr Tt_ok rfl (R_move rfl (Pc rfl rfl (R_add rfl rfl (Pc rfl rfl (R_assign rfl (Pn rfl ?_))))))))
            have e_ := Option.some.inj hb6330
            subst e_
            exact ⟨_, rfl, SubFr.of ⟨rfl, rfl, rfl, trivial⟩, SegSub.sel _ [] 0, rfl⟩
          replace hb6330 := cond_f hc11 hb6330
          refine WP.exit (B_here ?_)
          have e_ := Option.some.inj hb6330
          subst e_
          have hq_ := hq6330 _ rfl
          subst hq_
          exact ⟨rfl, SubFr.of ⟨rfl, rfl, trivial⟩, SegSub.sel _ [] 0, rfl⟩
        rintro fr6323 μ6323 L6323 hm6323 ⟨ho6323, hF6323, hS6323, hu6323⟩
        subst ho6323
        replace h6321 := osum_l h6321
        subst hu6323
        have e_ := Option.some.inj h6321
        subst e_
        exact ⟨rfl, SubFr.trans (fr := [(0, .slice A1 l1.length c1), (9, .int .i64 i2)]) (SubFr.of ⟨rfl, rfl, trivial⟩) hF6323, SegSub.trans (M := (L)) (SegSub.sel _ [] 0) hS6323, rfl⟩
      rintro fr6321 μ6321 L6321 hm6321 ⟨ho6321, hF6321, hS6321, hu6321⟩
      subst ho6321
      replace hb6317 := osum_l hb6317
      subst hu6321
      refine hK6320 _ _ _ (WP.at hF6321 hS6321 (Wr Tt_ok rfl (R_move rfl (Pc rfl rfl (R_add rfl rfl (Pc rfl rfl (R_assign rfl (Pn rfl ?_))))))))
      have e_ := Option.some.inj hb6317
      subst e_
      exact ⟨_, rfl, SubFr.of ⟨rfl, rfl, trivial⟩, SegSub.sel _ [] 0, rfl⟩
    replace hb6317 := cond_f hc10 hb6317
    refine WP.exit (B_here ?_)
    have e_ := Option.some.inj hb6317
    subst e_
    have hq_ := hq6317 _ rfl
    subst hq_
    exact ⟨rfl, SubFr.of trivial, SegSub.sel _ [] 0, rfl⟩
  rintro fr6297 μ6297 L6297 hm6297 ⟨ho6297, hF6297, hS6297, hu6297⟩
  subst ho6297
  replace h := osum_l h
  subst hu6297
  refine hK6295 _ _ _ (WP.at hF6297 hS6297 (WP.seq_k (fun K6336 hK6336 => Wr Tt_ok rfl (R_assign rfl (Pn rfl (hK6336 _ _ _ (WP.ret ?_)))))))
  have e_ := Option.some.inj h
  subst e_
  refine S_tmp rfl (S_nil (Upd.selS [] 0 ?_))
  exact Upd.done hR

theorem recyclingref21_Check_fn {μ : Gh} {L : List Seg} {R : Value → Gh → List Seg → Prop}  {l1 : (List T_api_Demand)} {nodes1 : Int} {materials1 : Int} {A1 : Option Addr} {c1 : Nat} {res1 : Int}
    (hl1 : l1.length ≤ c1 ∧ c1 ≤ maxLen) (hA1 : Rds r_api_Demand μ L A1 l1) (h : recyclingref21_Check l1 nodes1 materials1 = some res1)
    (hR : R (.int .i64 res1) μ (L)) :
    Fn Try.prog 33 [.slice A1 l1.length c1, .int .i64 nodes1, .int .i64 materials1] μ (L) R := by
  unfold recyclingref21_Check at h
  refine Fn.of_body Tt_ok Try.func33 (by kernel_rfl) rfl Try.ntmps33 (by simp) ?_
  simp only [Try.f33, argFr, List.zipIdx, List.map, Nat.reduceAdd]
  refine WP.seq_k (fun K6342 hK6342 => Wr Tt_ok rfl (R_assign rfl (Pn rfl (hK6342 _ _ _ (WP.seq_k (fun K6343 hK6343 => WP.seq_k (fun K6344 hK6344 => Wr Tt_ok rfl (R_move rfl (Pc rfl rfl (R_lenS rfl rfl rfl ?_))))))))))
  refine Pc rfl rfl (R_gtrD rfl rfl (Pn rfl (hK6344 _ _ _ ?_)))
  refine W_cond_v (b := (decide (32 < ((l1.length : Nat) : Int)))) rfl (fun hc1 => ?_) (fun hc1 => ?_)
  · replace h := cond_t hc1 h
    refine WP.seq_k (fun K6345 hK6345 => Wr Tt_ok rfl (R_assign rfl (Pn rfl (hK6345 _ _ _ (WP.ret ?_)))))
    have e_ := Option.some.inj h
    subst e_
    refine S_tmp rfl (S_nil (Upd.selS [] 0 ?_))
    exact Upd.done hR
  replace h := cond_f hc1 h
  refine WP.skip (hK6343 _ _ _ (WP.seq_k (fun K6346 hK6346 => WP.seq_k (fun K6347 hK6347 => Wr Tt_ok rfl (R_assign rfl (Pn rfl (hK6347 _ _ _ ?_)))))))
  obtain ⟨o6348, h6348, h⟩ := obind h
  refine WP.cutK (fun fr_ μ_ L_ => (.inl ()) = o6348 ∧ SubFr [(0, .slice A1 l1.length c1)] fr_ ∧ SegSub (L) L_ ∧ μ = μ_) ?_ ?_
  · refine WP.block (WP.iter h6348 (fun (i1 : Int) fr_ μ_ L_ => SubFr [(0, .slice A1 l1.length c1), (1, .int .i64 nodes1), (2, .int .i64 materials1), (7, .int .i64 i1)] fr_ ∧ SegSub (L) L_ ∧ μ = μ_) ⟨SubFr.of ⟨rfl, rfl, rfl, rfl, trivial⟩, SegSub.sel _ [] 0, rfl⟩ ?_)
    rintro i1 q6365 fr6365 μ6365 L6365 hm6365 ⟨hF6365, hS6365, hu6365⟩ hb6365 hq6365
    unfold recyclingref21_Check_l1 at hb6365
    subst hu6365
    refine WP.at hF6365 hS6365 (WP.seq_k (fun K6366 hK6366 => WP.seq_k (fun K6367 hK6367 => Wr Tt_ok rfl (R_move rfl (Pc rfl rfl (R_move rfl (Pc rfl rfl (R_lenS rfl rfl rfl (Pc rfl rfl ?_)))))))))
    refine R_lssD rfl rfl (Pn rfl (hK6367 _ _ _ ?_))
    refine W_cond_v (b := (decide (i1 < ((l1.length : Nat) : Int)))) rfl (fun hc2 => ?_) (fun hc2 => ?_)
    · replace hb6365 := cond_t hc2 hb6365
      refine WP.skip (hK6366 _ _ _ (WP.seq_k (fun K6368 hK6368 => WP.block (WP.seq_k (fun K6369 hK6369 => Wr Tt_ok rfl (R_move rfl (Pc rfl rfl (R_move rfl (P_some rfl (O_cons ?_))))))))))
      obtain ⟨x1, hx1, hb6365⟩ := obind hb6365
      obtain ⟨a1, cs1, hA2, hr1, _, hc3⟩ := Rds.getI hA1 hx1
      obtain rfl := hr1
      refine O_read rfl (R_iaG rfl rfl rfl rfl rfl rfl ⟨(getI_lt hx1).1, (getI_lt hx1).2.1⟩ hA2 (Pc rfl rfl (R_loadA rfl rfl rfl rfl (Ex.mk [.int .i64 x1.Container, .int .i64 x1.Node, .int .i64 x1.Kind, .int .i64 x1.Grams, .int .i64 x1.When.From, .int .i64 x1.When.To, .int .i64 x1.Service] ⟨rfl, hc3⟩ (P_some rfl (O_cons (O_alloc (cs := #[.int .i64 0, .int .i64 0, .int .i64 0, .int .i64 0, .int .i64 0, .int .i64 0, .int .i64 0]) rfl rfl (fun g1 => P_some rfl (O_cons (O_store (vs := [.int .i64 x1.Container, .int .i64 x1.Node, .int .i64 x1.Kind, .int .i64 x1.Grams, .int .i64 x1.When.From, .int .i64 x1.When.To, .int .i64 x1.Service]) rfl rfl rfl rfl rfl rfl (ST_ (L' := ([(g1, .cells #[.int .i64 x1.Container, .int .i64 x1.Node, .int .i64 x1.Kind, .int .i64 x1.Grams, .int .i64 x1.When.From, .int .i64 x1.When.To, .int .i64 x1.Service] 79 (0, 0))] :: L)) 0 0 rfl rfl rfl rfl ?_)))))))))))
      refine P_none (O_nil (hK6369 _ _ _ (WP.seq_k (fun K6372 hK6372 => WP.seq_k (fun K6373 hK6373 => ?_)))))
      obtain ⟨o6374, h6374, hb6365⟩ := obind hb6365
      refine WP.cutK (fun fr_ μ_ L_ => ∃ (v1 : Bool), v1 = o6374 ∧ SubFr [(0, .slice A1 l1.length c1), (1, .int .i64 nodes1), (2, .int .i64 materials1), (7, .int .i64 i1), (8, .pointer (some ⟨g1, 0, none⟩)), (53, .bool v1)] fr_ ∧ SegSub ([(g1, .cells #[.int .i64 x1.Container, .int .i64 x1.Node, .int .i64 x1.Kind, .int .i64 x1.Grams, .int .i64 x1.When.From, .int .i64 x1.When.To, .int .i64 x1.Service] 79 (0, 0))] :: L) L_ ∧ μ = μ_) ?_ ?_
      · refine Wr Tt_ok rfl (R_fa0 (o' := 0) rfl rfl rfl rfl rfl rfl (Pc rfl rfl (R_load rfl rfl rfl (Ex.mk _ (Cell.seg 0 0 rfl rfl rfl) (Pc rfl rfl (R_lssD rfl rfl (Pc rfl rfl (R_move rfl (P_some rfl ?_)))))))))
        refine O_gv (z := (decide (x1.Container < 0))) rfl rfl (fun hc4 => ?_) (fun hc4 => ?_)
        · replace h6374 := cond_f hc4 h6374
          refine O_read rfl (R_fa0 (o' := 0) rfl rfl rfl rfl rfl rfl (P_some rfl (O_gY rfl rfl hc4 (O_read rfl (R_load rfl rfl rfl (Ex.mk _ (Cell.seg 0 0 rfl rfl rfl) (P_some rfl (O_gY rfl rfl hc4 (O_read rfl (R_geqD rfl rfl (Pc rfl rfl (R_pick_F rfl hc4 rfl (Pc rfl rfl ?_)))))))))))))
          refine R_move rfl (P_some rfl ?_)
          refine O_gv (z := (decide (256 ≤ x1.Container))) rfl rfl (fun hc5 => ?_) (fun hc5 => ?_)
          · replace h6374 := cond_f hc5 h6374
            refine O_read rfl (R_fa0 (o' := 1) rfl rfl rfl rfl rfl rfl (P_some rfl (O_gY rfl rfl hc5 (O_read rfl (R_load rfl rfl rfl (Ex.mk _ (Cell.seg 0 0 rfl rfl rfl) (P_some rfl (O_gY rfl rfl hc5 (O_read rfl (R_lssD rfl rfl (Pc rfl rfl (R_pick_F rfl hc5 rfl (Pc rfl rfl ?_)))))))))))))
            refine R_move rfl (P_some rfl ?_)
            refine O_gv (z := (decide (x1.Node < 0))) rfl rfl (fun hc6 => ?_) (fun hc6 => ?_)
            · replace h6374 := cond_f hc6 h6374
              refine O_read rfl (R_fa0 (o' := 1) rfl rfl rfl rfl rfl rfl (P_some rfl (O_gY rfl rfl hc6 (O_read rfl (R_load rfl rfl rfl (Ex.mk _ (Cell.seg 0 0 rfl rfl rfl) (P_some rfl (O_gY rfl rfl hc6 (O_read rfl (R_move rfl (P_some rfl (O_gY rfl rfl hc6 (O_read rfl (R_geqD rfl rfl (Pc rfl rfl ?_)))))))))))))))
              refine R_pick_F rfl hc6 rfl (Pc rfl rfl (R_move rfl (P_some rfl ?_)))
              refine O_gv (z := (decide (nodes1 ≤ x1.Node))) rfl rfl (fun hc7 => ?_) (fun hc7 => ?_)
              · replace h6374 := cond_f hc7 h6374
                refine O_read rfl (R_fa0 (o' := 2) rfl rfl rfl rfl rfl rfl (P_some rfl (O_gY rfl rfl hc7 (O_read rfl (R_load rfl rfl rfl (Ex.mk _ (Cell.seg 0 0 rfl rfl rfl) (P_some rfl (O_gY rfl rfl hc7 (O_read rfl (R_lssD rfl rfl (Pc rfl rfl (R_pick_F rfl hc7 rfl (Pc rfl rfl ?_)))))))))))))
                refine R_move rfl (P_some rfl ?_)
                refine O_gv (z := (decide (x1.Kind < 0))) rfl rfl (fun hc8 => ?_) (fun hc8 => ?_)
                · replace h6374 := cond_f hc8 h6374
                  refine O_read rfl (R_fa0 (o' := 2) rfl rfl rfl rfl rfl rfl (P_some rfl (O_gY rfl rfl hc8 (O_read rfl (R_load rfl rfl rfl (Ex.mk _ (Cell.seg 0 0 rfl rfl rfl) (P_some rfl (O_gY rfl rfl hc8 (O_read rfl (R_move rfl (P_some rfl (O_gY rfl rfl hc8 (O_read rfl (R_geqD rfl rfl (Pc rfl rfl ?_)))))))))))))))
                  refine R_pick_F rfl hc8 rfl (Pn rfl ?_)
                  have e_ := Option.some.inj h6374
                  subst e_
                  exact ⟨(decide (materials1 ≤ x1.Kind)), rfl, SubFr.of ⟨rfl, rfl, rfl, rfl, rfl, rfl, trivial⟩, SegSub.sel _ [some 0] 1, rfl⟩
                replace h6374 := cond_t hc8 h6374
                refine P_some rfl (O_gN rfl rfl hc8 (P_some rfl (O_gN rfl rfl hc8 (P_some rfl (O_gN rfl rfl hc8 (Pc rfl rfl (R_pick_T rfl hc8 rfl (Pn rfl ?_))))))))
                have e_ := Option.some.inj h6374
                subst e_
                exact ⟨true, rfl, SubFr.of ⟨rfl, rfl, rfl, rfl, rfl, rfl, trivial⟩, SegSub.sel _ [some 0] 1, rfl⟩
              replace h6374 := cond_t hc7 h6374
              refine P_some rfl (O_gN rfl rfl hc7 (P_some rfl (O_gN rfl rfl hc7 (Pc rfl rfl (R_pick_T rfl hc7 rfl (Pc rfl rfl (R_move rfl (P_some rfl (O_gN rfl rfl rfl (P_some rfl (O_gN rfl rfl rfl (P_some rfl (O_gN rfl rfl rfl ?_)))))))))))))
              refine P_some rfl (O_gN rfl rfl rfl (Pc rfl rfl (R_pick_T rfl rfl rfl (Pn rfl ?_))))
              have e_ := Option.some.inj h6374
              subst e_
              exact ⟨true, rfl, SubFr.of ⟨rfl, rfl, rfl, rfl, rfl, rfl, trivial⟩, SegSub.sel _ [some 0] 1, rfl⟩
            replace h6374 := cond_t hc6 h6374
            refine P_some rfl (O_gN rfl rfl hc6 (P_some rfl (O_gN rfl rfl hc6 (P_some rfl (O_gN rfl rfl hc6 (Pc rfl rfl (R_pick_T rfl hc6 rfl (Pc rfl rfl (R_move rfl (P_some rfl (O_gN rfl rfl rfl (P_some rfl (O_gN rfl rfl rfl ?_)))))))))))))
            refine P_some rfl (O_gN rfl rfl rfl (Pc rfl rfl (R_pick_T rfl rfl rfl (Pc rfl rfl (R_move rfl (P_some rfl (O_gN rfl rfl rfl (P_some rfl (O_gN rfl rfl rfl (P_some rfl (O_gN rfl rfl rfl (P_some rfl (O_gN rfl rfl rfl ?_)))))))))))))
            refine Pc rfl rfl (R_pick_T rfl rfl rfl (Pn rfl ?_))
            have e_ := Option.some.inj h6374
            subst e_
            exact ⟨true, rfl, SubFr.of ⟨rfl, rfl, rfl, rfl, rfl, rfl, trivial⟩, SegSub.sel _ [some 0] 1, rfl⟩
          replace h6374 := cond_t hc5 h6374
          refine P_some rfl (O_gN rfl rfl hc5 (P_some rfl (O_gN rfl rfl hc5 (Pc rfl rfl (R_pick_T rfl hc5 rfl (Pc rfl rfl (R_move rfl (P_some rfl (O_gN rfl rfl rfl (P_some rfl (O_gN rfl rfl rfl (P_some rfl (O_gN rfl rfl rfl ?_)))))))))))))
          refine P_some rfl (O_gN rfl rfl rfl (Pc rfl rfl (R_pick_T rfl rfl rfl (Pc rfl rfl (R_move rfl (P_some rfl (O_gN rfl rfl rfl (P_some rfl (O_gN rfl rfl rfl (P_some rfl (O_gN rfl rfl rfl (P_some rfl (O_cons ?_)))))))))))))
          refine O_read rfl (R_pick_T rfl rfl rfl (Pc rfl rfl (R_move rfl (P_some rfl (O_gN rfl rfl rfl (P_some rfl (O_gN rfl rfl rfl (P_some rfl (O_gN rfl rfl rfl (P_some rfl (O_gN rfl rfl rfl (Pc rfl rfl (R_pick_T rfl rfl rfl ?_)))))))))))))
          refine Pn rfl ?_
          have e_ := Option.some.inj h6374
          subst e_
          exact ⟨true, rfl, SubFr.of ⟨rfl, rfl, rfl, rfl, rfl, rfl, trivial⟩, SegSub.sel _ [some 0] 1, rfl⟩
        replace h6374 := cond_t hc4 h6374
        refine P_some rfl (O_gN rfl rfl hc4 (P_some rfl (O_gN rfl rfl hc4 (Pc rfl rfl (R_pick_T rfl hc4 rfl (Pc rfl rfl (R_move rfl (P_some rfl (O_gN rfl rfl rfl (P_some rfl (O_gN rfl rfl rfl (P_some rfl (O_gN rfl rfl rfl ?_)))))))))))))
        refine Pc rfl rfl (R_pick_T rfl rfl rfl (Pc rfl rfl (R_move rfl (P_some rfl (O_gN rfl rfl rfl (P_some rfl (O_gN rfl rfl rfl (P_some rfl (O_gN rfl rfl rfl (P_some rfl (O_gN rfl rfl rfl (P_some rfl (O_cons ?_)))))))))))))
        refine O_read rfl (R_pick_T rfl rfl rfl (Pc rfl rfl (R_move rfl (P_some rfl (O_gN rfl rfl rfl (P_some rfl (O_gN rfl rfl rfl (P_some rfl (O_gN rfl rfl rfl (Pc rfl rfl (R_pick_T rfl rfl rfl (P_some rfl (O_cons ?_)))))))))))))
        refine O_read rfl (R_move rfl (P_some rfl (O_gN rfl rfl rfl (P_some rfl (O_gN rfl rfl rfl (P_some rfl (O_gN rfl rfl rfl (P_some rfl (O_gN rfl rfl rfl (Pc rfl rfl (R_pick_T rfl rfl rfl (Pn rfl ?_))))))))))))
        have e_ := Option.some.inj h6374
        subst e_
        exact ⟨true, rfl, SubFr.of ⟨rfl, rfl, rfl, rfl, rfl, rfl, trivial⟩, SegSub.sel _ [some 0] 1, rfl⟩
      rintro fr6374 μ6374 L6374 hm6374 ⟨v1, ho6374, hF6374, hS6374, hu6374⟩
      subst ho6374
      subst hu6374
      refine hK6373 _ _ _ (WP.at hF6374 hS6374 ?_)
      refine W_cond_v (b := v1) rfl (fun hc9 => ?_) (fun hc9 => ?_)
      · replace hb6365 := cond_t hc9 hb6365
        refine WP.seq_k (fun K6377 hK6377 => Wr Tt_ok rfl (R_assign rfl (Pn rfl (hK6377 _ _ _ (WP.ret ?_)))))
        have e_ := Option.some.inj hb6365
        subst e_
        have hq_ := hq6365 _ rfl
        subst hq_
        replace h := osum_r h
        have e_ := Option.some.inj h
        subst e_
        refine S_tmp rfl (S_nil (Upd.selS [] 1 ?_))
        exact Upd.done hR
      replace hb6365 := cond_f hc9 hb6365
      refine WP.skip (hK6372 _ _ _ (WP.seq_k (fun K6378 hK6378 => ?_)))
      obtain ⟨o6379, h6379, hb6365⟩ := obind hb6365
      refine WP.cutK (fun fr_ μ_ L_ => ∃ (v2 : Bool), v2 = o6379 ∧ SubFr [(0, .slice A1 l1.length c1), (1, .int .i64 nodes1), (2, .int .i64 materials1), (7, .int .i64 i1), (92, .bool v2)] fr_ ∧ SegSub (L) L_ ∧ μ = μ_) ?_ ?_
      · refine Wr Tt_ok rfl (R_fa0 (o' := 3) rfl rfl rfl rfl rfl rfl (Pc rfl rfl (R_load rfl rfl rfl (Ex.mk _ (Cell.seg 0 0 rfl rfl rfl) (Pc rfl rfl (R_lssD rfl rfl (Pc rfl rfl (R_move rfl (P_some rfl ?_)))))))))
        refine O_gv (z := (decide (x1.Grams < 0))) rfl rfl (fun hc10 => ?_) (fun hc10 => ?_)
        · replace h6379 := cond_f hc10 h6379
          refine O_read rfl (R_fa0 (o' := 3) rfl rfl rfl rfl rfl rfl (P_some rfl (O_gY rfl rfl hc10 (O_read rfl (R_load rfl rfl rfl (Ex.mk _ (Cell.seg 0 0 rfl rfl rfl) (P_some rfl (O_gY rfl rfl hc10 (O_read rfl (R_gtrD rfl rfl (Pc rfl rfl (R_pick_F rfl hc10 rfl (Pc rfl rfl ?_)))))))))))))
          refine R_move rfl (P_some rfl ?_)
          refine O_gv (z := (decide (1073741824 < x1.Grams))) rfl rfl (fun hc11 => ?_) (fun hc11 => ?_)
          · replace h6379 := cond_f hc11 h6379
            refine O_read rfl (R_fa0 (o' := 4) rfl rfl rfl rfl rfl rfl (P_some rfl (O_gY rfl rfl hc11 (O_read rfl (R_fa0 (o' := 4) rfl rfl rfl rfl rfl rfl (P_some rfl (O_gY rfl rfl hc11 (O_read rfl (R_load rfl rfl rfl (Ex.mk _ (Cell.seg 0 0 rfl rfl rfl) (P_some rfl (O_gY rfl rfl hc11 (O_read rfl (R_lssD rfl rfl (Pc rfl rfl ?_)))))))))))))))
            refine R_pick_F rfl hc11 rfl (Pc rfl rfl (R_move rfl (P_some rfl ?_)))
            refine O_gv (z := (decide (x1.When.From < 0))) rfl rfl (fun hc12 => ?_) (fun hc12 => ?_)
            · replace h6379 := cond_f hc12 h6379
              refine O_read rfl (R_fa0 (o' := 4) rfl rfl rfl rfl rfl rfl (P_some rfl (O_gY rfl rfl hc12 (O_read rfl (R_fa0 (o' := 4) rfl rfl rfl rfl rfl rfl (P_some rfl (O_gY rfl rfl hc12 (O_read rfl (R_load rfl rfl rfl (Ex.mk _ (Cell.seg 0 0 rfl rfl rfl) (P_some rfl (O_gY rfl rfl hc12 (O_read rfl (R_fa0 (o' := 4) rfl rfl rfl rfl rfl rfl (P_some rfl (O_gY rfl rfl hc12 (O_read rfl ?_)))))))))))))))))
              refine R_fa0 (o' := 5) rfl rfl rfl rfl rfl rfl (P_some rfl (O_gY rfl rfl hc12 (O_read rfl (R_load rfl rfl rfl (Ex.mk _ (Cell.seg 0 0 rfl rfl rfl) (P_some rfl (O_gY rfl rfl hc12 (O_read rfl (R_gtrD rfl rfl (Pc rfl rfl (R_pick_F rfl hc12 rfl (Pc rfl rfl (R_move rfl ?_)))))))))))))
              apply P_some; exact rfl
              refine O_gv (z := (decide (x1.When.To < x1.When.From))) rfl rfl (fun hc13 => ?_) (fun hc13 => ?_)
              · replace h6379 := cond_f hc13 h6379
                refine O_read rfl (R_fa0 (o' := 4) rfl rfl rfl rfl rfl rfl (P_some rfl (O_gY rfl rfl hc13 (O_read rfl (R_fa0 (o' := 5) rfl rfl rfl rfl rfl rfl (P_some rfl (O_gY rfl rfl hc13 (O_read rfl (R_load rfl rfl rfl (Ex.mk _ (Cell.seg 0 0 rfl rfl rfl) (P_some rfl (O_gY rfl rfl hc13 (O_read rfl (R_gtrD rfl rfl (Pc rfl rfl ?_)))))))))))))))
                refine R_pick_F rfl hc13 rfl (Pc rfl rfl (R_move rfl (P_some rfl ?_)))
                refine O_gv (z := (decide (86400 < x1.When.To))) rfl rfl (fun hc14 => ?_) (fun hc14 => ?_)
                · replace h6379 := cond_f hc14 h6379
                  refine O_read rfl (R_fa0 (o' := 6) rfl rfl rfl rfl rfl rfl (P_some rfl (O_gY rfl rfl hc14 (O_read rfl (R_load rfl rfl rfl (Ex.mk _ (Cell.seg 0 0 rfl rfl rfl) (P_some rfl (O_gY rfl rfl hc14 (O_read rfl (R_lssD rfl rfl (Pc rfl rfl (R_pick_F rfl hc14 rfl (Pc rfl rfl ?_)))))))))))))
                  refine R_move rfl (P_some rfl ?_)
                  refine O_gv (z := (decide (x1.Service < 0))) rfl rfl (fun hc15 => ?_) (fun hc15 => ?_)
                  · replace h6379 := cond_f hc15 h6379
                    refine O_read rfl (R_fa0 (o' := 6) rfl rfl rfl rfl rfl rfl (P_some rfl (O_gY rfl rfl hc15 (O_read rfl (R_load rfl rfl rfl (Ex.mk _ (Cell.seg 0 0 rfl rfl rfl) (P_some rfl (O_gY rfl rfl hc15 (O_read rfl (R_gtrD rfl rfl (Pc rfl rfl (R_pick_F rfl hc15 rfl (Pn rfl ?_)))))))))))))
                    have e_ := Option.some.inj h6379
                    subst e_
                    exact ⟨(decide (3600 < x1.Service)), rfl, SubFr.of ⟨rfl, rfl, rfl, rfl, rfl, trivial⟩, SegSub.sel _ [] 1, rfl⟩
                  replace h6379 := cond_t hc15 h6379
                  refine P_some rfl (O_gN rfl rfl hc15 (P_some rfl (O_gN rfl rfl hc15 (Pc rfl rfl (R_pick_T rfl hc15 rfl (Pn rfl ?_))))))
                  have e_ := Option.some.inj h6379
                  subst e_
                  exact ⟨true, rfl, SubFr.of ⟨rfl, rfl, rfl, rfl, rfl, trivial⟩, SegSub.sel _ [] 1, rfl⟩
                replace h6379 := cond_t hc14 h6379
                refine P_some rfl (O_gN rfl rfl hc14 (P_some rfl (O_gN rfl rfl hc14 (Pc rfl rfl (R_pick_T rfl hc14 rfl (Pc rfl rfl (R_move rfl (P_some rfl (O_gN rfl rfl rfl (P_some rfl (O_gN rfl rfl rfl (P_some rfl (O_gN rfl rfl rfl ?_)))))))))))))
                refine Pc rfl rfl (R_pick_T rfl rfl rfl (Pn rfl ?_))
                have e_ := Option.some.inj h6379
                subst e_
                exact ⟨true, rfl, SubFr.of ⟨rfl, rfl, rfl, rfl, rfl, trivial⟩, SegSub.sel _ [] 1, rfl⟩
              replace h6379 := cond_t hc13 h6379
              refine P_some rfl (O_gN rfl rfl hc13 (P_some rfl (O_gN rfl rfl hc13 (P_some rfl (O_gN rfl rfl hc13 (Pc rfl rfl (R_pick_T rfl hc13 rfl (Pc rfl rfl (R_move rfl (P_some rfl (O_gN rfl rfl rfl (P_some rfl (O_gN rfl rfl rfl ?_)))))))))))))
              refine P_some rfl (O_gN rfl rfl rfl (Pc rfl rfl (R_pick_T rfl rfl rfl (Pc rfl rfl (R_move rfl (P_some rfl (O_gN rfl rfl rfl (P_some rfl (O_gN rfl rfl rfl (P_some rfl (O_gN rfl rfl rfl (P_some rfl (O_cons ?_)))))))))))))
              refine O_read rfl (R_pick_T rfl rfl rfl (Pn rfl ?_))
              have e_ := Option.some.inj h6379
              subst e_
              exact ⟨true, rfl, SubFr.of ⟨rfl, rfl, rfl, rfl, rfl, trivial⟩, SegSub.sel _ [] 1, rfl⟩
            replace h6379 := cond_t hc12 h6379
            refine P_some rfl (O_gN rfl rfl hc12 (P_some rfl (O_gN rfl rfl hc12 (P_some rfl (O_gN rfl rfl hc12 (P_some rfl (O_gN rfl rfl hc12 (P_some rfl (O_gN rfl rfl hc12 (P_some rfl (O_gN rfl rfl hc12 (Pc rfl rfl (R_pick_T rfl hc12 rfl (P_some rfl (O_cons ?_)))))))))))))))
            refine O_read rfl (R_move rfl (P_some rfl (O_gN rfl rfl rfl (P_some rfl (O_gN rfl rfl rfl (P_some rfl (O_gN rfl rfl rfl (P_some rfl (O_gN rfl rfl rfl (Pc rfl rfl (R_pick_T rfl rfl rfl (Pc rfl rfl (R_move rfl ?_)))))))))))))
            refine P_some rfl (O_gN rfl rfl rfl (P_some rfl (O_gN rfl rfl rfl (P_some rfl (O_gN rfl rfl rfl (Pc rfl rfl (R_pick_T rfl rfl rfl (Pc rfl rfl (R_move rfl (P_some rfl (O_gN rfl rfl rfl (P_some rfl (O_gN rfl rfl rfl ?_)))))))))))))
            refine P_some rfl (O_gN rfl rfl rfl (Pc rfl rfl (R_pick_T rfl rfl rfl (Pn rfl ?_))))
            have e_ := Option.some.inj h6379
            subst e_
            exact ⟨true, rfl, SubFr.of ⟨rfl, rfl, rfl, rfl, rfl, trivial⟩, SegSub.sel _ [] 1, rfl⟩
          replace h6379 := cond_t hc11 h6379
          refine P_some rfl (O_gN rfl rfl hc11 (P_some rfl (O_gN rfl rfl hc11 (P_some rfl (O_gN rfl rfl hc11 (Pc rfl rfl (R_pick_T rfl hc11 rfl (Pc rfl rfl (R_move rfl (P_some rfl (O_gN rfl rfl rfl (P_some rfl (O_gN rfl rfl rfl ?_)))))))))))))
          refine P_some rfl (O_gN rfl rfl rfl (P_some rfl (O_gN rfl rfl rfl (P_some rfl (O_gN rfl rfl rfl (P_some rfl (O_gN rfl rfl rfl (P_some rfl (O_gN rfl rfl rfl (Pc rfl rfl (R_pick_T rfl rfl rfl (Pc rfl rfl (R_move rfl ?_)))))))))))))
          refine P_some rfl (O_gN rfl rfl rfl (P_some rfl (O_gN rfl rfl rfl (P_some rfl (O_gN rfl rfl rfl (P_some rfl (O_gN rfl rfl rfl (Pc rfl rfl (R_pick_T rfl rfl rfl (Pc rfl rfl (R_move rfl (P_some rfl (O_gN rfl rfl rfl ?_)))))))))))))
          refine P_some rfl (O_gN rfl rfl rfl (P_some rfl (O_gN rfl rfl rfl (Pc rfl rfl (R_pick_T rfl rfl rfl (Pc rfl rfl (R_move rfl (P_some rfl (O_gN rfl rfl rfl (P_some rfl (O_gN rfl rfl rfl (P_some rfl (O_gN rfl rfl rfl ?_)))))))))))))
          refine Pc rfl rfl (R_pick_T rfl rfl rfl (Pn rfl ?_))
          have e_ := Option.some.inj h6379
          subst e_
          exact ⟨true, rfl, SubFr.of ⟨rfl, rfl, rfl, rfl, rfl, trivial⟩, SegSub.sel _ [] 1, rfl⟩
        replace h6379 := cond_t hc10 h6379
        refine P_some rfl (O_gN rfl rfl hc10 (P_some rfl (O_gN rfl rfl hc10 (Pc rfl rfl (R_pick_T rfl hc10 rfl (Pc rfl rfl (R_move rfl (P_some rfl (O_gN rfl rfl rfl (P_some rfl (O_gN rfl rfl rfl (P_some rfl (O_gN rfl rfl rfl ?_)))))))))))))
        refine P_some rfl (O_gN rfl rfl rfl (Pc rfl rfl (R_pick_T rfl rfl rfl (Pc rfl rfl (R_move rfl (P_some rfl (O_gN rfl rfl rfl (P_some rfl (O_gN rfl rfl rfl (P_some rfl (O_gN rfl rfl rfl (P_some rfl (O_gN rfl rfl rfl ?_)))))))))))))
        refine P_some rfl (O_gN rfl rfl rfl (P_some rfl (O_gN rfl rfl rfl (P_some rfl (O_gN rfl rfl rfl (Pc rfl rfl (R_pick_T rfl rfl rfl (Pc rfl rfl (R_move rfl (P_some rfl (O_gN rfl rfl rfl (P_some rfl (O_gN rfl rfl rfl ?_)))))))))))))
        refine P_some rfl (O_gN rfl rfl rfl (P_some rfl (O_gN rfl rfl rfl (Pc rfl rfl (R_pick_T rfl rfl rfl (Pc rfl rfl (R_move rfl (P_some rfl (O_gN rfl rfl rfl (P_some rfl (O_gN rfl rfl rfl (P_some rfl (O_gN rfl rfl rfl ?_)))))))))))))
        refine Pc rfl rfl (R_pick_T rfl rfl rfl (Pc rfl rfl (R_move rfl (P_some rfl (O_gN rfl rfl rfl (P_some rfl (O_gN rfl rfl rfl (P_some rfl (O_gN rfl rfl rfl (Pc rfl rfl (R_pick_T rfl rfl rfl ?_)))))))))))
        refine Pn rfl ?_
        have e_ := Option.some.inj h6379
        subst e_
        exact ⟨true, rfl, SubFr.of ⟨rfl, rfl, rfl, rfl, rfl, trivial⟩, SegSub.sel _ [] 1, rfl⟩
      rintro fr6379 μ6379 L6379 hm6379 ⟨v2, ho6379, hF6379, hS6379, hu6379⟩
      subst ho6379
      subst hu6379
      refine hK6378 _ _ _ (WP.at hF6379 hS6379 ?_)
      refine W_cond_v (b := v2) rfl (fun hc16 => ?_) (fun hc16 => ?_)
      · replace hb6365 := cond_t hc16 hb6365
        refine WP.seq_k (fun K6380 hK6380 => Wr Tt_ok rfl (R_assign rfl (Pn rfl (hK6380 _ _ _ (WP.ret ?_)))))
        have e_ := Option.some.inj hb6365
        subst e_
        have hq_ := hq6365 _ rfl
        subst hq_
        replace h := osum_r h
        have e_ := Option.some.inj h
        subst e_
        refine S_tmp rfl (S_nil (Upd.selS [] 0 ?_))
        exact Upd.done hR
      replace hb6365 := cond_f hc16 hb6365
      refine WP.skip (hK6368 _ _ _ (Wr Tt_ok rfl (R_move rfl (Pc rfl rfl (R_add rfl rfl (Pc rfl rfl (R_assign rfl (Pn rfl ?_))))))))
      have e_ := Option.some.inj hb6365
      subst e_
      exact ⟨_, rfl, SubFr.of ⟨rfl, rfl, rfl, rfl, trivial⟩, SegSub.sel _ [] 0, rfl⟩
    replace hb6365 := cond_f hc2 hb6365
    refine WP.exit (B_here ?_)
    have e_ := Option.some.inj hb6365
    subst e_
    have hq_ := hq6365 _ rfl
    subst hq_
    exact ⟨rfl, SubFr.of ⟨rfl, trivial⟩, SegSub.sel _ [] 0, rfl⟩
  rintro fr6348 μ6348 L6348 hm6348 ⟨ho6348, hF6348, hS6348, hu6348⟩
  subst ho6348
  replace h := osum_l h
  subst hu6348
  refine hK6346 _ _ _ (WP.at hF6348 hS6348 (WP.seq_k (fun K6381 hK6381 => WP.seq_k (fun K6382 hK6382 => Wr Tt_ok rfl (R_assign rfl (Pn rfl (hK6382 _ _ _ ?_)))))))
  obtain ⟨o6383, h6383, h⟩ := obind h
  refine WP.cutK (fun fr_ μ_ L_ => (.inl ()) = o6383 ∧ SubFr [] fr_ ∧ SegSub (L) L_ ∧ μ = μ_) ?_ ?_
  · refine WP.block (WP.iter h6383 (fun (i2 : Int) fr_ μ_ L_ => SubFr [(0, .slice A1 l1.length c1), (9, .int .i64 i2)] fr_ ∧ SegSub (L) L_ ∧ μ = μ_) ⟨SubFr.of ⟨rfl, rfl, trivial⟩, SegSub.sel _ [] 0, rfl⟩ ?_)
    rintro i2 q6403 fr6403 μ6403 L6403 hm6403 ⟨hF6403, hS6403, hu6403⟩ hb6403 hq6403
    unfold recyclingref21_Check_l3 at hb6403
    subst hu6403
    refine WP.at hF6403 hS6403 (WP.seq_k (fun K6404 hK6404 => WP.seq_k (fun K6405 hK6405 => Wr Tt_ok rfl (R_move rfl (Pc rfl rfl (R_move rfl (Pc rfl rfl (R_lenS rfl rfl rfl (Pc rfl rfl ?_)))))))))
    refine R_lssD rfl rfl (Pn rfl (hK6405 _ _ _ ?_))
    refine W_cond_v (b := (decide (i2 < ((l1.length : Nat) : Int)))) rfl (fun hc17 => ?_) (fun hc17 => ?_)
    · replace hb6403 := cond_t hc17 hb6403
      refine WP.skip (hK6404 _ _ _ (WP.seq_k (fun K6406 hK6406 => ?_)))
      obtain ⟨o6407, h6407, hb6403⟩ := obind hb6403
      refine WP.cutK (fun fr_ μ_ L_ => (.inl ()) = o6407 ∧ SubFr [(0, .slice A1 l1.length c1), (9, .int .i64 i2)] fr_ ∧ SegSub (L) L_ ∧ μ = μ_) ?_ ?_
      · refine WP.block (WP.seq_k (fun K6408 hK6408 => Wr Tt_ok rfl (R_assign rfl (Pn rfl (hK6408 _ _ _ ?_)))))
        obtain ⟨o6409, h6409, h6407⟩ := obind h6407
        refine WP.cutK (fun fr_ μ_ L_ => (.inl ()) = o6409 ∧ SubFr [(0, .slice A1 l1.length c1), (9, .int .i64 i2)] fr_ ∧ SegSub (L) L_ ∧ μ = μ_) ?_ ?_
        · refine WP.block (WP.iter h6409 (fun (k1 : Int) fr_ μ_ L_ => SubFr [(0, .slice A1 l1.length c1), (9, .int .i64 i2), (10, .int .i64 k1)] fr_ ∧ SegSub (L) L_ ∧ μ = μ_) ⟨SubFr.of ⟨rfl, rfl, rfl, trivial⟩, SegSub.sel _ [] 0, rfl⟩ ?_)
          rintro k1 q6416 fr6416 μ6416 L6416 hm6416 ⟨hF6416, hS6416, hu6416⟩ hb6416 hq6416
          unfold recyclingref21_Check_l2 at hb6416
          subst hu6416
          refine WP.at hF6416 hS6416 (WP.seq_k (fun K6417 hK6417 => WP.seq_k (fun K6418 hK6418 => Wr Tt_ok rfl (R_move rfl (Pc rfl rfl (R_move rfl (Pc rfl rfl (R_lssD rfl rfl (Pn rfl (hK6418 _ _ _ ?_))))))))))
          refine W_cond_v (b := (decide (k1 < i2))) rfl (fun hc18 => ?_) (fun hc18 => ?_)
          · replace hb6416 := cond_t hc18 hb6416
            refine WP.skip (hK6417 _ _ _ (WP.seq_k (fun K6419 hK6419 => WP.block (WP.seq_k (fun K6420 hK6420 => WP.drawn (id := 17) (l' := List.replicate 11 true) wide Tt_ok _ Kept.refl [(true, 0), (true, 1), (true, 2), (true, 3), (true, 4), (true, 5), (true, 6), (true, 7), (true, 8), (true, 9), (true, 10)] (by kernel_rfl) (by kernel_rfl) rfl (PL_t rfl (R_move rfl (Pt rfl rfl (R_move rfl (Pt rfl rfl ?_))))))))))
            obtain ⟨x2, hx2, hb6416⟩ := obind hb6416
            obtain ⟨a2, cs2, hA3, hr2, _, hc19⟩ := Rds.getI hA1 hx2
            obtain rfl := hr2
            refine R_iaG rfl rfl rfl rfl rfl rfl ⟨(getI_lt hx2).1, (getI_lt hx2).2.1⟩ hA3 (Pt rfl rfl (R_faz rfl rfl rfl rfl rfl (Pt rfl rfl (R_load rfl rfl rfl (Ex.mk _ (Cell.of_cells0 hc19 rfl) (Pt rfl rfl (R_move rfl (Pt rfl rfl (R_move rfl (Pt rfl rfl ?_))))))))))
            obtain ⟨x3, hx3, hb6416⟩ := obind hb6416
            obtain ⟨a3, cs3, hA4, hr3, _, hc20⟩ := Rds.getI hA1 hx3
            obtain rfl := hr3
            refine R_iaG rfl rfl rfl rfl rfl rfl ⟨(getI_lt hx3).1, (getI_lt hx3).2.1⟩ hA4 (Pt rfl rfl (R_faz rfl rfl rfl rfl rfl (Pt rfl rfl (R_load rfl rfl rfl (Ex.mk _ (Cell.of_cells0 hc20 rfl) (Pt rfl rfl (R_eqlD rfl rfl (P_some rfl (PL_nil (AN.done0 (by kernel_rfl) (hK6420 _ _ _ ?_)))))))))))
            refine W_cond_v (b := (decide (x2.Container = x3.Container))) rfl (fun hc21 => ?_) (fun hc21 => ?_)
            · replace hb6416 := cond_t hc21 hb6416
              refine WP.seq_k (fun K6421 hK6421 => Wr Tt_ok rfl (R_assign rfl (Pn rfl (hK6421 _ _ _ (WP.ret ?_)))))
              have e_ := Option.some.inj hb6416
              subst e_
              have hq_ := hq6416 _ rfl
              subst hq_
              replace h6407 := osum_r h6407
              have e_ := Option.some.inj h6407
              subst e_
              replace hb6403 := osum_r hb6403
              have e_ := Option.some.inj hb6403
              subst e_
              have hq_ := hq6403 _ rfl
              subst hq_
              replace h := osum_r h
              have e_ := Option.some.inj h
              subst e_
              refine S_tmp rfl (S_nil (Upd.selS [] 0 ?_))
              exact Upd.done hR
            replace hb6416 := cond_f hc21 hb6416
            refine WP.skip (hK6419 _ _ _ (Wr Tt_ok rfl (R_move rfl (Pc rfl rfl (R_add rfl rfl (Pc rfl rfl (R_assign rfl (Pn rfl ?_))))))))
            have e_ := Option.some.inj hb6416
            subst e_
            exact ⟨_, rfl, SubFr.of ⟨rfl, rfl, rfl, trivial⟩, SegSub.sel _ [] 0, rfl⟩
          replace hb6416 := cond_f hc18 hb6416
          refine WP.exit (B_here ?_)
          have e_ := Option.some.inj hb6416
          subst e_
          have hq_ := hq6416 _ rfl
          subst hq_
          exact ⟨rfl, SubFr.of ⟨rfl, rfl, trivial⟩, SegSub.sel _ [] 0, rfl⟩
        rintro fr6409 μ6409 L6409 hm6409 ⟨ho6409, hF6409, hS6409, hu6409⟩
        subst ho6409
        replace h6407 := osum_l h6407
        subst hu6409
        have e_ := Option.some.inj h6407
        subst e_
        exact ⟨rfl, SubFr.trans (fr := [(0, .slice A1 l1.length c1), (9, .int .i64 i2)]) (SubFr.of ⟨rfl, rfl, trivial⟩) hF6409, SegSub.trans (M := (L)) (SegSub.sel _ [] 0) hS6409, rfl⟩
      rintro fr6407 μ6407 L6407 hm6407 ⟨ho6407, hF6407, hS6407, hu6407⟩
      subst ho6407
      replace hb6403 := osum_l hb6403
      subst hu6407
      refine hK6406 _ _ _ (WP.at hF6407 hS6407 (Wr Tt_ok rfl (R_move rfl (Pc rfl rfl (R_add rfl rfl (Pc rfl rfl (R_assign rfl (Pn rfl ?_))))))))
      have e_ := Option.some.inj hb6403
      subst e_
      exact ⟨_, rfl, SubFr.of ⟨rfl, rfl, trivial⟩, SegSub.sel _ [] 0, rfl⟩
    replace hb6403 := cond_f hc17 hb6403
    refine WP.exit (B_here ?_)
    have e_ := Option.some.inj hb6403
    subst e_
    have hq_ := hq6403 _ rfl
    subst hq_
    exact ⟨rfl, SubFr.of trivial, SegSub.sel _ [] 0, rfl⟩
  rintro fr6383 μ6383 L6383 hm6383 ⟨ho6383, hF6383, hS6383, hu6383⟩
  subst ho6383
  replace h := osum_l h
  subst hu6383
  refine hK6381 _ _ _ (WP.at hF6383 hS6383 (WP.seq_k (fun K6422 hK6422 => Wr Tt_ok rfl (R_assign rfl (Pn rfl (hK6422 _ _ _ (WP.ret ?_)))))))
  have e_ := Option.some.inj h
  subst e_
  refine S_tmp rfl (S_nil (Upd.selS [] 0 ?_))
  exact Upd.done hR

theorem recyclingref22_Check_fn {μ : Gh} {L : List Seg} {R : Value → Gh → List Seg → Prop}  {p1 : T_api_Problem} {A1 : Option Addr} {c1 : Nat} {A2 : Option Addr} {c2 : Nat} {A3 : Option Addr} {c3 : Nat} {res1 : Int}
    (hl1 : p1.Road.Edges.length ≤ c1 ∧ c1 ≤ maxLen) (hA1 : ArrR r_api_Edge μ A1 p1.Road.Edges) (hl2 : p1.Vehicles.length ≤ c2 ∧ c2 ≤ maxLen) (hA2 : ArrR r_api_Vehicle μ A2 p1.Vehicles) (hl3 : p1.Demands.length ≤ c3 ∧ c3 ≤ maxLen) (hA3 : ArrR r_api_Demand μ A3 p1.Demands) (h : recyclingref22_Check p1 = some res1)
    (hR : R (.int .i64 res1) μ (L)) :
    Fn Try.prog 14 [.agg #[.int .i64 p1.Road.Nodes, .slice A1 p1.Road.Edges.length c1, .slice A2 p1.Vehicles.length c2, .slice A3 p1.Demands.length c3, .int .i64 p1.Unload, .int .i64 p1.UnloadSecs]] μ (L) R := by
  unfold recyclingref22_Check at h
  refine Fn.of_body Tt_ok Try.func14 (by kernel_rfl) rfl Try.ntmps14 (by simp) ?_
  simp only [Try.f14, argFr, List.zipIdx, List.map, Nat.reduceAdd]
  refine WP.seq_k (fun K6140 hK6140 => WP.region Tt_ok (O_cons (O_box (cs := #[.int .i64 p1.Road.Nodes, .slice A1 p1.Road.Edges.length c1, .slice A2 p1.Vehicles.length c2, .slice A3 p1.Demands.length c3, .int .i64 p1.Unload, .int .i64 p1.UnloadSecs]) rfl rfl (fun g1 => Pc rfl rfl (R_assign rfl (Pn rfl (hK6140 _ _ _ (WP.seq_k (fun K6142 hK6142 => WP.seq_k (fun K6143 hK6143 => Wr Tt_ok rfl (R_fa0 (o' := 0) rfl rfl rfl rfl rfl rfl (P_some rfl ?_))))))))))))
  refine O_cons (O_read rfl (R_loadA rfl rfl rfl rfl (LA_ (vs := [.int .i64 p1.Road.Nodes, .slice A1 p1.Road.Edges.length c1]) 0 0 rfl rfl rfl rfl (P_some rfl (O_cons (O_call (all := [.agg #[.int .i64 p1.Road.Nodes, .slice A1 p1.Road.Edges.length c1]]) rfl rfl rfl ?_))))))
  obtain ⟨r1, hx1, h⟩ := obind h
  refine recyclingref19_Check_fn hl1 hA1 hx1 ((Pc rfl rfl (R_assign rfl (Pn rfl (hK6143 _ _ _ (WP.seq_k (fun K6206 hK6206 => Wr Tt_ok rfl (R_move rfl (Pc rfl rfl (R_neqD rfl rfl (P_some rfl ?_)))))))))))
  refine O_nil (hK6206 _ _ _ ?_)
  refine W_cond_v (b := !(decide (r1 = 0))) rfl (fun hc1 => ?_) (fun hc1 => ?_)
  · replace h := cond_t hc1 h
    refine WP.seq_k (fun K6207 hK6207 => Wr Tt_ok rfl (R_move rfl (Pc rfl rfl (R_assign rfl (Pn rfl (hK6207 _ _ _ (WP.ret ?_)))))))
    have e_ := Option.some.inj h
    subst e_
    refine S_tmp rfl (S_nil (Upd.selS [] 1 ?_))
    exact Upd.done hR
  replace h := cond_f hc1 h
  refine WP.skip (hK6142 _ _ _ (WP.seq_k (fun K6208 hK6208 => WP.seq_k (fun K6209 hK6209 => Wr Tt_ok rfl (R_fa0 (o' := 2) rfl rfl rfl rfl rfl rfl (Pc rfl rfl (R_load rfl rfl rfl (Ex.mk _ (Cell.seg 0 0 rfl rfl rfl) (Pc rfl rfl (R_fa0 (o' := 0) rfl rfl rfl rfl rfl rfl (P_some rfl ?_)))))))))))
  refine O_cons (O_read rfl (R_fa0 (o' := 0) rfl rfl rfl rfl rfl rfl (Pc rfl rfl (R_load rfl rfl rfl (Ex.mk _ (Cell.seg 0 0 rfl rfl rfl) (P_some rfl (O_cons (O_call (all := [.slice A2 p1.Vehicles.length c2, .int .i64 p1.Road.Nodes, .int .i64 16]) rfl rfl rfl ?_))))))))
  obtain ⟨r2, hx2, h⟩ := obind h
  refine recyclingref20_Check_fn hl2 (ArrR.rds hA2 ([(g1, .cells #[.int .i64 p1.Road.Nodes, .slice A1 p1.Road.Edges.length c1, .slice A2 p1.Vehicles.length c2, .slice A3 p1.Demands.length c3, .int .i64 p1.Unload, .int .i64 p1.UnloadSecs] 28 (0, 0))] :: L)) hx2 ((Pc rfl rfl (R_assign rfl (Pn rfl (hK6209 _ _ _ (WP.seq_k (fun K6337 hK6337 => Wr Tt_ok rfl (R_move rfl (Pc rfl rfl (R_neqD rfl rfl (P_some rfl ?_)))))))))))
  refine O_nil (hK6337 _ _ _ ?_)
  refine W_cond_v (b := !(decide (r2 = 0))) rfl (fun hc2 => ?_) (fun hc2 => ?_)
  · replace h := cond_t hc2 h
    refine WP.seq_k (fun K6338 hK6338 => Wr Tt_ok rfl (R_move rfl (Pc rfl rfl (R_assign rfl (Pn rfl (hK6338 _ _ _ (WP.ret ?_)))))))
    have e_ := Option.some.inj h
    subst e_
    refine S_tmp rfl (S_nil (Upd.selS [] 1 ?_))
    exact Upd.done hR
  replace h := cond_f hc2 h
  refine WP.skip (hK6208 _ _ _ (WP.seq_k (fun K6339 hK6339 => WP.seq_k (fun K6340 hK6340 => Wr Tt_ok rfl (R_fa0 (o' := 3) rfl rfl rfl rfl rfl rfl (Pc rfl rfl (R_load rfl rfl rfl (Ex.mk _ (Cell.seg 0 0 rfl rfl rfl) (Pc rfl rfl (R_fa0 (o' := 0) rfl rfl rfl rfl rfl rfl (P_some rfl ?_)))))))))))
  refine O_cons (O_read rfl (R_fa0 (o' := 0) rfl rfl rfl rfl rfl rfl (Pc rfl rfl (R_load rfl rfl rfl (Ex.mk _ (Cell.seg 0 0 rfl rfl rfl) (P_some rfl (O_cons (O_call (all := [.slice A3 p1.Demands.length c3, .int .i64 p1.Road.Nodes, .int .i64 16]) rfl rfl rfl ?_))))))))
  obtain ⟨r3, hx3, h⟩ := obind h
  refine recyclingref21_Check_fn hl3 (ArrR.rds hA3 ([(g1, .cells #[.int .i64 p1.Road.Nodes, .slice A1 p1.Road.Edges.length c1, .slice A2 p1.Vehicles.length c2, .slice A3 p1.Demands.length c3, .int .i64 p1.Unload, .int .i64 p1.UnloadSecs] 28 (0, 0))] :: L)) hx3 ((Pc rfl rfl (R_assign rfl (Pn rfl (hK6340 _ _ _ (WP.seq_k (fun K6423 hK6423 => Wr Tt_ok rfl (R_move rfl (Pc rfl rfl (R_neqD rfl rfl (P_some rfl ?_)))))))))))
  refine O_nil (hK6423 _ _ _ ?_)
  refine W_cond_v (b := !(decide (r3 = 0))) rfl (fun hc3 => ?_) (fun hc3 => ?_)
  · replace h := cond_t hc3 h
    refine WP.seq_k (fun K6424 hK6424 => Wr Tt_ok rfl (R_move rfl (Pc rfl rfl (R_assign rfl (Pn rfl (hK6424 _ _ _ (WP.ret ?_)))))))
    have e_ := Option.some.inj h
    subst e_
    refine S_tmp rfl (S_nil (Upd.selS [] 1 ?_))
    exact Upd.done hR
  replace h := cond_f hc3 h
  refine WP.skip (hK6339 _ _ _ (WP.seq_k (fun K6425 hK6425 => WP.seq_k (fun K6426 hK6426 => ?_))))
  obtain ⟨o6427, h6427, h⟩ := obind h
  refine WP.cutK (fun fr_ μ_ L_ => ∃ (v1 : Bool), v1 = o6427 ∧ SubFr [(1, .pointer (some ⟨g1, 0, none⟩)), (40, .bool v1)] fr_ ∧ SegSub ([(g1, .cells #[.int .i64 p1.Road.Nodes, .slice A1 p1.Road.Edges.length c1, .slice A2 p1.Vehicles.length c2, .slice A3 p1.Demands.length c3, .int .i64 p1.Unload, .int .i64 p1.UnloadSecs] 28 (0, 0))] :: L) L_ ∧ μ = μ_) ?_ ?_
  · refine Wr Tt_ok rfl (R_fa0 (o' := 4) rfl rfl rfl rfl rfl rfl (Pc rfl rfl (R_load rfl rfl rfl (Ex.mk _ (Cell.seg 0 0 rfl rfl rfl) (Pc rfl rfl (R_lssD rfl rfl (Pc rfl rfl (R_move rfl (P_some rfl ?_)))))))))
    refine O_gv (z := (decide (p1.Unload < 0))) rfl rfl (fun hc4 => ?_) (fun hc4 => ?_)
    · replace h6427 := cond_f hc4 h6427
      refine O_read rfl (R_fa0 (o' := 4) rfl rfl rfl rfl rfl rfl (P_some rfl (O_gY rfl rfl hc4 (O_read rfl (R_load rfl rfl rfl (Ex.mk _ (Cell.seg 0 0 rfl rfl rfl) (P_some rfl (O_gY rfl rfl hc4 (O_read rfl (R_fa0 (o' := 0) rfl rfl rfl rfl rfl rfl (P_some rfl (O_gY rfl rfl hc4 (O_read rfl (R_fa0 (o' := 0) rfl rfl rfl rfl rfl rfl (P_some rfl (O_gY rfl rfl hc4 (O_read rfl ?_)))))))))))))))))
      refine R_load rfl rfl rfl (Ex.mk _ (Cell.seg 0 0 rfl rfl rfl) (P_some rfl (O_gY rfl rfl hc4 (O_read rfl (R_geqD rfl rfl (Pc rfl rfl (R_pick_F rfl hc4 rfl (Pn rfl ?_))))))))
      have e_ := Option.some.inj h6427
      subst e_
      exact ⟨(decide (p1.Road.Nodes ≤ p1.Unload)), rfl, SubFr.of ⟨rfl, rfl, trivial⟩, SegSub.sel _ [some 0] 1, rfl⟩
    replace h6427 := cond_t hc4 h6427
    refine P_some rfl (O_gN rfl rfl hc4 (P_some rfl (O_gN rfl rfl hc4 (P_some rfl (O_gN rfl rfl hc4 (P_some rfl (O_gN rfl rfl hc4 (P_some rfl (O_gN rfl rfl hc4 (Pc rfl rfl (R_pick_T rfl hc4 rfl (Pn rfl ?_))))))))))))
    have e_ := Option.some.inj h6427
    subst e_
    exact ⟨true, rfl, SubFr.of ⟨rfl, rfl, trivial⟩, SegSub.sel _ [some 0] 1, rfl⟩
  rintro fr6427 μ6427 L6427 hm6427 ⟨v1, ho6427, hF6427, hS6427, hu6427⟩
  subst ho6427
  subst hu6427
  refine hK6426 _ _ _ (WP.at hF6427 hS6427 ?_)
  refine W_cond_v (b := v1) rfl (fun hc5 => ?_) (fun hc5 => ?_)
  · replace h := cond_t hc5 h
    refine WP.seq_k (fun K6430 hK6430 => Wr Tt_ok rfl (R_assign rfl (Pn rfl (hK6430 _ _ _ (WP.ret ?_)))))
    have e_ := Option.some.inj h
    subst e_
    refine S_tmp rfl (S_nil (Upd.selS [] 1 ?_))
    exact Upd.done hR
  replace h := cond_f hc5 h
  refine WP.skip (hK6425 _ _ _ (WP.seq_k (fun K6431 hK6431 => WP.seq_k (fun K6432 hK6432 => ?_))))
  obtain ⟨o6433, h6433, h⟩ := obind h
  refine WP.cutK (fun fr_ μ_ L_ => ∃ (v2 : Bool), v2 = o6433 ∧ SubFr [(48, .bool v2)] fr_ ∧ SegSub (L) L_ ∧ μ = μ_) ?_ ?_
  · refine Wr Tt_ok rfl (R_fa0 (o' := 5) rfl rfl rfl rfl rfl rfl (Pc rfl rfl (R_load rfl rfl rfl (Ex.mk _ (Cell.seg 0 0 rfl rfl rfl) (Pc rfl rfl (R_lssD rfl rfl (Pc rfl rfl (R_move rfl (P_some rfl ?_)))))))))
    refine O_gv (z := (decide (p1.UnloadSecs < 0))) rfl rfl (fun hc6 => ?_) (fun hc6 => ?_)
    · replace h6433 := cond_f hc6 h6433
      refine O_read rfl (R_fa0 (o' := 5) rfl rfl rfl rfl rfl rfl (P_some rfl (O_gY rfl rfl hc6 (O_read rfl (R_load rfl rfl rfl (Ex.mk _ (Cell.seg 0 0 rfl rfl rfl) (P_some rfl (O_gY rfl rfl hc6 (O_read rfl (R_gtrD rfl rfl (Pc rfl rfl (R_pick_F rfl hc6 rfl (Pn rfl ?_)))))))))))))
      have e_ := Option.some.inj h6433
      subst e_
      exact ⟨(decide (7200 < p1.UnloadSecs)), rfl, SubFr.of ⟨rfl, trivial⟩, SegSub.sel _ [] 1, rfl⟩
    replace h6433 := cond_t hc6 h6433
    refine P_some rfl (O_gN rfl rfl hc6 (P_some rfl (O_gN rfl rfl hc6 (Pc rfl rfl (R_pick_T rfl hc6 rfl (Pn rfl ?_))))))
    have e_ := Option.some.inj h6433
    subst e_
    exact ⟨true, rfl, SubFr.of ⟨rfl, trivial⟩, SegSub.sel _ [] 1, rfl⟩
  rintro fr6433 μ6433 L6433 hm6433 ⟨v2, ho6433, hF6433, hS6433, hu6433⟩
  subst ho6433
  subst hu6433
  refine hK6432 _ _ _ (WP.at hF6433 hS6433 ?_)
  refine W_cond_v (b := v2) rfl (fun hc7 => ?_) (fun hc7 => ?_)
  · replace h := cond_t hc7 h
    refine WP.seq_k (fun K6434 hK6434 => Wr Tt_ok rfl (R_assign rfl (Pn rfl (hK6434 _ _ _ (WP.ret ?_)))))
    have e_ := Option.some.inj h
    subst e_
    refine S_tmp rfl (S_nil (Upd.selS [] 0 ?_))
    exact Upd.done hR
  replace h := cond_f hc7 h
  refine WP.skip (hK6431 _ _ _ (WP.seq_k (fun K6435 hK6435 => Wr Tt_ok rfl (R_assign rfl (Pn rfl (hK6435 _ _ _ (WP.ret ?_)))))))
  have e_ := Option.some.inj h
  subst e_
  refine S_tmp rfl (S_nil (Upd.selS [] 0 ?_))
  exact Upd.done hR

end Go.Proofs.Ytjbminmhndgiaaa
