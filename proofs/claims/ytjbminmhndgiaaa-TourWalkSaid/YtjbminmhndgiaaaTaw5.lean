/- Printed by gen.py of this repo: the walks that tie the functions to their specifications. -/
import Derived.Test.YtjbminmhndgiaaaTt
import Derived.Test.YtjbminmhndgiaaaTas
import Derived.Test.YtjbminmhndgiaaaTaw1
import Derived.Test.YtjbminmhndgiaaaTaw4
namespace Go.Proofs.Ytjbminmhndgiaaa
open Go.RowKit
set_option linter.unusedSimpArgs false
set_option linter.unusedVariables false
attribute [local irreducible] WP SemOk SemU Fn AN Upd vcR vcO vcOps vcPlan putK fillK resK inBlk forkOne Cell StAt Kept

theorem recyclingref19_node_fn {μ : Gh} {L : List Seg} {R : Value → Gh → List Seg → Prop}  {r1 : T_api_Road} {n1 : Int} {A1 : Option Addr} {c1 : Nat} {res1 : Bool}
    (hl1 : r1.Edges.length ≤ c1 ∧ c1 ≤ maxLen) (hA1 : ArrR r_api_Edge μ A1 r1.Edges) (h : recyclingref19_node r1 n1 = some res1)
    (hR : R (.bool res1) μ (L)) :
    Fn Try.prog 51 [.agg #[.int .i64 r1.Nodes, .slice A1 r1.Edges.length c1], .int .i64 n1] μ (L) R := by
  unfold recyclingref19_node at h
  refine Fn.of_body Tt_ok Try.func51 (by kernel_rfl) rfl Try.ntmps51 (by simp) ?_
  simp only [Try.f51, argFr, List.zipIdx, List.map, Nat.reduceAdd]
  refine WP.seq_k (fun K6638 hK6638 => WP.region Tt_ok (O_cons (O_box (cs := #[.int .i64 r1.Nodes, .slice A1 r1.Edges.length c1]) rfl rfl (fun g1 => Pc rfl rfl (R_assign rfl (Pn rfl (hK6638 _ _ _ (WP.seq_k (fun K6640 hK6640 => ?_)))))))))
  obtain ⟨o6641, h6641, h⟩ := obind h
  refine WP.cutK (fun fr_ μ_ L_ => ∃ (v1 : Bool), v1 = o6641 ∧ SubFr [(4, .bool v1)] fr_ ∧ SegSub (L) L_ ∧ μ = μ_) ?_ ?_
  · refine Wr Tt_ok rfl (R_move rfl (Pc rfl rfl (R_geqD rfl rfl (Pc rfl rfl (R_move rfl (P_some rfl ?_))))))
    refine O_gv (z := (decide (0 ≤ n1))) rfl rfl (fun hc1 => ?_) (fun hc1 => ?_)
    · replace h6641 := cond_t hc1 h6641
      refine O_read rfl (R_move rfl (P_some rfl (O_gY rfl rfl hc1 (O_read rfl (R_fa0 (o' := 0) rfl rfl rfl rfl rfl rfl (P_some rfl (O_gY rfl rfl hc1 (O_read rfl (R_load rfl rfl rfl (Ex.mk _ (Cell.seg 0 0 rfl rfl rfl) (P_some rfl (O_gY rfl rfl hc1 (O_read rfl (R_lssD rfl rfl (Pc rfl rfl ?_)))))))))))))))
      refine R_pick_T rfl hc1 rfl (Pc rfl rfl (R_assign rfl (Pn rfl ?_)))
      have e_ := Option.some.inj h6641
      subst e_
      exact ⟨(decide (n1 < r1.Nodes)), rfl, SubFr.of ⟨rfl, trivial⟩, SegSub.sel _ [] 1, rfl⟩
    replace h6641 := cond_f hc1 h6641
    refine P_some rfl (O_gN rfl rfl hc1 (P_some rfl (O_gN rfl rfl hc1 (P_some rfl (O_gN rfl rfl hc1 (Pc rfl rfl (R_pick_F rfl hc1 rfl (Pc rfl rfl (R_assign rfl (Pn rfl ?_))))))))))
    have e_ := Option.some.inj h6641
    subst e_
    exact ⟨false, rfl, SubFr.of ⟨rfl, trivial⟩, SegSub.sel _ [] 1, rfl⟩
  rintro fr6641 μ6641 L6641 hm6641 ⟨v1, ho6641, hF6641, hS6641, hu6641⟩
  subst ho6641
  subst hu6641
  refine hK6640 _ _ _ (WP.at hF6641 hS6641 (WP.ret ?_))
  have e_ := Option.some.inj h
  subst e_
  refine S_tmp rfl (S_nil (Upd.selS [] 0 ?_))
  exact Upd.done hR

theorem recyclingref19_Along_fn {μ : Gh} {L : List Seg} {R : Value → Gh → List Seg → Prop}  {a1 : T_api_Leg} {b1 : T_api_Leg}  {res1 : T_api_Leg}
     (h : recyclingref19_Along a1 b1 = some res1)
    (hR : R (.agg #[.int .i64 res1.Secs, .int .i64 res1.Meters]) μ (L)) :
    Fn Try.prog 52 [.agg #[.int .i64 a1.Secs, .int .i64 a1.Meters], .agg #[.int .i64 b1.Secs, .int .i64 b1.Meters]] μ (L) R := by
  unfold recyclingref19_Along at h
  refine Fn.of_body Tt_ok Try.func52 (by kernel_rfl) rfl Try.ntmps52 (by simp) ?_
  simp only [Try.f52, argFr, List.zipIdx, List.map, Nat.reduceAdd]
  refine WP.seq_k (fun K6703 hK6703 => WP.region Tt_ok (O_cons (O_box (cs := #[.int .i64 a1.Secs, .int .i64 a1.Meters]) rfl rfl (fun g1 => P_some rfl (O_cons (O_box (cs := #[.int .i64 b1.Secs, .int .i64 b1.Meters]) rfl rfl (fun g2 => P_some rfl (O_cons (O_alloc (cs := #[.int .i64 0, .int .i64 0]) rfl rfl (fun g3 => Pn rfl (hK6703 _ _ _ (WP.seq_k (fun K6707 hK6707 => Wr Tt_ok rfl (R_fa0 (o' := 0) rfl rfl rfl rfl rfl rfl ?_))))))))))))))
  refine Pc rfl rfl (R_load rfl rfl rfl (Ex.mk _ (Cell.seg 2 0 rfl rfl rfl) (Pc rfl rfl (R_fa0 (o' := 0) rfl rfl rfl rfl rfl rfl (Pc rfl rfl (R_load rfl rfl rfl (Ex.mk _ (Cell.seg 1 0 rfl rfl rfl) (Pc rfl rfl (R_add rfl rfl ?_)))))))))
  refine Pc rfl rfl (R_fa0 (o' := 1) rfl rfl rfl rfl rfl rfl (Pc rfl rfl (R_load rfl rfl rfl (Ex.mk _ (Cell.seg 2 0 rfl rfl rfl) (Pc rfl rfl (R_fa0 (o' := 1) rfl rfl rfl rfl rfl rfl (Pc rfl rfl (R_load rfl rfl rfl (Ex.mk _ (Cell.seg 1 0 rfl rfl rfl) ?_)))))))))
  refine Pc rfl rfl (R_add rfl rfl (Pc rfl rfl (R_build rfl rfl rfl rfl (F_cons (cells' := [.int .i64 (w64 (a1.Secs + b1.Secs)), .int .i64 0]) rfl rfl rfl rfl (F_cons (cells' := [.int .i64 (w64 (a1.Secs + b1.Secs)), .int .i64 (w64 (a1.Meters + b1.Meters))]) rfl rfl rfl rfl (F_nil (P_some rfl (O_cons (O_store (vs := [.int .i64 (w64 (a1.Secs + b1.Secs)), .int .i64 (w64 (a1.Meters + b1.Meters))]) rfl rfl rfl rfl rfl rfl (ST_ (L' := ([(g3, .cells #[.int .i64 (w64 (a1.Secs + b1.Secs)), .int .i64 (w64 (a1.Meters + b1.Meters))] 51 (0, 0))] :: [(g2, .cells #[.int .i64 b1.Secs, .int .i64 b1.Meters] 51 (0, 0))] :: [(g1, .cells #[.int .i64 a1.Secs, .int .i64 a1.Meters] 51 (0, 0))] :: L)) 0 0 rfl rfl rfl rfl (P_none (O_nil (hK6707 _ _ _ ?_)))))))))))))
  apply WP.ret
  have e_ := Option.some.inj h
  subst e_
  refine S_cell rfl rfl rfl rfl (LA_ (vs := [.int .i64 (w64 (a1.Secs + b1.Secs)), .int .i64 (w64 (a1.Meters + b1.Meters))]) 0 0 rfl rfl rfl rfl (S_nil (Upd.selS [] 3 ?_)))
  exact Upd.done hR

theorem recyclingref19_Better_fn {μ : Gh} {L : List Seg} {R : Value → Gh → List Seg → Prop}  {a1 : T_api_Leg} {b1 : T_api_Leg}  {res1 : Bool}
     (h : recyclingref19_Better a1 b1 = some res1)
    (hR : R (.bool res1) μ (L)) :
    Fn Try.prog 53 [.agg #[.int .i64 a1.Secs, .int .i64 a1.Meters], .agg #[.int .i64 b1.Secs, .int .i64 b1.Meters]] μ (L) R := by
  unfold recyclingref19_Better at h
  refine Fn.of_body Tt_ok Try.func53 (by kernel_rfl) rfl Try.ntmps53 (by simp) ?_
  simp only [Try.f53, argFr, List.zipIdx, List.map, Nat.reduceAdd]
  refine WP.seq_k (fun K6738 hK6738 => WP.region Tt_ok (O_cons (O_box (cs := #[.int .i64 a1.Secs, .int .i64 a1.Meters]) rfl rfl (fun g1 => P_some rfl (O_cons (O_box (cs := #[.int .i64 b1.Secs, .int .i64 b1.Meters]) rfl rfl (fun g2 => Pc rfl rfl (R_assign rfl (Pn rfl (hK6738 _ _ _ (WP.seq_k (fun K6741 hK6741 => WP.seq_k (fun K6742 hK6742 => ?_)))))))))))))
  obtain ⟨o6743, h6743, h⟩ := obind h
  refine WP.cutK (fun fr_ μ_ L_ => ∃ (v1 : Bool), v1 = o6743 ∧ SubFr [(2, .pointer (some ⟨g1, 0, none⟩)), (3, .pointer (some ⟨g2, 0, none⟩)), (12, .bool v1)] fr_ ∧ SegSub ([(g1, .cells #[.int .i64 a1.Secs, .int .i64 a1.Meters] 51 (0, 0))] :: [(g2, .cells #[.int .i64 b1.Secs, .int .i64 b1.Meters] 51 (0, 0))] :: L) L_ ∧ μ = μ_) ?_ ?_
  · refine Wr Tt_ok rfl (R_fa0 (o' := 0) rfl rfl rfl rfl rfl rfl (Pc rfl rfl (R_load rfl rfl rfl (Ex.mk _ (Cell.seg 1 0 rfl rfl rfl) (Pc rfl rfl (R_lssD rfl rfl (Pc rfl rfl (R_move rfl (P_some rfl ?_)))))))))
    refine O_gv (z := (decide (a1.Secs < 0))) rfl rfl (fun hc1 => ?_) (fun hc1 => ?_)
    · replace h6743 := cond_f hc1 h6743
      refine O_read rfl (R_fa0 (o' := 0) rfl rfl rfl rfl rfl rfl (P_some rfl (O_gY rfl rfl hc1 (O_read rfl (R_load rfl rfl rfl (Ex.mk _ (Cell.seg 0 0 rfl rfl rfl) (P_some rfl (O_gY rfl rfl hc1 (O_read rfl (R_lssD rfl rfl (Pc rfl rfl (R_pick_F rfl hc1 rfl (Pn rfl ?_)))))))))))))
      have e_ := Option.some.inj h6743
      subst e_
      exact ⟨(decide (b1.Secs < 0)), rfl, SubFr.of ⟨rfl, rfl, rfl, trivial⟩, SegSub.sel _ [some 1, some 0] 2, rfl⟩
    replace h6743 := cond_t hc1 h6743
    refine P_some rfl (O_gN rfl rfl hc1 (P_some rfl (O_gN rfl rfl hc1 (Pc rfl rfl (R_pick_T rfl hc1 rfl (Pn rfl ?_))))))
    have e_ := Option.some.inj h6743
    subst e_
    exact ⟨true, rfl, SubFr.of ⟨rfl, rfl, rfl, trivial⟩, SegSub.sel _ [some 1, some 0] 2, rfl⟩
  rintro fr6743 μ6743 L6743 hm6743 ⟨v1, ho6743, hF6743, hS6743, hu6743⟩
  subst ho6743
  subst hu6743
  refine hK6742 _ _ _ (WP.at hF6743 hS6743 ?_)
  refine W_cond_v (b := v1) rfl (fun hc2 => ?_) (fun hc2 => ?_)
  · replace h := cond_t hc2 h
    refine WP.seq_k (fun K6748 hK6748 => Wr Tt_ok rfl (R_fa0 (o' := 0) rfl rfl rfl rfl rfl rfl (Pc rfl rfl (R_load rfl rfl rfl (Ex.mk _ (Cell.seg 0 0 rfl rfl rfl) (Pc rfl rfl (R_geqD rfl rfl (Pc rfl rfl (R_assign rfl ?_)))))))))
    refine Pn rfl (hK6748 _ _ _ (WP.ret ?_))
    have e_ := Option.some.inj h
    subst e_
    refine S_tmp rfl (S_nil (Upd.selS [] 2 ?_))
    exact Upd.done hR
  replace h := cond_f hc2 h
  refine WP.skip (hK6741 _ _ _ (WP.seq_k (fun K6749 hK6749 => ?_)))
  obtain ⟨o6750, h6750, h⟩ := obind h
  refine WP.cutK (fun fr_ μ_ L_ => ∃ (v2 : Bool), v2 = o6750 ∧ SubFr [(4, .bool v2)] fr_ ∧ SegSub (L) L_ ∧ μ = μ_) ?_ ?_
  · refine Wr Tt_ok rfl (R_fa0 (o' := 0) rfl rfl rfl rfl rfl rfl (Pc rfl rfl (R_load rfl rfl rfl (Ex.mk _ (Cell.seg 0 0 rfl rfl rfl) (Pc rfl rfl (R_fa0 (o' := 0) rfl rfl rfl rfl rfl rfl (Pc rfl rfl (R_load rfl rfl rfl (Ex.mk _ (Cell.seg 1 0 rfl rfl rfl) ?_)))))))))
    refine Pc rfl rfl (R_lssD rfl rfl (Pc rfl rfl (R_move rfl (P_some rfl ?_))))
    refine O_gv (z := (decide (a1.Secs < b1.Secs))) rfl rfl (fun hc3 => ?_) (fun hc3 => ?_)
    · replace h6750 := cond_f hc3 h6750
      refine O_read rfl (R_fa0 (o' := 0) rfl rfl rfl rfl rfl rfl (P_some rfl (O_gY rfl rfl hc3 (O_read rfl (R_load rfl rfl rfl (Ex.mk _ (Cell.seg 0 0 rfl rfl rfl) (P_some rfl (O_gY rfl rfl hc3 (O_read rfl (R_fa0 (o' := 0) rfl rfl rfl rfl rfl rfl (P_some rfl (O_gY rfl rfl hc3 (O_read rfl (R_load rfl rfl rfl (Ex.mk _ (Cell.seg 1 0 rfl rfl rfl) (P_some rfl (O_gY rfl rfl hc3 ?_)))))))))))))))))
      refine O_read rfl (R_eqlD rfl rfl (P_some rfl (O_gY rfl rfl hc3 (O_read rfl (R_move rfl (P_some rfl ?_))))))
      refine O_gv (z := (decide (a1.Secs = b1.Secs))) rfl rfl (fun hc4 => ?_) (fun hc4 => ?_)
      · replace h6750 := cond_t hc4 h6750
        refine O_read rfl (R_fa0 (o' := 1) rfl rfl rfl rfl rfl rfl (P_some rfl (O_gY rfl rfl hc4 (O_read rfl (R_load rfl rfl rfl (Ex.mk _ (Cell.seg 0 0 rfl rfl rfl) (P_some rfl (O_gY rfl rfl hc4 (O_read rfl (R_fa0 (o' := 1) rfl rfl rfl rfl rfl rfl (P_some rfl (O_gY rfl rfl hc4 (O_read rfl (R_load rfl rfl rfl (Ex.mk _ (Cell.seg 1 0 rfl rfl rfl) (P_some rfl (O_gY rfl rfl hc4 ?_)))))))))))))))))
        refine O_read rfl (R_lssD rfl rfl (P_some rfl (O_gY rfl rfl hc3 (O_read rfl (R_pick_T rfl hc4 rfl (Pc rfl rfl (R_pick_F rfl hc3 rfl (Pc rfl rfl (R_assign rfl (Pn rfl ?_))))))))))
        have e_ := Option.some.inj h6750
        subst e_
        exact ⟨(decide (a1.Meters < b1.Meters)), rfl, SubFr.of ⟨rfl, trivial⟩, SegSub.sel _ [] 2, rfl⟩
      replace h6750 := cond_f hc4 h6750
      refine P_some rfl (O_gN rfl rfl hc4 (P_some rfl (O_gN rfl rfl hc4 (P_some rfl (O_gN rfl rfl hc4 (P_some rfl (O_gN rfl rfl hc4 (P_some rfl (O_gY rfl rfl hc3 (O_read rfl (R_pick_F rfl hc4 rfl (Pc rfl rfl (R_pick_F rfl hc3 rfl (P_some rfl (O_cons ?_)))))))))))))))
      refine O_read rfl (R_assign rfl (Pn rfl ?_))
      have e_ := Option.some.inj h6750
      subst e_
      exact ⟨false, rfl, SubFr.of ⟨rfl, trivial⟩, SegSub.sel _ [] 2, rfl⟩
    replace h6750 := cond_t hc3 h6750
    refine P_some rfl (O_gN rfl rfl hc3 (P_some rfl (O_gN rfl rfl hc3 (P_some rfl (O_gN rfl rfl hc3 (P_some rfl (O_gN rfl rfl hc3 (P_some rfl (O_gN rfl rfl hc3 (P_some rfl (O_gu rfl rfl (P_some rfl (O_gu rfl rfl (P_some rfl (O_gu rfl rfl (P_some rfl (O_gu rfl rfl ?_)))))))))))))))))
    refine P_some rfl (O_gu rfl rfl (P_some rfl (O_gN rfl rfl hc3 (Pc rfl rfl (R_pick_T rfl hc3 rfl (Pc rfl rfl (R_assign rfl (Pn rfl ?_))))))))
    have e_ := Option.some.inj h6750
    subst e_
    exact ⟨true, rfl, SubFr.of ⟨rfl, trivial⟩, SegSub.sel _ [] 2, rfl⟩
  rintro fr6750 μ6750 L6750 hm6750 ⟨v2, ho6750, hF6750, hS6750, hu6750⟩
  subst ho6750
  subst hu6750
  refine hK6749 _ _ _ (WP.at hF6750 hS6750 (WP.ret ?_))
  have e_ := Option.some.inj h
  subst e_
  refine S_tmp rfl (S_nil (Upd.selS [] 0 ?_))
  exact Upd.done hR

theorem recyclingref19_Legs_fn {μ : Gh} {L : List Seg} {R : Value → Gh → List Seg → Prop}  {r1 : T_api_Road} {f_from1 : Int} {A1 : Option Addr} {c1 : Nat} {res1 : (List T_api_Leg)} {res2 : Int}
    (hl1 : r1.Edges.length ≤ c1 ∧ c1 ≤ maxLen) (hA1 : ArrR r_api_Edge μ A1 r1.Edges) (h : recyclingref19_Legs r1 f_from1 = some (res1, res2))
    (hR : ∀ (A0 : Option Addr) (c0 : Nat) (ch0 : Seg), Own r_api_Leg 51 μ (.slice A0 res1.length c0) res1 ch0 → R (.tuple #[.slice A0 res1.length c0, .int .i64 res2]) μ (ch0 :: L)) :
    Fn Try.prog 38 [.agg #[.int .i64 r1.Nodes, .slice A1 r1.Edges.length c1], .int .i64 f_from1] μ (L) R := by
  unfold recyclingref19_Legs at h
  refine Fn.of_body Tt_ok Try.func38 (by kernel_rfl) rfl Try.ntmps38 (by simp) ?_
  simp only [Try.f38, argFr, List.zipIdx, List.map, Nat.reduceAdd]
  refine WP.seq_k (fun K6625 hK6625 => WP.region Tt_ok (O_cons (O_box (cs := #[.int .i64 r1.Nodes, .slice A1 r1.Edges.length c1]) rfl rfl (fun g1 => Pc rfl rfl (R_assign rfl (Pc rfl rfl (R_assign rfl (Pn rfl (hK6625 _ _ _ (WP.seq_k (fun K6629 hK6629 => WP.seq_k (fun K6630 hK6630 => WP.region Tt_ok ?_))))))))))))
  refine O_cons (O_read rfl (R_loadA rfl rfl rfl rfl (LA_ (vs := [.int .i64 r1.Nodes, .slice A1 r1.Edges.length c1]) 0 0 rfl rfl rfl rfl (P_some rfl (O_cons (O_call (all := [.agg #[.int .i64 r1.Nodes, .slice A1 r1.Edges.length c1]]) rfl rfl rfl ?_))))))
  obtain ⟨r2, hx1, h⟩ := obind h
  refine recyclingref19_Check_fn hl1 hA1 hx1 ((Pc rfl rfl (R_assign rfl (Pn rfl (hK6630 _ _ _ (WP.seq_k (fun K6631 hK6631 => Wr Tt_ok rfl (R_move rfl (Pc rfl rfl (R_neqD rfl rfl (P_some rfl ?_)))))))))))
  refine O_nil (hK6631 _ _ _ ?_)
  refine W_cond_v (b := !(decide (r2 = 0))) rfl (fun hc1 => ?_) (fun hc1 => ?_)
  · replace h := cond_t hc1 h
    refine WP.seq_k (fun K6632 hK6632 => Wr Tt_ok rfl (R_move rfl (Pc rfl rfl (R_assign rfl (Pc rfl rfl (R_assign rfl (Pn rfl (hK6632 _ _ _ (WP.ret ?_)))))))))
    have e_ := Option.some.inj h
    obtain ⟨e0a_, e0b_⟩ := Prod.mk.inj e_
    clear e_
    subst e0a_
    subst e0b_
    refine S_tmp rfl (S_tmp rfl (S_nil (Upd.selS [none] 1 ?_)))
    exact Upd.done (hR none 0 [] (Own.nil))
  replace h := cond_f hc1 h
  refine WP.skip (hK6629 _ _ _ (WP.seq_k (fun K6635 hK6635 => WP.seq_k (fun K6636 hK6636 => Wr Tt_ok rfl (R_loadA rfl rfl rfl rfl (LA_ (vs := [.int .i64 r1.Nodes, .slice A1 r1.Edges.length c1]) 0 0 rfl rfl rfl rfl (Pc rfl rfl (R_move rfl (P_some rfl (O_cons (O_call (all := [.agg #[.int .i64 r1.Nodes, .slice A1 r1.Edges.length c1], .int .i64 f_from1]) rfl rfl rfl ?_)))))))))))
  obtain ⟨r3, hx2, h⟩ := obind h
  refine recyclingref19_node_fn hl1 hA1 hx2 ((Pc rfl rfl (R_not rfl (Pn rfl (hK6636 _ _ _ ?_)))))
  refine W_cond_v (b := !r3) rfl (fun hc2 => ?_) (fun hc2 => ?_)
  · replace h := cond_t hc2 h
    refine WP.seq_k (fun K6642 hK6642 => Wr Tt_ok rfl (R_assign rfl (Pc rfl rfl (R_assign rfl (Pn rfl (hK6642 _ _ _ (WP.ret ?_)))))))
    have e_ := Option.some.inj h
    obtain ⟨e0a_, e0b_⟩ := Prod.mk.inj e_
    clear e_
    subst e0a_
    subst e0b_
    refine S_tmp rfl (S_tmp rfl (S_nil (Upd.selS [none] 1 ?_)))
    exact Upd.done (hR none 0 [] (Own.nil))
  replace h := cond_f hc2 h
  refine WP.skip (hK6635 _ _ _ (WP.seq_k (fun K6645 hK6645 => Wr Tt_ok rfl (R_fa0 (o' := 0) rfl rfl rfl rfl rfl rfl (Pc rfl rfl (R_load rfl rfl rfl (Ex.mk _ (Cell.seg 0 0 rfl rfl rfl) (P_some rfl (O_cons (O_mksl rfl rfl ?_))))))))))
  obtain ⟨l1, hn1, h⟩ := obind h
  refine sem_mkO (r := r_api_Leg) (z := (T_api_Leg.mk 0 0)) (zc := [.int .i64 0, .int .i64 0]) Tt_ok rfl rfl rfl rfl rfl (rfl) rfl hn1 fun A2 c2 ch1 hO1 => Pc rfl rfl (R_assign rfl (Pn rfl (hK6645 _ _ _ (WP.seq_k (fun K6647 hK6647 => WP.seq_k (fun K6648 hK6648 => Wr Tt_ok rfl (R_move rfl (Pc rfl rfl (R_lenS rfl rfl rfl ?_)))))))))
  refine Pc rfl rfl (R_move rfl (Pn rfl (hK6648 _ _ _ ?_)))
  obtain ⟨o6649, h6649, h⟩ := obind h
  refine WP.cutK (fun fr_ μ_ L_ => ∃ (out2 : (List T_api_Leg)) (A4 : Option Addr) (c4 : Nat) (ch4 : Seg), out2 = o6649 ∧ SubFr [(1, .int .i64 f_from1), (2, .pointer (some ⟨g1, 0, none⟩)), (7, .slice A4 out2.length c4)] fr_ ∧ SegSub ([(g1, .cells #[.int .i64 r1.Nodes, .slice A1 r1.Edges.length c1] 24 (0, 0))] :: ch4 :: L) L_ ∧ Own r_api_Leg 51 μ_ (.slice A4 out2.length c4) out2 ch4 ∧ μ = μ_) ?_ ?_
  · refine WP.block (WP.iter h6649 (fun (j_ : (List T_api_Leg) × Int) fr_ μ_ L_ => ounP j_ fun out1 v1 => ∃ (A3 : Option Addr) (c3 : Nat) (ch2 : Seg), SubFr [(1, .int .i64 f_from1), (2, .pointer (some ⟨g1, 0, none⟩)), (7, .slice A3 out1.length c3), (26, .int .i64 ((l1.length : Nat) : Int)), (27, .int .i64 v1)] fr_ ∧ SegSub ([(g1, .cells #[.int .i64 r1.Nodes, .slice A1 r1.Edges.length c1] 24 (0, 0))] :: ch2 :: L) L_ ∧ Own r_api_Leg 51 μ_ (.slice A3 out1.length c3) out1 ch2 ∧ μ = μ_) ⟨A2, c2, ch1, SubFr.of ⟨rfl, rfl, rfl, rfl, rfl, trivial⟩, SegSub.sel _ [some 1, some 0] 2, (hO1), rfl⟩ ?_)
    rintro ⟨out1, v1⟩ q6660 fr6660 μ6660 L6660 hm6660 ⟨A3, c3, ch2, hF6660, hS6660, hO2, hu6660⟩ hb6660 hq6660
    unfold recyclingref19_Legs_l1 at hb6660
    replace hb6660 := oun_mk hb6660
    subst hu6660
    refine WP.at hF6660 hS6660 (WP.seq_k (fun K6665 hK6665 => Wr Tt_ok rfl (R_lssD rfl rfl (Pn rfl (hK6665 _ _ _ (WP.seq_k (fun K6666 hK6666 => ?_)))))))
    refine W_cond_v (b := (decide (v1 < ((l1.length : Nat) : Int)))) rfl (fun hc3 => ?_) (fun hc3 => ?_)
    · replace hb6660 := cond_t hc3 hb6660
      refine WP.skip (hK6666 _ _ _ (WP.seq_k (fun K6667 hK6667 => WP.block (WP.seq_k (fun K6668 hK6668 => Wr Tt_ok rfl (R_move rfl (Pc rfl rfl (R_assign rfl (Pn rfl (hK6668 _ _ _ (WP.region Tt_ok (O_cons ?_))))))))))))
      refine O_read rfl (R_move rfl (Pc rfl rfl (R_move rfl (P_some rfl (O_cons ?_)))))
      obtain ⟨x1, hx3, hb6660⟩ := obind hb6660
      obtain ⟨a1, cs1, hA2, hr1, _, hc4⟩ := Rds.getI (Own.rds (L := ([(g1, .cells #[.int .i64 r1.Nodes, .slice A1 r1.Edges.length c1] 24 (0, 0))] :: ch2 :: L)) hO2 1 rfl) hx3
      obtain rfl := hr1
      refine O_read rfl (R_iaG rfl rfl rfl rfl rfl rfl ⟨(getI_lt hx3).1, (getI_lt hx3).2.1⟩ hA2 (Pc rfl rfl (R_faz rfl rfl rfl rfl rfl (P_some rfl (O_cons (O_store (vs := [.int .i64 (-1)]) rfl rfl rfl rfl rfl rfl ?_))))))
      rw [← Addr.add_zero' ((a1.add (v1.toNat * 2)))]
      refine Own.store (r := r_api_Leg) (x' := (T_api_Leg.mk (-1) x1.Meters)) (o := 0) (sz := 2) 1 rfl hO2 hA2 hx3 rfl rfl (by rintro _ rfl; rfl) fun ch3 hO3 => ?_
      rw [← length_setI out1 v1 (T_api_Leg.mk (-1) x1.Meters)] at hO3 ⊢
      refine P_none (O_nil (hK6667 _ _ _ (Wr Tt_ok rfl (R_add rfl rfl (Pc rfl rfl (R_move rfl (Pn rfl ?_)))))))
      have e_ := Option.some.inj hb6660
      subst e_
      exact ⟨_, rfl, A3, c3, ch3, SubFr.of ⟨rfl, rfl, rfl, rfl, rfl, trivial⟩, SegSub.sel _ [some 0, some 1] 2, (hO3), rfl⟩
    replace hb6660 := cond_f hc3 hb6660
    refine WP.exit (B_here ?_)
    have e_ := Option.some.inj hb6660
    subst e_
    have hq_ := hq6660 _ rfl
    subst hq_
    exact ⟨out1, A3, c3, ch2, rfl, SubFr.of ⟨rfl, rfl, rfl, trivial⟩, SegSub.sel _ [some 0, some 1] 2, (hO2), rfl⟩
  rintro fr6649 μ6649 L6649 hm6649 ⟨out2, A4, c4, ch4, ho6649, hF6649, hS6649, hO4, hu6649⟩
  subst ho6649
  subst hu6649
  refine hK6647 _ _ _ (WP.at hF6649 hS6649 (WP.seq_k (fun K6674 hK6674 => Wr Tt_ok rfl (R_move rfl (Pc rfl rfl (R_move rfl (P_some rfl (O_cons ?_))))))))
  obtain ⟨x2, hx4, h⟩ := obind h
  obtain ⟨a2, cs2, hA3, hr2, _, hc5⟩ := Rds.getI (Own.rds (L := ([(g1, .cells #[.int .i64 r1.Nodes, .slice A1 r1.Edges.length c1] 24 (0, 0))] :: ch4 :: L)) hO4 1 rfl) hx4
  obtain rfl := hr2
  refine O_read rfl (R_iaG rfl rfl rfl rfl rfl rfl ⟨(getI_lt hx4).1, (getI_lt hx4).2.1⟩ hA3 (Pc rfl rfl (R_faz rfl rfl rfl rfl rfl (P_some rfl (O_cons (O_store (vs := [.int .i64 0]) rfl rfl rfl rfl rfl rfl ?_))))))
  rw [← Addr.add_zero' ((a2.add (f_from1.toNat * 2)))]
  refine Own.store (r := r_api_Leg) (x' := (T_api_Leg.mk 0 x2.Meters)) (o := 0) (sz := 2) 1 rfl hO4 hA3 hx4 rfl rfl (by rintro _ rfl; rfl) fun ch5 hO5 => ?_
  rw [← length_setI out2 f_from1 (T_api_Leg.mk 0 x2.Meters)] at hO5 ⊢
  refine P_none (O_nil (hK6674 _ _ _ (WP.seq_k (fun K6677 hK6677 => WP.seq_k (fun K6678 hK6678 => Wr Tt_ok rfl (R_assign rfl (Pn rfl (hK6678 _ _ _ ?_))))))))
  obtain ⟨o6679, h6679, h⟩ := obind h
  refine WP.cutK (fun fr_ μ_ L_ => ∃ (out8 : (List T_api_Leg)) (A10 : Option Addr) (c10 : Nat) (ch12 : Seg), out8 = o6679 ∧ SubFr [(7, .slice A10 out8.length c10)] fr_ ∧ SegSub (ch12 :: L) L_ ∧ Own r_api_Leg 51 μ_ (.slice A10 out8.length c10) out8 ch12 ∧ μ = μ_) ?_ ?_
  · refine WP.block (WP.iter h6679 (fun (j_ : (List T_api_Leg) × Int) fr_ μ_ L_ => ounP j_ fun out3 n1 => ∃ (A5 : Option Addr) (c5 : Nat) (ch6 : Seg), SubFr [(2, .pointer (some ⟨g1, 0, none⟩)), (7, .slice A5 out3.length c5), (9, .int .i64 n1)] fr_ ∧ SegSub ([(g1, .cells #[.int .i64 r1.Nodes, .slice A1 r1.Edges.length c1] 24 (0, 0))] :: ch6 :: L) L_ ∧ Own r_api_Leg 51 μ_ (.slice A5 out3.length c5) out3 ch6 ∧ μ = μ_) ⟨A4, c4, ch5, SubFr.of ⟨rfl, rfl, rfl, trivial⟩, SegSub.sel _ [some 0, some 1] 2, (hO5), rfl⟩ ?_)
    rintro ⟨out3, n1⟩ q6814 fr6814 μ6814 L6814 hm6814 ⟨A5, c5, ch6, hF6814, hS6814, hO6, hu6814⟩ hb6814 hq6814
    unfold recyclingref19_Legs_l3 at hb6814
    replace hb6814 := oun_mk hb6814
    subst hu6814
    refine WP.at hF6814 hS6814 (WP.seq_k (fun K6819 hK6819 => WP.seq_k (fun K6820 hK6820 => Wr Tt_ok rfl (R_move rfl (Pc rfl rfl (R_fa0 (o' := 0) rfl rfl rfl rfl rfl rfl (Pc rfl rfl (R_load rfl rfl rfl (Ex.mk _ (Cell.seg 0 0 rfl rfl rfl) (P_some rfl (O_cons ?_)))))))))))
    refine O_read rfl (R_lssD rfl rfl (Pn rfl (hK6820 _ _ _ ?_)))
    refine W_cond_v (b := (decide (n1 < r1.Nodes))) rfl (fun hc6 => ?_) (fun hc6 => ?_)
    · replace hb6814 := cond_t hc6 hb6814
      refine WP.skip (hK6819 _ _ _ (WP.seq_k (fun K6821 hK6821 => ?_)))
      obtain ⟨o6822, h6822, hb6814⟩ := obind hb6814
      refine WP.cutK (fun fr_ μ_ L_ => ∃ (out7 : (List T_api_Leg)) (A9 : Option Addr) (c9 : Nat) (ch11 : Seg), out7 = o6822 ∧ SubFr [(2, .pointer (some ⟨g1, 0, none⟩)), (7, .slice A9 out7.length c9), (9, .int .i64 n1)] fr_ ∧ SegSub ([(g1, .cells #[.int .i64 r1.Nodes, .slice A1 r1.Edges.length c1] 24 (0, 0))] :: ch11 :: L) L_ ∧ Own r_api_Leg 51 μ_ (.slice A9 out7.length c9) out7 ch11 ∧ μ = μ_) ?_ ?_
      · refine WP.block (WP.seq_k (fun K6823 hK6823 => Wr Tt_ok rfl (R_fa0 (o' := 1) rfl rfl rfl rfl rfl rfl (Pc rfl rfl (R_load rfl rfl rfl (Ex.mk _ (Cell.seg 0 0 rfl rfl rfl) (Pc rfl rfl (R_lenS rfl rfl rfl (Pc rfl rfl ?_)))))))))
        refine R_move rfl (Pn rfl (hK6823 _ _ _ ?_))
        obtain ⟨o6824, h6824, h6822⟩ := obind h6822
        refine WP.cutK (fun fr_ μ_ L_ => ∃ (out6 : (List T_api_Leg)) (A8 : Option Addr) (c8 : Nat) (ch10 : Seg), out6 = o6824 ∧ SubFr [(2, .pointer (some ⟨g1, 0, none⟩)), (7, .slice A8 out6.length c8), (9, .int .i64 n1)] fr_ ∧ SegSub ([(g1, .cells #[.int .i64 r1.Nodes, .slice A1 r1.Edges.length c1] 24 (0, 0))] :: ch10 :: L) L_ ∧ Own r_api_Leg 51 μ_ (.slice A8 out6.length c8) out6 ch10 ∧ μ = μ_) ?_ ?_
        · refine WP.block (WP.iter h6824 (fun (j_ : (List T_api_Leg) × Int) fr_ μ_ L_ => ounP j_ fun out4 v2 => ∃ (A6 : Option Addr) (c6 : Nat) (ch7 : Seg), SubFr [(2, .pointer (some ⟨g1, 0, none⟩)), (7, .slice A6 out4.length c6), (9, .int .i64 n1), (46, .slice A1 r1.Edges.length c1), (47, .int .i64 ((r1.Edges.length : Nat) : Int)), (48, .int .i64 v2)] fr_ ∧ SegSub ([(g1, .cells #[.int .i64 r1.Nodes, .slice A1 r1.Edges.length c1] 24 (0, 0))] :: ch7 :: L) L_ ∧ Own r_api_Leg 51 μ_ (.slice A6 out4.length c6) out4 ch7 ∧ μ = μ_) ⟨A5, c5, ch6, SubFr.of ⟨rfl, rfl, rfl, rfl, rfl, rfl, trivial⟩, SegSub.sel _ [some 0, some 1] 2, (hO6), rfl⟩ ?_)
          rintro ⟨out4, v2⟩ q6874 fr6874 μ6874 L6874 hm6874 ⟨A6, c6, ch7, hF6874, hS6874, hO7, hu6874⟩ hb6874 hq6874
          unfold recyclingref19_Legs_l2 at hb6874
          replace hb6874 := oun_mk hb6874
          subst hu6874
          refine WP.at hF6874 hS6874 (WP.seq_k (fun K6879 hK6879 => Wr Tt_ok rfl (R_lssD rfl rfl (Pn rfl (hK6879 _ _ _ (WP.seq_k (fun K6880 hK6880 => ?_)))))))
          refine W_cond_v (b := (decide (v2 < ((r1.Edges.length : Nat) : Int)))) rfl (fun hc7 => ?_) (fun hc7 => ?_)
          · replace hb6874 := cond_t hc7 hb6874
            refine WP.skip (hK6880 _ _ _ (WP.seq_k (fun K6881 hK6881 => ?_)))
            obtain ⟨o6882, h6882, hb6874⟩ := obind hb6874
            refine WP.cutK (fun fr_ μ_ L_ => ∃ (out5 : (List T_api_Leg)) (A7 : Option Addr) (c7 : Nat) (ch9 : Seg), out5 = o6882 ∧ SubFr [(2, .pointer (some ⟨g1, 0, none⟩)), (7, .slice A7 out5.length c7), (9, .int .i64 n1), (46, .slice A1 r1.Edges.length c1), (47, .int .i64 ((r1.Edges.length : Nat) : Int)), (48, .int .i64 v2)] fr_ ∧ SegSub ([(g1, .cells #[.int .i64 r1.Nodes, .slice A1 r1.Edges.length c1] 24 (0, 0))] :: ch9 :: L) L_ ∧ Own r_api_Leg 51 μ_ (.slice A7 out5.length c7) out5 ch9 ∧ μ = μ_) ?_ ?_
            · refine WP.block (WP.seq_k (fun K6883 hK6883 => WP.region Tt_ok (O_cons ?_)))
              obtain ⟨x3, hx5, h6882⟩ := obind h6882
              obtain ⟨a3, cs3, hA4, hr3, _, hc8⟩ := Rds.getI (ArrR.rds hA1 L) hx5
              obtain rfl := hr3
              refine O_read rfl (R_iaG rfl rfl rfl rfl rfl rfl ⟨(getI_lt hx5).1, (getI_lt hx5).2.1⟩ hA4 (Pc rfl rfl (R_loadA rfl rfl rfl rfl (Ex.mk [.int .i64 x3.From, .int .i64 x3.To, .int .i64 x3.Meters, .int .i64 x3.Secs] ⟨rfl, (hc8.push.push)⟩ (P_some rfl (O_cons (O_alloc (cs := #[.int .i64 0, .int .i64 0, .int .i64 0, .int .i64 0]) rfl rfl (fun g2 => P_some rfl (O_cons (O_store (vs := [.int .i64 x3.From, .int .i64 x3.To, .int .i64 x3.Meters, .int .i64 x3.Secs]) rfl rfl rfl rfl rfl rfl (ST_ (L' := ([(g2, .cells #[.int .i64 x3.From, .int .i64 x3.To, .int .i64 x3.Meters, .int .i64 x3.Secs] 86 (0, 0))] :: [(g1, .cells #[.int .i64 r1.Nodes, .slice A1 r1.Edges.length c1] 24 (0, 0))] :: ch7 :: L)) 0 0 rfl rfl rfl rfl (P_none (O_nil (hK6883 _ _ _ (WP.seq_k (fun K6886 hK6886 => ?_))))))))))))))))
              refine Wr Tt_ok rfl (R_move rfl (Pc rfl rfl (R_fa0 (o' := 0) rfl rfl rfl rfl rfl rfl (Pc rfl rfl (R_load rfl rfl rfl (Ex.mk _ (Cell.seg 0 0 rfl rfl rfl) (P_some rfl (O_cons ?_))))))))
              obtain ⟨x4, hx6, h6882⟩ := obind h6882
              obtain ⟨a4, cs4, hA5, hr4, _, hc9⟩ := Rds.getI (Own.rds (L := ([(g2, .cells #[.int .i64 x3.From, .int .i64 x3.To, .int .i64 x3.Meters, .int .i64 x3.Secs] 86 (0, 0))] :: [(g1, .cells #[.int .i64 r1.Nodes, .slice A1 r1.Edges.length c1] 24 (0, 0))] :: ch7 :: L)) hO7 2 rfl) hx6
              obtain rfl := hr4
              refine O_read rfl (R_iaG rfl rfl rfl rfl rfl rfl ⟨(getI_lt hx6).1, (getI_lt hx6).2.1⟩ hA5 (Pc rfl rfl (R_faz rfl rfl rfl rfl rfl (Pc rfl rfl (R_load rfl rfl rfl (Ex.mk _ (Cell.of_cells0 hc9 rfl) (Pc rfl rfl (R_geqD rfl rfl (Pn rfl (hK6886 _ _ _ ?_))))))))))
              refine W_cond_v (b := (decide (0 ≤ x4.Secs))) rfl (fun hc10 => ?_) (fun hc10 => ?_)
              · replace h6882 := cond_t hc10 h6882
                refine WP.seq_k ?_; intro K6887 hK6887
                obtain ⟨o6895, h6895, h6882⟩ := obind h6882
                refine WP.cutK (fun fr_ μ_ L_ => ∃ (f1 : Int) (f2 : Int) (g4 : Nat), (f1, f2) = o6895 ∧ SubFr [(2, .pointer (some ⟨g1, 0, none⟩)), (7, .slice A6 out4.length c6), (9, .int .i64 n1), (11, .pointer (some ⟨g2, 0, none⟩)), (12, .pointer (some ⟨g4, 0, none⟩)), (46, .slice A1 r1.Edges.length c1), (47, .int .i64 ((r1.Edges.length : Nat) : Int)), (48, .int .i64 v2)] fr_ ∧ SegSub ([(g1, .cells #[.int .i64 r1.Nodes, .slice A1 r1.Edges.length c1] 24 (0, 0))] :: ch7 :: [(g2, .cells #[.int .i64 x3.From, .int .i64 x3.To, .int .i64 x3.Meters, .int .i64 x3.Secs] 86 (0, 0))] :: [(g4, .cells #[.int .i64 f1, .int .i64 f2] 51 (0, 0))] :: L) L_ ∧ μ = μ_) ?_ ?_
                · refine WP.draw (id := 20) wide _ Kept.refl rfl (AN.run (fuel := 3) (listed' := [true, true, true, true, true, true, true, true, true, true, false, false, false]) Tt_ok [(true, 0), (true, 1), (true, 2), (true, 3), (true, 4), (true, 5), (true, 6), (true, 7), (true, 8), (true, 9)] (by kernel_rfl) (by kernel_rfl) rfl (PL_t rfl (R_move rfl (Pt rfl rfl (R_fa0 (o' := 0) rfl rfl rfl rfl rfl rfl (Pt rfl rfl (R_load rfl rfl rfl (Ex.mk _ (Cell.seg 0 0 rfl rfl rfl) (Pt rfl rfl ?_)))))))))
                  obtain ⟨x5, hx7, h6895⟩ := obind h6895
                  obtain ⟨a5, cs5, hA6, hr5, _, hc11⟩ := Rds.getI (Own.rds (L := ([(g2, .cells #[.int .i64 x3.From, .int .i64 x3.To, .int .i64 x3.Meters, .int .i64 x3.Secs] 86 (0, 0))] :: [(g1, .cells #[.int .i64 r1.Nodes, .slice A1 r1.Edges.length c1] 24 (0, 0))] :: ch7 :: L)) hO7 2 rfl) hx7
                  obtain rfl := hr5
                  refine R_iaG rfl rfl rfl rfl rfl rfl ⟨(getI_lt hx7).1, (getI_lt hx7).2.1⟩ hA6 (Pt rfl rfl (R_loadA rfl rfl rfl rfl (Ex.mk [.int .i64 x5.Secs, .int .i64 x5.Meters] ⟨rfl, hc11⟩ (Pt rfl rfl (R_fa0 (o' := 3) rfl rfl rfl rfl rfl rfl (Pt rfl rfl (R_load rfl rfl rfl (Ex.mk _ (Cell.seg 0 0 rfl rfl rfl) (Pt rfl rfl (R_fa0 (o' := 2) rfl rfl rfl rfl rfl rfl (Pt rfl rfl (R_load rfl rfl rfl ?_))))))))))))
                  refine Ex.mk _ (Cell.seg 0 0 rfl rfl rfl) (Pt rfl rfl (R_build rfl rfl rfl rfl (F_cons (cells' := [.int .i64 x3.Secs, .int .i64 0]) rfl rfl rfl rfl (F_cons (cells' := [.int .i64 x3.Secs, .int .i64 x3.Meters]) rfl rfl rfl rfl (F_nil (P_some rfl (PL_nil ?_)))))))
                  refine FK_2 Tt_ok (a := 10) (b := 11) (by kernel_rfl) ?_ ?_
                  · refine FO_ rfl rfl (O_call (all := [.agg #[.int .i64 x5.Secs, .int .i64 x5.Meters], .agg #[.int .i64 x3.Secs, .int .i64 x3.Meters]]) rfl rfl rfl ?_)
                    obtain ⟨r4, hx8, h6895⟩ := obind h6895
                    refine recyclingref19_Along_fn  hx8 (?_)
                    refine ⟨Kept.refl, ?_⟩
                    refine P_some rfl (AN.run (fuel := 0) (listed' := [true, true, true, true, true, true, true, true, true, true, true, true, true]) Tt_ok [(false, 11), (false, 12)] (by kernel_rfl) (by kernel_rfl) rfl (PL_f rfl (O_alloc (cs := #[.int .i64 0, .int .i64 0]) rfl rfl (fun g3 => ?_))))
                    refine ⟨Kept.more (Kept.refl), ?_⟩
                    refine P_some rfl (PL_f rfl (O_store (vs := [.int .i64 r4.Secs, .int .i64 r4.Meters]) rfl rfl rfl rfl rfl rfl (ST_ (L' := ([(g3, .cells #[.int .i64 r4.Secs, .int .i64 r4.Meters] 51 (0, 0))] :: [(g2, .cells #[.int .i64 x3.From, .int .i64 x3.To, .int .i64 x3.Meters, .int .i64 x3.Secs] 86 (0, 0))] :: [(g1, .cells #[.int .i64 r1.Nodes, .slice A1 r1.Edges.length c1] 24 (0, 0))] :: ch7 :: L)) 0 0 rfl rfl rfl rfl ?_)))
                    refine ⟨Kept.more (Kept.refl), ?_⟩
                    refine P_none (PL_nil (AN.done0 (by kernel_rfl) ?_))
                    have e_ := Option.some.inj h6895
                    subst e_
                    exact ⟨r4.Secs, r4.Meters, g3, rfl, SubFr.of ⟨rfl, rfl, rfl, rfl, rfl, rfl, rfl, rfl, trivial⟩, SegSub.sel _ [some 2, some 3, some 1, some 0] 4, rfl⟩
                  obtain ⟨r4, hx8, h6895⟩ := obind h6895
                  refine FO_ rfl rfl (O_alloc (cs := #[.int .i64 0, .int .i64 0]) rfl rfl (fun g3 => ?_))
                  refine ⟨Kept.more (Kept.refl), ?_⟩
                  refine P_some rfl (AN.run (fuel := 0) (listed' := [true, true, true, true, true, true, true, true, true, true, true, true, true]) Tt_ok [(false, 10), (false, 12)] (by kernel_rfl) (by kernel_rfl) rfl (PL_f rfl (O_call (all := [.agg #[.int .i64 x5.Secs, .int .i64 x5.Meters], .agg #[.int .i64 x3.Secs, .int .i64 x3.Meters]]) rfl rfl rfl (recyclingref19_Along_fn  hx8 (?_)))))
                  refine ⟨Kept.more (Kept.refl), ?_⟩
                  refine P_some rfl (PL_f rfl (O_store (vs := [.int .i64 r4.Secs, .int .i64 r4.Meters]) rfl rfl rfl rfl rfl rfl (ST_ (L' := ([(g3, .cells #[.int .i64 r4.Secs, .int .i64 r4.Meters] 51 (0, 0))] :: [(g2, .cells #[.int .i64 x3.From, .int .i64 x3.To, .int .i64 x3.Meters, .int .i64 x3.Secs] 86 (0, 0))] :: [(g1, .cells #[.int .i64 r1.Nodes, .slice A1 r1.Edges.length c1] 24 (0, 0))] :: ch7 :: L)) 0 0 rfl rfl rfl rfl ?_)))
                  refine ⟨Kept.more (Kept.refl), ?_⟩
                  refine P_none (PL_nil (AN.done0 (by kernel_rfl) ?_))
                  have e_ := Option.some.inj h6895
                  subst e_
                  exact ⟨r4.Secs, r4.Meters, g3, rfl, SubFr.of ⟨rfl, rfl, rfl, rfl, rfl, rfl, rfl, rfl, trivial⟩, SegSub.sel _ [some 2, some 3, some 1, some 0] 4, rfl⟩
                rintro fr6895 μ6895 L6895 hm6895 ⟨f1, f2, g4, ho6895, hF6895, hS6895, hu6895⟩
                subst ho6895
                replace h6882 := oun_mk h6882
                subst hu6895
                refine hK6887 _ _ _ (WP.at hF6895 hS6895 (WP.seq_k (fun K6916 hK6916 => WP.drawn (id := 21) (l' := List.replicate 7 true) wide Tt_ok _ Kept.refl [(true, 0), (true, 1), (true, 2), (true, 3), (true, 4), (true, 5), (false, 6)] (by kernel_rfl) (by kernel_rfl) rfl (PL_t rfl (R_loadA rfl rfl rfl rfl (LA_ (vs := [.int .i64 f1, .int .i64 f2]) 3 0 rfl rfl rfl rfl (Pt rfl rfl (R_move rfl (Pt rfl rfl (R_fa0 (o' := 1) rfl rfl rfl rfl rfl rfl (Pt rfl rfl (R_load rfl rfl rfl (Ex.mk _ (Cell.seg 2 0 rfl rfl rfl) (P_some rfl ?_))))))))))))))
                apply PL_t; exact rfl
                obtain ⟨x6, hx9, h6882⟩ := obind h6882
                obtain ⟨a6, cs6, hA7, hr6, _, hc12⟩ := Rds.getI (Own.rds (L := ([(g1, .cells #[.int .i64 r1.Nodes, .slice A1 r1.Edges.length c1] 24 (0, 0))] :: ch7 :: [(g2, .cells #[.int .i64 x3.From, .int .i64 x3.To, .int .i64 x3.Meters, .int .i64 x3.Secs] 86 (0, 0))] :: [(g4, .cells #[.int .i64 f1, .int .i64 f2] 51 (0, 0))] :: L)) hO7 1 rfl) hx9
                obtain rfl := hr6
                refine R_iaG rfl rfl rfl rfl rfl rfl ⟨(getI_lt hx9).1, (getI_lt hx9).2.1⟩ hA7 (Pt rfl rfl (R_loadA rfl rfl rfl rfl (Ex.mk [.int .i64 x6.Secs, .int .i64 x6.Meters] ⟨rfl, hc12⟩ (P_some rfl (PL_f rfl (O_call (all := [.agg #[.int .i64 f1, .int .i64 f2], .agg #[.int .i64 x6.Secs, .int .i64 x6.Meters]]) rfl rfl rfl ?_))))))
                obtain ⟨r5, hx10, h6882⟩ := obind h6882
                refine recyclingref19_Better_fn  hx10 (?_)
                refine ⟨Kept.refl, ?_⟩
                refine P_some rfl (PL_nil (AN.done0 (by kernel_rfl) (hK6916 _ _ _ ?_)))
                refine W_cond_v (b := r5) rfl (fun hc13 => ?_) (fun hc13 => ?_)
                · replace h6882 := cond_t hc13 h6882
                  refine Wr Tt_ok rfl (R_move rfl (Pc rfl rfl (R_fa0 (o' := 1) rfl rfl rfl rfl rfl rfl (Pc rfl rfl (R_load rfl rfl rfl (Ex.mk _ (Cell.seg 2 0 rfl rfl rfl) (Pc rfl rfl (R_loadA rfl rfl rfl rfl (LA_ (vs := [.int .i64 f1, .int .i64 f2]) 3 0 rfl rfl rfl rfl ?_)))))))))
                  refine P_some rfl (O_cons ?_)
                  obtain ⟨x7, hx11, h6882⟩ := obind h6882
                  obtain ⟨a7, cs7, hA8, hr7, _, hc14⟩ := Rds.getI (Own.rds (L := ([(g1, .cells #[.int .i64 r1.Nodes, .slice A1 r1.Edges.length c1] 24 (0, 0))] :: ch7 :: [(g2, .cells #[.int .i64 x3.From, .int .i64 x3.To, .int .i64 x3.Meters, .int .i64 x3.Secs] 86 (0, 0))] :: [(g4, .cells #[.int .i64 f1, .int .i64 f2] 51 (0, 0))] :: L)) hO7 1 rfl) hx11
                  obtain rfl := hr7
                  refine O_read rfl (R_iaG rfl rfl rfl rfl rfl rfl ⟨(getI_lt hx11).1, (getI_lt hx11).2.1⟩ hA8 (P_some rfl (O_cons (O_store (vs := [.int .i64 f1, .int .i64 f2]) rfl rfl rfl rfl rfl rfl ?_))))
                  rw [← Addr.add_zero' ((a7.add (x3.To.toNat * 2)))]
                  refine Own.store (r := r_api_Leg) (x' := (T_api_Leg.mk f1 f2)) (o := 0) (sz := 2) 1 rfl hO7 hA8 hx11 rfl rfl (by rintro _ rfl; rfl) fun ch8 hO8 => ?_
                  rw [← length_setI out4 x3.To (T_api_Leg.mk f1 f2)] at hO8 ⊢
                  refine P_none (O_nil ?_)
                  have e_ := Option.some.inj h6882
                  subst e_
                  exact ⟨(setI out4 x3.To (T_api_Leg.mk f1 f2)), A6, c6, ch8, rfl, SubFr.of ⟨rfl, rfl, rfl, rfl, rfl, rfl, trivial⟩, SegSub.sel _ [some 0, some 1] 4, (hO8), rfl⟩
                replace h6882 := cond_f hc13 h6882
                apply WP.skip
                have e_ := Option.some.inj h6882
                subst e_
                exact ⟨out4, A6, c6, ch7, rfl, SubFr.of ⟨rfl, rfl, rfl, rfl, rfl, rfl, trivial⟩, SegSub.sel _ [some 0, some 1] 4, (hO7), rfl⟩
              replace h6882 := cond_f hc10 h6882
              apply WP.skip
              have e_ := Option.some.inj h6882
              subst e_
              exact ⟨out4, A6, c6, ch7, rfl, SubFr.of ⟨rfl, rfl, rfl, rfl, rfl, rfl, trivial⟩, SegSub.sel _ [some 1, some 2] 3, (hO7), rfl⟩
            rintro fr6882 μ6882 L6882 hm6882 ⟨out5, A7, c7, ch9, ho6882, hF6882, hS6882, hO9, hu6882⟩
            subst ho6882
            subst hu6882
            refine hK6881 _ _ _ (WP.at hF6882 hS6882 (Wr Tt_ok rfl (R_add rfl rfl (Pc rfl rfl (R_move rfl (Pn rfl ?_))))))
            have e_ := Option.some.inj hb6874
            subst e_
            exact ⟨_, rfl, A7, c7, ch9, SubFr.of ⟨rfl, rfl, rfl, rfl, rfl, rfl, trivial⟩, SegSub.sel _ [some 0, some 1] 2, (hO9), rfl⟩
          replace hb6874 := cond_f hc7 hb6874
          refine WP.exit (B_here ?_)
          have e_ := Option.some.inj hb6874
          subst e_
          have hq_ := hq6874 _ rfl
          subst hq_
          exact ⟨out4, A6, c6, ch7, rfl, SubFr.of ⟨rfl, rfl, rfl, trivial⟩, SegSub.sel _ [some 0, some 1] 2, (hO7), rfl⟩
        rintro fr6824 μ6824 L6824 hm6824 ⟨out6, A8, c8, ch10, ho6824, hF6824, hS6824, hO10, hu6824⟩
        subst ho6824
        subst hu6824
        have e_ := Option.some.inj h6822
        subst e_
        exact ⟨out6, A8, c8, ch10, rfl, SubFr.trans (fr := [(2, .pointer (some ⟨g1, 0, none⟩)), (7, .slice A8 out6.length c8), (9, .int .i64 n1)]) (SubFr.of ⟨rfl, rfl, rfl, trivial⟩) hF6824, SegSub.trans (M := ([(g1, .cells #[.int .i64 r1.Nodes, .slice A1 r1.Edges.length c1] 24 (0, 0))] :: ch10 :: L)) (SegSub.sel _ [some 0, some 1] 2) hS6824, (hO10), rfl⟩
      rintro fr6822 μ6822 L6822 hm6822 ⟨out7, A9, c9, ch11, ho6822, hF6822, hS6822, hO11, hu6822⟩
      subst ho6822
      subst hu6822
      refine hK6821 _ _ _ (WP.at hF6822 hS6822 (Wr Tt_ok rfl (R_move rfl (Pc rfl rfl (R_add rfl rfl (Pc rfl rfl (R_assign rfl (Pn rfl ?_))))))))
      have e_ := Option.some.inj hb6814
      subst e_
      exact ⟨_, rfl, A9, c9, ch11, SubFr.of ⟨rfl, rfl, rfl, trivial⟩, SegSub.sel _ [some 0, some 1] 2, (hO11), rfl⟩
    replace hb6814 := cond_f hc6 hb6814
    refine WP.exit (B_here ?_)
    have e_ := Option.some.inj hb6814
    subst e_
    have hq_ := hq6814 _ rfl
    subst hq_
    exact ⟨out3, A5, c5, ch6, rfl, SubFr.of ⟨rfl, trivial⟩, SegSub.sel _ [some 1] 2, (hO6), rfl⟩
  rintro fr6679 μ6679 L6679 hm6679 ⟨out8, A10, c10, ch12, ho6679, hF6679, hS6679, hO12, hu6679⟩
  subst ho6679
  subst hu6679
  refine hK6677 _ _ _ (WP.at hF6679 hS6679 (WP.seq_k (fun K6931 hK6931 => Wr Tt_ok rfl (R_move rfl (Pc rfl rfl (R_assign rfl (Pc rfl rfl (R_assign rfl (Pn rfl (hK6931 _ _ _ ?_))))))))))
  apply WP.ret
  have e_ := Option.some.inj h
  obtain ⟨e0a_, e0b_⟩ := Prod.mk.inj e_
  clear e_
  subst e0a_
  subst e0b_
  refine S_tmp rfl (S_tmp rfl (S_nil (Upd.selS [some 0] 1 ?_)))
  exact Upd.done (hR A10 c10 ch12 (hO12))

theorem recyclingref22_Leg_fn {μ : Gh} {L : List Seg} {R : Value → Gh → List Seg → Prop}  {p1 : T_api_Problem} {f_from1 : Int} {f_to1 : Int} {A1 : Option Addr} {c1 : Nat} {A2 : Option Addr} {c2 : Nat} {A3 : Option Addr} {c3 : Nat} {res1 : T_api_Leg}
    (hl1 : p1.Road.Edges.length ≤ c1 ∧ c1 ≤ maxLen) (hA1 : ArrR r_api_Edge μ A1 p1.Road.Edges) (hl2 : p1.Vehicles.length ≤ c2 ∧ c2 ≤ maxLen) (hA2 : ArrR r_api_Vehicle μ A2 p1.Vehicles) (hl3 : p1.Demands.length ≤ c3 ∧ c3 ≤ maxLen) (hA3 : ArrR r_api_Demand μ A3 p1.Demands) (h : recyclingref22_Leg p1 f_from1 f_to1 = some res1)
    (hR : R (.agg #[.int .i64 res1.Secs, .int .i64 res1.Meters]) μ (L)) :
    Fn Try.prog 21 [.agg #[.int .i64 p1.Road.Nodes, .slice A1 p1.Road.Edges.length c1, .slice A2 p1.Vehicles.length c2, .slice A3 p1.Demands.length c3, .int .i64 p1.Unload, .int .i64 p1.UnloadSecs], .int .i64 f_from1, .int .i64 f_to1] μ (L) R := by
  unfold recyclingref22_Leg at h
  refine Fn.of_body Tt_ok Try.func21 (by kernel_rfl) rfl Try.ntmps21 (by simp) ?_
  simp only [Try.f21, argFr, List.zipIdx, List.map, Nat.reduceAdd]
  refine WP.seq_k (fun K6620 hK6620 => WP.region Tt_ok (O_cons (O_box (cs := #[.int .i64 p1.Road.Nodes, .slice A1 p1.Road.Edges.length c1, .slice A2 p1.Vehicles.length c2, .slice A3 p1.Demands.length c3, .int .i64 p1.Unload, .int .i64 p1.UnloadSecs]) rfl rfl (fun g1 => P_some rfl (O_cons (O_alloc (cs := #[.int .i64 0, .int .i64 0]) rfl rfl (fun g2 => Pn rfl (hK6620 _ _ _ (WP.seq_k (fun K6623 hK6623 => Wr Tt_ok rfl (R_fa0 (o' := 0) rfl rfl rfl rfl rfl rfl (Pc rfl rfl ?_))))))))))))
  refine R_loadA rfl rfl rfl rfl (LA_ (vs := [.int .i64 p1.Road.Nodes, .slice A1 p1.Road.Edges.length c1]) 1 0 rfl rfl rfl rfl (Pc rfl rfl (R_move rfl (P_some rfl (O_cons (O_call (all := [.agg #[.int .i64 p1.Road.Nodes, .slice A1 p1.Road.Edges.length c1], .int .i64 f_from1]) rfl rfl rfl ?_))))))
  obtain ⟨⟨r1, r2⟩, hx1, h⟩ := obind h
  replace h := oun_mk h
  refine recyclingref19_Legs_fn hl1 hA1 hx1 (fun A4 c4 ch1 hO1 => Pc rfl rfl (R_move rfl (Pc rfl rfl (R_ext rfl rfl (Pc rfl rfl (R_ext rfl rfl (Pc rfl rfl (R_assign rfl (P_some rfl ?_)))))))))
  refine O_cons (O_read rfl (R_assign rfl (Pn rfl (hK6623 _ _ _ (WP.seq_k (fun K6933 hK6933 => WP.seq_k (fun K6934 hK6934 => ?_)))))))
  obtain ⟨o6935, h6935, h⟩ := obind h
  refine WP.cutK (fun fr_ μ_ L_ => ∃ (v1 : Bool), v1 = o6935 ∧ SubFr [(2, .int .i64 f_to1), (6, .pointer (some ⟨g2, 0, none⟩)), (7, .slice A4 r1.length c4), (27, .bool v1)] fr_ ∧ SegSub ([(g2, .cells #[.int .i64 0, .int .i64 0] 51 (0, 0))] :: ch1 :: L) L_ ∧ μ = μ_) ?_ ?_
  · refine Wr Tt_ok rfl (R_move rfl (Pc rfl rfl (R_neqD rfl rfl (Pc rfl rfl (R_move rfl (P_some rfl ?_))))))
    refine O_gv (z := !(decide (r2 = 0))) rfl rfl (fun hc1 => ?_) (fun hc1 => ?_)
    · replace h6935 := cond_f hc1 h6935
      refine O_read rfl (R_move rfl (P_some rfl (O_gY rfl rfl hc1 (O_read rfl (R_lssD rfl rfl (Pc rfl rfl (R_pick_F rfl hc1 rfl (Pc rfl rfl (R_move rfl (P_some rfl ?_))))))))))
      refine O_gv (z := (decide (f_to1 < 0))) rfl rfl (fun hc2 => ?_) (fun hc2 => ?_)
      · replace h6935 := cond_f hc2 h6935
        refine O_read rfl (R_move rfl (P_some rfl (O_gY rfl rfl hc2 (O_read rfl (R_move rfl (P_some rfl (O_gY rfl rfl hc2 (O_read rfl (R_lenS rfl rfl rfl (P_some rfl (O_gY rfl rfl hc2 (O_read rfl (R_geqD rfl rfl (Pc rfl rfl (R_pick_F rfl hc2 rfl ?_)))))))))))))))
        refine Pn rfl ?_
        have e_ := Option.some.inj h6935
        subst e_
        exact ⟨(decide (((r1.length : Nat) : Int) ≤ f_to1)), rfl, SubFr.of ⟨rfl, rfl, rfl, rfl, trivial⟩, SegSub.sel _ [some 1, some 0] 3, rfl⟩
      replace h6935 := cond_t hc2 h6935
      refine P_some rfl (O_gN rfl rfl hc2 (P_some rfl (O_gN rfl rfl hc2 (P_some rfl (O_gN rfl rfl hc2 (Pc rfl rfl (R_pick_T rfl hc2 rfl (Pn rfl ?_))))))))
      have e_ := Option.some.inj h6935
      subst e_
      exact ⟨true, rfl, SubFr.of ⟨rfl, rfl, rfl, rfl, trivial⟩, SegSub.sel _ [some 1, some 0] 3, rfl⟩
    replace h6935 := cond_t hc1 h6935
    refine P_some rfl (O_gN rfl rfl hc1 (Pc rfl rfl (R_pick_T rfl hc1 rfl (Pc rfl rfl (R_move rfl (P_some rfl (O_gN rfl rfl rfl (P_some rfl (O_gN rfl rfl rfl (P_some rfl (O_gN rfl rfl rfl (P_some rfl (O_gN rfl rfl rfl ?_)))))))))))))
    refine Pc rfl rfl (R_pick_T rfl rfl rfl (Pn rfl ?_))
    have e_ := Option.some.inj h6935
    subst e_
    exact ⟨true, rfl, SubFr.of ⟨rfl, rfl, rfl, rfl, trivial⟩, SegSub.sel _ [some 1, some 0] 3, rfl⟩
  rintro fr6935 μ6935 L6935 hm6935 ⟨v1, ho6935, hF6935, hS6935, hu6935⟩
  subst ho6935
  subst hu6935
  refine hK6934 _ _ _ (WP.at hF6935 hS6935 ?_)
  refine W_cond_v (b := v1) rfl (fun hc3 => ?_) (fun hc3 => ?_)
  · replace h := cond_t hc3 h
    refine WP.seq_k (fun K6938 hK6938 => Wr Tt_ok rfl (R_build rfl rfl rfl rfl (F_cons (cells' := [.int .i64 (-1), .int .i64 0]) rfl rfl rfl rfl (F_nil (P_some rfl (O_cons (O_store (vs := [.int .i64 (-1), .int .i64 0]) rfl rfl rfl rfl rfl rfl (ST_ (L' := ([(g2, .cells #[.int .i64 (-1), .int .i64 0] 51 (0, 0))] :: ch1 :: L)) 0 0 rfl rfl rfl rfl (P_none (O_nil (hK6938 _ _ _ (WP.ret ?_))))))))))))
    have e_ := Option.some.inj h
    subst e_
    refine S_cell rfl rfl rfl rfl (LA_ (vs := [.int .i64 (-1), .int .i64 0]) 0 0 rfl rfl rfl rfl (S_nil (Upd.selS [] 2 ?_)))
    exact Upd.done hR
  replace h := cond_f hc3 h
  refine WP.skip (hK6933 _ _ _ (WP.seq_k (fun K6940 hK6940 => Wr Tt_ok rfl (R_move rfl (Pc rfl rfl (R_move rfl (P_some rfl (O_cons ?_))))))))
  obtain ⟨x1, hx2, h⟩ := obind h
  obtain ⟨a1, cs1, hA4, hr1, _, hc4⟩ := Rds.getI (Own.rds (L := ([(g2, .cells #[.int .i64 0, .int .i64 0] 51 (0, 0))] :: ch1 :: L)) hO1 1 rfl) hx2
  obtain rfl := hr1
  refine O_read rfl (R_iaG rfl rfl rfl rfl rfl rfl ⟨(getI_lt hx2).1, (getI_lt hx2).2.1⟩ hA4 (Pc rfl rfl (R_loadA rfl rfl rfl rfl (Ex.mk [.int .i64 x1.Secs, .int .i64 x1.Meters] ⟨rfl, hc4⟩ (P_some rfl (O_cons (O_store (vs := [.int .i64 x1.Secs, .int .i64 x1.Meters]) rfl rfl rfl rfl rfl rfl (ST_ (L' := ([(g2, .cells #[.int .i64 x1.Secs, .int .i64 x1.Meters] 51 (0, 0))] :: ch1 :: L)) 0 0 rfl rfl rfl rfl (P_none (O_nil (hK6940 _ _ _ (WP.ret ?_))))))))))))
  have e_ := Option.some.inj h
  subst e_
  refine S_cell rfl rfl rfl rfl (LA_ (vs := [.int .i64 x1.Secs, .int .i64 x1.Meters]) 0 0 rfl rfl rfl rfl (S_nil (Upd.selS [] 2 ?_)))
  exact Upd.done hR

end Go.Proofs.Ytjbminmhndgiaaa
