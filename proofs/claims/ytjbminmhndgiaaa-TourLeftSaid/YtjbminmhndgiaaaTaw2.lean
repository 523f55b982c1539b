/- Printed by gen.py of this repo: the walks that tie the functions to their specifications. -/
import Derived.Test.YtjbminmhndgiaaaTt
import Derived.Test.YtjbminmhndgiaaaTas
import Derived.Test.YtjbminmhndgiaaaTaw1
namespace Go.Proofs.Ytjbminmhndgiaaa
open Go.RowKit
set_option linter.unusedSimpArgs false
set_option linter.unusedVariables false
attribute [local irreducible] WP SemOk SemU Fn AN Upd vcR vcO vcOps vcPlan putK fillK resK inBlk forkOne Cell StAt Kept

theorem pqueue_Queue_stop_swap_fn {μ : Gh} {L : List Seg} {R : Value → Gh → List Seg → Prop}  {q1 : T_pqueue_Queue_stop} {i1 : Int} {k1 : Int} {pv1 : Value} {so1 : Seg} {res1 : T_pqueue_Queue_stop}
    (hP1 : Obj_pqueue_Queue_stop μ pv1 q1 so1) (h : pqueue_Queue_stop_swap q1 i1 k1 = some res1)
    (hR : ∀ (sp0 : Seg), Obj_pqueue_Queue_stop μ pv1 res1 sp0 → R (.tuple #[]) μ (sp0 :: L)) :
    Fn Try.prog 83 [pv1, .int .i64 i1, .int .i64 k1] μ (so1 :: L) R := by
  unfold pqueue_Queue_stop_swap at h
  refine Fn.of_body Tt_ok Try.func83 (by kernel_rfl) rfl Try.ntmps83 (by simp) ?_
  simp only [Try.f83, argFr, List.zipIdx, List.map, Nat.reduceAdd]
  refine WP.tail ?_; intro K0_ hK0_
  obtain ⟨g1, A1, c1, ch1, hv1, rfl, hO1⟩ := hP1
  subst hv1
  refine WP.seg (L2 := ([(g1, .cells #[.func (.func 77) #[] #[], .slice A1 q1.heap.length c1, .int .i64 q1.count] 138 (0, 0))] :: ch1 :: L)) (SegSub.flat (by simp)) ?_
  obtain ⟨o1348, h1348, h⟩ := obind h
  refine WP.cutK (fun fr_ μ_ L_ => ∃ (f1 : (List T_pqueue_item_stop)) (A2 : Option Addr) (c2 : Nat) (ch4 : Seg), f1 = o1348 ∧ SubFr [] fr_ ∧ SegSub ([(g1, .cells #[.func (.func 77) #[] #[], .slice A2 f1.length c2, .int .i64 q1.count] 138 (0, 0))] :: ch4 :: L) L_ ∧ Own r_pqueue_item_stop 140 μ_ (.slice A2 f1.length c2) f1 ch4 ∧ μ = μ_) ?_ ?_
  · obtain ⟨n1, hn1⟩ : ∃ n_, n_ = q1.heap.length := ⟨_, rfl⟩
    rw [← hn1] at hO1 ⊢
    refine WP.draw (id := 0) wide ([(g1, .cells #[.func (.func 77) #[] #[], .slice A1 n1 c1, .int .i64 q1.count] 138 (0, 0))] :: L) (Kept.ofT (keep := [[(g1, .cells #[.func (.func 77) #[] #[], .slice A1 n1 c1, .int .i64 q1.count] 138 (0, 0))]]) (A := [[(g1, .cells #[.func (.func 77) #[] #[], .slice A1 n1 c1, .int .i64 q1.count] 138 (0, 0))], ch1]) (by simp)) rfl (AN.run (fuel := 8) (listed' := [true, true, true, true, true, true, true, true, true, true, true, true, true, true, true, false, false, true, true, true, true, true, false, false, false, false, false, false]) Tt_ok [(true, 0), (true, 1), (true, 2), (true, 3), (true, 4), (true, 5), (true, 6), (true, 7), (true, 8), (true, 9), (true, 10), (true, 11), (true, 12), (true, 13), (true, 14), (true, 17), (true, 18), (true, 19), (true, 20), (true, 21)] (by kernel_rfl) (by kernel_rfl) rfl ?_)
    refine PL_t rfl (R_move rfl (Pt rfl rfl (R_nilP rfl (Pt rfl rfl (R_fa0 (o' := 1) rfl rfl rfl rfl rfl rfl (Pt rfl rfl (R_load rfl rfl rfl (Ex.mk _ (Cell.seg 0 0 rfl rfl rfl) (Pt rfl rfl (R_move rfl (Pt rfl rfl (R_move rfl ?_))))))))))))
    refine Pt rfl rfl (R_nilP rfl (Pt rfl rfl (R_fa0 (o' := 1) rfl rfl rfl rfl rfl rfl (Pt rfl rfl (R_load rfl rfl rfl (Ex.mk _ (Cell.seg 0 0 rfl rfl rfl) (Pt rfl rfl (R_move rfl (Pt rfl rfl (R_move rfl (Pt rfl rfl ?_)))))))))))
    refine R_nilP rfl (Pt rfl rfl (R_fa0 (o' := 1) rfl rfl rfl rfl rfl rfl (Pt rfl rfl (R_load rfl rfl rfl (Ex.mk _ (Cell.seg 0 0 rfl rfl rfl) (Pt rfl rfl (R_move rfl (Pt rfl rfl (R_move rfl (Pt rfl rfl (R_nilP rfl (P_some rfl ?_))))))))))))
    refine PL_t rfl (R_fa0 (o' := 1) rfl rfl rfl rfl rfl rfl (Pt rfl rfl (R_load rfl rfl rfl (Ex.mk _ (Cell.seg 0 0 rfl rfl rfl) (Pt rfl rfl (R_move rfl (P_some rfl (PL_nil ?_))))))))
    refine FK_2 Tt_ok (a := 15) (b := 22) (by kernel_rfl) ?_ ?_
    · apply FO_; exact rfl; exact rfl
      obtain ⟨x1, hx1, h1348⟩ := obind h1348
      obtain ⟨a1, cs1, hA1, hr1, _, hc1⟩ := Rds.getI (Own.rds (L := ([(g1, .cells #[.func (.func 77) #[] #[], .slice A1 n1 c1, .int .i64 q1.count] 138 (0, 0))] :: ch1 :: L)) hO1 1 rfl) hx1
      obtain rfl := hr1
      refine O_read rfl (R_iaG rfl rfl rfl rfl rfl rfl ⟨(getI_lt hx1).1, lenN hn1 (getI_lt hx1).2.1⟩ hA1 ?_)
      refine ⟨Kept.ofT (keep := [[(g1, .cells #[.func (.func 77) #[] #[], .slice A1 n1 c1, .int .i64 q1.count] 138 (0, 0))]]) (A := [[(g1, .cells #[.func (.func 77) #[] #[], .slice A1 n1 c1, .int .i64 q1.count] 138 (0, 0))], ch1]) (by simp), ?_⟩
      apply P_some; exact rfl
      refine FK_2 Tt_ok (a := 16) (b := 22) (by kernel_rfl) ?_ ?_
      · refine FO_ rfl rfl (O_read rfl (R_loadA rfl rfl rfl rfl (Ex.mk [.int .i64 x1.value.node, .int .i64 x1.value.leg.Secs, .int .i64 x1.value.leg.Meters, .int .i64 x1.n] ⟨rfl, hc1⟩ ?_)))
        refine ⟨Kept.ofT (keep := [[(g1, .cells #[.func (.func 77) #[] #[], .slice A1 n1 c1, .int .i64 q1.count] 138 (0, 0))]]) (A := [[(g1, .cells #[.func (.func 77) #[] #[], .slice A1 n1 c1, .int .i64 q1.count] 138 (0, 0))], ch1]) (by simp), ?_⟩
        refine P_some rfl (AN.run (fuel := 0) (listed' := [true, true, true, true, true, true, true, true, true, true, true, true, true, true, true, true, true, true, true, true, true, true, true, true, true, true, true, true]) Tt_ok [(false, 22), (false, 23), (false, 24), (false, 25), (false, 26), (false, 27)] (by kernel_rfl) (by kernel_rfl) rfl (PL_f rfl ?_))
        obtain ⟨x2, hx2, h1348⟩ := obind h1348
        obtain ⟨a2, cs2, hA2, hr2, _, hc2⟩ := Rds.getI (Own.rds (L := ([(g1, .cells #[.func (.func 77) #[] #[], .slice A1 n1 c1, .int .i64 q1.count] 138 (0, 0))] :: ch1 :: L)) hO1 1 rfl) hx2
        obtain rfl := hr2
        refine O_read rfl (R_iaG rfl rfl rfl rfl rfl rfl ⟨(getI_lt hx2).1, lenN hn1 (getI_lt hx2).2.1⟩ hA2 ?_)
        refine ⟨Kept.ofT (keep := [[(g1, .cells #[.func (.func 77) #[] #[], .slice A1 n1 c1, .int .i64 q1.count] 138 (0, 0))]]) (A := [[(g1, .cells #[.func (.func 77) #[] #[], .slice A1 n1 c1, .int .i64 q1.count] 138 (0, 0))], ch1]) (by simp), ?_⟩
        refine P_some rfl (PL_f rfl (O_read rfl (R_loadA rfl rfl rfl rfl (Ex.mk [.int .i64 x2.value.node, .int .i64 x2.value.leg.Secs, .int .i64 x2.value.leg.Meters, .int .i64 x2.n] ⟨rfl, hc2⟩ ?_))))
        refine ⟨Kept.ofT (keep := [[(g1, .cells #[.func (.func 77) #[] #[], .slice A1 n1 c1, .int .i64 q1.count] 138 (0, 0))]]) (A := [[(g1, .cells #[.func (.func 77) #[] #[], .slice A1 n1 c1, .int .i64 q1.count] 138 (0, 0))], ch1]) (by simp), ?_⟩
        refine P_some rfl (PL_f rfl ?_)
        obtain ⟨x3, hx3, h1348⟩ := obind h1348
        obtain ⟨a3, cs3, hA3, hr3, _, hc3⟩ := Rds.getI (Own.rds (L := ([(g1, .cells #[.func (.func 77) #[] #[], .slice A1 n1 c1, .int .i64 q1.count] 138 (0, 0))] :: ch1 :: L)) hO1 1 rfl) hx3
        obtain rfl := hr3
        refine O_read rfl (R_iaG rfl rfl rfl rfl rfl rfl ⟨(getI_lt hx3).1, lenN hn1 (getI_lt hx3).2.1⟩ hA3 ?_)
        refine ⟨Kept.ofT (keep := [[(g1, .cells #[.func (.func 77) #[] #[], .slice A1 n1 c1, .int .i64 q1.count] 138 (0, 0))]]) (A := [[(g1, .cells #[.func (.func 77) #[] #[], .slice A1 n1 c1, .int .i64 q1.count] 138 (0, 0))], ch1]) (by simp), ?_⟩
        refine P_some rfl (PL_f rfl (O_store (vs := [.int .i64 x1.value.node, .int .i64 x1.value.leg.Secs, .int .i64 x1.value.leg.Meters, .int .i64 x1.n]) rfl rfl rfl rfl rfl rfl ?_))
        rw [← Addr.add_zero' ((a3.add (i1.toNat * 4)))]
        refine Own.store (r := r_pqueue_item_stop) (x' := x1) (o := 0) (sz := 4) 1 rfl hO1 hA3 hx3 rfl rfl (by rintro _ rfl; rfl) fun ch2 hO2 => ?_
        have hn2 := hn1.trans (length_setI q1.heap i1 x1).symm
        refine ⟨Kept.ofT (keep := [[(g1, .cells #[.func (.func 77) #[] #[], .slice A1 n1 c1, .int .i64 q1.count] 138 (0, 0))]]) (A := [[(g1, .cells #[.func (.func 77) #[] #[], .slice A1 n1 c1, .int .i64 q1.count] 138 (0, 0))], ch2]) (by simp), ?_⟩
        refine P_none (PL_f rfl ?_)
        obtain ⟨x4, hx4, h1348⟩ := obind h1348
        obtain ⟨a4, cs4, hA4, hr4, _, hc4⟩ := Rds.getI (Own.rds (L := ([(g1, .cells #[.func (.func 77) #[] #[], .slice A1 n1 c1, .int .i64 q1.count] 138 (0, 0))] :: ch2 :: L)) hO2 1 rfl) hx4
        obtain rfl := hr4
        refine O_read rfl (R_iaG rfl rfl rfl rfl rfl rfl ⟨(getI_lt hx4).1, lenN hn2 (getI_lt hx4).2.1⟩ hA4 ?_)
        refine ⟨Kept.ofT (keep := [[(g1, .cells #[.func (.func 77) #[] #[], .slice A1 n1 c1, .int .i64 q1.count] 138 (0, 0))]]) (A := [[(g1, .cells #[.func (.func 77) #[] #[], .slice A1 n1 c1, .int .i64 q1.count] 138 (0, 0))], ch2]) (by simp), ?_⟩
        refine P_some rfl (PL_f rfl (O_store (vs := [.int .i64 x2.value.node, .int .i64 x2.value.leg.Secs, .int .i64 x2.value.leg.Meters, .int .i64 x2.n]) rfl rfl rfl rfl rfl rfl ?_))
        rw [← Addr.add_zero' ((a4.add (k1.toNat * 4)))]
        refine Own.store (r := r_pqueue_item_stop) (x' := x2) (o := 0) (sz := 4) 1 rfl hO2 hA4 hx4 rfl rfl (by rintro _ rfl; rfl) fun ch3 hO3 => ?_
        have hn3 := hn2.trans (length_setI (setI q1.heap i1 x1) k1 x2).symm
        refine ⟨Kept.ofT (keep := [[(g1, .cells #[.func (.func 77) #[] #[], .slice A1 n1 c1, .int .i64 q1.count] 138 (0, 0))]]) (A := [[(g1, .cells #[.func (.func 77) #[] #[], .slice A1 n1 c1, .int .i64 q1.count] 138 (0, 0))], ch3]) (by simp), ?_⟩
        refine P_none (PL_nil (AN.done0 (by kernel_rfl) ?_))
        subst hn3
        have e_ := Option.some.inj h1348
        subst e_
        exact ⟨(setI (setI q1.heap i1 x1) k1 x2), A1, c1, ch3, rfl, SubFr.of trivial, SegSub.sel _ [some 0, some 1] 2, (hO3), rfl⟩
      obtain ⟨x2, hx2, h1348⟩ := obind h1348
      obtain ⟨x3, hx3, h1348⟩ := obind h1348
      obtain ⟨x4, hx4, h1348⟩ := obind h1348
      apply FO_; exact rfl; exact rfl
      obtain ⟨a2, cs2, hA2, hr2, _, hc2⟩ := Rds.getI (Own.rds (L := ([(g1, .cells #[.func (.func 77) #[] #[], .slice A1 n1 c1, .int .i64 q1.count] 138 (0, 0))] :: ch1 :: L)) hO1 1 rfl) hx2
      obtain rfl := hr2
      refine O_read rfl (R_iaG rfl rfl rfl rfl rfl rfl ⟨(getI_lt hx2).1, lenN hn1 (getI_lt hx2).2.1⟩ hA2 ?_)
      refine ⟨Kept.ofT (keep := [[(g1, .cells #[.func (.func 77) #[] #[], .slice A1 n1 c1, .int .i64 q1.count] 138 (0, 0))]]) (A := [[(g1, .cells #[.func (.func 77) #[] #[], .slice A1 n1 c1, .int .i64 q1.count] 138 (0, 0))], ch1]) (by simp), ?_⟩
      apply P_some; exact rfl
      refine FK_2 Tt_ok (a := 16) (b := 23) (by kernel_rfl) ?_ ?_
      · refine FO_ rfl rfl (O_read rfl (R_loadA rfl rfl rfl rfl (Ex.mk [.int .i64 x1.value.node, .int .i64 x1.value.leg.Secs, .int .i64 x1.value.leg.Meters, .int .i64 x1.n] ⟨rfl, hc1⟩ ?_)))
        refine ⟨Kept.ofT (keep := [[(g1, .cells #[.func (.func 77) #[] #[], .slice A1 n1 c1, .int .i64 q1.count] 138 (0, 0))]]) (A := [[(g1, .cells #[.func (.func 77) #[] #[], .slice A1 n1 c1, .int .i64 q1.count] 138 (0, 0))], ch1]) (by simp), ?_⟩
        refine P_some rfl (AN.run (fuel := 0) (listed' := [true, true, true, true, true, true, true, true, true, true, true, true, true, true, true, true, true, true, true, true, true, true, true, true, true, true, true, true]) Tt_ok [(false, 23), (false, 24), (false, 25), (false, 26), (false, 27)] (by kernel_rfl) (by kernel_rfl) rfl (PL_f rfl (O_read rfl (R_loadA rfl rfl rfl rfl (Ex.mk [.int .i64 x2.value.node, .int .i64 x2.value.leg.Secs, .int .i64 x2.value.leg.Meters, .int .i64 x2.n] ⟨rfl, hc2⟩ ?_)))))
        refine ⟨Kept.ofT (keep := [[(g1, .cells #[.func (.func 77) #[] #[], .slice A1 n1 c1, .int .i64 q1.count] 138 (0, 0))]]) (A := [[(g1, .cells #[.func (.func 77) #[] #[], .slice A1 n1 c1, .int .i64 q1.count] 138 (0, 0))], ch1]) (by simp), ?_⟩
        refine P_some rfl (PL_f rfl ?_)
        obtain ⟨a3, cs3, hA3, hr3, _, hc3⟩ := Rds.getI (Own.rds (L := ([(g1, .cells #[.func (.func 77) #[] #[], .slice A1 n1 c1, .int .i64 q1.count] 138 (0, 0))] :: ch1 :: L)) hO1 1 rfl) hx2
        obtain rfl := hr3
        refine O_read rfl (R_iaG rfl rfl rfl rfl rfl rfl ⟨(getI_lt hx2).1, lenN hn1 (getI_lt hx2).2.1⟩ hA3 ?_)
        refine ⟨Kept.ofT (keep := [[(g1, .cells #[.func (.func 77) #[] #[], .slice A1 n1 c1, .int .i64 q1.count] 138 (0, 0))]]) (A := [[(g1, .cells #[.func (.func 77) #[] #[], .slice A1 n1 c1, .int .i64 q1.count] 138 (0, 0))], ch1]) (by simp), ?_⟩
        refine P_some rfl (PL_f rfl (O_store (vs := [.int .i64 x1.value.node, .int .i64 x1.value.leg.Secs, .int .i64 x1.value.leg.Meters, .int .i64 x1.n]) rfl rfl rfl rfl rfl rfl ?_))
        rw [← Addr.add_zero' ((a3.add (i1.toNat * 4)))]
        refine Own.store (r := r_pqueue_item_stop) (x' := x1) (o := 0) (sz := 4) 1 rfl hO1 hA3 hx2 rfl rfl (by rintro _ rfl; rfl) fun ch2 hO2 => ?_
        have hn2 := hn1.trans (length_setI q1.heap i1 x1).symm
        refine ⟨Kept.ofT (keep := [[(g1, .cells #[.func (.func 77) #[] #[], .slice A1 n1 c1, .int .i64 q1.count] 138 (0, 0))]]) (A := [[(g1, .cells #[.func (.func 77) #[] #[], .slice A1 n1 c1, .int .i64 q1.count] 138 (0, 0))], ch2]) (by simp), ?_⟩
        refine P_none (PL_f rfl ?_)
        obtain ⟨a4, cs4, hA4, hr4, _, hc4⟩ := Rds.getI (Own.rds (L := ([(g1, .cells #[.func (.func 77) #[] #[], .slice A1 n1 c1, .int .i64 q1.count] 138 (0, 0))] :: ch2 :: L)) hO2 1 rfl) hx4
        obtain rfl := hr4
        refine O_read rfl (R_iaG rfl rfl rfl rfl rfl rfl ⟨(getI_lt hx4).1, lenN hn2 (getI_lt hx4).2.1⟩ hA4 ?_)
        refine ⟨Kept.ofT (keep := [[(g1, .cells #[.func (.func 77) #[] #[], .slice A1 n1 c1, .int .i64 q1.count] 138 (0, 0))]]) (A := [[(g1, .cells #[.func (.func 77) #[] #[], .slice A1 n1 c1, .int .i64 q1.count] 138 (0, 0))], ch2]) (by simp), ?_⟩
        refine P_some rfl (PL_f rfl (O_store (vs := [.int .i64 x2.value.node, .int .i64 x2.value.leg.Secs, .int .i64 x2.value.leg.Meters, .int .i64 x2.n]) rfl rfl rfl rfl rfl rfl ?_))
        rw [← Addr.add_zero' ((a4.add (k1.toNat * 4)))]
        refine Own.store (r := r_pqueue_item_stop) (x' := x2) (o := 0) (sz := 4) 1 rfl hO2 hA4 hx4 rfl rfl (by rintro _ rfl; rfl) fun ch3 hO3 => ?_
        have hn3 := hn2.trans (length_setI (setI q1.heap i1 x1) k1 x2).symm
        refine ⟨Kept.ofT (keep := [[(g1, .cells #[.func (.func 77) #[] #[], .slice A1 n1 c1, .int .i64 q1.count] 138 (0, 0))]]) (A := [[(g1, .cells #[.func (.func 77) #[] #[], .slice A1 n1 c1, .int .i64 q1.count] 138 (0, 0))], ch3]) (by simp), ?_⟩
        refine P_none (PL_nil (AN.done0 (by kernel_rfl) ?_))
        subst hn3
        have e_ := Option.some.inj h1348
        subst e_
        exact ⟨(setI (setI q1.heap i1 x1) k1 x2), A1, c1, ch3, rfl, SubFr.of trivial, SegSub.sel _ [some 0, some 1] 2, (hO3), rfl⟩
      refine FO_ rfl rfl (O_read rfl (R_loadA rfl rfl rfl rfl (Ex.mk [.int .i64 x2.value.node, .int .i64 x2.value.leg.Secs, .int .i64 x2.value.leg.Meters, .int .i64 x2.n] ⟨rfl, hc2⟩ ?_)))
      refine ⟨Kept.ofT (keep := [[(g1, .cells #[.func (.func 77) #[] #[], .slice A1 n1 c1, .int .i64 q1.count] 138 (0, 0))]]) (A := [[(g1, .cells #[.func (.func 77) #[] #[], .slice A1 n1 c1, .int .i64 q1.count] 138 (0, 0))], ch1]) (by simp), ?_⟩
      refine P_some rfl (AN.run (fuel := 0) (listed' := [true, true, true, true, true, true, true, true, true, true, true, true, true, true, true, true, true, true, true, true, true, true, true, true, true, true, true, true]) Tt_ok [(false, 16), (false, 24), (false, 25), (false, 26), (false, 27)] (by kernel_rfl) (by kernel_rfl) rfl (PL_f rfl (O_read rfl (R_loadA rfl rfl rfl rfl (Ex.mk [.int .i64 x1.value.node, .int .i64 x1.value.leg.Secs, .int .i64 x1.value.leg.Meters, .int .i64 x1.n] ⟨rfl, hc1⟩ ?_)))))
      refine ⟨Kept.ofT (keep := [[(g1, .cells #[.func (.func 77) #[] #[], .slice A1 n1 c1, .int .i64 q1.count] 138 (0, 0))]]) (A := [[(g1, .cells #[.func (.func 77) #[] #[], .slice A1 n1 c1, .int .i64 q1.count] 138 (0, 0))], ch1]) (by simp), ?_⟩
      refine P_some rfl (PL_f rfl ?_)
      obtain ⟨a3, cs3, hA3, hr3, _, hc3⟩ := Rds.getI (Own.rds (L := ([(g1, .cells #[.func (.func 77) #[] #[], .slice A1 n1 c1, .int .i64 q1.count] 138 (0, 0))] :: ch1 :: L)) hO1 1 rfl) hx2
      obtain rfl := hr3
      refine O_read rfl (R_iaG rfl rfl rfl rfl rfl rfl ⟨(getI_lt hx2).1, lenN hn1 (getI_lt hx2).2.1⟩ hA3 ?_)
      refine ⟨Kept.ofT (keep := [[(g1, .cells #[.func (.func 77) #[] #[], .slice A1 n1 c1, .int .i64 q1.count] 138 (0, 0))]]) (A := [[(g1, .cells #[.func (.func 77) #[] #[], .slice A1 n1 c1, .int .i64 q1.count] 138 (0, 0))], ch1]) (by simp), ?_⟩
      refine P_some rfl (PL_f rfl (O_store (vs := [.int .i64 x1.value.node, .int .i64 x1.value.leg.Secs, .int .i64 x1.value.leg.Meters, .int .i64 x1.n]) rfl rfl rfl rfl rfl rfl ?_))
      rw [← Addr.add_zero' ((a3.add (i1.toNat * 4)))]
      refine Own.store (r := r_pqueue_item_stop) (x' := x1) (o := 0) (sz := 4) 1 rfl hO1 hA3 hx2 rfl rfl (by rintro _ rfl; rfl) fun ch2 hO2 => ?_
      have hn2 := hn1.trans (length_setI q1.heap i1 x1).symm
      refine ⟨Kept.ofT (keep := [[(g1, .cells #[.func (.func 77) #[] #[], .slice A1 n1 c1, .int .i64 q1.count] 138 (0, 0))]]) (A := [[(g1, .cells #[.func (.func 77) #[] #[], .slice A1 n1 c1, .int .i64 q1.count] 138 (0, 0))], ch2]) (by simp), ?_⟩
      refine P_none (PL_f rfl ?_)
      obtain ⟨a4, cs4, hA4, hr4, _, hc4⟩ := Rds.getI (Own.rds (L := ([(g1, .cells #[.func (.func 77) #[] #[], .slice A1 n1 c1, .int .i64 q1.count] 138 (0, 0))] :: ch2 :: L)) hO2 1 rfl) hx4
      obtain rfl := hr4
      refine O_read rfl (R_iaG rfl rfl rfl rfl rfl rfl ⟨(getI_lt hx4).1, lenN hn2 (getI_lt hx4).2.1⟩ hA4 ?_)
      refine ⟨Kept.ofT (keep := [[(g1, .cells #[.func (.func 77) #[] #[], .slice A1 n1 c1, .int .i64 q1.count] 138 (0, 0))]]) (A := [[(g1, .cells #[.func (.func 77) #[] #[], .slice A1 n1 c1, .int .i64 q1.count] 138 (0, 0))], ch2]) (by simp), ?_⟩
      refine P_some rfl (PL_f rfl (O_store (vs := [.int .i64 x2.value.node, .int .i64 x2.value.leg.Secs, .int .i64 x2.value.leg.Meters, .int .i64 x2.n]) rfl rfl rfl rfl rfl rfl ?_))
      rw [← Addr.add_zero' ((a4.add (k1.toNat * 4)))]
      refine Own.store (r := r_pqueue_item_stop) (x' := x2) (o := 0) (sz := 4) 1 rfl hO2 hA4 hx4 rfl rfl (by rintro _ rfl; rfl) fun ch3 hO3 => ?_
      have hn3 := hn2.trans (length_setI (setI q1.heap i1 x1) k1 x2).symm
      refine ⟨Kept.ofT (keep := [[(g1, .cells #[.func (.func 77) #[] #[], .slice A1 n1 c1, .int .i64 q1.count] 138 (0, 0))]]) (A := [[(g1, .cells #[.func (.func 77) #[] #[], .slice A1 n1 c1, .int .i64 q1.count] 138 (0, 0))], ch3]) (by simp), ?_⟩
      refine P_none (PL_nil (AN.done0 (by kernel_rfl) ?_))
      subst hn3
      have e_ := Option.some.inj h1348
      subst e_
      exact ⟨(setI (setI q1.heap i1 x1) k1 x2), A1, c1, ch3, rfl, SubFr.of trivial, SegSub.sel _ [some 0, some 1] 2, (hO3), rfl⟩
    obtain ⟨x1, hx1, h1348⟩ := obind h1348
    obtain ⟨x2, hx2, h1348⟩ := obind h1348
    obtain ⟨x3, hx3, h1348⟩ := obind h1348
    obtain ⟨x4, hx4, h1348⟩ := obind h1348
    apply FO_; exact rfl; exact rfl
    obtain ⟨a2, cs2, hA2, hr2, _, hc2⟩ := Rds.getI (Own.rds (L := ([(g1, .cells #[.func (.func 77) #[] #[], .slice A1 n1 c1, .int .i64 q1.count] 138 (0, 0))] :: ch1 :: L)) hO1 1 rfl) hx2
    obtain rfl := hr2
    refine O_read rfl (R_iaG rfl rfl rfl rfl rfl rfl ⟨(getI_lt hx2).1, lenN hn1 (getI_lt hx2).2.1⟩ hA2 ?_)
    refine ⟨Kept.ofT (keep := [[(g1, .cells #[.func (.func 77) #[] #[], .slice A1 n1 c1, .int .i64 q1.count] 138 (0, 0))]]) (A := [[(g1, .cells #[.func (.func 77) #[] #[], .slice A1 n1 c1, .int .i64 q1.count] 138 (0, 0))], ch1]) (by simp), ?_⟩
    apply P_some; exact rfl
    refine FK_2 Tt_ok (a := 15) (b := 23) (by kernel_rfl) ?_ ?_
    · apply FO_; exact rfl; exact rfl
      obtain ⟨a1, cs1, hA1, hr1, _, hc1⟩ := Rds.getI (Own.rds (L := ([(g1, .cells #[.func (.func 77) #[] #[], .slice A1 n1 c1, .int .i64 q1.count] 138 (0, 0))] :: ch1 :: L)) hO1 1 rfl) hx1
      obtain rfl := hr1
      refine O_read rfl (R_iaG rfl rfl rfl rfl rfl rfl ⟨(getI_lt hx1).1, lenN hn1 (getI_lt hx1).2.1⟩ hA1 ?_)
      refine ⟨Kept.ofT (keep := [[(g1, .cells #[.func (.func 77) #[] #[], .slice A1 n1 c1, .int .i64 q1.count] 138 (0, 0))]]) (A := [[(g1, .cells #[.func (.func 77) #[] #[], .slice A1 n1 c1, .int .i64 q1.count] 138 (0, 0))], ch1]) (by simp), ?_⟩
      apply P_some; exact rfl
      refine FK_2 Tt_ok (a := 16) (b := 23) (by kernel_rfl) ?_ ?_
      · refine FO_ rfl rfl (O_read rfl (R_loadA rfl rfl rfl rfl (Ex.mk [.int .i64 x1.value.node, .int .i64 x1.value.leg.Secs, .int .i64 x1.value.leg.Meters, .int .i64 x1.n] ⟨rfl, hc1⟩ ?_)))
        refine ⟨Kept.ofT (keep := [[(g1, .cells #[.func (.func 77) #[] #[], .slice A1 n1 c1, .int .i64 q1.count] 138 (0, 0))]]) (A := [[(g1, .cells #[.func (.func 77) #[] #[], .slice A1 n1 c1, .int .i64 q1.count] 138 (0, 0))], ch1]) (by simp), ?_⟩
        refine P_some rfl (AN.run (fuel := 0) (listed' := [true, true, true, true, true, true, true, true, true, true, true, true, true, true, true, true, true, true, true, true, true, true, true, true, true, true, true, true]) Tt_ok [(false, 23), (false, 24), (false, 25), (false, 26), (false, 27)] (by kernel_rfl) (by kernel_rfl) rfl (PL_f rfl (O_read rfl (R_loadA rfl rfl rfl rfl (Ex.mk [.int .i64 x2.value.node, .int .i64 x2.value.leg.Secs, .int .i64 x2.value.leg.Meters, .int .i64 x2.n] ⟨rfl, hc2⟩ ?_)))))
        refine ⟨Kept.ofT (keep := [[(g1, .cells #[.func (.func 77) #[] #[], .slice A1 n1 c1, .int .i64 q1.count] 138 (0, 0))]]) (A := [[(g1, .cells #[.func (.func 77) #[] #[], .slice A1 n1 c1, .int .i64 q1.count] 138 (0, 0))], ch1]) (by simp), ?_⟩
        refine P_some rfl (PL_f rfl ?_)
        obtain ⟨a3, cs3, hA3, hr3, _, hc3⟩ := Rds.getI (Own.rds (L := ([(g1, .cells #[.func (.func 77) #[] #[], .slice A1 n1 c1, .int .i64 q1.count] 138 (0, 0))] :: ch1 :: L)) hO1 1 rfl) hx2
        obtain rfl := hr3
        refine O_read rfl (R_iaG rfl rfl rfl rfl rfl rfl ⟨(getI_lt hx2).1, lenN hn1 (getI_lt hx2).2.1⟩ hA3 ?_)
        refine ⟨Kept.ofT (keep := [[(g1, .cells #[.func (.func 77) #[] #[], .slice A1 n1 c1, .int .i64 q1.count] 138 (0, 0))]]) (A := [[(g1, .cells #[.func (.func 77) #[] #[], .slice A1 n1 c1, .int .i64 q1.count] 138 (0, 0))], ch1]) (by simp), ?_⟩
        refine P_some rfl (PL_f rfl (O_store (vs := [.int .i64 x1.value.node, .int .i64 x1.value.leg.Secs, .int .i64 x1.value.leg.Meters, .int .i64 x1.n]) rfl rfl rfl rfl rfl rfl ?_))
        rw [← Addr.add_zero' ((a3.add (i1.toNat * 4)))]
        refine Own.store (r := r_pqueue_item_stop) (x' := x1) (o := 0) (sz := 4) 1 rfl hO1 hA3 hx2 rfl rfl (by rintro _ rfl; rfl) fun ch2 hO2 => ?_
        have hn2 := hn1.trans (length_setI q1.heap i1 x1).symm
        refine ⟨Kept.ofT (keep := [[(g1, .cells #[.func (.func 77) #[] #[], .slice A1 n1 c1, .int .i64 q1.count] 138 (0, 0))]]) (A := [[(g1, .cells #[.func (.func 77) #[] #[], .slice A1 n1 c1, .int .i64 q1.count] 138 (0, 0))], ch2]) (by simp), ?_⟩
        refine P_none (PL_f rfl ?_)
        obtain ⟨a4, cs4, hA4, hr4, _, hc4⟩ := Rds.getI (Own.rds (L := ([(g1, .cells #[.func (.func 77) #[] #[], .slice A1 n1 c1, .int .i64 q1.count] 138 (0, 0))] :: ch2 :: L)) hO2 1 rfl) hx4
        obtain rfl := hr4
        refine O_read rfl (R_iaG rfl rfl rfl rfl rfl rfl ⟨(getI_lt hx4).1, lenN hn2 (getI_lt hx4).2.1⟩ hA4 ?_)
        refine ⟨Kept.ofT (keep := [[(g1, .cells #[.func (.func 77) #[] #[], .slice A1 n1 c1, .int .i64 q1.count] 138 (0, 0))]]) (A := [[(g1, .cells #[.func (.func 77) #[] #[], .slice A1 n1 c1, .int .i64 q1.count] 138 (0, 0))], ch2]) (by simp), ?_⟩
        refine P_some rfl (PL_f rfl (O_store (vs := [.int .i64 x2.value.node, .int .i64 x2.value.leg.Secs, .int .i64 x2.value.leg.Meters, .int .i64 x2.n]) rfl rfl rfl rfl rfl rfl ?_))
        rw [← Addr.add_zero' ((a4.add (k1.toNat * 4)))]
        refine Own.store (r := r_pqueue_item_stop) (x' := x2) (o := 0) (sz := 4) 1 rfl hO2 hA4 hx4 rfl rfl (by rintro _ rfl; rfl) fun ch3 hO3 => ?_
        have hn3 := hn2.trans (length_setI (setI q1.heap i1 x1) k1 x2).symm
        refine ⟨Kept.ofT (keep := [[(g1, .cells #[.func (.func 77) #[] #[], .slice A1 n1 c1, .int .i64 q1.count] 138 (0, 0))]]) (A := [[(g1, .cells #[.func (.func 77) #[] #[], .slice A1 n1 c1, .int .i64 q1.count] 138 (0, 0))], ch3]) (by simp), ?_⟩
        refine P_none (PL_nil (AN.done0 (by kernel_rfl) ?_))
        subst hn3
        have e_ := Option.some.inj h1348
        subst e_
        exact ⟨(setI (setI q1.heap i1 x1) k1 x2), A1, c1, ch3, rfl, SubFr.of trivial, SegSub.sel _ [some 0, some 1] 2, (hO3), rfl⟩
      refine FO_ rfl rfl (O_read rfl (R_loadA rfl rfl rfl rfl (Ex.mk [.int .i64 x2.value.node, .int .i64 x2.value.leg.Secs, .int .i64 x2.value.leg.Meters, .int .i64 x2.n] ⟨rfl, hc2⟩ ?_)))
      refine ⟨Kept.ofT (keep := [[(g1, .cells #[.func (.func 77) #[] #[], .slice A1 n1 c1, .int .i64 q1.count] 138 (0, 0))]]) (A := [[(g1, .cells #[.func (.func 77) #[] #[], .slice A1 n1 c1, .int .i64 q1.count] 138 (0, 0))], ch1]) (by simp), ?_⟩
      refine P_some rfl (AN.run (fuel := 0) (listed' := [true, true, true, true, true, true, true, true, true, true, true, true, true, true, true, true, true, true, true, true, true, true, true, true, true, true, true, true]) Tt_ok [(false, 16), (false, 24), (false, 25), (false, 26), (false, 27)] (by kernel_rfl) (by kernel_rfl) rfl (PL_f rfl (O_read rfl (R_loadA rfl rfl rfl rfl (Ex.mk [.int .i64 x1.value.node, .int .i64 x1.value.leg.Secs, .int .i64 x1.value.leg.Meters, .int .i64 x1.n] ⟨rfl, hc1⟩ ?_)))))
      refine ⟨Kept.ofT (keep := [[(g1, .cells #[.func (.func 77) #[] #[], .slice A1 n1 c1, .int .i64 q1.count] 138 (0, 0))]]) (A := [[(g1, .cells #[.func (.func 77) #[] #[], .slice A1 n1 c1, .int .i64 q1.count] 138 (0, 0))], ch1]) (by simp), ?_⟩
      refine P_some rfl (PL_f rfl ?_)
      obtain ⟨a3, cs3, hA3, hr3, _, hc3⟩ := Rds.getI (Own.rds (L := ([(g1, .cells #[.func (.func 77) #[] #[], .slice A1 n1 c1, .int .i64 q1.count] 138 (0, 0))] :: ch1 :: L)) hO1 1 rfl) hx2
      obtain rfl := hr3
      refine O_read rfl (R_iaG rfl rfl rfl rfl rfl rfl ⟨(getI_lt hx2).1, lenN hn1 (getI_lt hx2).2.1⟩ hA3 ?_)
      refine ⟨Kept.ofT (keep := [[(g1, .cells #[.func (.func 77) #[] #[], .slice A1 n1 c1, .int .i64 q1.count] 138 (0, 0))]]) (A := [[(g1, .cells #[.func (.func 77) #[] #[], .slice A1 n1 c1, .int .i64 q1.count] 138 (0, 0))], ch1]) (by simp), ?_⟩
      refine P_some rfl (PL_f rfl (O_store (vs := [.int .i64 x1.value.node, .int .i64 x1.value.leg.Secs, .int .i64 x1.value.leg.Meters, .int .i64 x1.n]) rfl rfl rfl rfl rfl rfl ?_))
      rw [← Addr.add_zero' ((a3.add (i1.toNat * 4)))]
      refine Own.store (r := r_pqueue_item_stop) (x' := x1) (o := 0) (sz := 4) 1 rfl hO1 hA3 hx2 rfl rfl (by rintro _ rfl; rfl) fun ch2 hO2 => ?_
      have hn2 := hn1.trans (length_setI q1.heap i1 x1).symm
      refine ⟨Kept.ofT (keep := [[(g1, .cells #[.func (.func 77) #[] #[], .slice A1 n1 c1, .int .i64 q1.count] 138 (0, 0))]]) (A := [[(g1, .cells #[.func (.func 77) #[] #[], .slice A1 n1 c1, .int .i64 q1.count] 138 (0, 0))], ch2]) (by simp), ?_⟩
      refine P_none (PL_f rfl ?_)
      obtain ⟨a4, cs4, hA4, hr4, _, hc4⟩ := Rds.getI (Own.rds (L := ([(g1, .cells #[.func (.func 77) #[] #[], .slice A1 n1 c1, .int .i64 q1.count] 138 (0, 0))] :: ch2 :: L)) hO2 1 rfl) hx4
      obtain rfl := hr4
      refine O_read rfl (R_iaG rfl rfl rfl rfl rfl rfl ⟨(getI_lt hx4).1, lenN hn2 (getI_lt hx4).2.1⟩ hA4 ?_)
      refine ⟨Kept.ofT (keep := [[(g1, .cells #[.func (.func 77) #[] #[], .slice A1 n1 c1, .int .i64 q1.count] 138 (0, 0))]]) (A := [[(g1, .cells #[.func (.func 77) #[] #[], .slice A1 n1 c1, .int .i64 q1.count] 138 (0, 0))], ch2]) (by simp), ?_⟩
      refine P_some rfl (PL_f rfl (O_store (vs := [.int .i64 x2.value.node, .int .i64 x2.value.leg.Secs, .int .i64 x2.value.leg.Meters, .int .i64 x2.n]) rfl rfl rfl rfl rfl rfl ?_))
      rw [← Addr.add_zero' ((a4.add (k1.toNat * 4)))]
      refine Own.store (r := r_pqueue_item_stop) (x' := x2) (o := 0) (sz := 4) 1 rfl hO2 hA4 hx4 rfl rfl (by rintro _ rfl; rfl) fun ch3 hO3 => ?_
      have hn3 := hn2.trans (length_setI (setI q1.heap i1 x1) k1 x2).symm
      refine ⟨Kept.ofT (keep := [[(g1, .cells #[.func (.func 77) #[] #[], .slice A1 n1 c1, .int .i64 q1.count] 138 (0, 0))]]) (A := [[(g1, .cells #[.func (.func 77) #[] #[], .slice A1 n1 c1, .int .i64 q1.count] 138 (0, 0))], ch3]) (by simp), ?_⟩
      refine P_none (PL_nil (AN.done0 (by kernel_rfl) ?_))
      subst hn3
      have e_ := Option.some.inj h1348
      subst e_
      exact ⟨(setI (setI q1.heap i1 x1) k1 x2), A1, c1, ch3, rfl, SubFr.of trivial, SegSub.sel _ [some 0, some 1] 2, (hO3), rfl⟩
    refine FO_ rfl rfl (O_read rfl (R_loadA rfl rfl rfl rfl (Ex.mk [.int .i64 x2.value.node, .int .i64 x2.value.leg.Secs, .int .i64 x2.value.leg.Meters, .int .i64 x2.n] ⟨rfl, hc2⟩ ?_)))
    refine ⟨Kept.ofT (keep := [[(g1, .cells #[.func (.func 77) #[] #[], .slice A1 n1 c1, .int .i64 q1.count] 138 (0, 0))]]) (A := [[(g1, .cells #[.func (.func 77) #[] #[], .slice A1 n1 c1, .int .i64 q1.count] 138 (0, 0))], ch1]) (by simp), ?_⟩
    refine P_some rfl (AN.run (fuel := 0) (listed' := [true, true, true, true, true, true, true, true, true, true, true, true, true, true, true, true, true, true, true, true, true, true, true, true, true, true, true, true]) Tt_ok [(false, 15), (false, 16), (false, 24), (false, 25), (false, 26), (false, 27)] (by kernel_rfl) (by kernel_rfl) rfl (PL_f rfl ?_))
    obtain ⟨a1, cs1, hA1, hr1, _, hc1⟩ := Rds.getI (Own.rds (L := ([(g1, .cells #[.func (.func 77) #[] #[], .slice A1 n1 c1, .int .i64 q1.count] 138 (0, 0))] :: ch1 :: L)) hO1 1 rfl) hx1
    obtain rfl := hr1
    refine O_read rfl (R_iaG rfl rfl rfl rfl rfl rfl ⟨(getI_lt hx1).1, lenN hn1 (getI_lt hx1).2.1⟩ hA1 ?_)
    refine ⟨Kept.ofT (keep := [[(g1, .cells #[.func (.func 77) #[] #[], .slice A1 n1 c1, .int .i64 q1.count] 138 (0, 0))]]) (A := [[(g1, .cells #[.func (.func 77) #[] #[], .slice A1 n1 c1, .int .i64 q1.count] 138 (0, 0))], ch1]) (by simp), ?_⟩
    refine P_some rfl (PL_f rfl (O_read rfl (R_loadA rfl rfl rfl rfl (Ex.mk [.int .i64 x1.value.node, .int .i64 x1.value.leg.Secs, .int .i64 x1.value.leg.Meters, .int .i64 x1.n] ⟨rfl, hc1⟩ ?_))))
    refine ⟨Kept.ofT (keep := [[(g1, .cells #[.func (.func 77) #[] #[], .slice A1 n1 c1, .int .i64 q1.count] 138 (0, 0))]]) (A := [[(g1, .cells #[.func (.func 77) #[] #[], .slice A1 n1 c1, .int .i64 q1.count] 138 (0, 0))], ch1]) (by simp), ?_⟩
    refine P_some rfl (PL_f rfl ?_)
    obtain ⟨a3, cs3, hA3, hr3, _, hc3⟩ := Rds.getI (Own.rds (L := ([(g1, .cells #[.func (.func 77) #[] #[], .slice A1 n1 c1, .int .i64 q1.count] 138 (0, 0))] :: ch1 :: L)) hO1 1 rfl) hx2
    obtain rfl := hr3
    refine O_read rfl (R_iaG rfl rfl rfl rfl rfl rfl ⟨(getI_lt hx2).1, lenN hn1 (getI_lt hx2).2.1⟩ hA3 ?_)
    refine ⟨Kept.ofT (keep := [[(g1, .cells #[.func (.func 77) #[] #[], .slice A1 n1 c1, .int .i64 q1.count] 138 (0, 0))]]) (A := [[(g1, .cells #[.func (.func 77) #[] #[], .slice A1 n1 c1, .int .i64 q1.count] 138 (0, 0))], ch1]) (by simp), ?_⟩
    refine P_some rfl (PL_f rfl (O_store (vs := [.int .i64 x1.value.node, .int .i64 x1.value.leg.Secs, .int .i64 x1.value.leg.Meters, .int .i64 x1.n]) rfl rfl rfl rfl rfl rfl ?_))
    rw [← Addr.add_zero' ((a3.add (i1.toNat * 4)))]
    refine Own.store (r := r_pqueue_item_stop) (x' := x1) (o := 0) (sz := 4) 1 rfl hO1 hA3 hx2 rfl rfl (by rintro _ rfl; rfl) fun ch2 hO2 => ?_
    have hn2 := hn1.trans (length_setI q1.heap i1 x1).symm
    refine ⟨Kept.ofT (keep := [[(g1, .cells #[.func (.func 77) #[] #[], .slice A1 n1 c1, .int .i64 q1.count] 138 (0, 0))]]) (A := [[(g1, .cells #[.func (.func 77) #[] #[], .slice A1 n1 c1, .int .i64 q1.count] 138 (0, 0))], ch2]) (by simp), ?_⟩
    refine P_none (PL_f rfl ?_)
    obtain ⟨a4, cs4, hA4, hr4, _, hc4⟩ := Rds.getI (Own.rds (L := ([(g1, .cells #[.func (.func 77) #[] #[], .slice A1 n1 c1, .int .i64 q1.count] 138 (0, 0))] :: ch2 :: L)) hO2 1 rfl) hx4
    obtain rfl := hr4
    refine O_read rfl (R_iaG rfl rfl rfl rfl rfl rfl ⟨(getI_lt hx4).1, lenN hn2 (getI_lt hx4).2.1⟩ hA4 ?_)
    refine ⟨Kept.ofT (keep := [[(g1, .cells #[.func (.func 77) #[] #[], .slice A1 n1 c1, .int .i64 q1.count] 138 (0, 0))]]) (A := [[(g1, .cells #[.func (.func 77) #[] #[], .slice A1 n1 c1, .int .i64 q1.count] 138 (0, 0))], ch2]) (by simp), ?_⟩
    refine P_some rfl (PL_f rfl (O_store (vs := [.int .i64 x2.value.node, .int .i64 x2.value.leg.Secs, .int .i64 x2.value.leg.Meters, .int .i64 x2.n]) rfl rfl rfl rfl rfl rfl ?_))
    rw [← Addr.add_zero' ((a4.add (k1.toNat * 4)))]
    refine Own.store (r := r_pqueue_item_stop) (x' := x2) (o := 0) (sz := 4) 1 rfl hO2 hA4 hx4 rfl rfl (by rintro _ rfl; rfl) fun ch3 hO3 => ?_
    have hn3 := hn2.trans (length_setI (setI q1.heap i1 x1) k1 x2).symm
    refine ⟨Kept.ofT (keep := [[(g1, .cells #[.func (.func 77) #[] #[], .slice A1 n1 c1, .int .i64 q1.count] 138 (0, 0))]]) (A := [[(g1, .cells #[.func (.func 77) #[] #[], .slice A1 n1 c1, .int .i64 q1.count] 138 (0, 0))], ch3]) (by simp), ?_⟩
    refine P_none (PL_nil (AN.done0 (by kernel_rfl) ?_))
    subst hn3
    have e_ := Option.some.inj h1348
    subst e_
    exact ⟨(setI (setI q1.heap i1 x1) k1 x2), A1, c1, ch3, rfl, SubFr.of trivial, SegSub.sel _ [some 0, some 1] 2, (hO3), rfl⟩
  rintro fr1348 μ1348 L1348 hm1348 ⟨f1, A2, c2, ch4, ho1348, hF1348, hS1348, hO4, hu1348⟩
  subst ho1348
  subst hu1348
  refine hK0_ _ _ _ (KEnd.at hF1348 hS1348 (KEnd.done ?_))
  have e_ := Option.some.inj h
  subst e_
  refine S_nil (Upd.seg (L2 := (((g1, Obj.cells #[.func (.func 77) #[] #[], .slice A2 f1.length c2, .int .i64 q1.count] 138 (0, 0)) :: (ch4 ++ [])) :: L)) (SegSub.trans (SegSub.flat (by simp [selS])) (SegSub.sel _ [some 0, some 1] 2)) ?_)
  exact Upd.done (hR ((g1, Obj.cells #[.func (.func 77) #[] #[], .slice A2 f1.length c2, .int .i64 q1.count] 138 (0, 0)) :: (ch4 ++ [])) (⟨g1, A2, c2, ch4, rfl, rfl, hO4⟩))

theorem pqueue_Queue_stop_Push_fn {μ : Gh} {L : List Seg} {R : Value → Gh → List Seg → Prop} {F : Nat} {q1 : T_pqueue_Queue_stop} {x1 : T_road_stop} {pv1 : Value} {so1 : Seg} {res1 : T_pqueue_Queue_stop}
    (hP1 : Obj_pqueue_Queue_stop μ pv1 q1 so1) (h : pqueue_Queue_stop_Push F q1 x1 = some res1)
    (hR : ∀ (sp0 : Seg), Obj_pqueue_Queue_stop μ pv1 res1 sp0 → R (.tuple #[]) μ (sp0 :: L)) :
    Fn Try.prog 79 [pv1, .agg #[.int .i64 x1.node, .int .i64 x1.leg.Secs, .int .i64 x1.leg.Meters]] μ (so1 :: L) R := by
  unfold pqueue_Queue_stop_Push at h
  refine Fn.of_body Tt_ok Try.func79 (by kernel_rfl) rfl Try.ntmps79 (by simp) ?_
  simp only [Try.f79, argFr, List.zipIdx, List.map, Nat.reduceAdd]
  refine WP.tail (fun K0_ hK0_ => WP.seq_k (fun K1482 hK1482 => WP.region Tt_ok (O_cons (O_box (cs := #[.int .i64 x1.node, .int .i64 x1.leg.Secs, .int .i64 x1.leg.Meters]) rfl rfl (fun g1 => Pn rfl (hK1482 _ _ _ (WP.seq_k (fun K1485 hK1485 => WP.seq_k (fun K1486 hK1486 => ?_)))))))))
  obtain ⟨g2, A1, c1, ch1, hv1, rfl, hO1⟩ := hP1
  subst hv1
  refine WP.seg (L2 := ([(g1, .cells #[.int .i64 x1.node, .int .i64 x1.leg.Secs, .int .i64 x1.leg.Meters] 129 (0, 0))] :: [(g2, .cells #[.func (.func 77) #[] #[], .slice A1 q1.heap.length c1, .int .i64 q1.count] 138 (0, 0))] :: ch1 :: L)) (SegSub.flat (by simp)) (Wr Tt_ok rfl (R_move rfl (Pc rfl rfl (R_eqP1 rfl rfl rfl rfl (Pn rfl (hK1486 _ _ _ (W_cond_f rfl (WP.skip (hK1485 _ _ _ (WP.seq_k (fun K1491 hK1491 => WP.drawB (id := 2) (l' := List.replicate 15 true ++ [false]) wide Tt_ok ([(g1, .cells #[.int .i64 x1.node, .int .i64 x1.leg.Secs, .int .i64 x1.leg.Meters] 129 (0, 0))] :: [(g2, .cells #[.func (.func 77) #[] #[], .slice A1 q1.heap.length c1, .int .i64 q1.count] 138 (0, 0))] :: L) (Kept.ofT (keep := [[(g1, .cells #[.int .i64 x1.node, .int .i64 x1.leg.Secs, .int .i64 x1.leg.Meters] 129 (0, 0))], [(g2, .cells #[.func (.func 77) #[] #[], .slice A1 q1.heap.length c1, .int .i64 q1.count] 138 (0, 0))]]) (A := [[(g1, .cells #[.int .i64 x1.node, .int .i64 x1.leg.Secs, .int .i64 x1.leg.Meters] 129 (0, 0))], [(g2, .cells #[.func (.func 77) #[] #[], .slice A1 q1.heap.length c1, .int .i64 q1.count] 138 (0, 0))], ch1]) (by simp)) 15 [(13, [14])] [(true, 0), (true, 1), (true, 2), (true, 3), (true, 4), (true, 5), (true, 6), (true, 7), (true, 8), (true, 9), (true, 10), (false, 11), (false, 12), (true, 13), (true, 14)] (by kernel_rfl) (by kernel_rfl) rfl (by kernel_rfl) (by kernel_rfl) ?_)))))))))))
  refine PL_t rfl (R_move rfl (Pt rfl rfl (R_move rfl (Pt rfl rfl (R_nilP rfl (Pt rfl rfl (R_fa0 (o' := 1) rfl rfl rfl rfl rfl rfl (Pt rfl rfl (R_load rfl rfl rfl (Ex.mk _ (Cell.seg 1 0 rfl rfl rfl) (Pt rfl rfl (R_loadA rfl rfl rfl rfl ?_))))))))))))
  refine LA_ (vs := [.int .i64 x1.node, .int .i64 x1.leg.Secs, .int .i64 x1.leg.Meters]) 0 0 rfl rfl rfl rfl (Pt rfl rfl (R_move rfl (Pt rfl rfl (R_nilP rfl (Pt rfl rfl (R_fa0 (o' := 2) rfl rfl rfl rfl rfl rfl (Pt rfl rfl (R_load rfl rfl rfl (Ex.mk _ (Cell.seg 1 0 rfl rfl rfl) (Pt rfl rfl (R_build rfl rfl rfl rfl (F_cons (cells' := [.int .i64 x1.node, .int .i64 x1.leg.Secs, .int .i64 x1.leg.Meters, .int .i64 0]) rfl rfl rfl rfl ?_))))))))))))
  refine F_cons (cells' := [.int .i64 x1.node, .int .i64 x1.leg.Secs, .int .i64 x1.leg.Meters, .int .i64 q1.count]) rfl rfl rfl rfl (F_nil (P_some rfl (PL_f rfl (O_bsl (z := [.int .i64 0, .int .i64 0, .int .i64 0, .int .i64 0]) rfl rfl rfl rfl rfl rfl rfl (F_cons (cells' := [.int .i64 x1.node, .int .i64 x1.leg.Secs, .int .i64 x1.leg.Meters, .int .i64 q1.count]) rfl rfl rfl rfl (F_nil (fun g3 => ?_)))))))
  refine ⟨Kept.ofT (keep := [[(g1, .cells #[.int .i64 x1.node, .int .i64 x1.leg.Secs, .int .i64 x1.leg.Meters] 129 (0, 0))], [(g2, .cells #[.func (.func 77) #[] #[], .slice A1 q1.heap.length c1, .int .i64 q1.count] 138 (0, 0))]]) (A := [[(g3, .cells #[.int .i64 x1.node, .int .i64 x1.leg.Secs, .int .i64 x1.leg.Meters, .int .i64 q1.count] 140 (0, 0))], [(g1, .cells #[.int .i64 x1.node, .int .i64 x1.leg.Secs, .int .i64 x1.leg.Meters] 129 (0, 0))], [(g2, .cells #[.func (.func 77) #[] #[], .slice A1 q1.heap.length c1, .int .i64 q1.count] 138 (0, 0))], ch1]) (by simp), ?_⟩
  refine P_some rfl (PL_f rfl (O_append rfl ?_))
  obtain ⟨l1, hz1, h⟩ := obind h
  refine sem_appR (r := r_pqueue_item_stop) Tt_ok rfl rfl rfl rfl (by decide) rfl rfl 3 rfl hO1 rfl (Own.rds (L := ([(g3, .cells #[.int .i64 x1.node, .int .i64 x1.leg.Secs, .int .i64 x1.leg.Meters, .int .i64 q1.count] 140 (0, 0))] :: [(g1, .cells #[.int .i64 x1.node, .int .i64 x1.leg.Secs, .int .i64 x1.leg.Meters] 129 (0, 0))] :: [(g2, .cells #[.func (.func 77) #[] #[], .slice A1 q1.heap.length c1, .int .i64 q1.count] 138 (0, 0))] :: ch1 :: L)) (Own.lit (r := r_pqueue_item_stop) (e := 140) (g := g3) (xs := [(T_pqueue_item_stop.mk x1 q1.count)]) (cs := [.int .i64 x1.node, .int .i64 x1.leg.Secs, .int .i64 x1.leg.Meters, .int .i64 q1.count]) (css := [[.int .i64 x1.node, .int .i64 x1.leg.Secs, .int .i64 x1.leg.Meters, .int .i64 q1.count]]) rfl (All2.cons (rfl) (All2.nil)) rfl rfl) 0 rfl) hz1 fun A2 c2 ch2 hO2 => ?_
  refine ⟨Kept.ofT (keep := [[(g1, .cells #[.int .i64 x1.node, .int .i64 x1.leg.Secs, .int .i64 x1.leg.Meters] 129 (0, 0))], [(g2, .cells #[.func (.func 77) #[] #[], .slice A1 q1.heap.length c1, .int .i64 q1.count] 138 (0, 0))]]) (A := [[(g3, .cells #[.int .i64 x1.node, .int .i64 x1.leg.Secs, .int .i64 x1.leg.Meters, .int .i64 q1.count] 140 (0, 0))], [(g1, .cells #[.int .i64 x1.node, .int .i64 x1.leg.Secs, .int .i64 x1.leg.Meters] 129 (0, 0))], [(g2, .cells #[.func (.func 77) #[] #[], .slice A1 q1.heap.length c1, .int .i64 q1.count] 138 (0, 0))], ch2]) (by simp), ?_⟩
  refine Pt rfl rfl (R_nilP rfl (Pt rfl rfl (R_fa0 (o' := 1) rfl rfl rfl rfl rfl rfl (P_some rfl (PL_nil (last_ rfl (O_store (vs := [.slice A2 l1.length c2]) rfl rfl rfl rfl rfl rfl (ST_ (L' := ([(g3, .cells #[.int .i64 x1.node, .int .i64 x1.leg.Secs, .int .i64 x1.leg.Meters, .int .i64 q1.count] 140 (0, 0))] :: [(g1, .cells #[.int .i64 x1.node, .int .i64 x1.leg.Secs, .int .i64 x1.leg.Meters] 129 (0, 0))] :: [(g2, .cells #[.func (.func 77) #[] #[], .slice A2 l1.length c2, .int .i64 q1.count] 138 (0, 0))] :: ch2 :: L)) 2 0 rfl rfl rfl rfl (P_none (hK1491 _ _ _ (WP.seq_k (fun K1533 hK1533 => Wr Tt_ok rfl (R_move rfl ?_)))))))))))))
  refine Pc rfl rfl (R_nilP rfl (Pc rfl rfl (R_fa0 (o' := 2) rfl rfl rfl rfl rfl rfl (Pc rfl rfl (R_load rfl rfl rfl (Ex.mk _ (Cell.seg 2 0 rfl rfl rfl) (Pc rfl rfl (R_add rfl rfl (P_some rfl ?_)))))))))
  refine O_cons (O_read rfl (R_nilP rfl (Pc rfl rfl (R_fa0 (o' := 2) rfl rfl rfl rfl rfl rfl (P_some rfl (O_cons (O_store (vs := [.int .i64 (w64 (q1.count + 1))]) rfl rfl rfl rfl rfl rfl (ST_ (L' := ([(g3, .cells #[.int .i64 x1.node, .int .i64 x1.leg.Secs, .int .i64 x1.leg.Meters, .int .i64 q1.count] 140 (0, 0))] :: [(g1, .cells #[.int .i64 x1.node, .int .i64 x1.leg.Secs, .int .i64 x1.leg.Meters] 129 (0, 0))] :: [(g2, .cells #[.func (.func 77) #[] #[], .slice A2 l1.length c2, .int .i64 (w64 (q1.count + 1))] 138 (0, 0))] :: ch2 :: L)) 2 0 rfl rfl rfl rfl (P_none (O_nil (hK1533 _ _ _ (WP.seq_k (fun K1535 hK1535 => Wr Tt_ok rfl ?_)))))))))))))
  refine R_move rfl (Pc rfl rfl (R_nilP rfl (Pc rfl rfl (R_fa0 (o' := 1) rfl rfl rfl rfl rfl rfl (Pc rfl rfl (R_load rfl rfl rfl (Ex.mk _ (Cell.seg 2 0 rfl rfl rfl) (Pc rfl rfl (R_lenS rfl rfl rfl ?_)))))))))
  refine Pc rfl rfl (R_sub rfl rfl (Pc rfl rfl (R_assign rfl (Pn rfl (hK1535 _ _ _ ?_)))))
  have hP2 : Obj_pqueue_Queue_stop μ (.pointer (some ⟨g2, 0, none⟩)) (T_pqueue_Queue_stop.mk l1 (w64 (q1.count + 1))) ((g2, Obj.cells #[.func (.func 77) #[] #[], .slice A2 l1.length c2, .int .i64 (w64 (q1.count + 1))] 138 (0, 0)) :: (ch2 ++ [])) := ⟨g2, A2, c2, ch2, rfl, rfl, hO2⟩
  refine WP.seg (L2 := (((g2, Obj.cells #[.func (.func 77) #[] #[], .slice A2 l1.length c2, .int .i64 (w64 (q1.count + 1))] 138 (0, 0)) :: (ch2 ++ [])) :: [(g3, .cells #[.int .i64 x1.node, .int .i64 x1.leg.Secs, .int .i64 x1.leg.Meters, .int .i64 q1.count] 140 (0, 0))] :: [(g1, .cells #[.int .i64 x1.node, .int .i64 x1.leg.Secs, .int .i64 x1.leg.Meters] 129 (0, 0))] :: L)) (SegSub.trans (SegSub.flat (by simp [selS])) (SegSub.sel _ [some 2, some 3, some 0, some 1] 4)) ?_
  obtain ⟨o1538, h1538, h⟩ := obind h
  refine WP.cutK (fun fr_ μ_ L_ => ∃ (q3 : T_pqueue_Queue_stop) (so4 : Seg), (.inl q3) = o1538 ∧ SubFr [] fr_ ∧ SegSub (so4 :: L) L_ ∧ Obj_pqueue_Queue_stop μ_ (.pointer (some ⟨g2, 0, none⟩)) q3 so4 ∧ μ = μ_) ?_ ?_
  · refine WP.block (WP.iter h1538 (fun (j_ : T_pqueue_Queue_stop × Int) fr_ μ_ L_ => ounP j_ fun q2 i1 => ∃ (so2 : Seg), SubFr [(0, .pointer (some ⟨g2, 0, none⟩)), (4, .int .i64 i1)] fr_ ∧ SegSub (so2 :: L) L_ ∧ Obj_pqueue_Queue_stop μ_ (.pointer (some ⟨g2, 0, none⟩)) q2 so2 ∧ μ = μ_) ⟨((g2, Obj.cells #[.func (.func 77) #[] #[], .slice A2 l1.length c2, .int .i64 (w64 (q1.count + 1))] 138 (0, 0)) :: (ch2 ++ [])), SubFr.of ⟨rfl, rfl, trivial⟩, SegSub.sel _ [some 0] 3, (hP2), rfl⟩ ?_)
    rintro ⟨q2, i1⟩ q1549 fr1549 μ1549 L1549 hm1549 ⟨so2, hF1549, hS1549, hP3, hu1549⟩ hb1549 hq1549
    unfold pqueue_Queue_stop_Push_l1 at hb1549
    replace hb1549 := oun_mk hb1549
    subst hu1549
    refine WP.at hF1549 hS1549 (WP.seq_k (fun K1553 hK1553 => WP.seq_k (fun K1554 hK1554 => Wr Tt_ok rfl (R_move rfl (Pc rfl rfl (R_gtrD rfl rfl (Pn rfl (hK1554 _ _ _ ?_))))))))
    refine W_cond_v (b := (decide (0 < i1))) rfl (fun hc1 => ?_) (fun hc1 => ?_)
    · replace hb1549 := cond_t hc1 hb1549
      refine WP.skip (hK1553 _ _ _ (WP.block (WP.seq_k (fun K1555 hK1555 => Wr Tt_ok rfl (R_move rfl (Pc rfl rfl (R_sub rfl rfl (Pc rfl rfl (R_quo rfl rfl ?_)))))))))
      refine ⟨by decide, ?_⟩
      refine Pc rfl rfl (R_assign rfl (Pn rfl (hK1555 _ _ _ (WP.seq_k (fun K1556 hK1556 => WP.seq_k (fun K1557 hK1557 => Wr Tt_ok rfl (R_move rfl (Pc rfl rfl (R_move rfl (P_some rfl ?_))))))))))
      refine O_cons (O_read rfl (R_move rfl (P_some rfl (O_cons (O_call (all := [.pointer (some ⟨g2, 0, none⟩), .int .i64 i1, .int .i64 (w64 (Int.tdiv (w64 (i1 - 1)) 2))]) rfl rfl rfl ?_)))))
      obtain ⟨r1, hx1, hb1549⟩ := obind hb1549
      refine pqueue_Queue_stop_before_fn hP3 hx1 ((Pc rfl rfl (R_not rfl (Pn rfl (hK1557 _ _ _ ?_)))))
      refine W_cond_v (b := !r1) rfl (fun hc2 => ?_) (fun hc2 => ?_)
      · replace hb1549 := cond_t hc2 hb1549
        apply WP.ret
        have e_ := Option.some.inj hb1549
        subst e_
        have hq_ := hq1549 _ rfl
        subst hq_
        replace h := osum_r h
        have e_ := Option.some.inj h
        subst e_
        refine S_nil (Upd.selS [some 0] 1 ?_)
        exact Upd.done (hR so2 (hP3))
      replace hb1549 := cond_f hc2 hb1549
      refine WP.skip (hK1556 _ _ _ (WP.seq_k (fun K1558 hK1558 => Wr Tt_ok rfl (R_move rfl (Pc rfl rfl (R_move rfl (Pc rfl rfl (R_move rfl (P_some rfl (O_cons (O_call (all := [.pointer (some ⟨g2, 0, none⟩), .int .i64 i1, .int .i64 (w64 (Int.tdiv (w64 (i1 - 1)) 2))]) rfl rfl rfl ?_)))))))))))
      obtain ⟨r2, hx2, hb1549⟩ := obind hb1549
      refine pqueue_Queue_stop_swap_fn hP3 hx2 (fun so3 hP4 => Pn rfl (hK1558 _ _ _ (Wr Tt_ok rfl (R_move rfl (Pc rfl rfl (R_assign rfl (Pn rfl ?_)))))))
      have e_ := Option.some.inj hb1549
      subst e_
      exact ⟨_, rfl, so3, SubFr.of ⟨rfl, rfl, trivial⟩, SegSub.sel _ [some 0] 1, (hP4), rfl⟩
    replace hb1549 := cond_f hc1 hb1549
    refine WP.exit (B_here ?_)
    have e_ := Option.some.inj hb1549
    subst e_
    have hq_ := hq1549 _ rfl
    subst hq_
    exact ⟨q2, so2, rfl, SubFr.of trivial, SegSub.sel _ [some 0] 1, (hP3), rfl⟩
  rintro fr1538 μ1538 L1538 hm1538 ⟨q3, so4, ho1538, hF1538, hS1538, hP5, hu1538⟩
  subst ho1538
  replace h := osum_l h
  subst hu1538
  refine hK0_ _ _ _ (KEnd.at hF1538 hS1538 (KEnd.done ?_))
  have e_ := Option.some.inj h
  subst e_
  refine S_nil (Upd.selS [some 0] 1 ?_)
  exact Upd.done (hR so4 (hP5))

theorem pqueue_Queue_stop_Len_fn {μ : Gh} {L : List Seg} {R : Value → Gh → List Seg → Prop}  {q1 : T_pqueue_Queue_stop} {pv1 : Value} {so1 : Seg} {res1 : Int}
    (hP1 : Obj_pqueue_Queue_stop μ pv1 q1 so1) (h : pqueue_Queue_stop_Len q1 = some res1)
    (hR : R (.int .i64 res1) μ (so1 :: L)) :
    Fn Try.prog 86 [pv1] μ (so1 :: L) R := by
  unfold pqueue_Queue_stop_Len at h
  refine Fn.of_body Tt_ok Try.func86 (by kernel_rfl) rfl Try.ntmps86 (by simp) ?_
  simp only [Try.f86, argFr, List.zipIdx, List.map, Nat.reduceAdd]
  refine WP.seq_k (fun K1586 hK1586 => Wr Tt_ok rfl (R_assign rfl (Pn rfl (hK1586 _ _ _ (WP.seq_k (fun K1587 hK1587 => WP.seq_k (fun K1588 hK1588 => ?_)))))))
  obtain ⟨g1, A1, c1, ch1, hv1, rfl, hO1⟩ := hP1
  subst hv1
  refine WP.seg (L2 := ([(g1, .cells #[.func (.func 77) #[] #[], .slice A1 q1.heap.length c1, .int .i64 q1.count] 138 (0, 0))] :: ch1 :: L)) (SegSub.flat (by simp)) (Wr Tt_ok rfl (R_move rfl (Pc rfl rfl (R_eqP1 rfl rfl rfl rfl (Pn rfl (hK1588 _ _ _ (W_cond_f rfl (WP.skip (hK1587 _ _ _ (WP.seq_k (fun K1592 hK1592 => WP.region Tt_ok (O_cons ?_))))))))))))
  refine O_read rfl (R_move rfl (Pc rfl rfl (R_nilP rfl (Pc rfl rfl (R_fa0 (o' := 1) rfl rfl rfl rfl rfl rfl (Pc rfl rfl (R_load rfl rfl rfl (Ex.mk _ (Cell.seg 0 0 rfl rfl rfl) (Pc rfl rfl ?_)))))))))
  refine R_lenS rfl rfl rfl (Pc rfl rfl (R_assign rfl (Pn rfl (hK1592 _ _ _ (WP.ret ?_)))))
  have e_ := Option.some.inj h
  subst e_
  refine S_tmp rfl (S_nil (Upd.seg (L2 := (((g1, Obj.cells #[.func (.func 77) #[] #[], .slice A1 q1.heap.length c1, .int .i64 q1.count] 138 (0, 0)) :: (ch1 ++ [])) :: L)) (SegSub.trans (SegSub.flat (by simp [selS])) (SegSub.sel _ [some 0, some 1] 2)) ?_))
  exact Upd.done hR

theorem pqueue_Queue_stop_Peek_fn {μ : Gh} {L : List Seg} {R : Value → Gh → List Seg → Prop}  {q1 : T_pqueue_Queue_stop} {pv1 : Value} {so1 : Seg} {res1 : T_road_stop} {res2 : Bool}
    (hP1 : Obj_pqueue_Queue_stop μ pv1 q1 so1) (h : pqueue_Queue_stop_Peek q1 = some (res1, res2))
    (hR : R (.tuple #[.agg #[.int .i64 res1.node, .int .i64 res1.leg.Secs, .int .i64 res1.leg.Meters], .bool res2]) μ (so1 :: L)) :
    Fn Try.prog 84 [pv1] μ (so1 :: L) R := by
  unfold pqueue_Queue_stop_Peek at h
  refine Fn.of_body Tt_ok Try.func84 (by kernel_rfl) rfl Try.ntmps84 (by simp) ?_
  simp only [Try.f84, argFr, List.zipIdx, List.map, Nat.reduceAdd]
  refine WP.seq_k (fun K1580 hK1580 => WP.region Tt_ok (O_cons (O_alloc (cs := #[.int .i64 0, .int .i64 0, .int .i64 0]) rfl rfl (fun g1 => Pc rfl rfl (R_assign rfl (Pn rfl (hK1580 _ _ _ (WP.seq_k (fun K1583 hK1583 => WP.seq_k (fun K1584 hK1584 => Wr Tt_ok rfl (R_move rfl (P_some rfl ?_))))))))))))
  refine O_cons (O_call (all := [pv1]) rfl rfl rfl (Fn.seg (L2 := (so1 :: [(g1, .cells #[.int .i64 0, .int .i64 0, .int .i64 0] 129 (0, 0))] :: L)) (SegSub.sel _ [some 1, some 0] 2) ?_))
  obtain ⟨r1, hx1, h⟩ := obind h
  refine pqueue_Queue_stop_Len_fn hP1 hx1 ((Pc rfl rfl (R_eqlD rfl rfl (Pn rfl (hK1584 _ _ _ ?_)))))
  refine W_cond_v (b := (decide (r1 = 0))) rfl (fun hc1 => ?_) (fun hc1 => ?_)
  · replace h := cond_t hc1 h
    refine WP.seq_k (fun K1595 hK1595 => WP.region Tt_ok (O_cons (O_alloc (cs := #[.int .i64 0, .int .i64 0, .int .i64 0]) rfl rfl (fun g2 => Pn rfl (hK1595 _ _ _ (WP.seq_k (fun K1598 hK1598 => Wr Tt_ok rfl (R_loadA rfl rfl rfl rfl (LA_ (vs := [.int .i64 0, .int .i64 0, .int .i64 0]) 0 0 rfl rfl rfl rfl (P_some rfl (O_cons (O_store (vs := [.int .i64 0, .int .i64 0, .int .i64 0]) rfl rfl rfl rfl rfl rfl (ST_ (L' := ([(g2, .cells #[.int .i64 0, .int .i64 0, .int .i64 0] 129 (0, 0))] :: so1 :: [(g1, .cells #[.int .i64 0, .int .i64 0, .int .i64 0] 129 (0, 0))] :: L)) 2 0 rfl rfl rfl rfl (P_none ?_))))))))))))))
    refine O_cons (O_read rfl (R_assign rfl (Pn rfl (hK1598 _ _ _ (WP.ret ?_)))))
    have e_ := Option.some.inj h
    obtain ⟨e0a_, e0b_⟩ := Prod.mk.inj e_
    clear e_
    subst e0a_
    subst e0b_
    refine S_cell rfl rfl rfl rfl (LA_ (vs := [.int .i64 0, .int .i64 0, .int .i64 0]) 2 0 rfl rfl rfl rfl (S_tmp rfl (S_nil (Upd.selS [some 1] 3 ?_))))
    exact Upd.done hR
  replace h := cond_f hc1 h
  refine WP.skip (hK1583 _ _ _ (WP.seq_k (fun K1601 hK1601 => ?_)))
  obtain ⟨g3, A1, c1, ch1, hv1, rfl, hO1⟩ := hP1
  subst hv1
  refine WP.seg (L2 := ([(g3, .cells #[.func (.func 77) #[] #[], .slice A1 q1.heap.length c1, .int .i64 q1.count] 138 (0, 0))] :: ch1 :: [(g1, .cells #[.int .i64 0, .int .i64 0, .int .i64 0] 129 (0, 0))] :: L)) (SegSub.flat (by simp)) (Wr Tt_ok rfl (R_move rfl (Pc rfl rfl (R_nilP rfl (Pc rfl rfl (R_fa0 (o' := 1) rfl rfl rfl rfl rfl rfl (Pc rfl rfl (R_load rfl rfl rfl (Ex.mk _ (Cell.seg 0 0 rfl rfl rfl) ?_)))))))))
  refine P_some rfl (O_cons ?_)
  obtain ⟨x1, hx2, h⟩ := obind h
  obtain ⟨a1, cs1, hA1, hr1, _, hc2⟩ := Rds.getI (Own.rds (L := ([(g3, .cells #[.func (.func 77) #[] #[], .slice A1 q1.heap.length c1, .int .i64 q1.count] 138 (0, 0))] :: ch1 :: [(g1, .cells #[.int .i64 0, .int .i64 0, .int .i64 0] 129 (0, 0))] :: L)) hO1 1 rfl) hx2
  obtain rfl := hr1
  refine O_read rfl (R_iaG rfl rfl rfl rfl rfl rfl ⟨(getI_lt hx2).1, (getI_lt hx2).2.1⟩ hA1 (Pc rfl rfl (R_faz rfl rfl rfl rfl rfl (Pc rfl rfl (R_loadA rfl rfl rfl rfl (Ex.mk [.int .i64 x1.value.node, .int .i64 x1.value.leg.Secs, .int .i64 x1.value.leg.Meters] ⟨rfl, Cells.sub hc2 0 rfl⟩ (P_some rfl (O_cons (O_store (vs := [.int .i64 x1.value.node, .int .i64 x1.value.leg.Secs, .int .i64 x1.value.leg.Meters]) rfl rfl rfl rfl rfl rfl (ST_ (L' := ([(g3, .cells #[.func (.func 77) #[] #[], .slice A1 q1.heap.length c1, .int .i64 q1.count] 138 (0, 0))] :: ch1 :: [(g1, .cells #[.int .i64 x1.value.node, .int .i64 x1.value.leg.Secs, .int .i64 x1.value.leg.Meters] 129 (0, 0))] :: L)) 2 0 rfl rfl rfl rfl (P_none (O_cons (O_read rfl ?_)))))))))))))
  refine R_assign rfl (Pn rfl (hK1601 _ _ _ (WP.ret ?_)))
  have e_ := Option.some.inj h
  obtain ⟨e0a_, e0b_⟩ := Prod.mk.inj e_
  clear e_
  subst e0a_
  subst e0b_
  refine S_cell rfl rfl rfl rfl (LA_ (vs := [.int .i64 x1.value.node, .int .i64 x1.value.leg.Secs, .int .i64 x1.value.leg.Meters]) 2 0 rfl rfl rfl rfl (S_tmp rfl (S_nil (Upd.seg (L2 := (((g3, Obj.cells #[.func (.func 77) #[] #[], .slice A1 q1.heap.length c1, .int .i64 q1.count] 138 (0, 0)) :: (ch1 ++ [])) :: L)) (SegSub.trans (SegSub.flat (by simp [selS])) (SegSub.sel _ [some 0, some 1] 3)) ?_))))
  exact Upd.done hR

theorem pqueue_Queue_stop_sink_fn {μ : Gh} {L : List Seg} {R : Value → Gh → List Seg → Prop} {F : Nat} {q1 : T_pqueue_Queue_stop} {pv1 : Value} {so1 : Seg} {res1 : T_pqueue_Queue_stop}
    (hP1 : Obj_pqueue_Queue_stop μ pv1 q1 so1) (h : pqueue_Queue_stop_sink F q1 = some res1)
    (hR : ∀ (sp0 : Seg), Obj_pqueue_Queue_stop μ pv1 res1 sp0 → R (.tuple #[]) μ (sp0 :: L)) :
    Fn Try.prog 85 [pv1] μ (so1 :: L) R := by
  unfold pqueue_Queue_stop_sink at h
  refine Fn.of_body Tt_ok Try.func85 (by kernel_rfl) rfl Try.ntmps85 (by simp) ?_
  simp only [Try.f85, argFr, List.zipIdx, List.map, Nat.reduceAdd]
  refine WP.tail (fun K0_ hK0_ => WP.seq_k (fun K1809 hK1809 => Wr Tt_ok rfl (R_assign rfl (Pn rfl (hK1809 _ _ _ ?_)))))
  obtain ⟨g1, A1, c1, ch1, hv1, rfl, hO1⟩ := hP1
  subst hv1
  refine WP.seg (L2 := ([(g1, .cells #[.func (.func 77) #[] #[], .slice A1 q1.heap.length c1, .int .i64 q1.count] 138 (0, 0))] :: ch1 :: L)) (SegSub.flat (by simp)) ?_
  obtain ⟨o1813, h1813, h⟩ := obind h
  refine WP.cutK (fun _ _ _ => False) ?_ ?_
  · refine WP.block (WP.iter h1813 (fun (j_ : (List T_pqueue_item_stop) × Int × Int) fr_ μ_ L_ => ounP j_ fun f1 j_ => ounP j_ fun f2 i1 => ∃ (A2 : Option Addr) (c2 : Nat) (ch2 : Seg), SubFr [(0, .pointer (some ⟨g1, 0, none⟩)), (2, .int .i64 i1)] fr_ ∧ SegSub ([(g1, .cells #[.func (.func 77) #[] #[], .slice A2 f1.length c2, .int .i64 f2] 138 (0, 0))] :: ch2 :: L) L_ ∧ Own r_pqueue_item_stop 140 μ_ (.slice A2 f1.length c2) f1 ch2 ∧ μ = μ_) ⟨A1, c1, ch1, SubFr.of ⟨rfl, rfl, trivial⟩, SegSub.sel _ [some 0, some 1] 2, (hO1), rfl⟩ ?_)
    rintro ⟨f1, f2, i1⟩ q1901 fr1901 μ1901 L1901 hm1901 ⟨A2, c2, ch2, hF1901, hS1901, hO2, hu1901⟩ hb1901 hq1901
    unfold pqueue_Queue_stop_sink_l2 at hb1901
    replace hb1901 := oun_mk hb1901
    replace hb1901 := oun_mk hb1901
    subst hu1901
    refine WP.at hF1901 hS1901 (WP.block (WP.seq_k (fun K1906 hK1906 => Wr Tt_ok rfl (R_move rfl (Pc rfl rfl (R_assign rfl (Pn rfl (hK1906 _ _ _ (WP.seq_k (fun K1907 hK1907 => WP.seq_k (fun K1908 hK1908 => WP.region Tt_ok (O_cons ?_))))))))))))
    refine O_read rfl (R_move rfl (Pc rfl rfl (R_mul rfl rfl (Pc rfl rfl (R_add rfl rfl (Pc rfl rfl (R_assign rfl (Pn rfl (hK1908 _ _ _ ?_)))))))))
    obtain ⟨o1909, h1909, hb1901⟩ := obind hb1901
    refine WP.cutK (fun fr_ μ_ L_ => ∃ (f6 : (List T_pqueue_item_stop)) (f7 : Int) (next3 : Int) (A7 : Option Addr) (c7 : Nat) (ch7 : Seg), (f6, f7, next3) = o1909 ∧ SubFr [(0, .pointer (some ⟨g1, 0, none⟩)), (2, .int .i64 i1), (3, .int .i64 next3)] fr_ ∧ SegSub ([(g1, .cells #[.func (.func 77) #[] #[], .slice A7 f6.length c7, .int .i64 f7] 138 (0, 0))] :: ch7 :: L) L_ ∧ Own r_pqueue_item_stop 140 μ_ (.slice A7 f6.length c7) f6 ch7 ∧ μ = μ_) ?_ ?_
    · refine WP.block (WP.iter h1909 (fun (j_ : (List T_pqueue_item_stop) × Int × Int × Int) fr_ μ_ L_ => ounP j_ fun f3 j_ => ounP j_ fun f4 j_ => ounP j_ fun next1 k1 => ∃ (A3 : Option Addr) (c3 : Nat) (ch3 : Seg), SubFr [(0, .pointer (some ⟨g1, 0, none⟩)), (2, .int .i64 i1), (3, .int .i64 next1), (4, .int .i64 k1)] fr_ ∧ SegSub ([(g1, .cells #[.func (.func 77) #[] #[], .slice A3 f3.length c3, .int .i64 f4] 138 (0, 0))] :: ch3 :: L) L_ ∧ Own r_pqueue_item_stop 140 μ_ (.slice A3 f3.length c3) f3 ch3 ∧ μ = μ_) ⟨A2, c2, ch2, SubFr.of ⟨rfl, rfl, rfl, rfl, trivial⟩, SegSub.sel _ [some 0, some 1] 2, (hO2), rfl⟩ ?_)
      rintro ⟨f3, f4, next1, k1⟩ q1932 fr1932 μ1932 L1932 hm1932 ⟨A3, c3, ch3, hF1932, hS1932, hO3, hu1932⟩ hb1932 hq1932
      unfold pqueue_Queue_stop_sink_l1 at hb1932
      replace hb1932 := oun_mk hb1932
      replace hb1932 := oun_mk hb1932
      replace hb1932 := oun_mk hb1932
      subst hu1932
      refine WP.at hF1932 hS1932 (WP.seq_k (fun K1937 hK1937 => WP.seq_k (fun K1938 hK1938 => ?_)))
      obtain ⟨o1939, h1939, hb1932⟩ := obind hb1932
      refine WP.cutK (fun fr_ μ_ L_ => ∃ (v1 : Bool), v1 = o1939 ∧ SubFr [(0, .pointer (some ⟨g1, 0, none⟩)), (2, .int .i64 i1), (3, .int .i64 next1), (4, .int .i64 k1), (22, .bool v1)] fr_ ∧ SegSub ([(g1, .cells #[.func (.func 77) #[] #[], .slice A3 f3.length c3, .int .i64 f4] 138 (0, 0))] :: ch3 :: L) L_ ∧ μ = μ_) ?_ ?_
      · refine Wr Tt_ok rfl (R_move rfl (Pc rfl rfl (R_move rfl (Pc rfl rfl (R_mul rfl rfl (Pc rfl rfl (R_add rfl rfl (P_some rfl (O_cons ?_)))))))))
        refine O_read rfl (R_leqD rfl rfl (Pc rfl rfl (R_move rfl (P_some rfl ?_))))
        refine O_gv (z := (decide (k1 ≤ (w64 ((w64 (2 * i1)) + 2))))) rfl rfl (fun hc1 => ?_) (fun hc1 => ?_)
        · replace h1939 := cond_t hc1 h1939
          refine O_read rfl (R_move rfl (P_some rfl (O_gY rfl rfl hc1 (O_read rfl (R_move rfl (P_some rfl (O_gY rfl rfl hc1 (O_read rfl (R_nilP rfl (P_some rfl (O_gY rfl rfl hc1 (O_read rfl (R_fa0 (o' := 1) rfl rfl rfl rfl rfl rfl (P_some rfl (O_gY rfl rfl hc1 (O_read rfl (R_load rfl rfl rfl ?_)))))))))))))))))
          refine Ex.mk _ (Cell.seg 0 0 rfl rfl rfl) (P_some rfl (O_gY rfl rfl hc1 (O_read rfl (R_lenS rfl rfl rfl (P_some rfl (O_gY rfl rfl hc1 (O_read rfl (R_lssD rfl rfl (Pc rfl rfl (R_pick_T rfl hc1 rfl (Pn rfl ?_)))))))))))
          have e_ := Option.some.inj h1939
          subst e_
          exact ⟨(decide (k1 < ((f3.length : Nat) : Int))), rfl, SubFr.of ⟨rfl, rfl, rfl, rfl, rfl, trivial⟩, SegSub.sel _ [some 0, some 1] 2, rfl⟩
        replace h1939 := cond_f hc1 h1939
        refine P_some rfl (O_gN rfl rfl hc1 (P_some rfl (O_gN rfl rfl hc1 (P_some rfl (O_gN rfl rfl hc1 (P_some rfl (O_gN rfl rfl hc1 (P_some rfl (O_gN rfl rfl hc1 (P_some rfl (O_gN rfl rfl hc1 (Pc rfl rfl (R_pick_F rfl hc1 rfl (Pn rfl ?_))))))))))))))
        have e_ := Option.some.inj h1939
        subst e_
        exact ⟨false, rfl, SubFr.of ⟨rfl, rfl, rfl, rfl, rfl, trivial⟩, SegSub.sel _ [some 0, some 1] 2, rfl⟩
      rintro fr1939 μ1939 L1939 hm1939 ⟨v1, ho1939, hF1939, hS1939, hu1939⟩
      subst ho1939
      subst hu1939
      refine hK1938 _ _ _ (WP.at hF1939 hS1939 ?_)
      refine W_cond_v (b := v1) rfl (fun hc2 => ?_) (fun hc2 => ?_)
      · replace hb1932 := cond_t hc2 hb1932
        refine WP.skip (hK1937 _ _ _ (WP.seq_k (fun K1942 hK1942 => ?_)))
        obtain ⟨o1943, h1943, hb1932⟩ := obind hb1932
        refine WP.cutK (fun fr_ μ_ L_ => ∃ (f5 : (List T_pqueue_item_stop)) (next2 : Int) (A6 : Option Addr) (c6 : Nat) (ch6 : Seg), (f5, next2) = o1943 ∧ SubFr [(0, .pointer (some ⟨g1, 0, none⟩)), (2, .int .i64 i1), (3, .int .i64 next2), (4, .int .i64 k1)] fr_ ∧ SegSub ([(g1, .cells #[.func (.func 77) #[] #[], .slice A6 f5.length c6, .int .i64 ((T_pqueue_Queue_stop.mk f3 f4).count)] 138 (0, 0))] :: ch6 :: L) L_ ∧ Own r_pqueue_item_stop 140 μ_ (.slice A6 f5.length c6) f5 ch6 ∧ μ = μ_) ?_ ?_
        · refine WP.block (WP.seq_k (fun K1944 hK1944 => Wr Tt_ok rfl (R_move rfl (Pc rfl rfl (R_move rfl (Pc rfl rfl (R_move rfl (P_some rfl (O_cons (O_call (all := [.pointer (some ⟨g1, 0, none⟩), .int .i64 k1, .int .i64 next1]) rfl rfl rfl ?_))))))))))
          have hP2 : Obj_pqueue_Queue_stop μ (.pointer (some ⟨g1, 0, none⟩)) (T_pqueue_Queue_stop.mk f3 f4) ((g1, Obj.cells #[.func (.func 77) #[] #[], .slice A3 f3.length c3, .int .i64 f4] 138 (0, 0)) :: (ch3 ++ [])) := ⟨g1, A3, c3, ch3, rfl, rfl, hO3⟩
          refine Fn.seg (L2 := (((g1, Obj.cells #[.func (.func 77) #[] #[], .slice A3 f3.length c3, .int .i64 f4] 138 (0, 0)) :: (ch3 ++ [])) :: L)) (SegSub.trans (SegSub.flat (by simp [selS])) (SegSub.sel _ [some 0, some 1] 2)) ?_
          obtain ⟨r1, hx1, h1943⟩ := obind h1943
          refine pqueue_Queue_stop_before_fn hP2 hx1 ((Pn rfl (hK1944 _ _ _ ?_)))
          refine W_cond_v (b := r1) rfl (fun hc3 => ?_) (fun hc3 => ?_)
          · replace h1943 := cond_t hc3 h1943
            refine Wr Tt_ok rfl (R_move rfl (Pc rfl rfl (R_assign rfl (Pn rfl ?_))))
            obtain ⟨g2, A4, c4, ch4, hv2, hs1, hO4⟩ := hP2
            rw [hs1]
            replace hv2 := ptr_inj hv2
            subst hv2
            have e_ := Option.some.inj h1943
            subst e_
            exact ⟨(T_pqueue_Queue_stop.mk f3 f4).heap, k1, A4, c4, ch4, rfl, SubFr.of ⟨rfl, rfl, rfl, rfl, trivial⟩, SegSub.trans (M := ([(g1, .cells #[.func (.func 77) #[] #[], .slice A4 (((T_pqueue_Queue_stop.mk f3 f4).heap).length) c4, .int .i64 ((T_pqueue_Queue_stop.mk f3 f4).count)] 138 (0, 0))] :: ch4 :: L)) (SegSub.sel _ [some 0, some 1] 2) (SegSub.flat (by simp)), (hO4), rfl⟩
          replace h1943 := cond_f hc3 h1943
          apply WP.skip
          obtain ⟨g3, A5, c5, ch5, hv3, hs2, hO5⟩ := hP2
          rw [hs2]
          replace hv3 := ptr_inj hv3
          subst hv3
          have e_ := Option.some.inj h1943
          subst e_
          exact ⟨(T_pqueue_Queue_stop.mk f3 f4).heap, next1, A5, c5, ch5, rfl, SubFr.of ⟨rfl, rfl, rfl, rfl, trivial⟩, SegSub.trans (M := ([(g1, .cells #[.func (.func 77) #[] #[], .slice A5 (((T_pqueue_Queue_stop.mk f3 f4).heap).length) c5, .int .i64 ((T_pqueue_Queue_stop.mk f3 f4).count)] 138 (0, 0))] :: ch5 :: L)) (SegSub.sel _ [some 0, some 1] 2) (SegSub.flat (by simp)), (hO5), rfl⟩
        rintro fr1943 μ1943 L1943 hm1943 ⟨f5, next2, A6, c6, ch6, ho1943, hF1943, hS1943, hO6, hu1943⟩
        subst ho1943
        replace hb1932 := oun_mk hb1932
        subst hu1943
        refine hK1942 _ _ _ (WP.at hF1943 hS1943 (Wr Tt_ok rfl (R_move rfl (Pc rfl rfl (R_add rfl rfl (Pc rfl rfl (R_assign rfl (Pn rfl ?_))))))))
        have e_ := Option.some.inj hb1932
        subst e_
        exact ⟨_, rfl, A6, c6, ch6, SubFr.of ⟨rfl, rfl, rfl, rfl, trivial⟩, SegSub.sel _ [some 0, some 1] 2, (hO6), rfl⟩
      replace hb1932 := cond_f hc2 hb1932
      refine WP.exit (B_here ?_)
      have e_ := Option.some.inj hb1932
      subst e_
      have hq_ := hq1932 _ rfl
      subst hq_
      exact ⟨f3, f4, next1, A3, c3, ch3, rfl, SubFr.of ⟨rfl, rfl, rfl, trivial⟩, SegSub.sel _ [some 0, some 1] 2, (hO3), rfl⟩
    rintro fr1909 μ1909 L1909 hm1909 ⟨f6, f7, next3, A7, c7, ch7, ho1909, hF1909, hS1909, hO7, hu1909⟩
    subst ho1909
    replace hb1901 := oun_mk hb1901
    replace hb1901 := oun_mk hb1901
    subst hu1909
    refine hK1907 _ _ _ (WP.at hF1909 hS1909 (WP.seq_k (fun K1958 hK1958 => WP.seq_k (fun K1959 hK1959 => Wr Tt_ok rfl (R_move rfl (Pc rfl rfl (R_move rfl (Pc rfl rfl (R_eqlD rfl rfl (Pn rfl ?_))))))))))
    refine hK1959 _ _ _ ?_
    refine W_cond_v (b := (decide (next3 = i1))) rfl (fun hc4 => ?_) (fun hc4 => ?_)
    · replace hb1901 := cond_t hc4 hb1901
      apply WP.ret
      have e_ := Option.some.inj hb1901
      subst e_
      have hq_ := hq1901 _ rfl
      subst hq_
      have e_ := Option.some.inj h
      subst e_
      refine S_nil (Upd.seg (L2 := (((g1, Obj.cells #[.func (.func 77) #[] #[], .slice A7 f6.length c7, .int .i64 f7] 138 (0, 0)) :: (ch7 ++ [])) :: L)) (SegSub.trans (SegSub.flat (by simp [selS])) (SegSub.sel _ [some 0, some 1] 2)) ?_)
      exact Upd.done (hR ((g1, Obj.cells #[.func (.func 77) #[] #[], .slice A7 f6.length c7, .int .i64 f7] 138 (0, 0)) :: (ch7 ++ [])) (⟨g1, A7, c7, ch7, rfl, rfl, hO7⟩))
    replace hb1901 := cond_f hc4 hb1901
    refine WP.skip (hK1958 _ _ _ (WP.seq_k (fun K1960 hK1960 => Wr Tt_ok rfl (R_move rfl (Pc rfl rfl (R_move rfl (Pc rfl rfl (R_move rfl (P_some rfl (O_cons (O_call (all := [.pointer (some ⟨g1, 0, none⟩), .int .i64 i1, .int .i64 next3]) rfl rfl rfl ?_)))))))))))
    have hP3 : Obj_pqueue_Queue_stop μ (.pointer (some ⟨g1, 0, none⟩)) (T_pqueue_Queue_stop.mk f6 f7) ((g1, Obj.cells #[.func (.func 77) #[] #[], .slice A7 f6.length c7, .int .i64 f7] 138 (0, 0)) :: (ch7 ++ [])) := ⟨g1, A7, c7, ch7, rfl, rfl, hO7⟩
    refine Fn.seg (L2 := (((g1, Obj.cells #[.func (.func 77) #[] #[], .slice A7 f6.length c7, .int .i64 f7] 138 (0, 0)) :: (ch7 ++ [])) :: L)) (SegSub.trans (SegSub.flat (by simp [selS])) (SegSub.sel _ [some 0, some 1] 2)) ?_
    obtain ⟨r2, hx2, hb1901⟩ := obind hb1901
    refine pqueue_Queue_stop_swap_fn hP3 hx2 (fun so2 hP4 => Pn rfl (hK1960 _ _ _ (Wr Tt_ok rfl (R_move rfl (Pc rfl rfl (R_assign rfl (Pn rfl ?_)))))))
    obtain ⟨g4, A8, c8, ch8, hv4, rfl, hO8⟩ := hP4
    replace hv4 := ptr_inj hv4
    subst hv4
    have e_ := Option.some.inj hb1901
    subst e_
    exact ⟨_, rfl, A8, c8, ch8, SubFr.of ⟨rfl, rfl, trivial⟩, SegSub.trans (M := ([(g1, .cells #[.func (.func 77) #[] #[], .slice A8 r2.heap.length c8, .int .i64 r2.count] 138 (0, 0))] :: ch8 :: L)) (SegSub.sel _ [some 0, some 1] 2) (SegSub.flat (by simp)), (hO8), rfl⟩
  intro _ _ _ _ hf_; exact hf_.elim

theorem pqueue_Queue_stop_Pop_fn {μ : Gh} {L : List Seg} {R : Value → Gh → List Seg → Prop} {F : Nat} {q1 : T_pqueue_Queue_stop} {pv1 : Value} {so1 : Seg} {res1 : T_road_stop} {res2 : Bool} {res3 : T_pqueue_Queue_stop}
    (hP1 : Obj_pqueue_Queue_stop μ pv1 q1 so1) (h : pqueue_Queue_stop_Pop F q1 = some (res1, res2, res3))
    (hR : ∀ (sp0 : Seg), Obj_pqueue_Queue_stop μ pv1 res3 sp0 → R (.tuple #[.agg #[.int .i64 res1.node, .int .i64 res1.leg.Secs, .int .i64 res1.leg.Meters], .bool res2]) μ (sp0 :: L)) :
    Fn Try.prog 80 [pv1] μ (so1 :: L) R := by
  unfold pqueue_Queue_stop_Pop at h
  refine Fn.of_body Tt_ok Try.func80 (by kernel_rfl) rfl Try.ntmps80 (by simp) ?_
  simp only [Try.f80, argFr, List.zipIdx, List.map, Nat.reduceAdd]
  refine WP.seq_k (fun K1976 hK1976 => WP.region Tt_ok (O_cons (O_alloc (cs := #[.int .i64 0, .int .i64 0, .int .i64 0]) rfl rfl (fun g1 => Pc rfl rfl (R_assign rfl (Pn rfl (hK1976 _ _ _ (WP.seq_k (fun K1979 hK1979 => Wr Tt_ok rfl (R_move rfl (P_some rfl (O_cons ?_))))))))))))
  refine O_call (all := [pv1]) rfl rfl rfl (Fn.seg (L2 := (so1 :: [(g1, .cells #[.int .i64 0, .int .i64 0, .int .i64 0] 129 (0, 0))] :: L)) (SegSub.sel _ [some 1, some 0] 2) ?_)
  obtain ⟨⟨r1, r2⟩, hx1, h⟩ := obind h
  replace h := oun_mk h
  refine pqueue_Queue_stop_Peek_fn hP1 hx1 ((Pc rfl rfl (R_move rfl (Pc rfl rfl (R_ext rfl rfl (Pc rfl rfl (R_ext rfl rfl (P_some rfl (O_cons (O_alloc (cs := #[.int .i64 0, .int .i64 0, .int .i64 0]) rfl rfl (fun g2 => P_some rfl (O_cons ?_))))))))))))
  refine O_store (vs := [.int .i64 r1.node, .int .i64 r1.leg.Secs, .int .i64 r1.leg.Meters]) rfl rfl rfl rfl rfl rfl (ST_ (L' := ([(g2, .cells #[.int .i64 r1.node, .int .i64 r1.leg.Secs, .int .i64 r1.leg.Meters] 129 (0, 0))] :: so1 :: [(g1, .cells #[.int .i64 0, .int .i64 0, .int .i64 0] 129 (0, 0))] :: L)) 0 0 rfl rfl rfl rfl (P_none (O_cons (O_read rfl (R_assign rfl (Pn rfl (hK1979 _ _ _ (WP.seq_k (fun K1986 hK1986 => WP.seq_k (fun K1987 hK1987 => Wr Tt_ok rfl (R_move rfl (Pc rfl rfl ?_))))))))))))
  refine R_not rfl (Pn rfl (hK1987 _ _ _ ?_))
  refine W_cond_v (b := !r2) rfl (fun hc1 => ?_) (fun hc1 => ?_)
  · replace h := cond_t hc1 h
    refine WP.seq_k (fun K1988 hK1988 => Wr Tt_ok rfl (R_loadA rfl rfl rfl rfl (LA_ (vs := [.int .i64 r1.node, .int .i64 r1.leg.Secs, .int .i64 r1.leg.Meters]) 0 0 rfl rfl rfl rfl (P_some rfl (O_cons (O_store (vs := [.int .i64 r1.node, .int .i64 r1.leg.Secs, .int .i64 r1.leg.Meters]) rfl rfl rfl rfl rfl rfl (ST_ (L' := ([(g2, .cells #[.int .i64 r1.node, .int .i64 r1.leg.Secs, .int .i64 r1.leg.Meters] 129 (0, 0))] :: so1 :: [(g1, .cells #[.int .i64 r1.node, .int .i64 r1.leg.Secs, .int .i64 r1.leg.Meters] 129 (0, 0))] :: L)) 2 0 rfl rfl rfl rfl (P_none (O_cons (O_read rfl (R_assign rfl (Pn rfl (hK1988 _ _ _ (WP.ret ?_))))))))))))))
    have e_ := Option.some.inj h
    obtain ⟨e0a_, e0b_⟩ := Prod.mk.inj e_
    clear e_
    subst e0a_
    obtain ⟨e1a_, e1b_⟩ := Prod.mk.inj e0b_
    clear e0b_
    subst e1a_
    subst e1b_
    refine S_cell rfl rfl rfl rfl (LA_ (vs := [.int .i64 r1.node, .int .i64 r1.leg.Secs, .int .i64 r1.leg.Meters]) 2 0 rfl rfl rfl rfl (S_tmp rfl (S_nil (Upd.selS [some 1] 3 ?_))))
    exact Upd.done (hR so1 (hP1))
  replace h := cond_f hc1 h
  refine WP.skip (hK1986 _ _ _ (WP.seq_k (fun K1991 hK1991 => ?_)))
  obtain ⟨g3, A1, c1, ch1, hv1, rfl, hO1⟩ := hP1
  subst hv1
  refine WP.seg (L2 := ([(g2, .cells #[.int .i64 r1.node, .int .i64 r1.leg.Secs, .int .i64 r1.leg.Meters] 129 (0, 0))] :: [(g3, .cells #[.func (.func 77) #[] #[], .slice A1 q1.heap.length c1, .int .i64 q1.count] 138 (0, 0))] :: ch1 :: [(g1, .cells #[.int .i64 0, .int .i64 0, .int .i64 0] 129 (0, 0))] :: L)) (SegSub.flat (by simp)) (Wr Tt_ok rfl (R_move rfl (Pc rfl rfl (R_nilP rfl (Pc rfl rfl (R_fa0 (o' := 1) rfl rfl rfl rfl rfl rfl (Pc rfl rfl (R_load rfl rfl rfl (Ex.mk _ (Cell.seg 1 0 rfl rfl rfl) ?_)))))))))
  refine Pc rfl rfl (R_lenS rfl rfl rfl (Pc rfl rfl (R_sub rfl rfl (Pc rfl rfl (R_assign rfl (Pn rfl (hK1991 _ _ _ (WP.seq_k (fun K1997 hK1997 => WP.region Tt_ok (O_cons ?_))))))))))
  refine O_read rfl (R_move rfl (Pc rfl rfl (R_move rfl (P_some rfl (O_cons (O_call (all := [.pointer (some ⟨g3, 0, none⟩), .int .i64 0, .int .i64 (w64 (((q1.heap.length : Nat) : Int) - 1))]) rfl rfl rfl ?_))))))
  have hP2 : Obj_pqueue_Queue_stop μ (.pointer (some ⟨g3, 0, none⟩)) q1 ((g3, Obj.cells #[.func (.func 77) #[] #[], .slice A1 q1.heap.length c1, .int .i64 q1.count] 138 (0, 0)) :: (ch1 ++ [])) := ⟨g3, A1, c1, ch1, rfl, rfl, hO1⟩
  refine Fn.seg (L2 := (((g3, Obj.cells #[.func (.func 77) #[] #[], .slice A1 q1.heap.length c1, .int .i64 q1.count] 138 (0, 0)) :: (ch1 ++ [])) :: [(g2, .cells #[.int .i64 r1.node, .int .i64 r1.leg.Secs, .int .i64 r1.leg.Meters] 129 (0, 0))] :: [(g1, .cells #[.int .i64 0, .int .i64 0, .int .i64 0] 129 (0, 0))] :: L)) (SegSub.trans (SegSub.flat (by simp [selS])) (SegSub.sel _ [some 1, some 2, some 0, some 3] 4)) ?_
  obtain ⟨r3, hx2, h⟩ := obind h
  refine pqueue_Queue_stop_swap_fn hP2 hx2 (fun so2 hP3 => Pn rfl (hK1997 _ _ _ (WP.seq_k (fun K2004 hK2004 => ?_))))
  obtain ⟨g4, A2, c2, ch2, hv2, rfl, hO2⟩ := hP3
  replace hv2 := ptr_inj hv2
  subst hv2
  refine WP.seg (L2 := ([(g3, .cells #[.func (.func 77) #[] #[], .slice A2 r3.heap.length c2, .int .i64 r3.count] 138 (0, 0))] :: ch2 :: [(g2, .cells #[.int .i64 r1.node, .int .i64 r1.leg.Secs, .int .i64 r1.leg.Meters] 129 (0, 0))] :: [(g1, .cells #[.int .i64 0, .int .i64 0, .int .i64 0] 129 (0, 0))] :: L)) (SegSub.flat (by simp)) (Wr Tt_ok rfl (R_move rfl (Pc rfl rfl (R_nilP rfl (Pc rfl rfl (R_fa0 (o' := 1) rfl rfl rfl rfl rfl rfl (Pc rfl rfl (R_load rfl rfl rfl (Ex.mk _ (Cell.seg 0 0 rfl rfl rfl) ?_)))))))))
  refine Pc rfl rfl (R_move rfl (P_some rfl (O_cons ?_)))
  obtain ⟨l1, hs1, h⟩ := obind h
  refine O_read rfl (R_slLoS (r := r_pqueue_item_stop) rfl rfl rfl rfl rfl rfl rfl (Own.lenOk hO2).1 hs1 fun A3 hAe1 => ?_)
  have hA1 := Rds.sub (Own.rds (L := ([(g3, .cells #[.func (.func 77) #[] #[], .slice A2 r3.heap.length c2, .int .i64 r3.count] 138 (0, 0))] :: ch2 :: [(g2, .cells #[.int .i64 r1.node, .int .i64 r1.leg.Secs, .int .i64 r1.leg.Meters] 129 (0, 0))] :: [(g1, .cells #[.int .i64 0, .int .i64 0, .int .i64 0] 129 (0, 0))] :: L)) hO2 1 rfl) (Own.lenOk hO2).1 hs1 hAe1
  have hl1 := subLen (Own.lenOk hO2) hs1
  refine P_some rfl (O_cons (O_clear rfl (sem_clear (z := (T_pqueue_item_stop.mk (T_road_stop.mk 0 (T_api_Leg.mk 0 0)) 0)) (zc := [.int .i64 0, .int .i64 0, .int .i64 0, .int .i64 0]) Tt_ok rfl rfl rfl rfl rfl (rfl) 1 rfl hO2 hs1 hAe1 fun ch3 hO3 => ?_)))
  rw [← length_clrO r3.heap (w64 (((q1.heap.length : Nat) : Int) - 1)) (T_pqueue_item_stop.mk (T_road_stop.mk 0 (T_api_Leg.mk 0 0)) 0)] at hO3 ⊢
  refine P_none (O_nil (hK2004 _ _ _ (WP.seq_k (fun K2015 hK2015 => Wr Tt_ok rfl (R_move rfl (Pc rfl rfl (R_move rfl (Pc rfl rfl (R_nilP rfl (P_some rfl (O_cons ?_)))))))))))
  refine O_read rfl (R_fa0 (o' := 1) rfl rfl rfl rfl rfl rfl (Pc rfl rfl (R_load rfl rfl rfl (Ex.mk _ (Cell.seg 0 0 rfl rfl rfl) (Pc rfl rfl (R_move rfl (P_some rfl (O_cons ?_))))))))
  obtain ⟨l2, hs2, h⟩ := obind h
  refine O_read rfl (R_slHiS rfl rfl rfl rfl rfl rfl (Own.lenOk hO3).1 hs2 ?_)
  have hA2 := Rds.pre (Own.rds (L := ([(g3, .cells #[.func (.func 77) #[] #[], .slice A2 ((clrO r3.heap (w64 (((q1.heap.length : Nat) : Int) - 1)) (T_pqueue_item_stop.mk (T_road_stop.mk 0 (T_api_Leg.mk 0 0)) 0)).length) c2, .int .i64 r3.count] 138 (0, 0))] :: ch3 :: [(g2, .cells #[.int .i64 r1.node, .int .i64 r1.leg.Secs, .int .i64 r1.leg.Meters] 129 (0, 0))] :: [(g1, .cells #[.int .i64 0, .int .i64 0, .int .i64 0] 129 (0, 0))] :: L)) hO3 1 rfl) hs2
  have hl2 := preLen (Own.lenOk hO3) hs2
  refine Pc rfl rfl (R_nilP rfl (Pc rfl rfl (R_fa0 (o' := 1) rfl rfl rfl rfl rfl rfl (P_some rfl (O_cons (O_store (vs := [.slice A2 l2.length c2]) rfl rfl rfl rfl rfl rfl ?_))))))
  have hO4 := Own.cut hO3 hs2
  refine ST_ (L' := ([(g3, .cells #[.func (.func 77) #[] #[], .slice A2 l2.length c2, .int .i64 r3.count] 138 (0, 0))] :: ch3 :: [(g2, .cells #[.int .i64 r1.node, .int .i64 r1.leg.Secs, .int .i64 r1.leg.Meters] 129 (0, 0))] :: [(g1, .cells #[.int .i64 0, .int .i64 0, .int .i64 0] 129 (0, 0))] :: L)) 0 0 rfl rfl rfl rfl (P_none (O_nil (hK2015 _ _ _ (WP.seq_k (fun K2022 hK2022 => Wr Tt_ok rfl (R_move rfl (P_some rfl (O_cons (O_call (all := [.pointer (some ⟨g3, 0, none⟩)]) rfl rfl rfl ?_)))))))))
  have hP4 : Obj_pqueue_Queue_stop μ (.pointer (some ⟨g3, 0, none⟩)) (T_pqueue_Queue_stop.mk l2 r3.count) ((g3, Obj.cells #[.func (.func 77) #[] #[], .slice A2 l2.length c2, .int .i64 r3.count] 138 (0, 0)) :: (ch3 ++ [])) := ⟨g3, A2, c2, ch3, rfl, rfl, hO4⟩
  refine Fn.seg (L2 := (((g3, Obj.cells #[.func (.func 77) #[] #[], .slice A2 l2.length c2, .int .i64 r3.count] 138 (0, 0)) :: (ch3 ++ [])) :: [(g2, .cells #[.int .i64 r1.node, .int .i64 r1.leg.Secs, .int .i64 r1.leg.Meters] 129 (0, 0))] :: [(g1, .cells #[.int .i64 0, .int .i64 0, .int .i64 0] 129 (0, 0))] :: L)) (SegSub.trans (SegSub.flat (by simp [selS])) (SegSub.sel _ [some 0, some 1, some 2, some 3] 4)) ?_
  obtain ⟨r4, hx3, h⟩ := obind h
  refine pqueue_Queue_stop_sink_fn hP4 hx3 (fun so3 hP5 => Pn rfl (hK2022 _ _ _ (WP.seq_k (fun K2029 hK2029 => Wr Tt_ok rfl (R_loadA rfl rfl rfl rfl (LA_ (vs := [.int .i64 r1.node, .int .i64 r1.leg.Secs, .int .i64 r1.leg.Meters]) 1 0 rfl rfl rfl rfl (P_some rfl (O_cons (O_store (vs := [.int .i64 r1.node, .int .i64 r1.leg.Secs, .int .i64 r1.leg.Meters]) rfl rfl rfl rfl rfl rfl (ST_ (L' := (so3 :: [(g2, .cells #[.int .i64 r1.node, .int .i64 r1.leg.Secs, .int .i64 r1.leg.Meters] 129 (0, 0))] :: [(g1, .cells #[.int .i64 r1.node, .int .i64 r1.leg.Secs, .int .i64 r1.leg.Meters] 129 (0, 0))] :: L)) 2 0 rfl rfl rfl rfl (P_none (O_cons (O_read rfl (R_assign rfl ?_))))))))))))))
  refine Pn rfl (hK2029 _ _ _ (WP.ret ?_))
  have e_ := Option.some.inj h
  obtain ⟨e0a_, e0b_⟩ := Prod.mk.inj e_
  clear e_
  subst e0a_
  obtain ⟨e1a_, e1b_⟩ := Prod.mk.inj e0b_
  clear e0b_
  subst e1a_
  subst e1b_
  refine S_cell rfl rfl rfl rfl (LA_ (vs := [.int .i64 r1.node, .int .i64 r1.leg.Secs, .int .i64 r1.leg.Meters]) 2 0 rfl rfl rfl rfl (S_tmp rfl (S_nil (Upd.selS [some 0] 3 ?_))))
  exact Upd.done (hR so3 (hP5))

theorem road_forward_fn {μ : Gh} {L : List Seg} {R : Value → Gh → List Seg → Prop}  {x1 : T_api_Edge}  {res1 : Int} {res2 : Int}
     (h : road_forward x1 = some (res1, res2))
    (hR : R (.tuple #[.int .i64 res1, .int .i64 res2]) μ (L)) :
    Fn Try.prog 74 [.agg #[.int .i64 x1.From, .int .i64 x1.To, .int .i64 x1.Meters, .int .i64 x1.Secs]] μ (L) R := by
  unfold road_forward at h
  refine Fn.of_body Tt_ok Try.func74 (by kernel_rfl) rfl Try.ntmps74 (by simp) ?_
  simp only [Try.f74, argFr, List.zipIdx, List.map, Nat.reduceAdd]
  refine WP.seq_k (fun K2066 hK2066 => WP.region Tt_ok (O_cons (O_box (cs := #[.int .i64 x1.From, .int .i64 x1.To, .int .i64 x1.Meters, .int .i64 x1.Secs]) rfl rfl (fun g1 => Pc rfl rfl (R_assign rfl (Pc rfl rfl (R_assign rfl (Pn rfl (hK2066 _ _ _ (WP.seq_k (fun K2068 hK2068 => WP.drawn (id := 1) (l' := List.replicate 6 true) wide Tt_ok _ Kept.refl [(true, 0), (true, 1), (true, 2), (true, 3), (true, 4), (true, 5)] (by kernel_rfl) (by kernel_rfl) rfl (PL_t rfl ?_))))))))))))
  refine R_fa0 (o' := 0) rfl rfl rfl rfl rfl rfl (Pt rfl rfl (R_load rfl rfl rfl (Ex.mk _ (Cell.seg 0 0 rfl rfl rfl) (Pt rfl rfl (R_fa0 (o' := 1) rfl rfl rfl rfl rfl rfl (Pt rfl rfl (R_load rfl rfl rfl (Ex.mk _ (Cell.seg 0 0 rfl rfl rfl) (Pt rfl rfl (R_assign rfl (Pt rfl rfl (R_assign rfl ?_))))))))))))
  refine P_some rfl (PL_nil (AN.done0 (by kernel_rfl) (hK2068 _ _ _ (WP.ret ?_))))
  have e_ := Option.some.inj h
  obtain ⟨e0a_, e0b_⟩ := Prod.mk.inj e_
  clear e_
  subst e0a_
  subst e0b_
  refine S_tmp rfl (S_tmp rfl (S_nil (Upd.selS [] 1 ?_)))
  exact Upd.done hR

theorem road_after_fn {μ : Gh} {L : List Seg} {R : Value → Gh → List Seg → Prop}  {l1 : T_api_Leg} {x1 : T_api_Edge}  {res1 : T_api_Leg}
     (h : road_after l1 x1 = some res1)
    (hR : R (.agg #[.int .i64 res1.Secs, .int .i64 res1.Meters]) μ (L)) :
    Fn Try.prog 81 [.agg #[.int .i64 l1.Secs, .int .i64 l1.Meters], .agg #[.int .i64 x1.From, .int .i64 x1.To, .int .i64 x1.Meters, .int .i64 x1.Secs]] μ (L) R := by
  unfold road_after at h
  refine Fn.of_body Tt_ok Try.func81 (by kernel_rfl) rfl Try.ntmps81 (by simp) ?_
  simp only [Try.f81, argFr, List.zipIdx, List.map, Nat.reduceAdd]
  refine WP.seq_k (fun K2072 hK2072 => WP.region Tt_ok (O_cons (O_box (cs := #[.int .i64 l1.Secs, .int .i64 l1.Meters]) rfl rfl (fun g1 => P_some rfl (O_cons (O_box (cs := #[.int .i64 x1.From, .int .i64 x1.To, .int .i64 x1.Meters, .int .i64 x1.Secs]) rfl rfl (fun g2 => P_some rfl (O_cons (O_alloc (cs := #[.int .i64 0, .int .i64 0]) rfl rfl (fun g3 => Pn rfl (hK2072 _ _ _ (WP.seq_k (fun K2076 hK2076 => Wr Tt_ok rfl (R_fa0 (o' := 0) rfl rfl rfl rfl rfl rfl ?_))))))))))))))
  refine Pc rfl rfl (R_load rfl rfl rfl (Ex.mk _ (Cell.seg 2 0 rfl rfl rfl) (Pc rfl rfl (R_fa0 (o' := 3) rfl rfl rfl rfl rfl rfl (Pc rfl rfl (R_load rfl rfl rfl (Ex.mk _ (Cell.seg 1 0 rfl rfl rfl) (Pc rfl rfl (R_add rfl rfl ?_)))))))))
  refine Pc rfl rfl (R_fa0 (o' := 1) rfl rfl rfl rfl rfl rfl (Pc rfl rfl (R_load rfl rfl rfl (Ex.mk _ (Cell.seg 2 0 rfl rfl rfl) (Pc rfl rfl (R_fa0 (o' := 2) rfl rfl rfl rfl rfl rfl (Pc rfl rfl (R_load rfl rfl rfl (Ex.mk _ (Cell.seg 1 0 rfl rfl rfl) ?_)))))))))
  refine Pc rfl rfl (R_add rfl rfl (Pc rfl rfl (R_build rfl rfl rfl rfl (F_cons (cells' := [.int .i64 (w64 (l1.Secs + x1.Secs)), .int .i64 0]) rfl rfl rfl rfl (F_cons (cells' := [.int .i64 (w64 (l1.Secs + x1.Secs)), .int .i64 (w64 (l1.Meters + x1.Meters))]) rfl rfl rfl rfl (F_nil (P_some rfl (O_cons (O_store (vs := [.int .i64 (w64 (l1.Secs + x1.Secs)), .int .i64 (w64 (l1.Meters + x1.Meters))]) rfl rfl rfl rfl rfl rfl (ST_ (L' := ([(g3, .cells #[.int .i64 (w64 (l1.Secs + x1.Secs)), .int .i64 (w64 (l1.Meters + x1.Meters))] 51 (0, 0))] :: [(g2, .cells #[.int .i64 x1.From, .int .i64 x1.To, .int .i64 x1.Meters, .int .i64 x1.Secs] 86 (0, 0))] :: [(g1, .cells #[.int .i64 l1.Secs, .int .i64 l1.Meters] 51 (0, 0))] :: L)) 0 0 rfl rfl rfl rfl (P_none (O_nil (hK2076 _ _ _ ?_)))))))))))))
  apply WP.ret
  have e_ := Option.some.inj h
  subst e_
  refine S_cell rfl rfl rfl rfl (LA_ (vs := [.int .i64 (w64 (l1.Secs + x1.Secs)), .int .i64 (w64 (l1.Meters + x1.Meters))]) 0 0 rfl rfl rfl rfl (S_nil (Upd.selS [] 3 ?_)))
  exact Upd.done hR

theorem road_spread_c74_fn {μ : Gh} {L : List Seg} {R : Value → Gh → List Seg → Prop} {F : Nat} {r1 : T_api_Road} {f_from1 : Int} {A1 : Option Addr} {c1 : Nat} {res1 : (List T_api_Leg)}
    (hl1 : r1.Edges.length ≤ c1 ∧ c1 ≤ maxLen) (hA1 : ArrR r_api_Edge μ A1 r1.Edges) (h : road_spread_c74 F r1 f_from1 = some res1)
    (hR : ∀ (A0 : Option Addr) (c0 : Nat) (ch0 : Seg), Own r_api_Leg 51 μ (.slice A0 res1.length c0) res1 ch0 → R (.slice A0 res1.length c0) μ (ch0 :: L)) :
    Fn Try.prog 73 [.agg #[.int .i64 r1.Nodes, .slice A1 r1.Edges.length c1], .int .i64 f_from1, .func (.func 74) #[] #[]] μ (L) R := by
  unfold road_spread_c74 at h
  refine Fn.of_body Tt_ok Try.func73 (by kernel_rfl) rfl Try.ntmps73 (by simp) ?_
  simp only [Try.f73, argFr, List.zipIdx, List.map, Nat.reduceAdd]
  refine WP.seq_k (fun K868 hK868 => WP.region Tt_ok (O_cons (O_box (cs := #[.int .i64 r1.Nodes, .slice A1 r1.Edges.length c1]) rfl rfl (fun g1 => Pc rfl rfl (R_assign rfl (Pn rfl (hK868 _ _ _ (WP.seq_k (fun K872 hK872 => Wr Tt_ok rfl (R_fa0 (o' := 0) rfl rfl rfl rfl rfl rfl (P_some rfl (O_cons ?_))))))))))))
  refine O_read rfl (R_load rfl rfl rfl (Ex.mk _ (Cell.seg 0 0 rfl rfl rfl) (P_some rfl (O_cons (O_mksl rfl rfl ?_)))))
  obtain ⟨l1, hn1, h⟩ := obind h
  refine sem_mkO (r := r_api_Leg) (z := (T_api_Leg.mk 0 0)) (zc := [.int .i64 0, .int .i64 0]) Tt_ok rfl rfl rfl rfl rfl (rfl) rfl hn1 fun A2 c2 ch1 hO1 => Pc rfl rfl (R_assign rfl (Pn rfl (hK872 _ _ _ (WP.seq_k (fun K874 hK874 => WP.seq_k (fun K875 hK875 => Wr Tt_ok rfl (R_move rfl (Pc rfl rfl (R_lenS rfl rfl rfl ?_)))))))))
  refine Pc rfl rfl (R_move rfl (Pn rfl (hK875 _ _ _ ?_)))
  obtain ⟨o876, h876, h⟩ := obind h
  refine WP.cutK (fun fr_ μ_ L_ => ∃ (out2 : (List T_api_Leg)) (A4 : Option Addr) (c4 : Nat) (ch4 : Seg), out2 = o876 ∧ SubFr [(1, .int .i64 f_from1), (2, .func (.func 74) #[] #[]), (3, .pointer (some ⟨g1, 0, none⟩)), (7, .slice A4 out2.length c4)] fr_ ∧ SegSub ([(g1, .cells #[.int .i64 r1.Nodes, .slice A1 r1.Edges.length c1] 24 (0, 0))] :: ch4 :: L) L_ ∧ Own r_api_Leg 51 μ_ (.slice A4 out2.length c4) out2 ch4 ∧ μ = μ_) ?_ ?_
  · refine WP.block (WP.iter h876 (fun (j_ : (List T_api_Leg) × Int) fr_ μ_ L_ => ounP j_ fun out1 v1 => ∃ (A3 : Option Addr) (c3 : Nat) (ch2 : Seg), SubFr [(1, .int .i64 f_from1), (2, .func (.func 74) #[] #[]), (3, .pointer (some ⟨g1, 0, none⟩)), (7, .slice A3 out1.length c3), (21, .int .i64 ((l1.length : Nat) : Int)), (22, .int .i64 v1)] fr_ ∧ SegSub ([(g1, .cells #[.int .i64 r1.Nodes, .slice A1 r1.Edges.length c1] 24 (0, 0))] :: ch2 :: L) L_ ∧ Own r_api_Leg 51 μ_ (.slice A3 out1.length c3) out1 ch2 ∧ μ = μ_) ⟨A2, c2, ch1, SubFr.of ⟨rfl, rfl, rfl, rfl, rfl, rfl, trivial⟩, SegSub.sel _ [some 1, some 0] 2, (hO1), rfl⟩ ?_)
    rintro ⟨out1, v1⟩ q891 fr891 μ891 L891 hm891 ⟨A3, c3, ch2, hF891, hS891, hO2, hu891⟩ hb891 hq891
    unfold road_spread_c74_l1 at hb891
    replace hb891 := oun_mk hb891
    subst hu891
    refine WP.at hF891 hS891 (WP.seq_k (fun K896 hK896 => Wr Tt_ok rfl (R_lssD rfl rfl (Pn rfl (hK896 _ _ _ (WP.seq_k (fun K897 hK897 => ?_)))))))
    refine W_cond_v (b := (decide (v1 < ((l1.length : Nat) : Int)))) rfl (fun hc1 => ?_) (fun hc1 => ?_)
    · replace hb891 := cond_t hc1 hb891
      refine WP.skip (hK897 _ _ _ (WP.seq_k (fun K898 hK898 => WP.block (WP.seq_k (fun K899 hK899 => Wr Tt_ok rfl (R_move rfl (Pc rfl rfl (R_assign rfl (Pn rfl (hK899 _ _ _ (WP.region Tt_ok (O_cons ?_))))))))))))
      refine O_read rfl (R_move rfl (Pc rfl rfl (R_move rfl (P_some rfl (O_cons (O_call (all := []) rfl rfl rfl ?_))))))
      obtain ⟨r2, hx1, hb891⟩ := obind hb891
      refine road_none_fn  hx1 ((P_some rfl (O_cons ?_)))
      obtain ⟨x1, hx2, hb891⟩ := obind hb891
      obtain ⟨a1, cs1, hA2, hr1, _, hc2⟩ := Rds.getI (Own.rds (L := ([(g1, .cells #[.int .i64 r1.Nodes, .slice A1 r1.Edges.length c1] 24 (0, 0))] :: ch2 :: L)) hO2 1 rfl) hx2
      obtain rfl := hr1
      refine O_read rfl (R_iaG rfl rfl rfl rfl rfl rfl ⟨(getI_lt hx2).1, (getI_lt hx2).2.1⟩ hA2 (P_some rfl (O_cons (O_store (vs := [.int .i64 r2.Secs, .int .i64 r2.Meters]) rfl rfl rfl rfl rfl rfl ?_))))
      rw [← Addr.add_zero' ((a1.add (v1.toNat * 2)))]
      refine Own.store (r := r_api_Leg) (x' := r2) (o := 0) (sz := 2) 1 rfl hO2 hA2 hx2 rfl rfl (by rintro _ rfl; rfl) fun ch3 hO3 => ?_
      rw [← length_setI out1 v1 r2] at hO3 ⊢
      refine P_none (O_nil (hK898 _ _ _ (Wr Tt_ok rfl (R_add rfl rfl (Pc rfl rfl (R_move rfl (Pn rfl ?_)))))))
      have e_ := Option.some.inj hb891
      subst e_
      exact ⟨_, rfl, A3, c3, ch3, SubFr.of ⟨rfl, rfl, rfl, rfl, rfl, rfl, trivial⟩, SegSub.sel _ [some 0, some 1] 2, (hO3), rfl⟩
    replace hb891 := cond_f hc1 hb891
    refine WP.exit (B_here ?_)
    have e_ := Option.some.inj hb891
    subst e_
    have hq_ := hq891 _ rfl
    subst hq_
    exact ⟨out1, A3, c3, ch2, rfl, SubFr.of ⟨rfl, rfl, rfl, rfl, trivial⟩, SegSub.sel _ [some 0, some 1] 2, (hO2), rfl⟩
  rintro fr876 μ876 L876 hm876 ⟨out2, A4, c4, ch4, ho876, hF876, hS876, hO4, hu876⟩
  subst ho876
  subst hu876
  refine hK874 _ _ _ (WP.at hF876 hS876 (WP.seq_k (fun K905 hK905 => Wr Tt_ok rfl (R_move rfl (Pc rfl rfl (R_move rfl (Pc rfl rfl (R_build rfl rfl rfl rfl (F_nil (P_some rfl (O_cons ?_)))))))))))
  obtain ⟨x2, hx3, h⟩ := obind h
  obtain ⟨a2, cs2, hA3, hr2, _, hc3⟩ := Rds.getI (Own.rds (L := ([(g1, .cells #[.int .i64 r1.Nodes, .slice A1 r1.Edges.length c1] 24 (0, 0))] :: ch4 :: L)) hO4 1 rfl) hx3
  obtain rfl := hr2
  refine O_read rfl (R_iaG rfl rfl rfl rfl rfl rfl ⟨(getI_lt hx3).1, (getI_lt hx3).2.1⟩ hA3 (P_some rfl (O_cons (O_store (vs := [.int .i64 0, .int .i64 0]) rfl rfl rfl rfl rfl rfl ?_))))
  rw [← Addr.add_zero' ((a2.add (f_from1.toNat * 2)))]
  refine Own.store (r := r_api_Leg) (x' := (T_api_Leg.mk 0 0)) (o := 0) (sz := 2) 1 rfl hO4 hA3 hx3 rfl rfl (by rintro _ rfl; rfl) fun ch5 hO5 => ?_
  rw [← length_setI out2 f_from1 (T_api_Leg.mk 0 0)] at hO5 ⊢
  refine P_none (O_nil (hK905 _ _ _ (WP.seq_k (fun K908 hK908 => WP.region Tt_ok (O_cons (O_call (all := [.func (.func 77) #[] #[]]) rfl rfl rfl ?_))))))
  obtain ⟨r3, hx4, h⟩ := obind h
  refine pqueue_New_stop_c77_fn  hx4 (fun pv1 so1 hP1 => Pc rfl rfl (R_assign rfl (Pn rfl (hK908 _ _ _ (WP.seq_k (fun K916 hK916 => Wr Tt_ok rfl (R_move rfl (Pc rfl rfl (R_move rfl (P_some rfl ?_))))))))))
  refine O_cons (O_read rfl (R_build rfl rfl rfl rfl (F_cons (cells' := [.int .i64 f_from1, .int .i64 0, .int .i64 0]) rfl rfl rfl rfl (F_nil (P_some rfl (O_cons (O_call (all := [pv1, .agg #[.int .i64 f_from1, .int .i64 0, .int .i64 0]]) rfl rfl rfl ?_)))))))
  obtain ⟨r4, hx5, h⟩ := obind h
  refine pqueue_Queue_stop_Push_fn hP1 hx5 (fun so2 hP2 => Pn rfl (hK916 _ _ _ ?_))
  obtain ⟨o1568, h1568, h⟩ := obind h
  refine WP.cutK (fun _ _ _ => False) ?_ ?_
  · refine WP.block (WP.iter h1568 (fun (j_ : (List T_api_Leg) × T_pqueue_Queue_stop) fr_ μ_ L_ => ounP j_ fun out3 q1 => ∃ (A5 : Option Addr) (c5 : Nat) (ch6 : Seg) (so3 : Seg), SubFr [(2, .func (.func 74) #[] #[]), (3, .pointer (some ⟨g1, 0, none⟩)), (7, .slice A5 out3.length c5), (9, pv1)] fr_ ∧ SegSub ([(g1, .cells #[.int .i64 r1.Nodes, .slice A1 r1.Edges.length c1] 24 (0, 0))] :: ch6 :: so3 :: L) L_ ∧ Own r_api_Leg 51 μ_ (.slice A5 out3.length c5) out3 ch6 ∧ Obj_pqueue_Queue_stop μ_ pv1 q1 so3 ∧ μ = μ_) ⟨A4, c4, ch5, so2, SubFr.of ⟨rfl, rfl, rfl, rfl, trivial⟩, SegSub.sel _ [some 1, some 2, some 0] 3, (hO5), (hP2), rfl⟩ ?_)
    rintro ⟨out3, q1⟩ q2185 fr2185 μ2185 L2185 hm2185 ⟨A5, c5, ch6, so3, hF2185, hS2185, hO6, hP3, hu2185⟩ hb2185 hq2185
    unfold road_spread_c74_l3 at hb2185
    replace hb2185 := oun_mk hb2185
    subst hu2185
    refine WP.at hF2185 hS2185 (WP.block (WP.seq_k (fun K2192 hK2192 => Wr Tt_ok rfl (R_move rfl (P_some rfl (O_cons (O_call (all := [pv1]) rfl rfl rfl (Fn.seg (L2 := (so3 :: [(g1, .cells #[.int .i64 r1.Nodes, .slice A1 r1.Edges.length c1] 24 (0, 0))] :: ch6 :: L)) (SegSub.sel _ [some 2, some 0, some 1] 3) ?_))))))))
    obtain ⟨⟨r5, r6, r7⟩, hx6, hb2185⟩ := obind hb2185
    replace hb2185 := oun_mk hb2185
    replace hb2185 := oun_mk hb2185
    refine pqueue_Queue_stop_Pop_fn hP3 hx6 (fun so4 hP4 => Pc rfl rfl (R_move rfl (Pc rfl rfl (R_ext rfl rfl (Pc rfl rfl (R_ext rfl rfl (P_some rfl (O_cons (O_alloc (cs := #[.int .i64 0, .int .i64 0, .int .i64 0]) rfl rfl (fun g2 => P_some rfl (O_cons ?_)))))))))))
    refine O_store (vs := [.int .i64 r5.node, .int .i64 r5.leg.Secs, .int .i64 r5.leg.Meters]) rfl rfl rfl rfl rfl rfl (ST_ (L' := ([(g2, .cells #[.int .i64 r5.node, .int .i64 r5.leg.Secs, .int .i64 r5.leg.Meters] 129 (0, 0))] :: so4 :: [(g1, .cells #[.int .i64 r1.Nodes, .slice A1 r1.Edges.length c1] 24 (0, 0))] :: ch6 :: L)) 0 0 rfl rfl rfl rfl (P_none (O_cons (O_read rfl (R_assign rfl (Pn rfl (hK2192 _ _ _ (WP.seq_k (fun K2203 hK2203 => WP.seq_k (fun K2204 hK2204 => Wr Tt_ok rfl (R_move rfl (Pc rfl rfl ?_))))))))))))
    refine R_not rfl (Pn rfl (hK2204 _ _ _ ?_))
    refine W_cond_v (b := !r6) rfl (fun hc4 => ?_) (fun hc4 => ?_)
    · replace hb2185 := cond_t hc4 hb2185
      refine WP.seq_k (fun K2205 hK2205 => Wr Tt_ok rfl (R_move rfl (Pc rfl rfl (R_assign rfl (Pn rfl (hK2205 _ _ _ (WP.ret ?_)))))))
      have e_ := Option.some.inj hb2185
      subst e_
      have hq_ := hq2185 _ rfl
      subst hq_
      have e_ := Option.some.inj h
      subst e_
      refine S_tmp rfl (S_nil (Upd.selS [some 3] 4 ?_))
      exact Upd.done (hR A5 c5 ch6 (hO6))
    replace hb2185 := cond_f hc4 hb2185
    refine WP.skip (hK2203 _ _ _ (WP.seq_k (fun K2206 hK2206 => WP.seq_k (fun K2207 hK2207 => WP.drawn (id := 13) (l' := List.replicate 8 true) wide Tt_ok _ Kept.refl [(true, 0), (true, 1), (true, 2), (true, 3), (true, 4), (true, 5), (true, 6), (true, 7)] (by kernel_rfl) (by kernel_rfl) rfl (PL_t rfl (R_move rfl (Pt rfl rfl (R_fa0 (o' := 0) rfl rfl rfl rfl rfl rfl (Pt rfl rfl (R_load rfl rfl rfl (Ex.mk _ (Cell.seg 0 0 rfl rfl rfl) (Pt rfl rfl ?_))))))))))))
    obtain ⟨x3, hx7, hb2185⟩ := obind hb2185
    obtain ⟨a3, cs3, hA4, hr3, _, hc5⟩ := Rds.getI (Own.rds (L := ([(g2, .cells #[.int .i64 r5.node, .int .i64 r5.leg.Secs, .int .i64 r5.leg.Meters] 129 (0, 0))] :: so4 :: [(g1, .cells #[.int .i64 r1.Nodes, .slice A1 r1.Edges.length c1] 24 (0, 0))] :: ch6 :: L)) hO6 3 rfl) hx7
    obtain rfl := hr3
    refine R_iaG rfl rfl rfl rfl rfl rfl ⟨(getI_lt hx7).1, (getI_lt hx7).2.1⟩ hA4 (Pt rfl rfl (R_loadA rfl rfl rfl rfl (Ex.mk [.int .i64 x3.Secs, .int .i64 x3.Meters] ⟨rfl, hc5⟩ (Pt rfl rfl (R_fa0 (o' := 1) rfl rfl rfl rfl rfl rfl (Pt rfl rfl (R_loadA rfl rfl rfl rfl (LA_ (vs := [.int .i64 r5.leg.Secs, .int .i64 r5.leg.Meters]) 0 0 rfl rfl rfl rfl (Pt rfl rfl (R_agg rfl rfl (Ex.mk _ (neRun_T_api_Leg x3 r5.leg) (P_some rfl (PL_nil ?_)))))))))))))
    refine AN.done0 (by kernel_rfl) (hK2207 _ _ _ ?_)
    refine W_cond_v (b := !(decide (x3 = r5.leg))) rfl (fun hc6 => ?_) (fun hc6 => ?_)
    · replace hb2185 := cond_t hc6 hb2185
      refine WP.exit (B_here ?_)
      have e_ := Option.some.inj hb2185
      subst e_
      exact ⟨_, rfl, A5, c5, ch6, so4, SubFr.of ⟨rfl, rfl, rfl, rfl, trivial⟩, SegSub.sel _ [some 2, some 3, some 1] 4, (hO6), (hP4), rfl⟩
    replace hb2185 := cond_f hc6 hb2185
    refine WP.skip (hK2206 _ _ _ (WP.seq_k (fun K2208 hK2208 => Wr Tt_ok rfl (R_fa0 (o' := 1) rfl rfl rfl rfl rfl rfl (Pc rfl rfl (R_load rfl rfl rfl (Ex.mk _ (Cell.seg 2 0 rfl rfl rfl) (Pc rfl rfl (R_lenS rfl rfl rfl (P_some rfl (O_cons ?_)))))))))))
    refine O_read rfl (R_move rfl (Pn rfl (hK2208 _ _ _ ?_)))
    obtain ⟨o2209, h2209, hb2185⟩ := obind hb2185
    refine WP.cutK (fun fr_ μ_ L_ => ∃ (out6 : (List T_api_Leg)) (q4 : T_pqueue_Queue_stop) (A8 : Option Addr) (c8 : Nat) (ch10 : Seg) (so8 : Seg), (out6, q4) = o2209 ∧ SubFr [(2, .func (.func 74) #[] #[]), (3, .pointer (some ⟨g1, 0, none⟩)), (7, .slice A8 out6.length c8), (9, pv1)] fr_ ∧ SegSub ([(g1, .cells #[.int .i64 r1.Nodes, .slice A1 r1.Edges.length c1] 24 (0, 0))] :: ch10 :: so8 :: L) L_ ∧ Own r_api_Leg 51 μ_ (.slice A8 out6.length c8) out6 ch10 ∧ Obj_pqueue_Queue_stop μ_ pv1 q4 so8 ∧ μ = μ_) ?_ ?_
    · refine WP.block (WP.iter h2209 (fun (j_ : (List T_api_Leg) × T_pqueue_Queue_stop × Int) fr_ μ_ L_ => ounP j_ fun out4 j_ => ounP j_ fun q2 v2 => ∃ (A6 : Option Addr) (c6 : Nat) (ch7 : Seg) (so5 : Seg), SubFr [(2, .func (.func 74) #[] #[]), (3, .pointer (some ⟨g1, 0, none⟩)), (7, .slice A6 out4.length c6), (9, pv1), (10, .pointer (some ⟨g2, 0, none⟩)), (56, .slice A1 r1.Edges.length c1), (57, .int .i64 ((r1.Edges.length : Nat) : Int)), (58, .int .i64 v2)] fr_ ∧ SegSub ([(g1, .cells #[.int .i64 r1.Nodes, .slice A1 r1.Edges.length c1] 24 (0, 0))] :: ch7 :: so5 :: [(g2, .cells #[.int .i64 r5.node, .int .i64 r5.leg.Secs, .int .i64 r5.leg.Meters] 129 (0, 0))] :: L) L_ ∧ Own r_api_Leg 51 μ_ (.slice A6 out4.length c6) out4 ch7 ∧ Obj_pqueue_Queue_stop μ_ pv1 q2 so5 ∧ μ = μ_) ⟨A5, c5, ch6, so4, SubFr.of ⟨rfl, rfl, rfl, rfl, rfl, rfl, rfl, rfl, trivial⟩, SegSub.sel _ [some 2, some 3, some 1, some 0] 4, (hO6), (hP4), rfl⟩ ?_)
      rintro ⟨out4, q2, v2⟩ q2270 fr2270 μ2270 L2270 hm2270 ⟨A6, c6, ch7, so5, hF2270, hS2270, hO7, hP5, hu2270⟩ hb2270 hq2270
      unfold road_spread_c74_l2 at hb2270
      replace hb2270 := oun_mk hb2270
      replace hb2270 := oun_mk hb2270
      subst hu2270
      refine WP.at hF2270 hS2270 (WP.seq_k (fun K2280 hK2280 => Wr Tt_ok rfl (R_lssD rfl rfl (Pn rfl (hK2280 _ _ _ (WP.seq_k (fun K2281 hK2281 => ?_)))))))
      refine W_cond_v (b := (decide (v2 < ((r1.Edges.length : Nat) : Int)))) rfl (fun hc7 => ?_) (fun hc7 => ?_)
      · replace hb2270 := cond_t hc7 hb2270
        refine WP.skip (hK2281 _ _ _ (WP.seq_k (fun K2282 hK2282 => ?_)))
        obtain ⟨o2283, h2283, hb2270⟩ := obind hb2270
        refine WP.cutK (fun fr_ μ_ L_ => ∃ (out5 : (List T_api_Leg)) (q3 : T_pqueue_Queue_stop) (A7 : Option Addr) (c7 : Nat) (ch9 : Seg) (so7 : Seg), (out5, q3) = o2283 ∧ SubFr [(2, .func (.func 74) #[] #[]), (3, .pointer (some ⟨g1, 0, none⟩)), (7, .slice A7 out5.length c7), (9, pv1), (10, .pointer (some ⟨g2, 0, none⟩)), (56, .slice A1 r1.Edges.length c1), (57, .int .i64 ((r1.Edges.length : Nat) : Int)), (58, .int .i64 v2)] fr_ ∧ SegSub ([(g1, .cells #[.int .i64 r1.Nodes, .slice A1 r1.Edges.length c1] 24 (0, 0))] :: ch9 :: so7 :: [(g2, .cells #[.int .i64 r5.node, .int .i64 r5.leg.Secs, .int .i64 r5.leg.Meters] 129 (0, 0))] :: L) L_ ∧ Own r_api_Leg 51 μ_ (.slice A7 out5.length c7) out5 ch9 ∧ Obj_pqueue_Queue_stop μ_ pv1 q3 so7 ∧ μ = μ_) ?_ ?_
        · refine WP.block (WP.seq_k (fun K2284 hK2284 => WP.region Tt_ok (O_cons ?_)))
          obtain ⟨x4, hx8, h2283⟩ := obind h2283
          obtain ⟨a4, cs4, hA5, hr4, _, hc8⟩ := Rds.getI (ArrR.rds hA1 L) hx8
          obtain rfl := hr4
          refine O_read rfl (R_iaG rfl rfl rfl rfl rfl rfl ⟨(getI_lt hx8).1, (getI_lt hx8).2.1⟩ hA5 (Pc rfl rfl (R_loadA rfl rfl rfl rfl (Ex.mk [.int .i64 x4.From, .int .i64 x4.To, .int .i64 x4.Meters, .int .i64 x4.Secs] ⟨rfl, (hc8.push.push.push.push)⟩ (P_some rfl (O_cons (O_alloc (cs := #[.int .i64 0, .int .i64 0, .int .i64 0, .int .i64 0]) rfl rfl (fun g3 => P_some rfl (O_cons (O_store (vs := [.int .i64 x4.From, .int .i64 x4.To, .int .i64 x4.Meters, .int .i64 x4.Secs]) rfl rfl rfl rfl rfl rfl (ST_ (L' := ([(g3, .cells #[.int .i64 x4.From, .int .i64 x4.To, .int .i64 x4.Meters, .int .i64 x4.Secs] 86 (0, 0))] :: [(g1, .cells #[.int .i64 r1.Nodes, .slice A1 r1.Edges.length c1] 24 (0, 0))] :: ch7 :: so5 :: [(g2, .cells #[.int .i64 r5.node, .int .i64 r5.leg.Secs, .int .i64 r5.leg.Meters] 129 (0, 0))] :: L)) 0 0 rfl rfl rfl rfl ?_)))))))))))
          refine P_none (O_nil (hK2284 _ _ _ (WP.seq_k (fun K2289 hK2289 => Wr Tt_ok rfl (R_move rfl (Pc rfl rfl (R_loadA rfl rfl rfl rfl (LA_ (vs := [.int .i64 x4.From, .int .i64 x4.To, .int .i64 x4.Meters, .int .i64 x4.Secs]) 0 0 rfl rfl rfl rfl (P_some rfl (O_cons (O_call (all := [.agg #[.int .i64 x4.From, .int .i64 x4.To, .int .i64 x4.Meters, .int .i64 x4.Secs]]) rfl rfl rfl ?_)))))))))))
          obtain ⟨⟨r8, r9⟩, hx9, h2283⟩ := obind h2283
          replace h2283 := oun_mk h2283
          refine road_forward_fn  hx9 ((Pc rfl rfl (R_move rfl (Pc rfl rfl (R_ext rfl rfl (Pc rfl rfl (R_ext rfl rfl (Pc rfl rfl (R_assign rfl (P_some rfl ?_))))))))))
          refine O_cons (O_read rfl (R_assign rfl (Pn rfl (hK2289 _ _ _ (WP.seq_k (fun K2290 hK2290 => WP.seq_k (fun K2291 hK2291 => Wr Tt_ok rfl (R_move rfl (Pc rfl rfl (R_fa0 (o' := 0) rfl rfl rfl rfl rfl rfl (P_some rfl (O_cons ?_))))))))))))
          refine O_read rfl (R_load rfl rfl rfl (Ex.mk _ (Cell.seg 4 0 rfl rfl rfl) (Pc rfl rfl (R_neqD rfl rfl (Pn rfl (hK2291 _ _ _ ?_))))))
          refine W_cond_v (b := !(decide (r8 = r5.node))) rfl (fun hc9 => ?_) (fun hc9 => ?_)
          · replace h2283 := cond_t hc9 h2283
            refine WP.exit (B_here ?_)
            have e_ := Option.some.inj h2283
            subst e_
            exact ⟨out4, q2, A6, c6, ch7, so5, rfl, SubFr.of ⟨rfl, rfl, rfl, rfl, rfl, rfl, rfl, rfl, trivial⟩, SegSub.sel _ [some 1, some 2, some 3, some 4] 5, (hO7), (hP5), rfl⟩
          replace h2283 := cond_f hc9 h2283
          refine WP.skip (hK2290 _ _ _ (WP.seq_k (fun K2292 hK2292 => Wr Tt_ok rfl (R_fa0 (o' := 1) rfl rfl rfl rfl rfl rfl (Pc rfl rfl (R_loadA rfl rfl rfl rfl (LA_ (vs := [.int .i64 r5.leg.Secs, .int .i64 r5.leg.Meters]) 4 0 rfl rfl rfl rfl (Pc rfl rfl (R_loadA rfl rfl rfl rfl (LA_ (vs := [.int .i64 x4.From, .int .i64 x4.To, .int .i64 x4.Meters, .int .i64 x4.Secs]) 0 0 rfl rfl rfl rfl (P_some rfl ?_)))))))))))
          refine O_cons (O_call (all := [.agg #[.int .i64 r5.leg.Secs, .int .i64 r5.leg.Meters], .agg #[.int .i64 x4.From, .int .i64 x4.To, .int .i64 x4.Meters, .int .i64 x4.Secs]]) rfl rfl rfl ?_)
          obtain ⟨r10, hx10, h2283⟩ := obind h2283
          refine road_after_fn  hx10 ((P_some rfl (O_cons (O_alloc (cs := #[.int .i64 0, .int .i64 0]) rfl rfl (fun g4 => P_some rfl (O_cons (O_store (vs := [.int .i64 r10.Secs, .int .i64 r10.Meters]) rfl rfl rfl rfl rfl rfl (ST_ (L' := ([(g4, .cells #[.int .i64 r10.Secs, .int .i64 r10.Meters] 51 (0, 0))] :: [(g3, .cells #[.int .i64 x4.From, .int .i64 x4.To, .int .i64 x4.Meters, .int .i64 x4.Secs] 86 (0, 0))] :: [(g1, .cells #[.int .i64 r1.Nodes, .slice A1 r1.Edges.length c1] 24 (0, 0))] :: ch7 :: so5 :: [(g2, .cells #[.int .i64 r5.node, .int .i64 r5.leg.Secs, .int .i64 r5.leg.Meters] 129 (0, 0))] :: L)) 0 0 rfl rfl rfl rfl (P_none (O_nil (hK2292 _ _ _ (WP.seq_k (fun K2297 hK2297 => WP.drawn (id := 20) (l' := List.replicate 6 true) wide Tt_ok _ Kept.refl [(true, 0), (true, 1), (true, 2), (true, 3), (true, 4), (false, 5)] (by kernel_rfl) (by kernel_rfl) rfl ?_)))))))))))))
          refine PL_t rfl (R_loadA rfl rfl rfl rfl (LA_ (vs := [.int .i64 r10.Secs, .int .i64 r10.Meters]) 0 0 rfl rfl rfl rfl (Pt rfl rfl (R_move rfl (Pt rfl rfl (R_move rfl (Pt rfl rfl ?_)))))))
          obtain ⟨x5, hx11, h2283⟩ := obind h2283
          obtain ⟨a5, cs5, hA6, hr5, _, hc10⟩ := Rds.getI (Own.rds (L := ([(g4, .cells #[.int .i64 r10.Secs, .int .i64 r10.Meters] 51 (0, 0))] :: [(g3, .cells #[.int .i64 x4.From, .int .i64 x4.To, .int .i64 x4.Meters, .int .i64 x4.Secs] 86 (0, 0))] :: [(g1, .cells #[.int .i64 r1.Nodes, .slice A1 r1.Edges.length c1] 24 (0, 0))] :: ch7 :: so5 :: [(g2, .cells #[.int .i64 r5.node, .int .i64 r5.leg.Secs, .int .i64 r5.leg.Meters] 129 (0, 0))] :: L)) hO7 3 rfl) hx11
          obtain rfl := hr5
          refine R_iaG rfl rfl rfl rfl rfl rfl ⟨(getI_lt hx11).1, (getI_lt hx11).2.1⟩ hA6 (Pt rfl rfl (R_loadA rfl rfl rfl rfl (Ex.mk [.int .i64 x5.Secs, .int .i64 x5.Meters] ⟨rfl, hc10⟩ (P_some rfl (PL_f rfl (O_call (all := [.agg #[.int .i64 r10.Secs, .int .i64 r10.Meters], .agg #[.int .i64 x5.Secs, .int .i64 x5.Meters]]) rfl rfl rfl ?_))))))
          obtain ⟨r11, hx12, h2283⟩ := obind h2283
          refine road_better_fn  hx12 (?_)
          refine ⟨Kept.refl, ?_⟩
          refine P_some rfl (PL_nil (AN.done0 (by kernel_rfl) (hK2297 _ _ _ ?_)))
          refine W_cond_v (b := r11) rfl (fun hc11 => ?_) (fun hc11 => ?_)
          · replace h2283 := cond_t hc11 h2283
            refine WP.seq_k (fun K2298 hK2298 => Wr Tt_ok rfl (R_move rfl (Pc rfl rfl (R_move rfl (Pc rfl rfl (R_loadA rfl rfl rfl rfl (LA_ (vs := [.int .i64 r10.Secs, .int .i64 r10.Meters]) 0 0 rfl rfl rfl rfl (P_some rfl (O_cons ?_)))))))))
            obtain ⟨x6, hx13, h2283⟩ := obind h2283
            obtain ⟨a6, cs6, hA7, hr6, _, hc12⟩ := Rds.getI (Own.rds (L := ([(g4, .cells #[.int .i64 r10.Secs, .int .i64 r10.Meters] 51 (0, 0))] :: [(g3, .cells #[.int .i64 x4.From, .int .i64 x4.To, .int .i64 x4.Meters, .int .i64 x4.Secs] 86 (0, 0))] :: [(g1, .cells #[.int .i64 r1.Nodes, .slice A1 r1.Edges.length c1] 24 (0, 0))] :: ch7 :: so5 :: [(g2, .cells #[.int .i64 r5.node, .int .i64 r5.leg.Secs, .int .i64 r5.leg.Meters] 129 (0, 0))] :: L)) hO7 3 rfl) hx13
            obtain rfl := hr6
            refine O_read rfl (R_iaG rfl rfl rfl rfl rfl rfl ⟨(getI_lt hx13).1, (getI_lt hx13).2.1⟩ hA7 (P_some rfl (O_cons (O_store (vs := [.int .i64 r10.Secs, .int .i64 r10.Meters]) rfl rfl rfl rfl rfl rfl ?_))))
            rw [← Addr.add_zero' ((a6.add (r9.toNat * 2)))]
            refine Own.store (r := r_api_Leg) (x' := r10) (o := 0) (sz := 2) 3 rfl hO7 hA7 hx13 rfl rfl (by rintro _ rfl; rfl) fun ch8 hO8 => ?_
            rw [← length_setI out4 r9 r10] at hO8 ⊢
            refine P_none (O_nil (hK2298 _ _ _ (Wr Tt_ok rfl (R_move rfl (Pc rfl rfl (R_move rfl (Pc rfl rfl (R_loadA rfl rfl rfl rfl (LA_ (vs := [.int .i64 r10.Secs, .int .i64 r10.Meters]) 0 0 rfl rfl rfl rfl (P_some rfl (O_cons ?_)))))))))))
            refine O_read rfl (R_build rfl rfl rfl rfl (F_cons (cells' := [.int .i64 r9, .int .i64 0, .int .i64 0]) rfl rfl rfl rfl (F_cons (cells' := [.int .i64 r9, .int .i64 r10.Secs, .int .i64 r10.Meters]) rfl rfl rfl rfl (F_nil (P_some rfl (O_cons (O_call (all := [pv1, .agg #[.int .i64 r9, .int .i64 r10.Secs, .int .i64 r10.Meters]]) rfl rfl rfl (Fn.seg (L2 := (so5 :: [(g4, .cells #[.int .i64 r10.Secs, .int .i64 r10.Meters] 51 (0, 0))] :: [(g3, .cells #[.int .i64 x4.From, .int .i64 x4.To, .int .i64 x4.Meters, .int .i64 x4.Secs] 86 (0, 0))] :: [(g1, .cells #[.int .i64 r1.Nodes, .slice A1 r1.Edges.length c1] 24 (0, 0))] :: ch8 :: [(g2, .cells #[.int .i64 r5.node, .int .i64 r5.leg.Secs, .int .i64 r5.leg.Meters] 129 (0, 0))] :: L)) (SegSub.sel _ [some 4, some 0, some 1, some 2, some 3, some 5] 6) ?_))))))))
            obtain ⟨r12, hx14, h2283⟩ := obind h2283
            refine pqueue_Queue_stop_Push_fn hP5 hx14 (fun so6 hP6 => Pn rfl ?_)
            have e_ := Option.some.inj h2283
            subst e_
            exact ⟨(setI out4 r9 r10), r12, A6, c6, ch8, so6, rfl, SubFr.of ⟨rfl, rfl, rfl, rfl, rfl, rfl, rfl, rfl, trivial⟩, SegSub.sel _ [some 3, some 4, some 0, some 5] 6, (hO8), (hP6), rfl⟩
          replace h2283 := cond_f hc11 h2283
          apply WP.skip
          have e_ := Option.some.inj h2283
          subst e_
          exact ⟨out4, q2, A6, c6, ch7, so5, rfl, SubFr.of ⟨rfl, rfl, rfl, rfl, rfl, rfl, rfl, rfl, trivial⟩, SegSub.sel _ [some 2, some 3, some 4, some 5] 6, (hO7), (hP5), rfl⟩
        rintro fr2283 μ2283 L2283 hm2283 ⟨out5, q3, A7, c7, ch9, so7, ho2283, hF2283, hS2283, hO9, hP7, hu2283⟩
        subst ho2283
        replace hb2270 := oun_mk hb2270
        subst hu2283
        refine hK2282 _ _ _ (WP.at hF2283 hS2283 (Wr Tt_ok rfl (R_add rfl rfl (Pc rfl rfl (R_move rfl (Pn rfl ?_))))))
        have e_ := Option.some.inj hb2270
        subst e_
        exact ⟨_, rfl, A7, c7, ch9, so7, SubFr.of ⟨rfl, rfl, rfl, rfl, rfl, rfl, rfl, rfl, trivial⟩, SegSub.sel _ [some 0, some 1, some 2, some 3] 4, (hO9), (hP7), rfl⟩
      replace hb2270 := cond_f hc7 hb2270
      refine WP.exit (B_here ?_)
      have e_ := Option.some.inj hb2270
      subst e_
      have hq_ := hq2270 _ rfl
      subst hq_
      exact ⟨out4, q2, A6, c6, ch7, so5, rfl, SubFr.of ⟨rfl, rfl, rfl, rfl, trivial⟩, SegSub.sel _ [some 0, some 1, some 2] 4, (hO7), (hP5), rfl⟩
    rintro fr2209 μ2209 L2209 hm2209 ⟨out6, q4, A8, c8, ch10, so8, ho2209, hF2209, hS2209, hO10, hP8, hu2209⟩
    subst ho2209
    replace hb2185 := oun_mk hb2185
    subst hu2209
    have e_ := Option.some.inj hb2185
    subst e_
    exact ⟨_, rfl, A8, c8, ch10, so8, SubFr.trans (fr := [(2, .func (.func 74) #[] #[]), (3, .pointer (some ⟨g1, 0, none⟩)), (7, .slice A8 out6.length c8), (9, pv1)]) (SubFr.of ⟨rfl, rfl, rfl, rfl, trivial⟩) hF2209, SegSub.trans (M := ([(g1, .cells #[.int .i64 r1.Nodes, .slice A1 r1.Edges.length c1] 24 (0, 0))] :: ch10 :: so8 :: L)) (SegSub.sel _ [some 0, some 1, some 2] 3) hS2209, (hO10), (hP8), rfl⟩
  intro _ _ _ _ hf_; exact hf_.elim

theorem road_Legs_fn {μ : Gh} {L : List Seg} {R : Value → Gh → List Seg → Prop} {F : Nat} {r1 : T_api_Road} {f_from1 : Int} {A1 : Option Addr} {c1 : Nat} {res1 : (List T_api_Leg)} {res2 : Int}
    (hl1 : r1.Edges.length ≤ c1 ∧ c1 ≤ maxLen) (hA1 : ArrR r_api_Edge μ A1 r1.Edges) (h : road_Legs F r1 f_from1 = some (res1, res2))
    (hR : ∀ (μ' : Gh) (A0 : Option Addr) (c0 : Nat) (ch0 : Seg), μ.le μ' → Own r_api_Leg 51 μ' (.slice A0 res1.length c0) res1 ch0 → R (.tuple #[.slice A0 res1.length c0, .int .i64 res2]) μ' (ch0 :: L)) :
    Fn Try.prog 72 [.agg #[.int .i64 r1.Nodes, .slice A1 r1.Edges.length c1], .int .i64 f_from1] μ (L) R := by
  unfold road_Legs at h
  refine Fn.of_body Tt_ok Try.func72 (by kernel_rfl) rfl Try.ntmps72 (by simp) ?_
  simp only [Try.f72, argFr, List.zipIdx, List.map, Nat.reduceAdd]
  refine WP.seq_k (fun K2339 hK2339 => WP.region Tt_ok (O_cons (O_box (cs := #[.int .i64 r1.Nodes, .slice A1 r1.Edges.length c1]) rfl rfl (fun g1 => Pc rfl rfl (R_assign rfl (Pc rfl rfl (R_assign rfl (Pn rfl (hK2339 _ _ _ (WP.seq_k (fun K2343 hK2343 => WP.seq_k (fun K2344 hK2344 => WP.region Tt_ok ?_))))))))))))
  refine O_cons (O_read rfl (R_loadA rfl rfl rfl rfl (LA_ (vs := [.int .i64 r1.Nodes, .slice A1 r1.Edges.length c1]) 0 0 rfl rfl rfl rfl (P_some rfl (O_cons (O_call (all := [.agg #[.int .i64 r1.Nodes, .slice A1 r1.Edges.length c1]]) rfl rfl rfl ?_))))))
  obtain ⟨r2, hx1, h⟩ := obind h
  refine road_Check_fn hl1 hA1 hx1 (fun v1 hm_1 => ?_)
  replace hA1 := hA1.mono hm_1
  refine Pc rfl rfl (R_assign rfl (Pn rfl (hK2344 _ _ _ (WP.seq_k (fun K2345 hK2345 => Wr Tt_ok rfl (R_move rfl (Pc rfl rfl (R_neqD rfl rfl (Pn rfl ?_)))))))))
  refine hK2345 _ _ _ ?_
  refine W_cond_v (b := !(decide (r2 = 0))) rfl (fun hc1 => ?_) (fun hc1 => ?_)
  · replace h := cond_t hc1 h
    refine WP.seq_k (fun K2346 hK2346 => Wr Tt_ok rfl (R_move rfl (Pc rfl rfl (R_assign rfl (Pc rfl rfl (R_assign rfl (Pn rfl (hK2346 _ _ _ (WP.ret ?_)))))))))
    have e_ := Option.some.inj h
    obtain ⟨e0a_, e0b_⟩ := Prod.mk.inj e_
    clear e_
    subst e0a_
    subst e0b_
    refine S_tmp rfl (S_tmp rfl (S_nil (Upd.selS [none] 1 ?_)))
    exact Upd.done (hR _ none 0 [] (hm_1) (Own.nil))
  replace h := cond_f hc1 h
  refine WP.skip (hK2343 _ _ _ (WP.seq_k (fun K2349 hK2349 => WP.seq_k (fun K2350 hK2350 => ?_))))
  obtain ⟨o2351, h2351, h⟩ := obind h
  refine WP.cutK (fun fr_ μ_ L_ => ∃ (v2 : Bool), v2 = o2351 ∧ SubFr [(1, .int .i64 f_from1), (2, .pointer (some ⟨g1, 0, none⟩)), (19, .bool v2)] fr_ ∧ SegSub ([(g1, .cells #[.int .i64 r1.Nodes, .slice A1 r1.Edges.length c1] 24 (0, 0))] :: L) L_) ?_ ?_
  · refine Wr Tt_ok rfl (R_move rfl (Pc rfl rfl (R_lssD rfl rfl (Pc rfl rfl (R_move rfl (P_some rfl ?_))))))
    refine O_gv (z := (decide (f_from1 < 0))) rfl rfl (fun hc2 => ?_) (fun hc2 => ?_)
    · replace h2351 := cond_f hc2 h2351
      refine O_read rfl (R_move rfl (P_some rfl (O_gY rfl rfl hc2 (O_read rfl (R_fa0 (o' := 0) rfl rfl rfl rfl rfl rfl (P_some rfl (O_gY rfl rfl hc2 (O_read rfl (R_load rfl rfl rfl (Ex.mk _ (Cell.seg 0 0 rfl rfl rfl) (P_some rfl (O_gY rfl rfl hc2 (O_read rfl (R_geqD rfl rfl (Pc rfl rfl ?_)))))))))))))))
      refine R_pick_F rfl hc2 rfl (Pn rfl ?_)
      have e_ := Option.some.inj h2351
      subst e_
      exact ⟨(decide (r1.Nodes ≤ f_from1)), rfl, SubFr.of ⟨rfl, rfl, rfl, trivial⟩, SegSub.sel _ [some 0] 1⟩
    replace h2351 := cond_t hc2 h2351
    refine P_some rfl (O_gN rfl rfl hc2 (P_some rfl (O_gN rfl rfl hc2 (P_some rfl (O_gN rfl rfl hc2 (Pc rfl rfl (R_pick_T rfl hc2 rfl (Pn rfl ?_))))))))
    have e_ := Option.some.inj h2351
    subst e_
    exact ⟨true, rfl, SubFr.of ⟨rfl, rfl, rfl, trivial⟩, SegSub.sel _ [some 0] 1⟩
  rintro fr2351 μ2351 L2351 hm2351 ⟨v2, ho2351, hF2351, hS2351⟩
  subst ho2351
  replace hA1 := hA1.mono hm2351
  refine hK2350 _ _ _ (WP.at hF2351 hS2351 ?_)
  refine W_cond_v (b := v2) rfl (fun hc3 => ?_) (fun hc3 => ?_)
  · replace h := cond_t hc3 h
    refine WP.seq_k (fun K2354 hK2354 => Wr Tt_ok rfl (R_assign rfl (Pc rfl rfl (R_assign rfl (Pn rfl (hK2354 _ _ _ (WP.ret ?_)))))))
    have e_ := Option.some.inj h
    obtain ⟨e0a_, e0b_⟩ := Prod.mk.inj e_
    clear e_
    subst e0a_
    subst e0b_
    refine S_tmp rfl (S_tmp rfl (S_nil (Upd.selS [none] 1 ?_)))
    exact Upd.done (hR _ none 0 [] (Gh.le.trans hm_1 (hm2351)) (Own.nil))
  replace h := cond_f hc3 h
  refine WP.skip (hK2349 _ _ _ (WP.seq_k (fun K2357 hK2357 => Wr Tt_ok rfl (R_loadA rfl rfl rfl rfl (LA_ (vs := [.int .i64 r1.Nodes, .slice A1 r1.Edges.length c1]) 0 0 rfl rfl rfl rfl (Pc rfl rfl (R_move rfl (P_some rfl (O_cons (O_call (all := [.agg #[.int .i64 r1.Nodes, .slice A1 r1.Edges.length c1], .int .i64 f_from1, .func (.func 74) #[] #[]]) rfl rfl rfl ?_))))))))))
  obtain ⟨r3, hx2, h⟩ := obind h
  refine road_spread_c74_fn hl1 hA1 hx2 (fun A2 c2 ch1 hO1 => Pc rfl rfl (R_assign rfl (Pc rfl rfl (R_assign rfl (Pn rfl (hK2357 _ _ _ (WP.ret ?_)))))))
  have e_ := Option.some.inj h
  obtain ⟨e0a_, e0b_⟩ := Prod.mk.inj e_
  clear e_
  subst e0a_
  subst e0b_
  refine S_tmp rfl (S_tmp rfl (S_nil (Upd.selS [some 0] 2 ?_)))
  exact Upd.done (hR _ A2 c2 ch1 (Gh.le.trans hm_1 (hm2351)) (hO1))

theorem tour_walk_leg_fn {μ : Gh} {L : List Seg} {R : Value → Gh → List Seg → Prop} {F : Nat} {w1 : T_tour_walk} {f_to1 : Int} {pv1 : Value} {so1 : Seg} {res1 : T_api_Leg} {res2 : Bool} {res3 : T_tour_walk}
    (hP1 : Obj_tour_walk μ pv1 w1 so1) (h : tour_walk_leg F w1 f_to1 = some (res1, res2, res3))
    (hR : ∀ (μ' : Gh) (sp0 : Seg), μ.le μ' → Obj_tour_walk μ' pv1 res3 sp0 → R (.tuple #[.agg #[.int .i64 res1.Secs, .int .i64 res1.Meters], .bool res2]) μ' (sp0 :: L)) :
    Fn Try.prog 64 [pv1, .int .i64 f_to1] μ (so1 :: L) R := by
  unfold tour_walk_leg at h
  refine Fn.of_body Tt_ok Try.func64 (by kernel_rfl) rfl Try.ntmps64 (by simp) ?_
  simp only [Try.f64, argFr, List.zipIdx, List.map, Nat.reduceAdd]
  refine WP.seq_k (fun K2408 hK2408 => WP.region Tt_ok (O_cons (O_alloc (cs := #[.int .i64 0, .int .i64 0]) rfl rfl (fun g1 => Pc rfl rfl (R_assign rfl (Pn rfl (hK2408 _ _ _ (WP.seq_k (fun K2411 hK2411 => ?_)))))))))
  obtain ⟨g2, A1, c1, A2, c2, A3, c3, g3, es1, cn1, A4, c4, ch1, hv1, rfl, ⟨hl1, hA1⟩, ⟨hl2, hA2⟩, ⟨hl3, hA3⟩, hM1, hO1⟩ := hP1
  subst hv1
  refine WP.seg (L2 := ([(g1, .cells #[.int .i64 0, .int .i64 0] 51 (0, 0))] :: [(g2, .cells #[.int .i64 w1.place.node, .int .i64 w1.place.time, .int .i64 w1.place.load, .int .i64 w1.place.meters, .int .i64 w1.p.Road.Nodes, .slice A1 w1.p.Road.Edges.length c1, .slice A2 w1.p.Vehicles.length c2, .slice A3 w1.p.Demands.length c3, .int .i64 w1.p.Unload, .int .i64 w1.p.UnloadSecs, .string w1.v.ID, .int .i64 w1.v.Depot, .int .i64 w1.v.Shift.From, .int .i64 w1.v.Shift.To, .int .i64 w1.v.Grams, .int .i64 w1.v.Kinds, .map (some g3), .slice A4 w1.visits.length c4] 73 (0, 0))] :: [(g3, .map es1 cn1)] :: ch1 :: L)) (SegSub.flat (by simp)) (WP.drawn (id := 1) (l' := List.replicate 15 true) wide Tt_ok _ Kept.refl [(true, 0), (true, 1), (true, 2), (true, 3), (true, 4), (true, 5), (true, 6), (true, 7), (true, 8), (true, 9), (true, 10), (true, 11), (true, 12), (true, 13), (true, 14)] (by kernel_rfl) (by kernel_rfl) rfl ?_)
  refine PL_t rfl (R_move rfl (Pt rfl rfl (R_nilP rfl (Pt rfl rfl (R_fa0 (o' := 16) rfl rfl rfl rfl rfl rfl (Pt rfl rfl (R_load rfl rfl rfl (Ex.mk _ (Cell.seg 1 0 rfl rfl rfl) (Pt rfl rfl (R_move rfl (Pt rfl rfl (R_nilP rfl ?_))))))))))))
  refine Pt rfl rfl (R_fa0 (o' := 0) rfl rfl rfl rfl rfl rfl (Pt rfl rfl (R_fa0 (o' := 0) rfl rfl rfl rfl rfl rfl (Pt rfl rfl (R_load rfl rfl rfl (Ex.mk _ (Cell.seg 1 0 rfl rfl rfl) (Pt rfl rfl ?_)))))))
  obtain ⟨A5, c5, hx1, hl4, hA4⟩ := MapF.look (L := ([(g1, .cells #[.int .i64 0, .int .i64 0] 51 (0, 0))] :: [(g2, .cells #[.int .i64 w1.place.node, .int .i64 w1.place.time, .int .i64 w1.place.load, .int .i64 w1.place.meters, .int .i64 w1.p.Road.Nodes, .slice A1 w1.p.Road.Edges.length c1, .slice A2 w1.p.Vehicles.length c2, .slice A3 w1.p.Demands.length c3, .int .i64 w1.p.Unload, .int .i64 w1.p.UnloadSecs, .string w1.v.ID, .int .i64 w1.v.Depot, .int .i64 w1.v.Shift.From, .int .i64 w1.v.Shift.To, .int .i64 w1.v.Grams, .int .i64 w1.v.Kinds, .map (some g3), .slice A4 w1.visits.length c4] 73 (0, 0))] :: [(g3, .map es1 cn1)] :: ch1 :: L)) (g := g3) hM1 (ObjAt.seg 2 0 rfl rfl) w1.place.node
  refine R_look rfl rfl rfl rfl rfl rfl rfl rfl (Ex.mk _ hx1 (Pt rfl rfl (R_move rfl (Pt rfl rfl (R_ext rfl rfl (Pt rfl rfl (R_ext rfl rfl (Pt rfl rfl (R_assign rfl (Pt rfl rfl (R_assign rfl (P_some rfl ?_))))))))))))
  refine PL_nil (AN.done0 (by kernel_rfl) (hK2411 _ _ _ (WP.seq_k (fun K2444 hK2444 => WP.seq_k (fun K2445 hK2445 => Wr Tt_ok rfl (R_move rfl (Pc rfl rfl (R_not rfl (Pn rfl (hK2445 _ _ _ ?_))))))))))
  obtain ⟨o2446, h2446, h⟩ := obind h
  refine WP.cutK (fun fr_ μ_ L_ => ∃ (l1 : (List T_api_Leg)) (m1 : (List (Int × (List T_api_Leg)))) (A7 : Option Addr) (c7 : Nat) (es3 : Array MapEntry) (cn3 : Nat), (l1, m1) = o2446 ∧ SubFr [(1, .int .i64 f_to1), (4, .pointer (some ⟨g1, 0, none⟩)), (6, .slice A7 l1.length c7)] fr_ ∧ SegSub ([(g1, .cells #[.int .i64 0, .int .i64 0] 51 (0, 0))] :: [(g2, .cells #[.int .i64 w1.place.node, .int .i64 w1.place.time, .int .i64 w1.place.load, .int .i64 w1.place.meters, .int .i64 w1.p.Road.Nodes, .slice A1 w1.p.Road.Edges.length c1, .slice A2 w1.p.Vehicles.length c2, .slice A3 w1.p.Demands.length c3, .int .i64 w1.p.Unload, .int .i64 w1.p.UnloadSecs, .string w1.v.ID, .int .i64 w1.v.Depot, .int .i64 w1.v.Shift.From, .int .i64 w1.v.Shift.To, .int .i64 w1.v.Grams, .int .i64 w1.v.Kinds, .map (some g3), .slice A4 w1.visits.length c4] 73 (0, 0))] :: [(g3, .map es3 cn3)] :: ch1 :: L) L_ ∧ (l1.length ≤ c7 ∧ c7 ≤ maxLen) ∧ ArrR r_api_Leg μ_ A7 l1 ∧ MapF r_api_Leg μ_ es3 cn3 m1) ?_ ?_
  · refine W_cond_v (b := !((mget w1.place.node w1.legs).isSome)) rfl (fun hc1 => ?_) (fun hc1 => ?_)
    · replace h2446 := cond_t hc1 h2446
      refine WP.seq_k (fun K2447 hK2447 => WP.drawn (id := 3) (l' := List.replicate 15 true) wide Tt_ok _ Kept.refl [(true, 0), (true, 1), (true, 2), (true, 3), (true, 4), (true, 5), (true, 6), (true, 7), (true, 8), (true, 9), (false, 10), (true, 11), (true, 12), (true, 13), (true, 14)] (by kernel_rfl) (by kernel_rfl) rfl (PL_t rfl (R_move rfl (Pt rfl rfl (R_nilP rfl (Pt rfl rfl (R_fa0 (o' := 4) rfl rfl rfl rfl rfl rfl (Pt rfl rfl (R_fa0 (o' := 4) rfl rfl rfl rfl rfl rfl (Pt rfl rfl (R_loadA rfl rfl rfl rfl (LA_ (vs := [.int .i64 w1.p.Road.Nodes, .slice A1 w1.p.Road.Edges.length c1]) 1 0 rfl rfl rfl rfl (P_some rfl ?_)))))))))))))
      refine PL_t rfl (R_move rfl (Pt rfl rfl (R_nilP rfl (Pt rfl rfl (R_fa0 (o' := 0) rfl rfl rfl rfl rfl rfl (Pt rfl rfl (R_fa0 (o' := 0) rfl rfl rfl rfl rfl rfl (Pt rfl rfl (R_load rfl rfl rfl (Ex.mk _ (Cell.seg 1 0 rfl rfl rfl) (P_some rfl (PL_f rfl (O_call (all := [.agg #[.int .i64 w1.p.Road.Nodes, .slice A1 w1.p.Road.Edges.length c1], .int .i64 w1.place.node]) rfl rfl rfl ?_)))))))))))))
      obtain ⟨⟨r1, r2⟩, hx2, h2446⟩ := obind h2446
      replace h2446 := oun_mk h2446
      refine road_Legs_fn hl1 hA1 hx2 (fun v1 A6 c6 ch2 hm_1 hO2 => ?_)
      replace hA1 := hA1.mono hm_1
      replace hA2 := hA2.mono hm_1
      replace hA3 := hA3.mono hm_1
      replace hM1 := hM1.mono hm_1
      replace hO1 := hO1.mono hm_1
      replace hA4 := hA4.mono hm_1
      refine ⟨Kept.more (Kept.refl), ?_⟩
      refine Pt rfl rfl (R_move rfl (Pt rfl rfl (R_ext rfl rfl (Pt rfl rfl (R_ext rfl rfl (Pt rfl rfl (R_assign rfl (P_some rfl (PL_nil (AN.done0 (by kernel_rfl) (hK2447 _ _ _ (WP.drawn (id := 4) (l' := List.replicate 11 true) wide Tt_ok ([(g1, .cells #[.int .i64 0, .int .i64 0] 51 (0, 0))] :: [(g2, .cells #[.int .i64 w1.place.node, .int .i64 w1.place.time, .int .i64 w1.place.load, .int .i64 w1.place.meters, .int .i64 w1.p.Road.Nodes, .slice A1 w1.p.Road.Edges.length c1, .slice A2 w1.p.Vehicles.length c2, .slice A3 w1.p.Demands.length c3, .int .i64 w1.p.Unload, .int .i64 w1.p.UnloadSecs, .string w1.v.ID, .int .i64 w1.v.Depot, .int .i64 w1.v.Shift.From, .int .i64 w1.v.Shift.To, .int .i64 w1.v.Grams, .int .i64 w1.v.Kinds, .map (some g3), .slice A4 w1.visits.length c4] 73 (0, 0))] :: ch1 :: L) (Kept.ofT (keep := [[(g1, .cells #[.int .i64 0, .int .i64 0] 51 (0, 0))], [(g2, .cells #[.int .i64 w1.place.node, .int .i64 w1.place.time, .int .i64 w1.place.load, .int .i64 w1.place.meters, .int .i64 w1.p.Road.Nodes, .slice A1 w1.p.Road.Edges.length c1, .slice A2 w1.p.Vehicles.length c2, .slice A3 w1.p.Demands.length c3, .int .i64 w1.p.Unload, .int .i64 w1.p.UnloadSecs, .string w1.v.ID, .int .i64 w1.v.Depot, .int .i64 w1.v.Shift.From, .int .i64 w1.v.Shift.To, .int .i64 w1.v.Grams, .int .i64 w1.v.Kinds, .map (some g3), .slice A4 w1.visits.length c4] 73 (0, 0))], ch1]) (A := [ch2, [(g1, .cells #[.int .i64 0, .int .i64 0] 51 (0, 0))], [(g2, .cells #[.int .i64 w1.place.node, .int .i64 w1.place.time, .int .i64 w1.place.load, .int .i64 w1.place.meters, .int .i64 w1.p.Road.Nodes, .slice A1 w1.p.Road.Edges.length c1, .slice A2 w1.p.Vehicles.length c2, .slice A3 w1.p.Demands.length c3, .int .i64 w1.p.Unload, .int .i64 w1.p.UnloadSecs, .string w1.v.ID, .int .i64 w1.v.Depot, .int .i64 w1.v.Shift.From, .int .i64 w1.v.Shift.To, .int .i64 w1.v.Grams, .int .i64 w1.v.Kinds, .map (some g3), .slice A4 w1.visits.length c4] 73 (0, 0))], [(g3, .map es1 cn1)], ch1]) (by simp)) [(true, 0), (true, 1), (true, 2), (true, 3), (true, 4), (true, 5), (true, 6), (true, 7), (true, 8), (true, 9), (false, 10)] (by kernel_rfl) (by kernel_rfl) rfl ?_))))))))))))
      refine PL_t rfl (R_move rfl (Pt rfl rfl (R_nilP rfl (Pt rfl rfl (R_fa0 (o' := 16) rfl rfl rfl rfl rfl rfl (Pt rfl rfl (R_load rfl rfl rfl (Ex.mk _ (Cell.seg 1 0 rfl rfl rfl) (Pt rfl rfl (R_move rfl (Pt rfl rfl (R_nilP rfl ?_))))))))))))
      refine Pt rfl rfl (R_fa0 (o' := 0) rfl rfl rfl rfl rfl rfl (Pt rfl rfl (R_fa0 (o' := 0) rfl rfl rfl rfl rfl rfl (Pt rfl rfl (R_load rfl rfl rfl (Ex.mk _ (Cell.seg 1 0 rfl rfl rfl) (Pt rfl rfl (R_move rfl (P_some rfl (PL_f rfl (O_mapUpdate rfl rfl rfl ?_)))))))))))
      have hl5 := Own.lenOk hO2
      refine SemU.pre (Upd.frzOwn 0 rfl hO2 fun v2 hm_2 hA5 => Upd.done ?_)
      replace hA1 := hA1.mono hm_2
      replace hA2 := hA2.mono hm_2
      replace hA3 := hA3.mono hm_2
      replace hM1 := hM1.mono hm_2
      replace hO1 := hO1.mono hm_2
      replace hA4 := hA4.mono hm_2
      replace hO2 := hO2.mono hm_2
      refine semu_mapF Tt_ok rfl rfl rfl rfl 3 rfl hM1 rfl hl5 hA5 fun es2 cn2 hM2 => ?_
      refine ⟨Kept.ofT (keep := [[(g1, .cells #[.int .i64 0, .int .i64 0] 51 (0, 0))], [(g2, .cells #[.int .i64 w1.place.node, .int .i64 w1.place.time, .int .i64 w1.place.load, .int .i64 w1.place.meters, .int .i64 w1.p.Road.Nodes, .slice A1 w1.p.Road.Edges.length c1, .slice A2 w1.p.Vehicles.length c2, .slice A3 w1.p.Demands.length c3, .int .i64 w1.p.Unload, .int .i64 w1.p.UnloadSecs, .string w1.v.ID, .int .i64 w1.v.Depot, .int .i64 w1.v.Shift.From, .int .i64 w1.v.Shift.To, .int .i64 w1.v.Grams, .int .i64 w1.v.Kinds, .map (some g3), .slice A4 w1.visits.length c4] 73 (0, 0))], ch1]) (A := [[], [(g1, .cells #[.int .i64 0, .int .i64 0] 51 (0, 0))], [(g2, .cells #[.int .i64 w1.place.node, .int .i64 w1.place.time, .int .i64 w1.place.load, .int .i64 w1.place.meters, .int .i64 w1.p.Road.Nodes, .slice A1 w1.p.Road.Edges.length c1, .slice A2 w1.p.Vehicles.length c2, .slice A3 w1.p.Demands.length c3, .int .i64 w1.p.Unload, .int .i64 w1.p.UnloadSecs, .string w1.v.ID, .int .i64 w1.v.Depot, .int .i64 w1.v.Shift.From, .int .i64 w1.v.Shift.To, .int .i64 w1.v.Grams, .int .i64 w1.v.Kinds, .map (some g3), .slice A4 w1.visits.length c4] 73 (0, 0))], [(g3, .map es2 cn2)], ch1]) (by simp), ?_⟩
      refine P_none (PL_nil (AN.done0 (by kernel_rfl) ?_))
      have e_ := Option.some.inj h2446
      subst e_
      exact ⟨r1, (mput w1.place.node r1 w1.legs), A6, c6, es2, cn2, rfl, SubFr.of ⟨rfl, rfl, rfl, trivial⟩, SegSub.sel _ [some 1, some 2, some 3, some 4] 5, (hl5), (hA5), (hM2)⟩
    replace h2446 := cond_f hc1 h2446
    apply WP.skip
    have e_ := Option.some.inj h2446
    subst e_
    exact ⟨((mget w1.place.node w1.legs).getD []), w1.legs, A5, c5, es1, cn1, rfl, SubFr.of ⟨rfl, rfl, rfl, trivial⟩, SegSub.sel _ [some 0, some 1, some 2, some 3] 4, (hl4), (hA4), (hM1)⟩
  rintro fr2446 μ2446 L2446 hm2446 ⟨l1, m1, A7, c7, es3, cn3, ho2446, hF2446, hS2446, hl6, hA6, hM3⟩
  subst ho2446
  replace h := oun_mk h
  replace hA1 := hA1.mono hm2446
  replace hA2 := hA2.mono hm2446
  replace hA3 := hA3.mono hm2446
  replace hM1 := hM1.mono hm2446
  replace hO1 := hO1.mono hm2446
  replace hA4 := hA4.mono hm2446
  refine hK2444 _ _ _ (WP.at hF2446 hS2446 (WP.seq_k (fun K2487 hK2487 => WP.drawn (id := 5) (l' := List.replicate 12 true) wide Tt_ok ([(g2, .cells #[.int .i64 w1.place.node, .int .i64 w1.place.time, .int .i64 w1.place.load, .int .i64 w1.place.meters, .int .i64 w1.p.Road.Nodes, .slice A1 w1.p.Road.Edges.length c1, .slice A2 w1.p.Vehicles.length c2, .slice A3 w1.p.Demands.length c3, .int .i64 w1.p.Unload, .int .i64 w1.p.UnloadSecs, .string w1.v.ID, .int .i64 w1.v.Depot, .int .i64 w1.v.Shift.From, .int .i64 w1.v.Shift.To, .int .i64 w1.v.Grams, .int .i64 w1.v.Kinds, .map (some g3), .slice A4 w1.visits.length c4] 73 (0, 0))] :: [(g3, .map es3 cn3)] :: ch1 :: L) (Kept.ofT (keep := [[(g2, .cells #[.int .i64 w1.place.node, .int .i64 w1.place.time, .int .i64 w1.place.load, .int .i64 w1.place.meters, .int .i64 w1.p.Road.Nodes, .slice A1 w1.p.Road.Edges.length c1, .slice A2 w1.p.Vehicles.length c2, .slice A3 w1.p.Demands.length c3, .int .i64 w1.p.Unload, .int .i64 w1.p.UnloadSecs, .string w1.v.ID, .int .i64 w1.v.Depot, .int .i64 w1.v.Shift.From, .int .i64 w1.v.Shift.To, .int .i64 w1.v.Grams, .int .i64 w1.v.Kinds, .map (some g3), .slice A4 w1.visits.length c4] 73 (0, 0))], [(g3, .map es3 cn3)], ch1]) (A := [[(g1, .cells #[.int .i64 0, .int .i64 0] 51 (0, 0))], [(g2, .cells #[.int .i64 w1.place.node, .int .i64 w1.place.time, .int .i64 w1.place.load, .int .i64 w1.place.meters, .int .i64 w1.p.Road.Nodes, .slice A1 w1.p.Road.Edges.length c1, .slice A2 w1.p.Vehicles.length c2, .slice A3 w1.p.Demands.length c3, .int .i64 w1.p.Unload, .int .i64 w1.p.UnloadSecs, .string w1.v.ID, .int .i64 w1.v.Depot, .int .i64 w1.v.Shift.From, .int .i64 w1.v.Shift.To, .int .i64 w1.v.Grams, .int .i64 w1.v.Kinds, .map (some g3), .slice A4 w1.visits.length c4] 73 (0, 0))], [(g3, .map es3 cn3)], ch1]) (by simp)) [(true, 0), (true, 1), (true, 2), (true, 3), (true, 4), (true, 5), (true, 6), (true, 7), (true, 8), (true, 9), (false, 10), (true, 11)] (by kernel_rfl) (by kernel_rfl) rfl ?_)))
  refine PL_t rfl (R_move rfl (Pt rfl rfl (R_move rfl (Pt rfl rfl ?_))))
  obtain ⟨x1, hx3, h⟩ := obind h
  obtain ⟨a1, cs1, hA7, hr1, _, hc2⟩ := Rds.getI (ArrR.rds hA6 L) hx3
  obtain rfl := hr1
  refine R_iaG rfl rfl rfl rfl rfl rfl ⟨(getI_lt hx3).1, (getI_lt hx3).2.1⟩ hA7 (Pt rfl rfl (R_loadA rfl rfl rfl rfl (Ex.mk [.int .i64 x1.Secs, .int .i64 x1.Meters] ⟨rfl, (hc2.push.push.push)⟩ (Pt rfl rfl (R_move rfl (Pt rfl rfl (R_move rfl (Pt rfl rfl ?_))))))))
  obtain ⟨x2, hx4, h⟩ := obind h
  obtain ⟨a2, cs2, hA8, hr2, _, hc3⟩ := Rds.getI (ArrR.rds hA6 L) hx4
  obtain rfl := hr2
  refine R_iaG rfl rfl rfl rfl rfl rfl ⟨(getI_lt hx4).1, (getI_lt hx4).2.1⟩ hA8 (Pt rfl rfl (R_faz rfl rfl rfl rfl rfl (Pt rfl rfl (R_load rfl rfl rfl (Ex.mk _ (Cell.of_cells0 (hc3.push.push.push) rfl) (Pt rfl rfl (R_geqD rfl rfl (P_some rfl (PL_f rfl (O_store (vs := [.int .i64 x1.Secs, .int .i64 x1.Meters]) rfl rfl rfl rfl rfl rfl (ST_ (L' := ([(g1, .cells #[.int .i64 x1.Secs, .int .i64 x1.Meters] 51 (0, 0))] :: [(g2, .cells #[.int .i64 w1.place.node, .int .i64 w1.place.time, .int .i64 w1.place.load, .int .i64 w1.place.meters, .int .i64 w1.p.Road.Nodes, .slice A1 w1.p.Road.Edges.length c1, .slice A2 w1.p.Vehicles.length c2, .slice A3 w1.p.Demands.length c3, .int .i64 w1.p.Unload, .int .i64 w1.p.UnloadSecs, .string w1.v.ID, .int .i64 w1.v.Depot, .int .i64 w1.v.Shift.From, .int .i64 w1.v.Shift.To, .int .i64 w1.v.Grams, .int .i64 w1.v.Kinds, .map (some g3), .slice A4 w1.visits.length c4] 73 (0, 0))] :: [(g3, .map es3 cn3)] :: ch1 :: L)) 0 0 rfl rfl rfl rfl ?_)))))))))))
  refine ⟨Kept.ofT (keep := [[(g2, .cells #[.int .i64 w1.place.node, .int .i64 w1.place.time, .int .i64 w1.place.load, .int .i64 w1.place.meters, .int .i64 w1.p.Road.Nodes, .slice A1 w1.p.Road.Edges.length c1, .slice A2 w1.p.Vehicles.length c2, .slice A3 w1.p.Demands.length c3, .int .i64 w1.p.Unload, .int .i64 w1.p.UnloadSecs, .string w1.v.ID, .int .i64 w1.v.Depot, .int .i64 w1.v.Shift.From, .int .i64 w1.v.Shift.To, .int .i64 w1.v.Grams, .int .i64 w1.v.Kinds, .map (some g3), .slice A4 w1.visits.length c4] 73 (0, 0))], [(g3, .map es3 cn3)], ch1]) (A := [[(g1, .cells #[.int .i64 x1.Secs, .int .i64 x1.Meters] 51 (0, 0))], [(g2, .cells #[.int .i64 w1.place.node, .int .i64 w1.place.time, .int .i64 w1.place.load, .int .i64 w1.place.meters, .int .i64 w1.p.Road.Nodes, .slice A1 w1.p.Road.Edges.length c1, .slice A2 w1.p.Vehicles.length c2, .slice A3 w1.p.Demands.length c3, .int .i64 w1.p.Unload, .int .i64 w1.p.UnloadSecs, .string w1.v.ID, .int .i64 w1.v.Depot, .int .i64 w1.v.Shift.From, .int .i64 w1.v.Shift.To, .int .i64 w1.v.Grams, .int .i64 w1.v.Kinds, .map (some g3), .slice A4 w1.visits.length c4] 73 (0, 0))], [(g3, .map es3 cn3)], ch1]) (by simp), ?_⟩
  refine P_none (PL_t rfl (R_assign rfl (P_some rfl (PL_nil (AN.done0 (by kernel_rfl) (hK2487 _ _ _ (WP.ret ?_)))))))
  have e_ := Option.some.inj h
  obtain ⟨e0a_, e0b_⟩ := Prod.mk.inj e_
  clear e_
  subst e0a_
  obtain ⟨e1a_, e1b_⟩ := Prod.mk.inj e0b_
  clear e0b_
  subst e1a_
  subst e1b_
  refine S_cell rfl rfl rfl rfl (LA_ (vs := [.int .i64 x1.Secs, .int .i64 x1.Meters]) 0 0 rfl rfl rfl rfl (S_tmp rfl (S_nil (Upd.seg (L2 := (((g2, Obj.cells #[.int .i64 w1.place.node, .int .i64 w1.place.time, .int .i64 w1.place.load, .int .i64 w1.place.meters, .int .i64 w1.p.Road.Nodes, .slice A1 w1.p.Road.Edges.length c1, .slice A2 w1.p.Vehicles.length c2, .slice A3 w1.p.Demands.length c3, .int .i64 w1.p.Unload, .int .i64 w1.p.UnloadSecs, .string w1.v.ID, .int .i64 w1.v.Depot, .int .i64 w1.v.Shift.From, .int .i64 w1.v.Shift.To, .int .i64 w1.v.Grams, .int .i64 w1.v.Kinds, .map (some g3), .slice A4 w1.visits.length c4] 73 (0, 0)) :: ((g3, Obj.map es3 cn3) :: (ch1 ++ []))) :: L)) (SegSub.trans (SegSub.flat (by simp [selS])) (SegSub.sel _ [some 1, some 2, some 3] 4)) ?_))))
  exact Upd.done (hR _ ((g2, Obj.cells #[.int .i64 w1.place.node, .int .i64 w1.place.time, .int .i64 w1.place.load, .int .i64 w1.place.meters, .int .i64 w1.p.Road.Nodes, .slice A1 w1.p.Road.Edges.length c1, .slice A2 w1.p.Vehicles.length c2, .slice A3 w1.p.Demands.length c3, .int .i64 w1.p.Unload, .int .i64 w1.p.UnloadSecs, .string w1.v.ID, .int .i64 w1.v.Depot, .int .i64 w1.v.Shift.From, .int .i64 w1.v.Shift.To, .int .i64 w1.v.Grams, .int .i64 w1.v.Kinds, .map (some g3), .slice A4 w1.visits.length c4] 73 (0, 0)) :: ((g3, Obj.map es3 cn3) :: (ch1 ++ []))) (hm2446) (⟨g2, A1, c1, A2, c2, A3, c3, g3, es3, cn3, A4, c4, ch1, rfl, rfl, ⟨hl1, hA1⟩, ⟨hl2, hA2⟩, ⟨hl3, hA3⟩, hM3, hO1⟩))

theorem tour_walk_note_fn {μ : Gh} {L : List Seg} {R : Value → Gh → List Seg → Prop}  {w1 : T_tour_walk} {stop1 : Int} {arrive1 : Int} {start1 : Int} {pv1 : Value} {so1 : Seg} {res1 : T_tour_walk}
    (hP1 : Obj_tour_walk μ pv1 w1 so1) (h : tour_walk_note w1 stop1 arrive1 start1 = some res1)
    (hR : ∀ (sp0 : Seg), Obj_tour_walk μ pv1 res1 sp0 → R (.tuple #[]) μ (sp0 :: L)) :
    Fn Try.prog 66 [pv1, .int .i64 stop1, .int .i64 arrive1, .int .i64 start1] μ (so1 :: L) R := by
  unfold tour_walk_note at h
  refine Fn.of_body Tt_ok Try.func66 (by kernel_rfl) rfl Try.ntmps66 (by simp) ?_
  simp only [Try.f66, argFr, List.zipIdx, List.map, Nat.reduceAdd]
  refine WP.tail ?_; intro K0_ hK0_
  obtain ⟨g1, A1, c1, A2, c2, A3, c3, g2, es1, cn1, A4, c4, ch1, hv1, rfl, ⟨hl1, hA1⟩, ⟨hl2, hA2⟩, ⟨hl3, hA3⟩, hM1, hO1⟩ := hP1
  subst hv1
  refine WP.seg (L2 := ([(g1, .cells #[.int .i64 w1.place.node, .int .i64 w1.place.time, .int .i64 w1.place.load, .int .i64 w1.place.meters, .int .i64 w1.p.Road.Nodes, .slice A1 w1.p.Road.Edges.length c1, .slice A2 w1.p.Vehicles.length c2, .slice A3 w1.p.Demands.length c3, .int .i64 w1.p.Unload, .int .i64 w1.p.UnloadSecs, .string w1.v.ID, .int .i64 w1.v.Depot, .int .i64 w1.v.Shift.From, .int .i64 w1.v.Shift.To, .int .i64 w1.v.Grams, .int .i64 w1.v.Kinds, .map (some g2), .slice A4 w1.visits.length c4] 73 (0, 0))] :: [(g2, .map es1 cn1)] :: ch1 :: L)) (SegSub.flat (by simp)) (WP.drawB (id := 0) (l' := List.replicate 28 true ++ [false]) wide Tt_ok ([(g1, .cells #[.int .i64 w1.place.node, .int .i64 w1.place.time, .int .i64 w1.place.load, .int .i64 w1.place.meters, .int .i64 w1.p.Road.Nodes, .slice A1 w1.p.Road.Edges.length c1, .slice A2 w1.p.Vehicles.length c2, .slice A3 w1.p.Demands.length c3, .int .i64 w1.p.Unload, .int .i64 w1.p.UnloadSecs, .string w1.v.ID, .int .i64 w1.v.Depot, .int .i64 w1.v.Shift.From, .int .i64 w1.v.Shift.To, .int .i64 w1.v.Grams, .int .i64 w1.v.Kinds, .map (some g2), .slice A4 w1.visits.length c4] 73 (0, 0))] :: [(g2, .map es1 cn1)] :: L) (Kept.ofT (keep := [[(g1, .cells #[.int .i64 w1.place.node, .int .i64 w1.place.time, .int .i64 w1.place.load, .int .i64 w1.place.meters, .int .i64 w1.p.Road.Nodes, .slice A1 w1.p.Road.Edges.length c1, .slice A2 w1.p.Vehicles.length c2, .slice A3 w1.p.Demands.length c3, .int .i64 w1.p.Unload, .int .i64 w1.p.UnloadSecs, .string w1.v.ID, .int .i64 w1.v.Depot, .int .i64 w1.v.Shift.From, .int .i64 w1.v.Shift.To, .int .i64 w1.v.Grams, .int .i64 w1.v.Kinds, .map (some g2), .slice A4 w1.visits.length c4] 73 (0, 0))], [(g2, .map es1 cn1)]]) (A := [[(g1, .cells #[.int .i64 w1.place.node, .int .i64 w1.place.time, .int .i64 w1.place.load, .int .i64 w1.place.meters, .int .i64 w1.p.Road.Nodes, .slice A1 w1.p.Road.Edges.length c1, .slice A2 w1.p.Vehicles.length c2, .slice A3 w1.p.Demands.length c3, .int .i64 w1.p.Unload, .int .i64 w1.p.UnloadSecs, .string w1.v.ID, .int .i64 w1.v.Depot, .int .i64 w1.v.Shift.From, .int .i64 w1.v.Shift.To, .int .i64 w1.v.Grams, .int .i64 w1.v.Kinds, .map (some g2), .slice A4 w1.visits.length c4] 73 (0, 0))], [(g2, .map es1 cn1)], ch1]) (by simp)) 28 [(26, [27])] [(true, 0), (true, 1), (true, 2), (true, 3), (true, 4), (true, 5), (true, 6), (true, 7), (true, 8), (true, 9), (true, 10), (true, 11), (true, 12), (true, 13), (true, 14), (true, 15), (true, 16), (true, 17), (true, 18), (true, 19), (true, 20), (true, 21), (true, 22), (true, 23), (false, 24), (false, 25), (true, 26), (true, 27)] (by kernel_rfl) (by kernel_rfl) rfl (by kernel_rfl) (by kernel_rfl) ?_)
  refine PL_t rfl (R_move rfl (Pt rfl rfl (R_move rfl (Pt rfl rfl (R_nilP rfl (Pt rfl rfl (R_fa0 (o' := 17) rfl rfl rfl rfl rfl rfl (Pt rfl rfl (R_load rfl rfl rfl (Ex.mk _ (Cell.seg 0 0 rfl rfl rfl) (Pt rfl rfl (R_move rfl ?_))))))))))))
  refine Pt rfl rfl (R_move rfl (Pt rfl rfl (R_nilP rfl (Pt rfl rfl (R_fa0 (o' := 0) rfl rfl rfl rfl rfl rfl (Pt rfl rfl (R_fa0 (o' := 0) rfl rfl rfl rfl rfl rfl (Pt rfl rfl (R_load rfl rfl rfl (Ex.mk _ (Cell.seg 0 0 rfl rfl rfl) (Pt rfl rfl ?_)))))))))))
  refine R_move rfl (Pt rfl rfl (R_move rfl (Pt rfl rfl (R_move rfl (Pt rfl rfl (R_nilP rfl (Pt rfl rfl (R_fa0 (o' := 0) rfl rfl rfl rfl rfl rfl (Pt rfl rfl (R_fa0 (o' := 1) rfl rfl rfl rfl rfl rfl (Pt rfl rfl ?_)))))))))))
  refine R_load rfl rfl rfl (Ex.mk _ (Cell.seg 0 0 rfl rfl rfl) (Pt rfl rfl (R_move rfl (Pt rfl rfl (R_nilP rfl (Pt rfl rfl (R_fa0 (o' := 0) rfl rfl rfl rfl rfl rfl (Pt rfl rfl (R_fa0 (o' := 2) rfl rfl rfl rfl rfl rfl (Pt rfl rfl (R_load rfl rfl rfl (Ex.mk _ (Cell.seg 0 0 rfl rfl rfl) ?_))))))))))))
  refine Pt rfl rfl (R_build rfl rfl rfl rfl (F_cons (cells' := [.int .i64 stop1, .int .i64 0, .int .i64 0, .int .i64 0, .int .i64 0, .int .i64 0]) rfl rfl rfl rfl (F_cons (cells' := [.int .i64 stop1, .int .i64 w1.place.node, .int .i64 0, .int .i64 0, .int .i64 0, .int .i64 0]) rfl rfl rfl rfl (F_cons (cells' := [.int .i64 stop1, .int .i64 w1.place.node, .int .i64 arrive1, .int .i64 0, .int .i64 0, .int .i64 0]) rfl rfl rfl rfl (F_cons (cells' := [.int .i64 stop1, .int .i64 w1.place.node, .int .i64 arrive1, .int .i64 start1, .int .i64 0, .int .i64 0]) rfl rfl rfl rfl (F_cons (cells' := [.int .i64 stop1, .int .i64 w1.place.node, .int .i64 arrive1, .int .i64 start1, .int .i64 w1.place.time, .int .i64 0]) rfl rfl rfl rfl (F_cons (cells' := [.int .i64 stop1, .int .i64 w1.place.node, .int .i64 arrive1, .int .i64 start1, .int .i64 w1.place.time, .int .i64 w1.place.load]) rfl rfl rfl rfl ?_)))))))
  refine F_nil (P_some rfl (PL_f rfl (O_bsl (z := [.int .i64 0, .int .i64 0, .int .i64 0, .int .i64 0, .int .i64 0, .int .i64 0]) rfl rfl rfl rfl rfl rfl rfl (F_cons (cells' := [.int .i64 stop1, .int .i64 w1.place.node, .int .i64 arrive1, .int .i64 start1, .int .i64 w1.place.time, .int .i64 w1.place.load]) rfl rfl rfl rfl (F_nil (fun g3 => ?_))))))
  refine ⟨Kept.ofT (keep := [[(g1, .cells #[.int .i64 w1.place.node, .int .i64 w1.place.time, .int .i64 w1.place.load, .int .i64 w1.place.meters, .int .i64 w1.p.Road.Nodes, .slice A1 w1.p.Road.Edges.length c1, .slice A2 w1.p.Vehicles.length c2, .slice A3 w1.p.Demands.length c3, .int .i64 w1.p.Unload, .int .i64 w1.p.UnloadSecs, .string w1.v.ID, .int .i64 w1.v.Depot, .int .i64 w1.v.Shift.From, .int .i64 w1.v.Shift.To, .int .i64 w1.v.Grams, .int .i64 w1.v.Kinds, .map (some g2), .slice A4 w1.visits.length c4] 73 (0, 0))], [(g2, .map es1 cn1)]]) (A := [[(g3, .cells #[.int .i64 stop1, .int .i64 w1.place.node, .int .i64 arrive1, .int .i64 start1, .int .i64 w1.place.time, .int .i64 w1.place.load] 48 (0, 0))], [(g1, .cells #[.int .i64 w1.place.node, .int .i64 w1.place.time, .int .i64 w1.place.load, .int .i64 w1.place.meters, .int .i64 w1.p.Road.Nodes, .slice A1 w1.p.Road.Edges.length c1, .slice A2 w1.p.Vehicles.length c2, .slice A3 w1.p.Demands.length c3, .int .i64 w1.p.Unload, .int .i64 w1.p.UnloadSecs, .string w1.v.ID, .int .i64 w1.v.Depot, .int .i64 w1.v.Shift.From, .int .i64 w1.v.Shift.To, .int .i64 w1.v.Grams, .int .i64 w1.v.Kinds, .map (some g2), .slice A4 w1.visits.length c4] 73 (0, 0))], [(g2, .map es1 cn1)], ch1]) (by simp), ?_⟩
  refine P_some rfl (PL_f rfl (O_append rfl ?_))
  obtain ⟨l1, hz1, h⟩ := obind h
  refine sem_appR (r := r_api_Visit) Tt_ok rfl rfl rfl rfl (by decide) rfl rfl 3 rfl hO1 rfl (Own.rds (L := ([(g3, .cells #[.int .i64 stop1, .int .i64 w1.place.node, .int .i64 arrive1, .int .i64 start1, .int .i64 w1.place.time, .int .i64 w1.place.load] 48 (0, 0))] :: [(g1, .cells #[.int .i64 w1.place.node, .int .i64 w1.place.time, .int .i64 w1.place.load, .int .i64 w1.place.meters, .int .i64 w1.p.Road.Nodes, .slice A1 w1.p.Road.Edges.length c1, .slice A2 w1.p.Vehicles.length c2, .slice A3 w1.p.Demands.length c3, .int .i64 w1.p.Unload, .int .i64 w1.p.UnloadSecs, .string w1.v.ID, .int .i64 w1.v.Depot, .int .i64 w1.v.Shift.From, .int .i64 w1.v.Shift.To, .int .i64 w1.v.Grams, .int .i64 w1.v.Kinds, .map (some g2), .slice A4 w1.visits.length c4] 73 (0, 0))] :: [(g2, .map es1 cn1)] :: ch1 :: L)) (Own.lit (r := r_api_Visit) (e := 48) (g := g3) (xs := [(T_api_Visit.mk stop1 w1.place.node arrive1 start1 w1.place.time w1.place.load)]) (cs := [.int .i64 stop1, .int .i64 w1.place.node, .int .i64 arrive1, .int .i64 start1, .int .i64 w1.place.time, .int .i64 w1.place.load]) (css := [[.int .i64 stop1, .int .i64 w1.place.node, .int .i64 arrive1, .int .i64 start1, .int .i64 w1.place.time, .int .i64 w1.place.load]]) rfl (All2.cons (rfl) (All2.nil)) rfl rfl) 0 rfl) hz1 fun A5 c5 ch2 hO2 => ?_
  refine ⟨Kept.ofT (keep := [[(g1, .cells #[.int .i64 w1.place.node, .int .i64 w1.place.time, .int .i64 w1.place.load, .int .i64 w1.place.meters, .int .i64 w1.p.Road.Nodes, .slice A1 w1.p.Road.Edges.length c1, .slice A2 w1.p.Vehicles.length c2, .slice A3 w1.p.Demands.length c3, .int .i64 w1.p.Unload, .int .i64 w1.p.UnloadSecs, .string w1.v.ID, .int .i64 w1.v.Depot, .int .i64 w1.v.Shift.From, .int .i64 w1.v.Shift.To, .int .i64 w1.v.Grams, .int .i64 w1.v.Kinds, .map (some g2), .slice A4 w1.visits.length c4] 73 (0, 0))], [(g2, .map es1 cn1)]]) (A := [[(g3, .cells #[.int .i64 stop1, .int .i64 w1.place.node, .int .i64 arrive1, .int .i64 start1, .int .i64 w1.place.time, .int .i64 w1.place.load] 48 (0, 0))], [(g1, .cells #[.int .i64 w1.place.node, .int .i64 w1.place.time, .int .i64 w1.place.load, .int .i64 w1.place.meters, .int .i64 w1.p.Road.Nodes, .slice A1 w1.p.Road.Edges.length c1, .slice A2 w1.p.Vehicles.length c2, .slice A3 w1.p.Demands.length c3, .int .i64 w1.p.Unload, .int .i64 w1.p.UnloadSecs, .string w1.v.ID, .int .i64 w1.v.Depot, .int .i64 w1.v.Shift.From, .int .i64 w1.v.Shift.To, .int .i64 w1.v.Grams, .int .i64 w1.v.Kinds, .map (some g2), .slice A4 w1.visits.length c4] 73 (0, 0))], [(g2, .map es1 cn1)], ch2]) (by simp), ?_⟩
  refine Pt rfl rfl (R_nilP rfl (Pt rfl rfl (R_fa0 (o' := 17) rfl rfl rfl rfl rfl rfl (P_some rfl (PL_nil (last_ rfl (O_store (vs := [.slice A5 l1.length c5]) rfl rfl rfl rfl rfl rfl (ST_ (L' := ([(g3, .cells #[.int .i64 stop1, .int .i64 w1.place.node, .int .i64 arrive1, .int .i64 start1, .int .i64 w1.place.time, .int .i64 w1.place.load] 48 (0, 0))] :: [(g1, .cells #[.int .i64 w1.place.node, .int .i64 w1.place.time, .int .i64 w1.place.load, .int .i64 w1.place.meters, .int .i64 w1.p.Road.Nodes, .slice A1 w1.p.Road.Edges.length c1, .slice A2 w1.p.Vehicles.length c2, .slice A3 w1.p.Demands.length c3, .int .i64 w1.p.Unload, .int .i64 w1.p.UnloadSecs, .string w1.v.ID, .int .i64 w1.v.Depot, .int .i64 w1.v.Shift.From, .int .i64 w1.v.Shift.To, .int .i64 w1.v.Grams, .int .i64 w1.v.Kinds, .map (some g2), .slice A5 l1.length c5] 73 (0, 0))] :: [(g2, .map es1 cn1)] :: ch2 :: L)) 1 0 rfl rfl rfl rfl ?_))))))))
  refine P_none (hK0_ _ _ _ (KEnd.done ?_))
  have e_ := Option.some.inj h
  subst e_
  refine S_nil (Upd.seg (L2 := (((g1, Obj.cells #[.int .i64 w1.place.node, .int .i64 w1.place.time, .int .i64 w1.place.load, .int .i64 w1.place.meters, .int .i64 w1.p.Road.Nodes, .slice A1 w1.p.Road.Edges.length c1, .slice A2 w1.p.Vehicles.length c2, .slice A3 w1.p.Demands.length c3, .int .i64 w1.p.Unload, .int .i64 w1.p.UnloadSecs, .string w1.v.ID, .int .i64 w1.v.Depot, .int .i64 w1.v.Shift.From, .int .i64 w1.v.Shift.To, .int .i64 w1.v.Grams, .int .i64 w1.v.Kinds, .map (some g2), .slice A5 l1.length c5] 73 (0, 0)) :: ((g2, Obj.map es1 cn1) :: (ch2 ++ []))) :: L)) (SegSub.trans (SegSub.flat (by simp [selS])) (SegSub.sel _ [some 1, some 2, some 3] 4)) ?_)
  exact Upd.done (hR ((g1, Obj.cells #[.int .i64 w1.place.node, .int .i64 w1.place.time, .int .i64 w1.place.load, .int .i64 w1.place.meters, .int .i64 w1.p.Road.Nodes, .slice A1 w1.p.Road.Edges.length c1, .slice A2 w1.p.Vehicles.length c2, .slice A3 w1.p.Demands.length c3, .int .i64 w1.p.Unload, .int .i64 w1.p.UnloadSecs, .string w1.v.ID, .int .i64 w1.v.Depot, .int .i64 w1.v.Shift.From, .int .i64 w1.v.Shift.To, .int .i64 w1.v.Grams, .int .i64 w1.v.Kinds, .map (some g2), .slice A5 l1.length c5] 73 (0, 0)) :: ((g2, Obj.map es1 cn1) :: (ch2 ++ []))) (⟨g1, A1, c1, A2, c2, A3, c3, g2, es1, cn1, A5, c5, ch2, rfl, rfl, ⟨hl1, hA1⟩, ⟨hl2, hA2⟩, ⟨hl3, hA3⟩, hM1, hO2⟩))

theorem tour_walk_serve_fn {μ : Gh} {L : List Seg} {R : Value → Gh → List Seg → Prop} {F : Nat} {w1 : T_tour_walk} {t1 : T_api_Tour} {i1 : Int} {pv1 : Value} {so1 : Seg} {A1 : Option Addr} {c1 : Nat} {res1 : Int} {res2 : T_tour_walk}
    (hP1 : Obj_tour_walk μ pv1 w1 so1) (hl1 : t1.Stops.length ≤ c1 ∧ c1 ≤ maxLen) (hA1 : ArrR rInt μ A1 t1.Stops) (h : tour_walk_serve F w1 t1 i1 = some (res1, res2))
    (hR : ∀ (μ' : Gh) (sp0 : Seg), μ.le μ' → Obj_tour_walk μ' pv1 res2 sp0 → R (.int .i64 res1) μ' (sp0 :: L)) :
    Fn Try.prog 48 [pv1, .agg #[.int .i64 t1.Vehicle, .slice A1 t1.Stops.length c1], .int .i64 i1] μ (so1 :: L) R := by
  unfold tour_walk_serve at h
  refine Fn.of_body Tt_ok Try.func48 (by kernel_rfl) rfl Try.ntmps48 (by simp) ?_
  simp only [Try.f48, argFr, List.zipIdx, List.map, Nat.reduceAdd]
  refine WP.seq_k (fun K3096 hK3096 => WP.region Tt_ok (O_cons (O_box (cs := #[.int .i64 t1.Vehicle, .slice A1 t1.Stops.length c1]) rfl rfl (fun g1 => Pc rfl rfl (R_assign rfl (Pn rfl (hK3096 _ _ _ (WP.seq_k (fun K3099 hK3099 => Wr Tt_ok rfl (R_fa0 (o' := 1) rfl rfl rfl rfl rfl rfl (P_some rfl (O_cons ?_))))))))))))
  refine O_read rfl (R_load rfl rfl rfl (Ex.mk _ (Cell.seg 0 0 rfl rfl rfl) (Pc rfl rfl (R_move rfl (P_some rfl (O_cons ?_))))))
  obtain ⟨x1, hx1, h⟩ := obind h
  obtain ⟨a1, cs1, hA2, hr1, _, hc1⟩ := Rds.getI (ArrR.rds hA1 L) hx1
  obtain rfl := hr1
  refine O_read rfl (R_iaG rfl rfl rfl rfl rfl rfl ⟨(getI_lt hx1).1, (getI_lt hx1).2.1⟩ hA2 (Pc rfl rfl (R_load rfl rfl rfl (Ex.mk _ (Cell.of_cells0 (hc1.push.push) rfl) (Pc rfl rfl (R_assign rfl (Pn rfl (hK3099 _ _ _ (WP.seq_k (fun K3100 hK3100 => ?_))))))))))
  obtain ⟨g2, A2, c2, A3, c3, A4, c4, g3, es1, cn1, A5, c5, ch1, hv1, rfl, ⟨hl2, hA3⟩, ⟨hl3, hA4⟩, ⟨hl4, hA5⟩, hM1, hO1⟩ := hP1
  subst hv1
  refine WP.seg (L2 := ([(g1, .cells #[.int .i64 t1.Vehicle, .slice A1 t1.Stops.length c1] 35 (0, 0))] :: [(g2, .cells #[.int .i64 w1.place.node, .int .i64 w1.place.time, .int .i64 w1.place.load, .int .i64 w1.place.meters, .int .i64 w1.p.Road.Nodes, .slice A2 w1.p.Road.Edges.length c2, .slice A3 w1.p.Vehicles.length c3, .slice A4 w1.p.Demands.length c4, .int .i64 w1.p.Unload, .int .i64 w1.p.UnloadSecs, .string w1.v.ID, .int .i64 w1.v.Depot, .int .i64 w1.v.Shift.From, .int .i64 w1.v.Shift.To, .int .i64 w1.v.Grams, .int .i64 w1.v.Kinds, .map (some g3), .slice A5 w1.visits.length c5] 73 (0, 0))] :: [(g3, .map es1 cn1)] :: ch1 :: L)) (SegSub.flat (by simp)) (Wr Tt_ok rfl (R_move rfl (Pc rfl rfl (R_nilP rfl (Pc rfl rfl (R_fa0 (o' := 4) rfl rfl rfl rfl rfl rfl ?_))))))
  refine Pc rfl rfl (R_fa0 (o' := 8) rfl rfl rfl rfl rfl rfl (Pc rfl rfl (R_load rfl rfl rfl (Ex.mk _ (Cell.seg 1 0 rfl rfl rfl) (Pc rfl rfl (R_assign rfl (Pn rfl (hK3100 _ _ _ (WP.seq_k (fun K3109 hK3109 => WP.seq_k (fun K3110 hK3110 => ?_)))))))))))
  refine Wr Tt_ok rfl (R_move rfl (Pc rfl rfl (R_neqD rfl rfl (Pn rfl (hK3110 _ _ _ ?_)))))
  obtain ⟨o3111, h3111, h⟩ := obind h
  refine WP.cutK (fun fr_ μ_ L_ => ∃ (node1 : Int), (.inl node1) = o3111 ∧ SubFr [(0, .pointer (some ⟨g2, 0, none⟩)), (7, .int .i64 x1), (8, .int .i64 node1)] fr_ ∧ SegSub ([(g2, .cells #[.int .i64 w1.place.node, .int .i64 w1.place.time, .int .i64 w1.place.load, .int .i64 w1.place.meters, .int .i64 w1.p.Road.Nodes, .slice A2 w1.p.Road.Edges.length c2, .slice A3 w1.p.Vehicles.length c3, .slice A4 w1.p.Demands.length c4, .int .i64 w1.p.Unload, .int .i64 w1.p.UnloadSecs, .string w1.v.ID, .int .i64 w1.v.Depot, .int .i64 w1.v.Shift.From, .int .i64 w1.v.Shift.To, .int .i64 w1.v.Grams, .int .i64 w1.v.Kinds, .map (some g3), .slice A5 w1.visits.length c5] 73 (0, 0))] :: [(g3, .map es1 cn1)] :: ch1 :: L) L_) ?_ ?_
  · refine W_cond_v (b := !(decide (x1 = (-1)))) rfl (fun hc2 => ?_) (fun hc2 => ?_)
    · replace h3111 := cond_t hc2 h3111
      refine WP.seq_k (fun K3112 hK3112 => WP.seq_k (fun K3113 hK3113 => ?_))
      obtain ⟨o3114, h3114, h3111⟩ := obind h3111
      refine WP.cutK (fun fr_ μ_ L_ => ∃ (v1 : Bool), v1 = o3114 ∧ SubFr [(0, .pointer (some ⟨g2, 0, none⟩)), (2, .int .i64 i1), (4, .pointer (some ⟨g1, 0, none⟩)), (7, .int .i64 x1), (37, .bool v1)] fr_ ∧ SegSub ([(g2, .cells #[.int .i64 w1.place.node, .int .i64 w1.place.time, .int .i64 w1.place.load, .int .i64 w1.place.meters, .int .i64 w1.p.Road.Nodes, .slice A2 w1.p.Road.Edges.length c2, .slice A3 w1.p.Vehicles.length c3, .slice A4 w1.p.Demands.length c4, .int .i64 w1.p.Unload, .int .i64 w1.p.UnloadSecs, .string w1.v.ID, .int .i64 w1.v.Depot, .int .i64 w1.v.Shift.From, .int .i64 w1.v.Shift.To, .int .i64 w1.v.Grams, .int .i64 w1.v.Kinds, .map (some g3), .slice A5 w1.visits.length c5] 73 (0, 0))] :: [(g3, .map es1 cn1)] :: ch1 :: [(g1, .cells #[.int .i64 t1.Vehicle, .slice A1 t1.Stops.length c1] 35 (0, 0))] :: L) L_) ?_ ?_
      · refine Wr Tt_ok rfl (R_move rfl (Pc rfl rfl (R_lssD rfl rfl (Pc rfl rfl (R_move rfl (P_some rfl ?_))))))
        refine O_gv (z := (decide (x1 < 0))) rfl rfl (fun hc3 => ?_) (fun hc3 => ?_)
        · replace h3114 := cond_f hc3 h3114
          refine O_read rfl (R_move rfl (P_some rfl (O_gY rfl rfl hc3 (O_read rfl (R_move rfl (P_some rfl (O_gY rfl rfl hc3 (O_read rfl (R_nilP rfl (P_some rfl (O_gY rfl rfl hc3 (O_read rfl (R_fa0 (o' := 4) rfl rfl rfl rfl rfl rfl (P_some rfl (O_gY rfl rfl hc3 (O_read rfl (R_fa0 (o' := 7) rfl rfl rfl rfl rfl rfl ?_)))))))))))))))))
          refine P_some rfl (O_gY rfl rfl hc3 (O_read rfl (R_load rfl rfl rfl (Ex.mk _ (Cell.seg 1 0 rfl rfl rfl) (P_some rfl (O_gY rfl rfl hc3 (O_read rfl (R_lenS rfl rfl rfl (P_some rfl (O_gY rfl rfl hc3 (O_read rfl (R_geqD rfl rfl (Pc rfl rfl (R_pick_F rfl hc3 rfl (P_some rfl ?_)))))))))))))))
          apply O_nil
          have e_ := Option.some.inj h3114
          subst e_
          exact ⟨(decide (((w1.p.Demands.length : Nat) : Int) ≤ x1)), rfl, SubFr.of ⟨rfl, rfl, rfl, rfl, rfl, trivial⟩, SegSub.sel _ [some 1, some 2, some 3, some 0] 4⟩
        replace h3114 := cond_t hc3 h3114
        refine P_some rfl (O_gN rfl rfl hc3 (P_some rfl (O_gN rfl rfl hc3 (P_some rfl (O_gN rfl rfl hc3 (P_some rfl (O_gN rfl rfl hc3 (P_some rfl (O_gN rfl rfl hc3 (P_some rfl (O_gN rfl rfl hc3 (P_some rfl (O_gN rfl rfl hc3 (Pc rfl rfl (R_pick_T rfl hc3 rfl ?_)))))))))))))))
        refine Pn rfl ?_
        have e_ := Option.some.inj h3114
        subst e_
        exact ⟨true, rfl, SubFr.of ⟨rfl, rfl, rfl, rfl, rfl, trivial⟩, SegSub.sel _ [some 1, some 2, some 3, some 0] 4⟩
      rintro fr3114 μ3114 L3114 hm3114 ⟨v1, ho3114, hF3114, hS3114⟩
      subst ho3114
      replace hA1 := hA1.mono hm3114
      replace hc1 := hc1.lift hm3114
      replace hA3 := hA3.mono hm3114
      replace hA4 := hA4.mono hm3114
      replace hA5 := hA5.mono hm3114
      replace hM1 := hM1.mono hm3114
      replace hO1 := hO1.mono hm3114
      refine hK3113 _ _ _ (WP.at hF3114 hS3114 ?_)
      refine W_cond_v (b := v1) rfl (fun hc4 => ?_) (fun hc4 => ?_)
      · replace h3111 := cond_t hc4 h3111
        refine WP.seq_k (fun K3119 hK3119 => Wr Tt_ok rfl (R_assign rfl (Pn rfl (hK3119 _ _ _ (WP.ret ?_)))))
        have e_ := Option.some.inj h3111
        subst e_
        replace h := osum_r h
        have e_ := Option.some.inj h
        obtain ⟨e0a_, e0b_⟩ := Prod.mk.inj e_
        clear e_
        subst e0a_
        subst e0b_
        refine S_tmp rfl (S_nil (Upd.seg (L2 := (((g2, Obj.cells #[.int .i64 w1.place.node, .int .i64 w1.place.time, .int .i64 w1.place.load, .int .i64 w1.place.meters, .int .i64 w1.p.Road.Nodes, .slice A2 w1.p.Road.Edges.length c2, .slice A3 w1.p.Vehicles.length c3, .slice A4 w1.p.Demands.length c4, .int .i64 w1.p.Unload, .int .i64 w1.p.UnloadSecs, .string w1.v.ID, .int .i64 w1.v.Depot, .int .i64 w1.v.Shift.From, .int .i64 w1.v.Shift.To, .int .i64 w1.v.Grams, .int .i64 w1.v.Kinds, .map (some g3), .slice A5 w1.visits.length c5] 73 (0, 0)) :: ((g3, Obj.map es1 cn1) :: (ch1 ++ []))) :: L)) (SegSub.trans (SegSub.flat (by simp [selS])) (SegSub.sel _ [some 0, some 1, some 2] 4)) ?_))
        exact Upd.done (hR _ ((g2, Obj.cells #[.int .i64 w1.place.node, .int .i64 w1.place.time, .int .i64 w1.place.load, .int .i64 w1.place.meters, .int .i64 w1.p.Road.Nodes, .slice A2 w1.p.Road.Edges.length c2, .slice A3 w1.p.Vehicles.length c3, .slice A4 w1.p.Demands.length c4, .int .i64 w1.p.Unload, .int .i64 w1.p.UnloadSecs, .string w1.v.ID, .int .i64 w1.v.Depot, .int .i64 w1.v.Shift.From, .int .i64 w1.v.Shift.To, .int .i64 w1.v.Grams, .int .i64 w1.v.Kinds, .map (some g3), .slice A5 w1.visits.length c5] 73 (0, 0)) :: ((g3, Obj.map es1 cn1) :: (ch1 ++ []))) (hm3114) (⟨g2, A2, c2, A3, c3, A4, c4, g3, es1, cn1, A5, c5, ch1, rfl, rfl, ⟨hl2, hA3⟩, ⟨hl3, hA4⟩, ⟨hl4, hA5⟩, hM1, hO1⟩))
      replace h3111 := cond_f hc4 h3111
      refine WP.skip (hK3112 _ _ _ (WP.seq_k (fun K3120 hK3120 => WP.seq_k (fun K3121 hK3121 => Wr Tt_ok rfl (R_fa0 (o' := 1) rfl rfl rfl rfl rfl rfl (Pc rfl rfl (R_load rfl rfl rfl (Ex.mk _ (Cell.seg 3 0 rfl rfl rfl) (Pc rfl rfl (R_move rfl (P_some rfl ?_)))))))))))
      apply O_cons
      obtain ⟨l1, hs1, h3111⟩ := obind h3111
      refine O_read rfl (R_slHiS rfl rfl rfl rfl rfl rfl hl1.1 hs1 ?_)
      have hA6 := ArrR.pre hA1 hs1
      have hl5 := preLen hl1 hs1
      refine Pc rfl rfl (R_move rfl (P_some rfl (O_cons (O_call (all := [.slice A1 l1.length c1, .int .i64 x1]) rfl rfl rfl ?_))))
      obtain ⟨r1, hx2, h3111⟩ := obind h3111
      refine slices_Contains_int_fn hl5 (ArrR.rds hA6 ([(g2, .cells #[.int .i64 w1.place.node, .int .i64 w1.place.time, .int .i64 w1.place.load, .int .i64 w1.place.meters, .int .i64 w1.p.Road.Nodes, .slice A2 w1.p.Road.Edges.length c2, .slice A3 w1.p.Vehicles.length c3, .slice A4 w1.p.Demands.length c4, .int .i64 w1.p.Unload, .int .i64 w1.p.UnloadSecs, .string w1.v.ID, .int .i64 w1.v.Depot, .int .i64 w1.v.Shift.From, .int .i64 w1.v.Shift.To, .int .i64 w1.v.Grams, .int .i64 w1.v.Kinds, .map (some g3), .slice A5 w1.visits.length c5] 73 (0, 0))] :: [(g3, .map es1 cn1)] :: ch1 :: [(g1, .cells #[.int .i64 t1.Vehicle, .slice A1 t1.Stops.length c1] 35 (0, 0))] :: L)) hx2 ((Pn rfl (hK3121 _ _ _ ?_)))
      refine W_cond_v (b := r1) rfl (fun hc5 => ?_) (fun hc5 => ?_)
      · replace h3111 := cond_t hc5 h3111
        refine WP.seq_k (fun K3123 hK3123 => Wr Tt_ok rfl (R_assign rfl (Pn rfl (hK3123 _ _ _ (WP.ret ?_)))))
        have e_ := Option.some.inj h3111
        subst e_
        replace h := osum_r h
        have e_ := Option.some.inj h
        obtain ⟨e0a_, e0b_⟩ := Prod.mk.inj e_
        clear e_
        subst e0a_
        subst e0b_
        refine S_tmp rfl (S_nil (Upd.seg (L2 := (((g2, Obj.cells #[.int .i64 w1.place.node, .int .i64 w1.place.time, .int .i64 w1.place.load, .int .i64 w1.place.meters, .int .i64 w1.p.Road.Nodes, .slice A2 w1.p.Road.Edges.length c2, .slice A3 w1.p.Vehicles.length c3, .slice A4 w1.p.Demands.length c4, .int .i64 w1.p.Unload, .int .i64 w1.p.UnloadSecs, .string w1.v.ID, .int .i64 w1.v.Depot, .int .i64 w1.v.Shift.From, .int .i64 w1.v.Shift.To, .int .i64 w1.v.Grams, .int .i64 w1.v.Kinds, .map (some g3), .slice A5 w1.visits.length c5] 73 (0, 0)) :: ((g3, Obj.map es1 cn1) :: (ch1 ++ []))) :: L)) (SegSub.trans (SegSub.flat (by simp [selS])) (SegSub.sel _ [some 0, some 1, some 2] 4)) ?_))
        exact Upd.done (hR _ ((g2, Obj.cells #[.int .i64 w1.place.node, .int .i64 w1.place.time, .int .i64 w1.place.load, .int .i64 w1.place.meters, .int .i64 w1.p.Road.Nodes, .slice A2 w1.p.Road.Edges.length c2, .slice A3 w1.p.Vehicles.length c3, .slice A4 w1.p.Demands.length c4, .int .i64 w1.p.Unload, .int .i64 w1.p.UnloadSecs, .string w1.v.ID, .int .i64 w1.v.Depot, .int .i64 w1.v.Shift.From, .int .i64 w1.v.Shift.To, .int .i64 w1.v.Grams, .int .i64 w1.v.Kinds, .map (some g3), .slice A5 w1.visits.length c5] 73 (0, 0)) :: ((g3, Obj.map es1 cn1) :: (ch1 ++ []))) (hm3114) (⟨g2, A2, c2, A3, c3, A4, c4, g3, es1, cn1, A5, c5, ch1, rfl, rfl, ⟨hl2, hA3⟩, ⟨hl3, hA4⟩, ⟨hl4, hA5⟩, hM1, hO1⟩))
      replace h3111 := cond_f hc5 h3111
      refine WP.skip (hK3120 _ _ _ (WP.seq_k (fun K3124 hK3124 => WP.seq_k (fun K3125 hK3125 => WP.drawn (id := 8) (l' := List.replicate 15 true) wide Tt_ok _ Kept.refl [(true, 0), (true, 1), (true, 2), (true, 3), (true, 4), (true, 5), (true, 6), (true, 7), (true, 8), (true, 9), (true, 10), (true, 11), (true, 12), (false, 13), (true, 14)] (by kernel_rfl) (by kernel_rfl) rfl (PL_t rfl (R_move rfl (Pt rfl rfl (R_nilP rfl (Pt rfl rfl (R_fa0 (o' := 10) rfl rfl rfl rfl rfl rfl (Pt rfl rfl (R_loadA rfl rfl rfl rfl (LA_ (vs := [.string w1.v.ID, .int .i64 w1.v.Depot, .int .i64 w1.v.Shift.From, .int .i64 w1.v.Shift.To, .int .i64 w1.v.Grams, .int .i64 w1.v.Kinds]) 0 0 rfl rfl rfl rfl (P_some rfl ?_))))))))))))))
      refine PL_t rfl (R_move rfl (Pt rfl rfl (R_nilP rfl (Pt rfl rfl (R_fa0 (o' := 4) rfl rfl rfl rfl rfl rfl (Pt rfl rfl (R_fa0 (o' := 7) rfl rfl rfl rfl rfl rfl (Pt rfl rfl (R_load rfl rfl rfl (Ex.mk _ (Cell.seg 0 0 rfl rfl rfl) (Pt rfl rfl (R_move rfl ?_))))))))))))
      refine Pt rfl rfl ?_
      obtain ⟨x2, hx3, h3111⟩ := obind h3111
      obtain ⟨a2, cs2, hA7, hr2, _, hc6⟩ := Rds.getI (ArrR.rds hA5 L) hx3
      obtain rfl := hr2
      refine R_iaG rfl rfl rfl rfl rfl rfl ⟨(getI_lt hx3).1, (getI_lt hx3).2.1⟩ hA7 (Pt rfl rfl (R_fa rfl rfl rfl rfl rfl (Pt rfl rfl (R_load rfl rfl rfl (Ex.mk _ (Cell.of_cells (hc6.push.push.push.push) 2 rfl) (P_some rfl (PL_f rfl (O_call (all := [.agg #[.string w1.v.ID, .int .i64 w1.v.Depot, .int .i64 w1.v.Shift.From, .int .i64 w1.v.Shift.To, .int .i64 w1.v.Grams, .int .i64 w1.v.Kinds], .int .i64 x2.Kind]) rfl rfl rfl ?_))))))))
      obtain ⟨r2, hx4, h3111⟩ := obind h3111
      refine vehicle_Carries_fn  hx4 (?_)
      refine ⟨Kept.refl, ?_⟩
      refine Pt rfl rfl (R_not rfl (P_some rfl (PL_nil (AN.done0 (by kernel_rfl) (hK3125 _ _ _ ?_)))))
      refine W_cond_v (b := !r2) rfl (fun hc7 => ?_) (fun hc7 => ?_)
      · replace h3111 := cond_t hc7 h3111
        refine WP.seq_k (fun K3126 hK3126 => Wr Tt_ok rfl (R_assign rfl (Pn rfl (hK3126 _ _ _ (WP.ret ?_)))))
        have e_ := Option.some.inj h3111
        subst e_
        replace h := osum_r h
        have e_ := Option.some.inj h
        obtain ⟨e0a_, e0b_⟩ := Prod.mk.inj e_
        clear e_
        subst e0a_
        subst e0b_
        refine S_tmp rfl (S_nil (Upd.seg (L2 := (((g2, Obj.cells #[.int .i64 w1.place.node, .int .i64 w1.place.time, .int .i64 w1.place.load, .int .i64 w1.place.meters, .int .i64 w1.p.Road.Nodes, .slice A2 w1.p.Road.Edges.length c2, .slice A3 w1.p.Vehicles.length c3, .slice A4 w1.p.Demands.length c4, .int .i64 w1.p.Unload, .int .i64 w1.p.UnloadSecs, .string w1.v.ID, .int .i64 w1.v.Depot, .int .i64 w1.v.Shift.From, .int .i64 w1.v.Shift.To, .int .i64 w1.v.Grams, .int .i64 w1.v.Kinds, .map (some g3), .slice A5 w1.visits.length c5] 73 (0, 0)) :: ((g3, Obj.map es1 cn1) :: (ch1 ++ []))) :: L)) (SegSub.trans (SegSub.flat (by simp [selS])) (SegSub.sel _ [some 0, some 1, some 2] 4)) ?_))
        exact Upd.done (hR _ ((g2, Obj.cells #[.int .i64 w1.place.node, .int .i64 w1.place.time, .int .i64 w1.place.load, .int .i64 w1.place.meters, .int .i64 w1.p.Road.Nodes, .slice A2 w1.p.Road.Edges.length c2, .slice A3 w1.p.Vehicles.length c3, .slice A4 w1.p.Demands.length c4, .int .i64 w1.p.Unload, .int .i64 w1.p.UnloadSecs, .string w1.v.ID, .int .i64 w1.v.Depot, .int .i64 w1.v.Shift.From, .int .i64 w1.v.Shift.To, .int .i64 w1.v.Grams, .int .i64 w1.v.Kinds, .map (some g3), .slice A5 w1.visits.length c5] 73 (0, 0)) :: ((g3, Obj.map es1 cn1) :: (ch1 ++ []))) (hm3114) (⟨g2, A2, c2, A3, c3, A4, c4, g3, es1, cn1, A5, c5, ch1, rfl, rfl, ⟨hl2, hA3⟩, ⟨hl3, hA4⟩, ⟨hl4, hA5⟩, hM1, hO1⟩))
      replace h3111 := cond_f hc7 h3111
      refine WP.skip (hK3124 _ _ _ (Wr Tt_ok rfl (R_move rfl (Pc rfl rfl (R_nilP rfl (Pc rfl rfl (R_fa0 (o' := 4) rfl rfl rfl rfl rfl rfl (Pc rfl rfl (R_fa0 (o' := 7) rfl rfl rfl rfl rfl rfl ?_)))))))))
      refine Pc rfl rfl (R_load rfl rfl rfl (Ex.mk _ (Cell.seg 0 0 rfl rfl rfl) (Pc rfl rfl (R_move rfl (P_some rfl (O_cons ?_))))))
      obtain ⟨x3, hx5, h3111⟩ := obind h3111
      obtain ⟨a3, cs3, hA8, hr3, _, hc8⟩ := Rds.getI (ArrR.rds hA5 L) hx5
      obtain rfl := hr3
      refine O_read rfl (R_iaG rfl rfl rfl rfl rfl rfl ⟨(getI_lt hx5).1, (getI_lt hx5).2.1⟩ hA8 (Pc rfl rfl (R_fa rfl rfl rfl rfl rfl (Pc rfl rfl (R_load rfl rfl rfl (Ex.mk _ (Cell.of_cells (hc8.push.push.push.push) 1 rfl) (Pc rfl rfl (R_assign rfl (Pn rfl ?_)))))))))
      have e_ := Option.some.inj h3111
      subst e_
      exact ⟨x3.Node, rfl, SubFr.of ⟨rfl, rfl, rfl, trivial⟩, SegSub.sel _ [some 0, some 1, some 2] 4⟩
    replace h3111 := cond_f hc2 h3111
    apply WP.skip
    have e_ := Option.some.inj h3111
    subst e_
    exact ⟨w1.p.Unload, rfl, SubFr.of ⟨rfl, rfl, rfl, trivial⟩, SegSub.sel _ [some 1, some 2, some 3] 4⟩
  rintro fr3111 μ3111 L3111 hm3111 ⟨node1, ho3111, hF3111, hS3111⟩
  subst ho3111
  replace h := osum_l h
  replace hA1 := hA1.mono hm3111
  replace hc1 := hc1.lift hm3111
  replace hA3 := hA3.mono hm3111
  replace hA4 := hA4.mono hm3111
  replace hA5 := hA5.mono hm3111
  replace hM1 := hM1.mono hm3111
  replace hO1 := hO1.mono hm3111
  refine hK3109 _ _ _ (WP.at hF3111 hS3111 (WP.seq_k (fun K3129 hK3129 => Wr Tt_ok rfl (R_move rfl (Pc rfl rfl (R_move rfl (P_some rfl (O_cons (O_call (all := [.pointer (some ⟨g2, 0, none⟩), .int .i64 node1]) rfl rfl rfl ?_)))))))))
  have hP2 : Obj_tour_walk μ3111 (.pointer (some ⟨g2, 0, none⟩)) w1 ((g2, Obj.cells #[.int .i64 w1.place.node, .int .i64 w1.place.time, .int .i64 w1.place.load, .int .i64 w1.place.meters, .int .i64 w1.p.Road.Nodes, .slice A2 w1.p.Road.Edges.length c2, .slice A3 w1.p.Vehicles.length c3, .slice A4 w1.p.Demands.length c4, .int .i64 w1.p.Unload, .int .i64 w1.p.UnloadSecs, .string w1.v.ID, .int .i64 w1.v.Depot, .int .i64 w1.v.Shift.From, .int .i64 w1.v.Shift.To, .int .i64 w1.v.Grams, .int .i64 w1.v.Kinds, .map (some g3), .slice A5 w1.visits.length c5] 73 (0, 0)) :: ((g3, Obj.map es1 cn1) :: (ch1 ++ []))) := ⟨g2, A2, c2, A3, c3, A4, c4, g3, es1, cn1, A5, c5, ch1, rfl, rfl, ⟨hl2, hA3⟩, ⟨hl3, hA4⟩, ⟨hl4, hA5⟩, hM1, hO1⟩
  refine Fn.seg (L2 := (((g2, Obj.cells #[.int .i64 w1.place.node, .int .i64 w1.place.time, .int .i64 w1.place.load, .int .i64 w1.place.meters, .int .i64 w1.p.Road.Nodes, .slice A2 w1.p.Road.Edges.length c2, .slice A3 w1.p.Vehicles.length c3, .slice A4 w1.p.Demands.length c4, .int .i64 w1.p.Unload, .int .i64 w1.p.UnloadSecs, .string w1.v.ID, .int .i64 w1.v.Depot, .int .i64 w1.v.Shift.From, .int .i64 w1.v.Shift.To, .int .i64 w1.v.Grams, .int .i64 w1.v.Kinds, .map (some g3), .slice A5 w1.visits.length c5] 73 (0, 0)) :: ((g3, Obj.map es1 cn1) :: (ch1 ++ []))) :: L)) (SegSub.trans (SegSub.flat (by simp [selS])) (SegSub.sel _ [some 0, some 1, some 2] 3)) ?_
  obtain ⟨⟨r3, r4, r5⟩, hx6, h⟩ := obind h
  replace h := oun_mk h
  replace h := oun_mk h
  refine tour_walk_leg_fn hP2 hx6 (fun v2 so2 hm_1 hP3 => ?_)
  replace hA1 := hA1.mono hm_1
  replace hc1 := hc1.lift hm_1
  replace hA3 := hA3.mono hm_1
  replace hA4 := hA4.mono hm_1
  replace hA5 := hA5.mono hm_1
  replace hM1 := hM1.mono hm_1
  replace hO1 := hO1.mono hm_1
  replace hP2 := hP2.mono hm_1
  refine Pc rfl rfl (R_move rfl (Pc rfl rfl (R_ext rfl rfl (Pc rfl rfl (R_ext rfl rfl (P_some rfl (O_cons (O_alloc (cs := #[.int .i64 0, .int .i64 0]) rfl rfl (fun g4 => P_some rfl (O_cons (O_store (vs := [.int .i64 r3.Secs, .int .i64 r3.Meters]) rfl rfl rfl rfl rfl rfl ?_)))))))))))
  refine ST_ (L' := ([(g4, .cells #[.int .i64 r3.Secs, .int .i64 r3.Meters] 51 (0, 0))] :: so2 :: L)) 0 0 rfl rfl rfl rfl (P_none (O_cons (O_read rfl (R_assign rfl (Pn rfl (hK3129 _ _ _ (WP.seq_k (fun K3134 hK3134 => WP.seq_k (fun K3135 hK3135 => Wr Tt_ok rfl (R_move rfl (Pc rfl rfl (R_not rfl ?_))))))))))))
  refine Pn rfl (hK3135 _ _ _ ?_)
  refine W_cond_v (b := !r4) rfl (fun hc9 => ?_) (fun hc9 => ?_)
  · replace h := cond_t hc9 h
    refine WP.seq_k (fun K3136 hK3136 => Wr Tt_ok rfl (R_assign rfl (Pn rfl (hK3136 _ _ _ (WP.ret ?_)))))
    have e_ := Option.some.inj h
    obtain ⟨e0a_, e0b_⟩ := Prod.mk.inj e_
    clear e_
    subst e0a_
    subst e0b_
    refine S_tmp rfl (S_nil (Upd.selS [some 1] 2 ?_))
    exact Upd.done (hR _ so2 (Gh.le.trans hm3111 (hm_1)) (hP3))
  replace h := cond_f hc9 h
  refine WP.skip (hK3134 _ _ _ (WP.seq_k (fun K3137 hK3137 => ?_)))
  obtain ⟨g5, A6, c6, A7, c7, A8, c8, g6, es2, cn2, A9, c9, ch2, hv2, rfl, ⟨hl6, hA9⟩, ⟨hl7, hA10⟩, ⟨hl8, hA11⟩, hM2, hO2⟩ := hP3
  replace hv2 := ptr_inj hv2
  subst hv2
  refine WP.seg (L2 := ([(g4, .cells #[.int .i64 r3.Secs, .int .i64 r3.Meters] 51 (0, 0))] :: [(g2, .cells #[.int .i64 r5.place.node, .int .i64 r5.place.time, .int .i64 r5.place.load, .int .i64 r5.place.meters, .int .i64 r5.p.Road.Nodes, .slice A6 r5.p.Road.Edges.length c6, .slice A7 r5.p.Vehicles.length c7, .slice A8 r5.p.Demands.length c8, .int .i64 r5.p.Unload, .int .i64 r5.p.UnloadSecs, .string r5.v.ID, .int .i64 r5.v.Depot, .int .i64 r5.v.Shift.From, .int .i64 r5.v.Shift.To, .int .i64 r5.v.Grams, .int .i64 r5.v.Kinds, .map (some g6), .slice A9 r5.visits.length c9] 73 (0, 0))] :: [(g6, .map es2 cn2)] :: ch2 :: L)) (SegSub.flat (by simp)) (WP.drawn (id := 14) (l' := List.replicate 6 true) wide Tt_ok ([(g4, .cells #[.int .i64 r3.Secs, .int .i64 r3.Meters] 51 (0, 0))] :: [(g6, .map es2 cn2)] :: ch2 :: L) (Kept.ofT (keep := [[(g4, .cells #[.int .i64 r3.Secs, .int .i64 r3.Meters] 51 (0, 0))], [(g6, .map es2 cn2)], ch2]) (A := [[(g4, .cells #[.int .i64 r3.Secs, .int .i64 r3.Meters] 51 (0, 0))], [(g2, .cells #[.int .i64 r5.place.node, .int .i64 r5.place.time, .int .i64 r5.place.load, .int .i64 r5.place.meters, .int .i64 r5.p.Road.Nodes, .slice A6 r5.p.Road.Edges.length c6, .slice A7 r5.p.Vehicles.length c7, .slice A8 r5.p.Demands.length c8, .int .i64 r5.p.Unload, .int .i64 r5.p.UnloadSecs, .string r5.v.ID, .int .i64 r5.v.Depot, .int .i64 r5.v.Shift.From, .int .i64 r5.v.Shift.To, .int .i64 r5.v.Grams, .int .i64 r5.v.Kinds, .map (some g6), .slice A9 r5.visits.length c9] 73 (0, 0))], [(g6, .map es2 cn2)], ch2]) (by simp)) [(true, 0), (true, 1), (true, 2), (true, 3), (true, 4), (false, 5)] (by kernel_rfl) (by kernel_rfl) rfl ?_)
  refine PL_t rfl (R_move rfl (Pt rfl rfl (R_nilP rfl (Pt rfl rfl (R_fa0 (o' := 0) rfl rfl rfl rfl rfl rfl (Pt rfl rfl (R_move rfl (Pt rfl rfl (R_loadA rfl rfl rfl rfl (LA_ (vs := [.int .i64 r3.Secs, .int .i64 r3.Meters]) 0 0 rfl rfl rfl rfl (P_some rfl (PL_f rfl (O_call (all := [.pointer (some ⟨g2, 0, none⟩), .int .i64 node1, .agg #[.int .i64 r3.Secs, .int .i64 r3.Meters]]) rfl rfl rfl ?_)))))))))))))
  refine Fn.of_body Tt_ok Try.func65 (by kernel_rfl) rfl Try.ntmps65 (by simp) ?_
  simp only [Try.f65, argFr, List.zipIdx, List.map, Nat.reduceAdd]
  refine WP.seq_k (fun K3550 hK3550 => WP.region Tt_ok (O_cons (O_box (cs := #[.int .i64 r3.Secs, .int .i64 r3.Meters]) rfl rfl (fun g7 => Pn rfl (hK3550 _ _ _ (WP.seq_k (fun K3552 hK3552 => Wr Tt_ok rfl (R_move rfl (Pc rfl rfl (R_move rfl (P_some rfl (O_cons ?_))))))))))))
  refine O_read rfl (R_nilP rfl (Pc rfl rfl (R_fa0 (o' := 0) rfl rfl rfl rfl rfl rfl (P_some rfl (O_cons (O_store (vs := [.int .i64 node1]) rfl rfl rfl rfl rfl rfl (ST_ (L' := ([(g7, .cells #[.int .i64 r3.Secs, .int .i64 r3.Meters] 51 (0, 0))] :: [(g4, .cells #[.int .i64 r3.Secs, .int .i64 r3.Meters] 51 (0, 0))] :: [(g2, .cells #[.int .i64 node1, .int .i64 r5.place.time, .int .i64 r5.place.load, .int .i64 r5.place.meters, .int .i64 r5.p.Road.Nodes, .slice A6 r5.p.Road.Edges.length c6, .slice A7 r5.p.Vehicles.length c7, .slice A8 r5.p.Demands.length c8, .int .i64 r5.p.Unload, .int .i64 r5.p.UnloadSecs, .string r5.v.ID, .int .i64 r5.v.Depot, .int .i64 r5.v.Shift.From, .int .i64 r5.v.Shift.To, .int .i64 r5.v.Grams, .int .i64 r5.v.Kinds, .map (some g6), .slice A9 r5.visits.length c9] 73 (0, 0))] :: [(g6, .map es2 cn2)] :: ch2 :: L)) 2 0 rfl rfl rfl rfl ?_)))))))
  refine P_none (O_nil (hK3552 _ _ _ (WP.seq_k (fun K3554 hK3554 => WP.drawn (id := 2) (l' := List.replicate 10 true) wide Tt_ok ([(g7, .cells #[.int .i64 r3.Secs, .int .i64 r3.Meters] 51 (0, 0))] :: [(g4, .cells #[.int .i64 r3.Secs, .int .i64 r3.Meters] 51 (0, 0))] :: [(g6, .map es2 cn2)] :: ch2 :: L) (Kept.ofT (keep := [[(g7, .cells #[.int .i64 r3.Secs, .int .i64 r3.Meters] 51 (0, 0))], [(g4, .cells #[.int .i64 r3.Secs, .int .i64 r3.Meters] 51 (0, 0))], [(g6, .map es2 cn2)], ch2]) (A := [[(g7, .cells #[.int .i64 r3.Secs, .int .i64 r3.Meters] 51 (0, 0))], [(g4, .cells #[.int .i64 r3.Secs, .int .i64 r3.Meters] 51 (0, 0))], [(g2, .cells #[.int .i64 node1, .int .i64 r5.place.time, .int .i64 r5.place.load, .int .i64 r5.place.meters, .int .i64 r5.p.Road.Nodes, .slice A6 r5.p.Road.Edges.length c6, .slice A7 r5.p.Vehicles.length c7, .slice A8 r5.p.Demands.length c8, .int .i64 r5.p.Unload, .int .i64 r5.p.UnloadSecs, .string r5.v.ID, .int .i64 r5.v.Depot, .int .i64 r5.v.Shift.From, .int .i64 r5.v.Shift.To, .int .i64 r5.v.Grams, .int .i64 r5.v.Kinds, .map (some g6), .slice A9 r5.visits.length c9] 73 (0, 0))], [(g6, .map es2 cn2)], ch2]) (by simp)) [(true, 0), (true, 1), (true, 2), (true, 4), (true, 5), (false, 3), (true, 6), (true, 7), (true, 8), (false, 9)] (by kernel_rfl) (by kernel_rfl) rfl ?_))))
  refine PL_t rfl (R_move rfl (Pt rfl rfl (R_nilP rfl (Pt rfl rfl (R_fa0 (o' := 1) rfl rfl rfl rfl rfl rfl (Pt rfl rfl (R_fa0 (o' := 0) rfl rfl rfl rfl rfl rfl (Pt rfl rfl (R_load rfl rfl rfl (Ex.mk _ (Cell.seg 0 0 rfl rfl rfl) (P_some rfl (PL_f rfl (O_read rfl ?_)))))))))))))
  refine R_load rfl rfl rfl (Ex.mk _ (Cell.seg 2 0 rfl rfl rfl) ?_)
  refine ⟨Kept.ofT (keep := [[(g7, .cells #[.int .i64 r3.Secs, .int .i64 r3.Meters] 51 (0, 0))], [(g4, .cells #[.int .i64 r3.Secs, .int .i64 r3.Meters] 51 (0, 0))], [(g6, .map es2 cn2)], ch2]) (A := [[(g7, .cells #[.int .i64 r3.Secs, .int .i64 r3.Meters] 51 (0, 0))], [(g4, .cells #[.int .i64 r3.Secs, .int .i64 r3.Meters] 51 (0, 0))], [(g2, .cells #[.int .i64 node1, .int .i64 r5.place.time, .int .i64 r5.place.load, .int .i64 r5.place.meters, .int .i64 r5.p.Road.Nodes, .slice A6 r5.p.Road.Edges.length c6, .slice A7 r5.p.Vehicles.length c7, .slice A8 r5.p.Demands.length c8, .int .i64 r5.p.Unload, .int .i64 r5.p.UnloadSecs, .string r5.v.ID, .int .i64 r5.v.Depot, .int .i64 r5.v.Shift.From, .int .i64 r5.v.Shift.To, .int .i64 r5.v.Grams, .int .i64 r5.v.Kinds, .map (some g6), .slice A9 r5.visits.length c9] 73 (0, 0))], [(g6, .map es2 cn2)], ch2]) (by simp), ?_⟩
  refine Pt rfl rfl (R_add rfl rfl (Pt rfl rfl (R_nilP rfl (Pt rfl rfl (R_fa0 (o' := 1) rfl rfl rfl rfl rfl rfl (P_some rfl (PL_f rfl (O_store (vs := [.int .i64 (w64 (r5.place.time + r3.Secs))]) rfl rfl rfl rfl rfl rfl (ST_ (L' := ([(g7, .cells #[.int .i64 r3.Secs, .int .i64 r3.Meters] 51 (0, 0))] :: [(g4, .cells #[.int .i64 r3.Secs, .int .i64 r3.Meters] 51 (0, 0))] :: [(g2, .cells #[.int .i64 node1, .int .i64 (w64 (r5.place.time + r3.Secs)), .int .i64 r5.place.load, .int .i64 r5.place.meters, .int .i64 r5.p.Road.Nodes, .slice A6 r5.p.Road.Edges.length c6, .slice A7 r5.p.Vehicles.length c7, .slice A8 r5.p.Demands.length c8, .int .i64 r5.p.Unload, .int .i64 r5.p.UnloadSecs, .string r5.v.ID, .int .i64 r5.v.Depot, .int .i64 r5.v.Shift.From, .int .i64 r5.v.Shift.To, .int .i64 r5.v.Grams, .int .i64 r5.v.Kinds, .map (some g6), .slice A9 r5.visits.length c9] 73 (0, 0))] :: [(g6, .map es2 cn2)] :: ch2 :: L)) 2 0 rfl rfl rfl rfl ?_)))))))))
  refine ⟨Kept.ofT (keep := [[(g7, .cells #[.int .i64 r3.Secs, .int .i64 r3.Meters] 51 (0, 0))], [(g4, .cells #[.int .i64 r3.Secs, .int .i64 r3.Meters] 51 (0, 0))], [(g6, .map es2 cn2)], ch2]) (A := [[(g7, .cells #[.int .i64 r3.Secs, .int .i64 r3.Meters] 51 (0, 0))], [(g4, .cells #[.int .i64 r3.Secs, .int .i64 r3.Meters] 51 (0, 0))], [(g2, .cells #[.int .i64 node1, .int .i64 (w64 (r5.place.time + r3.Secs)), .int .i64 r5.place.load, .int .i64 r5.place.meters, .int .i64 r5.p.Road.Nodes, .slice A6 r5.p.Road.Edges.length c6, .slice A7 r5.p.Vehicles.length c7, .slice A8 r5.p.Demands.length c8, .int .i64 r5.p.Unload, .int .i64 r5.p.UnloadSecs, .string r5.v.ID, .int .i64 r5.v.Depot, .int .i64 r5.v.Shift.From, .int .i64 r5.v.Shift.To, .int .i64 r5.v.Grams, .int .i64 r5.v.Kinds, .map (some g6), .slice A9 r5.visits.length c9] 73 (0, 0))], [(g6, .map es2 cn2)], ch2]) (by simp), ?_⟩
  refine P_none (PL_nil (AN.done0 (by kernel_rfl) (hK3554 _ _ _ (WP.drawn (id := 3) (l' := List.replicate 10 true) wide Tt_ok ([(g7, .cells #[.int .i64 r3.Secs, .int .i64 r3.Meters] 51 (0, 0))] :: [(g4, .cells #[.int .i64 r3.Secs, .int .i64 r3.Meters] 51 (0, 0))] :: [(g6, .map es2 cn2)] :: ch2 :: L) (Kept.ofT (keep := [[(g7, .cells #[.int .i64 r3.Secs, .int .i64 r3.Meters] 51 (0, 0))], [(g4, .cells #[.int .i64 r3.Secs, .int .i64 r3.Meters] 51 (0, 0))], [(g6, .map es2 cn2)], ch2]) (A := [[(g7, .cells #[.int .i64 r3.Secs, .int .i64 r3.Meters] 51 (0, 0))], [(g4, .cells #[.int .i64 r3.Secs, .int .i64 r3.Meters] 51 (0, 0))], [(g2, .cells #[.int .i64 node1, .int .i64 (w64 (r5.place.time + r3.Secs)), .int .i64 r5.place.load, .int .i64 r5.place.meters, .int .i64 r5.p.Road.Nodes, .slice A6 r5.p.Road.Edges.length c6, .slice A7 r5.p.Vehicles.length c7, .slice A8 r5.p.Demands.length c8, .int .i64 r5.p.Unload, .int .i64 r5.p.UnloadSecs, .string r5.v.ID, .int .i64 r5.v.Depot, .int .i64 r5.v.Shift.From, .int .i64 r5.v.Shift.To, .int .i64 r5.v.Grams, .int .i64 r5.v.Kinds, .map (some g6), .slice A9 r5.visits.length c9] 73 (0, 0))], [(g6, .map es2 cn2)], ch2]) (by simp)) [(true, 0), (true, 1), (true, 2), (true, 4), (true, 5), (false, 3), (true, 6), (true, 7), (true, 8), (false, 9)] (by kernel_rfl) (by kernel_rfl) rfl ?_))))
  refine PL_t rfl (R_move rfl (Pt rfl rfl (R_nilP rfl (Pt rfl rfl (R_fa0 (o' := 3) rfl rfl rfl rfl rfl rfl (Pt rfl rfl (R_fa0 (o' := 1) rfl rfl rfl rfl rfl rfl (Pt rfl rfl (R_load rfl rfl rfl (Ex.mk _ (Cell.seg 0 0 rfl rfl rfl) (P_some rfl (PL_f rfl (O_read rfl ?_)))))))))))))
  refine R_load rfl rfl rfl (Ex.mk _ (Cell.seg 2 0 rfl rfl rfl) ?_)
  refine ⟨Kept.ofT (keep := [[(g7, .cells #[.int .i64 r3.Secs, .int .i64 r3.Meters] 51 (0, 0))], [(g4, .cells #[.int .i64 r3.Secs, .int .i64 r3.Meters] 51 (0, 0))], [(g6, .map es2 cn2)], ch2]) (A := [[(g7, .cells #[.int .i64 r3.Secs, .int .i64 r3.Meters] 51 (0, 0))], [(g4, .cells #[.int .i64 r3.Secs, .int .i64 r3.Meters] 51 (0, 0))], [(g2, .cells #[.int .i64 node1, .int .i64 (w64 (r5.place.time + r3.Secs)), .int .i64 r5.place.load, .int .i64 r5.place.meters, .int .i64 r5.p.Road.Nodes, .slice A6 r5.p.Road.Edges.length c6, .slice A7 r5.p.Vehicles.length c7, .slice A8 r5.p.Demands.length c8, .int .i64 r5.p.Unload, .int .i64 r5.p.UnloadSecs, .string r5.v.ID, .int .i64 r5.v.Depot, .int .i64 r5.v.Shift.From, .int .i64 r5.v.Shift.To, .int .i64 r5.v.Grams, .int .i64 r5.v.Kinds, .map (some g6), .slice A9 r5.visits.length c9] 73 (0, 0))], [(g6, .map es2 cn2)], ch2]) (by simp), ?_⟩
  refine Pt rfl rfl (R_add rfl rfl (Pt rfl rfl (R_nilP rfl (Pt rfl rfl (R_fa0 (o' := 3) rfl rfl rfl rfl rfl rfl (P_some rfl (PL_f rfl (O_store (vs := [.int .i64 (w64 (r5.place.meters + r3.Meters))]) rfl rfl rfl rfl rfl rfl (ST_ (L' := ([(g7, .cells #[.int .i64 r3.Secs, .int .i64 r3.Meters] 51 (0, 0))] :: [(g4, .cells #[.int .i64 r3.Secs, .int .i64 r3.Meters] 51 (0, 0))] :: [(g2, .cells #[.int .i64 node1, .int .i64 (w64 (r5.place.time + r3.Secs)), .int .i64 r5.place.load, .int .i64 (w64 (r5.place.meters + r3.Meters)), .int .i64 r5.p.Road.Nodes, .slice A6 r5.p.Road.Edges.length c6, .slice A7 r5.p.Vehicles.length c7, .slice A8 r5.p.Demands.length c8, .int .i64 r5.p.Unload, .int .i64 r5.p.UnloadSecs, .string r5.v.ID, .int .i64 r5.v.Depot, .int .i64 r5.v.Shift.From, .int .i64 r5.v.Shift.To, .int .i64 r5.v.Grams, .int .i64 r5.v.Kinds, .map (some g6), .slice A9 r5.visits.length c9] 73 (0, 0))] :: [(g6, .map es2 cn2)] :: ch2 :: L)) 2 0 rfl rfl rfl rfl ?_)))))))))
  refine ⟨Kept.ofT (keep := [[(g7, .cells #[.int .i64 r3.Secs, .int .i64 r3.Meters] 51 (0, 0))], [(g4, .cells #[.int .i64 r3.Secs, .int .i64 r3.Meters] 51 (0, 0))], [(g6, .map es2 cn2)], ch2]) (A := [[(g7, .cells #[.int .i64 r3.Secs, .int .i64 r3.Meters] 51 (0, 0))], [(g4, .cells #[.int .i64 r3.Secs, .int .i64 r3.Meters] 51 (0, 0))], [(g2, .cells #[.int .i64 node1, .int .i64 (w64 (r5.place.time + r3.Secs)), .int .i64 r5.place.load, .int .i64 (w64 (r5.place.meters + r3.Meters)), .int .i64 r5.p.Road.Nodes, .slice A6 r5.p.Road.Edges.length c6, .slice A7 r5.p.Vehicles.length c7, .slice A8 r5.p.Demands.length c8, .int .i64 r5.p.Unload, .int .i64 r5.p.UnloadSecs, .string r5.v.ID, .int .i64 r5.v.Depot, .int .i64 r5.v.Shift.From, .int .i64 r5.v.Shift.To, .int .i64 r5.v.Grams, .int .i64 r5.v.Kinds, .map (some g6), .slice A9 r5.visits.length c9] 73 (0, 0))], [(g6, .map es2 cn2)], ch2]) (by simp), ?_⟩
  refine P_none (PL_nil (AN.done0 (by kernel_rfl) (S_nil (Upd.done ?_))))
  refine ⟨Kept.ofT (keep := [[(g4, .cells #[.int .i64 r3.Secs, .int .i64 r3.Meters] 51 (0, 0))], [(g6, .map es2 cn2)], ch2]) (A := [[(g7, .cells #[.int .i64 r3.Secs, .int .i64 r3.Meters] 51 (0, 0))], [(g4, .cells #[.int .i64 r3.Secs, .int .i64 r3.Meters] 51 (0, 0))], [(g2, .cells #[.int .i64 node1, .int .i64 (w64 (r5.place.time + r3.Secs)), .int .i64 r5.place.load, .int .i64 (w64 (r5.place.meters + r3.Meters)), .int .i64 r5.p.Road.Nodes, .slice A6 r5.p.Road.Edges.length c6, .slice A7 r5.p.Vehicles.length c7, .slice A8 r5.p.Demands.length c8, .int .i64 r5.p.Unload, .int .i64 r5.p.UnloadSecs, .string r5.v.ID, .int .i64 r5.v.Depot, .int .i64 r5.v.Shift.From, .int .i64 r5.v.Shift.To, .int .i64 r5.v.Grams, .int .i64 r5.v.Kinds, .map (some g6), .slice A9 r5.visits.length c9] 73 (0, 0))], [(g6, .map es2 cn2)], ch2]) (by simp), ?_⟩
  refine P_some rfl (PL_nil (AN.done0 (by kernel_rfl) (hK3137 _ _ _ (WP.seq_k (fun K3586 hK3586 => Wr Tt_ok rfl (R_move rfl (Pc rfl rfl (R_nilP rfl (Pc rfl rfl (R_fa0 (o' := 0) rfl rfl rfl rfl rfl rfl (P_some rfl ?_)))))))))))
  refine O_cons (O_read rfl (R_fa0 (o' := 1) rfl rfl rfl rfl rfl rfl (Pc rfl rfl (R_load rfl rfl rfl (Ex.mk _ (Cell.seg 2 0 rfl rfl rfl) (Pc rfl rfl (R_assign rfl (Pn rfl (hK3586 _ _ _ (WP.seq_k (fun K3587 hK3587 => WP.seq_k (fun K3588 hK3588 => WP.region Tt_ok ?_))))))))))))
  refine O_cons (O_read rfl (R_move rfl (Pc rfl rfl (R_eqlD rfl rfl (Pn rfl (hK3588 _ _ _ ?_))))))
  refine W_cond_v (b := (decide (x1 = (-1)))) rfl (fun hc10 => ?_) (fun hc10 => ?_)
  · replace h := cond_t hc10 h
    refine WP.seq_k (fun K3589 hK3589 => WP.drawB (id := 17) (l' := List.replicate 14 true ++ [false]) wide Tt_ok _ Kept.refl 14 [(11, [13, 12]), (12, [13])] [(true, 0), (true, 1), (true, 2), (true, 3), (true, 4), (true, 5), (true, 6), (true, 7), (true, 8), (true, 9), (true, 10), (true, 11), (true, 12), (true, 13)] (by kernel_rfl) (by kernel_rfl) rfl (by kernel_rfl) (by kernel_rfl) (PL_t rfl (R_move rfl (Pt rfl rfl (R_nilP rfl (Pt rfl rfl (R_fa0 (o' := 0) rfl rfl rfl rfl rfl rfl (Pt rfl rfl (R_fa0 (o' := 1) rfl rfl rfl rfl rfl rfl (Pt rfl rfl (R_load rfl rfl rfl (Ex.mk _ (Cell.seg 2 0 rfl rfl rfl) (P_some rfl ?_)))))))))))))
    refine PL_t rfl (R_move rfl (Pt rfl rfl (R_nilP rfl (Pt rfl rfl (R_fa0 (o' := 4) rfl rfl rfl rfl rfl rfl (Pt rfl rfl (R_fa0 (o' := 9) rfl rfl rfl rfl rfl rfl (Pt rfl rfl (R_load rfl rfl rfl (Ex.mk _ (Cell.seg 2 0 rfl rfl rfl) (Pt rfl rfl (R_add rfl rfl ?_))))))))))))
    refine Pt rfl rfl (R_nilP rfl (Pt rfl rfl (R_fa0 (o' := 0) rfl rfl rfl rfl rfl rfl (Pt rfl rfl (R_fa0 (o' := 1) rfl rfl rfl rfl rfl rfl (P_some rfl (PL_nil (last_ rfl (O_store (vs := [.int .i64 (w64 ((w64 (r5.place.time + r3.Secs)) + r5.p.UnloadSecs))]) rfl rfl rfl rfl rfl rfl (ST_ (L' := ([(g7, .cells #[.int .i64 r3.Secs, .int .i64 r3.Meters] 51 (0, 0))] :: [(g4, .cells #[.int .i64 r3.Secs, .int .i64 r3.Meters] 51 (0, 0))] :: [(g2, .cells #[.int .i64 node1, .int .i64 (w64 ((w64 (r5.place.time + r3.Secs)) + r5.p.UnloadSecs)), .int .i64 r5.place.load, .int .i64 (w64 (r5.place.meters + r3.Meters)), .int .i64 r5.p.Road.Nodes, .slice A6 r5.p.Road.Edges.length c6, .slice A7 r5.p.Vehicles.length c7, .slice A8 r5.p.Demands.length c8, .int .i64 r5.p.Unload, .int .i64 r5.p.UnloadSecs, .string r5.v.ID, .int .i64 r5.v.Depot, .int .i64 r5.v.Shift.From, .int .i64 r5.v.Shift.To, .int .i64 r5.v.Grams, .int .i64 r5.v.Kinds, .map (some g6), .slice A9 r5.visits.length c9] 73 (0, 0))] :: [(g6, .map es2 cn2)] :: ch2 :: L)) 2 0 rfl rfl rfl rfl ?_))))))))))
    refine P_none (hK3589 _ _ _ (WP.seq_k (fun K3599 hK3599 => Wr Tt_ok rfl (R_move rfl (Pc rfl rfl (R_nilP rfl (Pc rfl rfl (R_fa0 (o' := 0) rfl rfl rfl rfl rfl rfl (Pc rfl rfl ?_)))))))))
    refine R_fa0 (o' := 2) rfl rfl rfl rfl rfl rfl (P_some rfl (O_cons (O_store (vs := [.int .i64 0]) rfl rfl rfl rfl rfl rfl (ST_ (L' := ([(g7, .cells #[.int .i64 r3.Secs, .int .i64 r3.Meters] 51 (0, 0))] :: [(g4, .cells #[.int .i64 r3.Secs, .int .i64 r3.Meters] 51 (0, 0))] :: [(g2, .cells #[.int .i64 node1, .int .i64 (w64 ((w64 (r5.place.time + r3.Secs)) + r5.p.UnloadSecs)), .int .i64 0, .int .i64 (w64 (r5.place.meters + r3.Meters)), .int .i64 r5.p.Road.Nodes, .slice A6 r5.p.Road.Edges.length c6, .slice A7 r5.p.Vehicles.length c7, .slice A8 r5.p.Demands.length c8, .int .i64 r5.p.Unload, .int .i64 r5.p.UnloadSecs, .string r5.v.ID, .int .i64 r5.v.Depot, .int .i64 r5.v.Shift.From, .int .i64 r5.v.Shift.To, .int .i64 r5.v.Grams, .int .i64 r5.v.Kinds, .map (some g6), .slice A9 r5.visits.length c9] 73 (0, 0))] :: [(g6, .map es2 cn2)] :: ch2 :: L)) 2 0 rfl rfl rfl rfl ?_))))
    refine P_none (O_nil (hK3599 _ _ _ (WP.seq_k (fun K3601 hK3601 => Wr Tt_ok rfl (R_move rfl (Pc rfl rfl (R_move rfl (Pc rfl rfl (R_move rfl (P_some rfl (O_cons ?_)))))))))))
    refine O_read rfl (R_move rfl (P_some rfl (O_cons (O_call (all := [.pointer (some ⟨g2, 0, none⟩), .int .i64 x1, .int .i64 (w64 (r5.place.time + r3.Secs)), .int .i64 (w64 (r5.place.time + r3.Secs))]) rfl rfl rfl ?_))))
    have hP4 : Obj_tour_walk v2 (.pointer (some ⟨g2, 0, none⟩)) (T_tour_walk.mk (T_tour_place.mk node1 (w64 ((w64 (r5.place.time + r3.Secs)) + r5.p.UnloadSecs)) 0 (w64 (r5.place.meters + r3.Meters))) r5.p r5.v r5.legs r5.visits) ((g2, Obj.cells #[.int .i64 node1, .int .i64 (w64 ((w64 (r5.place.time + r3.Secs)) + r5.p.UnloadSecs)), .int .i64 0, .int .i64 (w64 (r5.place.meters + r3.Meters)), .int .i64 r5.p.Road.Nodes, .slice A6 r5.p.Road.Edges.length c6, .slice A7 r5.p.Vehicles.length c7, .slice A8 r5.p.Demands.length c8, .int .i64 r5.p.Unload, .int .i64 r5.p.UnloadSecs, .string r5.v.ID, .int .i64 r5.v.Depot, .int .i64 r5.v.Shift.From, .int .i64 r5.v.Shift.To, .int .i64 r5.v.Grams, .int .i64 r5.v.Kinds, .map (some g6), .slice A9 r5.visits.length c9] 73 (0, 0)) :: ((g6, Obj.map es2 cn2) :: (ch2 ++ []))) := ⟨g2, A6, c6, A7, c7, A8, c8, g6, es2, cn2, A9, c9, ch2, rfl, rfl, ⟨hl6, hA9⟩, ⟨hl7, hA10⟩, ⟨hl8, hA11⟩, hM2, hO2⟩
    refine Fn.seg (L2 := (((g2, Obj.cells #[.int .i64 node1, .int .i64 (w64 ((w64 (r5.place.time + r3.Secs)) + r5.p.UnloadSecs)), .int .i64 0, .int .i64 (w64 (r5.place.meters + r3.Meters)), .int .i64 r5.p.Road.Nodes, .slice A6 r5.p.Road.Edges.length c6, .slice A7 r5.p.Vehicles.length c7, .slice A8 r5.p.Demands.length c8, .int .i64 r5.p.Unload, .int .i64 r5.p.UnloadSecs, .string r5.v.ID, .int .i64 r5.v.Depot, .int .i64 r5.v.Shift.From, .int .i64 r5.v.Shift.To, .int .i64 r5.v.Grams, .int .i64 r5.v.Kinds, .map (some g6), .slice A9 r5.visits.length c9] 73 (0, 0)) :: ((g6, Obj.map es2 cn2) :: (ch2 ++ []))) :: [(g7, .cells #[.int .i64 r3.Secs, .int .i64 r3.Meters] 51 (0, 0))] :: [(g4, .cells #[.int .i64 r3.Secs, .int .i64 r3.Meters] 51 (0, 0))] :: L)) (SegSub.trans (SegSub.flat (by simp [selS])) (SegSub.sel _ [some 2, some 3, some 4, some 0, some 1] 5)) ?_
    obtain ⟨r6, hx7, h⟩ := obind h
    refine tour_walk_note_fn hP4 hx7 (fun so3 hP5 => Pn rfl (hK3601 _ _ _ (WP.seq_k (fun K3608 hK3608 => Wr Tt_ok rfl (R_assign rfl (Pn rfl (hK3608 _ _ _ (WP.ret ?_))))))))
    have e_ := Option.some.inj h
    obtain ⟨e0a_, e0b_⟩ := Prod.mk.inj e_
    clear e_
    subst e0a_
    subst e0b_
    refine S_tmp rfl (S_nil (Upd.selS [some 0] 3 ?_))
    exact Upd.done (hR _ so3 (Gh.le.trans hm3111 (hm_1)) (hP5))
  replace h := cond_f hc10 h
  refine WP.skip (hK3587 _ _ _ (WP.seq_k (fun K3609 hK3609 => Wr Tt_ok rfl (R_move rfl (Pc rfl rfl (R_nilP rfl (Pc rfl rfl (R_fa0 (o' := 4) rfl rfl rfl rfl rfl rfl (Pc rfl rfl ?_)))))))))
  refine R_fa0 (o' := 7) rfl rfl rfl rfl rfl rfl (Pc rfl rfl (R_load rfl rfl rfl (Ex.mk _ (Cell.seg 2 0 rfl rfl rfl) (Pc rfl rfl (R_move rfl (P_some rfl (O_cons ?_)))))))
  obtain ⟨x4, hx8, h⟩ := obind h
  obtain ⟨a4, cs4, hA12, hr4, _, hc11⟩ := Rds.getI (ArrR.rds hA11 L) hx8
  obtain rfl := hr4
  refine O_read rfl (R_iaG rfl rfl rfl rfl rfl rfl ⟨(getI_lt hx8).1, (getI_lt hx8).2.1⟩ hA12 (Pc rfl rfl (R_loadA rfl rfl rfl rfl (Ex.mk [.int .i64 x4.Container, .int .i64 x4.Node, .int .i64 x4.Kind, .int .i64 x4.Grams, .int .i64 x4.When.From, .int .i64 x4.When.To, .int .i64 x4.Service] ⟨rfl, (hc11.push.push.push.push.push)⟩ (P_some rfl (O_cons (O_alloc (cs := #[.int .i64 0, .int .i64 0, .int .i64 0, .int .i64 0, .int .i64 0, .int .i64 0, .int .i64 0]) rfl rfl (fun g8 => P_some rfl (O_cons (O_store (vs := [.int .i64 x4.Container, .int .i64 x4.Node, .int .i64 x4.Kind, .int .i64 x4.Grams, .int .i64 x4.When.From, .int .i64 x4.When.To, .int .i64 x4.Service]) rfl rfl rfl rfl rfl rfl (ST_ (L' := ([(g8, .cells #[.int .i64 x4.Container, .int .i64 x4.Node, .int .i64 x4.Kind, .int .i64 x4.Grams, .int .i64 x4.When.From, .int .i64 x4.When.To, .int .i64 x4.Service] 79 (0, 0))] :: [(g7, .cells #[.int .i64 r3.Secs, .int .i64 r3.Meters] 51 (0, 0))] :: [(g4, .cells #[.int .i64 r3.Secs, .int .i64 r3.Meters] 51 (0, 0))] :: [(g2, .cells #[.int .i64 node1, .int .i64 (w64 (r5.place.time + r3.Secs)), .int .i64 r5.place.load, .int .i64 (w64 (r5.place.meters + r3.Meters)), .int .i64 r5.p.Road.Nodes, .slice A6 r5.p.Road.Edges.length c6, .slice A7 r5.p.Vehicles.length c7, .slice A8 r5.p.Demands.length c8, .int .i64 r5.p.Unload, .int .i64 r5.p.UnloadSecs, .string r5.v.ID, .int .i64 r5.v.Depot, .int .i64 r5.v.Shift.From, .int .i64 r5.v.Shift.To, .int .i64 r5.v.Grams, .int .i64 r5.v.Kinds, .map (some g6), .slice A9 r5.visits.length c9] 73 (0, 0))] :: [(g6, .map es2 cn2)] :: ch2 :: L)) 0 0 rfl rfl rfl rfl ?_)))))))))))
  refine P_none (O_nil (hK3609 _ _ _ (WP.seq_k (fun K3612 hK3612 => Wr Tt_ok rfl (R_move rfl (Pc rfl rfl (R_fa0 (o' := 4) rfl rfl rfl rfl rfl rfl (Pc rfl rfl (R_fa0 (o' := 4) rfl rfl rfl rfl rfl rfl (P_some rfl (O_cons ?_)))))))))))
  refine O_read rfl (R_load rfl rfl rfl (Ex.mk _ (Cell.seg 0 0 rfl rfl rfl) (Pc rfl rfl (R_maxI rfl (Pc rfl rfl (R_assign rfl (Pn rfl (hK3612 _ _ _ (WP.seq_k (fun K3613 hK3613 => WP.seq_k (fun K3614 hK3614 => WP.region Tt_ok (O_cons ?_))))))))))))
  refine O_read rfl (R_move rfl (Pc rfl rfl (R_fa0 (o' := 4) rfl rfl rfl rfl rfl rfl (Pc rfl rfl (R_fa0 (o' := 5) rfl rfl rfl rfl rfl rfl (Pc rfl rfl (R_load rfl rfl rfl (Ex.mk _ (Cell.seg 0 0 rfl rfl rfl) (Pc rfl rfl ?_)))))))))
  refine R_geqD rfl rfl (Pn rfl (hK3614 _ _ _ ?_))
  refine W_cond_v (b := (decide (x4.When.To ≤ (max (w64 (r5.place.time + r3.Secs)) x4.When.From)))) rfl (fun hc12 => ?_) (fun hc12 => ?_)
  · replace h := cond_t hc12 h
    refine WP.seq_k (fun K3615 hK3615 => Wr Tt_ok rfl (R_assign rfl (Pn rfl (hK3615 _ _ _ (WP.ret ?_)))))
    have e_ := Option.some.inj h
    obtain ⟨e0a_, e0b_⟩ := Prod.mk.inj e_
    clear e_
    subst e0a_
    subst e0b_
    refine S_tmp rfl (S_nil (Upd.seg (L2 := (((g2, Obj.cells #[.int .i64 node1, .int .i64 (w64 (r5.place.time + r3.Secs)), .int .i64 r5.place.load, .int .i64 (w64 (r5.place.meters + r3.Meters)), .int .i64 r5.p.Road.Nodes, .slice A6 r5.p.Road.Edges.length c6, .slice A7 r5.p.Vehicles.length c7, .slice A8 r5.p.Demands.length c8, .int .i64 r5.p.Unload, .int .i64 r5.p.UnloadSecs, .string r5.v.ID, .int .i64 r5.v.Depot, .int .i64 r5.v.Shift.From, .int .i64 r5.v.Shift.To, .int .i64 r5.v.Grams, .int .i64 r5.v.Kinds, .map (some g6), .slice A9 r5.visits.length c9] 73 (0, 0)) :: ((g6, Obj.map es2 cn2) :: (ch2 ++ []))) :: L)) (SegSub.trans (SegSub.flat (by simp [selS])) (SegSub.sel _ [some 3, some 4, some 5] 6)) ?_))
    exact Upd.done (hR _ ((g2, Obj.cells #[.int .i64 node1, .int .i64 (w64 (r5.place.time + r3.Secs)), .int .i64 r5.place.load, .int .i64 (w64 (r5.place.meters + r3.Meters)), .int .i64 r5.p.Road.Nodes, .slice A6 r5.p.Road.Edges.length c6, .slice A7 r5.p.Vehicles.length c7, .slice A8 r5.p.Demands.length c8, .int .i64 r5.p.Unload, .int .i64 r5.p.UnloadSecs, .string r5.v.ID, .int .i64 r5.v.Depot, .int .i64 r5.v.Shift.From, .int .i64 r5.v.Shift.To, .int .i64 r5.v.Grams, .int .i64 r5.v.Kinds, .map (some g6), .slice A9 r5.visits.length c9] 73 (0, 0)) :: ((g6, Obj.map es2 cn2) :: (ch2 ++ []))) (Gh.le.trans hm3111 (hm_1)) (⟨g2, A6, c6, A7, c7, A8, c8, g6, es2, cn2, A9, c9, ch2, rfl, rfl, ⟨hl6, hA9⟩, ⟨hl7, hA10⟩, ⟨hl8, hA11⟩, hM2, hO2⟩))
  replace h := cond_f hc12 h
  refine WP.skip (hK3613 _ _ _ (WP.seq_k (fun K3616 hK3616 => WP.seq_k (fun K3617 hK3617 => WP.drawn (id := 25) (l' := List.replicate 14 true) wide Tt_ok _ Kept.refl [(true, 0), (true, 1), (true, 2), (true, 3), (true, 4), (true, 5), (true, 6), (true, 7), (true, 8), (true, 9), (true, 10), (true, 11), (true, 12), (true, 13)] (by kernel_rfl) (by kernel_rfl) rfl (PL_t rfl (R_move rfl (Pt rfl rfl (R_nilP rfl (Pt rfl rfl (R_fa0 (o' := 0) rfl rfl rfl rfl rfl rfl (Pt rfl rfl (R_fa0 (o' := 2) rfl rfl rfl rfl rfl rfl (Pt rfl rfl ?_)))))))))))))
  refine R_load rfl rfl rfl (Ex.mk _ (Cell.seg 3 0 rfl rfl rfl) (Pt rfl rfl (R_fa0 (o' := 3) rfl rfl rfl rfl rfl rfl (Pt rfl rfl (R_load rfl rfl rfl (Ex.mk _ (Cell.seg 0 0 rfl rfl rfl) (Pt rfl rfl (R_add rfl rfl (Pt rfl rfl (R_move rfl (Pt rfl rfl (R_nilP rfl ?_))))))))))))
  refine Pt rfl rfl (R_fa0 (o' := 10) rfl rfl rfl rfl rfl rfl (Pt rfl rfl (R_fa0 (o' := 14) rfl rfl rfl rfl rfl rfl (Pt rfl rfl (R_load rfl rfl rfl (Ex.mk _ (Cell.seg 3 0 rfl rfl rfl) (Pt rfl rfl (R_gtrD rfl rfl (P_some rfl (PL_nil (AN.done0 (by kernel_rfl) (hK3617 _ _ _ ?_))))))))))))
  refine W_cond_v (b := (decide (r5.v.Grams < (w64 (r5.place.load + x4.Grams))))) rfl (fun hc13 => ?_) (fun hc13 => ?_)
  · replace h := cond_t hc13 h
    refine WP.seq_k (fun K3618 hK3618 => Wr Tt_ok rfl (R_assign rfl (Pn rfl (hK3618 _ _ _ (WP.ret ?_)))))
    have e_ := Option.some.inj h
    obtain ⟨e0a_, e0b_⟩ := Prod.mk.inj e_
    clear e_
    subst e0a_
    subst e0b_
    refine S_tmp rfl (S_nil (Upd.seg (L2 := (((g2, Obj.cells #[.int .i64 node1, .int .i64 (w64 (r5.place.time + r3.Secs)), .int .i64 r5.place.load, .int .i64 (w64 (r5.place.meters + r3.Meters)), .int .i64 r5.p.Road.Nodes, .slice A6 r5.p.Road.Edges.length c6, .slice A7 r5.p.Vehicles.length c7, .slice A8 r5.p.Demands.length c8, .int .i64 r5.p.Unload, .int .i64 r5.p.UnloadSecs, .string r5.v.ID, .int .i64 r5.v.Depot, .int .i64 r5.v.Shift.From, .int .i64 r5.v.Shift.To, .int .i64 r5.v.Grams, .int .i64 r5.v.Kinds, .map (some g6), .slice A9 r5.visits.length c9] 73 (0, 0)) :: ((g6, Obj.map es2 cn2) :: (ch2 ++ []))) :: L)) (SegSub.trans (SegSub.flat (by simp [selS])) (SegSub.sel _ [some 3, some 4, some 5] 6)) ?_))
    exact Upd.done (hR _ ((g2, Obj.cells #[.int .i64 node1, .int .i64 (w64 (r5.place.time + r3.Secs)), .int .i64 r5.place.load, .int .i64 (w64 (r5.place.meters + r3.Meters)), .int .i64 r5.p.Road.Nodes, .slice A6 r5.p.Road.Edges.length c6, .slice A7 r5.p.Vehicles.length c7, .slice A8 r5.p.Demands.length c8, .int .i64 r5.p.Unload, .int .i64 r5.p.UnloadSecs, .string r5.v.ID, .int .i64 r5.v.Depot, .int .i64 r5.v.Shift.From, .int .i64 r5.v.Shift.To, .int .i64 r5.v.Grams, .int .i64 r5.v.Kinds, .map (some g6), .slice A9 r5.visits.length c9] 73 (0, 0)) :: ((g6, Obj.map es2 cn2) :: (ch2 ++ []))) (Gh.le.trans hm3111 (hm_1)) (⟨g2, A6, c6, A7, c7, A8, c8, g6, es2, cn2, A9, c9, ch2, rfl, rfl, ⟨hl6, hA9⟩, ⟨hl7, hA10⟩, ⟨hl8, hA11⟩, hM2, hO2⟩))
  replace h := cond_f hc13 h
  refine WP.skip (hK3616 _ _ _ (WP.seq_k (fun K3619 hK3619 => Wr Tt_ok rfl (R_move rfl (Pc rfl rfl (R_move rfl (Pc rfl rfl (R_fa0 (o' := 6) rfl rfl rfl rfl rfl rfl (Pc rfl rfl ?_)))))))))
  refine R_load rfl rfl rfl (Ex.mk _ (Cell.seg 0 0 rfl rfl rfl) (Pc rfl rfl (R_add rfl rfl (Pc rfl rfl (R_nilP rfl (Pc rfl rfl (R_fa0 (o' := 0) rfl rfl rfl rfl rfl rfl (Pc rfl rfl (R_fa0 (o' := 1) rfl rfl rfl rfl rfl rfl ?_)))))))))
  refine P_some rfl (O_cons (O_store (vs := [.int .i64 (w64 ((max (w64 (r5.place.time + r3.Secs)) x4.When.From) + x4.Service))]) rfl rfl rfl rfl rfl rfl (ST_ (L' := ([(g8, .cells #[.int .i64 x4.Container, .int .i64 x4.Node, .int .i64 x4.Kind, .int .i64 x4.Grams, .int .i64 x4.When.From, .int .i64 x4.When.To, .int .i64 x4.Service] 79 (0, 0))] :: [(g7, .cells #[.int .i64 r3.Secs, .int .i64 r3.Meters] 51 (0, 0))] :: [(g4, .cells #[.int .i64 r3.Secs, .int .i64 r3.Meters] 51 (0, 0))] :: [(g2, .cells #[.int .i64 node1, .int .i64 (w64 ((max (w64 (r5.place.time + r3.Secs)) x4.When.From) + x4.Service)), .int .i64 r5.place.load, .int .i64 (w64 (r5.place.meters + r3.Meters)), .int .i64 r5.p.Road.Nodes, .slice A6 r5.p.Road.Edges.length c6, .slice A7 r5.p.Vehicles.length c7, .slice A8 r5.p.Demands.length c8, .int .i64 r5.p.Unload, .int .i64 r5.p.UnloadSecs, .string r5.v.ID, .int .i64 r5.v.Depot, .int .i64 r5.v.Shift.From, .int .i64 r5.v.Shift.To, .int .i64 r5.v.Grams, .int .i64 r5.v.Kinds, .map (some g6), .slice A9 r5.visits.length c9] 73 (0, 0))] :: [(g6, .map es2 cn2)] :: ch2 :: L)) 3 0 rfl rfl rfl rfl ?_)))
  refine P_none (O_nil (hK3619 _ _ _ (WP.seq_k (fun K3621 hK3621 => WP.drawn (id := 28) (l' := List.replicate 12 true) wide Tt_ok ([(g8, .cells #[.int .i64 x4.Container, .int .i64 x4.Node, .int .i64 x4.Kind, .int .i64 x4.Grams, .int .i64 x4.When.From, .int .i64 x4.When.To, .int .i64 x4.Service] 79 (0, 0))] :: [(g7, .cells #[.int .i64 r3.Secs, .int .i64 r3.Meters] 51 (0, 0))] :: [(g4, .cells #[.int .i64 r3.Secs, .int .i64 r3.Meters] 51 (0, 0))] :: [(g6, .map es2 cn2)] :: ch2 :: L) (Kept.ofT (keep := [[(g8, .cells #[.int .i64 x4.Container, .int .i64 x4.Node, .int .i64 x4.Kind, .int .i64 x4.Grams, .int .i64 x4.When.From, .int .i64 x4.When.To, .int .i64 x4.Service] 79 (0, 0))], [(g7, .cells #[.int .i64 r3.Secs, .int .i64 r3.Meters] 51 (0, 0))], [(g4, .cells #[.int .i64 r3.Secs, .int .i64 r3.Meters] 51 (0, 0))], [(g6, .map es2 cn2)], ch2]) (A := [[(g8, .cells #[.int .i64 x4.Container, .int .i64 x4.Node, .int .i64 x4.Kind, .int .i64 x4.Grams, .int .i64 x4.When.From, .int .i64 x4.When.To, .int .i64 x4.Service] 79 (0, 0))], [(g7, .cells #[.int .i64 r3.Secs, .int .i64 r3.Meters] 51 (0, 0))], [(g4, .cells #[.int .i64 r3.Secs, .int .i64 r3.Meters] 51 (0, 0))], [(g2, .cells #[.int .i64 node1, .int .i64 (w64 ((max (w64 (r5.place.time + r3.Secs)) x4.When.From) + x4.Service)), .int .i64 r5.place.load, .int .i64 (w64 (r5.place.meters + r3.Meters)), .int .i64 r5.p.Road.Nodes, .slice A6 r5.p.Road.Edges.length c6, .slice A7 r5.p.Vehicles.length c7, .slice A8 r5.p.Demands.length c8, .int .i64 r5.p.Unload, .int .i64 r5.p.UnloadSecs, .string r5.v.ID, .int .i64 r5.v.Depot, .int .i64 r5.v.Shift.From, .int .i64 r5.v.Shift.To, .int .i64 r5.v.Grams, .int .i64 r5.v.Kinds, .map (some g6), .slice A9 r5.visits.length c9] 73 (0, 0))], [(g6, .map es2 cn2)], ch2]) (by simp)) [(true, 0), (true, 1), (true, 2), (true, 3), (true, 5), (true, 6), (false, 4), (true, 7), (true, 8), (true, 9), (true, 10), (false, 11)] (by kernel_rfl) (by kernel_rfl) rfl ?_))))
  refine PL_t rfl (R_move rfl (Pt rfl rfl (R_nilP rfl (Pt rfl rfl (R_fa0 (o' := 0) rfl rfl rfl rfl rfl rfl (Pt rfl rfl (R_fa0 (o' := 2) rfl rfl rfl rfl rfl rfl (Pt rfl rfl (R_fa0 (o' := 3) rfl rfl rfl rfl rfl rfl (Pt rfl rfl (R_load rfl rfl rfl (Ex.mk _ (Cell.seg 0 0 rfl rfl rfl) ?_))))))))))))
  refine P_some rfl (PL_f rfl (O_read rfl (R_load rfl rfl rfl (Ex.mk _ (Cell.seg 3 0 rfl rfl rfl) ?_))))
  refine ⟨Kept.ofT (keep := [[(g8, .cells #[.int .i64 x4.Container, .int .i64 x4.Node, .int .i64 x4.Kind, .int .i64 x4.Grams, .int .i64 x4.When.From, .int .i64 x4.When.To, .int .i64 x4.Service] 79 (0, 0))], [(g7, .cells #[.int .i64 r3.Secs, .int .i64 r3.Meters] 51 (0, 0))], [(g4, .cells #[.int .i64 r3.Secs, .int .i64 r3.Meters] 51 (0, 0))], [(g6, .map es2 cn2)], ch2]) (A := [[(g8, .cells #[.int .i64 x4.Container, .int .i64 x4.Node, .int .i64 x4.Kind, .int .i64 x4.Grams, .int .i64 x4.When.From, .int .i64 x4.When.To, .int .i64 x4.Service] 79 (0, 0))], [(g7, .cells #[.int .i64 r3.Secs, .int .i64 r3.Meters] 51 (0, 0))], [(g4, .cells #[.int .i64 r3.Secs, .int .i64 r3.Meters] 51 (0, 0))], [(g2, .cells #[.int .i64 node1, .int .i64 (w64 ((max (w64 (r5.place.time + r3.Secs)) x4.When.From) + x4.Service)), .int .i64 r5.place.load, .int .i64 (w64 (r5.place.meters + r3.Meters)), .int .i64 r5.p.Road.Nodes, .slice A6 r5.p.Road.Edges.length c6, .slice A7 r5.p.Vehicles.length c7, .slice A8 r5.p.Demands.length c8, .int .i64 r5.p.Unload, .int .i64 r5.p.UnloadSecs, .string r5.v.ID, .int .i64 r5.v.Depot, .int .i64 r5.v.Shift.From, .int .i64 r5.v.Shift.To, .int .i64 r5.v.Grams, .int .i64 r5.v.Kinds, .map (some g6), .slice A9 r5.visits.length c9] 73 (0, 0))], [(g6, .map es2 cn2)], ch2]) (by simp), ?_⟩
  refine Pt rfl rfl (R_add rfl rfl (Pt rfl rfl (R_nilP rfl (Pt rfl rfl (R_fa0 (o' := 0) rfl rfl rfl rfl rfl rfl (Pt rfl rfl (R_fa0 (o' := 2) rfl rfl rfl rfl rfl rfl (P_some rfl (PL_f rfl (O_store (vs := [.int .i64 (w64 (r5.place.load + x4.Grams))]) rfl rfl rfl rfl rfl rfl (ST_ (L' := ([(g8, .cells #[.int .i64 x4.Container, .int .i64 x4.Node, .int .i64 x4.Kind, .int .i64 x4.Grams, .int .i64 x4.When.From, .int .i64 x4.When.To, .int .i64 x4.Service] 79 (0, 0))] :: [(g7, .cells #[.int .i64 r3.Secs, .int .i64 r3.Meters] 51 (0, 0))] :: [(g4, .cells #[.int .i64 r3.Secs, .int .i64 r3.Meters] 51 (0, 0))] :: [(g2, .cells #[.int .i64 node1, .int .i64 (w64 ((max (w64 (r5.place.time + r3.Secs)) x4.When.From) + x4.Service)), .int .i64 (w64 (r5.place.load + x4.Grams)), .int .i64 (w64 (r5.place.meters + r3.Meters)), .int .i64 r5.p.Road.Nodes, .slice A6 r5.p.Road.Edges.length c6, .slice A7 r5.p.Vehicles.length c7, .slice A8 r5.p.Demands.length c8, .int .i64 r5.p.Unload, .int .i64 r5.p.UnloadSecs, .string r5.v.ID, .int .i64 r5.v.Depot, .int .i64 r5.v.Shift.From, .int .i64 r5.v.Shift.To, .int .i64 r5.v.Grams, .int .i64 r5.v.Kinds, .map (some g6), .slice A9 r5.visits.length c9] 73 (0, 0))] :: [(g6, .map es2 cn2)] :: ch2 :: L)) 3 0 rfl rfl rfl rfl ?_)))))))))))
  refine ⟨Kept.ofT (keep := [[(g8, .cells #[.int .i64 x4.Container, .int .i64 x4.Node, .int .i64 x4.Kind, .int .i64 x4.Grams, .int .i64 x4.When.From, .int .i64 x4.When.To, .int .i64 x4.Service] 79 (0, 0))], [(g7, .cells #[.int .i64 r3.Secs, .int .i64 r3.Meters] 51 (0, 0))], [(g4, .cells #[.int .i64 r3.Secs, .int .i64 r3.Meters] 51 (0, 0))], [(g6, .map es2 cn2)], ch2]) (A := [[(g8, .cells #[.int .i64 x4.Container, .int .i64 x4.Node, .int .i64 x4.Kind, .int .i64 x4.Grams, .int .i64 x4.When.From, .int .i64 x4.When.To, .int .i64 x4.Service] 79 (0, 0))], [(g7, .cells #[.int .i64 r3.Secs, .int .i64 r3.Meters] 51 (0, 0))], [(g4, .cells #[.int .i64 r3.Secs, .int .i64 r3.Meters] 51 (0, 0))], [(g2, .cells #[.int .i64 node1, .int .i64 (w64 ((max (w64 (r5.place.time + r3.Secs)) x4.When.From) + x4.Service)), .int .i64 (w64 (r5.place.load + x4.Grams)), .int .i64 (w64 (r5.place.meters + r3.Meters)), .int .i64 r5.p.Road.Nodes, .slice A6 r5.p.Road.Edges.length c6, .slice A7 r5.p.Vehicles.length c7, .slice A8 r5.p.Demands.length c8, .int .i64 r5.p.Unload, .int .i64 r5.p.UnloadSecs, .string r5.v.ID, .int .i64 r5.v.Depot, .int .i64 r5.v.Shift.From, .int .i64 r5.v.Shift.To, .int .i64 r5.v.Grams, .int .i64 r5.v.Kinds, .map (some g6), .slice A9 r5.visits.length c9] 73 (0, 0))], [(g6, .map es2 cn2)], ch2]) (by simp), ?_⟩
  refine P_none (PL_nil (AN.done0 (by kernel_rfl) (hK3621 _ _ _ (WP.seq_k (fun K3642 hK3642 => Wr Tt_ok rfl (R_move rfl (Pc rfl rfl (R_move rfl (Pc rfl rfl (R_move rfl (P_some rfl ?_)))))))))))
  refine O_cons (O_read rfl (R_move rfl (P_some rfl (O_cons (O_call (all := [.pointer (some ⟨g2, 0, none⟩), .int .i64 x1, .int .i64 (w64 (r5.place.time + r3.Secs)), .int .i64 (max (w64 (r5.place.time + r3.Secs)) x4.When.From)]) rfl rfl rfl ?_)))))
  have hP6 : Obj_tour_walk v2 (.pointer (some ⟨g2, 0, none⟩)) (T_tour_walk.mk (T_tour_place.mk node1 (w64 ((max (w64 (r5.place.time + r3.Secs)) x4.When.From) + x4.Service)) (w64 (r5.place.load + x4.Grams)) (w64 (r5.place.meters + r3.Meters))) r5.p r5.v r5.legs r5.visits) ((g2, Obj.cells #[.int .i64 node1, .int .i64 (w64 ((max (w64 (r5.place.time + r3.Secs)) x4.When.From) + x4.Service)), .int .i64 (w64 (r5.place.load + x4.Grams)), .int .i64 (w64 (r5.place.meters + r3.Meters)), .int .i64 r5.p.Road.Nodes, .slice A6 r5.p.Road.Edges.length c6, .slice A7 r5.p.Vehicles.length c7, .slice A8 r5.p.Demands.length c8, .int .i64 r5.p.Unload, .int .i64 r5.p.UnloadSecs, .string r5.v.ID, .int .i64 r5.v.Depot, .int .i64 r5.v.Shift.From, .int .i64 r5.v.Shift.To, .int .i64 r5.v.Grams, .int .i64 r5.v.Kinds, .map (some g6), .slice A9 r5.visits.length c9] 73 (0, 0)) :: ((g6, Obj.map es2 cn2) :: (ch2 ++ []))) := ⟨g2, A6, c6, A7, c7, A8, c8, g6, es2, cn2, A9, c9, ch2, rfl, rfl, ⟨hl6, hA9⟩, ⟨hl7, hA10⟩, ⟨hl8, hA11⟩, hM2, hO2⟩
  refine Fn.seg (L2 := (((g2, Obj.cells #[.int .i64 node1, .int .i64 (w64 ((max (w64 (r5.place.time + r3.Secs)) x4.When.From) + x4.Service)), .int .i64 (w64 (r5.place.load + x4.Grams)), .int .i64 (w64 (r5.place.meters + r3.Meters)), .int .i64 r5.p.Road.Nodes, .slice A6 r5.p.Road.Edges.length c6, .slice A7 r5.p.Vehicles.length c7, .slice A8 r5.p.Demands.length c8, .int .i64 r5.p.Unload, .int .i64 r5.p.UnloadSecs, .string r5.v.ID, .int .i64 r5.v.Depot, .int .i64 r5.v.Shift.From, .int .i64 r5.v.Shift.To, .int .i64 r5.v.Grams, .int .i64 r5.v.Kinds, .map (some g6), .slice A9 r5.visits.length c9] 73 (0, 0)) :: ((g6, Obj.map es2 cn2) :: (ch2 ++ []))) :: [(g8, .cells #[.int .i64 x4.Container, .int .i64 x4.Node, .int .i64 x4.Kind, .int .i64 x4.Grams, .int .i64 x4.When.From, .int .i64 x4.When.To, .int .i64 x4.Service] 79 (0, 0))] :: [(g7, .cells #[.int .i64 r3.Secs, .int .i64 r3.Meters] 51 (0, 0))] :: [(g4, .cells #[.int .i64 r3.Secs, .int .i64 r3.Meters] 51 (0, 0))] :: L)) (SegSub.trans (SegSub.flat (by simp [selS])) (SegSub.sel _ [some 3, some 4, some 5, some 0, some 1, some 2] 6)) ?_
  obtain ⟨r7, hx9, h⟩ := obind h
  refine tour_walk_note_fn hP6 hx9 (fun so4 hP7 => Pn rfl (hK3642 _ _ _ (WP.seq_k (fun K3651 hK3651 => Wr Tt_ok rfl (R_assign rfl (Pn rfl (hK3651 _ _ _ (WP.ret ?_))))))))
  have e_ := Option.some.inj h
  obtain ⟨e0a_, e0b_⟩ := Prod.mk.inj e_
  clear e_
  subst e0a_
  subst e0b_
  refine S_tmp rfl (S_nil (Upd.selS [some 0] 4 ?_))
  exact Upd.done (hR _ so4 (Gh.le.trans hm3111 (hm_1)) (hP7))

end Go.Proofs.Ytjbminmhndgiaaa
