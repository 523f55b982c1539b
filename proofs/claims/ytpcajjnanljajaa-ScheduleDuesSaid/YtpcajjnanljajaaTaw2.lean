/- Printed by gen.py of this repo: the walks that tie the functions to their specifications. -/
import Derived.Test.YtpcajjnanljajaaTt
import Derived.Test.YtpcajjnanljajaaTaw1
namespace Go.Proofs.Ytpcajjnanljajaa
open Go.RowKit
set_option linter.unusedSimpArgs false
set_option linter.unusedVariables false
attribute [local irreducible] WP SemOk SemU Fn AN Upd vcR vcO vcOps vcPlan putK fillK resK inBlk forkOne Cell StAt Kept

theorem recyclingref17_Next_fn {μ : Gh} {L : List Seg} {R : Value → Gh → List Seg → Prop} {F : Nat} {s1 : T_api_Schedule} {d1 : Int} {A1 : Option Addr} {c1 : Nat} {res1 : Int} {res2 : Int}
    (hl1 : s1.Moves.length ≤ c1 ∧ c1 ≤ maxLen) (hA1 : ArrR r_api_Move μ A1 s1.Moves) (h : recyclingref17_Next F s1 d1 = some (res1, res2))
    (hR : R (.tuple #[.int .i64 res1, .int .i64 res2]) μ (L)) :
    Fn Try.prog 20 [.agg #[.int .i64 s1.Container, .int .i64 s1.Start, .int .i64 s1.Every, .slice A1 s1.Moves.length c1], .int .i64 d1] μ L R := by
  unfold recyclingref17_Next at h
  refine Fn.of_body Tt_ok Try.func20 (by kernel_rfl) rfl Try.ntmps20 (by simp) ?_
  simp only [Try.f20, argFr, List.zipIdx, List.map, Nat.reduceAdd]
  refine WP.seq_k (fun K674 hK674 => WP.region Tt_ok (O_cons (O_box (cs := #[.int .i64 s1.Container, .int .i64 s1.Start, .int .i64 s1.Every, .slice A1 s1.Moves.length c1]) rfl rfl (fun g1 => P_some rfl (O_cons (O_read rfl (R_assign rfl (P_some rfl (O_cons (O_read rfl (R_assign rfl (P_some rfl (O_nil ?_)))))))))))))
  refine hK674 _ _ _ (WP.seq_k (fun K676 hK676 => WP.region Tt_ok (O_cons (O_read rfl (R_loadA rfl rfl rfl rfl (LA_ (vs := [.int .i64 s1.Container, .int .i64 s1.Start, .int .i64 s1.Every, .slice A1 s1.Moves.length c1]) 0 0 rfl rfl rfl rfl (P_some rfl (O_cons (O_call (all := [.agg #[.int .i64 s1.Container, .int .i64 s1.Start, .int .i64 s1.Every, .slice A1 s1.Moves.length c1]]) rfl rfl rfl ?_)))))))))
  obtain ⟨r1, hx1, h⟩ := obind h
  refine recyclingref17_Check_fn hl1 hA1 hx1 ((P_some rfl (O_cons (O_read rfl (R_assign rfl (P_some rfl (O_nil (hK676 _ _ _ (WP.seq_k (fun K677 hK677 => WP.seq_k (fun K678 hK678 => WP.region Tt_ok (O_cons (O_read rfl (R_move rfl ?_))))))))))))))
  refine P_some rfl (O_cons (O_read rfl (R_neqD rfl rfl (P_some rfl (O_nil (hK678 _ _ _ ?_))))))
  refine W_cond_v (b := !(decide (r1 = 0))) rfl (fun hc1 => ?_) (fun hc1 => ?_)
  · replace h := cond_t hc1 h
    refine WP.seq_k (fun K679 hK679 => WP.region Tt_ok (O_cons (O_read rfl (R_move rfl (P_some rfl (O_cons (O_read rfl (R_assign rfl (P_some rfl (O_cons (O_read rfl (R_assign rfl (P_some rfl ?_)))))))))))))
    refine O_nil (hK679 _ _ _ (WP.ret ?_))
    have e_ := Option.some.inj h
    obtain ⟨e0a_, e0b_⟩ := Prod.mk.inj e_
    clear e_
    subst e0a_
    subst e0b_
    refine S_tmp rfl (S_tmp rfl (S_nil (Upd.selS [] 1 ?_)))
    exact Upd.done hR
  replace h := cond_f hc1 h
  refine WP.skip (hK677 _ _ _ (WP.seq_k (fun K680 hK680 => WP.seq_k (fun K681 hK681 => WP.region Tt_ok (O_cons (O_read rfl (R_move rfl (P_some rfl (O_cons (O_call (all := [.int .i64 d1]) rfl rfl rfl ?_))))))))))
  obtain ⟨r2, hx2, h⟩ := obind h
  refine recyclingref17_valid_fn  hx2 ((P_some rfl (O_cons (O_read rfl (R_not rfl (P_some rfl (O_nil (hK681 _ _ _ ?_))))))))
  refine W_cond_v (b := !r2) rfl (fun hc2 => ?_) (fun hc2 => ?_)
  · replace h := cond_t hc2 h
    refine WP.seq_k (fun K682 hK682 => WP.region Tt_ok (O_cons (O_read rfl (R_assign rfl (P_some rfl (O_cons (O_read rfl (R_assign rfl (P_some rfl (O_nil (hK682 _ _ _ (WP.ret ?_))))))))))))
    have e_ := Option.some.inj h
    obtain ⟨e0a_, e0b_⟩ := Prod.mk.inj e_
    clear e_
    subst e0a_
    subst e0b_
    refine S_tmp rfl (S_tmp rfl (S_nil (Upd.selS [] 1 ?_)))
    exact Upd.done hR
  replace h := cond_f hc2 h
  refine WP.skip (hK680 _ _ _ (WP.seq_k (fun K683 hK683 => ?_)))
  obtain ⟨o684, h684, h⟩ := obind h
  refine WP.cutK (fun fr_ μ_ L_ => (.inl ()) = o684 ∧ SubFr [] fr_ ∧ SegSub (L) L_ ∧ μ = μ_) ?_ ?_
  · refine WP.block (WP.iter h684 (fun (d2 : Int) fr_ μ_ L_ => SubFr [(1, .int .i64 d2), (2, .pointer (some ⟨g1, 0, none⟩))] fr_ ∧ SegSub ([(g1, .cells #[.int .i64 s1.Container, .int .i64 s1.Start, .int .i64 s1.Every, .slice A1 s1.Moves.length c1] 24 (0, 0))] :: L) L_ ∧ μ = μ_) ⟨SubFr.of ⟨rfl, rfl, trivial⟩, SegSub.sel _ [some 0] 1, rfl⟩ ?_)
    rintro d2 q694 fr694 μ694 L694 hm694 ⟨hF694, hS694, hu694⟩ hb694 hq694
    unfold recyclingref17_Next_l1 at hb694
    subst hu694
    refine WP.at hF694 hS694 (WP.seq_k (fun K698 hK698 => WP.seq_k (fun K699 hK699 => WP.region Tt_ok (O_cons (O_read rfl (R_move rfl (P_some rfl (O_cons (O_read rfl (R_leqD rfl rfl (P_some rfl (O_nil (hK699 _ _ _ ?_)))))))))))))
    refine W_cond_v (b := (decide (d2 ≤ 36524))) rfl (fun hc3 => ?_) (fun hc3 => ?_)
    · replace hb694 := cond_t hc3 hb694
      refine WP.skip (hK698 _ _ _ (WP.seq_k (fun K700 hK700 => WP.block (WP.seq_k (fun K701 hK701 => WP.region Tt_ok (O_cons (O_read rfl (R_loadA rfl rfl rfl rfl (LA_ (vs := [.int .i64 s1.Container, .int .i64 s1.Start, .int .i64 s1.Every, .slice A1 s1.Moves.length c1]) 0 0 rfl rfl rfl rfl (P_some rfl (O_cons (O_read rfl (R_move rfl ?_)))))))))))))
      refine P_some rfl (O_cons (O_call (all := [.agg #[.int .i64 s1.Container, .int .i64 s1.Start, .int .i64 s1.Every, .slice A1 s1.Moves.length c1], .int .i64 d2]) rfl rfl rfl ?_))
      obtain ⟨r3, hx3, hb694⟩ := obind hb694
      refine recyclingref17_day_fn hl1 hA1 hx3 ((P_some rfl (O_nil (hK701 _ _ _ ?_))))
      refine W_cond_v (b := r3) rfl (fun hc4 => ?_) (fun hc4 => ?_)
      · replace hb694 := cond_t hc4 hb694
        refine WP.seq_k (fun K702 hK702 => WP.region Tt_ok (O_cons (O_read rfl (R_move rfl (P_some rfl (O_cons (O_read rfl (R_assign rfl (P_some rfl (O_cons (O_read rfl (R_assign rfl (P_some rfl ?_)))))))))))))
        refine O_nil (hK702 _ _ _ (WP.ret ?_))
        have e_ := Option.some.inj hb694
        subst e_
        have hq_ := hq694 _ rfl
        subst hq_
        replace h := osum_r h
        have e_ := Option.some.inj h
        obtain ⟨e0a_, e0b_⟩ := Prod.mk.inj e_
        clear e_
        subst e0a_
        subst e0b_
        refine S_tmp rfl (S_tmp rfl (S_nil (Upd.selS [] 1 ?_)))
        exact Upd.done hR
      replace hb694 := cond_f hc4 hb694
      refine WP.skip (hK700 _ _ _ (WP.region Tt_ok (O_cons (O_read rfl (R_move rfl (P_some rfl (O_cons (O_read rfl (R_add rfl rfl (P_some rfl (O_cons (O_read rfl (R_assign rfl ?_)))))))))))))
      refine P_some rfl (O_nil ?_)
      have e_ := Option.some.inj hb694
      subst e_
      exact ⟨_, rfl, SubFr.of ⟨rfl, rfl, trivial⟩, SegSub.sel _ [some 0] 1, rfl⟩
    replace hb694 := cond_f hc3 hb694
    refine WP.exit (B_here ?_)
    have e_ := Option.some.inj hb694
    subst e_
    have hq_ := hq694 _ rfl
    subst hq_
    exact ⟨rfl, SubFr.of trivial, SegSub.sel _ [] 1, rfl⟩
  rintro fr684 μ684 L684 hm684 ⟨ho684, hF684, hS684, hu684⟩
  subst ho684
  replace h := osum_l h
  subst hu684
  refine hK683 _ _ _ (WP.at hF684 hS684 (WP.seq_k (fun K703 hK703 => WP.region Tt_ok (O_cons (O_read rfl (R_assign rfl (P_some rfl (O_cons (O_read rfl (R_assign rfl (P_some rfl (O_nil (hK703 _ _ _ ?_)))))))))))))
  apply WP.ret
  have e_ := Option.some.inj h
  obtain ⟨e0a_, e0b_⟩ := Prod.mk.inj e_
  clear e_
  subst e0a_
  subst e0b_
  refine S_tmp rfl (S_tmp rfl (S_nil (Upd.selS [] 0 ?_)))
  exact Upd.done hR

theorem recyclinglaw17_ScheduleNexts_fn {μ : Gh} {L : List Seg} {R : Value → Gh → List Seg → Prop} {F : Nat} {s1 : T_api_Schedule} {day1 : Int} {A1 : Option Addr} {c1 : Nat} {res1 : Bool}
    (hl1 : s1.Moves.length ≤ c1 ∧ c1 ≤ maxLen) (hA1 : ArrR r_api_Move μ A1 s1.Moves) (h : recyclinglaw17_ScheduleNexts F s1 day1 = some res1)
    (hR : ∀ (μ' : Gh) , μ.le μ' → R (.bool res1) μ' (L)) :
    Fn Try.prog 6 [.agg #[.int .i64 s1.Container, .int .i64 s1.Start, .int .i64 s1.Every, .slice A1 s1.Moves.length c1], .int .i64 day1] μ L R := by
  unfold recyclinglaw17_ScheduleNexts at h
  refine Fn.of_body Tt_ok Try.func6 (by kernel_rfl) rfl Try.ntmps6 (by simp) ?_
  simp only [Try.f6, argFr, List.zipIdx, List.map, Nat.reduceAdd]
  refine WP.seq_k (fun K707 hK707 => WP.region Tt_ok (O_cons (O_box (cs := #[.int .i64 s1.Container, .int .i64 s1.Start, .int .i64 s1.Every, .slice A1 s1.Moves.length c1]) rfl rfl (fun g1 => P_some rfl (O_cons (O_read rfl (R_assign rfl (P_some rfl (O_nil (hK707 _ _ _ (WP.seq_k (fun K709 hK709 => WP.seq_k (fun K710 hK710 => WP.region Tt_ok ?_)))))))))))))
  refine O_cons (O_read rfl (R_fa0 (o' := 3) rfl rfl rfl rfl rfl rfl (P_some rfl (O_cons (O_read rfl (R_load rfl rfl rfl (Ex.mk _ (Cell.seg 0 0 rfl rfl rfl) (P_some rfl (O_cons (O_read rfl (R_lenS rfl rfl rfl (P_some rfl (O_cons ?_)))))))))))))
  refine O_read rfl (R_gtrD rfl rfl (P_some rfl (O_nil (hK710 _ _ _ ?_))))
  refine W_cond_v (b := (decide (200 < ((s1.Moves.length : Nat) : Int)))) rfl (fun hc1 => ?_) (fun hc1 => ?_)
  · replace h := cond_t hc1 h
    refine WP.seq_k (fun K711 hK711 => WP.region Tt_ok (O_cons (O_call (all := []) rfl rfl rfl ?_)))
    obtain ⟨r1, hx1, h⟩ := obind h
    refine recyclinglaw17_awake_fn  hx1 (fun v1 hm_1 => ?_)
    replace hA1 := hA1.mono hm_1
    refine P_some rfl (O_cons (O_read rfl (R_assign rfl (P_some rfl (O_nil (hK711 _ _ _ (WP.ret ?_)))))))
    have e_ := Option.some.inj h
    subst e_
    refine S_tmp rfl (S_nil (Upd.selS [] 1 ?_))
    exact Upd.done (hR _ (hm_1))
  replace h := cond_f hc1 h
  refine WP.skip (hK709 _ _ _ (WP.seq_k (fun K712 hK712 => WP.region Tt_ok (O_cons (O_read rfl (R_loadA rfl rfl rfl rfl (LA_ (vs := [.int .i64 s1.Container, .int .i64 s1.Start, .int .i64 s1.Every, .slice A1 s1.Moves.length c1]) 0 0 rfl rfl rfl rfl (P_some rfl (O_cons (O_read rfl (R_move rfl (P_some rfl (O_cons ?_)))))))))))))
  apply O_call (all := [.agg #[.int .i64 s1.Container, .int .i64 s1.Start, .int .i64 s1.Every, .slice A1 s1.Moves.length c1], .int .i64 day1]); exact rfl; exact rfl; exact rfl
  obtain ⟨⟨r2, r3⟩, hx2, h⟩ := obind h
  replace h := oun_mk h
  refine schedule_Next_fn hl1 hA1 hx2 ((P_some rfl (O_cons (O_read rfl (R_move rfl (P_some rfl (O_cons (O_read rfl (R_ext rfl rfl (P_some rfl (O_cons (O_read rfl (R_ext rfl rfl (P_some rfl ?_))))))))))))))
  refine O_cons (O_read rfl (R_assign rfl (P_some rfl (O_cons (O_read rfl (R_assign rfl (P_some rfl (O_nil (hK712 _ _ _ (WP.seq_k (fun K713 hK713 => WP.region Tt_ok (O_cons (O_read rfl ?_)))))))))))))
  refine R_loadA rfl rfl rfl rfl (LA_ (vs := [.int .i64 s1.Container, .int .i64 s1.Start, .int .i64 s1.Every, .slice A1 s1.Moves.length c1]) 0 0 rfl rfl rfl rfl (P_some rfl (O_cons (O_read rfl (R_move rfl (P_some rfl (O_cons (O_call (all := [.agg #[.int .i64 s1.Container, .int .i64 s1.Start, .int .i64 s1.Every, .slice A1 s1.Moves.length c1], .int .i64 day1]) rfl rfl rfl ?_))))))))
  obtain ⟨⟨r4, r5⟩, hx3, h⟩ := obind h
  replace h := oun_mk h
  refine recyclingref17_Next_fn hl1 hA1 hx3 ((P_some rfl (O_cons (O_read rfl (R_move rfl (P_some rfl (O_cons (O_read rfl (R_ext rfl rfl (P_some rfl (O_cons (O_read rfl (R_ext rfl rfl (P_some rfl ?_))))))))))))))
  refine O_cons (O_read rfl (R_assign rfl (P_some rfl (O_cons (O_read rfl (R_assign rfl (P_some rfl (O_nil (hK713 _ _ _ (WP.seq_k (fun K714 hK714 => ?_)))))))))))
  obtain ⟨o715, h715, h⟩ := obind h
  refine WP.cutK (fun fr_ μ_ L_ => ∃ (v3 : Bool), v3 = o715 ∧ SubFr [(4, .bool v3)] fr_ ∧ SegSub (L) L_) ?_ ?_
  · refine WP.region Tt_ok (O_cons (O_read rfl (R_move rfl (P_some rfl (O_cons (O_read rfl (R_move rfl (P_some rfl (O_cons (O_read rfl (R_eqlD rfl rfl (P_some rfl (O_cons ?_)))))))))))))
    refine O_read rfl (R_move rfl (P_some rfl ?_))
    refine O_gv (z := (decide (r2 = r4))) rfl rfl (fun hc2 => ?_) (fun hc2 => ?_)
    · replace h715 := cond_t hc2 h715
      refine O_read rfl (R_move rfl (P_some rfl (O_gY rfl rfl hc2 (O_read rfl (R_move rfl (P_some rfl (O_gY rfl rfl hc2 (O_read rfl (R_eqlD rfl rfl (P_some rfl (O_cons (O_read rfl (R_pick_T rfl hc2 rfl ?_)))))))))))))
      refine P_some rfl (O_cons (O_read rfl (R_move rfl (P_some rfl ?_))))
      refine O_gv (z := (decide (r3 = r5))) rfl rfl (fun hc3 => ?_) (fun hc3 => ?_)
      · replace h715 := cond_t hc3 h715
        apply O_call (all := []); exact rfl; exact rfl; exact rfl
        obtain ⟨r6, hx4, h715⟩ := obind h715
        refine recyclinglaw17_awake_fn  hx4 (fun v2 hm_2 => ?_)
        replace hA1 := hA1.mono hm_2
        refine P_some rfl (O_cons (O_read rfl (R_pick_T rfl hc3 rfl (P_some rfl (O_cons (O_read rfl (R_assign rfl (P_some rfl (O_nil ?_)))))))))
        have e_ := Option.some.inj h715
        subst e_
        exact ⟨r6, rfl, SubFr.of ⟨rfl, trivial⟩, SegSub.sel _ [] 1⟩
      replace h715 := cond_f hc3 h715
      refine P_some rfl (O_cons (O_read rfl (R_pick_F rfl hc3 rfl (P_some rfl (O_cons (O_read rfl (R_assign rfl (P_some rfl (O_nil ?_)))))))))
      have e_ := Option.some.inj h715
      subst e_
      exact ⟨false, rfl, SubFr.of ⟨rfl, trivial⟩, SegSub.sel _ [] 1⟩
    replace h715 := cond_f hc2 h715
    refine P_some rfl (O_gN rfl rfl hc2 (P_some rfl (O_gN rfl rfl hc2 (P_some rfl (O_cons (O_read rfl (R_pick_F rfl hc2 rfl (P_some rfl (O_cons (O_read rfl (R_move rfl (P_some rfl (O_gN rfl rfl rfl ?_)))))))))))))
    refine P_some rfl (O_cons (O_read rfl (R_pick_F rfl rfl rfl (P_some rfl (O_cons (O_read rfl (R_assign rfl (P_some rfl (O_nil ?_)))))))))
    have e_ := Option.some.inj h715
    subst e_
    exact ⟨false, rfl, SubFr.of ⟨rfl, trivial⟩, SegSub.sel _ [] 1⟩
  rintro fr715 μ715 L715 hm715 ⟨v3, ho715, hF715, hS715⟩
  subst ho715
  replace hA1 := hA1.mono hm715
  refine hK714 _ _ _ (WP.at hF715 hS715 (WP.ret ?_))
  have e_ := Option.some.inj h
  subst e_
  refine S_tmp rfl (S_nil (Upd.selS [] 0 ?_))
  exact Upd.done (hR _ (hm715))

theorem recyclinglaw17_SchedulePattern_fn {μ : Gh} {L : List Seg} {R : Value → Gh → List Seg → Prop} {F : Nat} {s1 : T_api_Schedule} {f_from1 : Int} {days1 : Int} {A1 : Option Addr} {c1 : Nat} {res1 : Bool}
    (hl1 : s1.Moves.length ≤ c1 ∧ c1 ≤ maxLen) (hA1 : ArrR r_api_Move μ A1 s1.Moves) (h : recyclinglaw17_SchedulePattern F s1 f_from1 days1 = some res1)
    (hR : ∀ (μ' : Gh) , μ.le μ' → R (.bool res1) μ' (L)) :
    Fn Try.prog 7 [.agg #[.int .i64 s1.Container, .int .i64 s1.Start, .int .i64 s1.Every, .slice A1 s1.Moves.length c1], .int .i64 f_from1, .int .i64 days1] μ L R := by
  unfold recyclinglaw17_SchedulePattern at h
  refine Fn.of_body Tt_ok Try.func7 (by kernel_rfl) rfl Try.ntmps7 (by simp) ?_
  simp only [Try.f7, argFr, List.zipIdx, List.map, Nat.reduceAdd]
  refine WP.seq_k (fun K899 hK899 => WP.region Tt_ok (O_cons (O_box (cs := #[.int .i64 s1.Container, .int .i64 s1.Start, .int .i64 s1.Every, .slice A1 s1.Moves.length c1]) rfl rfl (fun g1 => P_some rfl (O_cons (O_read rfl (R_assign rfl (P_some rfl (O_nil (hK899 _ _ _ (WP.seq_k (fun K901 hK901 => WP.seq_k (fun K902 hK902 => ?_)))))))))))))
  obtain ⟨o903, h903, h⟩ := obind h
  refine WP.cutK (fun fr_ μ_ L_ => ∃ (v1 : Bool), v1 = o903 ∧ SubFr [(1, .int .i64 f_from1), (2, .int .i64 days1), (3, .pointer (some ⟨g1, 0, none⟩)), (44, .bool v1)] fr_ ∧ SegSub ([(g1, .cells #[.int .i64 s1.Container, .int .i64 s1.Start, .int .i64 s1.Every, .slice A1 s1.Moves.length c1] 24 (0, 0))] :: L) L_) ?_ ?_
  · refine WP.region Tt_ok (O_cons (O_read rfl (R_fa0 (o' := 3) rfl rfl rfl rfl rfl rfl (P_some rfl (O_cons (O_read rfl (R_load rfl rfl rfl (Ex.mk _ (Cell.seg 0 0 rfl rfl rfl) (P_some rfl (O_cons (O_read rfl (R_lenS rfl rfl rfl (P_some rfl ?_)))))))))))))
    refine O_cons (O_read rfl (R_gtrD rfl rfl (P_some rfl (O_cons (O_read rfl (R_move rfl (P_some rfl ?_)))))))
    refine O_gv (z := (decide (200 < ((s1.Moves.length : Nat) : Int)))) rfl rfl (fun hc1 => ?_) (fun hc1 => ?_)
    · replace h903 := cond_f hc1 h903
      refine O_read rfl (R_loadA rfl rfl rfl rfl (LA_ (vs := [.int .i64 s1.Container, .int .i64 s1.Start, .int .i64 s1.Every, .slice A1 s1.Moves.length c1]) 0 0 rfl rfl rfl rfl (P_some rfl (O_gY rfl rfl hc1 (O_call (all := [.agg #[.int .i64 s1.Container, .int .i64 s1.Start, .int .i64 s1.Every, .slice A1 s1.Moves.length c1]]) rfl rfl rfl ?_)))))
      obtain ⟨r1, hx1, h903⟩ := obind h903
      refine schedule_Check_fn hl1 hA1 hx1 ((P_some rfl (O_gY rfl rfl hc1 (O_read rfl (R_neqD rfl rfl (P_some rfl (O_cons (O_read rfl (R_pick_F rfl hc1 rfl (P_some rfl (O_cons (O_read rfl (R_move rfl (P_some rfl ?_))))))))))))))
      refine O_gv (z := !(decide (r1 = 0))) rfl rfl (fun hc2 => ?_) (fun hc2 => ?_)
      · replace h903 := cond_f hc2 h903
        refine O_read rfl (R_move rfl (P_some rfl (O_gY rfl rfl hc2 (O_read rfl (R_lssD rfl rfl (P_some rfl (O_cons (O_read rfl (R_pick_F rfl hc2 rfl (P_some rfl (O_cons (O_read rfl (R_move rfl ?_)))))))))))))
        apply P_some; exact rfl
        refine O_gv (z := (decide (f_from1 < 0))) rfl rfl (fun hc3 => ?_) (fun hc3 => ?_)
        · replace h903 := cond_f hc3 h903
          refine O_read rfl (R_move rfl (P_some rfl (O_gY rfl rfl hc3 (O_read rfl (R_gtrD rfl rfl (P_some rfl (O_cons (O_read rfl (R_pick_F rfl hc3 rfl (P_some rfl (O_cons (O_read rfl (R_move rfl ?_)))))))))))))
          apply P_some; exact rfl
          refine O_gv (z := (decide (36524 < f_from1))) rfl rfl (fun hc4 => ?_) (fun hc4 => ?_)
          · replace h903 := cond_f hc4 h903
            refine O_read rfl (R_move rfl (P_some rfl (O_gY rfl rfl hc4 (O_read rfl (R_lssD rfl rfl (P_some rfl (O_cons (O_read rfl (R_pick_F rfl hc4 rfl (P_some rfl (O_cons (O_read rfl (R_move rfl ?_)))))))))))))
            apply P_some; exact rfl
            refine O_gv (z := (decide (days1 < 0))) rfl rfl (fun hc5 => ?_) (fun hc5 => ?_)
            · replace h903 := cond_f hc5 h903
              refine O_read rfl (R_move rfl (P_some rfl (O_gY rfl rfl hc5 (O_read rfl (R_gtrD rfl rfl (P_some rfl (O_cons (O_read rfl (R_pick_F rfl hc5 rfl (P_some rfl (O_cons (O_read rfl (R_move rfl ?_)))))))))))))
              apply P_some; exact rfl
              refine O_gv (z := (decide (400 < days1))) rfl rfl (fun hc6 => ?_) (fun hc6 => ?_)
              · replace h903 := cond_f hc6 h903
                refine O_read rfl (R_move rfl (P_some rfl (O_gY rfl rfl hc6 (O_read rfl (R_move rfl (P_some rfl (O_gY rfl rfl hc6 (O_read rfl (R_sub rfl rfl (P_some rfl (O_gY rfl rfl hc6 (O_read rfl (R_gtrD rfl rfl ?_)))))))))))))
                refine P_some rfl (O_cons (O_read rfl (R_pick_F rfl hc6 rfl (P_some rfl (O_nil ?_)))))
                have e_ := Option.some.inj h903
                subst e_
                exact ⟨(decide ((w64 (36525 - f_from1)) < days1)), rfl, SubFr.of ⟨rfl, rfl, rfl, rfl, trivial⟩, SegSub.sel _ [some 0] 1⟩
              replace h903 := cond_t hc6 h903
              refine P_some rfl (O_gN rfl rfl hc6 (P_some rfl (O_gN rfl rfl hc6 (P_some rfl (O_gN rfl rfl hc6 (P_some rfl (O_cons (O_read rfl (R_pick_T rfl hc6 rfl (P_some rfl (O_nil ?_)))))))))))
              have e_ := Option.some.inj h903
              subst e_
              exact ⟨true, rfl, SubFr.of ⟨rfl, rfl, rfl, rfl, trivial⟩, SegSub.sel _ [some 0] 1⟩
            replace h903 := cond_t hc5 h903
            refine P_some rfl (O_gN rfl rfl hc5 (P_some rfl (O_cons (O_read rfl (R_pick_T rfl hc5 rfl (P_some rfl (O_cons (O_read rfl (R_move rfl (P_some rfl (O_gN rfl rfl rfl (P_some rfl (O_gN rfl rfl rfl ?_)))))))))))))
            refine P_some rfl (O_gN rfl rfl rfl (P_some rfl (O_gN rfl rfl rfl (P_some rfl (O_cons (O_read rfl (R_pick_T rfl rfl rfl (P_some rfl (O_nil ?_)))))))))
            have e_ := Option.some.inj h903
            subst e_
            exact ⟨true, rfl, SubFr.of ⟨rfl, rfl, rfl, rfl, trivial⟩, SegSub.sel _ [some 0] 1⟩
          replace h903 := cond_t hc4 h903
          refine P_some rfl (O_gN rfl rfl hc4 (P_some rfl (O_cons (O_read rfl (R_pick_T rfl hc4 rfl (P_some rfl (O_cons (O_read rfl (R_move rfl (P_some rfl (O_gN rfl rfl rfl (P_some rfl (O_gN rfl rfl rfl ?_)))))))))))))
          refine P_some rfl (O_cons (O_read rfl (R_pick_T rfl rfl rfl (P_some rfl (O_cons (O_read rfl (R_move rfl (P_some rfl (O_gN rfl rfl rfl (P_some rfl (O_gN rfl rfl rfl (P_some rfl (O_gN rfl rfl rfl ?_)))))))))))))
          refine P_some rfl (O_gN rfl rfl rfl (P_some rfl (O_cons (O_read rfl (R_pick_T rfl rfl rfl (P_some rfl (O_nil ?_)))))))
          have e_ := Option.some.inj h903
          subst e_
          exact ⟨true, rfl, SubFr.of ⟨rfl, rfl, rfl, rfl, trivial⟩, SegSub.sel _ [some 0] 1⟩
        replace h903 := cond_t hc3 h903
        refine P_some rfl (O_gN rfl rfl hc3 (P_some rfl (O_cons (O_read rfl (R_pick_T rfl hc3 rfl (P_some rfl (O_cons (O_read rfl (R_move rfl (P_some rfl (O_gN rfl rfl rfl (P_some rfl (O_gN rfl rfl rfl ?_)))))))))))))
        refine P_some rfl (O_cons (O_read rfl (R_pick_T rfl rfl rfl (P_some rfl (O_cons (O_read rfl (R_move rfl (P_some rfl (O_gN rfl rfl rfl (P_some rfl (O_gN rfl rfl rfl (P_some rfl (O_cons ?_)))))))))))))
        refine O_read rfl (R_pick_T rfl rfl rfl (P_some rfl (O_cons (O_read rfl (R_move rfl (P_some rfl (O_gN rfl rfl rfl (P_some rfl (O_gN rfl rfl rfl (P_some rfl (O_gN rfl rfl rfl (P_some rfl (O_gN rfl rfl rfl ?_)))))))))))))
        refine P_some rfl (O_cons (O_read rfl (R_pick_T rfl rfl rfl (P_some rfl (O_nil ?_)))))
        have e_ := Option.some.inj h903
        subst e_
        exact ⟨true, rfl, SubFr.of ⟨rfl, rfl, rfl, rfl, trivial⟩, SegSub.sel _ [some 0] 1⟩
      replace h903 := cond_t hc2 h903
      refine P_some rfl (O_gN rfl rfl hc2 (P_some rfl (O_cons (O_read rfl (R_pick_T rfl hc2 rfl (P_some rfl (O_cons (O_read rfl (R_move rfl (P_some rfl (O_gN rfl rfl rfl (P_some rfl (O_gN rfl rfl rfl ?_)))))))))))))
      refine P_some rfl (O_cons (O_read rfl (R_pick_T rfl rfl rfl (P_some rfl (O_cons (O_read rfl (R_move rfl (P_some rfl (O_gN rfl rfl rfl (P_some rfl (O_gN rfl rfl rfl (P_some rfl (O_cons ?_)))))))))))))
      refine O_read rfl (R_pick_T rfl rfl rfl (P_some rfl (O_cons (O_read rfl (R_move rfl (P_some rfl (O_gN rfl rfl rfl (P_some rfl (O_gN rfl rfl rfl (P_some rfl (O_cons (O_read rfl (R_pick_T rfl rfl rfl ?_)))))))))))))
      refine P_some rfl (O_cons (O_read rfl (R_move rfl (P_some rfl (O_gN rfl rfl rfl (P_some rfl (O_gN rfl rfl rfl (P_some rfl (O_gN rfl rfl rfl (P_some rfl (O_gN rfl rfl rfl (P_some rfl (O_cons ?_)))))))))))))
      refine O_read rfl (R_pick_T rfl rfl rfl (P_some rfl (O_nil ?_)))
      have e_ := Option.some.inj h903
      subst e_
      exact ⟨true, rfl, SubFr.of ⟨rfl, rfl, rfl, rfl, trivial⟩, SegSub.sel _ [some 0] 1⟩
    replace h903 := cond_t hc1 h903
    refine P_some rfl (O_gN rfl rfl hc1 (P_some rfl (O_gN rfl rfl hc1 (P_some rfl (O_cons (O_read rfl (R_pick_T rfl hc1 rfl (P_some rfl (O_cons (O_read rfl (R_move rfl (P_some rfl (O_gN rfl rfl rfl ?_)))))))))))))
    refine P_some rfl (O_gN rfl rfl rfl (P_some rfl (O_cons (O_read rfl (R_pick_T rfl rfl rfl (P_some rfl (O_cons (O_read rfl (R_move rfl (P_some rfl (O_gN rfl rfl rfl (P_some rfl (O_gN rfl rfl rfl ?_)))))))))))))
    refine P_some rfl (O_cons (O_read rfl (R_pick_T rfl rfl rfl (P_some rfl (O_cons (O_read rfl (R_move rfl (P_some rfl (O_gN rfl rfl rfl (P_some rfl (O_gN rfl rfl rfl (P_some rfl (O_cons ?_)))))))))))))
    refine O_read rfl (R_pick_T rfl rfl rfl (P_some rfl (O_cons (O_read rfl (R_move rfl (P_some rfl (O_gN rfl rfl rfl (P_some rfl (O_gN rfl rfl rfl (P_some rfl (O_cons (O_read rfl (R_pick_T rfl rfl rfl ?_)))))))))))))
    refine P_some rfl (O_cons (O_read rfl (R_move rfl (P_some rfl (O_gN rfl rfl rfl (P_some rfl (O_gN rfl rfl rfl (P_some rfl (O_gN rfl rfl rfl (P_some rfl (O_gN rfl rfl rfl (P_some rfl (O_cons ?_)))))))))))))
    refine O_read rfl (R_pick_T rfl rfl rfl (P_some rfl (O_nil ?_)))
    have e_ := Option.some.inj h903
    subst e_
    exact ⟨true, rfl, SubFr.of ⟨rfl, rfl, rfl, rfl, trivial⟩, SegSub.sel _ [some 0] 1⟩
  rintro fr903 μ903 L903 hm903 ⟨v1, ho903, hF903, hS903⟩
  subst ho903
  replace hA1 := hA1.mono hm903
  refine hK902 _ _ _ (WP.at hF903 hS903 ?_)
  refine W_cond_v (b := v1) rfl (fun hc7 => ?_) (fun hc7 => ?_)
  · replace h := cond_t hc7 h
    refine WP.seq_k (fun K906 hK906 => WP.region Tt_ok (O_cons (O_call (all := []) rfl rfl rfl ?_)))
    obtain ⟨r2, hx2, h⟩ := obind h
    refine recyclinglaw17_awake_fn  hx2 (fun v2 hm_1 => ?_)
    replace hA1 := hA1.mono hm_1
    refine P_some rfl (O_cons (O_read rfl (R_assign rfl (P_some rfl (O_nil (hK906 _ _ _ (WP.ret ?_)))))))
    have e_ := Option.some.inj h
    subst e_
    refine S_tmp rfl (S_nil (Upd.selS [] 1 ?_))
    exact Upd.done (hR _ (Gh.le.trans hm903 (hm_1)))
  replace h := cond_f hc7 h
  refine WP.skip (hK901 _ _ _ (WP.seq_k (fun K907 hK907 => WP.seq_k (fun K908 hK908 => ?_))))
  obtain ⟨o909, h909, h⟩ := obind h
  refine WP.cutK (fun fr_ μ_ L_ => ∃ (v3 : Bool), v3 = o909 ∧ SubFr [(1, .int .i64 f_from1), (2, .int .i64 days1), (3, .pointer (some ⟨g1, 0, none⟩)), (54, .bool v3)] fr_ ∧ SegSub ([(g1, .cells #[.int .i64 s1.Container, .int .i64 s1.Start, .int .i64 s1.Every, .slice A1 s1.Moves.length c1] 24 (0, 0))] :: L) L_) ?_ ?_
  · refine WP.region Tt_ok (O_cons (O_read rfl (R_fa0 (o' := 2) rfl rfl rfl rfl rfl rfl (P_some rfl (O_cons (O_read rfl (R_load rfl rfl rfl (Ex.mk _ (Cell.seg 0 0 rfl rfl rfl) (P_some rfl (O_cons (O_read rfl (R_lssD rfl rfl (P_some rfl ?_)))))))))))))
    refine O_cons (O_read rfl (R_move rfl (P_some rfl ?_)))
    refine O_gv (z := (decide (s1.Every < 1))) rfl rfl (fun hc8 => ?_) (fun hc8 => ?_)
    · replace h909 := cond_f hc8 h909
      refine O_read rfl (R_fa0 (o' := 3) rfl rfl rfl rfl rfl rfl (P_some rfl (O_gY rfl rfl hc8 (O_read rfl (R_load rfl rfl rfl (Ex.mk _ (Cell.seg 0 0 rfl rfl rfl) (P_some rfl (O_gY rfl rfl hc8 (O_read rfl (R_lenS rfl rfl rfl (P_some rfl (O_gY rfl rfl hc8 (O_read rfl ?_)))))))))))))
      refine R_gtrD rfl rfl (P_some rfl (O_cons (O_read rfl (R_pick_F rfl hc8 rfl (P_some rfl (O_nil ?_))))))
      have e_ := Option.some.inj h909
      subst e_
      exact ⟨(decide (32 < ((s1.Moves.length : Nat) : Int))), rfl, SubFr.of ⟨rfl, rfl, rfl, rfl, trivial⟩, SegSub.sel _ [some 0] 1⟩
    replace h909 := cond_t hc8 h909
    refine P_some rfl (O_gN rfl rfl hc8 (P_some rfl (O_gN rfl rfl hc8 (P_some rfl (O_gN rfl rfl hc8 (P_some rfl (O_cons (O_read rfl (R_pick_T rfl hc8 rfl (P_some rfl (O_nil ?_)))))))))))
    have e_ := Option.some.inj h909
    subst e_
    exact ⟨true, rfl, SubFr.of ⟨rfl, rfl, rfl, rfl, trivial⟩, SegSub.sel _ [some 0] 1⟩
  rintro fr909 μ909 L909 hm909 ⟨v3, ho909, hF909, hS909⟩
  subst ho909
  replace hA1 := hA1.mono hm909
  refine hK908 _ _ _ (WP.at hF909 hS909 ?_)
  refine W_cond_v (b := v3) rfl (fun hc9 => ?_) (fun hc9 => ?_)
  · replace h := cond_t hc9 h
    refine WP.seq_k (fun K912 hK912 => WP.region Tt_ok (O_cons (O_read rfl (R_assign rfl (P_some rfl (O_nil (hK912 _ _ _ (WP.ret ?_))))))))
    have e_ := Option.some.inj h
    subst e_
    refine S_tmp rfl (S_nil (Upd.selS [] 1 ?_))
    exact Upd.done (hR _ (Gh.le.trans hm903 (hm909)))
  replace h := cond_f hc9 h
  refine WP.skip (hK907 _ _ _ (WP.seq_k (fun K913 hK913 => WP.region Tt_ok (O_cons (O_read rfl (R_loadA rfl rfl rfl rfl (LA_ (vs := [.int .i64 s1.Container, .int .i64 s1.Start, .int .i64 s1.Every, .slice A1 s1.Moves.length c1]) 0 0 rfl rfl rfl rfl (P_some rfl (O_cons (O_read rfl (R_move rfl (P_some rfl (O_cons ?_)))))))))))))
  refine O_read rfl (R_move rfl (P_some rfl (O_cons (O_read rfl (R_move rfl (P_some rfl (O_cons (O_read rfl (R_add rfl rfl (P_some rfl (O_cons (O_call (all := [.agg #[.int .i64 s1.Container, .int .i64 s1.Start, .int .i64 s1.Every, .slice A1 s1.Moves.length c1], .int .i64 f_from1, .int .i64 (w64 (f_from1 + days1))]) rfl rfl rfl ?_))))))))))))
  obtain ⟨⟨r3, r4⟩, hx3, h⟩ := obind h
  replace h := oun_mk h
  refine schedule_Days_fn hl1 hA1 hx3 (fun A2 c2 ch1 hO1 => P_some rfl (O_cons (O_read rfl (R_move rfl (P_some rfl (O_cons (O_read rfl (R_ext rfl rfl (P_some rfl (O_cons (O_read rfl (R_ext rfl rfl (P_some rfl ?_)))))))))))))
  refine O_cons (O_read rfl (R_assign rfl (P_some rfl (O_cons (O_read rfl (R_assign rfl (P_some rfl (O_nil (hK913 _ _ _ (WP.seq_k (fun K915 hK915 => WP.seq_k (fun K916 hK916 => WP.region Tt_ok (O_cons ?_)))))))))))))
  refine O_read rfl (R_move rfl (P_some rfl (O_cons (O_read rfl (R_neqD rfl rfl (P_some rfl (O_nil (hK916 _ _ _ ?_))))))))
  refine W_cond_v (b := !(decide (r4 = 0))) rfl (fun hc10 => ?_) (fun hc10 => ?_)
  · replace h := cond_t hc10 h
    refine WP.seq_k (fun K917 hK917 => WP.region Tt_ok (O_cons (O_read rfl (R_assign rfl (P_some rfl (O_nil (hK917 _ _ _ (WP.ret ?_))))))))
    have e_ := Option.some.inj h
    subst e_
    refine S_tmp rfl (S_nil (Upd.selS [] 2 ?_))
    exact Upd.done (hR _ (Gh.le.trans hm903 (hm909)))
  replace h := cond_f hc10 h
  refine WP.skip (hK915 _ _ _ (WP.seq_k (fun K918 hK918 => WP.region Tt_ok (O_cons (O_read rfl (R_assign rfl (P_some rfl (O_nil (hK918 _ _ _ (WP.seq_k (fun K919 hK919 => WP.seq_k (fun K920 hK920 => WP.region Tt_ok (O_cons ?_)))))))))))))
  refine O_read rfl (R_move rfl (P_some rfl (O_cons (O_read rfl (R_assign rfl (P_some rfl (O_nil (hK920 _ _ _ ?_))))))))
  obtain ⟨o921, h921, h⟩ := obind h
  refine WP.cutK (fun fr_ μ_ L_ => ∃ (f_at3 : Int), (.inl f_at3) = o921 ∧ SubFr [(7, .slice A2 r3.length c2), (9, .int .i64 f_at3)] fr_ ∧ SegSub (ch1 :: L) L_) ?_ ?_
  · refine WP.block (WP.iter h921 (fun (j_ : Int × Int) fr_ μ_ L_ => ounP j_ fun f_at1 d1 => SubFr [(1, .int .i64 f_from1), (2, .int .i64 days1), (3, .pointer (some ⟨g1, 0, none⟩)), (7, .slice A2 r3.length c2), (9, .int .i64 f_at1), (10, .int .i64 d1)] fr_ ∧ SegSub ([(g1, .cells #[.int .i64 s1.Container, .int .i64 s1.Start, .int .i64 s1.Every, .slice A1 s1.Moves.length c1] 24 (0, 0))] :: ch1 :: L) L_) ⟨SubFr.of ⟨rfl, rfl, rfl, rfl, rfl, rfl, trivial⟩, SegSub.sel _ [some 1, some 0] 2⟩ ?_)
    rintro ⟨f_at1, d1⟩ q1000 fr1000 μ1000 L1000 hm1000 ⟨hF1000, hS1000⟩ hb1000 hq1000
    unfold recyclinglaw17_SchedulePattern_l3 at hb1000
    replace hb1000 := oun_mk hb1000
    replace hA1 := hA1.mono hm1000
    replace hO1 := hO1.mono hm1000
    refine WP.at hF1000 hS1000 (WP.seq_k (fun K1004 hK1004 => WP.seq_k (fun K1005 hK1005 => WP.region Tt_ok (O_cons (O_read rfl (R_move rfl (P_some rfl (O_cons (O_read rfl (R_move rfl (P_some rfl (O_cons (O_read rfl ?_)))))))))))))
    refine R_move rfl (P_some rfl (O_cons (O_read rfl (R_add rfl rfl (P_some rfl (O_cons (O_read rfl (R_lssD rfl rfl (P_some rfl (O_nil (hK1005 _ _ _ ?_)))))))))))
    refine W_cond_v (b := (decide (d1 < (w64 (f_from1 + days1))))) rfl (fun hc11 => ?_) (fun hc11 => ?_)
    · replace hb1000 := cond_t hc11 hb1000
      refine WP.skip (hK1004 _ _ _ (WP.seq_k (fun K1006 hK1006 => ?_)))
      obtain ⟨o1007, h1007, hb1000⟩ := obind hb1000
      refine WP.cutK (fun fr_ μ_ L_ => ∃ (f_at2 : Int), (.inl f_at2) = o1007 ∧ SubFr [(1, .int .i64 f_from1), (2, .int .i64 days1), (3, .pointer (some ⟨g1, 0, none⟩)), (7, .slice A2 r3.length c2), (9, .int .i64 f_at2), (10, .int .i64 d1)] fr_ ∧ SegSub ([(g1, .cells #[.int .i64 s1.Container, .int .i64 s1.Start, .int .i64 s1.Every, .slice A1 s1.Moves.length c1] 24 (0, 0))] :: ch1 :: L) L_) ?_ ?_
      · refine WP.block (WP.seq_k (fun K1008 hK1008 => ?_))
        obtain ⟨o1009, h1009, h1007⟩ := obind h1007
        refine WP.cutK (fun fr_ μ_ L_ => ∃ (want1 : Bool), want1 = o1009 ∧ SubFr [(1, .int .i64 f_from1), (2, .int .i64 days1), (3, .pointer (some ⟨g1, 0, none⟩)), (7, .slice A2 r3.length c2), (9, .int .i64 f_at1), (10, .int .i64 d1), (11, .bool want1)] fr_ ∧ SegSub ([(g1, .cells #[.int .i64 s1.Container, .int .i64 s1.Start, .int .i64 s1.Every, .slice A1 s1.Moves.length c1] 24 (0, 0))] :: ch1 :: L) L_) ?_ ?_
        · refine WP.region Tt_ok (O_cons (O_read rfl (R_move rfl (P_some rfl (O_cons (O_read rfl (R_fa0 (o' := 1) rfl rfl rfl rfl rfl rfl (P_some rfl (O_cons (O_read rfl (R_load rfl rfl rfl (Ex.mk _ (Cell.seg 0 0 rfl rfl rfl) (P_some rfl ?_)))))))))))))
          refine O_cons (O_read rfl (R_geqD rfl rfl (P_some rfl (O_cons (O_read rfl (R_move rfl (P_some rfl ?_)))))))
          refine O_gv (z := (decide (s1.Start ≤ d1))) rfl rfl (fun hc12 => ?_) (fun hc12 => ?_)
          · replace h1009 := cond_t hc12 h1009
            refine O_read rfl (R_move rfl (P_some rfl (O_gY rfl rfl hc12 (O_read rfl (R_fa0 (o' := 1) rfl rfl rfl rfl rfl rfl (P_some rfl (O_gY rfl rfl hc12 (O_read rfl (R_load rfl rfl rfl (Ex.mk _ (Cell.seg 0 0 rfl rfl rfl) (P_some rfl (O_gY rfl rfl hc12 (O_read rfl ?_)))))))))))))
            refine R_sub rfl rfl (P_some rfl (O_gY rfl rfl hc12 (O_read rfl (R_fa0 (o' := 2) rfl rfl rfl rfl rfl rfl (P_some rfl (O_gY rfl rfl hc12 (O_read rfl (R_load rfl rfl rfl (Ex.mk _ (Cell.seg 0 0 rfl rfl rfl) (P_some rfl (O_gY rfl rfl hc12 (O_read rfl (R_rem rfl rfl ?_)))))))))))))
            obtain ⟨u1, hg1, h1009⟩ := obind h1009
            refine ⟨guardO_some hg1, ?_⟩
            refine P_some rfl (O_gY rfl rfl hc12 (O_read rfl (R_eqlD rfl rfl (P_some rfl (O_cons (O_read rfl (R_pick_T rfl hc12 rfl (P_some rfl (O_cons (O_read rfl (R_assign rfl (P_some rfl (O_nil ?_)))))))))))))
            have e_ := Option.some.inj h1009
            subst e_
            exact ⟨(decide ((Int.tmod (w64 (d1 - s1.Start)) s1.Every) = 0)), rfl, SubFr.of ⟨rfl, rfl, rfl, rfl, rfl, rfl, rfl, trivial⟩, SegSub.sel _ [some 0, some 1] 2⟩
          replace h1009 := cond_f hc12 h1009
          refine P_some rfl (O_gN rfl rfl hc12 (P_some rfl (O_gN rfl rfl hc12 (P_some rfl (O_gN rfl rfl hc12 (P_some rfl (O_gN rfl rfl hc12 (P_some rfl (O_gN rfl rfl hc12 (P_some rfl (O_gN rfl rfl hc12 (P_some rfl (O_gN rfl rfl hc12 ?_)))))))))))))
          refine P_some rfl (O_cons (O_read rfl (R_pick_F rfl hc12 rfl (P_some rfl (O_cons (O_read rfl (R_assign rfl (P_some rfl (O_nil ?_)))))))))
          have e_ := Option.some.inj h1009
          subst e_
          exact ⟨false, rfl, SubFr.of ⟨rfl, rfl, rfl, rfl, rfl, rfl, rfl, trivial⟩, SegSub.sel _ [some 0, some 1] 2⟩
        rintro fr1009 μ1009 L1009 hm1009 ⟨want1, ho1009, hF1009, hS1009⟩
        subst ho1009
        replace hA1 := hA1.mono hm1009
        replace hO1 := hO1.mono hm1009
        refine hK1008 _ _ _ (WP.at hF1009 hS1009 (WP.seq_k (fun K1012 hK1012 => WP.seq_k (fun K1013 hK1013 => WP.region Tt_ok (O_cons (O_read rfl (R_assign rfl (P_some rfl (O_nil (hK1013 _ _ _ ?_))))))))))
        obtain ⟨o1014, h1014, h1007⟩ := obind h1007
        refine WP.cutK (fun fr_ μ_ L_ => ∃ (want4 : Bool), want4 = o1014 ∧ SubFr [(1, .int .i64 f_from1), (2, .int .i64 days1), (3, .pointer (some ⟨g1, 0, none⟩)), (7, .slice A2 r3.length c2), (9, .int .i64 f_at1), (10, .int .i64 d1), (11, .bool want4)] fr_ ∧ SegSub ([(g1, .cells #[.int .i64 s1.Container, .int .i64 s1.Start, .int .i64 s1.Every, .slice A1 s1.Moves.length c1] 24 (0, 0))] :: ch1 :: L) L_) ?_ ?_
        · refine WP.block (WP.iter h1014 (fun (j_ : Bool × Int) fr_ μ_ L_ => ounP j_ fun want2 i1 => SubFr [(1, .int .i64 f_from1), (2, .int .i64 days1), (3, .pointer (some ⟨g1, 0, none⟩)), (7, .slice A2 r3.length c2), (9, .int .i64 f_at1), (10, .int .i64 d1), (11, .bool want2), (12, .int .i64 i1)] fr_ ∧ SegSub ([(g1, .cells #[.int .i64 s1.Container, .int .i64 s1.Start, .int .i64 s1.Every, .slice A1 s1.Moves.length c1] 24 (0, 0))] :: ch1 :: L) L_) ⟨SubFr.of ⟨rfl, rfl, rfl, rfl, rfl, rfl, rfl, rfl, trivial⟩, SegSub.sel _ [some 0, some 1] 2⟩ ?_)
          rintro ⟨want2, i1⟩ q1026 fr1026 μ1026 L1026 hm1026 ⟨hF1026, hS1026⟩ hb1026 hq1026
          unfold recyclinglaw17_SchedulePattern_l1 at hb1026
          replace hb1026 := oun_mk hb1026
          replace hA1 := hA1.mono hm1026
          replace hO1 := hO1.mono hm1026
          refine WP.at hF1026 hS1026 (WP.seq_k (fun K1030 hK1030 => WP.seq_k (fun K1031 hK1031 => WP.region Tt_ok (O_cons (O_read rfl (R_move rfl (P_some rfl (O_cons (O_read rfl (R_fa0 (o' := 3) rfl rfl rfl rfl rfl rfl (P_some rfl (O_cons (O_read rfl ?_)))))))))))))
          refine R_load rfl rfl rfl (Ex.mk _ (Cell.seg 0 0 rfl rfl rfl) (P_some rfl (O_cons (O_read rfl (R_lenS rfl rfl rfl (P_some rfl (O_cons (O_read rfl (R_lssD rfl rfl (P_some rfl (O_nil (hK1031 _ _ _ ?_))))))))))))
          refine W_cond_v (b := (decide (i1 < ((s1.Moves.length : Nat) : Int)))) rfl (fun hc13 => ?_) (fun hc13 => ?_)
          · replace hb1026 := cond_t hc13 hb1026
            refine WP.skip (hK1030 _ _ _ (WP.seq_k (fun K1032 hK1032 => ?_)))
            obtain ⟨o1033, h1033, hb1026⟩ := obind hb1026
            refine WP.cutK (fun fr_ μ_ L_ => ∃ (want3 : Bool), want3 = o1033 ∧ SubFr [(1, .int .i64 f_from1), (2, .int .i64 days1), (3, .pointer (some ⟨g1, 0, none⟩)), (7, .slice A2 r3.length c2), (9, .int .i64 f_at1), (10, .int .i64 d1), (11, .bool want3), (12, .int .i64 i1)] fr_ ∧ SegSub ([(g1, .cells #[.int .i64 s1.Container, .int .i64 s1.Start, .int .i64 s1.Every, .slice A1 s1.Moves.length c1] 24 (0, 0))] :: ch1 :: L) L_) ?_ ?_
            · refine WP.block (WP.seq_k (fun K1034 hK1034 => WP.region Tt_ok (O_cons (O_read rfl (R_fa0 (o' := 3) rfl rfl rfl rfl rfl rfl (P_some rfl (O_cons (O_read rfl (R_load rfl rfl rfl (Ex.mk _ (Cell.seg 0 0 rfl rfl rfl) (P_some rfl (O_cons (O_read rfl ?_)))))))))))))
              refine R_move rfl (P_some rfl (O_cons ?_))
              obtain ⟨x1, hx4, h1033⟩ := obind h1033
              obtain ⟨a1, cs1, hA2, hr1, _, hc14⟩ := Rds.getI (ArrR.rds hA1 ([(g1, .cells #[.int .i64 s1.Container, .int .i64 s1.Start, .int .i64 s1.Every, .slice A1 s1.Moves.length c1] 24 (0, 0))] :: ch1 :: L)) hx4
              obtain rfl := hr1
              refine O_read rfl (R_iaG rfl rfl rfl rfl rfl rfl ⟨(getI_lt hx4).1, (getI_lt hx4).2.1⟩ hA2 (P_some rfl (O_cons (O_read rfl (R_faz rfl rfl rfl rfl rfl (P_some rfl (O_cons (O_read rfl (R_load rfl rfl rfl (Ex.mk _ (Cell.of_cells0 hc14 rfl) (P_some rfl (O_cons (O_read rfl ?_)))))))))))))
              refine R_move rfl (P_some rfl (O_cons (O_read rfl (R_eqlD rfl rfl (P_some rfl (O_nil (hK1034 _ _ _ ?_)))))))
              refine W_cond_v (b := (decide (x1.From = d1))) rfl (fun hc15 => ?_) (fun hc15 => ?_)
              · replace h1033 := cond_t hc15 h1033
                refine WP.region Tt_ok (O_cons (O_read rfl (R_assign rfl (P_some rfl (O_nil ?_)))))
                have e_ := Option.some.inj h1033
                subst e_
                exact ⟨false, rfl, SubFr.of ⟨rfl, rfl, rfl, rfl, rfl, rfl, rfl, rfl, trivial⟩, SegSub.sel _ [some 0, some 1] 2⟩
              replace h1033 := cond_f hc15 h1033
              apply WP.skip
              have e_ := Option.some.inj h1033
              subst e_
              exact ⟨want2, rfl, SubFr.of ⟨rfl, rfl, rfl, rfl, rfl, rfl, rfl, rfl, trivial⟩, SegSub.sel _ [some 0, some 1] 2⟩
            rintro fr1033 μ1033 L1033 hm1033 ⟨want3, ho1033, hF1033, hS1033⟩
            subst ho1033
            replace hA1 := hA1.mono hm1033
            replace hO1 := hO1.mono hm1033
            refine hK1032 _ _ _ (WP.at hF1033 hS1033 (WP.region Tt_ok (O_cons (O_read rfl (R_move rfl (P_some rfl (O_cons (O_read rfl (R_add rfl rfl (P_some rfl (O_cons (O_read rfl (R_assign rfl ?_)))))))))))))
            refine P_some rfl (O_nil ?_)
            have e_ := Option.some.inj hb1026
            subst e_
            exact ⟨_, rfl, SubFr.of ⟨rfl, rfl, rfl, rfl, rfl, rfl, rfl, rfl, trivial⟩, SegSub.sel _ [some 0, some 1] 2⟩
          replace hb1026 := cond_f hc13 hb1026
          refine WP.exit (B_here ?_)
          have e_ := Option.some.inj hb1026
          subst e_
          have hq_ := hq1026 _ rfl
          subst hq_
          exact ⟨want2, rfl, SubFr.of ⟨rfl, rfl, rfl, rfl, rfl, rfl, rfl, trivial⟩, SegSub.sel _ [some 0, some 1] 2⟩
        rintro fr1014 μ1014 L1014 hm1014 ⟨want4, ho1014, hF1014, hS1014⟩
        subst ho1014
        replace hA1 := hA1.mono hm1014
        replace hO1 := hO1.mono hm1014
        refine hK1012 _ _ _ (WP.at hF1014 hS1014 (WP.seq_k (fun K1039 hK1039 => WP.seq_k (fun K1040 hK1040 => WP.region Tt_ok (O_cons (O_read rfl (R_assign rfl (P_some rfl (O_nil (hK1040 _ _ _ ?_))))))))))
        obtain ⟨o1041, h1041, h1007⟩ := obind h1007
        refine WP.cutK (fun fr_ μ_ L_ => ∃ (want7 : Bool), want7 = o1041 ∧ SubFr [(1, .int .i64 f_from1), (2, .int .i64 days1), (3, .pointer (some ⟨g1, 0, none⟩)), (7, .slice A2 r3.length c2), (9, .int .i64 f_at1), (10, .int .i64 d1), (11, .bool want7)] fr_ ∧ SegSub ([(g1, .cells #[.int .i64 s1.Container, .int .i64 s1.Start, .int .i64 s1.Every, .slice A1 s1.Moves.length c1] 24 (0, 0))] :: ch1 :: L) L_) ?_ ?_
        · refine WP.block (WP.iter h1041 (fun (j_ : Bool × Int) fr_ μ_ L_ => ounP j_ fun want5 i2 => SubFr [(1, .int .i64 f_from1), (2, .int .i64 days1), (3, .pointer (some ⟨g1, 0, none⟩)), (7, .slice A2 r3.length c2), (9, .int .i64 f_at1), (10, .int .i64 d1), (11, .bool want5), (13, .int .i64 i2)] fr_ ∧ SegSub ([(g1, .cells #[.int .i64 s1.Container, .int .i64 s1.Start, .int .i64 s1.Every, .slice A1 s1.Moves.length c1] 24 (0, 0))] :: ch1 :: L) L_) ⟨SubFr.of ⟨rfl, rfl, rfl, rfl, rfl, rfl, rfl, rfl, trivial⟩, SegSub.sel _ [some 0, some 1] 2⟩ ?_)
          rintro ⟨want5, i2⟩ q1053 fr1053 μ1053 L1053 hm1053 ⟨hF1053, hS1053⟩ hb1053 hq1053
          unfold recyclinglaw17_SchedulePattern_l2 at hb1053
          replace hb1053 := oun_mk hb1053
          replace hA1 := hA1.mono hm1053
          replace hO1 := hO1.mono hm1053
          refine WP.at hF1053 hS1053 (WP.seq_k (fun K1057 hK1057 => WP.seq_k (fun K1058 hK1058 => WP.region Tt_ok (O_cons (O_read rfl (R_move rfl (P_some rfl (O_cons (O_read rfl (R_fa0 (o' := 3) rfl rfl rfl rfl rfl rfl (P_some rfl (O_cons (O_read rfl ?_)))))))))))))
          refine R_load rfl rfl rfl (Ex.mk _ (Cell.seg 0 0 rfl rfl rfl) (P_some rfl (O_cons (O_read rfl (R_lenS rfl rfl rfl (P_some rfl (O_cons (O_read rfl (R_lssD rfl rfl (P_some rfl (O_nil (hK1058 _ _ _ ?_))))))))))))
          refine W_cond_v (b := (decide (i2 < ((s1.Moves.length : Nat) : Int)))) rfl (fun hc16 => ?_) (fun hc16 => ?_)
          · replace hb1053 := cond_t hc16 hb1053
            refine WP.skip (hK1057 _ _ _ (WP.seq_k (fun K1059 hK1059 => ?_)))
            obtain ⟨o1060, h1060, hb1053⟩ := obind hb1053
            refine WP.cutK (fun fr_ μ_ L_ => ∃ (want6 : Bool), want6 = o1060 ∧ SubFr [(1, .int .i64 f_from1), (2, .int .i64 days1), (3, .pointer (some ⟨g1, 0, none⟩)), (7, .slice A2 r3.length c2), (9, .int .i64 f_at1), (10, .int .i64 d1), (11, .bool want6), (13, .int .i64 i2)] fr_ ∧ SegSub ([(g1, .cells #[.int .i64 s1.Container, .int .i64 s1.Start, .int .i64 s1.Every, .slice A1 s1.Moves.length c1] 24 (0, 0))] :: ch1 :: L) L_) ?_ ?_
            · refine WP.block (WP.seq_k (fun K1061 hK1061 => WP.region Tt_ok (O_cons (O_read rfl (R_fa0 (o' := 3) rfl rfl rfl rfl rfl rfl (P_some rfl (O_cons (O_read rfl (R_load rfl rfl rfl (Ex.mk _ (Cell.seg 0 0 rfl rfl rfl) (P_some rfl (O_cons (O_read rfl ?_)))))))))))))
              refine R_move rfl (P_some rfl (O_cons ?_))
              obtain ⟨x2, hx5, h1060⟩ := obind h1060
              obtain ⟨a2, cs2, hA3, hr2, _, hc17⟩ := Rds.getI (ArrR.rds hA1 ([(g1, .cells #[.int .i64 s1.Container, .int .i64 s1.Start, .int .i64 s1.Every, .slice A1 s1.Moves.length c1] 24 (0, 0))] :: ch1 :: L)) hx5
              obtain rfl := hr2
              refine O_read rfl (R_iaG rfl rfl rfl rfl rfl rfl ⟨(getI_lt hx5).1, (getI_lt hx5).2.1⟩ hA3 (P_some rfl (O_cons (O_read rfl (R_fa rfl rfl rfl rfl rfl (P_some rfl (O_cons (O_read rfl (R_load rfl rfl rfl (Ex.mk _ (Cell.of_cells hc17 1 rfl) (P_some rfl (O_cons (O_read rfl ?_)))))))))))))
              refine R_move rfl (P_some rfl (O_cons (O_read rfl (R_eqlD rfl rfl (P_some rfl (O_nil (hK1061 _ _ _ ?_)))))))
              refine W_cond_v (b := (decide (x2.To = d1))) rfl (fun hc18 => ?_) (fun hc18 => ?_)
              · replace h1060 := cond_t hc18 h1060
                refine WP.region Tt_ok (O_cons (O_read rfl (R_assign rfl (P_some rfl (O_nil ?_)))))
                have e_ := Option.some.inj h1060
                subst e_
                exact ⟨true, rfl, SubFr.of ⟨rfl, rfl, rfl, rfl, rfl, rfl, rfl, rfl, trivial⟩, SegSub.sel _ [some 0, some 1] 2⟩
              replace h1060 := cond_f hc18 h1060
              apply WP.skip
              have e_ := Option.some.inj h1060
              subst e_
              exact ⟨want5, rfl, SubFr.of ⟨rfl, rfl, rfl, rfl, rfl, rfl, rfl, rfl, trivial⟩, SegSub.sel _ [some 0, some 1] 2⟩
            rintro fr1060 μ1060 L1060 hm1060 ⟨want6, ho1060, hF1060, hS1060⟩
            subst ho1060
            replace hA1 := hA1.mono hm1060
            replace hO1 := hO1.mono hm1060
            refine hK1059 _ _ _ (WP.at hF1060 hS1060 (WP.region Tt_ok (O_cons (O_read rfl (R_move rfl (P_some rfl (O_cons (O_read rfl (R_add rfl rfl (P_some rfl (O_cons (O_read rfl (R_assign rfl ?_)))))))))))))
            refine P_some rfl (O_nil ?_)
            have e_ := Option.some.inj hb1053
            subst e_
            exact ⟨_, rfl, SubFr.of ⟨rfl, rfl, rfl, rfl, rfl, rfl, rfl, rfl, trivial⟩, SegSub.sel _ [some 0, some 1] 2⟩
          replace hb1053 := cond_f hc16 hb1053
          refine WP.exit (B_here ?_)
          have e_ := Option.some.inj hb1053
          subst e_
          have hq_ := hq1053 _ rfl
          subst hq_
          exact ⟨want5, rfl, SubFr.of ⟨rfl, rfl, rfl, rfl, rfl, rfl, rfl, trivial⟩, SegSub.sel _ [some 0, some 1] 2⟩
        rintro fr1041 μ1041 L1041 hm1041 ⟨want7, ho1041, hF1041, hS1041⟩
        subst ho1041
        replace hA1 := hA1.mono hm1041
        replace hO1 := hO1.mono hm1041
        refine hK1039 _ _ _ (WP.at hF1041 hS1041 (WP.seq_k (fun K1066 hK1066 => WP.seq_k (fun K1067 hK1067 => WP.region Tt_ok (O_cons (O_read rfl (R_loadA rfl rfl rfl rfl (LA_ (vs := [.int .i64 s1.Container, .int .i64 s1.Start, .int .i64 s1.Every, .slice A1 s1.Moves.length c1]) 0 0 rfl rfl rfl rfl (P_some rfl (O_cons (O_read rfl (R_move rfl (P_some rfl ?_)))))))))))))
        refine O_cons (O_call (all := [.agg #[.int .i64 s1.Container, .int .i64 s1.Start, .int .i64 s1.Every, .slice A1 s1.Moves.length c1], .int .i64 d1]) rfl rfl rfl ?_)
        obtain ⟨r5, hx6, h1007⟩ := obind h1007
        refine schedule_Due_fn hl1 hA1 hx6 ((P_some rfl (O_cons (O_read rfl (R_move rfl (P_some rfl (O_cons (O_read rfl (R_neBD rfl rfl rfl rfl (P_some rfl (O_nil (hK1067 _ _ _ ?_))))))))))))
        refine W_cond_v (b := !(r5 == want7)) rfl (fun hc19 => ?_) (fun hc19 => ?_)
        · replace h1007 := cond_t hc19 h1007
          refine WP.seq_k (fun K1068 hK1068 => WP.region Tt_ok (O_cons (O_read rfl (R_assign rfl (P_some rfl (O_nil (hK1068 _ _ _ (WP.ret ?_))))))))
          have e_ := Option.some.inj h1007
          subst e_
          replace hb1000 := osum_r hb1000
          have e_ := Option.some.inj hb1000
          subst e_
          have hq_ := hq1000 _ rfl
          subst hq_
          replace h := osum_r h
          have e_ := Option.some.inj h
          subst e_
          refine S_tmp rfl (S_nil (Upd.selS [] 2 ?_))
          exact Upd.done (hR _ (Gh.le.trans hm903 (Gh.le.trans hm909 (Gh.le.trans hm1000 (Gh.le.trans hm1009 (Gh.le.trans hm1014 (hm1041)))))))
        replace h1007 := cond_f hc19 h1007
        refine WP.skip (hK1066 _ _ _ (WP.seq_k (fun K1069 hK1069 => WP.region Tt_ok (O_cons (O_read rfl (R_move rfl (P_some rfl (O_nil (hK1069 _ _ _ ?_)))))))))
        refine W_cond_v (b := want7) rfl (fun hc20 => ?_) (fun hc20 => ?_)
        · replace h1007 := cond_t hc20 h1007
          refine WP.seq_k (fun K1070 hK1070 => WP.seq_k (fun K1071 hK1071 => ?_))
          obtain ⟨o1072, h1072, h1007⟩ := obind h1007
          refine WP.cutK (fun fr_ μ_ L_ => ∃ (v4 : Bool), v4 = o1072 ∧ SubFr [(1, .int .i64 f_from1), (2, .int .i64 days1), (3, .pointer (some ⟨g1, 0, none⟩)), (7, .slice A2 r3.length c2), (9, .int .i64 f_at1), (10, .int .i64 d1), (135, .bool v4)] fr_ ∧ SegSub ([(g1, .cells #[.int .i64 s1.Container, .int .i64 s1.Start, .int .i64 s1.Every, .slice A1 s1.Moves.length c1] 24 (0, 0))] :: ch1 :: L) L_) ?_ ?_
          · refine WP.region Tt_ok (O_cons (O_read rfl (R_move rfl (P_some rfl (O_cons (O_read rfl (R_move rfl (P_some rfl (O_cons (O_read rfl (R_lenS rfl rfl rfl (P_some rfl (O_cons ?_)))))))))))))
            refine O_read rfl (R_geqD rfl rfl (P_some rfl (O_cons (O_read rfl (R_move rfl (P_some rfl ?_))))))
            refine O_gv (z := (decide (((r3.length : Nat) : Int) ≤ f_at1))) rfl rfl (fun hc21 => ?_) (fun hc21 => ?_)
            · replace h1072 := cond_f hc21 h1072
              refine O_read rfl (R_move rfl (P_some rfl (O_gY rfl rfl hc21 (O_read rfl (R_move rfl (P_some rfl (O_gY rfl rfl hc21 ?_)))))))
              obtain ⟨x3, hx7, h1072⟩ := obind h1072
              obtain ⟨a3, cs3, hA4, hr3, _, hc22⟩ := Rds.getI (Own.rds (L := ([(g1, .cells #[.int .i64 s1.Container, .int .i64 s1.Start, .int .i64 s1.Every, .slice A1 s1.Moves.length c1] 24 (0, 0))] :: ch1 :: L)) hO1 1 rfl) hx7
              obtain rfl := hr3
              refine O_read rfl (R_iaG rfl rfl rfl rfl rfl rfl ⟨(getI_lt hx7).1, (getI_lt hx7).2.1⟩ hA4 (P_some rfl (O_gY rfl rfl hc21 (O_read rfl (R_load rfl rfl rfl (Ex.mk _ (Cell.of_cells0 hc22 rfl) (P_some rfl (O_gY rfl rfl hc21 (O_read rfl (R_move rfl (P_some rfl (O_gY rfl rfl hc21 (O_read rfl ?_)))))))))))))
              refine R_neqD rfl rfl (P_some rfl (O_cons (O_read rfl (R_pick_F rfl hc21 rfl (P_some rfl (O_nil ?_))))))
              have e_ := Option.some.inj h1072
              subst e_
              exact ⟨!(decide (x3 = d1)), rfl, SubFr.of ⟨rfl, rfl, rfl, rfl, rfl, rfl, rfl, trivial⟩, SegSub.sel _ [some 0, some 1] 2⟩
            replace h1072 := cond_t hc21 h1072
            refine P_some rfl (O_gN rfl rfl hc21 (P_some rfl (O_gN rfl rfl hc21 (P_some rfl (O_gN rfl rfl hc21 (P_some rfl (O_gN rfl rfl hc21 (P_some rfl (O_gN rfl rfl hc21 (P_some rfl (O_cons (O_read rfl (R_pick_T rfl hc21 rfl ?_)))))))))))))
            refine P_some rfl (O_nil ?_)
            have e_ := Option.some.inj h1072
            subst e_
            exact ⟨true, rfl, SubFr.of ⟨rfl, rfl, rfl, rfl, rfl, rfl, rfl, trivial⟩, SegSub.sel _ [some 0, some 1] 2⟩
          rintro fr1072 μ1072 L1072 hm1072 ⟨v4, ho1072, hF1072, hS1072⟩
          subst ho1072
          replace hA1 := hA1.mono hm1072
          replace hO1 := hO1.mono hm1072
          refine hK1071 _ _ _ (WP.at hF1072 hS1072 ?_)
          refine W_cond_v (b := v4) rfl (fun hc23 => ?_) (fun hc23 => ?_)
          · replace h1007 := cond_t hc23 h1007
            refine WP.seq_k (fun K1075 hK1075 => WP.region Tt_ok (O_cons (O_read rfl (R_assign rfl (P_some rfl (O_nil (hK1075 _ _ _ (WP.ret ?_))))))))
            have e_ := Option.some.inj h1007
            subst e_
            replace hb1000 := osum_r hb1000
            have e_ := Option.some.inj hb1000
            subst e_
            have hq_ := hq1000 _ rfl
            subst hq_
            replace h := osum_r h
            have e_ := Option.some.inj h
            subst e_
            refine S_tmp rfl (S_nil (Upd.selS [] 2 ?_))
            exact Upd.done (hR _ (Gh.le.trans hm903 (Gh.le.trans hm909 (Gh.le.trans hm1000 (Gh.le.trans hm1009 (Gh.le.trans hm1014 (Gh.le.trans hm1041 (hm1072))))))))
          replace h1007 := cond_f hc23 h1007
          refine WP.skip (hK1070 _ _ _ (WP.region Tt_ok (O_cons (O_read rfl (R_move rfl (P_some rfl (O_cons (O_read rfl (R_add rfl rfl (P_some rfl (O_cons (O_read rfl (R_assign rfl ?_)))))))))))))
          refine P_some rfl (O_nil ?_)
          have e_ := Option.some.inj h1007
          subst e_
          exact ⟨w64 (f_at1 + 1), rfl, SubFr.of ⟨rfl, rfl, rfl, rfl, rfl, rfl, trivial⟩, SegSub.sel _ [some 0, some 1] 2⟩
        replace h1007 := cond_f hc20 h1007
        apply WP.skip
        have e_ := Option.some.inj h1007
        subst e_
        exact ⟨f_at1, rfl, SubFr.of ⟨rfl, rfl, rfl, rfl, rfl, rfl, trivial⟩, SegSub.sel _ [some 0, some 1] 2⟩
      rintro fr1007 μ1007 L1007 hm1007 ⟨f_at2, ho1007, hF1007, hS1007⟩
      subst ho1007
      replace hb1000 := osum_l hb1000
      replace hA1 := hA1.mono hm1007
      replace hO1 := hO1.mono hm1007
      refine hK1006 _ _ _ (WP.at hF1007 hS1007 (WP.region Tt_ok (O_cons (O_read rfl (R_move rfl (P_some rfl (O_cons (O_read rfl (R_add rfl rfl (P_some rfl (O_cons (O_read rfl (R_assign rfl ?_)))))))))))))
      refine P_some rfl (O_nil ?_)
      have e_ := Option.some.inj hb1000
      subst e_
      exact ⟨_, rfl, SubFr.of ⟨rfl, rfl, rfl, rfl, rfl, rfl, trivial⟩, SegSub.sel _ [some 0, some 1] 2⟩
    replace hb1000 := cond_f hc11 hb1000
    refine WP.exit (B_here ?_)
    have e_ := Option.some.inj hb1000
    subst e_
    have hq_ := hq1000 _ rfl
    subst hq_
    exact ⟨f_at1, rfl, SubFr.of ⟨rfl, rfl, trivial⟩, SegSub.sel _ [some 1] 2⟩
  rintro fr921 μ921 L921 hm921 ⟨f_at3, ho921, hF921, hS921⟩
  subst ho921
  replace h := osum_l h
  replace hA1 := hA1.mono hm921
  replace hO1 := hO1.mono hm921
  refine hK919 _ _ _ (WP.at hF921 hS921 (WP.seq_k (fun K1078 hK1078 => ?_)))
  obtain ⟨o1079, h1079, h⟩ := obind h
  refine WP.cutK (fun fr_ μ_ L_ => ∃ (v6 : Bool), v6 = o1079 ∧ SubFr [(6, .bool v6)] fr_ ∧ SegSub (L) L_) ?_ ?_
  · refine WP.region Tt_ok (O_cons (O_read rfl (R_move rfl (P_some rfl (O_cons (O_read rfl (R_move rfl (P_some rfl (O_cons (O_read rfl (R_lenS rfl rfl rfl (P_some rfl (O_cons ?_)))))))))))))
    refine O_read rfl (R_eqlD rfl rfl (P_some rfl (O_cons (O_read rfl (R_move rfl (P_some rfl ?_))))))
    refine O_gv (z := (decide (f_at3 = ((r3.length : Nat) : Int)))) rfl rfl (fun hc24 => ?_) (fun hc24 => ?_)
    · replace h1079 := cond_t hc24 h1079
      apply O_call (all := []); exact rfl; exact rfl; exact rfl
      obtain ⟨r6, hx8, h1079⟩ := obind h1079
      refine recyclinglaw17_awake_fn  hx8 (fun v5 hm_2 => ?_)
      replace hA1 := hA1.mono hm_2
      replace hO1 := hO1.mono hm_2
      refine P_some rfl (O_cons (O_read rfl (R_pick_T rfl hc24 rfl (P_some rfl (O_cons (O_read rfl (R_assign rfl (P_some rfl (O_nil ?_)))))))))
      have e_ := Option.some.inj h1079
      subst e_
      exact ⟨r6, rfl, SubFr.of ⟨rfl, trivial⟩, SegSub.sel _ [] 1⟩
    replace h1079 := cond_f hc24 h1079
    refine P_some rfl (O_cons (O_read rfl (R_pick_F rfl hc24 rfl (P_some rfl (O_cons (O_read rfl (R_assign rfl (P_some rfl (O_nil ?_)))))))))
    have e_ := Option.some.inj h1079
    subst e_
    exact ⟨false, rfl, SubFr.of ⟨rfl, trivial⟩, SegSub.sel _ [] 1⟩
  rintro fr1079 μ1079 L1079 hm1079 ⟨v6, ho1079, hF1079, hS1079⟩
  subst ho1079
  replace hA1 := hA1.mono hm1079
  replace hO1 := hO1.mono hm1079
  refine hK1078 _ _ _ (WP.at hF1079 hS1079 (WP.ret ?_))
  have e_ := Option.some.inj h
  subst e_
  refine S_tmp rfl (S_nil (Upd.selS [] 0 ?_))
  exact Upd.done (hR _ (Gh.le.trans hm903 (Gh.le.trans hm909 (Gh.le.trans hm921 (hm1079)))))

theorem recyclinglaw17_ScheduleNumber_fn {μ : Gh} {L : List Seg} {R : Value → Gh → List Seg → Prop} {F : Nat} {s1 : T_api_Schedule} {A1 : Option Addr} {c1 : Nat} {res1 : Bool}
    (hl1 : s1.Moves.length ≤ c1 ∧ c1 ≤ maxLen) (hA1 : ArrR r_api_Move μ A1 s1.Moves) (h : recyclinglaw17_ScheduleNumber F s1 = some res1)
    (hR : ∀ (μ' : Gh) , μ.le μ' → R (.bool res1) μ' (L)) :
    Fn Try.prog 8 [.agg #[.int .i64 s1.Container, .int .i64 s1.Start, .int .i64 s1.Every, .slice A1 s1.Moves.length c1]] μ L R := by
  unfold recyclinglaw17_ScheduleNumber at h
  refine Fn.of_body Tt_ok Try.func8 (by kernel_rfl) rfl Try.ntmps8 (by simp) ?_
  simp only [Try.f8, argFr, List.zipIdx, List.map, Nat.reduceAdd]
  refine WP.seq_k (fun K1099 hK1099 => WP.region Tt_ok (O_cons (O_box (cs := #[.int .i64 s1.Container, .int .i64 s1.Start, .int .i64 s1.Every, .slice A1 s1.Moves.length c1]) rfl rfl (fun g1 => P_some rfl (O_cons (O_read rfl (R_assign rfl (P_some rfl (O_nil (hK1099 _ _ _ (WP.seq_k (fun K1101 hK1101 => WP.seq_k (fun K1102 hK1102 => ?_)))))))))))))
  obtain ⟨o1103, h1103, h⟩ := obind h
  refine WP.cutK (fun fr_ μ_ L_ => ∃ (v1 : Bool), v1 = o1103 ∧ SubFr [(1, .pointer (some ⟨g1, 0, none⟩)), (13, .bool v1)] fr_ ∧ SegSub ([(g1, .cells #[.int .i64 s1.Container, .int .i64 s1.Start, .int .i64 s1.Every, .slice A1 s1.Moves.length c1] 24 (0, 0))] :: L) L_) ?_ ?_
  · refine WP.region Tt_ok (O_cons (O_read rfl (R_fa0 (o' := 3) rfl rfl rfl rfl rfl rfl (P_some rfl (O_cons (O_read rfl (R_load rfl rfl rfl (Ex.mk _ (Cell.seg 0 0 rfl rfl rfl) (P_some rfl (O_cons (O_read rfl (R_lenS rfl rfl rfl (P_some rfl ?_)))))))))))))
    refine O_cons (O_read rfl (R_gtrD rfl rfl (P_some rfl (O_cons (O_read rfl (R_move rfl (P_some rfl ?_)))))))
    refine O_gv (z := (decide (200 < ((s1.Moves.length : Nat) : Int)))) rfl rfl (fun hc1 => ?_) (fun hc1 => ?_)
    · replace h1103 := cond_f hc1 h1103
      refine O_read rfl (R_loadA rfl rfl rfl rfl (LA_ (vs := [.int .i64 s1.Container, .int .i64 s1.Start, .int .i64 s1.Every, .slice A1 s1.Moves.length c1]) 0 0 rfl rfl rfl rfl (P_some rfl (O_gY rfl rfl hc1 (O_call (all := [.agg #[.int .i64 s1.Container, .int .i64 s1.Start, .int .i64 s1.Every, .slice A1 s1.Moves.length c1]]) rfl rfl rfl ?_)))))
      obtain ⟨r1, hx1, h1103⟩ := obind h1103
      refine schedule_Check_fn hl1 hA1 hx1 ((P_some rfl (O_gY rfl rfl hc1 (O_read rfl (R_neqD rfl rfl (P_some rfl (O_cons (O_read rfl (R_pick_F rfl hc1 rfl (P_some rfl (O_nil ?_)))))))))))
      have e_ := Option.some.inj h1103
      subst e_
      exact ⟨!(decide (r1 = 0)), rfl, SubFr.of ⟨rfl, rfl, trivial⟩, SegSub.sel _ [some 0] 1⟩
    replace h1103 := cond_t hc1 h1103
    refine P_some rfl (O_gN rfl rfl hc1 (P_some rfl (O_gN rfl rfl hc1 (P_some rfl (O_cons (O_read rfl (R_pick_T rfl hc1 rfl (P_some rfl (O_nil ?_)))))))))
    have e_ := Option.some.inj h1103
    subst e_
    exact ⟨true, rfl, SubFr.of ⟨rfl, rfl, trivial⟩, SegSub.sel _ [some 0] 1⟩
  rintro fr1103 μ1103 L1103 hm1103 ⟨v1, ho1103, hF1103, hS1103⟩
  subst ho1103
  replace hA1 := hA1.mono hm1103
  refine hK1102 _ _ _ (WP.at hF1103 hS1103 ?_)
  refine W_cond_v (b := v1) rfl (fun hc2 => ?_) (fun hc2 => ?_)
  · replace h := cond_t hc2 h
    refine WP.seq_k (fun K1106 hK1106 => WP.region Tt_ok (O_cons (O_call (all := []) rfl rfl rfl ?_)))
    obtain ⟨r2, hx2, h⟩ := obind h
    refine recyclinglaw17_awake_fn  hx2 (fun v2 hm_1 => ?_)
    replace hA1 := hA1.mono hm_1
    refine P_some rfl (O_cons (O_read rfl (R_assign rfl (P_some rfl (O_nil (hK1106 _ _ _ (WP.ret ?_)))))))
    have e_ := Option.some.inj h
    subst e_
    refine S_tmp rfl (S_nil (Upd.selS [] 1 ?_))
    exact Upd.done (hR _ (Gh.le.trans hm1103 (hm_1)))
  replace h := cond_f hc2 h
  refine WP.skip (hK1101 _ _ _ (WP.seq_k (fun K1107 hK1107 => WP.seq_k (fun K1108 hK1108 => ?_))))
  obtain ⟨o1109, h1109, h⟩ := obind h
  refine WP.cutK (fun fr_ μ_ L_ => ∃ (v3 : Bool), v3 = o1109 ∧ SubFr [(1, .pointer (some ⟨g1, 0, none⟩)), (27, .bool v3)] fr_ ∧ SegSub ([(g1, .cells #[.int .i64 s1.Container, .int .i64 s1.Start, .int .i64 s1.Every, .slice A1 s1.Moves.length c1] 24 (0, 0))] :: L) L_) ?_ ?_
  · refine WP.region Tt_ok (O_cons (O_read rfl (R_fa0 (o' := 2) rfl rfl rfl rfl rfl rfl (P_some rfl (O_cons (O_read rfl (R_load rfl rfl rfl (Ex.mk _ (Cell.seg 0 0 rfl rfl rfl) (P_some rfl (O_cons (O_read rfl (R_lssD rfl rfl (P_some rfl ?_)))))))))))))
    refine O_cons (O_read rfl (R_move rfl (P_some rfl ?_)))
    refine O_gv (z := (decide (s1.Every < 1))) rfl rfl (fun hc3 => ?_) (fun hc3 => ?_)
    · replace h1109 := cond_f hc3 h1109
      refine O_read rfl (R_fa0 (o' := 1) rfl rfl rfl rfl rfl rfl (P_some rfl (O_gY rfl rfl hc3 (O_read rfl (R_load rfl rfl rfl (Ex.mk _ (Cell.seg 0 0 rfl rfl rfl) (P_some rfl (O_gY rfl rfl hc3 (O_read rfl (R_lssD rfl rfl (P_some rfl (O_cons (O_read rfl ?_)))))))))))))
      refine R_pick_F rfl hc3 rfl (P_some rfl (O_cons (O_read rfl (R_move rfl (P_some rfl ?_)))))
      refine O_gv (z := (decide (s1.Start < 0))) rfl rfl (fun hc4 => ?_) (fun hc4 => ?_)
      · replace h1109 := cond_f hc4 h1109
        refine O_read rfl (R_fa0 (o' := 1) rfl rfl rfl rfl rfl rfl (P_some rfl (O_gY rfl rfl hc4 (O_read rfl (R_load rfl rfl rfl (Ex.mk _ (Cell.seg 0 0 rfl rfl rfl) (P_some rfl (O_gY rfl rfl hc4 (O_read rfl (R_gtrD rfl rfl (P_some rfl (O_cons (O_read rfl ?_)))))))))))))
        refine R_pick_F rfl hc4 rfl (P_some rfl (O_nil ?_))
        have e_ := Option.some.inj h1109
        subst e_
        exact ⟨(decide (36524 < s1.Start)), rfl, SubFr.of ⟨rfl, rfl, trivial⟩, SegSub.sel _ [some 0] 1⟩
      replace h1109 := cond_t hc4 h1109
      refine P_some rfl (O_gN rfl rfl hc4 (P_some rfl (O_gN rfl rfl hc4 (P_some rfl (O_cons (O_read rfl (R_pick_T rfl hc4 rfl (P_some rfl (O_nil ?_)))))))))
      have e_ := Option.some.inj h1109
      subst e_
      exact ⟨true, rfl, SubFr.of ⟨rfl, rfl, trivial⟩, SegSub.sel _ [some 0] 1⟩
    replace h1109 := cond_t hc3 h1109
    refine P_some rfl (O_gN rfl rfl hc3 (P_some rfl (O_gN rfl rfl hc3 (P_some rfl (O_cons (O_read rfl (R_pick_T rfl hc3 rfl (P_some rfl (O_cons (O_read rfl (R_move rfl (P_some rfl (O_gN rfl rfl rfl ?_)))))))))))))
    refine P_some rfl (O_gN rfl rfl rfl (P_some rfl (O_gN rfl rfl rfl (P_some rfl (O_cons (O_read rfl (R_pick_T rfl rfl rfl (P_some rfl (O_nil ?_)))))))))
    have e_ := Option.some.inj h1109
    subst e_
    exact ⟨true, rfl, SubFr.of ⟨rfl, rfl, trivial⟩, SegSub.sel _ [some 0] 1⟩
  rintro fr1109 μ1109 L1109 hm1109 ⟨v3, ho1109, hF1109, hS1109⟩
  subst ho1109
  replace hA1 := hA1.mono hm1109
  refine hK1108 _ _ _ (WP.at hF1109 hS1109 ?_)
  refine W_cond_v (b := v3) rfl (fun hc5 => ?_) (fun hc5 => ?_)
  · replace h := cond_t hc5 h
    refine WP.seq_k (fun K1112 hK1112 => WP.region Tt_ok (O_cons (O_read rfl (R_assign rfl (P_some rfl (O_nil (hK1112 _ _ _ (WP.ret ?_))))))))
    have e_ := Option.some.inj h
    subst e_
    refine S_tmp rfl (S_nil (Upd.selS [] 1 ?_))
    exact Upd.done (hR _ (Gh.le.trans hm1103 (hm1109)))
  replace h := cond_f hc5 h
  refine WP.skip (hK1107 _ _ _ (WP.seq_k (fun K1113 hK1113 => WP.region Tt_ok (O_cons (O_read rfl (R_loadA rfl rfl rfl rfl (LA_ (vs := [.int .i64 s1.Container, .int .i64 s1.Start, .int .i64 s1.Every, .slice A1 s1.Moves.length c1]) 0 0 rfl rfl rfl rfl (P_some rfl (O_cons (O_call (all := [.agg #[.int .i64 s1.Container, .int .i64 s1.Start, .int .i64 s1.Every, .slice A1 s1.Moves.length c1], .int .i64 0, .int .i64 36525]) rfl rfl rfl ?_))))))))))
  obtain ⟨⟨r3, r4⟩, hx3, h⟩ := obind h
  replace h := oun_mk h
  refine schedule_Count_fn hl1 hA1 hx3 ((P_some rfl (O_cons (O_read rfl (R_move rfl (P_some rfl (O_cons (O_read rfl (R_ext rfl rfl (P_some rfl (O_cons (O_read rfl (R_ext rfl rfl (P_some rfl ?_))))))))))))))
  refine O_cons (O_read rfl (R_assign rfl (P_some rfl (O_cons (O_read rfl (R_assign rfl (P_some rfl (O_nil (hK1113 _ _ _ (WP.seq_k (fun K1114 hK1114 => ?_)))))))))))
  obtain ⟨o1115, h1115, h⟩ := obind h
  refine WP.cutK (fun fr_ μ_ L_ => ∃ (v5 : Bool), v5 = o1115 ∧ SubFr [(2, .bool v5)] fr_ ∧ SegSub (L) L_) ?_ ?_
  · refine WP.region Tt_ok (O_cons (O_read rfl (R_move rfl (P_some rfl (O_cons (O_read rfl (R_fa0 (o' := 1) rfl rfl rfl rfl rfl rfl (P_some rfl (O_cons (O_read rfl (R_load rfl rfl rfl (Ex.mk _ (Cell.seg 0 0 rfl rfl rfl) (P_some rfl ?_)))))))))))))
    refine O_cons (O_read rfl (R_sub rfl rfl (P_some rfl (O_cons (O_read rfl (R_fa0 (o' := 2) rfl rfl rfl rfl rfl rfl (P_some rfl (O_cons (O_read rfl (R_load rfl rfl rfl (Ex.mk _ (Cell.seg 0 0 rfl rfl rfl) (P_some rfl (O_cons ?_)))))))))))))
    refine O_read rfl (R_quo rfl rfl ?_)
    obtain ⟨u1, hg1, h1115⟩ := obind h1115
    refine ⟨guardO_some hg1, ?_⟩
    refine P_some rfl (O_cons (O_read rfl (R_add rfl rfl (P_some rfl (O_cons (O_read rfl (R_eqlD rfl rfl (P_some rfl (O_cons (O_read rfl (R_move rfl (P_some rfl ?_))))))))))))
    refine O_gv (z := (decide (r3 = (w64 ((w64 (Int.tdiv (w64 (36524 - s1.Start)) s1.Every)) + 1))))) rfl rfl (fun hc6 => ?_) (fun hc6 => ?_)
    · replace h1115 := cond_t hc6 h1115
      refine O_read rfl (R_move rfl (P_some rfl (O_gY rfl rfl hc6 (O_read rfl (R_eqlD rfl rfl (P_some rfl (O_cons (O_read rfl (R_pick_T rfl hc6 rfl (P_some rfl (O_cons (O_read rfl (R_move rfl ?_)))))))))))))
      apply P_some; exact rfl
      refine O_gv (z := (decide (r4 = 0))) rfl rfl (fun hc7 => ?_) (fun hc7 => ?_)
      · replace h1115 := cond_t hc7 h1115
        apply O_call (all := []); exact rfl; exact rfl; exact rfl
        obtain ⟨r5, hx4, h1115⟩ := obind h1115
        refine recyclinglaw17_awake_fn  hx4 (fun v4 hm_2 => ?_)
        replace hA1 := hA1.mono hm_2
        refine P_some rfl (O_cons (O_read rfl (R_pick_T rfl hc7 rfl (P_some rfl (O_cons (O_read rfl (R_assign rfl (P_some rfl (O_nil ?_)))))))))
        have e_ := Option.some.inj h1115
        subst e_
        exact ⟨r5, rfl, SubFr.of ⟨rfl, trivial⟩, SegSub.sel _ [] 1⟩
      replace h1115 := cond_f hc7 h1115
      refine P_some rfl (O_cons (O_read rfl (R_pick_F rfl hc7 rfl (P_some rfl (O_cons (O_read rfl (R_assign rfl (P_some rfl (O_nil ?_)))))))))
      have e_ := Option.some.inj h1115
      subst e_
      exact ⟨false, rfl, SubFr.of ⟨rfl, trivial⟩, SegSub.sel _ [] 1⟩
    replace h1115 := cond_f hc6 h1115
    refine P_some rfl (O_gN rfl rfl hc6 (P_some rfl (O_cons (O_read rfl (R_pick_F rfl hc6 rfl (P_some rfl (O_cons (O_read rfl (R_move rfl (P_some rfl (O_gN rfl rfl rfl (P_some rfl (O_cons ?_)))))))))))))
    refine O_read rfl (R_pick_F rfl rfl rfl (P_some rfl (O_cons (O_read rfl (R_assign rfl (P_some rfl (O_nil ?_)))))))
    have e_ := Option.some.inj h1115
    subst e_
    exact ⟨false, rfl, SubFr.of ⟨rfl, trivial⟩, SegSub.sel _ [] 1⟩
  rintro fr1115 μ1115 L1115 hm1115 ⟨v5, ho1115, hF1115, hS1115⟩
  subst ho1115
  replace hA1 := hA1.mono hm1115
  refine hK1114 _ _ _ (WP.at hF1115 hS1115 (WP.ret ?_))
  have e_ := Option.some.inj h
  subst e_
  refine S_tmp rfl (S_nil (Upd.selS [] 0 ?_))
  exact Upd.done (hR _ (Gh.le.trans hm1103 (Gh.le.trans hm1109 (hm1115))))

theorem recyclinglaw17_ScheduleSplits_fn {μ : Gh} {L : List Seg} {R : Value → Gh → List Seg → Prop} {F : Nat} {s1 : T_api_Schedule} {f_from1 : Int} {middle1 : Int} {A1 : Option Addr} {c1 : Nat} {res1 : Bool}
    (hl1 : s1.Moves.length ≤ c1 ∧ c1 ≤ maxLen) (hA1 : ArrR r_api_Move μ A1 s1.Moves) (h : recyclinglaw17_ScheduleSplits F s1 f_from1 middle1 = some res1)
    (hR : ∀ (μ' : Gh) , μ.le μ' → R (.bool res1) μ' (L)) :
    Fn Try.prog 9 [.agg #[.int .i64 s1.Container, .int .i64 s1.Start, .int .i64 s1.Every, .slice A1 s1.Moves.length c1], .int .i64 f_from1, .int .i64 middle1] μ L R := by
  unfold recyclinglaw17_ScheduleSplits at h
  refine Fn.of_body Tt_ok Try.func9 (by kernel_rfl) rfl Try.ntmps9 (by simp) ?_
  simp only [Try.f9, argFr, List.zipIdx, List.map, Nat.reduceAdd]
  refine WP.seq_k (fun K1144 hK1144 => WP.region Tt_ok (O_cons (O_box (cs := #[.int .i64 s1.Container, .int .i64 s1.Start, .int .i64 s1.Every, .slice A1 s1.Moves.length c1]) rfl rfl (fun g1 => P_some rfl (O_cons (O_read rfl (R_assign rfl (P_some rfl (O_nil (hK1144 _ _ _ (WP.seq_k (fun K1146 hK1146 => WP.seq_k (fun K1147 hK1147 => ?_)))))))))))))
  obtain ⟨o1148, h1148, h⟩ := obind h
  refine WP.cutK (fun fr_ μ_ L_ => ∃ (v1 : Bool), v1 = o1148 ∧ SubFr [(1, .int .i64 f_from1), (2, .int .i64 middle1), (3, .pointer (some ⟨g1, 0, none⟩)), (38, .bool v1)] fr_ ∧ SegSub ([(g1, .cells #[.int .i64 s1.Container, .int .i64 s1.Start, .int .i64 s1.Every, .slice A1 s1.Moves.length c1] 24 (0, 0))] :: L) L_) ?_ ?_
  · refine WP.region Tt_ok (O_cons (O_read rfl (R_fa0 (o' := 3) rfl rfl rfl rfl rfl rfl (P_some rfl (O_cons (O_read rfl (R_load rfl rfl rfl (Ex.mk _ (Cell.seg 0 0 rfl rfl rfl) (P_some rfl (O_cons (O_read rfl (R_lenS rfl rfl rfl (P_some rfl ?_)))))))))))))
    refine O_cons (O_read rfl (R_gtrD rfl rfl (P_some rfl (O_cons (O_read rfl (R_move rfl (P_some rfl ?_)))))))
    refine O_gv (z := (decide (200 < ((s1.Moves.length : Nat) : Int)))) rfl rfl (fun hc1 => ?_) (fun hc1 => ?_)
    · replace h1148 := cond_f hc1 h1148
      refine O_read rfl (R_loadA rfl rfl rfl rfl (LA_ (vs := [.int .i64 s1.Container, .int .i64 s1.Start, .int .i64 s1.Every, .slice A1 s1.Moves.length c1]) 0 0 rfl rfl rfl rfl (P_some rfl (O_gY rfl rfl hc1 (O_call (all := [.agg #[.int .i64 s1.Container, .int .i64 s1.Start, .int .i64 s1.Every, .slice A1 s1.Moves.length c1]]) rfl rfl rfl ?_)))))
      obtain ⟨r1, hx1, h1148⟩ := obind h1148
      refine schedule_Check_fn hl1 hA1 hx1 ((P_some rfl (O_gY rfl rfl hc1 (O_read rfl (R_neqD rfl rfl (P_some rfl (O_cons (O_read rfl (R_pick_F rfl hc1 rfl (P_some rfl (O_cons (O_read rfl (R_move rfl (P_some rfl ?_))))))))))))))
      refine O_gv (z := !(decide (r1 = 0))) rfl rfl (fun hc2 => ?_) (fun hc2 => ?_)
      · replace h1148 := cond_f hc2 h1148
        refine O_read rfl (R_move rfl (P_some rfl (O_gY rfl rfl hc2 (O_read rfl (R_lssD rfl rfl (P_some rfl (O_cons (O_read rfl (R_pick_F rfl hc2 rfl (P_some rfl (O_cons (O_read rfl (R_move rfl ?_)))))))))))))
        apply P_some; exact rfl
        refine O_gv (z := (decide (f_from1 < 0))) rfl rfl (fun hc3 => ?_) (fun hc3 => ?_)
        · replace h1148 := cond_f hc3 h1148
          refine O_read rfl (R_move rfl (P_some rfl (O_gY rfl rfl hc3 (O_read rfl (R_move rfl (P_some rfl (O_gY rfl rfl hc3 (O_read rfl (R_gtrD rfl rfl (P_some rfl (O_cons (O_read rfl (R_pick_F rfl hc3 rfl ?_)))))))))))))
          refine P_some rfl (O_cons (O_read rfl (R_move rfl (P_some rfl ?_))))
          refine O_gv (z := (decide (middle1 < f_from1))) rfl rfl (fun hc4 => ?_) (fun hc4 => ?_)
          · replace h1148 := cond_f hc4 h1148
            refine O_read rfl (R_move rfl (P_some rfl (O_gY rfl rfl hc4 (O_read rfl (R_gtrD rfl rfl (P_some rfl (O_cons (O_read rfl (R_pick_F rfl hc4 rfl (P_some rfl (O_nil ?_)))))))))))
            have e_ := Option.some.inj h1148
            subst e_
            exact ⟨(decide (36524 < middle1)), rfl, SubFr.of ⟨rfl, rfl, rfl, rfl, trivial⟩, SegSub.sel _ [some 0] 1⟩
          replace h1148 := cond_t hc4 h1148
          refine P_some rfl (O_gN rfl rfl hc4 (P_some rfl (O_cons (O_read rfl (R_pick_T rfl hc4 rfl (P_some rfl (O_nil ?_)))))))
          have e_ := Option.some.inj h1148
          subst e_
          exact ⟨true, rfl, SubFr.of ⟨rfl, rfl, rfl, rfl, trivial⟩, SegSub.sel _ [some 0] 1⟩
        replace h1148 := cond_t hc3 h1148
        refine P_some rfl (O_gN rfl rfl hc3 (P_some rfl (O_gN rfl rfl hc3 (P_some rfl (O_cons (O_read rfl (R_pick_T rfl hc3 rfl (P_some rfl (O_cons (O_read rfl (R_move rfl (P_some rfl (O_gN rfl rfl rfl ?_)))))))))))))
        refine P_some rfl (O_gN rfl rfl rfl (P_some rfl (O_cons (O_read rfl (R_pick_T rfl rfl rfl (P_some rfl (O_nil ?_)))))))
        have e_ := Option.some.inj h1148
        subst e_
        exact ⟨true, rfl, SubFr.of ⟨rfl, rfl, rfl, rfl, trivial⟩, SegSub.sel _ [some 0] 1⟩
      replace h1148 := cond_t hc2 h1148
      refine P_some rfl (O_gN rfl rfl hc2 (P_some rfl (O_cons (O_read rfl (R_pick_T rfl hc2 rfl (P_some rfl (O_cons (O_read rfl (R_move rfl (P_some rfl (O_gN rfl rfl rfl (P_some rfl (O_gN rfl rfl rfl ?_)))))))))))))
      refine P_some rfl (O_gN rfl rfl rfl (P_some rfl (O_cons (O_read rfl (R_pick_T rfl rfl rfl (P_some rfl (O_cons (O_read rfl (R_move rfl (P_some rfl (O_gN rfl rfl rfl (P_some rfl (O_gN rfl rfl rfl ?_)))))))))))))
      refine P_some rfl (O_cons (O_read rfl (R_pick_T rfl rfl rfl (P_some rfl (O_nil ?_)))))
      have e_ := Option.some.inj h1148
      subst e_
      exact ⟨true, rfl, SubFr.of ⟨rfl, rfl, rfl, rfl, trivial⟩, SegSub.sel _ [some 0] 1⟩
    replace h1148 := cond_t hc1 h1148
    refine P_some rfl (O_gN rfl rfl hc1 (P_some rfl (O_gN rfl rfl hc1 (P_some rfl (O_cons (O_read rfl (R_pick_T rfl hc1 rfl (P_some rfl (O_cons (O_read rfl (R_move rfl (P_some rfl (O_gN rfl rfl rfl ?_)))))))))))))
    refine P_some rfl (O_gN rfl rfl rfl (P_some rfl (O_cons (O_read rfl (R_pick_T rfl rfl rfl (P_some rfl (O_cons (O_read rfl (R_move rfl (P_some rfl (O_gN rfl rfl rfl (P_some rfl (O_gN rfl rfl rfl ?_)))))))))))))
    refine P_some rfl (O_gN rfl rfl rfl (P_some rfl (O_cons (O_read rfl (R_pick_T rfl rfl rfl (P_some rfl (O_cons (O_read rfl (R_move rfl (P_some rfl (O_gN rfl rfl rfl (P_some rfl (O_gN rfl rfl rfl ?_)))))))))))))
    refine P_some rfl (O_cons (O_read rfl (R_pick_T rfl rfl rfl (P_some rfl (O_nil ?_)))))
    have e_ := Option.some.inj h1148
    subst e_
    exact ⟨true, rfl, SubFr.of ⟨rfl, rfl, rfl, rfl, trivial⟩, SegSub.sel _ [some 0] 1⟩
  rintro fr1148 μ1148 L1148 hm1148 ⟨v1, ho1148, hF1148, hS1148⟩
  subst ho1148
  replace hA1 := hA1.mono hm1148
  refine hK1147 _ _ _ (WP.at hF1148 hS1148 ?_)
  refine W_cond_v (b := v1) rfl (fun hc5 => ?_) (fun hc5 => ?_)
  · replace h := cond_t hc5 h
    refine WP.seq_k (fun K1151 hK1151 => WP.region Tt_ok (O_cons (O_call (all := []) rfl rfl rfl ?_)))
    obtain ⟨r2, hx2, h⟩ := obind h
    refine recyclinglaw17_awake_fn  hx2 (fun v2 hm_1 => ?_)
    replace hA1 := hA1.mono hm_1
    refine P_some rfl (O_cons (O_read rfl (R_assign rfl (P_some rfl (O_nil (hK1151 _ _ _ (WP.ret ?_)))))))
    have e_ := Option.some.inj h
    subst e_
    refine S_tmp rfl (S_nil (Upd.selS [] 1 ?_))
    exact Upd.done (hR _ (Gh.le.trans hm1148 (hm_1)))
  replace h := cond_f hc5 h
  refine WP.skip (hK1146 _ _ _ (WP.seq_k (fun K1152 hK1152 => WP.region Tt_ok (O_cons (O_read rfl (R_loadA rfl rfl rfl rfl (LA_ (vs := [.int .i64 s1.Container, .int .i64 s1.Start, .int .i64 s1.Every, .slice A1 s1.Moves.length c1]) 0 0 rfl rfl rfl rfl (P_some rfl (O_cons (O_read rfl (R_move rfl (P_some rfl (O_cons ?_)))))))))))))
  refine O_read rfl (R_move rfl (P_some rfl (O_cons (O_call (all := [.agg #[.int .i64 s1.Container, .int .i64 s1.Start, .int .i64 s1.Every, .slice A1 s1.Moves.length c1], .int .i64 f_from1, .int .i64 middle1]) rfl rfl rfl ?_))))
  obtain ⟨⟨r3, r4⟩, hx3, h⟩ := obind h
  replace h := oun_mk h
  refine schedule_Count_fn hl1 hA1 hx3 ((P_some rfl (O_cons (O_read rfl (R_move rfl (P_some rfl (O_cons (O_read rfl (R_ext rfl rfl (P_some rfl (O_cons (O_read rfl (R_ext rfl rfl (P_some rfl ?_))))))))))))))
  refine O_cons (O_read rfl (R_assign rfl (P_some rfl (O_cons (O_read rfl (R_assign rfl (P_some rfl (O_nil (hK1152 _ _ _ (WP.seq_k (fun K1153 hK1153 => WP.region Tt_ok (O_cons (O_read rfl ?_)))))))))))))
  refine R_loadA rfl rfl rfl rfl (LA_ (vs := [.int .i64 s1.Container, .int .i64 s1.Start, .int .i64 s1.Every, .slice A1 s1.Moves.length c1]) 0 0 rfl rfl rfl rfl (P_some rfl (O_cons (O_read rfl (R_move rfl (P_some rfl (O_cons (O_call (all := [.agg #[.int .i64 s1.Container, .int .i64 s1.Start, .int .i64 s1.Every, .slice A1 s1.Moves.length c1], .int .i64 middle1, .int .i64 36525]) rfl rfl rfl ?_))))))))
  obtain ⟨⟨r5, r6⟩, hx4, h⟩ := obind h
  replace h := oun_mk h
  refine schedule_Count_fn hl1 hA1 hx4 ((P_some rfl (O_cons (O_read rfl (R_move rfl (P_some rfl (O_cons (O_read rfl (R_ext rfl rfl (P_some rfl (O_cons (O_read rfl (R_ext rfl rfl (P_some rfl ?_))))))))))))))
  refine O_cons (O_read rfl (R_assign rfl (P_some rfl (O_cons (O_read rfl (R_assign rfl (P_some rfl (O_nil (hK1153 _ _ _ (WP.seq_k (fun K1154 hK1154 => WP.region Tt_ok (O_cons (O_read rfl ?_)))))))))))))
  refine R_loadA rfl rfl rfl rfl (LA_ (vs := [.int .i64 s1.Container, .int .i64 s1.Start, .int .i64 s1.Every, .slice A1 s1.Moves.length c1]) 0 0 rfl rfl rfl rfl (P_some rfl (O_cons (O_read rfl (R_move rfl (P_some rfl (O_cons (O_call (all := [.agg #[.int .i64 s1.Container, .int .i64 s1.Start, .int .i64 s1.Every, .slice A1 s1.Moves.length c1], .int .i64 f_from1, .int .i64 36525]) rfl rfl rfl ?_))))))))
  obtain ⟨⟨r7, r8⟩, hx5, h⟩ := obind h
  replace h := oun_mk h
  refine schedule_Count_fn hl1 hA1 hx5 ((P_some rfl (O_cons (O_read rfl (R_move rfl (P_some rfl (O_cons (O_read rfl (R_ext rfl rfl (P_some rfl (O_cons (O_read rfl (R_ext rfl rfl (P_some rfl ?_))))))))))))))
  refine O_cons (O_read rfl (R_assign rfl (P_some rfl (O_cons (O_read rfl (R_assign rfl (P_some rfl (O_nil (hK1154 _ _ _ (WP.seq_k (fun K1155 hK1155 => WP.region Tt_ok (O_cons (O_read rfl ?_)))))))))))))
  refine R_loadA rfl rfl rfl rfl (LA_ (vs := [.int .i64 s1.Container, .int .i64 s1.Start, .int .i64 s1.Every, .slice A1 s1.Moves.length c1]) 0 0 rfl rfl rfl rfl (P_some rfl (O_cons (O_read rfl (R_move rfl (P_some rfl (O_cons (O_call (all := [.agg #[.int .i64 s1.Container, .int .i64 s1.Start, .int .i64 s1.Every, .slice A1 s1.Moves.length c1], .int .i64 f_from1, .int .i64 36525]) rfl rfl rfl ?_))))))))
  obtain ⟨⟨r9, r10⟩, hx6, h⟩ := obind h
  replace h := oun_mk h
  refine schedule_Days_fn hl1 hA1 hx6 (fun A2 c2 ch1 hO1 => P_some rfl (O_cons (O_read rfl (R_move rfl (P_some rfl (O_cons (O_read rfl (R_ext rfl rfl (P_some rfl (O_cons (O_read rfl (R_ext rfl rfl (P_some rfl ?_)))))))))))))
  refine O_cons (O_read rfl (R_assign rfl (P_some rfl (O_cons (O_read rfl (R_assign rfl (P_some rfl (O_nil (hK1155 _ _ _ (WP.seq_k (fun K1157 hK1157 => WP.seq_k (fun K1158 hK1158 => ?_))))))))))))
  obtain ⟨o1159, h1159, h⟩ := obind h
  refine WP.cutK (fun fr_ μ_ L_ => ∃ (v3 : Bool), v3 = o1159 ∧ SubFr [(1, .int .i64 f_from1), (3, .pointer (some ⟨g1, 0, none⟩)), (13, .slice A2 r9.length c2), (91, .bool v3)] fr_ ∧ SegSub ([(g1, .cells #[.int .i64 s1.Container, .int .i64 s1.Start, .int .i64 s1.Every, .slice A1 s1.Moves.length c1] 24 (0, 0))] :: ch1 :: L) L_) ?_ ?_
  · refine WP.region Tt_ok (O_cons (O_read rfl (R_move rfl (P_some rfl (O_cons (O_read rfl (R_neqD rfl rfl (P_some rfl (O_cons (O_read rfl (R_move rfl (P_some rfl ?_))))))))))))
    refine O_gv (z := !(decide (r4 = 0))) rfl rfl (fun hc6 => ?_) (fun hc6 => ?_)
    · replace h1159 := cond_f hc6 h1159
      refine O_read rfl (R_move rfl (P_some rfl (O_gY rfl rfl hc6 (O_read rfl (R_neqD rfl rfl (P_some rfl (O_cons (O_read rfl (R_pick_F rfl hc6 rfl (P_some rfl (O_cons (O_read rfl (R_move rfl ?_)))))))))))))
      apply P_some; exact rfl
      refine O_gv (z := !(decide (r6 = 0))) rfl rfl (fun hc7 => ?_) (fun hc7 => ?_)
      · replace h1159 := cond_f hc7 h1159
        refine O_read rfl (R_move rfl (P_some rfl (O_gY rfl rfl hc7 (O_read rfl (R_neqD rfl rfl (P_some rfl (O_cons (O_read rfl (R_pick_F rfl hc7 rfl (P_some rfl (O_cons (O_read rfl (R_move rfl ?_)))))))))))))
        apply P_some; exact rfl
        refine O_gv (z := !(decide (r8 = 0))) rfl rfl (fun hc8 => ?_) (fun hc8 => ?_)
        · replace h1159 := cond_f hc8 h1159
          refine O_read rfl (R_move rfl (P_some rfl (O_gY rfl rfl hc8 (O_read rfl (R_neqD rfl rfl (P_some rfl (O_cons (O_read rfl (R_pick_F rfl hc8 rfl (P_some rfl (O_cons (O_read rfl (R_move rfl ?_)))))))))))))
          apply P_some; exact rfl
          refine O_gv (z := !(decide (r10 = 0))) rfl rfl (fun hc9 => ?_) (fun hc9 => ?_)
          · replace h1159 := cond_f hc9 h1159
            refine O_read rfl (R_move rfl (P_some rfl (O_gY rfl rfl hc9 (O_read rfl (R_move rfl (P_some rfl (O_gY rfl rfl hc9 (O_read rfl (R_add rfl rfl (P_some rfl (O_gY rfl rfl hc9 (O_read rfl (R_move rfl ?_)))))))))))))
            refine P_some rfl (O_gY rfl rfl hc9 (O_read rfl (R_neqD rfl rfl (P_some rfl (O_cons (O_read rfl (R_pick_F rfl hc9 rfl (P_some rfl (O_cons (O_read rfl (R_move rfl (P_some rfl ?_))))))))))))
            refine O_gv (z := !(decide ((w64 (r3 + r5)) = r7))) rfl rfl (fun hc10 => ?_) (fun hc10 => ?_)
            · replace h1159 := cond_f hc10 h1159
              refine O_read rfl (R_move rfl (P_some rfl (O_gY rfl rfl hc10 (O_read rfl (R_lenS rfl rfl rfl (P_some rfl (O_gY rfl rfl hc10 (O_read rfl (R_move rfl (P_some rfl (O_gY rfl rfl hc10 (O_read rfl (R_neqD rfl rfl ?_)))))))))))))
              refine P_some rfl (O_cons (O_read rfl (R_pick_F rfl hc10 rfl (P_some rfl (O_nil ?_)))))
              have e_ := Option.some.inj h1159
              subst e_
              exact ⟨!(decide (((r9.length : Nat) : Int) = r7)), rfl, SubFr.of ⟨rfl, rfl, rfl, rfl, trivial⟩, SegSub.sel _ [some 1, some 0] 2⟩
            replace h1159 := cond_t hc10 h1159
            refine P_some rfl (O_gN rfl rfl hc10 (P_some rfl (O_gN rfl rfl hc10 (P_some rfl (O_gN rfl rfl hc10 (P_some rfl (O_cons (O_read rfl (R_pick_T rfl hc10 rfl (P_some rfl (O_nil ?_)))))))))))
            have e_ := Option.some.inj h1159
            subst e_
            exact ⟨true, rfl, SubFr.of ⟨rfl, rfl, rfl, rfl, trivial⟩, SegSub.sel _ [some 1, some 0] 2⟩
          replace h1159 := cond_t hc9 h1159
          refine P_some rfl (O_gN rfl rfl hc9 (P_some rfl (O_gN rfl rfl hc9 (P_some rfl (O_gN rfl rfl hc9 (P_some rfl (O_gN rfl rfl hc9 (P_some rfl (O_cons (O_read rfl (R_pick_T rfl hc9 rfl (P_some rfl (O_cons ?_)))))))))))))
          refine O_read rfl (R_move rfl (P_some rfl (O_gN rfl rfl rfl (P_some rfl (O_gN rfl rfl rfl (P_some rfl (O_gN rfl rfl rfl (P_some rfl (O_gN rfl rfl rfl (P_some rfl (O_cons (O_read rfl (R_pick_T rfl rfl rfl ?_)))))))))))))
          refine P_some rfl (O_nil ?_)
          have e_ := Option.some.inj h1159
          subst e_
          exact ⟨true, rfl, SubFr.of ⟨rfl, rfl, rfl, rfl, trivial⟩, SegSub.sel _ [some 1, some 0] 2⟩
        replace h1159 := cond_t hc8 h1159
        refine P_some rfl (O_gN rfl rfl hc8 (P_some rfl (O_cons (O_read rfl (R_pick_T rfl hc8 rfl (P_some rfl (O_cons (O_read rfl (R_move rfl (P_some rfl (O_gN rfl rfl rfl (P_some rfl (O_gN rfl rfl rfl ?_)))))))))))))
        refine P_some rfl (O_gN rfl rfl rfl (P_some rfl (O_gN rfl rfl rfl (P_some rfl (O_gN rfl rfl rfl (P_some rfl (O_cons (O_read rfl (R_pick_T rfl rfl rfl (P_some rfl (O_cons (O_read rfl (R_move rfl ?_)))))))))))))
        refine P_some rfl (O_gN rfl rfl rfl (P_some rfl (O_gN rfl rfl rfl (P_some rfl (O_gN rfl rfl rfl (P_some rfl (O_gN rfl rfl rfl (P_some rfl (O_cons (O_read rfl (R_pick_T rfl rfl rfl (P_some rfl (O_nil ?_)))))))))))))
        have e_ := Option.some.inj h1159
        subst e_
        exact ⟨true, rfl, SubFr.of ⟨rfl, rfl, rfl, rfl, trivial⟩, SegSub.sel _ [some 1, some 0] 2⟩
      replace h1159 := cond_t hc7 h1159
      refine P_some rfl (O_gN rfl rfl hc7 (P_some rfl (O_cons (O_read rfl (R_pick_T rfl hc7 rfl (P_some rfl (O_cons (O_read rfl (R_move rfl (P_some rfl (O_gN rfl rfl rfl (P_some rfl (O_gN rfl rfl rfl ?_)))))))))))))
      refine P_some rfl (O_cons (O_read rfl (R_pick_T rfl rfl rfl (P_some rfl (O_cons (O_read rfl (R_move rfl (P_some rfl (O_gN rfl rfl rfl (P_some rfl (O_gN rfl rfl rfl (P_some rfl (O_gN rfl rfl rfl ?_)))))))))))))
      refine P_some rfl (O_gN rfl rfl rfl (P_some rfl (O_gN rfl rfl rfl (P_some rfl (O_cons (O_read rfl (R_pick_T rfl rfl rfl (P_some rfl (O_cons (O_read rfl (R_move rfl (P_some rfl (O_gN rfl rfl rfl ?_)))))))))))))
      refine P_some rfl (O_gN rfl rfl rfl (P_some rfl (O_gN rfl rfl rfl (P_some rfl (O_gN rfl rfl rfl (P_some rfl (O_cons (O_read rfl (R_pick_T rfl rfl rfl (P_some rfl (O_nil ?_)))))))))))
      have e_ := Option.some.inj h1159
      subst e_
      exact ⟨true, rfl, SubFr.of ⟨rfl, rfl, rfl, rfl, trivial⟩, SegSub.sel _ [some 1, some 0] 2⟩
    replace h1159 := cond_t hc6 h1159
    refine P_some rfl (O_gN rfl rfl hc6 (P_some rfl (O_cons (O_read rfl (R_pick_T rfl hc6 rfl (P_some rfl (O_cons (O_read rfl (R_move rfl (P_some rfl (O_gN rfl rfl rfl (P_some rfl (O_gN rfl rfl rfl ?_)))))))))))))
    refine P_some rfl (O_cons (O_read rfl (R_pick_T rfl rfl rfl (P_some rfl (O_cons (O_read rfl (R_move rfl (P_some rfl (O_gN rfl rfl rfl (P_some rfl (O_gN rfl rfl rfl (P_some rfl (O_cons ?_)))))))))))))
    refine O_read rfl (R_pick_T rfl rfl rfl (P_some rfl (O_cons (O_read rfl (R_move rfl (P_some rfl (O_gN rfl rfl rfl (P_some rfl (O_gN rfl rfl rfl (P_some rfl (O_gN rfl rfl rfl (P_some rfl (O_gN rfl rfl rfl ?_)))))))))))))
    refine P_some rfl (O_gN rfl rfl rfl (P_some rfl (O_cons (O_read rfl (R_pick_T rfl rfl rfl (P_some rfl (O_cons (O_read rfl (R_move rfl (P_some rfl (O_gN rfl rfl rfl (P_some rfl (O_gN rfl rfl rfl ?_)))))))))))))
    refine P_some rfl (O_gN rfl rfl rfl (P_some rfl (O_gN rfl rfl rfl (P_some rfl (O_cons (O_read rfl (R_pick_T rfl rfl rfl (P_some rfl (O_nil ?_)))))))))
    have e_ := Option.some.inj h1159
    subst e_
    exact ⟨true, rfl, SubFr.of ⟨rfl, rfl, rfl, rfl, trivial⟩, SegSub.sel _ [some 1, some 0] 2⟩
  rintro fr1159 μ1159 L1159 hm1159 ⟨v3, ho1159, hF1159, hS1159⟩
  subst ho1159
  replace hA1 := hA1.mono hm1159
  replace hO1 := hO1.mono hm1159
  refine hK1158 _ _ _ (WP.at hF1159 hS1159 ?_)
  refine W_cond_v (b := v3) rfl (fun hc11 => ?_) (fun hc11 => ?_)
  · replace h := cond_t hc11 h
    refine WP.seq_k (fun K1162 hK1162 => WP.region Tt_ok (O_cons (O_read rfl (R_assign rfl (P_some rfl (O_nil (hK1162 _ _ _ (WP.ret ?_))))))))
    have e_ := Option.some.inj h
    subst e_
    refine S_tmp rfl (S_nil (Upd.selS [] 2 ?_))
    exact Upd.done (hR _ (Gh.le.trans hm1148 (hm1159)))
  replace h := cond_f hc11 h
  refine WP.skip (hK1157 _ _ _ (WP.seq_k (fun K1163 hK1163 => WP.region Tt_ok (O_cons (O_read rfl (R_loadA rfl rfl rfl rfl (LA_ (vs := [.int .i64 s1.Container, .int .i64 s1.Start, .int .i64 s1.Every, .slice A1 s1.Moves.length c1]) 0 0 rfl rfl rfl rfl (P_some rfl (O_cons (O_read rfl (R_move rfl (P_some rfl (O_cons ?_)))))))))))))
  apply O_call (all := [.agg #[.int .i64 s1.Container, .int .i64 s1.Start, .int .i64 s1.Every, .slice A1 s1.Moves.length c1], .int .i64 f_from1]); exact rfl; exact rfl; exact rfl
  obtain ⟨⟨r11, r12⟩, hx7, h⟩ := obind h
  replace h := oun_mk h
  refine schedule_Next_fn hl1 hA1 hx7 ((P_some rfl (O_cons (O_read rfl (R_move rfl (P_some rfl (O_cons (O_read rfl (R_ext rfl rfl (P_some rfl (O_cons (O_read rfl (R_ext rfl rfl (P_some rfl ?_))))))))))))))
  refine O_cons (O_read rfl (R_assign rfl (P_some rfl (O_cons (O_read rfl (R_assign rfl (P_some rfl (O_nil (hK1163 _ _ _ (WP.seq_k (fun K1164 hK1164 => WP.seq_k (fun K1165 hK1165 => WP.region Tt_ok (O_cons ?_)))))))))))))
  refine O_read rfl (R_move rfl (P_some rfl (O_cons (O_read rfl (R_lenS rfl rfl rfl (P_some rfl (O_cons (O_read rfl (R_eqlD rfl rfl (P_some rfl (O_nil (hK1165 _ _ _ ?_))))))))))))
  refine W_cond_v (b := (decide (((r9.length : Nat) : Int) = 0))) rfl (fun hc12 => ?_) (fun hc12 => ?_)
  · replace h := cond_t hc12 h
    refine WP.seq_k ?_; intro K1166 hK1166
    obtain ⟨o1167, h1167, h⟩ := obind h
    refine WP.cutK (fun fr_ μ_ L_ => ∃ (v5 : Bool), v5 = o1167 ∧ SubFr [(6, .bool v5)] fr_ ∧ SegSub (L) L_) ?_ ?_
    · refine WP.region Tt_ok (O_cons (O_read rfl (R_move rfl (P_some rfl (O_cons (O_read rfl (R_eqlD rfl rfl (P_some rfl (O_cons (O_read rfl (R_move rfl (P_some rfl ?_))))))))))))
      refine O_gv (z := (decide (r11 = 0))) rfl rfl (fun hc13 => ?_) (fun hc13 => ?_)
      · replace h1167 := cond_t hc13 h1167
        refine O_read rfl (R_move rfl (P_some rfl (O_gY rfl rfl hc13 (O_read rfl (R_eqlD rfl rfl (P_some rfl (O_cons (O_read rfl (R_pick_T rfl hc13 rfl (P_some rfl (O_cons (O_read rfl (R_move rfl ?_)))))))))))))
        apply P_some; exact rfl
        refine O_gv (z := (decide (r12 = 7))) rfl rfl (fun hc14 => ?_) (fun hc14 => ?_)
        · replace h1167 := cond_t hc14 h1167
          apply O_call (all := []); exact rfl; exact rfl; exact rfl
          obtain ⟨r13, hx8, h1167⟩ := obind h1167
          refine recyclinglaw17_awake_fn  hx8 (fun v4 hm_2 => ?_)
          replace hA1 := hA1.mono hm_2
          replace hO1 := hO1.mono hm_2
          refine P_some rfl (O_cons (O_read rfl (R_pick_T rfl hc14 rfl (P_some rfl (O_cons (O_read rfl (R_assign rfl (P_some rfl (O_nil ?_)))))))))
          have e_ := Option.some.inj h1167
          subst e_
          exact ⟨r13, rfl, SubFr.of ⟨rfl, trivial⟩, SegSub.sel _ [] 2⟩
        replace h1167 := cond_f hc14 h1167
        refine P_some rfl (O_cons (O_read rfl (R_pick_F rfl hc14 rfl (P_some rfl (O_cons (O_read rfl (R_assign rfl (P_some rfl (O_nil ?_)))))))))
        have e_ := Option.some.inj h1167
        subst e_
        exact ⟨false, rfl, SubFr.of ⟨rfl, trivial⟩, SegSub.sel _ [] 2⟩
      replace h1167 := cond_f hc13 h1167
      refine P_some rfl (O_gN rfl rfl hc13 (P_some rfl (O_cons (O_read rfl (R_pick_F rfl hc13 rfl (P_some rfl (O_cons (O_read rfl (R_move rfl (P_some rfl (O_gN rfl rfl rfl (P_some rfl (O_cons ?_)))))))))))))
      refine O_read rfl (R_pick_F rfl rfl rfl (P_some rfl (O_cons (O_read rfl (R_assign rfl (P_some rfl (O_nil ?_)))))))
      have e_ := Option.some.inj h1167
      subst e_
      exact ⟨false, rfl, SubFr.of ⟨rfl, trivial⟩, SegSub.sel _ [] 2⟩
    rintro fr1167 μ1167 L1167 hm1167 ⟨v5, ho1167, hF1167, hS1167⟩
    subst ho1167
    replace hA1 := hA1.mono hm1167
    replace hO1 := hO1.mono hm1167
    refine hK1166 _ _ _ (WP.at hF1167 hS1167 (WP.ret ?_))
    have e_ := Option.some.inj h
    subst e_
    refine S_tmp rfl (S_nil (Upd.selS [] 0 ?_))
    exact Upd.done (hR _ (Gh.le.trans hm1148 (Gh.le.trans hm1159 (hm1167))))
  replace h := cond_f hc12 h
  refine WP.skip (hK1164 _ _ _ (WP.seq_k (fun K1168 hK1168 => ?_)))
  obtain ⟨o1169, h1169, h⟩ := obind h
  refine WP.cutK (fun fr_ μ_ L_ => ∃ (v7 : Bool), v7 = o1169 ∧ SubFr [(6, .bool v7)] fr_ ∧ SegSub (L) L_) ?_ ?_
  · refine WP.region Tt_ok (O_cons (O_read rfl (R_move rfl (P_some rfl (O_cons (O_read rfl (R_move rfl (P_some rfl (O_cons ?_)))))))))
    obtain ⟨x1, hx9, h1169⟩ := obind h1169
    obtain ⟨a1, cs1, hA2, hr1, _, hc15⟩ := Rds.getI (Own.rds (L := ([(g1, .cells #[.int .i64 s1.Container, .int .i64 s1.Start, .int .i64 s1.Every, .slice A1 s1.Moves.length c1] 24 (0, 0))] :: ch1 :: L)) hO1 1 rfl) hx9
    obtain rfl := hr1
    refine O_read rfl (R_iaG rfl rfl rfl rfl rfl rfl ⟨(getI_lt hx9).1, (getI_lt hx9).2.1⟩ hA2 (P_some rfl (O_cons (O_read rfl (R_load rfl rfl rfl (Ex.mk _ (Cell.of_cells0 hc15 rfl) (P_some rfl (O_cons (O_read rfl (R_eqlD rfl rfl (P_some rfl (O_cons (O_read rfl ?_)))))))))))))
    refine R_move rfl (P_some rfl ?_)
    refine O_gv (z := (decide (r11 = x1))) rfl rfl (fun hc16 => ?_) (fun hc16 => ?_)
    · replace h1169 := cond_t hc16 h1169
      refine O_read rfl (R_move rfl (P_some rfl (O_gY rfl rfl hc16 (O_read rfl (R_eqlD rfl rfl (P_some rfl (O_cons (O_read rfl (R_pick_T rfl hc16 rfl (P_some rfl (O_cons (O_read rfl (R_move rfl ?_)))))))))))))
      apply P_some; exact rfl
      refine O_gv (z := (decide (r12 = 0))) rfl rfl (fun hc17 => ?_) (fun hc17 => ?_)
      · replace h1169 := cond_t hc17 h1169
        apply O_call (all := []); exact rfl; exact rfl; exact rfl
        obtain ⟨r14, hx10, h1169⟩ := obind h1169
        refine recyclinglaw17_awake_fn  hx10 (fun v6 hm_3 => ?_)
        replace hA1 := hA1.mono hm_3
        replace hO1 := hO1.mono hm_3
        replace hc15 := hc15.lift hm_3
        refine P_some rfl (O_cons (O_read rfl (R_pick_T rfl hc17 rfl (P_some rfl (O_cons (O_read rfl (R_assign rfl (P_some rfl (O_nil ?_)))))))))
        have e_ := Option.some.inj h1169
        subst e_
        exact ⟨r14, rfl, SubFr.of ⟨rfl, trivial⟩, SegSub.sel _ [] 2⟩
      replace h1169 := cond_f hc17 h1169
      refine P_some rfl (O_cons (O_read rfl (R_pick_F rfl hc17 rfl (P_some rfl (O_cons (O_read rfl (R_assign rfl (P_some rfl (O_nil ?_)))))))))
      have e_ := Option.some.inj h1169
      subst e_
      exact ⟨false, rfl, SubFr.of ⟨rfl, trivial⟩, SegSub.sel _ [] 2⟩
    replace h1169 := cond_f hc16 h1169
    refine P_some rfl (O_gN rfl rfl hc16 (P_some rfl (O_cons (O_read rfl (R_pick_F rfl hc16 rfl (P_some rfl (O_cons (O_read rfl (R_move rfl (P_some rfl (O_gN rfl rfl rfl (P_some rfl (O_cons ?_)))))))))))))
    refine O_read rfl (R_pick_F rfl rfl rfl (P_some rfl (O_cons (O_read rfl (R_assign rfl (P_some rfl (O_nil ?_)))))))
    have e_ := Option.some.inj h1169
    subst e_
    exact ⟨false, rfl, SubFr.of ⟨rfl, trivial⟩, SegSub.sel _ [] 2⟩
  rintro fr1169 μ1169 L1169 hm1169 ⟨v7, ho1169, hF1169, hS1169⟩
  subst ho1169
  replace hA1 := hA1.mono hm1169
  replace hO1 := hO1.mono hm1169
  refine hK1168 _ _ _ (WP.at hF1169 hS1169 (WP.ret ?_))
  have e_ := Option.some.inj h
  subst e_
  refine S_tmp rfl (S_nil (Upd.selS [] 0 ?_))
  exact Upd.done (hR _ (Gh.le.trans hm1148 (Gh.le.trans hm1159 (hm1169))))

end Go.Proofs.Ytpcajjnanljajaa
