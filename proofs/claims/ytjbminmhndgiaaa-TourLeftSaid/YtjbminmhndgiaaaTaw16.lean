/- Printed by gen.py of this repo: the walks that tie the functions to their specifications. -/
import Derived.Test.YtjbminmhndgiaaaTt
import Derived.Test.YtjbminmhndgiaaaTas
import Derived.Test.YtjbminmhndgiaaaTaw1
import Derived.Test.YtjbminmhndgiaaaTaw3
import Derived.Test.YtjbminmhndgiaaaTaw8
namespace Go.Proofs.Ytjbminmhndgiaaa
open Go.RowKit
set_option linter.unusedSimpArgs false
set_option linter.unusedVariables false
attribute [local irreducible] WP SemOk SemU Fn AN Upd vcR vcO vcOps vcPlan putK fillK resK inBlk forkOne Cell StAt Kept

theorem recyclinglaw22_TourLeft_fn {μ : Gh} {L : List Seg} {R : Value → Gh → List Seg → Prop} {F : Nat} {p1 : T_api_Problem} {k1 : Int} {A1 : Option Addr} {c1 : Nat} {A2 : Option Addr} {c2 : Nat} {A3 : Option Addr} {c3 : Nat} {res1 : Bool}
    (hl1 : p1.Road.Edges.length ≤ c1 ∧ c1 ≤ maxLen) (hA1 : ArrR r_api_Edge μ A1 p1.Road.Edges) (hl2 : p1.Vehicles.length ≤ c2 ∧ c2 ≤ maxLen) (hA2 : ArrR r_api_Vehicle μ A2 p1.Vehicles) (hl3 : p1.Demands.length ≤ c3 ∧ c3 ≤ maxLen) (hA3 : ArrR r_api_Demand μ A3 p1.Demands) (h : recyclinglaw22_TourLeft F p1 k1 = some res1)
    (hR : ∀ (μ' : Gh) , μ.le μ' → R (.bool res1) μ' (L)) :
    Fn Try.prog 10 [.agg #[.int .i64 p1.Road.Nodes, .slice A1 p1.Road.Edges.length c1, .slice A2 p1.Vehicles.length c2, .slice A3 p1.Demands.length c3, .int .i64 p1.Unload, .int .i64 p1.UnloadSecs], .int .u8 k1] μ (L) R := by
  unfold recyclinglaw22_TourLeft at h
  refine Fn.of_body Tt_ok Try.func10 (by kernel_rfl) rfl Try.ntmps10 (by simp) ?_
  simp only [Try.f10, argFr, List.zipIdx, List.map, Nat.reduceAdd]
  refine WP.seq_k (fun K9055 hK9055 => WP.region Tt_ok (O_cons (O_box (cs := #[.int .i64 p1.Road.Nodes, .slice A1 p1.Road.Edges.length c1, .slice A2 p1.Vehicles.length c2, .slice A3 p1.Demands.length c3, .int .i64 p1.Unload, .int .i64 p1.UnloadSecs]) rfl rfl (fun g1 => Pc rfl rfl (R_assign rfl (Pn rfl (hK9055 _ _ _ (WP.seq_k (fun K9057 hK9057 => WP.seq_k (fun K9058 hK9058 => ?_))))))))))
  obtain ⟨o9059, h9059, h⟩ := obind h
  refine WP.cutK (fun fr_ μ_ L_ => ∃ (v2 : Bool), v2 = o9059 ∧ SubFr [(1, .int .u8 k1), (2, .pointer (some ⟨g1, 0, none⟩)), (18, .bool v2)] fr_ ∧ SegSub ([(g1, .cells #[.int .i64 p1.Road.Nodes, .slice A1 p1.Road.Edges.length c1, .slice A2 p1.Vehicles.length c2, .slice A3 p1.Demands.length c3, .int .i64 p1.Unload, .int .i64 p1.UnloadSecs] 28 (0, 0))] :: L) L_) ?_ ?_
  · refine Wr Tt_ok rfl (R_loadA rfl rfl rfl rfl (LA_ (vs := [.int .i64 p1.Road.Nodes, .slice A1 p1.Road.Edges.length c1, .slice A2 p1.Vehicles.length c2, .slice A3 p1.Demands.length c3, .int .i64 p1.Unload, .int .i64 p1.UnloadSecs]) 0 0 rfl rfl rfl rfl (P_some rfl (O_cons (O_call (all := [.agg #[.int .i64 p1.Road.Nodes, .slice A1 p1.Road.Edges.length c1, .slice A2 p1.Vehicles.length c2, .slice A3 p1.Demands.length c3, .int .i64 p1.Unload, .int .i64 p1.UnloadSecs]]) rfl rfl rfl ?_)))))
    obtain ⟨r1, hx1, h9059⟩ := obind h9059
    refine recyclingref22_Large_fn hl1 hA1 hl2 hA2 hl3 hA3 hx1 ((Pc rfl rfl (R_move rfl (P_some rfl ?_))))
    refine O_gv (z := r1) rfl rfl (fun hc1 => ?_) (fun hc1 => ?_)
    · replace h9059 := cond_f hc1 h9059
      refine O_read rfl (R_loadA rfl rfl rfl rfl (LA_ (vs := [.int .i64 p1.Road.Nodes, .slice A1 p1.Road.Edges.length c1, .slice A2 p1.Vehicles.length c2, .slice A3 p1.Demands.length c3, .int .i64 p1.Unload, .int .i64 p1.UnloadSecs]) 0 0 rfl rfl rfl rfl (P_some rfl (O_gY rfl rfl hc1 (O_call (all := [.agg #[.int .i64 p1.Road.Nodes, .slice A1 p1.Road.Edges.length c1, .slice A2 p1.Vehicles.length c2, .slice A3 p1.Demands.length c3, .int .i64 p1.Unload, .int .i64 p1.UnloadSecs]]) rfl rfl rfl ?_)))))
      obtain ⟨r2, hx2, h9059⟩ := obind h9059
      refine tour_Check_fn hl1 hA1 hl2 hA2 hl3 hA3 hx2 (fun v1 hm_1 => ?_)
      replace hA1 := hA1.mono hm_1
      replace hA2 := hA2.mono hm_1
      replace hA3 := hA3.mono hm_1
      refine P_some rfl (O_gY rfl rfl hc1 (O_read rfl (R_neqD rfl rfl (Pc rfl rfl (R_pick_F rfl hc1 rfl (Pn rfl ?_))))))
      have e_ := Option.some.inj h9059
      subst e_
      exact ⟨!(decide (r2 = 0)), rfl, SubFr.of ⟨rfl, rfl, rfl, trivial⟩, SegSub.sel _ [some 0] 1⟩
    replace h9059 := cond_t hc1 h9059
    refine P_some rfl (O_gN rfl rfl hc1 (P_some rfl (O_gN rfl rfl hc1 (Pc rfl rfl (R_pick_T rfl hc1 rfl (Pn rfl ?_))))))
    have e_ := Option.some.inj h9059
    subst e_
    exact ⟨true, rfl, SubFr.of ⟨rfl, rfl, rfl, trivial⟩, SegSub.sel _ [some 0] 1⟩
  rintro fr9059 μ9059 L9059 hm9059 ⟨v2, ho9059, hF9059, hS9059⟩
  subst ho9059
  replace hA1 := hA1.mono hm9059
  replace hA2 := hA2.mono hm9059
  replace hA3 := hA3.mono hm9059
  refine hK9058 _ _ _ (WP.at hF9059 hS9059 ?_)
  refine W_cond_v (b := v2) rfl (fun hc2 => ?_) (fun hc2 => ?_)
  · replace h := cond_t hc2 h
    refine WP.seq_k (fun K9062 hK9062 => WP.region Tt_ok (O_cons (O_call (all := []) rfl rfl rfl ?_)))
    obtain ⟨r3, hx3, h⟩ := obind h
    refine recyclinglaw22_awake_fn  hx3 (fun v3 hm_2 => ?_)
    replace hA1 := hA1.mono hm_2
    replace hA2 := hA2.mono hm_2
    replace hA3 := hA3.mono hm_2
    refine Pc rfl rfl (R_assign rfl (Pn rfl (hK9062 _ _ _ (WP.ret ?_))))
    have e_ := Option.some.inj h
    subst e_
    refine S_tmp rfl (S_nil (Upd.selS [] 1 ?_))
    exact Upd.done (hR _ (Gh.le.trans hm9059 (hm_2)))
  replace h := cond_f hc2 h
  refine WP.skip (hK9057 _ _ _ (WP.seq_k (fun K9063 hK9063 => WP.region Tt_ok (O_cons (O_alloc (cs := #[.slice none 0 0, .slice none 0 0]) rfl rfl (fun g2 => P_some rfl (O_cons (O_alloc (cs := #[.slice none 0 0, .slice none 0 0]) rfl rfl (fun g3 => Pn rfl (hK9063 _ _ _ (WP.seq_k (fun K9070 hK9070 => Wr Tt_ok rfl (R_fa0 (o' := 3) rfl rfl rfl rfl rfl rfl (P_some rfl ?_))))))))))))))
  refine O_cons (O_read rfl (R_load rfl rfl rfl (Ex.mk _ (Cell.seg 2 0 rfl rfl rfl) (Pc rfl rfl (R_lenS rfl rfl rfl (Pc rfl rfl (R_assign rfl (Pn rfl (hK9070 _ _ _ (WP.seq_k (fun K9071 hK9071 => WP.seq_k (fun K9072 hK9072 => WP.region Tt_ok ?_))))))))))))
  refine O_cons (O_read rfl (R_move rfl (Pc rfl rfl (R_move rfl (Pn rfl (hK9072 _ _ _ ?_))))))
  obtain ⟨o9073, h9073, h⟩ := obind h
  refine WP.cutK (fun fr_ μ_ L_ => ∃ (f5 : (List Int)) (f6 : (List Int)) (A10 : Option Addr) (c10 : Nat) (ch7 : Seg) (A11 : Option Addr) (c11 : Nat) (ch8 : Seg), (f5, f6) = o9073 ∧ SubFr [(1, .int .u8 k1), (2, .pointer (some ⟨g1, 0, none⟩)), (5, .pointer (some ⟨g2, 0, none⟩)), (6, .pointer (some ⟨g3, 0, none⟩)), (7, .int .i64 ((p1.Demands.length : Nat) : Int))] fr_ ∧ SegSub ([(g1, .cells #[.int .i64 p1.Road.Nodes, .slice A1 p1.Road.Edges.length c1, .slice A2 p1.Vehicles.length c2, .slice A3 p1.Demands.length c3, .int .i64 p1.Unload, .int .i64 p1.UnloadSecs] 28 (0, 0))] :: [(g2, .cells #[.slice none 0 0, .slice A10 f5.length c10] 56 (0, 0))] :: ch7 :: [(g3, .cells #[.slice none 0 0, .slice A11 f6.length c11] 56 (0, 0))] :: ch8 :: L) L_ ∧ Own rInt 3 μ_ (.slice A10 f5.length c10) f5 ch7 ∧ Own rInt 3 μ_ (.slice A11 f6.length c11) f6 ch8) ?_ ?_
  · refine WP.block (WP.iter h9073 (fun (j_ : (List Int) × (List Int) × Int) fr_ μ_ L_ => ounP j_ fun f1 j_ => ounP j_ fun f2 v4 => ∃ (A4 : Option Addr) (c4 : Nat) (ch1 : Seg) (A5 : Option Addr) (c5 : Nat) (ch2 : Seg), SubFr [(1, .int .u8 k1), (2, .pointer (some ⟨g1, 0, none⟩)), (5, .pointer (some ⟨g2, 0, none⟩)), (6, .pointer (some ⟨g3, 0, none⟩)), (7, .int .i64 ((p1.Demands.length : Nat) : Int)), (23, .int .i64 ((p1.Demands.length : Nat) : Int)), (24, .int .i64 v4)] fr_ ∧ SegSub ([(g1, .cells #[.int .i64 p1.Road.Nodes, .slice A1 p1.Road.Edges.length c1, .slice A2 p1.Vehicles.length c2, .slice A3 p1.Demands.length c3, .int .i64 p1.Unload, .int .i64 p1.UnloadSecs] 28 (0, 0))] :: [(g2, .cells #[.slice none 0 0, .slice A4 f1.length c4] 56 (0, 0))] :: ch1 :: [(g3, .cells #[.slice none 0 0, .slice A5 f2.length c5] 56 (0, 0))] :: ch2 :: L) L_ ∧ Own rInt 3 μ_ (.slice A4 f1.length c4) f1 ch1 ∧ Own rInt 3 μ_ (.slice A5 f2.length c5) f2 ch2) ⟨none, 0, [], none, 0, [], SubFr.of ⟨rfl, rfl, rfl, rfl, rfl, rfl, rfl, trivial⟩, SegSub.sel _ [some 2, some 1, none, some 0, none] 3, (Own.nil), (Own.nil)⟩ ?_)
    rintro ⟨f1, f2, v4⟩ q9107 fr9107 μ9107 L9107 hm9107 ⟨A4, c4, ch1, A5, c5, ch2, hF9107, hS9107, hO1, hO2⟩ hb9107 hq9107
    unfold recyclinglaw22_TourLeft_l1 at hb9107
    replace hb9107 := oun_mk hb9107
    replace hb9107 := oun_mk hb9107
    replace hA1 := hA1.mono hm9107
    replace hA2 := hA2.mono hm9107
    replace hA3 := hA3.mono hm9107
    refine WP.at hF9107 hS9107 (WP.seq_k (fun K9121 hK9121 => Wr Tt_ok rfl (R_lssD rfl rfl (Pn rfl (hK9121 _ _ _ (WP.seq_k (fun K9122 hK9122 => ?_)))))))
    refine W_cond_v (b := (decide (v4 < ((p1.Demands.length : Nat) : Int)))) rfl (fun hc3 => ?_) (fun hc3 => ?_)
    · replace hb9107 := cond_t hc3 hb9107
      refine WP.skip (hK9122 _ _ _ (WP.seq_k (fun K9123 hK9123 => ?_)))
      obtain ⟨o9124, h9124, hb9107⟩ := obind hb9107
      refine WP.cutK (fun fr_ μ_ L_ => ∃ (f3 : (List Int)) (f4 : (List Int)) (A8 : Option Addr) (c8 : Nat) (ch5 : Seg) (A9 : Option Addr) (c9 : Nat) (ch6 : Seg), (f3, f4) = o9124 ∧ SubFr [(1, .int .u8 k1), (2, .pointer (some ⟨g1, 0, none⟩)), (5, .pointer (some ⟨g2, 0, none⟩)), (6, .pointer (some ⟨g3, 0, none⟩)), (7, .int .i64 ((p1.Demands.length : Nat) : Int)), (23, .int .i64 ((p1.Demands.length : Nat) : Int)), (24, .int .i64 v4)] fr_ ∧ SegSub ([(g1, .cells #[.int .i64 p1.Road.Nodes, .slice A1 p1.Road.Edges.length c1, .slice A2 p1.Vehicles.length c2, .slice A3 p1.Demands.length c3, .int .i64 p1.Unload, .int .i64 p1.UnloadSecs] 28 (0, 0))] :: [(g2, .cells #[.slice none 0 0, .slice A8 f3.length c8] 56 (0, 0))] :: ch5 :: [(g3, .cells #[.slice none 0 0, .slice A9 f4.length c9] 56 (0, 0))] :: ch6 :: L) L_ ∧ Own rInt 3 μ_ (.slice A8 f3.length c8) f3 ch5 ∧ Own rInt 3 μ_ (.slice A9 f4.length c9) f4 ch6) ?_ ?_
      · refine WP.block (WP.seq_k (fun K9125 hK9125 => Wr Tt_ok rfl (R_move rfl (Pc rfl rfl (R_assign rfl (Pn rfl (hK9125 _ _ _ (WP.seq_k (fun K9126 hK9126 => Wr Tt_ok rfl (R_fa0 (o' := 1) rfl rfl rfl rfl rfl rfl ?_))))))))))
        refine Pc rfl rfl (R_load rfl rfl rfl (Ex.mk _ (Cell.seg 1 0 rfl rfl rfl) (Pc rfl rfl (R_move rfl (Pc rfl rfl (R_sub rfl rfl (Pc rfl rfl (R_move rfl (P_some rfl ?_)))))))))
        refine O_cons (O_read rfl (R_sub rfl rfl (P_some rfl (O_cons (O_bsl (z := [.int .i64 0]) rfl rfl rfl rfl rfl rfl rfl (F_cons (cells' := [.int .i64 (w64 ((w64 (((p1.Demands.length : Nat) : Int) - 1)) - v4))]) rfl rfl rfl rfl (F_nil (fun g4 => P_some rfl (O_cons (O_append rfl ?_))))))))))
        obtain ⟨l1, hz1, h9124⟩ := obind h9124
        refine sem_appR (r := rInt) Tt_ok rfl rfl rfl rfl (by decide) rfl rfl 3 rfl hO1 rfl (Own.rds (L := ([(g4, .cells #[.int .i64 (w64 ((w64 (((p1.Demands.length : Nat) : Int) - 1)) - v4))] 3 (0, 0))] :: [(g1, .cells #[.int .i64 p1.Road.Nodes, .slice A1 p1.Road.Edges.length c1, .slice A2 p1.Vehicles.length c2, .slice A3 p1.Demands.length c3, .int .i64 p1.Unload, .int .i64 p1.UnloadSecs] 28 (0, 0))] :: [(g2, .cells #[.slice none 0 0, .slice A4 f1.length c4] 56 (0, 0))] :: ch1 :: [(g3, .cells #[.slice none 0 0, .slice A5 f2.length c5] 56 (0, 0))] :: ch2 :: L)) (Own.lit (r := rInt) (e := 3) (g := g4) (xs := [w64 ((w64 (((p1.Demands.length : Nat) : Int) - 1)) - v4)]) (cs := [.int .i64 (w64 ((w64 (((p1.Demands.length : Nat) : Int) - 1)) - v4))]) (css := [[.int .i64 (w64 ((w64 (((p1.Demands.length : Nat) : Int) - 1)) - v4))]]) rfl (All2.cons (rfl) (All2.nil)) rfl rfl) 0 rfl) hz1 fun A6 c6 ch3 hO3 => ?_
        refine Pc rfl rfl (R_fa0 (o' := 1) rfl rfl rfl rfl rfl rfl (P_some rfl (O_cons (O_store (vs := [.slice A6 l1.length c6]) rfl rfl rfl rfl rfl rfl (ST_ (L' := ([(g4, .cells #[.int .i64 (w64 ((w64 (((p1.Demands.length : Nat) : Int) - 1)) - v4))] 3 (0, 0))] :: [(g1, .cells #[.int .i64 p1.Road.Nodes, .slice A1 p1.Road.Edges.length c1, .slice A2 p1.Vehicles.length c2, .slice A3 p1.Demands.length c3, .int .i64 p1.Unload, .int .i64 p1.UnloadSecs] 28 (0, 0))] :: [(g2, .cells #[.slice none 0 0, .slice A6 l1.length c6] 56 (0, 0))] :: ch3 :: [(g3, .cells #[.slice none 0 0, .slice A5 f2.length c5] 56 (0, 0))] :: ch2 :: L)) 2 0 rfl rfl rfl rfl (P_none (O_nil (hK9126 _ _ _ (WP.seq_k (fun K9130 hK9130 => Wr Tt_ok rfl (R_move rfl (P_some rfl (O_cons ?_)))))))))))))
        refine O_read rfl (R_move rfl (Pc rfl rfl (R_conv rfl rfl rfl rfl (Pc rfl rfl (R_move rfl (Pc rfl rfl (R_rem rfl rfl ?_)))))))
        obtain ⟨u1, hg1, h9124⟩ := obind h9124
        refine ⟨guardO_some hg1, ?_⟩
        refine Pc rfl rfl (R_neqD rfl rfl (Pn rfl (hK9130 _ _ _ ?_)))
        refine W_cond_v (b := !(decide (v4 = (Int.tmod (w64 (k1)) ((p1.Demands.length : Nat) : Int))))) rfl (fun hc4 => ?_) (fun hc4 => ?_)
        · replace h9124 := cond_t hc4 h9124
          refine Wr Tt_ok rfl (R_fa0 (o' := 1) rfl rfl rfl rfl rfl rfl (Pc rfl rfl (R_load rfl rfl rfl (Ex.mk _ (Cell.seg 4 0 rfl rfl rfl) (Pc rfl rfl (R_move rfl (P_some rfl (O_cons (O_bsl (z := [.int .i64 0]) rfl rfl rfl rfl rfl rfl rfl (F_cons (cells' := [.int .i64 v4]) rfl rfl rfl rfl (F_nil (fun g5 => ?_))))))))))))
          refine P_some rfl (O_cons (O_append rfl ?_))
          obtain ⟨l2, hz2, h9124⟩ := obind h9124
          refine sem_appR (r := rInt) Tt_ok rfl rfl rfl rfl (by decide) rfl rfl 6 rfl hO2 rfl (Own.rds (L := ([(g5, .cells #[.int .i64 v4] 3 (0, 0))] :: [(g4, .cells #[.int .i64 (w64 ((w64 (((p1.Demands.length : Nat) : Int) - 1)) - v4))] 3 (0, 0))] :: [(g1, .cells #[.int .i64 p1.Road.Nodes, .slice A1 p1.Road.Edges.length c1, .slice A2 p1.Vehicles.length c2, .slice A3 p1.Demands.length c3, .int .i64 p1.Unload, .int .i64 p1.UnloadSecs] 28 (0, 0))] :: [(g2, .cells #[.slice none 0 0, .slice A6 l1.length c6] 56 (0, 0))] :: ch3 :: [(g3, .cells #[.slice none 0 0, .slice A5 f2.length c5] 56 (0, 0))] :: ch2 :: L)) (Own.lit (r := rInt) (e := 3) (g := g5) (xs := [v4]) (cs := [.int .i64 v4]) (css := [[.int .i64 v4]]) rfl (All2.cons (rfl) (All2.nil)) rfl rfl) 0 rfl) hz2 fun A7 c7 ch4 hO4 => Pc rfl rfl ?_
          refine R_fa0 (o' := 1) rfl rfl rfl rfl rfl rfl (P_some rfl (O_cons (O_store (vs := [.slice A7 l2.length c7]) rfl rfl rfl rfl rfl rfl (ST_ (L' := ([(g5, .cells #[.int .i64 v4] 3 (0, 0))] :: [(g4, .cells #[.int .i64 (w64 ((w64 (((p1.Demands.length : Nat) : Int) - 1)) - v4))] 3 (0, 0))] :: [(g1, .cells #[.int .i64 p1.Road.Nodes, .slice A1 p1.Road.Edges.length c1, .slice A2 p1.Vehicles.length c2, .slice A3 p1.Demands.length c3, .int .i64 p1.Unload, .int .i64 p1.UnloadSecs] 28 (0, 0))] :: [(g2, .cells #[.slice none 0 0, .slice A6 l1.length c6] 56 (0, 0))] :: ch3 :: [(g3, .cells #[.slice none 0 0, .slice A7 l2.length c7] 56 (0, 0))] :: ch4 :: L)) 5 0 rfl rfl rfl rfl (P_none (O_nil ?_))))))
          have e_ := Option.some.inj h9124
          subst e_
          exact ⟨l1, l2, A6, c6, ch3, A7, c7, ch4, rfl, SubFr.of ⟨rfl, rfl, rfl, rfl, rfl, rfl, rfl, trivial⟩, SegSub.sel _ [some 2, some 3, some 4, some 5, some 6] 7, (hO3), (hO4)⟩
        replace h9124 := cond_f hc4 h9124
        apply WP.skip
        have e_ := Option.some.inj h9124
        subst e_
        exact ⟨l1, f2, A6, c6, ch3, A5, c5, ch2, rfl, SubFr.of ⟨rfl, rfl, rfl, rfl, rfl, rfl, rfl, trivial⟩, SegSub.sel _ [some 1, some 2, some 3, some 4, some 5] 6, (hO3), (hO2)⟩
      rintro fr9124 μ9124 L9124 hm9124 ⟨f3, f4, A8, c8, ch5, A9, c9, ch6, ho9124, hF9124, hS9124, hO5, hO6⟩
      subst ho9124
      replace hb9107 := oun_mk hb9107
      replace hA1 := hA1.mono hm9124
      replace hA2 := hA2.mono hm9124
      replace hA3 := hA3.mono hm9124
      replace hO1 := hO1.mono hm9124
      replace hO2 := hO2.mono hm9124
      refine hK9123 _ _ _ (WP.at hF9124 hS9124 (Wr Tt_ok rfl (R_add rfl rfl (Pc rfl rfl (R_move rfl (Pn rfl ?_))))))
      have e_ := Option.some.inj hb9107
      subst e_
      exact ⟨_, rfl, A8, c8, ch5, A9, c9, ch6, SubFr.of ⟨rfl, rfl, rfl, rfl, rfl, rfl, rfl, trivial⟩, SegSub.sel _ [some 0, some 1, some 2, some 3, some 4] 5, (hO5), (hO6)⟩
    replace hb9107 := cond_f hc3 hb9107
    refine WP.exit (B_here ?_)
    have e_ := Option.some.inj hb9107
    subst e_
    have hq_ := hq9107 _ rfl
    subst hq_
    exact ⟨f1, f2, A4, c4, ch1, A5, c5, ch2, rfl, SubFr.of ⟨rfl, rfl, rfl, rfl, rfl, trivial⟩, SegSub.sel _ [some 0, some 1, some 2, some 3, some 4] 5, (hO1), (hO2)⟩
  rintro fr9073 μ9073 L9073 hm9073 ⟨f5, f6, A10, c10, ch7, A11, c11, ch8, ho9073, hF9073, hS9073, hO7, hO8⟩
  subst ho9073
  replace h := oun_mk h
  replace hA1 := hA1.mono hm9073
  replace hA2 := hA2.mono hm9073
  replace hA3 := hA3.mono hm9073
  refine hK9071 _ _ _ (WP.at hF9073 hS9073 (WP.seq_k (fun K9150 hK9150 => Wr Tt_ok rfl (R_loadA rfl rfl rfl rfl (LA_ (vs := [.int .i64 p1.Road.Nodes, .slice A1 p1.Road.Edges.length c1, .slice A2 p1.Vehicles.length c2, .slice A3 p1.Demands.length c3, .int .i64 p1.Unload, .int .i64 p1.UnloadSecs]) 0 0 rfl rfl rfl rfl (Pc rfl rfl (R_loadA rfl rfl rfl rfl (LA_ (vs := [.slice none 0 0, .slice A10 f5.length c10]) 1 0 rfl rfl rfl rfl (P_some rfl (O_cons (O_call (all := [.agg #[.int .i64 p1.Road.Nodes, .slice A1 p1.Road.Edges.length c1, .slice A2 p1.Vehicles.length c2, .slice A3 p1.Demands.length c3, .int .i64 p1.Unload, .int .i64 p1.UnloadSecs], .agg #[.slice none 0 0, .slice A10 f5.length c10]]) rfl rfl rfl ?_)))))))))))
  have hl4 := Own.lenOk hO7
  refine Fn.pre Try.func23 (by kernel_rfl) rfl (Upd.frzOwn 2 rfl hO7 fun v5 hm_3 hA4 => Upd.done ?_)
  replace hA1 := hA1.mono hm_3
  replace hA2 := hA2.mono hm_3
  replace hA3 := hA3.mono hm_3
  replace hO7 := hO7.mono hm_3
  replace hO8 := hO8.mono hm_3
  obtain ⟨⟨r4, r5⟩, hx4, h⟩ := obind h
  replace h := oun_mk h
  refine tour_Total_fn hl1 hA1 hl2 hA2 hl3 hA3 ⟨Nat.le_refl _, Nat.zero_le _⟩ ArrR.nil hl4 hA4 hx4 (fun v6 hm_4 => ?_)
  replace hA1 := hA1.mono hm_4
  replace hA2 := hA2.mono hm_4
  replace hA3 := hA3.mono hm_4
  replace hO7 := hO7.mono hm_4
  replace hO8 := hO8.mono hm_4
  replace hA4 := hA4.mono hm_4
  refine Pc rfl rfl (R_move rfl (Pc rfl rfl (R_ext rfl rfl (Pc rfl rfl (R_ext rfl rfl (Pc rfl rfl (R_assign rfl (P_some rfl (O_cons ?_)))))))))
  refine O_read rfl (R_assign rfl (Pn rfl (hK9150 _ _ _ (WP.seq_k (fun K9156 hK9156 => WP.seq_k (fun K9157 hK9157 => ?_))))))
  obtain ⟨o9158, h9158, h⟩ := obind h
  refine WP.cutK (fun fr_ μ_ L_ => ∃ (v8 : Bool), v8 = o9158 ∧ SubFr [(1, .int .u8 k1), (2, .pointer (some ⟨g1, 0, none⟩)), (5, .pointer (some ⟨g2, 0, none⟩)), (6, .pointer (some ⟨g3, 0, none⟩)), (7, .int .i64 ((p1.Demands.length : Nat) : Int)), (66, .bool v8)] fr_ ∧ SegSub ([(g1, .cells #[.int .i64 p1.Road.Nodes, .slice A1 p1.Road.Edges.length c1, .slice A2 p1.Vehicles.length c2, .slice A3 p1.Demands.length c3, .int .i64 p1.Unload, .int .i64 p1.UnloadSecs] 28 (0, 0))] :: [(g2, .cells #[.slice none 0 0, .slice A10 f5.length c10] 56 (0, 0))] :: [(g3, .cells #[.slice none 0 0, .slice A11 f6.length c11] 56 (0, 0))] :: ch8 :: L) L_) ?_ ?_
  · refine Wr Tt_ok rfl (R_move rfl (Pc rfl rfl (R_neqD rfl rfl (Pc rfl rfl (R_move rfl (P_some rfl ?_))))))
    refine O_gv (z := !(decide (r4 = 0))) rfl rfl (fun hc5 => ?_) (fun hc5 => ?_)
    · replace h9158 := cond_f hc5 h9158
      refine O_read rfl (R_move rfl (P_some rfl (O_gY rfl rfl hc5 (O_read rfl (R_neqD rfl rfl (Pc rfl rfl (R_pick_F rfl hc5 rfl (Pc rfl rfl (R_move rfl (P_some rfl ?_))))))))))
      refine O_gv (z := !(decide (r5 = 0))) rfl rfl (fun hc6 => ?_) (fun hc6 => ?_)
      · replace h9158 := cond_f hc6 h9158
        refine O_read rfl (R_loadA rfl rfl rfl rfl (LA_ (vs := [.int .i64 p1.Road.Nodes, .slice A1 p1.Road.Edges.length c1, .slice A2 p1.Vehicles.length c2, .slice A3 p1.Demands.length c3, .int .i64 p1.Unload, .int .i64 p1.UnloadSecs]) 0 0 rfl rfl rfl rfl (P_some rfl (O_gY rfl rfl hc6 (O_read rfl (R_loadA rfl rfl rfl rfl (LA_ (vs := [.slice none 0 0, .slice A10 f5.length c10]) 1 0 rfl rfl rfl rfl (P_some rfl (O_gY rfl rfl hc6 (O_call (all := [.agg #[.int .i64 p1.Road.Nodes, .slice A1 p1.Road.Edges.length c1, .slice A2 p1.Vehicles.length c2, .slice A3 p1.Demands.length c3, .int .i64 p1.Unload, .int .i64 p1.UnloadSecs], .agg #[.slice none 0 0, .slice A10 f5.length c10]]) rfl rfl rfl ?_))))))))))
        obtain ⟨r6, hx5, h9158⟩ := obind h9158
        refine tour_Feasible_fn hl1 hA1 hl2 hA2 hl3 hA3 ⟨Nat.le_refl _, Nat.zero_le _⟩ ArrR.nil hl4 hA4 hx5 (fun v7 hm_5 => ?_)
        replace hA1 := hA1.mono hm_5
        replace hA2 := hA2.mono hm_5
        replace hA3 := hA3.mono hm_5
        replace hO7 := hO7.mono hm_5
        replace hO8 := hO8.mono hm_5
        replace hA4 := hA4.mono hm_5
        refine P_some rfl (O_gY rfl rfl hc6 (O_read rfl (R_neqD rfl rfl (Pc rfl rfl (R_pick_F rfl hc6 rfl (Pn rfl ?_))))))
        have e_ := Option.some.inj h9158
        subst e_
        exact ⟨!(decide (r6 = 0)), rfl, SubFr.of ⟨rfl, rfl, rfl, rfl, rfl, rfl, trivial⟩, SegSub.sel _ [some 0, some 1, some 3, some 4] 5⟩
      replace h9158 := cond_t hc6 h9158
      refine P_some rfl (O_gN rfl rfl hc6 (P_some rfl (O_gN rfl rfl hc6 (P_some rfl (O_gN rfl rfl hc6 (Pc rfl rfl (R_pick_T rfl hc6 rfl (Pn rfl ?_))))))))
      have e_ := Option.some.inj h9158
      subst e_
      exact ⟨true, rfl, SubFr.of ⟨rfl, rfl, rfl, rfl, rfl, rfl, trivial⟩, SegSub.sel _ [some 0, some 1, some 3, some 4] 5⟩
    replace h9158 := cond_t hc5 h9158
    refine P_some rfl (O_gN rfl rfl hc5 (Pc rfl rfl (R_pick_T rfl hc5 rfl (Pc rfl rfl (R_move rfl (P_some rfl (O_gN rfl rfl rfl (P_some rfl (O_gN rfl rfl rfl (P_some rfl (O_gN rfl rfl rfl (P_some rfl (O_gN rfl rfl rfl ?_)))))))))))))
    refine Pc rfl rfl (R_pick_T rfl rfl rfl (Pn rfl ?_))
    have e_ := Option.some.inj h9158
    subst e_
    exact ⟨true, rfl, SubFr.of ⟨rfl, rfl, rfl, rfl, rfl, rfl, trivial⟩, SegSub.sel _ [some 0, some 1, some 3, some 4] 5⟩
  rintro fr9158 μ9158 L9158 hm9158 ⟨v8, ho9158, hF9158, hS9158⟩
  subst ho9158
  replace hA1 := hA1.mono hm9158
  replace hA2 := hA2.mono hm9158
  replace hA3 := hA3.mono hm9158
  replace hO7 := hO7.mono hm9158
  replace hO8 := hO8.mono hm9158
  replace hA4 := hA4.mono hm9158
  refine hK9157 _ _ _ (WP.at hF9158 hS9158 ?_)
  refine W_cond_v (b := v8) rfl (fun hc7 => ?_) (fun hc7 => ?_)
  · replace h := cond_t hc7 h
    refine WP.seq_k (fun K9165 hK9165 => Wr Tt_ok rfl (R_assign rfl (Pn rfl (hK9165 _ _ _ (WP.ret ?_)))))
    have e_ := Option.some.inj h
    subst e_
    refine S_tmp rfl (S_nil (Upd.selS [] 4 ?_))
    exact Upd.done (hR _ (Gh.le.trans hm9059 (Gh.le.trans hm9073 (Gh.le.trans hm_3 (Gh.le.trans hm_4 (hm9158))))))
  replace h := cond_f hc7 h
  refine WP.skip (hK9156 _ _ _ (WP.seq_k (fun K9166 hK9166 => WP.seq_k (fun K9167 hK9167 => Wr Tt_ok rfl (R_move rfl (Pc rfl rfl (R_eqlD rfl rfl (Pn rfl (hK9167 _ _ _ ?_)))))))))
  refine W_cond_v (b := (decide (((p1.Demands.length : Nat) : Int) = 0))) rfl (fun hc8 => ?_) (fun hc8 => ?_)
  · replace h := cond_t hc8 h
    refine WP.seq_k (fun K9168 hK9168 => WP.region Tt_ok (O_cons (O_call (all := []) rfl rfl rfl ?_)))
    obtain ⟨r7, hx6, h⟩ := obind h
    refine recyclinglaw22_awake_fn  hx6 (fun v9 hm_6 => ?_)
    replace hA1 := hA1.mono hm_6
    replace hA2 := hA2.mono hm_6
    replace hA3 := hA3.mono hm_6
    replace hO7 := hO7.mono hm_6
    replace hO8 := hO8.mono hm_6
    replace hA4 := hA4.mono hm_6
    refine Pc rfl rfl (R_assign rfl (Pn rfl (hK9168 _ _ _ (WP.ret ?_))))
    have e_ := Option.some.inj h
    subst e_
    refine S_tmp rfl (S_nil (Upd.selS [] 4 ?_))
    exact Upd.done (hR _ (Gh.le.trans hm9059 (Gh.le.trans hm9073 (Gh.le.trans hm_3 (Gh.le.trans hm_4 (Gh.le.trans hm9158 (hm_6)))))))
  replace h := cond_f hc8 h
  refine WP.skip (hK9166 _ _ _ (WP.seq_k (fun K9169 hK9169 => ?_)))
  obtain ⟨o9320, h9320, h⟩ := obind h
  refine WP.cutK (fun fr_ μ_ L_ => ∃ (f7 : (List Int)) (g9 : Nat) (A14 : Option Addr) (c14 : Nat) (ch11 : Seg), f7 = o9320 ∧ SubFr [(2, .pointer (some ⟨g1, 0, none⟩)), (6, .pointer (some ⟨g3, 0, none⟩)), (11, .pointer (some ⟨g9, 0, none⟩))] fr_ ∧ SegSub ([(g1, .cells #[.int .i64 p1.Road.Nodes, .slice A1 p1.Road.Edges.length c1, .slice A2 p1.Vehicles.length c2, .slice A3 p1.Demands.length c3, .int .i64 p1.Unload, .int .i64 p1.UnloadSecs] 28 (0, 0))] :: [(g3, .cells #[.slice none 0 0, .slice A11 f6.length c11] 56 (0, 0))] :: ch8 :: [(g9, .cells #[.slice none 0 0, .slice A14 f7.length c14] 56 (0, 0))] :: ch11 :: L) L_ ∧ Own rInt 3 μ_ (.slice A14 f7.length c14) f7 ch11) ?_ ?_
  · refine WP.draw (id := 17) wide _ Kept.refl rfl (AN.run (fuel := 7) (listed' := [false, true, true, false, true, true, true, true, false, false, false, false, false]) Tt_ok [(true, 1), (true, 2), (true, 4), (true, 5), (true, 6), (true, 7)] (by kernel_rfl) (by kernel_rfl) rfl (PL_t rfl (R_fa0 (o' := 1) rfl rfl rfl rfl rfl rfl (Pt rfl rfl (R_load rfl rfl rfl (Ex.mk _ (Cell.seg 1 0 rfl rfl rfl) (Pt rfl rfl (R_move rfl (Pt rfl rfl (R_conv rfl rfl rfl rfl (Pt rfl rfl (R_move rfl (P_some rfl ?_)))))))))))))
    refine PL_t rfl (R_rem rfl rfl ?_)
    obtain ⟨u2, hg2, h9320⟩ := obind h9320
    refine ⟨guardO_some hg2, ?_⟩
    refine P_some rfl (PL_nil ?_)
    refine FK_3 Tt_ok (a := 0) (b := 8) (c := 11) (by kernel_rfl) ?_ ?_ ?_
    · refine FO_ rfl rfl (O_bsl (z := []) rfl rfl rfl rfl rfl rfl rfl (F_nil (fun g6 => ?_)))
      refine ⟨Kept.more (Kept.refl), ?_⟩
      apply P_some; exact rfl
      refine FK_3 Tt_ok (a := 3) (b := 8) (c := 11) (by kernel_rfl) ?_ ?_ ?_
      · refine FO_ rfl rfl (O_append rfl ?_)
        obtain ⟨l3, hz3, h9320⟩ := obind h9320
        refine sem_appR (r := rInt) Tt_ok rfl rfl rfl rfl (by decide) rfl rfl 0 rfl (Own.empty (r := rInt) (e := 3) (g := g6)) rfl (ArrR.rds hA4 ([(g6, .cells #[] 3 (0, 0))] :: [(g1, .cells #[.int .i64 p1.Road.Nodes, .slice A1 p1.Road.Edges.length c1, .slice A2 p1.Vehicles.length c2, .slice A3 p1.Demands.length c3, .int .i64 p1.Unload, .int .i64 p1.UnloadSecs] 28 (0, 0))] :: [(g2, .cells #[.slice none 0 0, .slice A10 f5.length c10] 56 (0, 0))] :: [(g3, .cells #[.slice none 0 0, .slice A11 f6.length c11] 56 (0, 0))] :: ch8 :: L)) hz3 fun A12 c12 ch9 hO9 => ?_
        refine ⟨Kept.more (Kept.refl), ?_⟩
        apply P_some; exact rfl
        refine FK_2 Tt_ok (a := 8) (b := 11) (by kernel_rfl) ?_ ?_
        · refine FO_ rfl rfl (O_bsl (z := [.int .i64 0]) rfl rfl rfl rfl rfl rfl rfl (F_cons (cells' := [.int .i64 (Int.tmod (w64 (k1)) ((p1.Demands.length : Nat) : Int))]) rfl rfl rfl rfl (F_nil (fun g7 => ?_))))
          refine ⟨Kept.more (Kept.more (Kept.refl)), ?_⟩
          apply P_some; exact rfl
          refine FK_2 Tt_ok (a := 9) (b := 11) (by kernel_rfl) ?_ ?_
          · refine FO_ rfl rfl (O_append rfl ?_)
            obtain ⟨l4, hz4, h9320⟩ := obind h9320
            refine sem_appR (r := rInt) Tt_ok rfl rfl rfl rfl (by decide) rfl rfl 1 rfl hO9 rfl (Own.rds (L := ([(g7, .cells #[.int .i64 (Int.tmod (w64 (k1)) ((p1.Demands.length : Nat) : Int))] 3 (0, 0))] :: ch9 :: [(g1, .cells #[.int .i64 p1.Road.Nodes, .slice A1 p1.Road.Edges.length c1, .slice A2 p1.Vehicles.length c2, .slice A3 p1.Demands.length c3, .int .i64 p1.Unload, .int .i64 p1.UnloadSecs] 28 (0, 0))] :: [(g2, .cells #[.slice none 0 0, .slice A10 f5.length c10] 56 (0, 0))] :: [(g3, .cells #[.slice none 0 0, .slice A11 f6.length c11] 56 (0, 0))] :: ch8 :: L)) (Own.lit (r := rInt) (e := 3) (g := g7) (xs := [Int.tmod (w64 (k1)) ((p1.Demands.length : Nat) : Int)]) (cs := [.int .i64 (Int.tmod (w64 (k1)) ((p1.Demands.length : Nat) : Int))]) (css := [[.int .i64 (Int.tmod (w64 (k1)) ((p1.Demands.length : Nat) : Int))]]) rfl (All2.cons (rfl) (All2.nil)) rfl rfl) 0 rfl) hz4 fun A13 c13 ch10 hO10 => ?_
            refine ⟨Kept.more (Kept.more (Kept.refl)), ?_⟩
            refine P_some rfl (AN.run (fuel := 0) (listed' := [true, true, true, true, true, true, true, true, true, true, true, true, true]) Tt_ok [(true, 10), (false, 11), (false, 12)] (by kernel_rfl) (by kernel_rfl) rfl (PL_t rfl (R_build rfl rfl rfl rfl (F_cons (cells' := [.slice none 0 0, .slice A13 l4.length c13]) rfl rfl rfl rfl (F_nil (P_some rfl (PL_f rfl (O_alloc (cs := #[.slice none 0 0, .slice none 0 0]) rfl rfl (fun g8 => ?_)))))))))
            refine ⟨Kept.more (Kept.more (Kept.more (Kept.refl))), ?_⟩
            refine P_some rfl (PL_f rfl (O_store (vs := [.slice none 0 0, .slice A13 l4.length c13]) rfl rfl rfl rfl rfl rfl (ST_ (L' := ([(g8, .cells #[.slice none 0 0, .slice A13 l4.length c13] 56 (0, 0))] :: [(g7, .cells #[.int .i64 (Int.tmod (w64 (k1)) ((p1.Demands.length : Nat) : Int))] 3 (0, 0))] :: ch10 :: [(g1, .cells #[.int .i64 p1.Road.Nodes, .slice A1 p1.Road.Edges.length c1, .slice A2 p1.Vehicles.length c2, .slice A3 p1.Demands.length c3, .int .i64 p1.Unload, .int .i64 p1.UnloadSecs] 28 (0, 0))] :: [(g2, .cells #[.slice none 0 0, .slice A10 f5.length c10] 56 (0, 0))] :: [(g3, .cells #[.slice none 0 0, .slice A11 f6.length c11] 56 (0, 0))] :: ch8 :: L)) 0 0 rfl rfl rfl rfl ?_)))
            refine ⟨Kept.more (Kept.more (Kept.more (Kept.refl))), ?_⟩
            refine P_none (PL_nil (AN.done0 (by kernel_rfl) ?_))
            have e_ := Option.some.inj h9320
            subst e_
            exact ⟨l4, g8, A13, c13, ch10, rfl, SubFr.of ⟨rfl, rfl, rfl, trivial⟩, SegSub.sel _ [some 3, some 5, some 6, some 0, some 2] 7, (hO10)⟩
          obtain ⟨l4, hz4, h9320⟩ := obind h9320
          refine FO_ rfl rfl (O_alloc (cs := #[.slice none 0 0, .slice none 0 0]) rfl rfl (fun g8 => ?_))
          refine ⟨Kept.more (Kept.more (Kept.more (Kept.refl))), ?_⟩
          refine P_some rfl (AN.run (fuel := 0) (listed' := [true, true, true, true, true, true, true, true, true, true, true, true, true]) Tt_ok [(false, 9), (true, 10), (false, 12)] (by kernel_rfl) (by kernel_rfl) rfl (PL_f rfl (O_append rfl (sem_appR (r := rInt) Tt_ok rfl rfl rfl rfl (by decide) rfl rfl 2 rfl hO9 rfl (Own.rds (L := ([(g8, .cells #[.slice none 0 0, .slice none 0 0] 56 (0, 0))] :: [(g7, .cells #[.int .i64 (Int.tmod (w64 (k1)) ((p1.Demands.length : Nat) : Int))] 3 (0, 0))] :: ch9 :: [(g1, .cells #[.int .i64 p1.Road.Nodes, .slice A1 p1.Road.Edges.length c1, .slice A2 p1.Vehicles.length c2, .slice A3 p1.Demands.length c3, .int .i64 p1.Unload, .int .i64 p1.UnloadSecs] 28 (0, 0))] :: [(g2, .cells #[.slice none 0 0, .slice A10 f5.length c10] 56 (0, 0))] :: [(g3, .cells #[.slice none 0 0, .slice A11 f6.length c11] 56 (0, 0))] :: ch8 :: L)) (Own.lit (r := rInt) (e := 3) (g := g7) (xs := [Int.tmod (w64 (k1)) ((p1.Demands.length : Nat) : Int)]) (cs := [.int .i64 (Int.tmod (w64 (k1)) ((p1.Demands.length : Nat) : Int))]) (css := [[.int .i64 (Int.tmod (w64 (k1)) ((p1.Demands.length : Nat) : Int))]]) rfl (All2.cons (rfl) (All2.nil)) rfl rfl) 1 rfl) hz4 fun A13 c13 ch10 hO10 => ?_))))
          refine ⟨Kept.more (Kept.more (Kept.more (Kept.refl))), ?_⟩
          refine Pt rfl rfl (R_build rfl rfl rfl rfl (F_cons (cells' := [.slice none 0 0, .slice A13 l4.length c13]) rfl rfl rfl rfl (F_nil (P_some rfl (PL_f rfl (O_store (vs := [.slice none 0 0, .slice A13 l4.length c13]) rfl rfl rfl rfl rfl rfl (ST_ (L' := ([(g8, .cells #[.slice none 0 0, .slice A13 l4.length c13] 56 (0, 0))] :: [(g7, .cells #[.int .i64 (Int.tmod (w64 (k1)) ((p1.Demands.length : Nat) : Int))] 3 (0, 0))] :: ch10 :: [(g1, .cells #[.int .i64 p1.Road.Nodes, .slice A1 p1.Road.Edges.length c1, .slice A2 p1.Vehicles.length c2, .slice A3 p1.Demands.length c3, .int .i64 p1.Unload, .int .i64 p1.UnloadSecs] 28 (0, 0))] :: [(g2, .cells #[.slice none 0 0, .slice A10 f5.length c10] 56 (0, 0))] :: [(g3, .cells #[.slice none 0 0, .slice A11 f6.length c11] 56 (0, 0))] :: ch8 :: L)) 0 0 rfl rfl rfl rfl ?_)))))))
          refine ⟨Kept.more (Kept.more (Kept.more (Kept.refl))), ?_⟩
          refine P_none (PL_nil (AN.done0 (by kernel_rfl) ?_))
          have e_ := Option.some.inj h9320
          subst e_
          exact ⟨l4, g8, A13, c13, ch10, rfl, SubFr.of ⟨rfl, rfl, rfl, trivial⟩, SegSub.sel _ [some 3, some 5, some 6, some 0, some 2] 7, (hO10)⟩
        obtain ⟨l4, hz4, h9320⟩ := obind h9320
        refine FO_ rfl rfl (O_alloc (cs := #[.slice none 0 0, .slice none 0 0]) rfl rfl (fun g8 => ?_))
        refine ⟨Kept.more (Kept.more (Kept.refl)), ?_⟩
        refine P_some rfl (AN.run (fuel := 0) (listed' := [true, true, true, true, true, true, true, true, true, true, true, true, true]) Tt_ok [(false, 8), (false, 9), (true, 10), (false, 12)] (by kernel_rfl) (by kernel_rfl) rfl (PL_f rfl (O_bsl (z := [.int .i64 0]) rfl rfl rfl rfl rfl rfl rfl (F_cons (cells' := [.int .i64 (Int.tmod (w64 (k1)) ((p1.Demands.length : Nat) : Int))]) rfl rfl rfl rfl (F_nil (fun g7 => ?_))))))
        refine ⟨Kept.more (Kept.more (Kept.more (Kept.refl))), ?_⟩
        refine P_some rfl (PL_f rfl (O_append rfl (sem_appR (r := rInt) Tt_ok rfl rfl rfl rfl (by decide) rfl rfl 2 rfl hO9 rfl (Own.rds (L := ([(g7, .cells #[.int .i64 (Int.tmod (w64 (k1)) ((p1.Demands.length : Nat) : Int))] 3 (0, 0))] :: [(g8, .cells #[.slice none 0 0, .slice none 0 0] 56 (0, 0))] :: ch9 :: [(g1, .cells #[.int .i64 p1.Road.Nodes, .slice A1 p1.Road.Edges.length c1, .slice A2 p1.Vehicles.length c2, .slice A3 p1.Demands.length c3, .int .i64 p1.Unload, .int .i64 p1.UnloadSecs] 28 (0, 0))] :: [(g2, .cells #[.slice none 0 0, .slice A10 f5.length c10] 56 (0, 0))] :: [(g3, .cells #[.slice none 0 0, .slice A11 f6.length c11] 56 (0, 0))] :: ch8 :: L)) (Own.lit (r := rInt) (e := 3) (g := g7) (xs := [Int.tmod (w64 (k1)) ((p1.Demands.length : Nat) : Int)]) (cs := [.int .i64 (Int.tmod (w64 (k1)) ((p1.Demands.length : Nat) : Int))]) (css := [[.int .i64 (Int.tmod (w64 (k1)) ((p1.Demands.length : Nat) : Int))]]) rfl (All2.cons (rfl) (All2.nil)) rfl rfl) 0 rfl) hz4 fun A13 c13 ch10 hO10 => ?_)))
        refine ⟨Kept.more (Kept.more (Kept.more (Kept.refl))), ?_⟩
        refine Pt rfl rfl (R_build rfl rfl rfl rfl (F_cons (cells' := [.slice none 0 0, .slice A13 l4.length c13]) rfl rfl rfl rfl (F_nil (P_some rfl (PL_f rfl (O_store (vs := [.slice none 0 0, .slice A13 l4.length c13]) rfl rfl rfl rfl rfl rfl (ST_ (L' := ([(g7, .cells #[.int .i64 (Int.tmod (w64 (k1)) ((p1.Demands.length : Nat) : Int))] 3 (0, 0))] :: [(g8, .cells #[.slice none 0 0, .slice A13 l4.length c13] 56 (0, 0))] :: ch10 :: [(g1, .cells #[.int .i64 p1.Road.Nodes, .slice A1 p1.Road.Edges.length c1, .slice A2 p1.Vehicles.length c2, .slice A3 p1.Demands.length c3, .int .i64 p1.Unload, .int .i64 p1.UnloadSecs] 28 (0, 0))] :: [(g2, .cells #[.slice none 0 0, .slice A10 f5.length c10] 56 (0, 0))] :: [(g3, .cells #[.slice none 0 0, .slice A11 f6.length c11] 56 (0, 0))] :: ch8 :: L)) 1 0 rfl rfl rfl rfl ?_)))))))
        refine ⟨Kept.more (Kept.more (Kept.more (Kept.refl))), ?_⟩
        refine P_none (PL_nil (AN.done0 (by kernel_rfl) ?_))
        have e_ := Option.some.inj h9320
        subst e_
        exact ⟨l4, g8, A13, c13, ch10, rfl, SubFr.of ⟨rfl, rfl, rfl, trivial⟩, SegSub.sel _ [some 3, some 5, some 6, some 1, some 2] 7, (hO10)⟩
      · obtain ⟨l3, hz3, h9320⟩ := obind h9320
        obtain ⟨l4, hz4, h9320⟩ := obind h9320
        refine FO_ rfl rfl (O_bsl (z := [.int .i64 0]) rfl rfl rfl rfl rfl rfl rfl (F_cons (cells' := [.int .i64 (Int.tmod (w64 (k1)) ((p1.Demands.length : Nat) : Int))]) rfl rfl rfl rfl (F_nil (fun g7 => ?_))))
        refine ⟨Kept.more (Kept.more (Kept.refl)), ?_⟩
        apply P_some; exact rfl
        refine FK_2 Tt_ok (a := 3) (b := 11) (by kernel_rfl) ?_ ?_
        · refine FO_ rfl rfl (O_append rfl (sem_appR (r := rInt) Tt_ok rfl rfl rfl rfl (by decide) rfl rfl 1 rfl (Own.empty (r := rInt) (e := 3) (g := g6)) rfl (ArrR.rds hA4 ([(g7, .cells #[.int .i64 (Int.tmod (w64 (k1)) ((p1.Demands.length : Nat) : Int))] 3 (0, 0))] :: [(g6, .cells #[] 3 (0, 0))] :: [(g1, .cells #[.int .i64 p1.Road.Nodes, .slice A1 p1.Road.Edges.length c1, .slice A2 p1.Vehicles.length c2, .slice A3 p1.Demands.length c3, .int .i64 p1.Unload, .int .i64 p1.UnloadSecs] 28 (0, 0))] :: [(g2, .cells #[.slice none 0 0, .slice A10 f5.length c10] 56 (0, 0))] :: [(g3, .cells #[.slice none 0 0, .slice A11 f6.length c11] 56 (0, 0))] :: ch8 :: L)) hz3 fun A12 c12 ch9 hO9 => ?_))
          refine ⟨Kept.more (Kept.more (Kept.refl)), ?_⟩
          apply P_some; exact rfl
          refine FK_2 Tt_ok (a := 9) (b := 11) (by kernel_rfl) ?_ ?_
          · refine FO_ rfl rfl (O_append rfl (sem_appR (r := rInt) Tt_ok rfl rfl rfl rfl (by decide) rfl rfl 1 rfl hO9 rfl (Own.rds (L := ([(g7, .cells #[.int .i64 (Int.tmod (w64 (k1)) ((p1.Demands.length : Nat) : Int))] 3 (0, 0))] :: ch9 :: [(g1, .cells #[.int .i64 p1.Road.Nodes, .slice A1 p1.Road.Edges.length c1, .slice A2 p1.Vehicles.length c2, .slice A3 p1.Demands.length c3, .int .i64 p1.Unload, .int .i64 p1.UnloadSecs] 28 (0, 0))] :: [(g2, .cells #[.slice none 0 0, .slice A10 f5.length c10] 56 (0, 0))] :: [(g3, .cells #[.slice none 0 0, .slice A11 f6.length c11] 56 (0, 0))] :: ch8 :: L)) (Own.lit (r := rInt) (e := 3) (g := g7) (xs := [Int.tmod (w64 (k1)) ((p1.Demands.length : Nat) : Int)]) (cs := [.int .i64 (Int.tmod (w64 (k1)) ((p1.Demands.length : Nat) : Int))]) (css := [[.int .i64 (Int.tmod (w64 (k1)) ((p1.Demands.length : Nat) : Int))]]) rfl (All2.cons (rfl) (All2.nil)) rfl rfl) 0 rfl) hz4 fun A13 c13 ch10 hO10 => ?_))
            refine ⟨Kept.more (Kept.more (Kept.refl)), ?_⟩
            refine P_some rfl (AN.run (fuel := 0) (listed' := [true, true, true, true, true, true, true, true, true, true, true, true, true]) Tt_ok [(true, 10), (false, 11), (false, 12)] (by kernel_rfl) (by kernel_rfl) rfl (PL_t rfl (R_build rfl rfl rfl rfl (F_cons (cells' := [.slice none 0 0, .slice A13 l4.length c13]) rfl rfl rfl rfl (F_nil (P_some rfl (PL_f rfl (O_alloc (cs := #[.slice none 0 0, .slice none 0 0]) rfl rfl (fun g8 => ?_)))))))))
            refine ⟨Kept.more (Kept.more (Kept.more (Kept.refl))), ?_⟩
            refine P_some rfl (PL_f rfl (O_store (vs := [.slice none 0 0, .slice A13 l4.length c13]) rfl rfl rfl rfl rfl rfl (ST_ (L' := ([(g8, .cells #[.slice none 0 0, .slice A13 l4.length c13] 56 (0, 0))] :: [(g7, .cells #[.int .i64 (Int.tmod (w64 (k1)) ((p1.Demands.length : Nat) : Int))] 3 (0, 0))] :: ch10 :: [(g1, .cells #[.int .i64 p1.Road.Nodes, .slice A1 p1.Road.Edges.length c1, .slice A2 p1.Vehicles.length c2, .slice A3 p1.Demands.length c3, .int .i64 p1.Unload, .int .i64 p1.UnloadSecs] 28 (0, 0))] :: [(g2, .cells #[.slice none 0 0, .slice A10 f5.length c10] 56 (0, 0))] :: [(g3, .cells #[.slice none 0 0, .slice A11 f6.length c11] 56 (0, 0))] :: ch8 :: L)) 0 0 rfl rfl rfl rfl ?_)))
            refine ⟨Kept.more (Kept.more (Kept.more (Kept.refl))), ?_⟩
            refine P_none (PL_nil (AN.done0 (by kernel_rfl) ?_))
            have e_ := Option.some.inj h9320
            subst e_
            exact ⟨l4, g8, A13, c13, ch10, rfl, SubFr.of ⟨rfl, rfl, rfl, trivial⟩, SegSub.sel _ [some 3, some 5, some 6, some 0, some 2] 7, (hO10)⟩
          refine FO_ rfl rfl (O_alloc (cs := #[.slice none 0 0, .slice none 0 0]) rfl rfl (fun g8 => ?_))
          refine ⟨Kept.more (Kept.more (Kept.more (Kept.refl))), ?_⟩
          refine P_some rfl (AN.run (fuel := 0) (listed' := [true, true, true, true, true, true, true, true, true, true, true, true, true]) Tt_ok [(false, 9), (true, 10), (false, 12)] (by kernel_rfl) (by kernel_rfl) rfl (PL_f rfl (O_append rfl (sem_appR (r := rInt) Tt_ok rfl rfl rfl rfl (by decide) rfl rfl 2 rfl hO9 rfl (Own.rds (L := ([(g8, .cells #[.slice none 0 0, .slice none 0 0] 56 (0, 0))] :: [(g7, .cells #[.int .i64 (Int.tmod (w64 (k1)) ((p1.Demands.length : Nat) : Int))] 3 (0, 0))] :: ch9 :: [(g1, .cells #[.int .i64 p1.Road.Nodes, .slice A1 p1.Road.Edges.length c1, .slice A2 p1.Vehicles.length c2, .slice A3 p1.Demands.length c3, .int .i64 p1.Unload, .int .i64 p1.UnloadSecs] 28 (0, 0))] :: [(g2, .cells #[.slice none 0 0, .slice A10 f5.length c10] 56 (0, 0))] :: [(g3, .cells #[.slice none 0 0, .slice A11 f6.length c11] 56 (0, 0))] :: ch8 :: L)) (Own.lit (r := rInt) (e := 3) (g := g7) (xs := [Int.tmod (w64 (k1)) ((p1.Demands.length : Nat) : Int)]) (cs := [.int .i64 (Int.tmod (w64 (k1)) ((p1.Demands.length : Nat) : Int))]) (css := [[.int .i64 (Int.tmod (w64 (k1)) ((p1.Demands.length : Nat) : Int))]]) rfl (All2.cons (rfl) (All2.nil)) rfl rfl) 1 rfl) hz4 fun A13 c13 ch10 hO10 => ?_))))
          refine ⟨Kept.more (Kept.more (Kept.more (Kept.refl))), ?_⟩
          refine Pt rfl rfl (R_build rfl rfl rfl rfl (F_cons (cells' := [.slice none 0 0, .slice A13 l4.length c13]) rfl rfl rfl rfl (F_nil (P_some rfl (PL_f rfl (O_store (vs := [.slice none 0 0, .slice A13 l4.length c13]) rfl rfl rfl rfl rfl rfl (ST_ (L' := ([(g8, .cells #[.slice none 0 0, .slice A13 l4.length c13] 56 (0, 0))] :: [(g7, .cells #[.int .i64 (Int.tmod (w64 (k1)) ((p1.Demands.length : Nat) : Int))] 3 (0, 0))] :: ch10 :: [(g1, .cells #[.int .i64 p1.Road.Nodes, .slice A1 p1.Road.Edges.length c1, .slice A2 p1.Vehicles.length c2, .slice A3 p1.Demands.length c3, .int .i64 p1.Unload, .int .i64 p1.UnloadSecs] 28 (0, 0))] :: [(g2, .cells #[.slice none 0 0, .slice A10 f5.length c10] 56 (0, 0))] :: [(g3, .cells #[.slice none 0 0, .slice A11 f6.length c11] 56 (0, 0))] :: ch8 :: L)) 0 0 rfl rfl rfl rfl ?_)))))))
          refine ⟨Kept.more (Kept.more (Kept.more (Kept.refl))), ?_⟩
          refine P_none (PL_nil (AN.done0 (by kernel_rfl) ?_))
          have e_ := Option.some.inj h9320
          subst e_
          exact ⟨l4, g8, A13, c13, ch10, rfl, SubFr.of ⟨rfl, rfl, rfl, trivial⟩, SegSub.sel _ [some 3, some 5, some 6, some 0, some 2] 7, (hO10)⟩
        refine FO_ rfl rfl (O_alloc (cs := #[.slice none 0 0, .slice none 0 0]) rfl rfl (fun g8 => ?_))
        refine ⟨Kept.more (Kept.more (Kept.more (Kept.refl))), ?_⟩
        refine P_some rfl (AN.run (fuel := 0) (listed' := [true, true, true, true, true, true, true, true, true, true, true, true, true]) Tt_ok [(false, 3), (false, 9), (true, 10), (false, 12)] (by kernel_rfl) (by kernel_rfl) rfl (PL_f rfl (O_append rfl (sem_appR (r := rInt) Tt_ok rfl rfl rfl rfl (by decide) rfl rfl 2 rfl (Own.empty (r := rInt) (e := 3) (g := g6)) rfl (ArrR.rds hA4 ([(g8, .cells #[.slice none 0 0, .slice none 0 0] 56 (0, 0))] :: [(g7, .cells #[.int .i64 (Int.tmod (w64 (k1)) ((p1.Demands.length : Nat) : Int))] 3 (0, 0))] :: [(g6, .cells #[] 3 (0, 0))] :: [(g1, .cells #[.int .i64 p1.Road.Nodes, .slice A1 p1.Road.Edges.length c1, .slice A2 p1.Vehicles.length c2, .slice A3 p1.Demands.length c3, .int .i64 p1.Unload, .int .i64 p1.UnloadSecs] 28 (0, 0))] :: [(g2, .cells #[.slice none 0 0, .slice A10 f5.length c10] 56 (0, 0))] :: [(g3, .cells #[.slice none 0 0, .slice A11 f6.length c11] 56 (0, 0))] :: ch8 :: L)) hz3 fun A12 c12 ch9 hO9 => ?_))))
        refine ⟨Kept.more (Kept.more (Kept.more (Kept.refl))), ?_⟩
        refine P_some rfl (PL_f rfl (O_append rfl (sem_appR (r := rInt) Tt_ok rfl rfl rfl rfl (by decide) rfl rfl 2 rfl hO9 rfl (Own.rds (L := ([(g8, .cells #[.slice none 0 0, .slice none 0 0] 56 (0, 0))] :: [(g7, .cells #[.int .i64 (Int.tmod (w64 (k1)) ((p1.Demands.length : Nat) : Int))] 3 (0, 0))] :: ch9 :: [(g1, .cells #[.int .i64 p1.Road.Nodes, .slice A1 p1.Road.Edges.length c1, .slice A2 p1.Vehicles.length c2, .slice A3 p1.Demands.length c3, .int .i64 p1.Unload, .int .i64 p1.UnloadSecs] 28 (0, 0))] :: [(g2, .cells #[.slice none 0 0, .slice A10 f5.length c10] 56 (0, 0))] :: [(g3, .cells #[.slice none 0 0, .slice A11 f6.length c11] 56 (0, 0))] :: ch8 :: L)) (Own.lit (r := rInt) (e := 3) (g := g7) (xs := [Int.tmod (w64 (k1)) ((p1.Demands.length : Nat) : Int)]) (cs := [.int .i64 (Int.tmod (w64 (k1)) ((p1.Demands.length : Nat) : Int))]) (css := [[.int .i64 (Int.tmod (w64 (k1)) ((p1.Demands.length : Nat) : Int))]]) rfl (All2.cons (rfl) (All2.nil)) rfl rfl) 1 rfl) hz4 fun A13 c13 ch10 hO10 => ?_)))
        refine ⟨Kept.more (Kept.more (Kept.more (Kept.refl))), ?_⟩
        refine Pt rfl rfl (R_build rfl rfl rfl rfl (F_cons (cells' := [.slice none 0 0, .slice A13 l4.length c13]) rfl rfl rfl rfl (F_nil (P_some rfl (PL_f rfl (O_store (vs := [.slice none 0 0, .slice A13 l4.length c13]) rfl rfl rfl rfl rfl rfl (ST_ (L' := ([(g8, .cells #[.slice none 0 0, .slice A13 l4.length c13] 56 (0, 0))] :: [(g7, .cells #[.int .i64 (Int.tmod (w64 (k1)) ((p1.Demands.length : Nat) : Int))] 3 (0, 0))] :: ch10 :: [(g1, .cells #[.int .i64 p1.Road.Nodes, .slice A1 p1.Road.Edges.length c1, .slice A2 p1.Vehicles.length c2, .slice A3 p1.Demands.length c3, .int .i64 p1.Unload, .int .i64 p1.UnloadSecs] 28 (0, 0))] :: [(g2, .cells #[.slice none 0 0, .slice A10 f5.length c10] 56 (0, 0))] :: [(g3, .cells #[.slice none 0 0, .slice A11 f6.length c11] 56 (0, 0))] :: ch8 :: L)) 0 0 rfl rfl rfl rfl ?_)))))))
        refine ⟨Kept.more (Kept.more (Kept.more (Kept.refl))), ?_⟩
        refine P_none (PL_nil (AN.done0 (by kernel_rfl) ?_))
        have e_ := Option.some.inj h9320
        subst e_
        exact ⟨l4, g8, A13, c13, ch10, rfl, SubFr.of ⟨rfl, rfl, rfl, trivial⟩, SegSub.sel _ [some 3, some 5, some 6, some 0, some 2] 7, (hO10)⟩
      obtain ⟨l3, hz3, h9320⟩ := obind h9320
      obtain ⟨l4, hz4, h9320⟩ := obind h9320
      refine FO_ rfl rfl (O_alloc (cs := #[.slice none 0 0, .slice none 0 0]) rfl rfl (fun g8 => ?_))
      refine ⟨Kept.more (Kept.more (Kept.refl)), ?_⟩
      apply P_some; exact rfl
      refine FK_2 Tt_ok (a := 3) (b := 8) (by kernel_rfl) ?_ ?_
      · refine FO_ rfl rfl (O_append rfl (sem_appR (r := rInt) Tt_ok rfl rfl rfl rfl (by decide) rfl rfl 1 rfl (Own.empty (r := rInt) (e := 3) (g := g6)) rfl (ArrR.rds hA4 ([(g8, .cells #[.slice none 0 0, .slice none 0 0] 56 (0, 0))] :: [(g6, .cells #[] 3 (0, 0))] :: [(g1, .cells #[.int .i64 p1.Road.Nodes, .slice A1 p1.Road.Edges.length c1, .slice A2 p1.Vehicles.length c2, .slice A3 p1.Demands.length c3, .int .i64 p1.Unload, .int .i64 p1.UnloadSecs] 28 (0, 0))] :: [(g2, .cells #[.slice none 0 0, .slice A10 f5.length c10] 56 (0, 0))] :: [(g3, .cells #[.slice none 0 0, .slice A11 f6.length c11] 56 (0, 0))] :: ch8 :: L)) hz3 fun A12 c12 ch9 hO9 => ?_))
        refine ⟨Kept.more (Kept.more (Kept.refl)), ?_⟩
        refine P_some rfl (AN.run (fuel := 0) (listed' := [true, true, true, true, true, true, true, true, true, true, true, true, true]) Tt_ok [(false, 8), (false, 9), (true, 10), (false, 12)] (by kernel_rfl) (by kernel_rfl) rfl (PL_f rfl (O_bsl (z := [.int .i64 0]) rfl rfl rfl rfl rfl rfl rfl (F_cons (cells' := [.int .i64 (Int.tmod (w64 (k1)) ((p1.Demands.length : Nat) : Int))]) rfl rfl rfl rfl (F_nil (fun g7 => ?_))))))
        refine ⟨Kept.more (Kept.more (Kept.more (Kept.refl))), ?_⟩
        refine P_some rfl (PL_f rfl (O_append rfl (sem_appR (r := rInt) Tt_ok rfl rfl rfl rfl (by decide) rfl rfl 2 rfl hO9 rfl (Own.rds (L := ([(g7, .cells #[.int .i64 (Int.tmod (w64 (k1)) ((p1.Demands.length : Nat) : Int))] 3 (0, 0))] :: [(g8, .cells #[.slice none 0 0, .slice none 0 0] 56 (0, 0))] :: ch9 :: [(g1, .cells #[.int .i64 p1.Road.Nodes, .slice A1 p1.Road.Edges.length c1, .slice A2 p1.Vehicles.length c2, .slice A3 p1.Demands.length c3, .int .i64 p1.Unload, .int .i64 p1.UnloadSecs] 28 (0, 0))] :: [(g2, .cells #[.slice none 0 0, .slice A10 f5.length c10] 56 (0, 0))] :: [(g3, .cells #[.slice none 0 0, .slice A11 f6.length c11] 56 (0, 0))] :: ch8 :: L)) (Own.lit (r := rInt) (e := 3) (g := g7) (xs := [Int.tmod (w64 (k1)) ((p1.Demands.length : Nat) : Int)]) (cs := [.int .i64 (Int.tmod (w64 (k1)) ((p1.Demands.length : Nat) : Int))]) (css := [[.int .i64 (Int.tmod (w64 (k1)) ((p1.Demands.length : Nat) : Int))]]) rfl (All2.cons (rfl) (All2.nil)) rfl rfl) 0 rfl) hz4 fun A13 c13 ch10 hO10 => ?_)))
        refine ⟨Kept.more (Kept.more (Kept.more (Kept.refl))), ?_⟩
        refine Pt rfl rfl (R_build rfl rfl rfl rfl (F_cons (cells' := [.slice none 0 0, .slice A13 l4.length c13]) rfl rfl rfl rfl (F_nil (P_some rfl (PL_f rfl (O_store (vs := [.slice none 0 0, .slice A13 l4.length c13]) rfl rfl rfl rfl rfl rfl (ST_ (L' := ([(g7, .cells #[.int .i64 (Int.tmod (w64 (k1)) ((p1.Demands.length : Nat) : Int))] 3 (0, 0))] :: [(g8, .cells #[.slice none 0 0, .slice A13 l4.length c13] 56 (0, 0))] :: ch10 :: [(g1, .cells #[.int .i64 p1.Road.Nodes, .slice A1 p1.Road.Edges.length c1, .slice A2 p1.Vehicles.length c2, .slice A3 p1.Demands.length c3, .int .i64 p1.Unload, .int .i64 p1.UnloadSecs] 28 (0, 0))] :: [(g2, .cells #[.slice none 0 0, .slice A10 f5.length c10] 56 (0, 0))] :: [(g3, .cells #[.slice none 0 0, .slice A11 f6.length c11] 56 (0, 0))] :: ch8 :: L)) 1 0 rfl rfl rfl rfl ?_)))))))
        refine ⟨Kept.more (Kept.more (Kept.more (Kept.refl))), ?_⟩
        refine P_none (PL_nil (AN.done0 (by kernel_rfl) ?_))
        have e_ := Option.some.inj h9320
        subst e_
        exact ⟨l4, g8, A13, c13, ch10, rfl, SubFr.of ⟨rfl, rfl, rfl, trivial⟩, SegSub.sel _ [some 3, some 5, some 6, some 1, some 2] 7, (hO10)⟩
      refine FO_ rfl rfl (O_bsl (z := [.int .i64 0]) rfl rfl rfl rfl rfl rfl rfl (F_cons (cells' := [.int .i64 (Int.tmod (w64 (k1)) ((p1.Demands.length : Nat) : Int))]) rfl rfl rfl rfl (F_nil (fun g7 => ?_))))
      refine ⟨Kept.more (Kept.more (Kept.more (Kept.refl))), ?_⟩
      refine P_some rfl (AN.run (fuel := 0) (listed' := [true, true, true, true, true, true, true, true, true, true, true, true, true]) Tt_ok [(false, 3), (false, 9), (true, 10), (false, 12)] (by kernel_rfl) (by kernel_rfl) rfl (PL_f rfl (O_append rfl (sem_appR (r := rInt) Tt_ok rfl rfl rfl rfl (by decide) rfl rfl 2 rfl (Own.empty (r := rInt) (e := 3) (g := g6)) rfl (ArrR.rds hA4 ([(g7, .cells #[.int .i64 (Int.tmod (w64 (k1)) ((p1.Demands.length : Nat) : Int))] 3 (0, 0))] :: [(g8, .cells #[.slice none 0 0, .slice none 0 0] 56 (0, 0))] :: [(g6, .cells #[] 3 (0, 0))] :: [(g1, .cells #[.int .i64 p1.Road.Nodes, .slice A1 p1.Road.Edges.length c1, .slice A2 p1.Vehicles.length c2, .slice A3 p1.Demands.length c3, .int .i64 p1.Unload, .int .i64 p1.UnloadSecs] 28 (0, 0))] :: [(g2, .cells #[.slice none 0 0, .slice A10 f5.length c10] 56 (0, 0))] :: [(g3, .cells #[.slice none 0 0, .slice A11 f6.length c11] 56 (0, 0))] :: ch8 :: L)) hz3 fun A12 c12 ch9 hO9 => ?_))))
      refine ⟨Kept.more (Kept.more (Kept.more (Kept.refl))), ?_⟩
      refine P_some rfl (PL_f rfl (O_append rfl (sem_appR (r := rInt) Tt_ok rfl rfl rfl rfl (by decide) rfl rfl 2 rfl hO9 rfl (Own.rds (L := ([(g7, .cells #[.int .i64 (Int.tmod (w64 (k1)) ((p1.Demands.length : Nat) : Int))] 3 (0, 0))] :: [(g8, .cells #[.slice none 0 0, .slice none 0 0] 56 (0, 0))] :: ch9 :: [(g1, .cells #[.int .i64 p1.Road.Nodes, .slice A1 p1.Road.Edges.length c1, .slice A2 p1.Vehicles.length c2, .slice A3 p1.Demands.length c3, .int .i64 p1.Unload, .int .i64 p1.UnloadSecs] 28 (0, 0))] :: [(g2, .cells #[.slice none 0 0, .slice A10 f5.length c10] 56 (0, 0))] :: [(g3, .cells #[.slice none 0 0, .slice A11 f6.length c11] 56 (0, 0))] :: ch8 :: L)) (Own.lit (r := rInt) (e := 3) (g := g7) (xs := [Int.tmod (w64 (k1)) ((p1.Demands.length : Nat) : Int)]) (cs := [.int .i64 (Int.tmod (w64 (k1)) ((p1.Demands.length : Nat) : Int))]) (css := [[.int .i64 (Int.tmod (w64 (k1)) ((p1.Demands.length : Nat) : Int))]]) rfl (All2.cons (rfl) (All2.nil)) rfl rfl) 0 rfl) hz4 fun A13 c13 ch10 hO10 => ?_)))
      refine ⟨Kept.more (Kept.more (Kept.more (Kept.refl))), ?_⟩
      refine Pt rfl rfl (R_build rfl rfl rfl rfl (F_cons (cells' := [.slice none 0 0, .slice A13 l4.length c13]) rfl rfl rfl rfl (F_nil (P_some rfl (PL_f rfl (O_store (vs := [.slice none 0 0, .slice A13 l4.length c13]) rfl rfl rfl rfl rfl rfl (ST_ (L' := ([(g7, .cells #[.int .i64 (Int.tmod (w64 (k1)) ((p1.Demands.length : Nat) : Int))] 3 (0, 0))] :: [(g8, .cells #[.slice none 0 0, .slice A13 l4.length c13] 56 (0, 0))] :: ch10 :: [(g1, .cells #[.int .i64 p1.Road.Nodes, .slice A1 p1.Road.Edges.length c1, .slice A2 p1.Vehicles.length c2, .slice A3 p1.Demands.length c3, .int .i64 p1.Unload, .int .i64 p1.UnloadSecs] 28 (0, 0))] :: [(g2, .cells #[.slice none 0 0, .slice A10 f5.length c10] 56 (0, 0))] :: [(g3, .cells #[.slice none 0 0, .slice A11 f6.length c11] 56 (0, 0))] :: ch8 :: L)) 1 0 rfl rfl rfl rfl ?_)))))))
      refine ⟨Kept.more (Kept.more (Kept.more (Kept.refl))), ?_⟩
      refine P_none (PL_nil (AN.done0 (by kernel_rfl) ?_))
      have e_ := Option.some.inj h9320
      subst e_
      exact ⟨l4, g8, A13, c13, ch10, rfl, SubFr.of ⟨rfl, rfl, rfl, trivial⟩, SegSub.sel _ [some 3, some 5, some 6, some 1, some 2] 7, (hO10)⟩
    · obtain ⟨l3, hz3, h9320⟩ := obind h9320
      obtain ⟨l4, hz4, h9320⟩ := obind h9320
      refine FO_ rfl rfl (O_bsl (z := [.int .i64 0]) rfl rfl rfl rfl rfl rfl rfl (F_cons (cells' := [.int .i64 (Int.tmod (w64 (k1)) ((p1.Demands.length : Nat) : Int))]) rfl rfl rfl rfl (F_nil (fun g7 => ?_))))
      refine ⟨Kept.more (Kept.refl), ?_⟩
      apply P_some; exact rfl
      refine FK_2 Tt_ok (a := 0) (b := 11) (by kernel_rfl) ?_ ?_
      · refine FO_ rfl rfl (O_bsl (z := []) rfl rfl rfl rfl rfl rfl rfl (F_nil (fun g6 => ?_)))
        refine ⟨Kept.more (Kept.more (Kept.refl)), ?_⟩
        apply P_some; exact rfl
        refine FK_2 Tt_ok (a := 3) (b := 11) (by kernel_rfl) ?_ ?_
        · refine FO_ rfl rfl (O_append rfl (sem_appR (r := rInt) Tt_ok rfl rfl rfl rfl (by decide) rfl rfl 0 rfl (Own.empty (r := rInt) (e := 3) (g := g6)) rfl (ArrR.rds hA4 ([(g6, .cells #[] 3 (0, 0))] :: [(g7, .cells #[.int .i64 (Int.tmod (w64 (k1)) ((p1.Demands.length : Nat) : Int))] 3 (0, 0))] :: [(g1, .cells #[.int .i64 p1.Road.Nodes, .slice A1 p1.Road.Edges.length c1, .slice A2 p1.Vehicles.length c2, .slice A3 p1.Demands.length c3, .int .i64 p1.Unload, .int .i64 p1.UnloadSecs] 28 (0, 0))] :: [(g2, .cells #[.slice none 0 0, .slice A10 f5.length c10] 56 (0, 0))] :: [(g3, .cells #[.slice none 0 0, .slice A11 f6.length c11] 56 (0, 0))] :: ch8 :: L)) hz3 fun A12 c12 ch9 hO9 => ?_))
          refine ⟨Kept.more (Kept.more (Kept.refl)), ?_⟩
          apply P_some; exact rfl
          refine FK_2 Tt_ok (a := 9) (b := 11) (by kernel_rfl) ?_ ?_
          · refine FO_ rfl rfl (O_append rfl (sem_appR (r := rInt) Tt_ok rfl rfl rfl rfl (by decide) rfl rfl 0 rfl hO9 rfl (Own.rds (L := (ch9 :: [(g7, .cells #[.int .i64 (Int.tmod (w64 (k1)) ((p1.Demands.length : Nat) : Int))] 3 (0, 0))] :: [(g1, .cells #[.int .i64 p1.Road.Nodes, .slice A1 p1.Road.Edges.length c1, .slice A2 p1.Vehicles.length c2, .slice A3 p1.Demands.length c3, .int .i64 p1.Unload, .int .i64 p1.UnloadSecs] 28 (0, 0))] :: [(g2, .cells #[.slice none 0 0, .slice A10 f5.length c10] 56 (0, 0))] :: [(g3, .cells #[.slice none 0 0, .slice A11 f6.length c11] 56 (0, 0))] :: ch8 :: L)) (Own.lit (r := rInt) (e := 3) (g := g7) (xs := [Int.tmod (w64 (k1)) ((p1.Demands.length : Nat) : Int)]) (cs := [.int .i64 (Int.tmod (w64 (k1)) ((p1.Demands.length : Nat) : Int))]) (css := [[.int .i64 (Int.tmod (w64 (k1)) ((p1.Demands.length : Nat) : Int))]]) rfl (All2.cons (rfl) (All2.nil)) rfl rfl) 1 rfl) hz4 fun A13 c13 ch10 hO10 => ?_))
            refine ⟨Kept.more (Kept.more (Kept.refl)), ?_⟩
            refine P_some rfl (AN.run (fuel := 0) (listed' := [true, true, true, true, true, true, true, true, true, true, true, true, true]) Tt_ok [(true, 10), (false, 11), (false, 12)] (by kernel_rfl) (by kernel_rfl) rfl (PL_t rfl (R_build rfl rfl rfl rfl (F_cons (cells' := [.slice none 0 0, .slice A13 l4.length c13]) rfl rfl rfl rfl (F_nil (P_some rfl (PL_f rfl (O_alloc (cs := #[.slice none 0 0, .slice none 0 0]) rfl rfl (fun g8 => ?_)))))))))
            refine ⟨Kept.more (Kept.more (Kept.more (Kept.refl))), ?_⟩
            refine P_some rfl (PL_f rfl (O_store (vs := [.slice none 0 0, .slice A13 l4.length c13]) rfl rfl rfl rfl rfl rfl (ST_ (L' := ([(g8, .cells #[.slice none 0 0, .slice A13 l4.length c13] 56 (0, 0))] :: ch10 :: [(g7, .cells #[.int .i64 (Int.tmod (w64 (k1)) ((p1.Demands.length : Nat) : Int))] 3 (0, 0))] :: [(g1, .cells #[.int .i64 p1.Road.Nodes, .slice A1 p1.Road.Edges.length c1, .slice A2 p1.Vehicles.length c2, .slice A3 p1.Demands.length c3, .int .i64 p1.Unload, .int .i64 p1.UnloadSecs] 28 (0, 0))] :: [(g2, .cells #[.slice none 0 0, .slice A10 f5.length c10] 56 (0, 0))] :: [(g3, .cells #[.slice none 0 0, .slice A11 f6.length c11] 56 (0, 0))] :: ch8 :: L)) 0 0 rfl rfl rfl rfl ?_)))
            refine ⟨Kept.more (Kept.more (Kept.more (Kept.refl))), ?_⟩
            refine P_none (PL_nil (AN.done0 (by kernel_rfl) ?_))
            have e_ := Option.some.inj h9320
            subst e_
            exact ⟨l4, g8, A13, c13, ch10, rfl, SubFr.of ⟨rfl, rfl, rfl, trivial⟩, SegSub.sel _ [some 3, some 5, some 6, some 0, some 1] 7, (hO10)⟩
          refine FO_ rfl rfl (O_alloc (cs := #[.slice none 0 0, .slice none 0 0]) rfl rfl (fun g8 => ?_))
          refine ⟨Kept.more (Kept.more (Kept.more (Kept.refl))), ?_⟩
          refine P_some rfl (AN.run (fuel := 0) (listed' := [true, true, true, true, true, true, true, true, true, true, true, true, true]) Tt_ok [(false, 9), (true, 10), (false, 12)] (by kernel_rfl) (by kernel_rfl) rfl (PL_f rfl (O_append rfl (sem_appR (r := rInt) Tt_ok rfl rfl rfl rfl (by decide) rfl rfl 1 rfl hO9 rfl (Own.rds (L := ([(g8, .cells #[.slice none 0 0, .slice none 0 0] 56 (0, 0))] :: ch9 :: [(g7, .cells #[.int .i64 (Int.tmod (w64 (k1)) ((p1.Demands.length : Nat) : Int))] 3 (0, 0))] :: [(g1, .cells #[.int .i64 p1.Road.Nodes, .slice A1 p1.Road.Edges.length c1, .slice A2 p1.Vehicles.length c2, .slice A3 p1.Demands.length c3, .int .i64 p1.Unload, .int .i64 p1.UnloadSecs] 28 (0, 0))] :: [(g2, .cells #[.slice none 0 0, .slice A10 f5.length c10] 56 (0, 0))] :: [(g3, .cells #[.slice none 0 0, .slice A11 f6.length c11] 56 (0, 0))] :: ch8 :: L)) (Own.lit (r := rInt) (e := 3) (g := g7) (xs := [Int.tmod (w64 (k1)) ((p1.Demands.length : Nat) : Int)]) (cs := [.int .i64 (Int.tmod (w64 (k1)) ((p1.Demands.length : Nat) : Int))]) (css := [[.int .i64 (Int.tmod (w64 (k1)) ((p1.Demands.length : Nat) : Int))]]) rfl (All2.cons (rfl) (All2.nil)) rfl rfl) 2 rfl) hz4 fun A13 c13 ch10 hO10 => ?_))))
          refine ⟨Kept.more (Kept.more (Kept.more (Kept.refl))), ?_⟩
          refine Pt rfl rfl (R_build rfl rfl rfl rfl (F_cons (cells' := [.slice none 0 0, .slice A13 l4.length c13]) rfl rfl rfl rfl (F_nil (P_some rfl (PL_f rfl (O_store (vs := [.slice none 0 0, .slice A13 l4.length c13]) rfl rfl rfl rfl rfl rfl (ST_ (L' := ([(g8, .cells #[.slice none 0 0, .slice A13 l4.length c13] 56 (0, 0))] :: ch10 :: [(g7, .cells #[.int .i64 (Int.tmod (w64 (k1)) ((p1.Demands.length : Nat) : Int))] 3 (0, 0))] :: [(g1, .cells #[.int .i64 p1.Road.Nodes, .slice A1 p1.Road.Edges.length c1, .slice A2 p1.Vehicles.length c2, .slice A3 p1.Demands.length c3, .int .i64 p1.Unload, .int .i64 p1.UnloadSecs] 28 (0, 0))] :: [(g2, .cells #[.slice none 0 0, .slice A10 f5.length c10] 56 (0, 0))] :: [(g3, .cells #[.slice none 0 0, .slice A11 f6.length c11] 56 (0, 0))] :: ch8 :: L)) 0 0 rfl rfl rfl rfl ?_)))))))
          refine ⟨Kept.more (Kept.more (Kept.more (Kept.refl))), ?_⟩
          refine P_none (PL_nil (AN.done0 (by kernel_rfl) ?_))
          have e_ := Option.some.inj h9320
          subst e_
          exact ⟨l4, g8, A13, c13, ch10, rfl, SubFr.of ⟨rfl, rfl, rfl, trivial⟩, SegSub.sel _ [some 3, some 5, some 6, some 0, some 1] 7, (hO10)⟩
        refine FO_ rfl rfl (O_alloc (cs := #[.slice none 0 0, .slice none 0 0]) rfl rfl (fun g8 => ?_))
        refine ⟨Kept.more (Kept.more (Kept.more (Kept.refl))), ?_⟩
        refine P_some rfl (AN.run (fuel := 0) (listed' := [true, true, true, true, true, true, true, true, true, true, true, true, true]) Tt_ok [(false, 3), (false, 9), (true, 10), (false, 12)] (by kernel_rfl) (by kernel_rfl) rfl (PL_f rfl (O_append rfl (sem_appR (r := rInt) Tt_ok rfl rfl rfl rfl (by decide) rfl rfl 1 rfl (Own.empty (r := rInt) (e := 3) (g := g6)) rfl (ArrR.rds hA4 ([(g8, .cells #[.slice none 0 0, .slice none 0 0] 56 (0, 0))] :: [(g6, .cells #[] 3 (0, 0))] :: [(g7, .cells #[.int .i64 (Int.tmod (w64 (k1)) ((p1.Demands.length : Nat) : Int))] 3 (0, 0))] :: [(g1, .cells #[.int .i64 p1.Road.Nodes, .slice A1 p1.Road.Edges.length c1, .slice A2 p1.Vehicles.length c2, .slice A3 p1.Demands.length c3, .int .i64 p1.Unload, .int .i64 p1.UnloadSecs] 28 (0, 0))] :: [(g2, .cells #[.slice none 0 0, .slice A10 f5.length c10] 56 (0, 0))] :: [(g3, .cells #[.slice none 0 0, .slice A11 f6.length c11] 56 (0, 0))] :: ch8 :: L)) hz3 fun A12 c12 ch9 hO9 => ?_))))
        refine ⟨Kept.more (Kept.more (Kept.more (Kept.refl))), ?_⟩
        refine P_some rfl (PL_f rfl (O_append rfl (sem_appR (r := rInt) Tt_ok rfl rfl rfl rfl (by decide) rfl rfl 1 rfl hO9 rfl (Own.rds (L := ([(g8, .cells #[.slice none 0 0, .slice none 0 0] 56 (0, 0))] :: ch9 :: [(g7, .cells #[.int .i64 (Int.tmod (w64 (k1)) ((p1.Demands.length : Nat) : Int))] 3 (0, 0))] :: [(g1, .cells #[.int .i64 p1.Road.Nodes, .slice A1 p1.Road.Edges.length c1, .slice A2 p1.Vehicles.length c2, .slice A3 p1.Demands.length c3, .int .i64 p1.Unload, .int .i64 p1.UnloadSecs] 28 (0, 0))] :: [(g2, .cells #[.slice none 0 0, .slice A10 f5.length c10] 56 (0, 0))] :: [(g3, .cells #[.slice none 0 0, .slice A11 f6.length c11] 56 (0, 0))] :: ch8 :: L)) (Own.lit (r := rInt) (e := 3) (g := g7) (xs := [Int.tmod (w64 (k1)) ((p1.Demands.length : Nat) : Int)]) (cs := [.int .i64 (Int.tmod (w64 (k1)) ((p1.Demands.length : Nat) : Int))]) (css := [[.int .i64 (Int.tmod (w64 (k1)) ((p1.Demands.length : Nat) : Int))]]) rfl (All2.cons (rfl) (All2.nil)) rfl rfl) 2 rfl) hz4 fun A13 c13 ch10 hO10 => ?_)))
        refine ⟨Kept.more (Kept.more (Kept.more (Kept.refl))), ?_⟩
        refine Pt rfl rfl (R_build rfl rfl rfl rfl (F_cons (cells' := [.slice none 0 0, .slice A13 l4.length c13]) rfl rfl rfl rfl (F_nil (P_some rfl (PL_f rfl (O_store (vs := [.slice none 0 0, .slice A13 l4.length c13]) rfl rfl rfl rfl rfl rfl (ST_ (L' := ([(g8, .cells #[.slice none 0 0, .slice A13 l4.length c13] 56 (0, 0))] :: ch10 :: [(g7, .cells #[.int .i64 (Int.tmod (w64 (k1)) ((p1.Demands.length : Nat) : Int))] 3 (0, 0))] :: [(g1, .cells #[.int .i64 p1.Road.Nodes, .slice A1 p1.Road.Edges.length c1, .slice A2 p1.Vehicles.length c2, .slice A3 p1.Demands.length c3, .int .i64 p1.Unload, .int .i64 p1.UnloadSecs] 28 (0, 0))] :: [(g2, .cells #[.slice none 0 0, .slice A10 f5.length c10] 56 (0, 0))] :: [(g3, .cells #[.slice none 0 0, .slice A11 f6.length c11] 56 (0, 0))] :: ch8 :: L)) 0 0 rfl rfl rfl rfl ?_)))))))
        refine ⟨Kept.more (Kept.more (Kept.more (Kept.refl))), ?_⟩
        refine P_none (PL_nil (AN.done0 (by kernel_rfl) ?_))
        have e_ := Option.some.inj h9320
        subst e_
        exact ⟨l4, g8, A13, c13, ch10, rfl, SubFr.of ⟨rfl, rfl, rfl, trivial⟩, SegSub.sel _ [some 3, some 5, some 6, some 0, some 1] 7, (hO10)⟩
      refine FO_ rfl rfl (O_alloc (cs := #[.slice none 0 0, .slice none 0 0]) rfl rfl (fun g8 => ?_))
      refine ⟨Kept.more (Kept.more (Kept.refl)), ?_⟩
      refine P_some rfl (AN.run (fuel := 0) (listed' := [true, true, true, true, true, true, true, true, true, true, true, true, true]) Tt_ok [(false, 0), (false, 3), (false, 9), (true, 10), (false, 12)] (by kernel_rfl) (by kernel_rfl) rfl (PL_f rfl (O_bsl (z := []) rfl rfl rfl rfl rfl rfl rfl (F_nil (fun g6 => ?_)))))
      refine ⟨Kept.more (Kept.more (Kept.more (Kept.refl))), ?_⟩
      refine P_some rfl (PL_f rfl (O_append rfl (sem_appR (r := rInt) Tt_ok rfl rfl rfl rfl (by decide) rfl rfl 0 rfl (Own.empty (r := rInt) (e := 3) (g := g6)) rfl (ArrR.rds hA4 ([(g6, .cells #[] 3 (0, 0))] :: [(g8, .cells #[.slice none 0 0, .slice none 0 0] 56 (0, 0))] :: [(g7, .cells #[.int .i64 (Int.tmod (w64 (k1)) ((p1.Demands.length : Nat) : Int))] 3 (0, 0))] :: [(g1, .cells #[.int .i64 p1.Road.Nodes, .slice A1 p1.Road.Edges.length c1, .slice A2 p1.Vehicles.length c2, .slice A3 p1.Demands.length c3, .int .i64 p1.Unload, .int .i64 p1.UnloadSecs] 28 (0, 0))] :: [(g2, .cells #[.slice none 0 0, .slice A10 f5.length c10] 56 (0, 0))] :: [(g3, .cells #[.slice none 0 0, .slice A11 f6.length c11] 56 (0, 0))] :: ch8 :: L)) hz3 fun A12 c12 ch9 hO9 => ?_)))
      refine ⟨Kept.more (Kept.more (Kept.more (Kept.refl))), ?_⟩
      refine P_some rfl (PL_f rfl (O_append rfl (sem_appR (r := rInt) Tt_ok rfl rfl rfl rfl (by decide) rfl rfl 0 rfl hO9 rfl (Own.rds (L := (ch9 :: [(g8, .cells #[.slice none 0 0, .slice none 0 0] 56 (0, 0))] :: [(g7, .cells #[.int .i64 (Int.tmod (w64 (k1)) ((p1.Demands.length : Nat) : Int))] 3 (0, 0))] :: [(g1, .cells #[.int .i64 p1.Road.Nodes, .slice A1 p1.Road.Edges.length c1, .slice A2 p1.Vehicles.length c2, .slice A3 p1.Demands.length c3, .int .i64 p1.Unload, .int .i64 p1.UnloadSecs] 28 (0, 0))] :: [(g2, .cells #[.slice none 0 0, .slice A10 f5.length c10] 56 (0, 0))] :: [(g3, .cells #[.slice none 0 0, .slice A11 f6.length c11] 56 (0, 0))] :: ch8 :: L)) (Own.lit (r := rInt) (e := 3) (g := g7) (xs := [Int.tmod (w64 (k1)) ((p1.Demands.length : Nat) : Int)]) (cs := [.int .i64 (Int.tmod (w64 (k1)) ((p1.Demands.length : Nat) : Int))]) (css := [[.int .i64 (Int.tmod (w64 (k1)) ((p1.Demands.length : Nat) : Int))]]) rfl (All2.cons (rfl) (All2.nil)) rfl rfl) 2 rfl) hz4 fun A13 c13 ch10 hO10 => ?_)))
      refine ⟨Kept.more (Kept.more (Kept.more (Kept.refl))), ?_⟩
      refine Pt rfl rfl (R_build rfl rfl rfl rfl (F_cons (cells' := [.slice none 0 0, .slice A13 l4.length c13]) rfl rfl rfl rfl (F_nil (P_some rfl (PL_f rfl (O_store (vs := [.slice none 0 0, .slice A13 l4.length c13]) rfl rfl rfl rfl rfl rfl (ST_ (L' := (ch10 :: [(g8, .cells #[.slice none 0 0, .slice A13 l4.length c13] 56 (0, 0))] :: [(g7, .cells #[.int .i64 (Int.tmod (w64 (k1)) ((p1.Demands.length : Nat) : Int))] 3 (0, 0))] :: [(g1, .cells #[.int .i64 p1.Road.Nodes, .slice A1 p1.Road.Edges.length c1, .slice A2 p1.Vehicles.length c2, .slice A3 p1.Demands.length c3, .int .i64 p1.Unload, .int .i64 p1.UnloadSecs] 28 (0, 0))] :: [(g2, .cells #[.slice none 0 0, .slice A10 f5.length c10] 56 (0, 0))] :: [(g3, .cells #[.slice none 0 0, .slice A11 f6.length c11] 56 (0, 0))] :: ch8 :: L)) 1 0 rfl rfl rfl rfl ?_)))))))
      refine ⟨Kept.more (Kept.more (Kept.more (Kept.refl))), ?_⟩
      refine P_none (PL_nil (AN.done0 (by kernel_rfl) ?_))
      have e_ := Option.some.inj h9320
      subst e_
      exact ⟨l4, g8, A13, c13, ch10, rfl, SubFr.of ⟨rfl, rfl, rfl, trivial⟩, SegSub.sel _ [some 3, some 5, some 6, some 1, some 0] 7, (hO10)⟩
    obtain ⟨l3, hz3, h9320⟩ := obind h9320
    obtain ⟨l4, hz4, h9320⟩ := obind h9320
    refine FO_ rfl rfl (O_alloc (cs := #[.slice none 0 0, .slice none 0 0]) rfl rfl (fun g8 => ?_))
    refine ⟨Kept.more (Kept.refl), ?_⟩
    apply P_some; exact rfl
    refine FK_2 Tt_ok (a := 0) (b := 8) (by kernel_rfl) ?_ ?_
    · refine FO_ rfl rfl (O_bsl (z := []) rfl rfl rfl rfl rfl rfl rfl (F_nil (fun g6 => ?_)))
      refine ⟨Kept.more (Kept.more (Kept.refl)), ?_⟩
      apply P_some; exact rfl
      refine FK_2 Tt_ok (a := 3) (b := 8) (by kernel_rfl) ?_ ?_
      · refine FO_ rfl rfl (O_append rfl (sem_appR (r := rInt) Tt_ok rfl rfl rfl rfl (by decide) rfl rfl 0 rfl (Own.empty (r := rInt) (e := 3) (g := g6)) rfl (ArrR.rds hA4 ([(g6, .cells #[] 3 (0, 0))] :: [(g8, .cells #[.slice none 0 0, .slice none 0 0] 56 (0, 0))] :: [(g1, .cells #[.int .i64 p1.Road.Nodes, .slice A1 p1.Road.Edges.length c1, .slice A2 p1.Vehicles.length c2, .slice A3 p1.Demands.length c3, .int .i64 p1.Unload, .int .i64 p1.UnloadSecs] 28 (0, 0))] :: [(g2, .cells #[.slice none 0 0, .slice A10 f5.length c10] 56 (0, 0))] :: [(g3, .cells #[.slice none 0 0, .slice A11 f6.length c11] 56 (0, 0))] :: ch8 :: L)) hz3 fun A12 c12 ch9 hO9 => ?_))
        refine ⟨Kept.more (Kept.more (Kept.refl)), ?_⟩
        refine P_some rfl (AN.run (fuel := 0) (listed' := [true, true, true, true, true, true, true, true, true, true, true, true, true]) Tt_ok [(false, 8), (false, 9), (true, 10), (false, 12)] (by kernel_rfl) (by kernel_rfl) rfl (PL_f rfl (O_bsl (z := [.int .i64 0]) rfl rfl rfl rfl rfl rfl rfl (F_cons (cells' := [.int .i64 (Int.tmod (w64 (k1)) ((p1.Demands.length : Nat) : Int))]) rfl rfl rfl rfl (F_nil (fun g7 => ?_))))))
        refine ⟨Kept.more (Kept.more (Kept.more (Kept.refl))), ?_⟩
        refine P_some rfl (PL_f rfl (O_append rfl (sem_appR (r := rInt) Tt_ok rfl rfl rfl rfl (by decide) rfl rfl 1 rfl hO9 rfl (Own.rds (L := ([(g7, .cells #[.int .i64 (Int.tmod (w64 (k1)) ((p1.Demands.length : Nat) : Int))] 3 (0, 0))] :: ch9 :: [(g8, .cells #[.slice none 0 0, .slice none 0 0] 56 (0, 0))] :: [(g1, .cells #[.int .i64 p1.Road.Nodes, .slice A1 p1.Road.Edges.length c1, .slice A2 p1.Vehicles.length c2, .slice A3 p1.Demands.length c3, .int .i64 p1.Unload, .int .i64 p1.UnloadSecs] 28 (0, 0))] :: [(g2, .cells #[.slice none 0 0, .slice A10 f5.length c10] 56 (0, 0))] :: [(g3, .cells #[.slice none 0 0, .slice A11 f6.length c11] 56 (0, 0))] :: ch8 :: L)) (Own.lit (r := rInt) (e := 3) (g := g7) (xs := [Int.tmod (w64 (k1)) ((p1.Demands.length : Nat) : Int)]) (cs := [.int .i64 (Int.tmod (w64 (k1)) ((p1.Demands.length : Nat) : Int))]) (css := [[.int .i64 (Int.tmod (w64 (k1)) ((p1.Demands.length : Nat) : Int))]]) rfl (All2.cons (rfl) (All2.nil)) rfl rfl) 0 rfl) hz4 fun A13 c13 ch10 hO10 => ?_)))
        refine ⟨Kept.more (Kept.more (Kept.more (Kept.refl))), ?_⟩
        refine Pt rfl rfl (R_build rfl rfl rfl rfl (F_cons (cells' := [.slice none 0 0, .slice A13 l4.length c13]) rfl rfl rfl rfl (F_nil (P_some rfl (PL_f rfl (O_store (vs := [.slice none 0 0, .slice A13 l4.length c13]) rfl rfl rfl rfl rfl rfl (ST_ (L' := ([(g7, .cells #[.int .i64 (Int.tmod (w64 (k1)) ((p1.Demands.length : Nat) : Int))] 3 (0, 0))] :: ch10 :: [(g8, .cells #[.slice none 0 0, .slice A13 l4.length c13] 56 (0, 0))] :: [(g1, .cells #[.int .i64 p1.Road.Nodes, .slice A1 p1.Road.Edges.length c1, .slice A2 p1.Vehicles.length c2, .slice A3 p1.Demands.length c3, .int .i64 p1.Unload, .int .i64 p1.UnloadSecs] 28 (0, 0))] :: [(g2, .cells #[.slice none 0 0, .slice A10 f5.length c10] 56 (0, 0))] :: [(g3, .cells #[.slice none 0 0, .slice A11 f6.length c11] 56 (0, 0))] :: ch8 :: L)) 2 0 rfl rfl rfl rfl ?_)))))))
        refine ⟨Kept.more (Kept.more (Kept.more (Kept.refl))), ?_⟩
        refine P_none (PL_nil (AN.done0 (by kernel_rfl) ?_))
        have e_ := Option.some.inj h9320
        subst e_
        exact ⟨l4, g8, A13, c13, ch10, rfl, SubFr.of ⟨rfl, rfl, rfl, trivial⟩, SegSub.sel _ [some 3, some 5, some 6, some 2, some 1] 7, (hO10)⟩
      refine FO_ rfl rfl (O_bsl (z := [.int .i64 0]) rfl rfl rfl rfl rfl rfl rfl (F_cons (cells' := [.int .i64 (Int.tmod (w64 (k1)) ((p1.Demands.length : Nat) : Int))]) rfl rfl rfl rfl (F_nil (fun g7 => ?_))))
      refine ⟨Kept.more (Kept.more (Kept.more (Kept.refl))), ?_⟩
      refine P_some rfl (AN.run (fuel := 0) (listed' := [true, true, true, true, true, true, true, true, true, true, true, true, true]) Tt_ok [(false, 3), (false, 9), (true, 10), (false, 12)] (by kernel_rfl) (by kernel_rfl) rfl (PL_f rfl (O_append rfl (sem_appR (r := rInt) Tt_ok rfl rfl rfl rfl (by decide) rfl rfl 1 rfl (Own.empty (r := rInt) (e := 3) (g := g6)) rfl (ArrR.rds hA4 ([(g7, .cells #[.int .i64 (Int.tmod (w64 (k1)) ((p1.Demands.length : Nat) : Int))] 3 (0, 0))] :: [(g6, .cells #[] 3 (0, 0))] :: [(g8, .cells #[.slice none 0 0, .slice none 0 0] 56 (0, 0))] :: [(g1, .cells #[.int .i64 p1.Road.Nodes, .slice A1 p1.Road.Edges.length c1, .slice A2 p1.Vehicles.length c2, .slice A3 p1.Demands.length c3, .int .i64 p1.Unload, .int .i64 p1.UnloadSecs] 28 (0, 0))] :: [(g2, .cells #[.slice none 0 0, .slice A10 f5.length c10] 56 (0, 0))] :: [(g3, .cells #[.slice none 0 0, .slice A11 f6.length c11] 56 (0, 0))] :: ch8 :: L)) hz3 fun A12 c12 ch9 hO9 => ?_))))
      refine ⟨Kept.more (Kept.more (Kept.more (Kept.refl))), ?_⟩
      refine P_some rfl (PL_f rfl (O_append rfl (sem_appR (r := rInt) Tt_ok rfl rfl rfl rfl (by decide) rfl rfl 1 rfl hO9 rfl (Own.rds (L := ([(g7, .cells #[.int .i64 (Int.tmod (w64 (k1)) ((p1.Demands.length : Nat) : Int))] 3 (0, 0))] :: ch9 :: [(g8, .cells #[.slice none 0 0, .slice none 0 0] 56 (0, 0))] :: [(g1, .cells #[.int .i64 p1.Road.Nodes, .slice A1 p1.Road.Edges.length c1, .slice A2 p1.Vehicles.length c2, .slice A3 p1.Demands.length c3, .int .i64 p1.Unload, .int .i64 p1.UnloadSecs] 28 (0, 0))] :: [(g2, .cells #[.slice none 0 0, .slice A10 f5.length c10] 56 (0, 0))] :: [(g3, .cells #[.slice none 0 0, .slice A11 f6.length c11] 56 (0, 0))] :: ch8 :: L)) (Own.lit (r := rInt) (e := 3) (g := g7) (xs := [Int.tmod (w64 (k1)) ((p1.Demands.length : Nat) : Int)]) (cs := [.int .i64 (Int.tmod (w64 (k1)) ((p1.Demands.length : Nat) : Int))]) (css := [[.int .i64 (Int.tmod (w64 (k1)) ((p1.Demands.length : Nat) : Int))]]) rfl (All2.cons (rfl) (All2.nil)) rfl rfl) 0 rfl) hz4 fun A13 c13 ch10 hO10 => ?_)))
      refine ⟨Kept.more (Kept.more (Kept.more (Kept.refl))), ?_⟩
      refine Pt rfl rfl (R_build rfl rfl rfl rfl (F_cons (cells' := [.slice none 0 0, .slice A13 l4.length c13]) rfl rfl rfl rfl (F_nil (P_some rfl (PL_f rfl (O_store (vs := [.slice none 0 0, .slice A13 l4.length c13]) rfl rfl rfl rfl rfl rfl (ST_ (L' := ([(g7, .cells #[.int .i64 (Int.tmod (w64 (k1)) ((p1.Demands.length : Nat) : Int))] 3 (0, 0))] :: ch10 :: [(g8, .cells #[.slice none 0 0, .slice A13 l4.length c13] 56 (0, 0))] :: [(g1, .cells #[.int .i64 p1.Road.Nodes, .slice A1 p1.Road.Edges.length c1, .slice A2 p1.Vehicles.length c2, .slice A3 p1.Demands.length c3, .int .i64 p1.Unload, .int .i64 p1.UnloadSecs] 28 (0, 0))] :: [(g2, .cells #[.slice none 0 0, .slice A10 f5.length c10] 56 (0, 0))] :: [(g3, .cells #[.slice none 0 0, .slice A11 f6.length c11] 56 (0, 0))] :: ch8 :: L)) 2 0 rfl rfl rfl rfl ?_)))))))
      refine ⟨Kept.more (Kept.more (Kept.more (Kept.refl))), ?_⟩
      refine P_none (PL_nil (AN.done0 (by kernel_rfl) ?_))
      have e_ := Option.some.inj h9320
      subst e_
      exact ⟨l4, g8, A13, c13, ch10, rfl, SubFr.of ⟨rfl, rfl, rfl, trivial⟩, SegSub.sel _ [some 3, some 5, some 6, some 2, some 1] 7, (hO10)⟩
    refine FO_ rfl rfl (O_bsl (z := [.int .i64 0]) rfl rfl rfl rfl rfl rfl rfl (F_cons (cells' := [.int .i64 (Int.tmod (w64 (k1)) ((p1.Demands.length : Nat) : Int))]) rfl rfl rfl rfl (F_nil (fun g7 => ?_))))
    refine ⟨Kept.more (Kept.more (Kept.refl)), ?_⟩
    refine P_some rfl (AN.run (fuel := 0) (listed' := [true, true, true, true, true, true, true, true, true, true, true, true, true]) Tt_ok [(false, 0), (false, 3), (false, 9), (true, 10), (false, 12)] (by kernel_rfl) (by kernel_rfl) rfl (PL_f rfl (O_bsl (z := []) rfl rfl rfl rfl rfl rfl rfl (F_nil (fun g6 => ?_)))))
    refine ⟨Kept.more (Kept.more (Kept.more (Kept.refl))), ?_⟩
    refine P_some rfl (PL_f rfl (O_append rfl (sem_appR (r := rInt) Tt_ok rfl rfl rfl rfl (by decide) rfl rfl 0 rfl (Own.empty (r := rInt) (e := 3) (g := g6)) rfl (ArrR.rds hA4 ([(g6, .cells #[] 3 (0, 0))] :: [(g7, .cells #[.int .i64 (Int.tmod (w64 (k1)) ((p1.Demands.length : Nat) : Int))] 3 (0, 0))] :: [(g8, .cells #[.slice none 0 0, .slice none 0 0] 56 (0, 0))] :: [(g1, .cells #[.int .i64 p1.Road.Nodes, .slice A1 p1.Road.Edges.length c1, .slice A2 p1.Vehicles.length c2, .slice A3 p1.Demands.length c3, .int .i64 p1.Unload, .int .i64 p1.UnloadSecs] 28 (0, 0))] :: [(g2, .cells #[.slice none 0 0, .slice A10 f5.length c10] 56 (0, 0))] :: [(g3, .cells #[.slice none 0 0, .slice A11 f6.length c11] 56 (0, 0))] :: ch8 :: L)) hz3 fun A12 c12 ch9 hO9 => ?_)))
    refine ⟨Kept.more (Kept.more (Kept.more (Kept.refl))), ?_⟩
    refine P_some rfl (PL_f rfl (O_append rfl (sem_appR (r := rInt) Tt_ok rfl rfl rfl rfl (by decide) rfl rfl 0 rfl hO9 rfl (Own.rds (L := (ch9 :: [(g7, .cells #[.int .i64 (Int.tmod (w64 (k1)) ((p1.Demands.length : Nat) : Int))] 3 (0, 0))] :: [(g8, .cells #[.slice none 0 0, .slice none 0 0] 56 (0, 0))] :: [(g1, .cells #[.int .i64 p1.Road.Nodes, .slice A1 p1.Road.Edges.length c1, .slice A2 p1.Vehicles.length c2, .slice A3 p1.Demands.length c3, .int .i64 p1.Unload, .int .i64 p1.UnloadSecs] 28 (0, 0))] :: [(g2, .cells #[.slice none 0 0, .slice A10 f5.length c10] 56 (0, 0))] :: [(g3, .cells #[.slice none 0 0, .slice A11 f6.length c11] 56 (0, 0))] :: ch8 :: L)) (Own.lit (r := rInt) (e := 3) (g := g7) (xs := [Int.tmod (w64 (k1)) ((p1.Demands.length : Nat) : Int)]) (cs := [.int .i64 (Int.tmod (w64 (k1)) ((p1.Demands.length : Nat) : Int))]) (css := [[.int .i64 (Int.tmod (w64 (k1)) ((p1.Demands.length : Nat) : Int))]]) rfl (All2.cons (rfl) (All2.nil)) rfl rfl) 1 rfl) hz4 fun A13 c13 ch10 hO10 => ?_)))
    refine ⟨Kept.more (Kept.more (Kept.more (Kept.refl))), ?_⟩
    refine Pt rfl rfl (R_build rfl rfl rfl rfl (F_cons (cells' := [.slice none 0 0, .slice A13 l4.length c13]) rfl rfl rfl rfl (F_nil (P_some rfl (PL_f rfl (O_store (vs := [.slice none 0 0, .slice A13 l4.length c13]) rfl rfl rfl rfl rfl rfl (ST_ (L' := (ch10 :: [(g7, .cells #[.int .i64 (Int.tmod (w64 (k1)) ((p1.Demands.length : Nat) : Int))] 3 (0, 0))] :: [(g8, .cells #[.slice none 0 0, .slice A13 l4.length c13] 56 (0, 0))] :: [(g1, .cells #[.int .i64 p1.Road.Nodes, .slice A1 p1.Road.Edges.length c1, .slice A2 p1.Vehicles.length c2, .slice A3 p1.Demands.length c3, .int .i64 p1.Unload, .int .i64 p1.UnloadSecs] 28 (0, 0))] :: [(g2, .cells #[.slice none 0 0, .slice A10 f5.length c10] 56 (0, 0))] :: [(g3, .cells #[.slice none 0 0, .slice A11 f6.length c11] 56 (0, 0))] :: ch8 :: L)) 2 0 rfl rfl rfl rfl ?_)))))))
    refine ⟨Kept.more (Kept.more (Kept.more (Kept.refl))), ?_⟩
    refine P_none (PL_nil (AN.done0 (by kernel_rfl) ?_))
    have e_ := Option.some.inj h9320
    subst e_
    exact ⟨l4, g8, A13, c13, ch10, rfl, SubFr.of ⟨rfl, rfl, rfl, trivial⟩, SegSub.sel _ [some 3, some 5, some 6, some 2, some 0] 7, (hO10)⟩
  rintro fr9320 μ9320 L9320 hm9320 ⟨f7, g9, A14, c14, ch11, ho9320, hF9320, hS9320, hO11⟩
  subst ho9320
  replace hA1 := hA1.mono hm9320
  replace hA2 := hA2.mono hm9320
  replace hA3 := hA3.mono hm9320
  replace hO7 := hO7.mono hm9320
  replace hO8 := hO8.mono hm9320
  replace hA4 := hA4.mono hm9320
  refine hK9169 _ _ _ (WP.at hF9320 hS9320 (WP.seq_k (fun K9610 hK9610 => ?_)))
  obtain ⟨o9611, h9611, h⟩ := obind h
  refine WP.cutK (fun fr_ μ_ L_ => ∃ (v15 : Bool), v15 = o9611 ∧ SubFr [(4, .bool v15)] fr_ ∧ SegSub (L) L_) ?_ ?_
  · refine Wr Tt_ok rfl (R_loadA rfl rfl rfl rfl (LA_ (vs := [.int .i64 p1.Road.Nodes, .slice A1 p1.Road.Edges.length c1, .slice A2 p1.Vehicles.length c2, .slice A3 p1.Demands.length c3, .int .i64 p1.Unload, .int .i64 p1.UnloadSecs]) 0 0 rfl rfl rfl rfl (Pc rfl rfl (R_loadA rfl rfl rfl rfl (LA_ (vs := [.slice none 0 0, .slice A11 f6.length c11]) 1 0 rfl rfl rfl rfl (P_some rfl (O_cons (O_call (all := [.agg #[.int .i64 p1.Road.Nodes, .slice A1 p1.Road.Edges.length c1, .slice A2 p1.Vehicles.length c2, .slice A3 p1.Demands.length c3, .int .i64 p1.Unload, .int .i64 p1.UnloadSecs], .agg #[.slice none 0 0, .slice A11 f6.length c11]]) rfl rfl rfl ?_))))))))
    have hl5 := Own.lenOk hO8
    refine Fn.pre Try.func25 (by kernel_rfl) rfl (Upd.frzOwn 2 rfl hO8 fun v10 hm_7 hA5 => Upd.done ?_)
    replace hA1 := hA1.mono hm_7
    replace hA2 := hA2.mono hm_7
    replace hA3 := hA3.mono hm_7
    replace hO7 := hO7.mono hm_7
    replace hO8 := hO8.mono hm_7
    replace hA4 := hA4.mono hm_7
    replace hO11 := hO11.mono hm_7
    obtain ⟨r8, hx7, h9611⟩ := obind h9611
    refine tour_Feasible_fn hl1 hA1 hl2 hA2 hl3 hA3 ⟨Nat.le_refl _, Nat.zero_le _⟩ ArrR.nil hl5 hA5 hx7 (fun v11 hm_8 => ?_)
    replace hA1 := hA1.mono hm_8
    replace hA2 := hA2.mono hm_8
    replace hA3 := hA3.mono hm_8
    replace hO7 := hO7.mono hm_8
    replace hO8 := hO8.mono hm_8
    replace hA4 := hA4.mono hm_8
    replace hO11 := hO11.mono hm_8
    replace hA5 := hA5.mono hm_8
    refine Pc rfl rfl (R_eqlD rfl rfl (Pc rfl rfl (R_move rfl (P_some rfl ?_))))
    refine O_gv (z := (decide (r8 = 38))) rfl rfl (fun hc9 => ?_) (fun hc9 => ?_)
    · replace h9611 := cond_t hc9 h9611
      refine O_read rfl (R_loadA rfl rfl rfl rfl (LA_ (vs := [.int .i64 p1.Road.Nodes, .slice A1 p1.Road.Edges.length c1, .slice A2 p1.Vehicles.length c2, .slice A3 p1.Demands.length c3, .int .i64 p1.Unload, .int .i64 p1.UnloadSecs]) 0 0 rfl rfl rfl rfl (P_some rfl (O_gY rfl rfl hc9 (O_read rfl (R_loadA rfl rfl rfl rfl (LA_ (vs := [.slice none 0 0, .slice A14 f7.length c14]) 3 0 rfl rfl rfl rfl (P_some rfl (O_gY rfl rfl hc9 (O_call (all := [.agg #[.int .i64 p1.Road.Nodes, .slice A1 p1.Road.Edges.length c1, .slice A2 p1.Vehicles.length c2, .slice A3 p1.Demands.length c3, .int .i64 p1.Unload, .int .i64 p1.UnloadSecs], .agg #[.slice none 0 0, .slice A14 f7.length c14]]) rfl rfl rfl ?_))))))))))
      have hl6 := Own.lenOk hO11
      refine Fn.pre Try.func25 (by kernel_rfl) rfl (Upd.frzOwn 4 rfl hO11 fun v12 hm_9 hA6 => Upd.done ?_)
      replace hA1 := hA1.mono hm_9
      replace hA2 := hA2.mono hm_9
      replace hA3 := hA3.mono hm_9
      replace hO7 := hO7.mono hm_9
      replace hO8 := hO8.mono hm_9
      replace hA4 := hA4.mono hm_9
      replace hO11 := hO11.mono hm_9
      replace hA5 := hA5.mono hm_9
      obtain ⟨r9, hx8, h9611⟩ := obind h9611
      refine tour_Feasible_fn hl1 hA1 hl2 hA2 hl3 hA3 ⟨Nat.le_refl _, Nat.zero_le _⟩ ArrR.nil hl6 hA6 hx8 (fun v13 hm_10 => ?_)
      replace hA1 := hA1.mono hm_10
      replace hA2 := hA2.mono hm_10
      replace hA3 := hA3.mono hm_10
      replace hO7 := hO7.mono hm_10
      replace hO8 := hO8.mono hm_10
      replace hA4 := hA4.mono hm_10
      replace hO11 := hO11.mono hm_10
      replace hA5 := hA5.mono hm_10
      replace hA6 := hA6.mono hm_10
      refine P_some rfl (O_gY rfl rfl hc9 (O_read rfl (R_eqlD rfl rfl (Pc rfl rfl (R_pick_T rfl hc9 rfl (Pc rfl rfl (R_move rfl (P_some rfl ?_))))))))
      refine O_gv (z := (decide (r9 = 6))) rfl rfl (fun hc10 => ?_) (fun hc10 => ?_)
      · replace h9611 := cond_t hc10 h9611
        apply O_call (all := []); exact rfl; exact rfl; exact rfl
        obtain ⟨r10, hx9, h9611⟩ := obind h9611
        refine recyclinglaw22_awake_fn  hx9 (fun v14 hm_11 => ?_)
        replace hA1 := hA1.mono hm_11
        replace hA2 := hA2.mono hm_11
        replace hA3 := hA3.mono hm_11
        replace hO7 := hO7.mono hm_11
        replace hO8 := hO8.mono hm_11
        replace hA4 := hA4.mono hm_11
        replace hO11 := hO11.mono hm_11
        replace hA5 := hA5.mono hm_11
        replace hA6 := hA6.mono hm_11
        refine Pc rfl rfl (R_pick_T rfl hc10 rfl (Pc rfl rfl (R_assign rfl (Pn rfl ?_))))
        have e_ := Option.some.inj h9611
        subst e_
        exact ⟨r10, rfl, SubFr.of ⟨rfl, trivial⟩, SegSub.sel _ [] 5⟩
      replace h9611 := cond_f hc10 h9611
      refine Pc rfl rfl (R_pick_F rfl hc10 rfl (Pc rfl rfl (R_assign rfl (Pn rfl ?_))))
      have e_ := Option.some.inj h9611
      subst e_
      exact ⟨false, rfl, SubFr.of ⟨rfl, trivial⟩, SegSub.sel _ [] 5⟩
    replace h9611 := cond_f hc9 h9611
    refine P_some rfl (O_gN rfl rfl hc9 (P_some rfl (O_gN rfl rfl hc9 (P_some rfl (O_gN rfl rfl hc9 (Pc rfl rfl (R_pick_F rfl hc9 rfl (Pc rfl rfl (R_move rfl (P_some rfl (O_gN rfl rfl rfl (P_some rfl (O_cons ?_)))))))))))))
    refine O_read rfl (R_pick_F rfl rfl rfl (Pc rfl rfl (R_assign rfl (Pn rfl ?_))))
    have e_ := Option.some.inj h9611
    subst e_
    exact ⟨false, rfl, SubFr.of ⟨rfl, trivial⟩, SegSub.sel _ [] 5⟩
  rintro fr9611 μ9611 L9611 hm9611 ⟨v15, ho9611, hF9611, hS9611⟩
  subst ho9611
  replace hA1 := hA1.mono hm9611
  replace hA2 := hA2.mono hm9611
  replace hA3 := hA3.mono hm9611
  replace hO7 := hO7.mono hm9611
  replace hO8 := hO8.mono hm9611
  replace hA4 := hA4.mono hm9611
  replace hO11 := hO11.mono hm9611
  refine hK9610 _ _ _ (WP.at hF9611 hS9611 (WP.ret ?_))
  have e_ := Option.some.inj h
  subst e_
  refine S_tmp rfl (S_nil (Upd.selS [] 0 ?_))
  exact Upd.done (hR _ (Gh.le.trans hm9059 (Gh.le.trans hm9073 (Gh.le.trans hm_3 (Gh.le.trans hm_4 (Gh.le.trans hm9158 (Gh.le.trans hm9320 (hm9611))))))))

end Go.Proofs.Ytjbminmhndgiaaa
