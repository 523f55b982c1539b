/- ExactServes: for every input the given law returns true, and its arguments read as before. No condition. -/
import Derived.Test.YtilbengnjgglhaaGreatc2x1
import Derived.Test.YtilbengnjgglhaaGreatc2x3
import Derived.Test.YtilbengnjgglhaaGreatc2x5
import Derived.Test.YtilbengnjgglhaaGreatc2x6
import Derived.Test.YtilbengnjgglhaaGreatc2x2
namespace Go.Proofs.YtilbengnjgglhaaGreat
open Go.RowKit
set_option linter.unusedSimpArgs false
set_option linter.unusedVariables false
set_option maxHeartbeats 2000000
set_option maxRecDepth 4000
attribute [local irreducible] WP YV WH Fn AN Upd vcR vcO Qa7 ZN Zv Vn Vs Qa4 VY ZW QaG QI KS
variable {μ:Gh} {L:List Seg} {R:Value→Gh→List Seg→Prop}
theorem Qac {F:Nat} {t1:Qw} {x1:Qk} {A1:Option Addr} {c1:Nat} {A2:Option Addr} {c2:Nat} {A3:Option Addr} {c3:Nat} {A4:Option Addr} {c4:Nat} {A5:Option Addr} {c5:Nat} {A6:Option Addr} {c6:Nat} {A7:Option Addr} {c7:Nat} {res1:Qp}
  (hl1:t1.P.Road.Edges.length≤c1∧c1≤maxLen) (hA1:Qj Qv μ A1 t1.P.Road.Edges) (hl2:t1.P.Vehicles.length≤c2∧c2≤maxLen) (hA2:Qj Qq μ A2 t1.P.Vehicles) (hl3:t1.P.Demands.length≤c3∧c3≤maxLen) (hA3:Qj Qr μ A3 t1.P.Demands) (hl4:t1.Demands.length≤c4∧c4≤maxLen) (hA4:Qj QD μ A4 t1.Demands) (hl5:t1.Legs.length≤c5∧c5≤maxLen) (hA5:Qj (Qbv QC) μ A5 t1.Legs) (hl6:x1.Stops.length≤c6∧c6≤maxLen) (hA6:Qj QD μ A6 x1.Stops) (hl7:x1.Served.length≤c7∧c7≤maxLen) (hA7:Qj W0 μ A7 x1.Served) (h:Yj F t1 x1=some res1)
  (hR: ∀(μ':Gh) (A0_2:Option Addr) (c0_2:Nat),μ.le μ'→(res1.Stops.length≤c0_2∧c0_2≤maxLen)→Qj QD μ' A0_2 res1.Stops→R (.agg #[.bool res1.Ok,.int .i64 res1.Cost,.slice A0_2 res1.Stops.length c0_2]) μ' (L)) :
  Fn Tryz.prog 35 [.agg #[.int .i64 t1.P.Road.Nodes,.slice A1 t1.P.Road.Edges.length c1,.slice A2 t1.P.Vehicles.length c2,.slice A3 t1.P.Demands.length c3,.int .i64 t1.P.Unload,.int .i64 t1.P.UnloadSecs,.string t1.V.ID,.int .i64 t1.V.Depot,.int .i64 t1.V.Shift.From,.int .i64 t1.V.Shift.To,.int .i64 t1.V.Grams,.int .i64 t1.V.Kinds,.slice A4 t1.Demands.length c4,.slice A5 t1.Legs.length c5],.agg #[.slice A6 x1.Stops.length c6,.slice A7 x1.Served.length c7,.int .i64 x1.At,.int .i64 x1.Time,.int .i64 x1.Load,.int .i64 x1.Meters]] μ (L) R:=by
 induction F generalizing μ L R t1 x1 A1 c1 A2 c2 A3 c3 A4 c4 A5 c5 A6 c6 A7 c7 res1 with
 | zero=>cases h
 | succ F ih =>
 unfold Yj Jz at h;refine FnS Tryz.func35 (by kernel_rfl) E Tryz.ntmps35 E E ?_;refine G0 2 E (Al E fun g1=>Q0 0 E (Al E fun g2=>Q0 0 E (Al E fun g3=>Q0 4 E (Al E fun g4=>Q1 11 [0] E ?_))));refine Cut h (fun f l o_ f_ μ_ l_=> ∃(f7:Bool) (f8:Int) (f9:(List Int)) (all3:Bool) (A18:Option Addr) (c18:Nat),(f7,f8,f9,all3)=o_∧Qg ((6,.bool all3)::Qm [2,3,4,5] f) f_∧Qc ([(g1,.cells #[.int .i64 t1.P.Road.Nodes,.slice A1 t1.P.Road.Edges.length c1,.slice A2 t1.P.Vehicles.length c2,.slice A3 t1.P.Demands.length c3,.int .i64 t1.P.Unload,.int .i64 t1.P.UnloadSecs,.string t1.V.ID,.int .i64 t1.V.Depot,.int .i64 t1.V.Shift.From,.int .i64 t1.V.Shift.To,.int .i64 t1.V.Grams,.int .i64 t1.V.Kinds,.slice A4 t1.Demands.length c4,.slice A5 t1.Legs.length c5] 76 (0,0))]::[(g2,.cells #[.slice A6 x1.Stops.length c6,.slice A7 x1.Served.length c7,.int .i64 x1.At,.int .i64 x1.Time,.int .i64 x1.Load,.int .i64 x1.Meters] 81 (0,0))]::[(g3,.cells #[.bool false,.int .i64 0,.slice none 0 0] 49 (0,0))]::[(g4,.cells #[.bool f7,.int .i64 f8,.slice A18 f9.length c18] 49 (0,0))]::QS [] 4 l) l_∧(f9.length≤c18∧c18≤maxLen)∧Qj QD μ_ A18 f9) ?_ ?_
 ·intro _ h10131 h;refine Lp h10131 (fun f l (j_:Bool×Int×(List Int)×Bool×Int) f_ μ_ l_=>JT j_ fun f1 j_=>JT j_ fun f2 j_=>JT j_ fun f3 j_=>JT j_ fun all1 i1=> ∃(A8:Option Addr) (c8:Nat),Qg ((6,.bool all1)::(7,.int .i64 i1)::Qm [2,3,4,5] f) f_∧Qc ([(g1,.cells #[.int .i64 t1.P.Road.Nodes,.slice A1 t1.P.Road.Edges.length c1,.slice A2 t1.P.Vehicles.length c2,.slice A3 t1.P.Demands.length c3,.int .i64 t1.P.Unload,.int .i64 t1.P.UnloadSecs,.string t1.V.ID,.int .i64 t1.V.Depot,.int .i64 t1.V.Shift.From,.int .i64 t1.V.Shift.To,.int .i64 t1.V.Grams,.int .i64 t1.V.Kinds,.slice A4 t1.Demands.length c4,.slice A5 t1.Legs.length c5] 76 (0,0))]::[(g2,.cells #[.slice A6 x1.Stops.length c6,.slice A7 x1.Served.length c7,.int .i64 x1.At,.int .i64 x1.Time,.int .i64 x1.Load,.int .i64 x1.Meters] 81 (0,0))]::[(g3,.cells #[.bool false,.int .i64 0,.slice none 0 0] 49 (0,0))]::[(g4,.cells #[.bool f1,.int .i64 f2,.slice A8 f3.length c8] 49 (0,0))]::QS [] 4 l) l_∧(f3.length≤c8∧c8≤maxLen)∧Qj QD μ_ A8 f3) ⟨none,0,fE E,sE [some 3,some 2,some 1,some 0] 4 E,(⟨Nat.le_refl _,Nat.zero_le _⟩),(Qj.nil)⟩ ?_;rintro ⟨f1,f2,f3,all1,i1⟩ _ _ _ _ hm10212 ⟨A8,c8,hF10212,hS10212,hl8,hA8⟩ hb10212 hq10212;unfold QO at hb10212;replace hb10212:=Qh hb10212;replace hb10212:=Qh hb10212;replace hb10212:=Qh hb10212;replace hb10212:=Qh hb10212;replace hA1:=hA1.mono hm10212;replace hA2:=hA2.mono hm10212;replace hA3:=hA3.mono hm10212;replace hA4:=hA4.mono hm10212;replace hA5:=hA5.mono hm10212;replace hA6:=hA6.mono hm10212;replace hA7:=hA7.mono hm10212;refine Atn 4 hF10212 hS10212 E E (G1 9 [0] E ?_);refine Br hb10212 19 E E (fun hc1 hb10212=> ?_) (fun hc1 hb10212=> ?_)
  ·refine G2 3 [19] [] [] E ?_;refine Cut hb10212 (fun f l o_ f_ μ_ l_=> ∃(f4:Bool) (f5:Int) (f6:(List Int)) (all2:Bool) (A17:Option Addr) (c17:Nat),(f4,f5,f6,all2)=o_∧Qg ((6,.bool all2)::Qm [2,3,4,5,7] f) f_∧Qc ([(g1,.cells #[.int .i64 t1.P.Road.Nodes,.slice A1 t1.P.Road.Edges.length c1,.slice A2 t1.P.Vehicles.length c2,.slice A3 t1.P.Demands.length c3,.int .i64 t1.P.Unload,.int .i64 t1.P.UnloadSecs,.string t1.V.ID,.int .i64 t1.V.Depot,.int .i64 t1.V.Shift.From,.int .i64 t1.V.Shift.To,.int .i64 t1.V.Grams,.int .i64 t1.V.Kinds,.slice A4 t1.Demands.length c4,.slice A5 t1.Legs.length c5] 76 (0,0))]::[(g2,.cells #[.slice A6 x1.Stops.length c6,.slice A7 x1.Served.length c7,.int .i64 x1.At,.int .i64 x1.Time,.int .i64 x1.Load,.int .i64 x1.Meters] 81 (0,0))]::[(g3,.cells #[.bool false,.int .i64 0,.slice none 0 0] 49 (0,0))]::[(g4,.cells #[.bool f4,.int .i64 f5,.slice A17 f6.length c17] 49 (0,0))]::QS [] 4 l) l_∧(f6.length≤c17∧c17≤maxLen)∧Qj QD μ_ A17 f6) ?_ ?_
   ·intro _ h10227 hb10212;refine G1 7 [1] E (Ix h10227 (Qj.rds hA7 L) E E fun _ _ _ _ hr1 hc2 _ h10227=> ?_);obtain rfl:=hr1;refine Q3 2 [] [] [64] (Z1 (hc2.push.push.push.push)) E ?_;refine Br h10227 26 E E (fun hc3 h10227=> ?_) (fun hc3 h10227=> ?_)
    ·refine G2 2 [26] [] [] E ?_;cases h10227;exact Ce E ⟨_,_,_,_,A8,c8,rfl,fE E,sE [some 0,some 1,some 2,some 3] 4 E,(hl8),(hA8)⟩
    refine G2 11 [] [26] [0,1] E (Cl E ?_);obtain ⟨⟨r1,_⟩,hx2,h10227⟩:=Qf h10227;replace h10227:=Qh h10227;refine Qad hl1 hA1 hl2 hA2 hl3 hA3 hl4 hA4 hl5 hA5 hl6 hA6 hl7 hA7 hx2 (fun _ A9 c9 A10 c10 hm_1 hl9 hA10 hl10 hA11=> ?_);replace hA1:=hA1.mono hm_1;replace hA2:=hA2.mono hm_1;replace hA3:=hA3.mono hm_1;replace hA4:=hA4.mono hm_1;replace hA5:=hA5.mono hm_1;replace hA6:=hA6.mono hm_1;replace hA7:=hA7.mono hm_1;replace hA8:=hA8.mono hm_1;refine Q0 3 E (Al E fun g5=>Q1 9 [0] E ?_);refine Br h10227 35 E E (fun hc4 h10227=> ?_) (fun hc4 h10227=> ?_)
    ·refine G2 2 [35] [] [] E ?_;cases h10227;exact Ce E ⟨_,_,_,_,A8,c8,rfl,fE E,sE [some 1,some 2,some 3,some 4] 5 E,(hl8),(hA8)⟩
    refine G2 3 [] [35] [] E (Cd (WP.drawB (id:=10) (l':=List.replicate 5 true++[false]) QeL QU _ QI.refl 5 [] [(true,0),(true,1),(true,2),(false,3),(false,4)] (by kernel_rfl) (by kernel_rfl) [] E (by kernel_rfl) (by kernel_rfl) (Qct E (Wb E E E E (LA_ (vs:=[.bool f1,.int .i64 f2,.slice A8 f3.length c8]) 4 0 E E E E (Pt E E (Wb E E E E (LA_ (vs:=[.int .i64 t1.P.Road.Nodes,.slice A1 t1.P.Road.Edges.length c1,.slice A2 t1.P.Vehicles.length c2,.slice A3 t1.P.Demands.length c3,.int .i64 t1.P.Unload,.int .i64 t1.P.UnloadSecs,.string t1.V.ID,.int .i64 t1.V.Depot,.int .i64 t1.V.Shift.From,.int .i64 t1.V.Shift.To,.int .i64 t1.V.Grams,.int .i64 t1.V.Kinds,.slice A4 t1.Demands.length c4,.slice A5 t1.Legs.length c5]) 1 0 E E E E ?_))))))));refine Pt E E (Wb E E E E (LA_ (vs:=[.slice A9 r1.Stops.length c9,.slice A10 r1.Served.length c10,.int .i64 r1.At,.int .i64 r1.Time,.int .i64 r1.Load,.int .i64 r1.Meters]) 0 0 E E E E (Yc E (WV E (Qbc (all:=[.agg #[.int .i64 t1.P.Road.Nodes,.slice A1 t1.P.Road.Edges.length c1,.slice A2 t1.P.Vehicles.length c2,.slice A3 t1.P.Demands.length c3,.int .i64 t1.P.Unload,.int .i64 t1.P.UnloadSecs,.string t1.V.ID,.int .i64 t1.V.Depot,.int .i64 t1.V.Shift.From,.int .i64 t1.V.Shift.To,.int .i64 t1.V.Grams,.int .i64 t1.V.Kinds,.slice A4 t1.Demands.length c4,.slice A5 t1.Legs.length c5],.agg #[.slice A9 r1.Stops.length c9,.slice A10 r1.Served.length c10,.int .i64 r1.At,.int .i64 r1.Time,.int .i64 r1.Load,.int .i64 r1.Meters]]) E E E ?_)))));obtain ⟨r3,hx3,h10227⟩:=Qf h10227;refine ih hl1 hA1 hl2 hA2 hl3 hA3 hl4 hA4 hl5 hA5 hl9 hA10 hl10 hA11 hx3 (fun _ A11 c11 hm_2 hl11 hA12=> ?_);replace hA1:=hA1.mono hm_2;replace hA2:=hA2.mono hm_2;replace hA3:=hA3.mono hm_2;replace hA4:=hA4.mono hm_2;replace hA5:=hA5.mono hm_2;replace hA6:=hA6.mono hm_2;replace hA7:=hA7.mono hm_2;replace hA8:=hA8.mono hm_2;replace hA10:=hA10.mono hm_2;replace hA11:=hA11.mono hm_2;refine ⟨QI.refl,?_⟩;refine Yc E (WV E (Qbc (all:=[.agg #[.bool f1,.int .i64 f2,.slice A8 f3.length c8],.agg #[.bool r3.Ok,.int .i64 r3.Cost,.slice A11 r3.Stops.length c11]]) E E E ?_));obtain ⟨r4,hx4,h10227⟩:=Qf h10227;refine Jq hl8 hA8 hl11 hA12 hx4 (fun A12 c12 hl12 hA13=> ?_);refine ⟨QI.refl,?_⟩;refine Yc E (J1 (Qep E (Q5 (vs:=[.bool r4.Ok,.int .i64 r4.Cost,.slice A12 r4.Stops.length c12]) E E E E E E (ST_ (L':=([(g5,.cells #[.slice A9 r1.Stops.length c9,.slice A10 r1.Served.length c10,.int .i64 r1.At,.int .i64 r1.Time,.int .i64 r1.Load,.int .i64 r1.Meters] 81 (0,0))]::[(g1,.cells #[.int .i64 t1.P.Road.Nodes,.slice A1 t1.P.Road.Edges.length c1,.slice A2 t1.P.Vehicles.length c2,.slice A3 t1.P.Demands.length c3,.int .i64 t1.P.Unload,.int .i64 t1.P.UnloadSecs,.string t1.V.ID,.int .i64 t1.V.Depot,.int .i64 t1.V.Shift.From,.int .i64 t1.V.Shift.To,.int .i64 t1.V.Grams,.int .i64 t1.V.Kinds,.slice A4 t1.Demands.length c4,.slice A5 t1.Legs.length c5] 76 (0,0))]::[(g2,.cells #[.slice A6 x1.Stops.length c6,.slice A7 x1.Served.length c7,.int .i64 x1.At,.int .i64 x1.Time,.int .i64 x1.Load,.int .i64 x1.Meters] 81 (0,0))]::[(g3,.cells #[.bool false,.int .i64 0,.slice none 0 0] 49 (0,0))]::[(g4,.cells #[.bool r4.Ok,.int .i64 r4.Cost,.slice A12 r4.Stops.length c12] 49 (0,0))]::L)) 4 0 E E E E ?_))));refine JS (G1 4 [1,0] E (Cl E ?_));obtain ⟨⟨r5,_⟩,hx5,h10227⟩:=Qf h10227;replace h10227:=Qh h10227;refine VM hl1 hA1 hl2 hA2 hl3 hA3 hl4 hA4 hl5 hA5 hl9 hA10 hl10 hA11 hx5 (fun _ A13 c13 A14 c14 hm_3 hl13 hA14 hl14 hA15=> ?_);replace hA1:=hA1.mono hm_3;replace hA2:=hA2.mono hm_3;replace hA3:=hA3.mono hm_3;replace hA4:=hA4.mono hm_3;replace hA5:=hA5.mono hm_3;replace hA6:=hA6.mono hm_3;replace hA7:=hA7.mono hm_3;replace hA8:=hA8.mono hm_3;replace hA13:=hA13.mono hm_3;refine Q0 3 E (Al E fun g6=>Q1 7 [0] E ?_);refine Br h10227 47 E E (fun hc5 h10227=> ?_) (fun hc5 h10227=> ?_)
    ·refine G2 1 [47] [] [] E (Cd (WP.drawB (id:=13) (l':=List.replicate 5 true++[false]) QeL QU _ QI.refl 5 [] [(true,0),(true,1),(true,2),(false,3),(false,4)] (by kernel_rfl) (by kernel_rfl) [] E (by kernel_rfl) (by kernel_rfl) (Qct E (Wb E E E E (LA_ (vs:=[.bool r4.Ok,.int .i64 r4.Cost,.slice A12 r4.Stops.length c12]) 5 0 E E E E (Pt E E (Wb E E E E (LA_ (vs:=[.int .i64 t1.P.Road.Nodes,.slice A1 t1.P.Road.Edges.length c1,.slice A2 t1.P.Vehicles.length c2,.slice A3 t1.P.Demands.length c3,.int .i64 t1.P.Unload,.int .i64 t1.P.UnloadSecs,.string t1.V.ID,.int .i64 t1.V.Depot,.int .i64 t1.V.Shift.From,.int .i64 t1.V.Shift.To,.int .i64 t1.V.Grams,.int .i64 t1.V.Kinds,.slice A4 t1.Demands.length c4,.slice A5 t1.Legs.length c5]) 2 0 E E E E ?_))))))));refine Pt E E (Wb E E E E (LA_ (vs:=[.slice A13 r5.Stops.length c13,.slice A14 r5.Served.length c14,.int .i64 r5.At,.int .i64 r5.Time,.int .i64 r5.Load,.int .i64 r5.Meters]) 0 0 E E E E (Yc E (WV E (Qbc (all:=[.agg #[.int .i64 t1.P.Road.Nodes,.slice A1 t1.P.Road.Edges.length c1,.slice A2 t1.P.Vehicles.length c2,.slice A3 t1.P.Demands.length c3,.int .i64 t1.P.Unload,.int .i64 t1.P.UnloadSecs,.string t1.V.ID,.int .i64 t1.V.Depot,.int .i64 t1.V.Shift.From,.int .i64 t1.V.Shift.To,.int .i64 t1.V.Grams,.int .i64 t1.V.Kinds,.slice A4 t1.Demands.length c4,.slice A5 t1.Legs.length c5],.agg #[.slice A13 r5.Stops.length c13,.slice A14 r5.Served.length c14,.int .i64 r5.At,.int .i64 r5.Time,.int .i64 r5.Load,.int .i64 r5.Meters]]) E E E ?_)))));obtain ⟨r7,hx6,h10227⟩:=Qf h10227;refine ih hl1 hA1 hl2 hA2 hl3 hA3 hl4 hA4 hl5 hA5 hl13 hA14 hl14 hA15 hx6 (fun _ A15 c15 hm_4 hl15 hA16=> ?_);replace hA1:=hA1.mono hm_4;replace hA2:=hA2.mono hm_4;replace hA3:=hA3.mono hm_4;replace hA4:=hA4.mono hm_4;replace hA5:=hA5.mono hm_4;replace hA6:=hA6.mono hm_4;replace hA7:=hA7.mono hm_4;replace hA8:=hA8.mono hm_4;replace hA13:=hA13.mono hm_4;refine ⟨QI.refl,?_⟩;refine Yc E (WV E (Qbc (all:=[.agg #[.bool r4.Ok,.int .i64 r4.Cost,.slice A12 r4.Stops.length c12],.agg #[.bool r7.Ok,.int .i64 r7.Cost,.slice A15 r7.Stops.length c15]]) E E E ?_));obtain ⟨r8,hx7,h10227⟩:=Qf h10227;refine Jq hl12 hA13 hl15 hA16 hx7 (fun A16 c16 hl16 hA17=> ?_);refine ⟨QI.refl,?_⟩;refine Yc E (J1 (Qep E (Q5 (vs:=[.bool r8.Ok,.int .i64 r8.Cost,.slice A16 r8.Stops.length c16]) E E E E E E (ST_ (L':=([(g6,.cells #[.slice A13 r5.Stops.length c13,.slice A14 r5.Served.length c14,.int .i64 r5.At,.int .i64 r5.Time,.int .i64 r5.Load,.int .i64 r5.Meters] 81 (0,0))]::[(g5,.cells #[.slice A9 r1.Stops.length c9,.slice A10 r1.Served.length c10,.int .i64 r1.At,.int .i64 r1.Time,.int .i64 r1.Load,.int .i64 r1.Meters] 81 (0,0))]::[(g1,.cells #[.int .i64 t1.P.Road.Nodes,.slice A1 t1.P.Road.Edges.length c1,.slice A2 t1.P.Vehicles.length c2,.slice A3 t1.P.Demands.length c3,.int .i64 t1.P.Unload,.int .i64 t1.P.UnloadSecs,.string t1.V.ID,.int .i64 t1.V.Depot,.int .i64 t1.V.Shift.From,.int .i64 t1.V.Shift.To,.int .i64 t1.V.Grams,.int .i64 t1.V.Kinds,.slice A4 t1.Demands.length c4,.slice A5 t1.Legs.length c5] 76 (0,0))]::[(g2,.cells #[.slice A6 x1.Stops.length c6,.slice A7 x1.Served.length c7,.int .i64 x1.At,.int .i64 x1.Time,.int .i64 x1.Load,.int .i64 x1.Meters] 81 (0,0))]::[(g3,.cells #[.bool false,.int .i64 0,.slice none 0 0] 49 (0,0))]::[(g4,.cells #[.bool r8.Ok,.int .i64 r8.Cost,.slice A16 r8.Stops.length c16] 49 (0,0))]::L)) 5 0 E E E E ?_))));refine JS (G0 1 E ?_);cases h10227;exact Ce E ⟨_,_,_,_,A16,c16,rfl,fE E,sE [some 2,some 3,some 4,some 5] 6 E,(hl16),(hA17)⟩
    refine G2 3 [] [47] [] E ?_;cases h10227;exact Ce E ⟨_,_,_,_,A12,c12,rfl,fE E,sE [some 2,some 3,some 4,some 5] 6 E,(hl12),(hA13)⟩
   rintro _ _ _ _ hb10212 hm10227 ⟨f4,f5,f6,all2,A17,c17,rfl,hF10227,hS10227,hl17,hA18⟩;replace hb10212:=Qh hb10212;replace hb10212:=Qh hb10212;replace hb10212:=Qh hb10212;replace hA1:=hA1.mono hm10227;replace hA2:=hA2.mono hm10227;replace hA3:=hA3.mono hm10227;replace hA4:=hA4.mono hm10227;replace hA5:=hA5.mono hm10227;replace hA6:=hA6.mono hm10227;replace hA7:=hA7.mono hm10227;replace hA8:=hA8.mono hm10227;refine Atn 4 hF10227 hS10227 E E (G0 5 E ?_);cases hb10212;exact Ce E ⟨_,rfl,A17,c17,fE E,sE [some 0,some 1,some 2,some 3] 4 E,(hl17),(hA18)⟩
  refine G2 2 [] [19] [] E ?_;cases hb10212;have hq_:=hq10212 _ E;subst hq_;exact Ce E ⟨_,_,_,_,A8,c8,rfl,fE E,sE [some 0,some 1,some 2,some 3] 4 E,(hl8),(hA8)⟩
 rintro _ _ _ _ h hm10131 ⟨f7,f8,f9,all3,A18,c18,rfl,hF10131,hS10131,hl18,hA19⟩;replace h:=Qh h;replace h:=Qh h;replace h:=Qh h;replace hA1:=hA1.mono hm10131;replace hA2:=hA2.mono hm10131;replace hA3:=hA3.mono hm10131;replace hA4:=hA4.mono hm10131;replace hA5:=hA5.mono hm10131;replace hA6:=hA6.mono hm10131;replace hA7:=hA7.mono hm10131;refine Atn 4 hF10131 hS10131 E E (G0 2 E ?_);refine Cut h (fun f l o_ f_ μ_ l_=> ∃(v5:Bool),v5=o_∧Qg ((59,.bool v5)::Qm [2,3,4,5] f) f_∧Qc l l_) ?_ ?_
 ·intro _ h10303 h;refine G0 4 E ?_;refine Br h10303 55 E E (fun hc6 h10303=> ?_) (fun hc6 h10303=> ?_)
  ·refine G2 5 [55] [] [] E ?_;cases h10303;exact Ce E ⟨_,rfl,fE E,sE [some 0,some 1,some 2,some 3] 4 E⟩
  refine G2 5 [] [55] [1] E ?_;cases h10303;exact Ce E ⟨_,rfl,fE E,sE [some 0,some 1,some 2,some 3] 4 E⟩
 rintro _ _ _ _ h hm10303 ⟨v5,rfl,hF10303,hS10303⟩;replace hA1:=hA1.mono hm10303;replace hA2:=hA2.mono hm10303;replace hA3:=hA3.mono hm10303;replace hA4:=hA4.mono hm10303;replace hA5:=hA5.mono hm10303;replace hA6:=hA6.mono hm10303;replace hA7:=hA7.mono hm10303;replace hA19:=hA19.mono hm10303;refine Atn 4 hF10303 hS10303 E E ?_;refine Br h 59 E E (fun hc7 h=> ?_) (fun hc7 h=> ?_)
 ·refine G2 6 [59] [] [3,2] E ?_;cases h;exact Rt [2] E E (Ug [] 4 (hR _ A18 c18 (hm10131.trans hm10303) hl18 hA19))
 refine G2 6 [] [59] [0,1] E (Cl E ?_);obtain ⟨⟨r9,_⟩,hx8,h⟩:=Qf h;replace h:=Qh h;refine Jy hl1 hA1 hl2 hA2 hl3 hA3 hl4 hA4 hl5 hA5 hl6 hA6 hl7 hA7 hx8 (fun _ _ _ _ _ _ _ _=>Q0 3 E (Al E fun _=>Q1 5 [0] E ?_));refine Cut h (fun f l o_ f_ μ_ l_=> ∃(v6:Bool),v6=o_∧Qg ((76,.bool v6)::Qm [3,4,5,12] f) f_∧Qc (QS [some 2,some 3,some 4,some 0] 5 l) l_) ?_ ?_
 ·intro _ h10319 h;refine G0 3 E ?_;refine Br h10319 68 E E (fun hc8 h10319=> ?_) (fun hc8 h10319=> ?_)
  ·refine G2 9 [68] [] [0,1] E ?_;cases h10319;exact Ce E ⟨_,rfl,fE E,sE [some 2,some 3,some 4,some 0] 5 E⟩
  refine G2 9 [] [68] [] E ?_;cases h10319;exact Ce E ⟨_,rfl,fE E,sE [some 2,some 3,some 4,some 0] 5 E⟩
 rintro _ _ _ _ h hm10319 ⟨v6,rfl,hF10319,hS10319⟩;replace hA6:=hA6.mono hm10319;replace hA19:=hA19.mono hm10319;refine Atn 4 hF10319 hS10319 E E ?_;refine Cut h (fun f l o_ f_ μ_ l_=> ∃(f10:Bool) (f11:Int) (f12:(List Int)) (A22:Option Addr) (c22:Nat),(f10,f11,f12)=o_∧Qg (Qm [4,5] f) f_∧Qc ([(g3,.cells #[.bool false,.int .i64 0,.slice none 0 0] 49 (0,0))]::[(g4,.cells #[.bool f10,.int .i64 f11,.slice A22 f12.length c22] 49 (0,0))]::QS [] 4 l) l_∧(f12.length≤c22∧c22≤maxLen)∧Qj QD μ_ A22 f12) ?_ ?_
 ·intro _ h10328 h;refine Br h10328 76 E E (fun hc9 h10328=> ?_) (fun hc9 h10328=> ?_)
  ·refine G2 8 [76] [] [2,3,0] E (Cl E ?_);obtain ⟨_,hx9,h10328⟩:=Qf h10328;refine Jq (b1:=(Qp.mk true r9.Meters x1.Stops)) hl18 hA19 hl6 hA6 hx9 (fun A21 c21 hl21 hA22=>Q1 2 [2] E ?_);cases h10328;exact Ce E ⟨_,_,_,A21,c21,rfl,fE E,sE [some 1,some 2] 4 E,(hl21),(hA22)⟩
  refine G2 2 [] [76] [] E ?_;cases h10328;exact Ce E ⟨_,_,_,A18,c18,rfl,fE E,sE [some 1,some 2] 4 E,(hl18),(hA19)⟩
 rintro _ _ _ _ h hm10328 ⟨f10,f11,f12,A22,c22,rfl,hF10328,hS10328,hl22,hA23⟩;replace h:=Qh h;replace h:=Qh h;refine Atn 2 hF10328 hS10328 E E (G1 5 [1,0] E ?_);cases h;exact Rt [0] E E (Ug [] 2 (hR _ A22 c22 (hm10131.trans (hm10303.trans (hm10319.trans hm10328))) hl22 hA23))
theorem WR {F:Nat} {p1:Qb} {vehicle1:Int} {demands1:(List Int)} {A1:Option Addr} {c1:Nat} {A2:Option Addr} {c2:Nat} {A3:Option Addr} {c3:Nat} {A4:Option Addr} {c4:Nat} {res1:Qp}
  (hl1:p1.Road.Edges.length≤c1∧c1≤maxLen) (hA1:Qj Qv μ A1 p1.Road.Edges) (hl2:p1.Vehicles.length≤c2∧c2≤maxLen) (hA2:Qj Qq μ A2 p1.Vehicles) (hl3:p1.Demands.length≤c3∧c3≤maxLen) (hA3:Qj Qr μ A3 p1.Demands) (hl4:demands1.length≤c4∧c4≤maxLen) (hA4:Qj QD μ A4 demands1) (h:ZC F p1 vehicle1 demands1=some res1)
  (hR: ∀(μ':Gh) (A0_2:Option Addr) (c0_2:Nat),μ.le μ'→(res1.Stops.length≤c0_2∧c0_2≤maxLen)→Qj QD μ' A0_2 res1.Stops→R (.agg #[.bool res1.Ok,.int .i64 res1.Cost,.slice A0_2 res1.Stops.length c0_2]) μ' (L)) :
  Fn Tryz.prog 19 [.agg #[.int .i64 p1.Road.Nodes,.slice A1 p1.Road.Edges.length c1,.slice A2 p1.Vehicles.length c2,.slice A3 p1.Demands.length c3,.int .i64 p1.Unload,.int .i64 p1.UnloadSecs],.int .i64 vehicle1,.slice A4 demands1.length c4] μ (L) R:=by
 unfold ZC at h;refine FnS Tryz.func19 (by kernel_rfl) E Tryz.ntmps19 E E ?_;refine G0 2 E (Al E fun g1=>Q0 0 E (Al E fun g2=>Q1 6 [1] E (Cl E ?_)));obtain ⟨r1,hx1,h⟩:=Qf h;refine VL hl1 hA1 hl2 hA2 hl3 hA3 hl4 hA4 hx1 (fun _ A5 c5 A6 c6 A7 c7 A8 c8 A9 c9 hm_1 hl5 hA5 hl6 hA6 hl7 hA7 hl8 hA8 hl9 hA9=> ?_);refine Q0 0 E (Al E fun g3=>Q1 3 [0] E (Drk [1] 2 E [(true,0),(true,1),(true,2),(true,4),(true,5),(true,6),(true,7),(false,3),(true,8),(false,9),(false,10)] (by kernel_rfl) (G1 7 [0,0] E (So E (QdZ E E ?_)))));obtain ⟨_,hn1,h⟩:=Qf h;refine QdV (r:=W0) (z:=false) (zc:=[.bool false]) QU E E E E E (E) E hn1 fun _ _ _ hO1=> ?_;refine ⟨Kp [1,3] 4 E,?_⟩;refine Q0 1 E (Cl E ?_);have hl10:=Own.lenOk hO1;refine Fn.pre Tryz.func35 (by kernel_rfl) E (Upd.frzOwn 0 E hO1 fun _ hm_2 hA10=>Upd.done ?_);replace hA5:=hA5.mono hm_2;replace hA6:=hA6.mono hm_2;replace hA7:=hA7.mono hm_2;replace hA8:=hA8.mono hm_2;replace hA9:=hA9.mono hm_2;obtain ⟨r2,hx2,h⟩:=Qf h;refine Qac hl5 hA5 hl6 hA6 hl7 hA7 hl8 hA8 hl9 hA9 ⟨Nat.le_refl _,Nat.zero_le _⟩ Qj.nil hl10 hA10 hx2 (fun _ A11 c11 hm_3 hl11 hA11=> ?_);refine ⟨Kp [1,3] 4 E,?_⟩;refine Q0 0 E (So E (Q5 (vs:=[.bool r2.Ok,.int .i64 r2.Cost,.slice A11 r2.Stops.length c11]) E E E E E E (ST_ (L':=([]::[(g3,.cells #[.int .i64 r1.P.Road.Nodes,.slice A5 r1.P.Road.Edges.length c5,.slice A6 r1.P.Vehicles.length c6,.slice A7 r1.P.Demands.length c7,.int .i64 r1.P.Unload,.int .i64 r1.P.UnloadSecs,.string r1.V.ID,.int .i64 r1.V.Depot,.int .i64 r1.V.Shift.From,.int .i64 r1.V.Shift.To,.int .i64 r1.V.Grams,.int .i64 r1.V.Kinds,.slice A8 r1.Demands.length c8,.slice A9 r1.Legs.length c9] 76 (0,0))]::[(g2,.cells #[.bool r2.Ok,.int .i64 r2.Cost,.slice A11 r2.Stops.length c11] 49 (0,0))]::[(g1,.cells #[.int .i64 p1.Road.Nodes,.slice A1 p1.Road.Edges.length c1,.slice A2 p1.Vehicles.length c2,.slice A3 p1.Demands.length c3,.int .i64 p1.Unload,.int .i64 p1.UnloadSecs] 28 (0,0))]::L)) 2 0 E E E E ?_)));refine ⟨Kp [1,3] 4 E,?_⟩;refine Q0 1 E ?_;cases h;exact Rt [2] E E (Ug [] 4 (hR _ A11 c11 (hm_1.trans (hm_2.trans hm_3)) hl11 hA11))
end Go.Proofs.YtilbengnjgglhaaGreat
namespace Go.Proofs.YtilbengnjgglhaaGreat
open Go.RowKit
set_option linter.unusedSimpArgs false
set_option linter.unusedVariables false
set_option maxHeartbeats 2000000
set_option maxRecDepth 4000
attribute [local irreducible] WP YV WH Fn AN Upd vcR vcO Qa7 ZN Zv Vn Vs Qa4 VY ZW QaG QI KS
variable {μ:Gh} {L:List Seg} {R:Value→Gh→List Seg→Prop}
theorem Qab {F:Nat} {p1:Qb} {vehicle1:Int} {demands1:(List Int)} {A1:Option Addr} {c1:Nat} {A2:Option Addr} {c2:Nat} {A3:Option Addr} {c3:Nat} {A4:Option Addr} {c4:Nat} {res1:Bool} {res2:Int}
  (hl1:p1.Road.Edges.length≤c1∧c1≤maxLen) (hA1:Qj Qv μ A1 p1.Road.Edges) (hl2:p1.Vehicles.length≤c2∧c2≤maxLen) (hA2:Qj Qq μ A2 p1.Vehicles) (hl3:p1.Demands.length≤c3∧c3≤maxLen) (hA3:Qj Qr μ A3 p1.Demands) (hl4:demands1.length≤c4∧c4≤maxLen) (hA4:Qj QD μ A4 demands1) (h:ZI F p1 vehicle1 demands1=some (res1,res2))
  (hR: ∀(μ':Gh) ,μ.le μ'→R (.tuple #[.bool res1,.int .i64 res2]) μ' (L)) :
  Fn Tryz.prog 11 [.agg #[.int .i64 p1.Road.Nodes,.slice A1 p1.Road.Edges.length c1,.slice A2 p1.Vehicles.length c2,.slice A3 p1.Demands.length c3,.int .i64 p1.Unload,.int .i64 p1.UnloadSecs],.int .i64 vehicle1,.slice A4 demands1.length c4] μ (L) R:=by
 unfold ZI at h;refine FnS Tryz.func11 (by kernel_rfl) E Tryz.ntmps11 E E ?_;refine G0 2 E (Al E fun _=>Q1 9 [0] E (Cl E ?_));obtain ⟨_,hx1,h⟩:=Qf h;refine WC hl1 hA1 hl2 hA2 hl3 hA3 hl4 (Qj.rds hA4 _) hx1 ((Q0 7 E ?_));refine Br h 14 E E (fun hc1 h=> ?_) (fun hc1 h=> ?_)
 ·refine G2 7 [14] [] [] E ?_;cases h;exact Rt [] E E (Ug [] 1 (hR _ (Gh.le.refl _)))
 refine G2 7 [] [14] [0] E (Cl E ?_);obtain ⟨_,hx2,h⟩:=Qf h;refine WR hl1 hA1 hl2 hA2 hl3 hA3 hl4 hA4 hx2 (fun _ _ _ hm_1 _ _=> ?_);refine Q0 4 E ?_;cases h;exact Rt [] E E (Ug [] 1 (hR _ hm_1))
theorem Qae {F:Nat} {l1:(List Int)} {A1:Option Addr} {c1:Nat} {res1:(List Int)}
  (hl1:l1.length≤c1∧c1≤maxLen) (hA1:Rds QD μ L A1 l1) (h:ZJ F l1=some res1)
  (hR: ∀(A0:Option Addr) (c0:Nat) (ch0:Seg),Own QD 3 μ (.slice A0 res1.length c0) res1 ch0→R (.slice A0 res1.length c0) μ (ch0::L)) :
  Fn Tryz.prog 23 [.slice A1 l1.length c1] μ (L) R:=by
 unfold ZJ at h;refine FnS Tryz.func23 (by kernel_rfl) E Tryz.ntmps23 E E ?_;refine G0 6 E (So E (Zp (z:=[]) E E E E E E E (Za (fun g1=>Q0 7 E ?_))));refine Cut h (fun f l o_ f_ μ_ l_=> ∃(out3:(List Int)) (A8:Option Addr) (c7:Nat) (ch6:Seg),out3=o_∧Qg ((3,.slice A8 out3.length c7)::[]) f_∧Qc (ch6::QS [] 1 l) l_∧Own QD 3 μ_ (.slice A8 out3.length c7) out3 ch6∧μ=μ_) ?_ ?_
 ·intro _ h10730 h;refine Lp h10730 (fun f l (j_:(List Int)×Int) f_ μ_ l_=>JT j_ fun out1 i1=> ∃(A2:Option Addr) (c2:Nat) (ch1:Seg),Qg ((3,.slice A2 out1.length c2)::(4,.int .i64 i1)::Qm [0] f) f_∧Qc (ch1::QS [] 1 l) l_∧Own QD 3 μ_ (.slice A2 out1.length c2) out1 ch1∧μ=μ_) ⟨(some ⟨g1,0,none⟩),0,[(g1,.cells #[] 3 (0,0))],fE E,sE [some 0] 1 E,((Own.empty (r:=QD) (e:=3) (g:=g1))),E⟩ ?_;rintro ⟨out1,i1⟩ _ _ _ _ _ ⟨A2,c2,ch1,hF10758,hS10758,hO1,rfl⟩ hb10758 hq10758;unfold Yg at hb10758;replace hb10758:=Qh hb10758;refine Atn 1 hF10758 hS10758 E E (G0 8 E ?_);refine Br hb10758 11 E E (fun hc1 hb10758=> ?_) (fun hc1 hb10758=> ?_)
  ·refine G2 3 [11] [] [] E ?_;refine Cut hb10758 (fun f l o_ f_ μ_ l_=> ∃(out2:(List Int)) (A7:Option Addr) (c6:Nat) (ch5:Seg),out2=o_∧Qg ((3,.slice A7 out2.length c6)::Qm [0,4] f) f_∧Qc (ch5::QS [] 1 l) l_∧Own QD 3 μ_ (.slice A7 out2.length c6) out2 ch5∧μ=μ_) ?_ ?_
   ·intro _ h10760 hb10758;refine G0 8 E ?_;refine Cut h10760 (fun f l o_ f_ μ_ l_=> ∃(k2:Int),k2=o_∧Qg ((5,.int .i64 k2)::Qm [0,3,4] f) f_∧Qc l l_∧μ=μ_) ?_ ?_
    ·intro _ h10761 h10760;refine Lp h10761 (fun f l (k1:Int) f_ μ_ l_=>Qg ((5,.int .i64 k1)::Qm [0,3,4] f) f_∧Qc l l_∧μ=μ_) ⟨fE E,sE [some 0] 1 E,E⟩ ?_;rintro k1 _ _ _ _ _ ⟨hF10764,hS10764,rfl⟩ hb10764 hq10764;unfold Y7 at hb10764;refine Atn 1 hF10764 hS10764 E E (G0 2 E ?_);refine Cut hb10764 (fun f l o_ f_ μ_ l_=> ∃(v1:Bool),v1=o_∧Qg ((29,.bool v1)::Qm [0,3,4,5] f) f_∧Qc l l_∧μ=μ_) ?_ ?_
     ·intro _ h10765 hb10764;refine Dr _ QI.refl [(true,0),(true,1),(true,2),(true,3),(true,4),(true,5),(true,6),(true,7),(true,8),(true,9),(true,10),(true,11),(true,12),(true,13)] (by kernel_rfl) (G0 3 E ?_);refine Br h10765 18 E E (fun hc2 h10765=> ?_) (fun hc2 h10765=> ?_)
      ·refine G2 2 [18] [] [] E (Ix h10765 hA1 E E fun _ _ _ _ hr1 hc3 _ h10765=> ?_);obtain rfl:=hr1;refine Q3 4 [18] [] [64] (Z1 (hc3.push)) E (Ix h10765 (Own.rds (L:=(ch1::L)) hO1 0 E) E E fun _ _ _ _ hr2 hc4 _ h10765=> ?_);obtain rfl:=hr2;refine Q3 4 [18] [] [64] (Z1 hc4) E ?_;cases h10765;exact Ce E ⟨_,rfl,fE E,sE [some 0] 1 E,rfl⟩
      refine G2 12 [] [18] [] E ?_;cases h10765;exact Ce E ⟨_,rfl,fE E,sE [some 0] 1 E,rfl⟩
     rintro _ _ _ _ hb10764 _ ⟨v1,rfl,hF10765,hS10765,rfl⟩;refine Atn 1 hF10765 hS10765 E E ?_;refine Br hb10764 29 E E (fun hc5 hb10764=> ?_) (fun hc5 hb10764=> ?_)
     ·refine G2 9 [29] [] [] E ?_;cases hb10764;exact Ce E ⟨_,rfl,fE E,sE [some 0] 1 E,rfl⟩
     refine G2 2 [] [29] [] E ?_;cases hb10764;have hq_:=hq10764 _ E;subst hq_;exact Ce E ⟨_,rfl,fE E,sE [some 0] 1 E,rfl⟩
    rintro _ _ _ _ h10760 _ ⟨k2,rfl,hF10761,hS10761,rfl⟩;refine Atn 1 hF10761 hS10761 E E (G0 2 E (So E (Zp (z:=[]) E E E E E E E (Za (fun g2=> ?_)))));obtain ⟨_,hs1,h10760⟩:=Qf h10760;refine Q0 2 E (Rdo E E (QhL (r:=QD) E E E E E E E (Own.lenOk hO1).1 hs1 fun _ hAe1=> ?_));have hA4:=Rds.sub (Own.rds (L:=([(g2,.cells #[] 3 (0,0))]::ch1::L)) hO1 1 E) (Own.lenOk hO1).1 hs1 hAe1;have hl2:=QjH (Own.lenOk hO1) hs1;refine Q0 0 E (So E (Yy E ?_));obtain ⟨_,hz1,h10760⟩:=Qf h10760;refine YX (r:=QD) QU E E E E (by decide) E E 0 E (Own.empty (r:=QD) (e:=3) (g:=g2)) E hA4 hz1 fun _ _ ch2 hO2=>Q0 2 E (Dr _ QI.refl [(true,0),(true,1),(true,2),(true,3),(true,4),(true,5),(true,6),(true,7),(true,10),(false,8),(false,9),(false,11),(true,12)] (by kernel_rfl) ?_);obtain ⟨_,hs2,h10760⟩:=Qf h10760;refine G0 3 E (Rdo E E (QiM E E E E E E E (Own.lenOk hO1).1 hs2 ?_));have hA5:=Rds.pre (Own.rds (L:=(ch2::ch1::L)) hO1 1 E) hs2;have hl3:=Qj1 (Own.lenOk hO1) hs2;refine Q0 2 E (Ix h10760 hA1 E E fun x3 _ _ _ hr3 hc6 _ h10760=> ?_);obtain rfl:=hr3;refine Q3 2 [] [] [64] (Z1 (hc6.push.push)) E (So E (Zp (z:=[.int .i64 0]) E E E E E E E (QP (cells':=[.int .i64 x3]) E E E E (Za (fun g3=> ?_)))));refine ⟨QI.more (QI.refl),?_⟩;refine Q0 0 E (So E (Yy E ?_));obtain ⟨_,hz2,h10760⟩:=Qf h10760;refine QjC (r:=QD) QU E E E E (by decide) E E (Rds.push hA5) E (Own.rds (Own.lit (r:=QD) (e:=3) (g:=g3) (xs:=[x3]) (cs:=[.int .i64 x3]) (css:=[[.int .i64 x3]]) E (All2.cons (E) (All2.nil)) E E) 0 E) (by decide) hz2 fun _ _ _ hO3=> ?_;refine ⟨QI.more (QI.more (QI.refl)),?_⟩;refine Q0 0 E (So E (Yy E ?_));obtain ⟨_,hz3,h10760⟩:=Qf h10760;refine YX (r:=QD) QU E E E E (by decide) E E 0 E hO3 E (Own.rds hO2 2 E) hz3 fun A6 c5 ch4 hO4=> ?_;refine ⟨QI.more (QI.more (QI.refl)),?_⟩;refine Q0 3 E ?_;cases h10760;exact Ce E ⟨_,A6,c5,ch4,rfl,fE E,sE [some 0] 4 E,(hO4),rfl⟩
   rintro _ _ _ _ hb10758 _ ⟨out2,A7,c6,ch5,rfl,hF10760,hS10760,hO5,rfl⟩;refine Atn 1 hF10760 hS10760 E E (G0 5 E ?_);cases hb10758;exact Ce E ⟨_,rfl,A7,c6,ch5,fE E,sE [some 0] 1 E,(hO5),rfl⟩
  refine G2 2 [] [11] [] E ?_;cases hb10758;have hq_:=hq10758 _ E;subst hq_;exact Ce E ⟨_,A2,c2,ch1,rfl,fE E,sE [some 0] 1 E,(hO1),rfl⟩
 rintro _ _ _ _ h _ ⟨out3,A8,c7,ch6,rfl,hF10730,hS10730,hO6,rfl⟩;refine Atn 1 hF10730 hS10730 E E (G0 5 E ?_);cases h;exact Rt [] E E (Ug [[0]] 1 (hR A8 c7 ch6 hO6))
theorem QaU {F:Nat} {p1:Qb} {vehicle1:Int} {demands1:(List Int)} {A1:Option Addr} {c1:Nat} {A2:Option Addr} {c2:Nat} {A3:Option Addr} {c3:Nat} {A4:Option Addr} {c4:Nat} {res1:(List Int)} {res2:Int}
  (hl1:p1.Road.Edges.length≤c1∧c1≤maxLen) (hA1:Qj Qv μ A1 p1.Road.Edges) (hl2:p1.Vehicles.length≤c2∧c2≤maxLen) (hA2:Qj Qq μ A2 p1.Vehicles) (hl3:p1.Demands.length≤c3∧c3≤maxLen) (hA3:Qj Qr μ A3 p1.Demands) (hl4:demands1.length≤c4∧c4≤maxLen) (hA4:Rds QD μ L A4 demands1) (h:ZY F p1 vehicle1 demands1=some (res1,res2))
  (hR: ∀(μ':Gh) (A0_0:Option Addr) (c0_0:Nat),μ.le μ'→(res1.length≤c0_0∧c0_0≤maxLen)→Qj QD μ' A0_0 res1→R (.tuple #[.slice A0_0 res1.length c0_0,.int .i64 res2]) μ' (L)) :
  Fn Tryz.prog 13 [.agg #[.int .i64 p1.Road.Nodes,.slice A1 p1.Road.Edges.length c1,.slice A2 p1.Vehicles.length c2,.slice A3 p1.Demands.length c3,.int .i64 p1.Unload,.int .i64 p1.UnloadSecs],.int .i64 vehicle1,.slice A4 demands1.length c4] μ (L) R:=by
 unfold ZY at h;refine FnS Tryz.func13 (by kernel_rfl) E Tryz.ntmps13 E E ?_;refine G0 2 E (Al E fun g1=>Q1 9 [0] E (Cl E ?_));obtain ⟨_,hx1,h⟩:=Qf h;refine WC hl1 hA1 hl2 hA2 hl3 hA3 hl4 (Rds.push hA4) hx1 ((Q0 7 E ?_));refine Br h 19 E E (fun hc1 h=> ?_) (fun hc1 h=> ?_)
 ·refine G2 7 [19] [] [] E ?_;cases h;exact Rt [] E E (Ug [] 1 (hR _ none 0 (Gh.le.refl _) ⟨Nat.le_refl _,Nat.zero_le _⟩ Qj.nil))
 refine G2 5 [] [19] [] E (Cl E ?_);obtain ⟨_,hx2,h⟩:=Qf h;refine Qae hl4 (Rds.push hA4) hx2 (fun _ _ ch1 hO1=>Q0 4 E (So E (Zp (z:=[]) E E E E E E E (Za (fun g2=>Q0 7 E ?_)))));have hl5:([]:List Int).length≤0∧0≤maxLen:=⟨Nat.le_refl _,by unfold maxLen;omega⟩
 refine KS.upd E (Upd.frzOwn 0 E (Own.empty (r:=QD) (e:=3) (g:=g2)) fun _ hm_1 hA5=>Upd.done ?_);replace hA1:=hA1.mono hm_1;replace hA2:=hA2.mono hm_1;replace hA3:=hA3.mono hm_1;replace hO1:=hO1.mono hm_1;refine Cut h (fun f l o_ f_ μ_ l_=> ∃(best3:(List Int)) (A13:Option Addr) (c13:Nat),best3=o_∧Qg ((10,.slice A13 best3.length c13)::[]) f_∧Qc (QS [] 3 l) l_∧(best3.length≤c13∧c13≤maxLen)∧Qj QD μ_ A13 best3) ?_ ?_
 ·intro _ h11050 h;refine Lp h11050 (fun f l (j_:(List Int)×Int) f_ μ_ l_=>JT j_ fun best1 bits1=> ∃(A6:Option Addr) (c6:Nat),Qg ((10,.slice A6 best1.length c6)::(11,.int .i64 bits1)::Qm [1,3,9] f) f_∧Qc (QS [some 2,some 1] 3 l) l_∧(best1.length≤c6∧c6≤maxLen)∧Qj QD μ_ A6 best1) ⟨(some ⟨g2,0,none⟩),0,fE E,sE [some 2,some 1] 3 E,(hl5),(hA5)⟩ ?_;rintro ⟨best1,bits1⟩ _ _ _ _ hm11092 ⟨A6,c6,hF11092,hS11092,hl6,hA6⟩ hb11092 hq11092;unfold Yx at hb11092;replace hb11092:=Qh hb11092;replace hA1:=hA1.mono hm11092;replace hA2:=hA2.mono hm11092;replace hA3:=hA3.mono hm11092;replace hO1:=hO1.mono hm11092;refine Atn 2 hF11092 hS11092 E E (G0 7 E (Rdo E E ?_));obtain ⟨_,hg1,hb11092⟩:=Qf hb11092;refine QfA E E E (JE hg1) (Q0 2 E ?_);refine Br hb11092 29 E E (fun hc2 hb11092=> ?_) (fun hc2 hb11092=> ?_)
  ·refine G2 3 [29] [] [] E ?_;refine Cut hb11092 (fun f l o_ f_ μ_ l_=> ∃(best2:(List Int)) (A12:Option Addr) (c12:Nat),best2=o_∧Qg ((10,.slice A12 best2.length c12)::Qm [1,3,9,11] f) f_∧Qc l l_∧(best2.length≤c12∧c12≤maxLen)∧Qj QD μ_ A12 best2) ?_ ?_
   ·intro _ h11098 hb11092;refine G0 3 E (So E (Zp (z:=[]) E E E E E E E (Za (fun g3=>Q0 7 E ?_))));refine Cut h11098 (fun f l o_ f_ μ_ l_=> ∃(l4:(List Int)) (A10:Option Addr) (c10:Nat) (ch5:Seg),l4=o_∧Qg ((12,.slice A10 l4.length c10)::Qm [1,3,9,10,11] f) f_∧Qc ([(g1,.cells #[.int .i64 p1.Road.Nodes,.slice A1 p1.Road.Edges.length c1,.slice A2 p1.Vehicles.length c2,.slice A3 p1.Demands.length c3,.int .i64 p1.Unload,.int .i64 p1.UnloadSecs] 28 (0,0))]::ch1::ch5::QS [] 3 l) l_∧Own QD 3 μ_ (.slice A10 l4.length c10) l4 ch5) ?_ ?_
    ·intro _ h11100 h11098;refine Lp h11100 (fun f l (j_:(List Int)×Int) f_ μ_ l_=>JT j_ fun l1 i1=> ∃(A7:Option Addr) (c7:Nat) (ch2:Seg),Qg ((12,.slice A7 l1.length c7)::(13,.int .i64 i1)::Qm [1,3,9,10,11] f) f_∧Qc ([(g1,.cells #[.int .i64 p1.Road.Nodes,.slice A1 p1.Road.Edges.length c1,.slice A2 p1.Vehicles.length c2,.slice A3 p1.Demands.length c3,.int .i64 p1.Unload,.int .i64 p1.UnloadSecs] 28 (0,0))]::ch1::ch2::QS [] 3 l) l_∧Own QD 3 μ_ (.slice A7 l1.length c7) l1 ch2) ⟨(some ⟨g3,0,none⟩),0,[(g3,.cells #[] 3 (0,0))],fE E,sE [some 1,some 2,some 0] 3 E,((Own.empty (r:=QD) (e:=3) (g:=g3)))⟩ ?_;rintro ⟨l1,i1⟩ _ _ _ _ hm11111 ⟨A7,c7,ch2,hF11111,hS11111,hO2⟩ hb11111 hq11111;unfold Yw at hb11111;replace hb11111:=Qh hb11111;replace hA1:=hA1.mono hm11111;replace hA2:=hA2.mono hm11111;replace hA3:=hA3.mono hm11111;replace hO1:=hO1.mono hm11111;replace hA6:=hA6.mono hm11111;refine Atn 3 hF11111 hS11111 E E (G0 8 E ?_);refine Br hb11111 36 E E (fun hc3 hb11111=> ?_) (fun hc3 hb11111=> ?_)
     ·refine G2 3 [36] [] [] E ?_;refine Cut hb11111 (fun f l o_ f_ μ_ l_=> ∃(l3:(List Int)) (A9:Option Addr) (c9:Nat) (ch4:Seg),l3=o_∧Qg ((12,.slice A9 l3.length c9)::Qm [1,3,9,10,11,13] f) f_∧Qc ([(g1,.cells #[.int .i64 p1.Road.Nodes,.slice A1 p1.Road.Edges.length c1,.slice A2 p1.Vehicles.length c2,.slice A3 p1.Demands.length c3,.int .i64 p1.Unload,.int .i64 p1.UnloadSecs] 28 (0,0))]::ch1::ch4::QS [] 3 l) l_∧Own QD 3 μ_ (.slice A9 l3.length c9) l3 ch4) ?_ ?_
      ·intro _ h11116 hb11111;refine G0 6 E (Rdo E E ?_);obtain ⟨_,hg2,h11116⟩:=Qf h11116;refine QfB E E E (JE hg2) (Q0 0 E (Rdo E E ?_));refine QhK E E ⟨_,Qcy _ _ _,?_⟩;refine Q0 2 E ?_;refine Br h11116 44 E E (fun hc4 h11116=> ?_) (fun hc4 h11116=> ?_)
       ·refine G2 5 [44] [] [] E (IxA h11116 (Own.rds hO1 1 E) E E fun x1 _ _ _ hr1 hc5 _ h11116=> ?_);obtain rfl:=hr1;refine Q3 1 [] [] [64] (Z1 hc5) E (So E (Zp (z:=[.int .i64 0]) E E E E E E E (QP (cells':=[.int .i64 x1]) E E E E (Za (fun g4=>Q0 0 E (So E (Yy E ?_)))))));obtain ⟨_,hz1,h11116⟩:=Qf h11116;refine YX (r:=QD) QU E E E E (by decide) E E 3 E hO2 E (Own.rds (Own.lit (r:=QD) (e:=3) (g:=g4) (xs:=[x1]) (cs:=[.int .i64 x1]) (css:=[[.int .i64 x1]]) E (All2.cons (E) (All2.nil)) E E) 0 E) hz1 fun A8 c8 ch3 hO3=>Q0 3 E ?_;cases h11116;exact Ce E ⟨_,A8,c8,ch3,rfl,fE E,sE [some 1,some 2,some 3] 4 E,(hO3)⟩
       refine G2 3 [] [44] [] E ?_;cases h11116;exact Ce E ⟨_,A7,c7,ch2,rfl,fE E,sE [some 0,some 1,some 2] 3 E,(hO2)⟩
      rintro _ _ _ _ hb11111 hm11116 ⟨l3,A9,c9,ch4,rfl,hF11116,hS11116,hO4⟩;replace hA1:=hA1.mono hm11116;replace hA2:=hA2.mono hm11116;replace hA3:=hA3.mono hm11116;replace hA6:=hA6.mono hm11116;replace hO2:=hO2.mono hm11116;refine Atn 3 hF11116 hS11116 E E (G0 5 E ?_);cases hb11111;exact Ce E ⟨_,rfl,A9,c9,ch4,fE E,sE [some 0,some 1,some 2] 3 E,(hO4)⟩
     refine G2 2 [] [36] [] E ?_;cases hb11111;have hq_:=hq11111 _ E;subst hq_;exact Ce E ⟨_,A7,c7,ch2,rfl,fE E,sE [some 0,some 1,some 2] 3 E,(hO2)⟩
    rintro _ _ _ _ h11098 hm11100 ⟨l4,A10,c10,ch5,rfl,hF11100,hS11100,hO5⟩;replace hA1:=hA1.mono hm11100;replace hA2:=hA2.mono hm11100;replace hA3:=hA3.mono hm11100;replace hA6:=hA6.mono hm11100;refine Atn 3 hF11100 hS11100 E E (G0 2 E ?_);refine Cut h11098 (fun f l o_ f_ μ_ l_=> ∃(v2:Bool),v2=o_∧Qg ((69,.bool v2)::Qm [1,3,9,10,11,12] f) f_∧Qc l l_) ?_ ?_
    ·intro _ h11125 h11098;refine G0 7 E ?_;refine Br h11125 57 E E (fun hc6 h11125=> ?_) (fun hc6 h11125=> ?_)
     ·refine G2 13 [57] [] [] E ?_;cases h11125;exact Ce E ⟨_,rfl,fE E,sE [some 0,some 1,some 2] 3 E⟩
     refine G2 6 [] [57] [] E ?_;refine Br h11125 63 E E (fun hc7 h11125=> ?_) (fun hc7 h11125=> ?_)
     ·refine G2 2 [63] [] [] E (Cl E ?_);obtain ⟨_,hx4,h11125⟩:=Qf h11125;refine WQ (Own.lenOk hO5) (Own.rds hO5 2 E) hl6 (Qj.rds hA6 _) hx4 ((Q2 4 [63] [57] [] E ?_));cases h11125;exact Ce E ⟨_,rfl,fE E,sE [some 0,some 1,some 2] 3 E⟩
     refine G2 7 [] [57,63] [] E ?_;cases h11125;exact Ce E ⟨_,rfl,fE E,sE [some 0,some 1,some 2] 3 E⟩
    rintro _ _ _ _ h11098 hm11125 ⟨v2,rfl,hF11125,hS11125⟩;replace hA1:=hA1.mono hm11125;replace hA2:=hA2.mono hm11125;replace hA3:=hA3.mono hm11125;replace hA6:=hA6.mono hm11125;replace hO5:=hO5.mono hm11125;refine Atn 3 hF11125 hS11125 E E ?_;refine Br h11098 69 E E (fun hc8 h11098=> ?_) (fun hc8 h11098=> ?_)
    ·refine G2 2 [69] [] [] E ?_;cases h11098;exact Ce E ⟨_,A6,c6,rfl,fE E,sE [some 0,some 1] 3 E,(hl6),(hA6)⟩
    refine G2 7 [] [69] [0] E (Cl E ?_);have hl7:=Own.lenOk hO5;refine Fn.pre Tryz.func19 (by kernel_rfl) E (Upd.frzOwn 2 E hO5 fun _ hm_2 hA8=>Upd.done ?_);replace hA1:=hA1.mono hm_2;replace hA2:=hA2.mono hm_2;replace hA3:=hA3.mono hm_2;replace hA6:=hA6.mono hm_2;obtain ⟨_,hx5,h11098⟩:=Qf h11098;refine WR hl1 hA1 hl2 hA2 hl3 hA3 hl7 hA8 hx5 (fun _ _ _ hm_3 _ _=> ?_);replace hA6:=hA6.mono hm_3;replace hA8:=hA8.mono hm_3;refine Q0 2 E ?_;refine Br h11098 74 E E (fun hc9 h11098=> ?_) (fun hc9 h11098=> ?_)
    ·refine G2 6 [74] [] [] E ?_;cases h11098;exact Ce E ⟨_,A10,c10,rfl,fE E,sE [some 0,some 1] 3 E,(hl7),(hA8)⟩
    refine G2 3 [] [74] [] E ?_;cases h11098;exact Ce E ⟨_,A6,c6,rfl,fE E,sE [some 0,some 1] 3 E,(hl6),(hA6)⟩
   rintro _ _ _ _ hb11092 hm11098 ⟨best2,A12,c12,rfl,hF11098,hS11098,hl9,hA10⟩;replace hA6:=hA6.mono hm11098;refine Atn 2 hF11098 hS11098 E E (G0 5 E ?_);cases hb11092;exact Ce E ⟨_,rfl,A12,c12,fE E,sE [some 0,some 1] 2 E,(hl9),(hA10)⟩
  refine G2 2 [] [29] [] E ?_;cases hb11092;have hq_:=hq11092 _ E;subst hq_;exact Ce E ⟨_,A6,c6,rfl,fE E,sE [] 2 E,(hl6),(hA6)⟩
 rintro _ _ _ _ h hm11050 ⟨best3,A13,c13,rfl,hF11050,hS11050,hl10,hA11⟩;refine Atn 0 hF11050 hS11050 E E (G0 6 E ?_);cases h;exact Rt [] E E (Ug [] 0 (hR _ A13 c13 (hm_1.trans hm11050) hl10 hA11))
theorem Vq {F:Nat} {p1:Qb} {vehicle1:Int} {demands1:(List Int)} {A1:Option Addr} {c1:Nat} {A2:Option Addr} {c2:Nat} {A3:Option Addr} {c3:Nat} {A4:Option Addr} {c4:Nat} {res1:Bool}
  (hl1:p1.Road.Edges.length≤c1∧c1≤maxLen) (hA1:Qj Qv μ A1 p1.Road.Edges) (hl2:p1.Vehicles.length≤c2∧c2≤maxLen) (hA2:Qj Qq μ A2 p1.Vehicles) (hl3:p1.Demands.length≤c3∧c3≤maxLen) (hA3:Qj Qr μ A3 p1.Demands) (hl4:demands1.length≤c4∧c4≤maxLen) (hA4:Qj QD μ A4 demands1) (h:Zw F p1 vehicle1 demands1=some res1)
  (hR: ∀(μ':Gh) ,μ.le μ'→R (.bool res1) μ' (L)) :
  Fn Tryz.prog 4 [.agg #[.int .i64 p1.Road.Nodes,.slice A1 p1.Road.Edges.length c1,.slice A2 p1.Vehicles.length c2,.slice A3 p1.Demands.length c3,.int .i64 p1.Unload,.int .i64 p1.UnloadSecs],.int .i64 vehicle1,.slice A4 demands1.length c4] μ (L) R:=by
 unfold Zw at h;refine FnS Tryz.func4 (by kernel_rfl) E Tryz.ntmps4 E E ?_;refine G0 2 E (Al E fun _=>Q1 7 [0] E (Cl E ?_));obtain ⟨_,hx1,h⟩:=Qf h;refine Qas hl1 hA1 hl2 hA2 hl3 hA3 hl4 (Qj.rds hA4 _) hx1 ((Q0 1 E ?_));refine Br h 17 E E (fun hc1 h=> ?_) (fun hc1 h=> ?_)
 ·refine G2 3 [17] [] [] E (Cl E ?_);obtain ⟨_,hx2,h⟩:=Qf h;refine Wz  hx2 (fun _ hm_1=> ?_);replace hA1:=hA1.mono hm_1;replace hA2:=hA2.mono hm_1;replace hA3:=hA3.mono hm_1;replace hA4:=hA4.mono hm_1;refine Q0 2 E ?_;cases h;exact Rt [] E E (Ug [] 1 (hR _ hm_1))
 refine G2 7 [] [17] [0] E (Cl E ?_);obtain ⟨⟨_,_⟩,hx3,h⟩:=Qf h;replace h:=Qh h;refine Vv hl1 hA1 hl2 hA2 hl3 hA3 hl4 hA4 hx3 (fun _ hm_2=> ?_);replace hA1:=hA1.mono hm_2;replace hA2:=hA2.mono hm_2;replace hA3:=hA3.mono hm_2;replace hA4:=hA4.mono hm_2;refine Q1 11 [0] E (Cl E ?_);obtain ⟨⟨_,_⟩,hx4,h⟩:=Qf h;replace h:=Qh h;refine Qab hl1 hA1 hl2 hA2 hl3 hA3 hl4 hA4 hx4 (fun _ hm_3=> ?_);replace hA1:=hA1.mono hm_3;replace hA2:=hA2.mono hm_3;replace hA3:=hA3.mono hm_3;replace hA4:=hA4.mono hm_3;refine Q1 11 [0] E (Cl E ?_);obtain ⟨⟨_,_⟩,hx5,h⟩:=Qf h;replace h:=Qh h;refine QbZ hl1 hA1 hl2 hA2 hl3 hA3 hl4 hA4 hx5 (fun _ _ _ hm_4 hl5 hA5=> ?_);replace hA1:=hA1.mono hm_4;replace hA2:=hA2.mono hm_4;replace hA3:=hA3.mono hm_4;replace hA4:=hA4.mono hm_4;refine Q1 11 [0] E (Cl E ?_);obtain ⟨⟨_,_⟩,hx6,h⟩:=Qf h;replace h:=Qh h;refine QaU hl1 hA1 hl2 hA2 hl3 hA3 hl4 (Qj.rds hA4 _) hx6 (fun _ _ _ hm_5 hl6 hA6=> ?_);replace hA5:=hA5.mono hm_5;refine Q0 7 E ?_;refine Cut h (fun f l o_ f_ μ_ l_=> ∃(v7:Bool),v7=o_∧Qg ((6,.bool v7)::[]) f_∧Qc (QS [] 1 l) l_) ?_ ?_
 ·intro _ h11137 h;refine G0 5 E ?_;refine Br h11137 50 E E (fun hc2 h11137=> ?_) (fun hc2 h11137=> ?_)
  ·refine G2 5 [50] [] [] E ?_;refine Br h11137 55 E E (fun hc3 h11137=> ?_) (fun hc3 h11137=> ?_)
   ·refine G2 2 [55] [] [] E (Cl E ?_);obtain ⟨_,hx7,h11137⟩:=Qf h11137;refine Z0 hl5 (Qj.rds hA5 _) hl6 (Qj.rds hA6 _) hx7 ((Q2 2 [55] [] [] E ?_));refine Br h11137 60 E E (fun hc4 h11137=> ?_) (fun hc4 h11137=> ?_)
    ·refine G2 5 [60] [] [] E ?_;refine Br h11137 65 E E (fun hc5 h11137=> ?_) (fun hc5 h11137=> ?_)
     ·refine Cl E ?_;obtain ⟨_,hx8,h11137⟩:=Qf h11137;refine Wz  hx8 (fun _ _=> ?_);refine Q2 3 [65] [] [] E ?_;cases h11137;exact Ce E ⟨_,rfl,fE E,sE [] 1 E⟩
     refine G2 4 [] [65] [] E ?_;cases h11137;exact Ce E ⟨_,rfl,fE E,sE [] 1 E⟩
    refine G2 9 [] [60,65] [] E ?_;cases h11137;exact Ce E ⟨_,rfl,fE E,sE [] 1 E⟩
   refine G2 14 [] [55,60,65] [] E ?_;cases h11137;exact Ce E ⟨_,rfl,fE E,sE [] 1 E⟩
  refine G2 19 [] [50,55,60,65] [] E ?_;cases h11137;exact Ce E ⟨_,rfl,fE E,sE [] 1 E⟩
 rintro _ _ _ _ h hm11137 ⟨v7,rfl,hF11137,hS11137⟩;refine Atn 0 hF11137 hS11137 E E ?_;cases h;exact Rt [] E E (Ug [] 0 (hR _ (hm_2.trans (hm_3.trans (hm_4.trans (hm_5.trans hm11137))))))
end Go.Proofs.YtilbengnjgglhaaGreat
namespace Go.Proofs.YtilbengnjgglhaaGreat
set_option linter.unusedSimpArgs false
set_option linter.unusedVariables false
theorem Qeo {τ ρ:Type} {body:τ→Option (τ⊕ρ)} (I:Nat→τ→ρ→Prop)
  (h: ∀n t o,I n t o→(∃t' n',body t=some (.inl t')∧n'<n∧I n' t' o)∨body t=some (.inr o)): ∀(fuel n:Nat) (t:τ) (o:ρ),I n t o→n<fuel→iter body fuel t=some o
 | 0,_,_,_,_,hm=>by omega
 | f+1,n,t,o,hI,hm=>by
  rcases h n t o hI with ⟨t',n',h1,h2,h3⟩ | h1
  ·simp only[iter,h1,Option.bind_some,QQ]
   exact Qeo I h f n' t' o h3 (by omega)
  ·simp only[iter,h1,Option.bind_some,QQ]
theorem Qc5 {σ ρ:Type} {body:σ→Option (σ⊕ρ)}: ∀{n m:Nat} {s:σ} {r:ρ},iter body n s=some r→n≤m→iter body m s=some r
 | 0,_,_,_,h,_=>by cases h
 | n+1,0,_,_,_,hm=>by omega
 | n+1,m+1,s,r,h,hm=>by
  simp only[iter] at h ⊢
  cases hb:body s with
  | none=>rw[hb] at h;cases h
  | some q =>
   rw[hb] at h
   cases q with
   | inl s'=>exact Qc5 (n:=n) (m:=m) h (by omega)
   | inr r'=>exact h
theorem Qt {α:Type} (xs:List α) (k:Nat):QJ xs (k:Int)=xs[k]? :=by simp[QJ]
theorem Qil {α:Type} {xs:List α} {k:Nat} (h:k<xs.length):QJ xs (k:Int)=some xs[k]:=by rw[Qt];simp[h]
theorem QV {n:Int} (h1: -9223372036854775808≤n) (h2:n≤9223372036854775807):w64 n=n:=Qk7 h1 h2
theorem JY {k:Nat} (h:k<9223372036854775807):w64 ((k:Int)+1)=((k+1:Nat):Int):=by rw[QV (by omega) (by omega)];omega
theorem ZP {α:Type} {xs ys:List α} (h:xs.length+ys.length≤1000000):Wh xs ys=some (xs++ys):=by simp[Wh,h]
theorem Jf {p:Prop} [Decidable p] (h:p):W5 p=some ():=by simp[W5,h]
def Qey {τ ρ:Type} (o:Option ρ) (t:τ):τ⊕ρ:=match o with
 | none=> .inl t
 | some r=> .inr r
@[simp] theorem Qk2 {τ ρ:Type} (t:τ):Qey (none:Option ρ) t= .inl t:=rfl
@[simp] theorem Qk3 {τ ρ:Type} (r:ρ) (t:τ):Qey (some r) t= .inr r:=rfl
def QlB {σ τ ρ:Type} (f:σ→τ) (q:σ⊕ρ):τ⊕ρ:=match q with
 | .inl s=> .inl (f s)
 | .inr r=> .inr r
@[simp] theorem QlC {σ τ ρ:Type} (f:σ→τ) (s:σ):QlB f (.inl s:σ⊕ρ)= .inl (f s):=rfl
@[simp] theorem QlD {σ τ ρ:Type} (f:σ→τ) (r:ρ):QlB f (.inr r:σ⊕ρ)= .inr r:=rfl
def first {α ρ:Type} (step:α→Option ρ) (fin:ρ):List α→ρ
 | []=>fin
 | x::r=>match step x with
  | none=>first step fin r
  | some o=>o
end Go.Proofs.YtilbengnjgglhaaGreat
namespace Go.Proofs.YtilbengnjgglhaaGreat
set_option linter.unusedSimpArgs false
set_option linter.unusedVariables false
theorem Qz {α:Type} {l:List α} {k:Nat} {x:α} (h:l[k]? =some x):k<l.length:=by
 rcases Nat.lt_or_ge k l.length with h2 | h2
 ·exact h2
 ·rw[List.getElem?_eq_none h2] at h;cases h
theorem QfM {α:Type} {l:List α} {i:Int} (h0:0≤i) (h1:i<(l.length:Nat)): ∃x,QJ l i=some x:=by
 obtain ⟨k,rfl⟩: ∃k:Nat,i=k:=⟨i.toNat,by omega⟩
 exact ⟨_,Qil (by omega)⟩
def YZ {α ρ:Type} (step:Nat→α→Option ρ) (fin:ρ):Nat→List α→ρ
 | _,[]=>fin
 | k,x::r=>match step k x with
  | none=>YZ step fin (k+1) r
  | some o=>o
theorem YA {α ρ:Type} (xs:List α) {body:Int→Option (Int⊕ρ)} (step:Nat→α→Option ρ) (fin:ρ) (hn:xs.length<9223372036854775807)
  (hb: ∀(k:Nat) (x:α),xs[k]? =some x→body (k:Int)=some (Qey (step k x) (w64 ((k:Int)+1))))
  (hf:body (xs.length:Int)=some (.inr fin)): ∀(n:Nat),xs.length<n→iter body n 0=some (YZ step fin 0 xs):=by
 intro n hlt;refine Qeo (fun m t o=> ∃k:Nat,t=(k:Int)∧m=xs.length-k∧k≤xs.length∧YZ step fin k (xs.drop k)=o) ?_ n xs.length 0 _ ⟨0,rfl,by simp,Nat.zero_le _,by simp⟩ hlt;rintro m _ o ⟨k,rfl,rfl,hk,ho⟩;rcases Nat.lt_or_ge k xs.length with hlt | hge
 ·have h1:=hb k xs[k] (by simp[hlt])
  rw[List.drop_eq_getElem_cons hlt,YZ] at ho
  cases hs:step k xs[k] with
  | none =>
   rw[hs] at h1 ho
   exact .inl ⟨_,xs.length-(k+1),h1,by omega,k+1,by rw[JY (by omega)],rfl,hlt,ho⟩
  | some r =>
   rw[hs] at h1 ho
   exact .inr (by rw[h1];exact congrArg (fun z=>some (Sum.inr z)) ho)
 ·obtain rfl:k=xs.length:=by omega
  rw[List.drop_length] at ho
  exact .inr (by rw[hf];exact congrArg (fun z=>some (Sum.inr z)) ho)
theorem J4 {α ρ:Type} {step:Nat→α→Option ρ} {fin:ρ}: ∀(l:List α) (k:Nat),(∀(i:Nat) (x:α),l[i]? =some x→step (k+i) x=none)→YZ step fin k l=fin
 | [],_,_=>rfl
 | x::l,k,h=>by
  have h0:=h 0 x rfl
  rw[Nat.add_zero] at h0
  simp only[YZ,h0]
  exact J4 l (k+1) fun i y hy=>by
   have:=h (i+1) y (by simpa using hy)
   rwa [show k+(i+1)=k+1+i by omega] at this
theorem QcF {α σ τ ρ:Type} (xs:List α) (st:Nat→σ) (mk:σ→Int→τ) {body:τ→Option (τ⊕ρ)} (step:Nat→α→Option ρ) (fin:ρ) (hn:xs.length<9223372036854775807)
  (hb: ∀(k:Nat) (x:α),xs[k]? =some x→(∀(j:Nat) (y:α),j<k→xs[j]? =some y→step j y=none)→body (mk (st k) (k:Int))=some (Qey (step k x) (mk (st (k+1)) (w64 ((k:Int)+1)))))
  (hf:(∀(j:Nat) (y:α),xs[j]? =some y→step j y=none)→body (mk (st xs.length) (xs.length:Int))=some (.inr fin)): ∀(n:Nat),xs.length<n→iter body n (mk (st 0) 0)=some (YZ step fin 0 xs):=by
 intro n hlt;refine Qeo (fun m t o=> ∃k:Nat,t=mk (st k) (k:Int)∧m=xs.length-k∧k≤xs.length∧(∀(j:Nat) (y:α),j<k→xs[j]? =some y→step j y=none)∧YZ step fin k (xs.drop k)=o) ?_ n xs.length _ _ ⟨0,rfl,by simp,Nat.zero_le _,fun j y hj=>absurd hj (Nat.not_lt_zero _),by simp⟩ hlt;rintro m _ o ⟨k,rfl,rfl,hk,hno,ho⟩;rcases Nat.lt_or_ge k xs.length with hlt | hge
 ·have h1:=hb k xs[k] (by simp[hlt]) hno
  rw[List.drop_eq_getElem_cons hlt,YZ] at ho
  cases hs:step k xs[k] with
  | none =>
   rw[hs] at h1 ho
   refine .inl ⟨_,xs.length-(k+1),h1,by omega,k+1,by rw[JY (by omega)],rfl,hlt,fun j y hj hy=> ?_,ho⟩;rcases Nat.lt_or_ge j k with h | h
   ·exact hno j y h hy
   ·obtain rfl:j=k:=by omega
    rw[List.getElem?_eq_getElem hlt] at hy
    injection hy with hy;rw[←hy];exact hs
  | some r =>
   rw[hs] at h1 ho
   exact .inr (by rw[h1];exact congrArg (fun z=>some (Sum.inr z)) ho)
 ·obtain rfl:k=xs.length:=by omega
  rw[List.drop_length] at ho
  exact .inr (by rw[hf fun j y hy=>hno j y (Qz hy) hy];exact congrArg (fun z=>some (Sum.inr z)) ho)
theorem QaZ {α:Type} {l:List α} {k:Nat} {x:α} (hx:l[k]? =some x):l.take (k+1)=l.take k++[x]:=by rw[List.take_add_one,hx];rfl
theorem Zs {α:Type} {l:List α} {k:Nat} (h:k≤l.length):(l.take k).length=k:=by simp;omega
def Qh5 {α:Type} (f:α→Int) (l:List α):Int:=(l.map f).sum
@[simp] theorem Qk9 {α:Type} (f:α→Int):Qh5 f []=0:=rfl
@[simp] theorem Qk6 {α:Type} (f:α→Int) (x:α) (l:List α):Qh5 f (x::l)=f x+Qh5 f l:=by simp[Qh5]
theorem Qev {β:Type} {k:Int} {v:β} (m:List (Int×β)):Wv k (Qaq k v m)=some v:=by
 induction m with
 | nil=>simp[Qaq,Wv]
 | cons p m ih =>
  obtain ⟨a,b⟩:=p
  by_cases h:a=k
  ·simp[Qaq,Wv,h]
  ·simp[Qaq,Wv,h,ih]
theorem QfW {β:Type} {k j:Int} {v:β} (h:j≠k) (m:List (Int×β)):Wv j (Qaq k v m)=Wv j m:=by
 induction m with
 | nil=>simp[Qaq,Wv];omega
 | cons p m ih =>
  obtain ⟨a,b⟩:=p
  by_cases h2:a=k
  ·subst h2;simp[Qaq,Wv,Ne.symm h]
  ·by_cases h3:a=j
   ·subst h3;simp[Qaq,Wv,h]
   ·simp[Qaq,Wv,h2,h3,ih]
theorem Vx {α ρ:Type} {step:Nat→α→Option ρ} {fin:ρ}: ∀(l:List α) (k:Nat),
  ((∀(i:Nat) (x:α),l[i]? =some x→step (k+i) x=none)∧YZ step fin k l=fin) ∨
  (∃(i:Nat) (x:α) (o:ρ),l[i]? =some x∧step (k+i) x=some o∧YZ step fin k l=o∧ ∀(j:Nat) (y:α),j<i→l[j]? =some y→step (k+j) y=none)
 | [],k=> .inl ⟨fun i x h=>by simp at h,rfl⟩
 | x::l,k=>by
  cases hs:step k x with
  | some o=>exact .inr ⟨0,x,o,rfl,hs,by simp[YZ,hs],fun j y hj=>absurd hj (Nat.not_lt_zero _)⟩
  | none =>
   have hf:YZ step fin k (x::l)=YZ step fin (k+1) l:=by simp[YZ,hs]
   rw[hf]
   rcases Vx (step:=step) (fin:=fin) l (k+1) with ⟨h1,h2⟩ | ⟨i,y,o,h1,h2,h3,h4⟩
   ·refine .inl ⟨fun i y hy=> ?_,h2⟩;cases i with
    | zero=>simp at hy;subst hy;simpa using hs
    | succ i=>have:=h1 i y (by simpa using hy);rwa [show k+1+i=k+(i+1) by omega] at this
   ·refine .inr ⟨i+1,y,o,by simpa using h1,by rwa [show k+1+i=k+(i+1) by omega] at h2,h3,fun j z hj hz=> ?_⟩;cases j with
    | zero=>simp at hz;subst hz;simpa using hs
    | succ j=>have:=h4 j z (by omega) (by simpa using hz);rwa [show k+1+j=k+(j+1) by omega] at this
theorem V7 {α:Type} [DecidableEq α]: ∀{l m:List α},l.Nodup→(∀x∈l,x∈m)→l.length≤m.length
 | [],_,_,_=>Nat.zero_le _
 | x::l,m,hn,h=>by
  rw[List.nodup_cons] at hn
  have hx:=h x (by simp);have:=V7 (l:=l) (m:=m.erase x) hn.2 fun y hy=>(List.mem_erase_of_ne (fun e=>hn.1 (by rw[←e];exact hy))).2 (h y (by simp[hy]))
  rw[List.length_erase_of_mem hx] at this
  have:0<m.length:=List.length_pos_of_mem hx
  simp only[List.length_cons]
  omega
end Go.Proofs.YtilbengnjgglhaaGreat
namespace Go.Proofs.YtilbengnjgglhaaGreat
open Go.RowKit
set_option linter.unusedSimpArgs false
set_option linter.unusedVariables false
theorem Y1 (a b:Bool):(bif a then some true else some b)=some (a||b):=by cases a<;>rfl
theorem QiR (a b:Bool):(bif a then some b else some false)=some (a&&b):=by cases a<;>rfl
def Ww (r:QB) (x:QM):Prop:=0≤x.From∧x.From<r.Nodes∧0≤x.To∧x.To<r.Nodes∧x.From≠x.To∧1≤x.Meters∧x.Meters≤100000∧1≤x.Secs∧x.Secs≤100000
def Qam (r:QB) (x:QM):Option (Unit⊕Int) :=
 bif (decide (x.From<0)||(decide (r.Nodes≤x.From)||(decide (x.To<0)||decide (r.Nodes≤x.To)))) then some (.inr 7)
 else bif (decide (x.From=x.To)||(decide (x.Meters<1)||(decide (100000<x.Meters)||(decide (x.Secs<1)||decide (100000<x.Secs))))) then some (.inr 1) else none
theorem Qhc {r:QB} {x:QM} (h:Qam r x=none):Ww r x:=by
 unfold Qam at h
 simp only[cond_eq_ite,Bool.or_eq_true,decide_eq_true_eq] at h
 split at h
 ·cases h
 ·split at h
  ·cases h
  ·unfold Ww;omega
theorem Qhd {r:QB} {x:QM} {o:Unit⊕Int} (h:Qam r x=some o): ∃e,o= .inr e∧e≠0:=by
 unfold Qam at h
 simp only[cond_eq_ite] at h
 split at h
 ·injection h with h;exact ⟨7,h.symm,by decide⟩
 ·split at h
  ·injection h with h;exact ⟨1,h.symm,by decide⟩
  ·cases h
theorem QeA (r:QB) (hn:r.Edges.length≤600) (n:Nat) (h:r.Edges.length<n):iter (Yk r) n 0=some (YZ (fun _ x=>Qam r x) (.inl ()) 0 r.Edges):=by
 refine YA r.Edges (fun _ x=>Qam r x) (.inl ()) (by omega) (fun k x hx=> ?_) (by simp[Yk]) n h;have hk:=Qz hx;have hk2:((k:Int)<(r.Edges.length:Nat)):=by omega
 simp only[Yk,hk2,decide_true,cond_true,Qt,hx,Option.bind_some,Y1,Qam]
 generalize (decide (x.From<0)||_)=a
 generalize (decide (x.From=x.To)||_)=b
 cases a<;>cases b<;>rfl
theorem Qhk (r:QB) (hn:r.Edges.length≤600):WS r=some ⟨r.Nodes,r.Edges.map fun x=>⟨x.From,x.To⟩⟩:=by
 unfold WS;have:=QcF (body:=JM r) r.Edges (fun k=>(r.Edges.take k).map fun x=>(⟨x.From,x.To⟩:Y3)) (fun m k=>(m,k)) (fun _ _=>none) (r.Edges.map fun x=>(⟨x.From,x.To⟩:Y3)) (by omega) (fun k x hx _=> ?_) (fun _=>by simp[JM,oun]) (((r.Edges.length:Nat):Int).toNat+1) (by simp)
 ·rw[show ((r.Edges.take 0).map fun x=>(⟨x.From,x.To⟩:Y3))=[] by simp] at this
  rw[this,J4 _ _ (fun _ _ _=>rfl)]
  rfl
 ·have hk:=Qz hx;have hk2:((k:Int)<(r.Edges.length:Nat)):=by omega
  simp only[JM,oun,hk2,decide_true,cond_true,Qt,hx,Option.bind_some]
  rw[ZP (by simp;omega)]
  simp[QaZ hx,Qey]
theorem Qi1 (r:QB) (hn:r.Edges.length≤512) (h1:1≤r.Nodes) (h2:r.Nodes≤64) (ho: ∀x∈r.Edges,Ww r x):Vo ⟨r.Nodes,r.Edges.map fun x=>⟨x.From,x.To⟩⟩=some 0:=by
 unfold Vo;have:=YA (body:=J5 ⟨r.Nodes,r.Edges.map fun x=>⟨x.From,x.To⟩⟩) (r.Edges.map fun x=>(⟨x.From,x.To⟩:Y3)) (fun _ _=>none) (.inl ():Unit⊕Int) (by simp;omega) (fun k x hx=> ?_) (by simp[J5]) ((((r.Edges.map fun x=>(⟨x.From,x.To⟩:Y3)).length:Nat):Int).toNat+1) (by simp)
 ·rw[J4 _ _ (fun _ _ _=>rfl)] at this
  simp only[Y1,Option.bind_some]
  rw[show (decide (r.Nodes<0)||decide (64<r.Nodes))=false by simp;omega]
  simp only[cond_false]
  rw[show decide ((512:Int)<(((r.Edges.map fun x=>(⟨x.From,x.To⟩:Y3)).length:Nat):Int))=false by simp;omega]
  simp only[cond_false,this,Option.bind_some,QQ]
 ·have hk:=Qz hx;have hk2:((k:Int)<((r.Edges.map fun x=>(⟨x.From,x.To⟩:Y3)).length:Nat)):=by omega
  obtain ⟨y,hy,rfl⟩: ∃y,r.Edges[k]? =some y∧(⟨y.From,y.To⟩:Y3)=x:=by
   rw[List.getElem?_map] at hx
   cases hq:r.Edges[k]? with
   | none=>rw[hq] at hx;cases hx
   | some y=>rw[hq] at hx;injection hx with hx;exact ⟨y,rfl,hx⟩
  have hok:=ho y (List.mem_of_getElem? hy)
  simp only[J5,hk2,decide_true,cond_true,Qt,hx,Option.bind_some,Y1]
  unfold Ww at hok
  rw[show (decide (y.From<0)||(decide (r.Nodes≤y.From)||(decide (y.To<0)||decide (r.Nodes≤y.To))))=false by simp;omega]
  rfl
def V1 (r:QB):Int:=bif (decide (r.Nodes<1)||decide (64<r.Nodes)) then 1 else bif decide ((512:Int)<(r.Edges.length:Nat)) then 8 else
 match YZ (fun _ x=>Qam r x) (.inl ()) 0 r.Edges with | .inl _=>0 | .inr e=>e
theorem J9 (r:QB) (hn:r.Edges.length≤600):Zf r=some (V1 r):=by
 unfold Zf V1
 simp only[Y1,Option.bind_some]
 rw[QeA r hn _ (by simp)]
 generalize (decide (r.Nodes<1)||_)=a
 generalize decide ((512:Int)<(r.Edges.length:Nat))=b
 generalize YZ (fun _ x=>Qam r x) (.inl ()) 0 r.Edges=o
 cases a<;>cases b<;>cases o<;>rfl
theorem QeD {r:QB} (h:V1 r=0):1≤r.Nodes∧r.Nodes≤64∧r.Edges.length≤512∧ ∀x∈r.Edges,Ww r x:=by
 unfold V1 at h
 simp only[cond_eq_ite,Bool.or_eq_true,decide_eq_true_eq] at h
 split at h
 ·cases h
 ·split at h
  ·cases h
  ·refine ⟨by omega,by omega,by omega,fun x hx=> ?_⟩;obtain ⟨i,hi⟩:=List.getElem?_of_mem hx;rcases Vx (step:=fun _ x=>Qam r x) (fin:=(.inl ():Unit⊕Int)) r.Edges 0 with ⟨h1,_⟩ | ⟨j,y,o,h1,h2,h3,_⟩
   ·exact Qhc (h1 i x hi)
   ·rw[h3] at h
    obtain ⟨e,rfl,he⟩:=Qhd h2;exact absurd h he
theorem Qb1 (r:QB) (hn:r.Edges.length≤600):Wx r=some (V1 r):=by
 by_cases hz:V1 r=0
 ·obtain ⟨h1,h2,h3,h4⟩:=QeD hz;unfold Wx
  rw[hz]
  have e1:Vk r=Yk r:=rfl
  rw[e1,QeA r hn _ (by simp)]
  simp only[Y1,Option.bind_some]
  rw[show (decide (r.Nodes<1)||decide (64<r.Nodes))=false by simp;omega]
  simp only[cond_false]
  rw[show decide ((512:Int)<(r.Edges.length:Nat))=false by simp;omega]
  simp only[cond_false]
  have:YZ (fun _ x=>Qam r x) (.inl ():Unit⊕Int) 0 r.Edges= .inl ():=by
   refine J4 _ _ fun i x hx=> ?_;have:=h4 x (List.mem_of_getElem? hx);unfold Ww at this;unfold Qam
   rw[show (decide (x.From<0)||(decide (r.Nodes≤x.From)||(decide (x.To<0)||decide (r.Nodes≤x.To))))=false by simp;omega,show (decide (x.From=x.To)||(decide (x.Meters<1)||(decide (100000<x.Meters)||(decide (x.Secs<1)||decide (100000<x.Secs)))))=false by simp;omega]
   rfl
  rw[this]
  simp only[QQ,Qhk r hn,Option.bind_some,Qi1 r h3 h1 h2 h4]
 ·have h:=J9 r hn;unfold Wx;have e1:Vk r=Yk r:=rfl
  rw[e1,QeA r hn _ (by simp)]
  unfold V1 at hz ⊢
  simp only[Y1,Option.bind_some]
  generalize (decide (r.Nodes<1)||_)=a at *
  generalize decide ((512:Int)<(r.Edges.length:Nat))=b at *
  generalize YZ (fun _ x=>Qam r x) (.inl ()) 0 r.Edges=o at *
  cases a<;>cases b<;>cases o<;>first | rfl | exact absurd rfl hz
end Go.Proofs.YtilbengnjgglhaaGreat
namespace Go.Proofs.YtilbengnjgglhaaGreat
open Go.RowKit
set_option linter.unusedSimpArgs false
set_option linter.unusedVariables false
theorem Qfe (c:Int):Wd c=Yi c:=by
 unfold Wd Yi
 generalize decide (97≤c)=a
 generalize decide (c≤122)=b
 generalize decide (65≤c)=d
 generalize decide (c≤90)=e
 cases a<;>cases b<;>cases d<;>cases e<;>rfl
theorem Qbl (c:Int): ∃b,Yi c=some b:=by
 unfold Yi
 generalize decide (97≤c)=a
 generalize decide (c≤122)=b
 generalize decide (65≤c)=d
 generalize decide (c≤90)=e
 cases a<;>cases b<;>cases d<;>cases e<;>exact ⟨_,rfl⟩
theorem Qgc (s:ByteArray):WN s=QG s:=by
 funext i
 simp only[WN,QG,Qfe]
theorem QfL {s:ByteArray} {k:Nat} (h:k<s.size): ∃b,QeT s (k:Int)=some b:=by
 unfold QeT
 rw[if_pos (by omega)]
 simp[h]
theorem Qg6 (s:ByteArray) (hs:s.size≤32): ∀(m k:Nat),k+m=s.size→ ∃o,iter (QG s) (m+1) (k:Int)=some o
 | 0,k,h=>by
  refine ⟨.inl (),?_⟩
  simp only[iter,QG]
  rw[show decide ((k:Int)<((s.size:Nat):Int))=false by simp;omega]
  rfl
 | m+1,k,h=>by
  obtain ⟨b,hb⟩:=QfL (s:=s) (k:=k) (by omega);obtain ⟨q,hq⟩:=Qbl b;obtain ⟨o,ho⟩:=Qg6 s hs m (k+1) (by omega);have hbody:(∃z,QG s (k:Int)=some (.inr z))∨QG s (k:Int)=some (.inl ((k+1:Nat):Int)):=by
   simp only[QG]
   rw[show decide ((k:Int)<((s.size:Nat):Int))=true by simp;omega]
   simp only[cond_true,hb,Option.bind_some,hq,JY (show k<9223372036854775807 by omega)]
   generalize decide (b<48)=c1
   generalize decide (b=45)=c2
   generalize decide (b=95)=c3
   generalize decide (b=46)=c4
   generalize decide (57<b)=c5
   cases q<;>cases c1<;>cases c2<;>cases c3<;>cases c4<;>cases c5<;>first | exact .inr rfl | exact .inl ⟨_,rfl⟩
  rcases hbody with ⟨z,hz⟩ | hz
  ·exact ⟨z,by rw[iter,hz];rfl⟩
  ·exact ⟨o,by rw[iter,hz];exact ho⟩
theorem QiP {F:Nat} (hF:33≤F) (s:ByteArray):Vp F s=YO s:=by
 unfold Vp YO
 simp only[Qfe,Qgc]
 by_cases h1:((s.size:Nat):Int)<1
 ·simp only[h1,decide_true,cond_true,Option.bind_some]
 ·by_cases h2:(32:Int)<((s.size:Nat):Int)
  ·simp only[h1,h2,decide_true,decide_false,cond_true,cond_false,Option.bind_some]
  ·obtain ⟨b,hb⟩:=QfL (s:=s) (k:=0) (by omega);obtain ⟨q,hq⟩:=Qbl b;have hb':QeT s 0=some b:=hb
   simp only[h1,h2,decide_false,cond_false,hb',Option.bind_some,hq]
   cases q with
   | false=>rfl
   | true =>
    simp only[Bool.not_true,cond_false]
    obtain ⟨o,ho⟩:=Qg6 s (by omega) (s.size-1) 1 (by omega)
    rw[show ((1:Nat):Int)=1 from rfl] at ho
    rw[Qc5 ho (by omega)]
    have e2:iter (QG s) (((s.size:Nat):Int).toNat+1) 0=some o:=by
     rw[iter]
     have:QG s 0=some (.inl 1):=by
      simp only[QG]
      rw[show decide ((0:Int)<((s.size:Nat):Int))=true by simp;omega]
      simp only[cond_true,hb',Option.bind_some,hq,Bool.not_true,cond_false]
      rfl
     rw[this]
     exact Qc5 ho (by simp;omega)
    rw[e2]
theorem Qgs {F:Nat} (hF:33≤F) (v:Qo) (n m:Int):Wr F v n m=QT v n m:=by
 unfold Wr QT
 rw[QiP hF]
theorem QiS {α ρ:Type} (p:α→Bool) (o fin:ρ): ∀(l:List α) (k:Nat),YZ (fun _ y=>bif p y then some o else none) fin k l=bif l.any p then o else fin
 | [],_=>rfl
 | x::l,k=>by
  simp only[YZ,List.any_cons]
  cases p x
  ·simpa using QiS p o fin l (k+1)
  ·rfl
theorem QhN {α:Type} (p:α→Bool): ∀(l:List α) (k:Nat),(YZ (fun (k:Nat) y=>bif p y then some (.inr (k:Int)) else none) (.inl ():Unit⊕Int) k l= .inl ()∧l.any p=false) ∨
  ∃j:Nat,YZ (fun (k:Nat) y=>bif p y then some (.inr (k:Int)) else none) (.inl ():Unit⊕Int) k l= .inr (j:Int)∧l.any p=true
 | [],_=> .inl ⟨rfl,rfl⟩
 | x::l,k=>by
  simp only[YZ,List.any_cons]
  cases p x
  ·simpa using QhN p l (k+1)
  ·exact .inr ⟨k,rfl,rfl⟩
def QbA {α β:Type} [DecidableEq β] (f:α→β) (l:List α) (k:Nat) (x:α):Option (Unit⊕Int):=bif (l.take k).any (fun y=>decide (f x=f y)) then some (.inr 6) else none
theorem QkY {α β:Type} [DecidableEq β] (f:α→β) (l:List α) (hn:l.length<1000000) {b2:Int→Int→Option (Int⊕(Unit⊕Int))} {b3:Int→Option (Int⊕(Unit⊕Int))}
  (h2: ∀(i k:Nat) (x y:α),l[i]? =some x→l[k]? =some y→k<i→b2 i k=some (bif decide (f x=f y) then .inr (.inr 6) else .inl (w64 ((k:Int)+1))))
  (h2f: ∀i:Nat,b2 i i=some (.inr (.inl ())))
  (h3: ∀i:Nat,i<l.length→b3 i=Option.bind (Option.bind (iter (b2 i) ((i:Int).toNat+1) 0) (fun o_=>QQ o_ (fun _=>some (.inl ())) (fun rv=>some (.inr rv)))) (fun o_=>QQ o_ (fun _:Unit=>some (.inl (w64 ((i:Int)+1)))) (fun rv=>some (.inr (.inr rv)))))
  (h3f:b3 (l.length:Nat)=some (.inr (.inl ()))):iter b3 (((l.length:Nat):Int).toNat+1) 0=some (YZ (QbA f l) (.inl ()) 0 l):=by
 refine YA l (QbA f l) (.inl ()) (by omega) (fun i x hx=> ?_) h3f _ (by simp);have hi:=Qz hx
 rw[h3 i hi]
 have:=YA (body:=b2 i) (l.take i) (fun _ y=>bif decide (f x=f y) then some (.inr 6) else none) (.inl ():Unit⊕Int) (by simp;omega) (fun k y hy=> ?_) (by rw[Zs (Nat.le_of_lt hi)];exact h2f i) ((i:Int).toNat+1) (by rw[Zs (Nat.le_of_lt hi)];omega)
 ·rw[this,QiS]
  unfold QbA
  generalize (l.take i).any _=b
  cases b<;>rfl
 ·have hk:=Qz hy
  rw[Zs (Nat.le_of_lt hi)] at hk
  rw[List.getElem?_take,if_pos hk] at hy
  rw[h2 i k x y hx hy hk]
  cases decide (f x=f y)<;>rfl
def QjB (l:List Qo):List (ByteArray×Bool):=l.foldl (fun m x=>QeX x.ID true m) []
theorem Qfs {β:Type} (k j:ByteArray) (v:β): ∀(m:List (ByteArray×β)),QaX j (QeX k v m)=if k=j then some v else QaX j m
 | []=>by simp[QeX,QaX]
 | p::m=>by
  simp only[QeX]
  by_cases h:p.1=k
  ·subst h
   by_cases h2:p.1=j<;>simp[QaX,h2]
  ·by_cases h2:p.1=j
   ·have: ¬k=j:=fun e=>h (by rw[h2,e])
    rw[if_neg h,if_neg this]
    simp[QaX,h2]
   ·simp[QaX,h,h2,Qfs k j v m]
theorem Qit (l:List Qo) (id:ByteArray): ∀(m:List (ByteArray×Bool)),(QaX id (l.foldl (fun m x=>QeX x.ID true m) m)).getD false=(l.any (fun y=>decide (id=y.ID))||(QaX id m).getD false):=by
 induction l with
 | nil=>intro m;simp
 | cons x l ih =>
  intro m
  rw[List.foldl_cons,ih,List.any_cons,Qfs]
  by_cases h:x.ID=id
  ·simp[h]
  ·have: ¬id=x.ID:=fun e=>h e.symm
   simp[h,this]
theorem QeK (l:List Qo) (hn:l.length≤16):iter (Ja l) (((l.length:Nat):Int).toNat+1) ([],0)=some (YZ (QbA (·.ID) l) (.inl ()) 0 l):=by
 refine QcF (body:=Ja l) l (fun k=>QjB (l.take k)) (fun m k=>(m,k)) (QbA (·.ID) l) (.inl ()) (by omega) (fun k x hx _=> ?_) (fun _=>by simp[Ja,oun]) _ (by simp);have hk:=Qz hx;have hk2:((k:Int)<(l.length:Nat)):=by omega
 simp only[Ja,oun,hk2,decide_true,cond_true,Qt,hx,Option.bind_some]
 rw[QjB,Qit,QaZ hx]
 simp only[QaX,Option.getD_none,Bool.or_false,QbA,QjB,List.foldl_append,List.foldl_cons,List.foldl_nil]
 generalize (l.take k).any _=b
 cases b<;>rfl
theorem QaC {F:Nat} (hF:33≤F) (l:List Qo) (n m:Int):JR F l n m=QZ l n m:=by
 unfold JR QZ;have e1:Z9 F l n m=QH l n m:=by
  funext i
  simp only[Z9,QH,Qgs hF]
 rw[e1]
 by_cases h:(16:Int)<((l.length:Nat):Int)
 ·simp only[h,decide_true,cond_true]
 ·have e3:=QkY (·.ID) l (by omega) (b2:=Zg l) (b3:=Zh l) (fun i k x y hx hy hk=>by
    have:((k:Int)<(i:Int)):=by omega
    simp only[Zg,this,decide_true,cond_true,Qt,hx,hy,Option.bind_some]
    cases decide (x.ID=y.ID)<;>rfl) (fun i=>by simp[Zg]) (fun i hi=>by
    have:((i:Int)<((l.length:Nat):Int)):=by omega
    simp only[Zh,this,decide_true,cond_true]) (by simp[Zh])
  rw[e3,QeK l (by omega)]
theorem QiE (n a b:Int):Jn n a b=some (decide (a≤n)&&decide (n≤b)):=by
 unfold Jn
 rw[QiR]
 rfl
theorem QfI (l:List Qn) (n m:Int):Ws l n m=QL l n m:=by
 funext i
 simp only[Ws,QL]
 cases decide (i<((l.length:Nat):Int)) with
 | false=>rfl
 | true =>
  simp only[cond_true]
  cases QJ l i with
  | none=>rfl
  | some x =>
   simp only[Option.bind_some,QaI,QiE,Y1,Bool.not_and]
   have e1:(!decide (0≤x.Container)|| !decide (x.Container≤255))=(decide (x.Container<0)||decide (256≤x.Container)):=by
    rw[Bool.eq_iff_iff];simp;omega
   have e2:(!decide (0≤x.Grams)|| !decide (x.Grams≤1073741824))=(decide (x.Grams<0)||decide (1073741824<x.Grams)):=by
    rw[Bool.eq_iff_iff];simp
   have e3:(!decide (0≤x.Service)|| !decide (x.Service≤3600))=(decide (x.Service<0)||decide (3600<x.Service)):=by
    rw[Bool.eq_iff_iff];simp
   rw[e1,e2,e3]
   have key: ∀(a b c d:Bool),(bif a||b then some true else some (c||d))=some (a||(b||(c||d))):=by intro a b c d;cases a<;>cases b<;>rfl
   simp only[Y1,Bool.or_assoc]
   generalize (decide (x.Container<0)||_)=a
   generalize (decide (x.Grams<0)||_)=b
   cases a<;>cases b<;>rfl
theorem QdF (L:List Qn) (hn:L.length≤32) (x:Qn):Yn L x=some (L.any fun y=>decide (x.Container=y.Container)):=by
 unfold Yn Zn;have:=YA (body:=Yo L x) L (fun k y=>bif decide (x.Container=y.Container) then some (.inr (k:Int)) else none) (.inl ():Unit⊕Int) (by omega) (fun k y hy=> ?_) (by simp[Yo]) (((L.length:Nat):Int).toNat+1) (by simp)
 ·rw[this]
  rcases QhN (fun y:Qn=>decide (x.Container=y.Container)) L 0 with ⟨h1,h2⟩ | ⟨j,h1,h2⟩
  ·rw[h1,h2];rfl
  ·rw[h1,h2]
   simp only[Option.bind_some,QQ]
   simp
 ·have hk:=Qz hy;have hk2:((k:Int)<(L.length:Nat)):=by omega
  simp only[Yo,hk2,decide_true,cond_true,Qt,hy,Option.bind_some,WL]
  rw[show decide (y.Container=x.Container)=decide (x.Container=y.Container) by rw[Bool.eq_iff_iff];simp[eq_comm]]
  cases decide (x.Container=y.Container)<;>rfl
theorem Va {α:Type} {l:List α} {k:Nat} (h:k≤l.length):J0 l 0 (k:Int)=some (l.take k):=by
 unfold J0
 rw[if_pos ⟨by omega,by omega,by omega⟩]
 simp
theorem QdD (l:List Qn) (n m:Int):WK l n m=Q4 l n m:=by
 unfold WK Q4
 rw[QfI]
 by_cases h:(32:Int)<((l.length:Nat):Int)
 ·simp only[h,decide_true,cond_true]
 ·have e3:=QkY (·.Container) l (by omega) (b2:=Ya l) (b3:=Yb l) (fun i k x y hx hy hk=>by
    have:((k:Int)<(i:Int)):=by omega
    simp only[Ya,this,decide_true,cond_true,Qt,hx,hy,Option.bind_some]
    cases decide (x.Container=y.Container)<;>rfl) (fun i=>by simp[Ya]) (fun i hi=>by
    have:((i:Int)<((l.length:Nat):Int)):=by omega
    simp only[Yb,this,decide_true,cond_true]) (by simp[Yb])
  have e4:iter (JL l) (((l.length:Nat):Int).toNat+1) 0=some (YZ (QbA (·.Container) l) (.inl ()) 0 l):=by
   refine YA l (QbA (·.Container) l) (.inl ()) (by omega) (fun k x hx=> ?_) (by simp[JL]) _ (by simp);have hk:=Qz hx;have hk2:((k:Int)<(l.length:Nat)):=by omega
   simp only[JL,hk2,decide_true,cond_true,Qt,hx,Option.bind_some,Va (Nat.le_of_lt hk),QbA]
   rw[QdF _ (by simp;omega)]
   simp only[Option.bind_some]
   generalize (l.take k).any _=b
   cases b<;>rfl
  rw[e3,e4]
theorem Qb5 {F:Nat} (hF:33≤F) (p:Qb) (hn:p.Road.Edges.length≤600):Vc F p=Qi p:=by
 unfold Vc Qi
 rw[Qb1 _ hn,J9 _ hn]
 simp only[QaC hF,QdD]
theorem QaN {ρ:Type} {body:Int→Option (Int⊕ρ)} {N:Nat} (hN:N<1000000) (hb: ∀k:Nat,k<N→(∃r,body k=some (.inr r))∨body k=some (.inl ((k+1:Nat):Int))) (hf: ∃r,body (N:Nat)=some (.inr r)) :
  ∀(m k:Nat),k+m=N→ ∃o,iter body (m+1) (k:Int)=some o
 | 0,k,h=>by
  obtain ⟨r,hr⟩:=hf;obtain rfl:k=N:=by omega
  exact ⟨r,by rw[iter,hr];rfl⟩
 | m+1,k,h=>by
  rcases hb k (by omega) with ⟨r,hr⟩ | hr
  ·exact ⟨r,by rw[iter,hr];rfl⟩
  ·obtain ⟨o,ho⟩:=QaN hN hb hf m (k+1) (by omega);exact ⟨o,by rw[iter,hr];exact ho⟩
theorem Qg3 (p:Qb):(∃b,Zi p=some b)∧(Zi p=some false→p.Road.Edges.length≤600∧p.Vehicles.length≤30∧p.Demands.length≤60):=by
 unfold Zi
 simp only[Y1,Option.bind_some]
 by_cases h:(decide ((600:Int)<((p.Road.Edges.length:Nat):Int))||(decide ((30:Int)<((p.Vehicles.length:Nat):Int))||decide ((60:Int)<((p.Demands.length:Nat):Int))))=true
 ·rw[h]
  exact ⟨⟨true,rfl⟩,fun e=>by cases e⟩
 ·rw[Bool.not_eq_true] at h
  rw[h]
  simp only[Bool.or_eq_false_iff,decide_eq_false_iff_not] at h
  obtain ⟨o,ho⟩:=QaN (body:=Zj p) (N:=p.Vehicles.length) (by omega) (fun k hk=>by
   obtain ⟨x,hx⟩: ∃x,p.Vehicles[k]? =some x:=⟨_,List.getElem?_eq_getElem hk⟩
   have hk2:((k:Int)<((p.Vehicles.length:Nat):Int)):=by omega
   simp only[Zj,hk2,decide_true,cond_true,Qt,hx,Option.bind_some,JY (show k<9223372036854775807 by omega)]
   cases decide ((200:Int)<((x.ID.size:Nat):Int)) with
   | true=>exact .inl ⟨_,rfl⟩
   | false=>exact .inr rfl) ⟨_,by simp[Zj];rfl⟩ p.Vehicles.length 0 (by omega)
  refine ⟨?_,fun _=>by omega⟩
  simp only[cond_false]
  rw[show (((p.Vehicles.length:Nat):Int).toNat+1)=p.Vehicles.length+1 by simp,show (0:Int)=((0:Nat):Int) from rfl,ho]
  cases o with
  | inl u=>exact ⟨false,rfl⟩
  | inr b=>exact ⟨b,rfl⟩
theorem Qeb (l:List Qn) (n m:Int) (hn:l.length≤32): ∃o,iter (QL l n m) (((l.length:Nat):Int).toNat+1) 0=some o:=by
 obtain ⟨o,ho⟩:=QaN (body:=QL l n m) (N:=l.length) (by omega) (fun k hk=>by
   obtain ⟨x,hx⟩: ∃x,l[k]? =some x:=⟨_,List.getElem?_eq_getElem hk⟩
   have hk2:((k:Int)<((l.length:Nat):Int)):=by omega
   simp only[QL,hk2,decide_true,cond_true,Qt,hx,Option.bind_some,Y1,JY (show k<9223372036854775807 by omega)]
   generalize (decide (x.Container<0)||_)=a
   generalize (decide (x.Grams<0)||_)=b
   cases a<;>cases b<;>first | exact .inr rfl | exact .inl ⟨_,rfl⟩) ⟨_,by simp[QL];rfl⟩ l.length 0 (by omega)
 exact ⟨o,by simpa using ho⟩
theorem QcJ (v:Qo) (n:Int): ∃e,QT v n 16=some e:=by
 unfold QT;have hv: ∃b,YO v.ID=some b:=by
  unfold YO
  by_cases h1:((v.ID.size:Nat):Int)<1
  ·exact ⟨false,by simp only[h1,decide_true,cond_true,Option.bind_some]⟩
  ·by_cases h2:(32:Int)<((v.ID.size:Nat):Int)
   ·exact ⟨false,by simp only[h1,h2,decide_true,decide_false,cond_true,cond_false,Option.bind_some]⟩
   ·obtain ⟨b,hb⟩:=QfL (s:=v.ID) (k:=0) (by omega);obtain ⟨q,hq⟩:=Qbl b;have hb':QeT v.ID 0=some b:=hb;obtain ⟨o,ho⟩:=Qg6 v.ID (by omega) v.ID.size 0 (by omega)
    simp only[h1,h2,decide_false,cond_false,hb',Option.bind_some,hq]
    rw[show (((v.ID.size:Nat):Int).toNat+1)=v.ID.size+1 by simp,show (0:Int)=((0:Nat):Int) from rfl,ho]
    cases q<;>cases o<;>exact ⟨_,rfl⟩
 obtain ⟨b,hb⟩:=hv
 rw[hb]
 simp only[Option.bind_some,Y1,Jf (show (0:Int)≤16∧(16:Int)≤64 by decide)]
 generalize (decide (v.Depot<0)||_)=c1
 generalize (decide (v.Shift.From<0)||_)=c2
 generalize (decide (v.Grams<1)||_)=c3
 generalize (decide (v.Kinds<1)||_)=c4
 cases b<;>cases c1<;>cases c2<;>cases c3<;>cases c4<;>exact ⟨_,rfl⟩
theorem Qhq (l:List Qo) (n:Int): ∃e,QZ l n 16=some e:=by
 by_cases h:(16:Int)<((l.length:Nat):Int)
 ·unfold QZ
  simp only[Y1,Option.bind_some,h,decide_true,cond_true]
  generalize (decide (n<1)||_)=a
  generalize decide (((l.length:Nat):Int)=0)=b
  cases a<;>cases b<;>exact ⟨_,rfl⟩
 ·obtain ⟨o,ho⟩:=QaN (body:=QH l n 16) (N:=l.length) (by omega) (fun k hk=>by
   obtain ⟨x,hx⟩: ∃x,l[k]? =some x:=⟨_,List.getElem?_eq_getElem hk⟩
   obtain ⟨e,he⟩:=QcJ x n;have hk2:((k:Int)<((l.length:Nat):Int)):=by omega
   simp only[QH,hk2,decide_true,cond_true,Qt,hx,Option.bind_some,he,JY (show k<9223372036854775807 by omega)]
   cases decide (e=0)<;>first | exact .inr rfl | exact .inl ⟨_,rfl⟩) ⟨_,by simp[QH];rfl⟩ l.length 0 (by omega)
  have h2:=QaC (F:=33) (Nat.le_refl _) l n 16
  rw[←h2]
  unfold JR;have e1:Z9 33 l n 16=QH l n 16:=by
   funext i
   simp only[Z9,QH,Qgs (F:=33) (Nat.le_refl _)]
  rw[e1,QeK l (by omega),show (((l.length:Nat):Int).toNat+1)=l.length+1 by simp,show (0:Int)=((0:Nat):Int) from rfl,ho]
  simp only[Y1,Option.bind_some,h,decide_false,cond_false]
  generalize (decide (n<1)||_)=a
  generalize decide (((l.length:Nat):Int)=((0:Nat):Int))=b
  generalize YZ (QbA (·.ID) l) (.inl ()) 0 l=q
  cases a<;>cases b<;>cases o<;>cases q<;>exact ⟨_,rfl⟩
theorem Qht (p:Qb) (hn:p.Road.Edges.length≤600): ∃e,Qi p=some e:=by
 unfold Qi
 rw[J9 _ hn]
 obtain ⟨e2,he2⟩:=Qhq p.Vehicles p.Road.Nodes;have he3: ∃e,Q4 p.Demands p.Road.Nodes 16=some e:=by
  by_cases h:(32:Int)<((p.Demands.length:Nat):Int)
  ·exact ⟨8,by unfold Q4;simp only[h,decide_true,cond_true]⟩
  ·obtain ⟨o,ho⟩:=Qeb p.Demands p.Road.Nodes 16 (by omega);unfold Q4;have e3:=QkY (·.Container) p.Demands (by omega) (b2:=Ya p.Demands) (b3:=Yb p.Demands) (fun i k x y hx hy hk=>by
    have:((k:Int)<(i:Int)):=by omega
    simp only[Ya,this,decide_true,cond_true,Qt,hx,hy,Option.bind_some]
    cases decide (x.Container=y.Container)<;>rfl) (fun i=>by simp[Ya]) (fun i hi=>by
    have:((i:Int)<((p.Demands.length:Nat):Int)):=by omega
    simp only[Yb,this,decide_true,cond_true]) (by simp[Yb])
   rw[ho,e3]
   simp only[h,decide_false,cond_false,Option.bind_some]
   generalize YZ (QbA (·.Container) p.Demands) (.inl ()) 0 p.Demands=q
   cases o<;>cases q<;>exact ⟨_,rfl⟩
 obtain ⟨e3,he3⟩:=he3
 simp only[he2,he3,Option.bind_some,Y1]
 generalize decide (V1 p.Road=0)=a
 generalize decide (e2=0)=b
 generalize decide (e3=0)=c
 generalize (decide (p.Unload<0)||_)=d
 generalize (decide (p.UnloadSecs<0)||_)=f
 cases a<;>cases b<;>cases c<;>cases d<;>cases f<;>exact ⟨_,rfl⟩
end Go.Proofs.YtilbengnjgglhaaGreat
namespace Go.Proofs.YtilbengnjgglhaaGreat
open Go.RowKit
set_option linter.unusedSimpArgs false
set_option linter.unusedVariables false
abbrev It:=QA
abbrev Qu:=Qa
abbrev Lg:=Qd
def Lg.lt (a b:Lg):Prop:=a.Secs<b.Secs∨(a.Secs=b.Secs∧a.Meters<b.Meters)
def Lg.le (a b:Lg):Prop:=a.Secs<b.Secs∨(a.Secs=b.Secs∧a.Meters≤b.Meters)
instance (a b:Lg):Decidable (Lg.lt a b):=by unfold Lg.lt;infer_instance
instance (a b:Lg):Decidable (Lg.le a b):=by unfold Lg.le;infer_instance
theorem Lg.le_of_not_lt {a b:Lg} (h: ¬Lg.lt a b):Lg.le b a:=by unfold Lg.lt at h;unfold Lg.le;omega
theorem Lg.le_of_lt {a b:Lg} (h:Lg.lt a b):Lg.le a b:=by unfold Lg.lt at h;unfold Lg.le;omega
theorem Lg.le_refl (a:Lg):Lg.le a a:=by unfold Lg.le;omega
theorem Lg.le_trans {a b c:Lg} (h:Lg.le a b) (h2:Lg.le b c):Lg.le a c:=by unfold Lg.le at *;omega
theorem Lg.not_lt {a b:Lg} (h:Lg.le b a): ¬Lg.lt a b:=by unfold Lg.le at h;unfold Lg.lt;omega
abbrev noL:Lg:=⟨-1,0⟩
theorem Qe3 (a b:Lg):WD a b=some (decide (b=noL)||decide (Lg.lt a b)):=by
 unfold WD VF
 simp only[Option.bind_some]
 by_cases h:b=noL
 ·simp[h]
 ·by_cases h1:a.Secs<b.Secs
  ·simp[h,h1,Lg.lt]
  ·by_cases h2:a.Secs=b.Secs
   ·simp[h,h1,h2,Lg.lt]
   ·simp[h,h1,h2,Lg.lt]
def okI (x:It):Prop:=0≤x.value.leg.Secs
theorem QhW {a b:QN} (hb:0≤b.leg.Secs):JP a b=some (decide (Lg.lt a.leg b.leg)):=by
 unfold JP
 rw[Qe3]
 have hn:b.leg≠noL:=by intro e;rw[e] at hb;exact absurd hb (by decide)
 by_cases h:a.leg=b.leg
 ·rw[h]
  simp[Lg.lt]
 ·simp[h,hn]
def bef (x y:It):Bool:=decide (Lg.lt x.value.leg y.value.leg)||(decide (x.n<y.n)&& !decide (Lg.lt y.value.leg x.value.leg))
theorem Qg9 {x y:It} (h:bef x y=true):Lg.le x.value.leg y.value.leg:=by
 simp only[bef,Bool.or_eq_true,Bool.and_eq_true,decide_eq_true_eq,Bool.not_eq_true',decide_eq_false_iff_not] at h
 rcases h with h | ⟨_,h⟩
 ·exact Lg.le_of_lt h
 ·exact Lg.le_of_not_lt h
theorem QfC {x y:It} (h:bef x y=false):Lg.le y.value.leg x.value.leg:=by
 simp only[bef,Bool.or_eq_false_iff,decide_eq_false_iff_not] at h
 exact Lg.le_of_not_lt h.1
theorem Qe1 {q:Qu} {i k:Nat} {x y:It} (hx:q.heap[i]? =some x) (hy:q.heap[k]? =some y) (h1:okI x) (h2:okI y):Yz q i k=some (bef x y):=by
 unfold Yz
 simp only[Qt,hx,hy,Option.bind_some,oun]
 rw[QhW (a:=⟨x.value.node,⟨x.value.leg.Secs,x.value.leg.Meters⟩⟩) (b:=⟨y.value.node,⟨y.value.leg.Secs,y.value.leg.Meters⟩⟩) h2,QhW (a:=⟨y.value.node,⟨y.value.leg.Secs,y.value.leg.Meters⟩⟩) (b:=⟨x.value.node,⟨x.value.leg.Secs,x.value.leg.Meters⟩⟩) h1]
 simp only[Option.bind_some]
 unfold bef;cases decide (Lg.lt x.value.leg y.value.leg)<;>cases decide (x.n<y.n)<;>rfl
def swp (h:List It) (i k:Nat):List It:=match h[i]?,h[k]? with
 | some x,some y=>(h.set i y).set k x
 | _,_=>h
theorem Qf7 {q:Qu} {i k:Nat} (hi:i<q.heap.length) (hk:k<q.heap.length):Yv q i k=some ⟨swp q.heap i k,q.count⟩:=by
 unfold Yv swp
 simp only[Qt,List.getElem?_eq_getElem hi,List.getElem?_eq_getElem hk,Option.bind_some,Z2,Int.toNat_natCast]
 rw[List.getElem?_eq_getElem (by simpa using hk)]
 rfl
theorem Vb (h:List It) (i k:Nat):(swp h i k).length=h.length:=by unfold swp;split<;>simp
theorem QeG {h:List It} {i k:Nat} (hi:i<h.length) (hk:k<h.length):(swp h i k).Perm h:=by
 unfold swp
 simp only[List.getElem?_eq_getElem hi,List.getElem?_eq_getElem hk]
 exact List.set_set_perm hi hk
theorem QaY {h:List It} {i k:Nat} (hi:i<h.length) (hk:k<h.length) (j:Nat):(swp h i k)[j]? =if j=k then h[i]? else if j=i then h[k]? else h[j]? :=by
 unfold swp
 simp only[List.getElem?_eq_getElem hi,List.getElem?_eq_getElem hk]
 rw[List.getElem?_set,List.getElem?_set]
 simp only[List.length_set]
 by_cases h1:k=j
 ·subst h1;simp[hk]
 ·have h1': ¬j=k:=fun e=>h1 e.symm
  by_cases h2:i=j
  ·subst h2;simp[h1,h1',hi]
  ·have h2': ¬j=i:=fun e=>h2 e.symm
   simp[h1,h2,h1',h2']
end Go.Proofs.YtilbengnjgglhaaGreat
namespace Go.Proofs.YtilbengnjgglhaaGreat
open Go.RowKit
set_option linter.unusedSimpArgs false
set_option linter.unusedVariables false
abbrev kle (x y:It):Prop:=Lg.le x.value.leg y.value.leg
def okH (h:List It):Prop:= ∀x∈h,okI x
theorem okH.get {h:List It} (ho:okH h) {k:Nat} {x:It} (hx:h[k]? =some x):okI x:=ho x (List.mem_of_getElem? hx)
theorem okH.perm {h h':List It} (ho:okH h) (hp:h'.Perm h):okH h':=fun x hx=>ho x (hp.mem_iff.1 hx)
def Hp (h:List It):Prop:= ∀(k:Nat) (x y:It),1≤k→h[k]? =some x→h[(k-1)/2]? =some y→kle y x
theorem Hp.root {h:List It} (hh:Hp h) {r:It} (hr:h[0]? =some r): ∀(k:Nat) (x:It),h[k]? =some x→kle r x:=by
 intro k
 induction k using Nat.strongRecOn with
 | ind k ih =>
  intro x hx;rcases Nat.eq_zero_or_pos k with rfl | hk
  ·rw[hr] at hx;injection hx with hx;subst hx;exact Lg.le_refl _
  ·have hlt:=Qz hx;have hy:h[(k-1)/2]? =some h[(k-1)/2]:=List.getElem?_eq_getElem (by omega);exact Lg.le_trans (ih _ (by omega) _ hy) (hh k x _ hk hx hy)
def HpU (h:List It) (i:Nat):Prop:=(∀(k:Nat) (x y:It),1≤k→k≠i→h[k]? =some x→h[(k-1)/2]? =some y→kle y x) ∧
 ∀(c:Nat) (x y:It),1≤i→1≤c→(c-1)/2=i→h[c]? =some x→h[(i-1)/2]? =some y→kle y x
def HpD (h:List It) (i:Nat):Prop:=(∀(k:Nat) (x y:It),1≤k→(k-1)/2≠i→h[k]? =some x→h[(k-1)/2]? =some y→kle y x) ∧
 ∀(c:Nat) (x y:It),1≤i→1≤c→(c-1)/2=i→h[c]? =some x→h[(i-1)/2]? =some y→kle y x
theorem HpU.step {h:List It} {i:Nat} (hi:1≤i) (hl:i<h.length) (hu:HpU h i) {x y:It} (hx:h[i]? =some x) (hy:h[(i-1)/2]? =some y) (hle:kle x y):HpU (swp h i ((i-1)/2)) ((i-1)/2):=by
 have hp:(i-1)/2<h.length:=by omega
 generalize hpe:(i-1)/2=p at *
 refine ⟨fun k a b hk hkp ha hb=> ?_,fun c a b h1 hc hcp ha hb=> ?_⟩
 ·rw[QaY hl hp] at ha hb
  rw[if_neg hkp] at ha
  by_cases hki:k=i
  ·subst hki
   rw[if_pos rfl] at ha
   rw[hpe,if_pos rfl] at hb
   rw[hy] at ha;rw[hx] at hb
   injection ha with ha;injection hb with hb
   subst ha;subst hb;exact hle
  ·rw[if_neg hki] at ha
   by_cases h2:(k-1)/2=p
   ·rw[if_pos h2,hx] at hb
    injection hb with hb;subst hb
    exact Lg.le_trans hle (hu.1 k a y hk hki ha (by rw[h2];exact hy))
   ·rw[if_neg h2] at hb
    by_cases h3:(k-1)/2=i
    ·rw[if_pos h3] at hb
     exact hu.2 k a b hi hk h3 ha (by rw[hpe];exact hb)
    ·rw[if_neg h3] at hb
     exact hu.1 k a b hk hki ha hb
 ·rw[QaY hl hp] at ha hb
  rw[if_neg (by omega),if_neg (by omega)] at hb
  have hpp:kle b y:=hu.1 p y b h1 (by omega) hy hb
  by_cases hci:c=i
  ·subst hci
   rw[if_neg (by omega),if_pos rfl,hy] at ha
   injection ha with ha;subst ha
   exact hpp
  ·rw[if_neg (by omega),if_neg hci] at ha
   exact Lg.le_trans hpp (hu.1 c a y hc hci ha (by rw[hcp];exact hy))
theorem HpU.zero {h:List It} (hu:HpU h 0):Hp h:=fun k x y hk hx hy=>hu.1 k x y hk (by omega) hx hy
theorem HpU.stop {h:List It} {i:Nat} (hu:HpU h i) {x y:It} (hx:h[i]? =some x) (hy:h[(i-1)/2]? =some y) (hle:kle y x):Hp h:=by
 intro k a b hk ha hb
 by_cases hki:k=i
 ·subst hki
  rw[hx] at ha;rw[hy] at hb
  injection ha with ha;injection hb with hb
  subst ha;subst hb;exact hle
 ·exact hu.1 k a b hk hki ha hb
theorem HpD.step {h:List It} {i n:Nat} (hl:n<h.length) (hn:n=2*i+1∨n=2*i+2) (hd:HpD h i) {x y:It} (hx:h[n]? =some x) (hy:h[i]? =some y) (hmin: ∀(j:Nat) (z:It),(j=i∨j=2*i+1∨j=2*i+2)→h[j]? =some z→kle x z):HpD (swp h i n) n:=by
 have hi:i<h.length:=by omega
 refine ⟨fun k a b hk hkp ha hb=> ?_,fun c a b h1 hc hcp ha hb=> ?_⟩
 ·rw[QaY hi hl] at ha hb
  rw[if_neg hkp] at hb
  by_cases h2:(k-1)/2=i
  ·rw[if_pos h2,hx] at hb
   injection hb with hb;subst hb
   by_cases hkn:k=n
   ·rw[if_pos hkn] at ha
    exact hmin i a (.inl rfl) ha
   ·rw[if_neg hkn,if_neg (by omega)] at ha
    exact hmin k a (by omega) ha
  ·rw[if_neg h2] at hb
   by_cases hki:k=i
   ·subst hki
    rw[if_neg (by omega),if_pos rfl] at ha
    exact hd.2 n a b hk (by omega) (by omega) ha hb
   ·rw[if_neg (by omega),if_neg hki] at ha
    exact hd.1 k a b hk h2 ha hb
 ·rw[QaY hi hl] at ha hb
  have h3:(n-1)/2=i:=by omega
  rw[h3,if_neg (by omega),if_pos rfl,hx] at hb
  injection hb with hb;subst hb
  rw[if_neg (by omega),if_neg (by omega)] at ha
  exact hd.1 c a x hc (by omega) ha (by rw[hcp];exact hx)
theorem HpD.stop {h:List It} {i:Nat} (hd:HpD h i) {y:It} (hy:h[i]? =some y) (hmin: ∀(j:Nat) (z:It),(j=i∨j=2*i+1∨j=2*i+2)→h[j]? =some z→kle y z):Hp h:=by
 intro k a b hk ha hb
 by_cases h2:(k-1)/2=i
 ·rw[h2,hy] at hb
  injection hb with hb;subst hb
  exact hmin k a (by omega) ha
 ·exact hd.1 k a b hk h2 ha hb
theorem Qk1 {i:Nat} (h1:1≤i) (h2:i<1000000000):w64 (Int.tdiv (w64 ((i:Int)-1)) 2)=(((i-1)/2:Nat):Int):=by
 rw[QV (n:=(i:Int)-1) (by omega) (by omega),Int.tdiv_eq_ediv_of_nonneg (by omega),QV (by omega) (by omega)]
 omega
theorem Qia: ∀(i:Nat) (F:Nat) (h:List It) (c:Int),i<F→i<h.length→h.length<1000000000→okH h→HpU h i →
  ∃h',(iter Yr F (⟨h,c⟩,(i:Int))=some (.inl ⟨h',c⟩)∨iter Yr F (⟨h,c⟩,(i:Int))=some (.inr ⟨h',c⟩))∧h'.Perm h∧Hp h':=by
 intro i
 induction i using Nat.strongRecOn with
 | ind i ih =>
  intro F h c hF hl hb ho hu;obtain ⟨F,rfl⟩: ∃f,F=f+1:=⟨F-1,by omega⟩
  rcases Nat.eq_zero_or_pos i with rfl | hi
  ·exact ⟨h,.inl (by rw[iter];rfl),.refl _,hu.zero⟩
  ·have hx:h[i]? =some h[i]:=List.getElem?_eq_getElem hl;have hp:(i-1)/2<h.length:=by omega
   have hy:h[(i-1)/2]? =some h[(i-1)/2]:=List.getElem?_eq_getElem hp
   generalize h[i]=x at hx
   generalize h[(i-1)/2]=y at hy
   have hbody:Yr (⟨h,c⟩,(i:Int))=if bef x y=true then some (.inl (⟨swp h i ((i-1)/2),c⟩,(((i-1)/2:Nat):Int))) else some (.inr (.inr ⟨h,c⟩)):=by
    simp only[Yr,oun]
    rw[show decide ((0:Int)<(i:Int))=true by simp;omega]
    simp only[cond_true,Qk1 hi (by omega)]
    rw[Qe1 hx hy (ho.get hx) (ho.get hy)]
    simp only[Option.bind_some]
    cases bef x y with
    | false=>rfl
    | true =>
     simp only[Bool.not_true,cond_false]
     rw[Qf7 hl hp]
     rfl
   rw[iter,hbody]
   cases hbe:bef x y with
   | false=>exact ⟨h,.inr rfl,.refl _,hu.stop hx hy (QfC hbe)⟩
   | true =>
    have hpm:=QeG hl hp;obtain ⟨h',h1,h2,h3⟩:=ih ((i-1)/2) (by omega) F (swp h i ((i-1)/2)) c (by omega) (by rw[Vb];exact hp) (by rw[Vb];exact hb) (ho.perm hpm) (hu.step hi hl hx hy (Qg9 hbe));exact ⟨h',h1,h2.trans hpm,h3⟩
theorem QhJ {F:Nat} {q:Qu} (x:QN) (hF:q.heap.length<F) (hl:q.heap.length<1000000) (ho:okH q.heap) (hx:0≤x.leg.Secs) (hh:Hp q.heap) :
  ∃q',YQ F q x=some q'∧q'.heap.Perm (q.heap++[⟨x,q.count⟩])∧Hp q'.heap:=by
 unfold YQ
 rw[ZP (by simp;omega)]
 simp only[Option.bind_some]
 have e1:w64 (((((q.heap++[⟨x,q.count⟩]:List It).length:Nat):Int))-1)=((q.heap.length:Nat):Int):=by
  rw[List.length_append,List.length_singleton,QV (by omega) (by omega)];omega
 rw[e1]
 obtain ⟨h',h1,h2,h3⟩:=Qia q.heap.length F (q.heap++[⟨x,q.count⟩]) (w64 (q.count+1)) hF (by simp) (by simp;omega) (by
   intro y hy;rcases List.mem_append.1 hy with hy | hy
   ·exact ho y hy
   ·rw[List.mem_singleton.1 hy];exact hx) ⟨fun k a b hk hkn ha hb=>by
   have hka:=Qz ha
   rw[List.length_append,List.length_singleton] at hka
   rw[List.getElem?_append_left (by omega)] at ha hb
   exact hh k a b hk ha hb,fun c a b _ hc hcp ha _=>by
   have hka:=Qz ha
   rw[List.length_append,List.length_singleton] at hka
   omega⟩
 rcases h1 with h1 | h1
 ·exact ⟨⟨h',_⟩,by rw[h1];rfl,h2,h3⟩
 ·exact ⟨⟨h',_⟩,by rw[h1];rfl,h2,h3⟩
theorem Qda {h:List It} {c:Int} {i n k:Nat} (hb:h.length<1000000000) (hi:i<h.length) (ho:okH h) {y:It} (hy:h[n]? =some y) :
  pqueue_Queue_stop_sink_l1 (i:Int) (h,c,(n:Int),(k:Int))=match h[k]? with
   | some x=>if k≤2*i+2 then some (.inl (h,c,((if bef x y=true then k else n:Nat):Int),w64 ((k:Int)+1))) else some (.inr (h,c,(n:Int)))
   | none=>some (.inr (h,c,(n:Int))):=by
 simp only[pqueue_Queue_stop_sink_l1,oun]
 have e1:w64 (w64 (2*(i:Int))+2)=((2*i+2:Nat):Int):=by
  rw[QV (n:=2*(i:Int)) (by omega) (by omega),QV (by omega) (by omega)];omega
 rw[e1]
 cases hx:h[k]? with
 | none =>
  have hk:h.length≤k:=List.getElem?_eq_none_iff.1 hx
  rw[show decide ((k:Int)<((h.length:Nat):Int))=false by simp;omega]
  cases decide ((k:Int)≤((2*i+2:Nat):Int))<;>rfl
 | some x =>
  have hk:=Qz hx
  rw[show decide ((k:Int)<((h.length:Nat):Int))=true by simp;omega]
  by_cases h2:k≤2*i+2
  ·rw[show decide ((k:Int)≤((2*i+2:Nat):Int))=true by simp only[decide_eq_true_eq];omega]
   simp only[cond_true,Option.bind_some,if_pos h2]
   rw[Qe1 (q:=⟨h,c⟩) hx hy (ho.get hx) (ho.get hy)]
   simp only[Option.bind_some]
   cases bef x y<;>rfl
  ·rw[show decide ((k:Int)≤((2*i+2:Nat):Int))=false by simp only[decide_eq_false_iff_not];omega]
   simp only[cond_false,Option.bind_some,if_neg h2]
theorem QiA {F:Nat} {h:List It} {c:Int} {i:Nat} (hF:3≤F) (hb:h.length<1000000000) (hi:i<h.length) (ho:okH h) :
  ∃(n:Nat) (x:It),iter (pqueue_Queue_stop_sink_l1 (i:Int)) F (h,c,(i:Int),w64 (w64 (2*(i:Int))+1))=some (h,c,(n:Int))∧(n=i∨n=2*i+1∨n=2*i+2)∧h[n]? =some x ∧
   ∀(j:Nat) (z:It),(j=i∨j=2*i+1∨j=2*i+2)→h[j]? =some z→kle x z:=by
 obtain ⟨F,rfl⟩: ∃f,F=f+3:=⟨F-3,by omega⟩
 have e1:w64 (w64 (2*(i:Int))+1)=((2*i+1:Nat):Int):=by
  rw[QV (n:=2*(i:Int)) (by omega) (by omega),QV (by omega) (by omega)];omega
 have hy:h[i]? =some h[i]:=List.getElem?_eq_getElem hi
 generalize h[i]=y at hy
 rw[e1,iter,Qda hb hi ho hy]
 cases hx:h[2*i+1]? with
 | none =>
  have hk:h.length≤2*i+1:=List.getElem?_eq_none_iff.1 hx;refine ⟨i,y,rfl,.inl rfl,hy,fun j z hj hz=> ?_⟩;have:=Qz hz;obtain rfl:j=i:=by omega
  rw[hy] at hz;injection hz with hz;subst hz;exact Lg.le_refl _
 | some x =>
  simp only[show 2*i+1≤2*i+2 by omega,if_true,Option.bind_some,QQ]
  rw[JY (by omega)]
  obtain ⟨n1,x1,hn1,hx1,hle1,hle2,hin⟩: ∃(n1:Nat) (x1:It),(if bef x y=true then 2*i+1 else i)=n1∧h[n1]? =some x1∧kle x1 y∧kle x1 x∧(n1=i∨n1=2*i+1):=by
   cases hbe:bef x y with
   | true=>exact ⟨2*i+1,x,rfl,hx,Qg9 hbe,Lg.le_refl _,.inr rfl⟩
   | false=>exact ⟨i,y,rfl,hy,Lg.le_refl _,QfC hbe,.inl rfl⟩
  rw[hn1,iter,Qda hb hi ho hx1]
  cases hx2:h[2*i+1+1]? with
  | none =>
   have hk:h.length≤2*i+2:=List.getElem?_eq_none_iff.1 hx2;refine ⟨n1,x1,rfl,by omega,hx1,fun j z hj hz=> ?_⟩;have:=Qz hz;rcases hj with rfl | rfl | rfl
   ·rw[hy] at hz;injection hz with hz;subst hz;exact hle1
   ·rw[hx] at hz;injection hz with hz;subst hz;exact hle2
   ·omega
  | some x2 =>
   simp only[show 2*i+1+1≤2*i+2 by omega,if_true,Option.bind_some,QQ]
   rw[JY (by omega)]
   obtain ⟨n2,z2,hn2,hz2,hle3,hle4,hin2⟩: ∃(n2:Nat) (z2:It),(if bef x2 x1=true then 2*i+1+1 else n1)=n2∧h[n2]? =some z2∧kle z2 x1∧kle z2 x2∧(n2=n1∨n2=2*i+2):=by
    cases hbe:bef x2 x1 with
    | true=>exact ⟨2*i+2,x2,rfl,hx2,Qg9 hbe,Lg.le_refl _,.inr rfl⟩
    | false=>exact ⟨n1,x1,rfl,hx1,Lg.le_refl _,QfC hbe,.inl rfl⟩
   rw[hn2,iter,Qda hb hi ho hz2]
   have hfin:(match h[2*i+1+1+1]? with
     | some x=>if 2*i+1+1+1≤2*i+2 then some (.inl (h,c,((if bef x z2=true then 2*i+1+1+1 else n2:Nat):Int),w64 (((2*i+1+1+1:Nat):Int)+1))) else some (.inr (h,c,(n2:Int)))
     | none=>some (.inr (h,c,(n2:Int))):Option ((List It×Int×Int×Int)⊕(List It×Int×Int)))=some (.inr (h,c,(n2:Int))):=by
    cases h[2*i+1+1+1]? with
    | none=>rfl
    | some w=>simp only[];rw[if_neg (by omega)]
   rw[hfin]
   refine ⟨n2,z2,rfl,by omega,hz2,fun j z hj hz=> ?_⟩;rcases hj with rfl | rfl | rfl
   ·rw[hy] at hz;injection hz with hz;subst hz;exact Lg.le_trans hle3 hle1
   ·rw[hx] at hz;injection hz with hz;subst hz;exact Lg.le_trans hle3 hle2
   ·rw[hx2] at hz;injection hz with hz;subst hz;exact hle4
theorem Qiz {F:Nat} (hF3:3≤F): ∀(d:Nat) (i:Nat) (n:Nat) (h:List It) (c:Int),h.length-i≤d→d<n→i<h.length→h.length<1000000000→okH h→HpD h i →
  ∃h',iter (Ys F) n (h,c,(i:Int))=some ⟨h',c⟩∧h'.Perm h∧Hp h':=by
 intro d
 induction d with
 | zero=>intro i n h c hd _ hl;omega
 | succ d ih =>
  intro i n h c hd hn hl hb ho hh;obtain ⟨n,rfl⟩: ∃f,n=f+1:=⟨n-1,by omega⟩
  obtain ⟨m,x,h1,h2,h3,h4⟩:=QiA (c:=c) hF3 hb hl ho;have hml:=Qz h3;have hy:h[i]? =some h[i]:=List.getElem?_eq_getElem hl
  generalize h[i]=y at hy
  by_cases hmi:m=i
  ·subst hmi;refine ⟨h,?_,.refl _,hh.stop h3 h4⟩
   rw[iter]
   simp only[Ys,oun,h1,Option.bind_some,decide_true,cond_true,QQ]
  ·have hpm:=QeG hl hml;obtain ⟨h',g1,g2,g3⟩:=ih m n (swp h i m) c (by rw[Vb];omega) (by omega) (by rw[Vb];exact hml) (by rw[Vb];exact hb) (ho.perm hpm) (hh.step hml (by omega) h3 hy h4);refine ⟨h',?_,g2.trans hpm,g3⟩
   rw[iter]
   simp only[Ys,oun,h1,Option.bind_some]
   rw[show decide (((m:Nat):Int)=((i:Nat):Int))=false by simp only[decide_eq_false_iff_not];omega]
   simp only[cond_false]
   rw[Qf7 (q:=⟨h,c⟩) hl hml]
   simp only[Option.bind_some,QQ]
   exact g1
theorem QhD {F:Nat} (hF:3≤F) (c:Int):Yu F ⟨[],c⟩=some ⟨[],c⟩:=by
 obtain ⟨F,rfl⟩: ∃f,F=f+3:=⟨F-3,by omega⟩
 unfold Yu
 rw[iter]
 simp only[Ys,oun]
 rw[iter]
 rfl
theorem QjR (F:Nat) (q:Qu) (h:q.heap=[]):YF F q=some (⟨0,⟨0,0⟩⟩,false,q):=by
 unfold YF Zu ZH
 rw[h]
 rfl
theorem Qkr {F:Nat} {q:Qu} (hF:q.heap.length+3≤F) (hb:q.heap.length<1000000000) (ho:okH q.heap) (hh:Hp q.heap) (hne:q.heap≠[]) :
  ∃(x:It) (q':Qu),YF F q=some (x.value,true,q')∧(x::q'.heap).Perm q.heap∧Hp q'.heap∧ ∀y∈q.heap,kle x y:=by
 have hpos:0<q.heap.length:=List.length_pos_iff.2 hne;have hx:q.heap[0]? =some q.heap[0]:=List.getElem?_eq_getElem hpos
 generalize q.heap[0]=x at hx
 have hmin: ∀y∈q.heap,kle x y:=fun y hy=>by
  obtain ⟨k,hk⟩:=List.getElem?_of_mem hy;exact hh.root hx k y hk
 have hx':QJ q.heap 0=some x:=by simpa [QJ] using hx
 have e0:w64 (((q.heap.length:Nat):Int)-1)=((q.heap.length-1:Nat):Int):=by rw[QV (by omega) (by omega)];omega
 have hlast:q.heap.length-1<q.heap.length:=by omega
 obtain ⟨s,hs⟩: ∃s,swp q.heap 0 (q.heap.length-1)=s:=⟨_,rfl⟩
 have hsl:s.length=q.heap.length:=by rw[←hs,Vb]
 have hsp:s.Perm q.heap:=by rw[←hs];exact QeG hpos hlast
 have hsx:s[q.heap.length-1]? =some x:=by rw[←hs,QaY hpos hlast,if_pos rfl];exact hx
 have htake:s=s.take (q.heap.length-1)++[x]:=by
  conv=>lhs;rw[←List.take_append_drop (q.heap.length-1) s]
  congr 1
  rw[List.drop_eq_getElem_cons (by omega)]
  rw[List.getElem?_eq_getElem (by omega)] at hsx
  injection hsx with hsx
  rw[hsx,List.drop_of_length_le (by omega)]
 have hperm:(x::s.take (q.heap.length-1)).Perm q.heap:=by
  refine List.Perm.trans ?_ hsp
  conv=>rhs;rw[htake]
  exact (List.perm_append_comm (l₁:=[x]) (l₂:=s.take (q.heap.length-1)))
 have hclr: ∀z:It,J0 (Qd8 s ((q.heap.length-1:Nat):Int) z) 0 ((q.heap.length-1:Nat):Int)=some (s.take (q.heap.length-1)):=by
  intro z
  rw[Va (by rw[Qds];omega)]
  unfold Qd8
  rw[Int.toNat_natCast,List.take_append_of_le_length (by simp;omega),List.take_take,Nat.min_self]
 have hsub: ∃l,J0 s ((q.heap.length-1:Nat):Int) ((s.length:Nat):Int)=some l:=by
  unfold J0;exact ⟨_,if_pos ⟨by omega,by omega,by omega⟩⟩
 obtain ⟨l,hl⟩:=hsub;have hsw:=Qf7 (q:=q) hpos hlast
 rw[hs] at hsw
 have main: ∃h',Yu F ⟨s.take (q.heap.length-1),q.count⟩=some ⟨h',q.count⟩∧h'.Perm (s.take (q.heap.length-1))∧Hp h':=by
  by_cases h1:q.heap.length=1
  ·rw[show s.take (q.heap.length-1)=[] by rw[h1];rfl]
   exact ⟨[],QhD (by omega) _,.refl _,fun k a b _ ha=>by simp at ha⟩
  ·have htl:(s.take (q.heap.length-1)).length=q.heap.length-1:=by rw[List.length_take];omega
   have ho2:okH (s.take (q.heap.length-1)):=fun y hy=>ho y (hperm.mem_iff.1 (List.mem_cons_of_mem _ hy));obtain ⟨h',g1,g2,g3⟩:=Qiz (F:=F) (by omega) (q.heap.length) 0 F (s.take (q.heap.length-1)) q.count (by omega) (by omega) (by omega) (by omega) ho2 ⟨fun k a b hk hkp ha hb=>by
    have hk2:=Qz ha
    rw[htl] at hk2
    rw[List.getElem?_take,if_pos hk2,←hs,QaY hpos hlast,if_neg (by omega),if_neg (by omega)] at ha
    rw[List.getElem?_take,if_pos (by omega),←hs,QaY hpos hlast,if_neg (by omega),if_neg (by omega)] at hb
    exact hh k a b hk ha hb,fun _ _ _ h0=>by omega⟩
   refine ⟨h',?_,g2,g3⟩;unfold Yu
   rw[show (0:Int)=((0:Nat):Int) from rfl,g1]
   rfl
 obtain ⟨h',g1,g2,g3⟩:=main;refine ⟨x,⟨h',q.count⟩,?_,(List.Perm.cons x g2).trans hperm,g3,hmin⟩;unfold YF Zu ZH
 simp only[Option.bind_some]
 rw[show decide (((q.heap.length:Nat):Int)=0)=false by simp only[decide_eq_false_iff_not];omega]
 simp only[cond_false,hx',Option.bind_some,oun,Bool.not_true,e0]
 rw[show (0:Int)=((0:Nat):Int) from rfl,hsw]
 simp only[Option.bind_some,hl]
 rw[show ((0:Nat):Int)=(0:Int) from rfl,hclr]
 simp only[Option.bind_some,g1]
end Go.Proofs.YtilbengnjgglhaaGreat
