/- ExactBests: for every input the given law returns true, and its arguments read as before. No condition. -/
import Derived.Test.YtilbengnjgglhaaGreatc1x1
import Derived.Test.YtilbengnjgglhaaGreatc1x3
import Derived.Test.YtilbengnjgglhaaGreatc1x5
import Derived.Test.YtilbengnjgglhaaGreatc1x6
import Derived.Test.YtilbengnjgglhaaGreatc1x2
namespace Go.Proofs.YtilbengnjgglhaaGreat
open Go.RowKit
set_option linter.unusedSimpArgs false
set_option linter.unusedVariables false
set_option maxHeartbeats 2000000
set_option maxRecDepth 4000
attribute [local irreducible] WP Y0 Wx Fn AN Upd vcR vcO QaV ZB Zm W5 W9 QaS VJ ZK Qap QL KS
variable {μ:Gh} {L:List Seg} {R:Value→Gh→List Seg→Prop}
theorem VV {F:Nat} {t1:Qv} {x1:Ql} {A1:Option Addr} {c1:Nat} {A2:Option Addr} {c2:Nat} {A3:Option Addr} {c3:Nat} {A4:Option Addr} {c4:Nat} {A5:Option Addr} {c5:Nat} {A6:Option Addr} {c6:Nat} {A7:Option Addr} {c7:Nat} {res1:Qp}
  (hl1:t1.P.Road.Edges.length≤c1∧c1≤maxLen) (hA1:Qk Qw μ A1 t1.P.Road.Edges) (hl2:t1.P.Vehicles.length≤c2∧c2≤maxLen) (hA2:Qk Qq μ A2 t1.P.Vehicles) (hl3:t1.P.Demands.length≤c3∧c3≤maxLen) (hA3:Qk Qs μ A3 t1.P.Demands) (hl4:t1.Demands.length≤c4∧c4≤maxLen) (hA4:Qk QJ μ A4 t1.Demands) (hl5:t1.Legs.length≤c5∧c5≤maxLen) (hA5:Qk (Qbh QB) μ A5 t1.Legs) (hl6:x1.Stops.length≤c6∧c6≤maxLen) (hA6:Qk QJ μ A6 x1.Stops) (hl7:x1.Served.length≤c7∧c7≤maxLen) (hA7:Qk WM μ A7 x1.Served) (h:Yh F t1 x1=some res1)
  (hR: ∀(μ':Gh) (A0_2:Option Addr) (c0_2:Nat),μ.le μ'→(res1.Stops.length≤c0_2∧c0_2≤maxLen)→Qk QJ μ' A0_2 res1.Stops→R (.agg #[.bool res1.Ok,.int .i64 res1.Cost,.slice A0_2 res1.Stops.length c0_2]) μ' (L)) :
  Fn Tryz.prog 35 [.agg #[.int .i64 t1.P.Road.Nodes,.slice A1 t1.P.Road.Edges.length c1,.slice A2 t1.P.Vehicles.length c2,.slice A3 t1.P.Demands.length c3,.int .i64 t1.P.Unload,.int .i64 t1.P.UnloadSecs,.string t1.V.ID,.int .i64 t1.V.Depot,.int .i64 t1.V.Shift.From,.int .i64 t1.V.Shift.To,.int .i64 t1.V.Grams,.int .i64 t1.V.Kinds,.slice A4 t1.Demands.length c4,.slice A5 t1.Legs.length c5],.agg #[.slice A6 x1.Stops.length c6,.slice A7 x1.Served.length c7,.int .i64 x1.At,.int .i64 x1.Time,.int .i64 x1.Load,.int .i64 x1.Meters]] μ (L) R:=by
 induction F generalizing μ L R t1 x1 A1 c1 A2 c2 A3 c3 A4 c4 A5 c5 A6 c6 A7 c7 res1 with
 | zero=>cases h
 | succ F ih =>
 unfold Yh Jr at h;refine FnS Tryz.func35 (by kernel_rfl) E Tryz.ntmps35 E E ?_;refine G0 2 E (Al E fun g1=>Q0 0 E (Al E fun g2=>Q0 0 E (Al E fun g3=>Q0 4 E (Al E fun g4=>Q1 11 [0] E ?_))));refine Cut h (fun f l o_ f_ μ_ l_=> ∃(f7:Bool) (f8:Int) (f9:(List Int)) (all3:Bool) (A18:Option Addr) (c18:Nat),(f7,f8,f9,all3)=o_∧Qg ((6,.bool all3)::Qo [2,3,4,5] f) f_∧Qd ([(g1,.cells #[.int .i64 t1.P.Road.Nodes,.slice A1 t1.P.Road.Edges.length c1,.slice A2 t1.P.Vehicles.length c2,.slice A3 t1.P.Demands.length c3,.int .i64 t1.P.Unload,.int .i64 t1.P.UnloadSecs,.string t1.V.ID,.int .i64 t1.V.Depot,.int .i64 t1.V.Shift.From,.int .i64 t1.V.Shift.To,.int .i64 t1.V.Grams,.int .i64 t1.V.Kinds,.slice A4 t1.Demands.length c4,.slice A5 t1.Legs.length c5] 76 (0,0))]::[(g2,.cells #[.slice A6 x1.Stops.length c6,.slice A7 x1.Served.length c7,.int .i64 x1.At,.int .i64 x1.Time,.int .i64 x1.Load,.int .i64 x1.Meters] 81 (0,0))]::[(g3,.cells #[.bool false,.int .i64 0,.slice none 0 0] 49 (0,0))]::[(g4,.cells #[.bool f7,.int .i64 f8,.slice A18 f9.length c18] 49 (0,0))]::QU [] 4 l) l_∧(f9.length≤c18∧c18≤maxLen)∧Qk QJ μ_ A18 f9) ?_ ?_
 ·intro _ h10131 h;refine Lp h10131 (fun f l (j_:Bool×Int×(List Int)×Bool×Int) f_ μ_ l_=>J2 j_ fun f1 j_=>J2 j_ fun f2 j_=>J2 j_ fun f3 j_=>J2 j_ fun all1 i1=> ∃(A8:Option Addr) (c8:Nat),Qg ((6,.bool all1)::(7,.int .i64 i1)::Qo [2,3,4,5] f) f_∧Qd ([(g1,.cells #[.int .i64 t1.P.Road.Nodes,.slice A1 t1.P.Road.Edges.length c1,.slice A2 t1.P.Vehicles.length c2,.slice A3 t1.P.Demands.length c3,.int .i64 t1.P.Unload,.int .i64 t1.P.UnloadSecs,.string t1.V.ID,.int .i64 t1.V.Depot,.int .i64 t1.V.Shift.From,.int .i64 t1.V.Shift.To,.int .i64 t1.V.Grams,.int .i64 t1.V.Kinds,.slice A4 t1.Demands.length c4,.slice A5 t1.Legs.length c5] 76 (0,0))]::[(g2,.cells #[.slice A6 x1.Stops.length c6,.slice A7 x1.Served.length c7,.int .i64 x1.At,.int .i64 x1.Time,.int .i64 x1.Load,.int .i64 x1.Meters] 81 (0,0))]::[(g3,.cells #[.bool false,.int .i64 0,.slice none 0 0] 49 (0,0))]::[(g4,.cells #[.bool f1,.int .i64 f2,.slice A8 f3.length c8] 49 (0,0))]::QU [] 4 l) l_∧(f3.length≤c8∧c8≤maxLen)∧Qk QJ μ_ A8 f3) ⟨none,0,fE E,sE [some 3,some 2,some 1,some 0] 4 E,(⟨Nat.le_refl _,Nat.zero_le _⟩),(Qk.nil)⟩ ?_;rintro ⟨f1,f2,f3,all1,i1⟩ _ _ _ _ hm10212 ⟨A8,c8,hF10212,hS10212,hl8,hA8⟩ hb10212 hq10212;unfold QO at hb10212;replace hb10212:=Qh hb10212;replace hb10212:=Qh hb10212;replace hb10212:=Qh hb10212;replace hb10212:=Qh hb10212;replace hA1:=hA1.mono hm10212;replace hA2:=hA2.mono hm10212;replace hA3:=hA3.mono hm10212;replace hA4:=hA4.mono hm10212;replace hA5:=hA5.mono hm10212;replace hA6:=hA6.mono hm10212;replace hA7:=hA7.mono hm10212;refine Atn 4 hF10212 hS10212 E E (G1 9 [0] E ?_);refine Br hb10212 19 E E (fun hc1 hb10212=> ?_) (fun hc1 hb10212=> ?_)
  ·refine G2 3 [19] [] [] E ?_;refine Cut hb10212 (fun f l o_ f_ μ_ l_=> ∃(f4:Bool) (f5:Int) (f6:(List Int)) (all2:Bool) (A17:Option Addr) (c17:Nat),(f4,f5,f6,all2)=o_∧Qg ((6,.bool all2)::Qo [2,3,4,5,7] f) f_∧Qd ([(g1,.cells #[.int .i64 t1.P.Road.Nodes,.slice A1 t1.P.Road.Edges.length c1,.slice A2 t1.P.Vehicles.length c2,.slice A3 t1.P.Demands.length c3,.int .i64 t1.P.Unload,.int .i64 t1.P.UnloadSecs,.string t1.V.ID,.int .i64 t1.V.Depot,.int .i64 t1.V.Shift.From,.int .i64 t1.V.Shift.To,.int .i64 t1.V.Grams,.int .i64 t1.V.Kinds,.slice A4 t1.Demands.length c4,.slice A5 t1.Legs.length c5] 76 (0,0))]::[(g2,.cells #[.slice A6 x1.Stops.length c6,.slice A7 x1.Served.length c7,.int .i64 x1.At,.int .i64 x1.Time,.int .i64 x1.Load,.int .i64 x1.Meters] 81 (0,0))]::[(g3,.cells #[.bool false,.int .i64 0,.slice none 0 0] 49 (0,0))]::[(g4,.cells #[.bool f4,.int .i64 f5,.slice A17 f6.length c17] 49 (0,0))]::QU [] 4 l) l_∧(f6.length≤c17∧c17≤maxLen)∧Qk QJ μ_ A17 f6) ?_ ?_
   ·intro _ h10227 hb10212;refine G1 7 [1] E (Ix h10227 (Qk.rds hA7 L) E E fun _ _ _ _ hr1 hc2 _ h10227=> ?_);obtain rfl:=hr1;refine Q3 2 [] [] [64] (Z1 (hc2.push.push.push.push)) E ?_;refine Br h10227 26 E E (fun hc3 h10227=> ?_) (fun hc3 h10227=> ?_)
    ·refine G2 2 [26] [] [] E ?_;cases h10227;exact Ce E ⟨_,_,_,_,A8,c8,rfl,fE E,sE [some 0,some 1,some 2,some 3] 4 E,(hl8),(hA8)⟩
    refine G2 11 [] [26] [0,1] E (Cl E ?_);obtain ⟨⟨r1,_⟩,hx2,h10227⟩:=Qf h10227;replace h10227:=Qh h10227;refine VW hl1 hA1 hl2 hA2 hl3 hA3 hl4 hA4 hl5 hA5 hl6 hA6 hl7 hA7 hx2 (fun _ A9 c9 A10 c10 hm_1 hl9 hA10 hl10 hA11=> ?_);replace hA1:=hA1.mono hm_1;replace hA2:=hA2.mono hm_1;replace hA3:=hA3.mono hm_1;replace hA4:=hA4.mono hm_1;replace hA5:=hA5.mono hm_1;replace hA6:=hA6.mono hm_1;replace hA7:=hA7.mono hm_1;replace hA8:=hA8.mono hm_1;refine Q0 3 E (Al E fun g5=>Q1 9 [0] E ?_);refine Br h10227 35 E E (fun hc4 h10227=> ?_) (fun hc4 h10227=> ?_)
    ·refine G2 2 [35] [] [] E ?_;cases h10227;exact Ce E ⟨_,_,_,_,A8,c8,rfl,fE E,sE [some 1,some 2,some 3,some 4] 5 E,(hl8),(hA8)⟩
    refine G2 3 [] [35] [] E (Cd (WP.drawB (id:=10) (l':=List.replicate 5 true++[false]) Qeu QW _ QL.refl 5 [] [(true,0),(true,1),(true,2),(false,3),(false,4)] (by kernel_rfl) (by kernel_rfl) [] E (by kernel_rfl) (by kernel_rfl) (Qce E (JY E E E E (LA_ (vs:=[.bool f1,.int .i64 f2,.slice A8 f3.length c8]) 4 0 E E E E (Pt E E (JY E E E E (LA_ (vs:=[.int .i64 t1.P.Road.Nodes,.slice A1 t1.P.Road.Edges.length c1,.slice A2 t1.P.Vehicles.length c2,.slice A3 t1.P.Demands.length c3,.int .i64 t1.P.Unload,.int .i64 t1.P.UnloadSecs,.string t1.V.ID,.int .i64 t1.V.Depot,.int .i64 t1.V.Shift.From,.int .i64 t1.V.Shift.To,.int .i64 t1.V.Grams,.int .i64 t1.V.Kinds,.slice A4 t1.Demands.length c4,.slice A5 t1.Legs.length c5]) 1 0 E E E E ?_))))))));refine Pt E E (JY E E E E (LA_ (vs:=[.slice A9 r1.Stops.length c9,.slice A10 r1.Served.length c10,.int .i64 r1.At,.int .i64 r1.Time,.int .i64 r1.Load,.int .i64 r1.Meters]) 0 0 E E E E (Yc E (WJ E (Qa0 (all:=[.agg #[.int .i64 t1.P.Road.Nodes,.slice A1 t1.P.Road.Edges.length c1,.slice A2 t1.P.Vehicles.length c2,.slice A3 t1.P.Demands.length c3,.int .i64 t1.P.Unload,.int .i64 t1.P.UnloadSecs,.string t1.V.ID,.int .i64 t1.V.Depot,.int .i64 t1.V.Shift.From,.int .i64 t1.V.Shift.To,.int .i64 t1.V.Grams,.int .i64 t1.V.Kinds,.slice A4 t1.Demands.length c4,.slice A5 t1.Legs.length c5],.agg #[.slice A9 r1.Stops.length c9,.slice A10 r1.Served.length c10,.int .i64 r1.At,.int .i64 r1.Time,.int .i64 r1.Load,.int .i64 r1.Meters]]) E E E ?_)))));obtain ⟨r3,hx3,h10227⟩:=Qf h10227;refine ih hl1 hA1 hl2 hA2 hl3 hA3 hl4 hA4 hl5 hA5 hl9 hA10 hl10 hA11 hx3 (fun _ A11 c11 hm_2 hl11 hA12=> ?_);replace hA1:=hA1.mono hm_2;replace hA2:=hA2.mono hm_2;replace hA3:=hA3.mono hm_2;replace hA4:=hA4.mono hm_2;replace hA5:=hA5.mono hm_2;replace hA6:=hA6.mono hm_2;replace hA7:=hA7.mono hm_2;replace hA8:=hA8.mono hm_2;replace hA10:=hA10.mono hm_2;replace hA11:=hA11.mono hm_2;refine ⟨QL.refl,?_⟩;refine Yc E (WJ E (Qa0 (all:=[.agg #[.bool f1,.int .i64 f2,.slice A8 f3.length c8],.agg #[.bool r3.Ok,.int .i64 r3.Cost,.slice A11 r3.Stops.length c11]]) E E E ?_));obtain ⟨r4,hx4,h10227⟩:=Qf h10227;refine Jh hl8 hA8 hl11 hA12 hx4 (fun A12 c12 hl12 hA13=> ?_);refine ⟨QL.refl,?_⟩;refine Yc E (JO (Qea E (QX (vs:=[.bool r4.Ok,.int .i64 r4.Cost,.slice A12 r4.Stops.length c12]) E E E E E E (ST_ (L':=([(g5,.cells #[.slice A9 r1.Stops.length c9,.slice A10 r1.Served.length c10,.int .i64 r1.At,.int .i64 r1.Time,.int .i64 r1.Load,.int .i64 r1.Meters] 81 (0,0))]::[(g1,.cells #[.int .i64 t1.P.Road.Nodes,.slice A1 t1.P.Road.Edges.length c1,.slice A2 t1.P.Vehicles.length c2,.slice A3 t1.P.Demands.length c3,.int .i64 t1.P.Unload,.int .i64 t1.P.UnloadSecs,.string t1.V.ID,.int .i64 t1.V.Depot,.int .i64 t1.V.Shift.From,.int .i64 t1.V.Shift.To,.int .i64 t1.V.Grams,.int .i64 t1.V.Kinds,.slice A4 t1.Demands.length c4,.slice A5 t1.Legs.length c5] 76 (0,0))]::[(g2,.cells #[.slice A6 x1.Stops.length c6,.slice A7 x1.Served.length c7,.int .i64 x1.At,.int .i64 x1.Time,.int .i64 x1.Load,.int .i64 x1.Meters] 81 (0,0))]::[(g3,.cells #[.bool false,.int .i64 0,.slice none 0 0] 49 (0,0))]::[(g4,.cells #[.bool r4.Ok,.int .i64 r4.Cost,.slice A12 r4.Stops.length c12] 49 (0,0))]::L)) 4 0 E E E E ?_))));refine JH (G1 4 [1,0] E (Cl E ?_));obtain ⟨⟨r5,_⟩,hx5,h10227⟩:=Qf h10227;replace h10227:=Qh h10227;refine Vz hl1 hA1 hl2 hA2 hl3 hA3 hl4 hA4 hl5 hA5 hl9 hA10 hl10 hA11 hx5 (fun _ A13 c13 A14 c14 hm_3 hl13 hA14 hl14 hA15=> ?_);replace hA1:=hA1.mono hm_3;replace hA2:=hA2.mono hm_3;replace hA3:=hA3.mono hm_3;replace hA4:=hA4.mono hm_3;replace hA5:=hA5.mono hm_3;replace hA6:=hA6.mono hm_3;replace hA7:=hA7.mono hm_3;replace hA8:=hA8.mono hm_3;replace hA13:=hA13.mono hm_3;refine Q0 3 E (Al E fun g6=>Q1 7 [0] E ?_);refine Br h10227 47 E E (fun hc5 h10227=> ?_) (fun hc5 h10227=> ?_)
    ·refine G2 1 [47] [] [] E (Cd (WP.drawB (id:=13) (l':=List.replicate 5 true++[false]) Qeu QW _ QL.refl 5 [] [(true,0),(true,1),(true,2),(false,3),(false,4)] (by kernel_rfl) (by kernel_rfl) [] E (by kernel_rfl) (by kernel_rfl) (Qce E (JY E E E E (LA_ (vs:=[.bool r4.Ok,.int .i64 r4.Cost,.slice A12 r4.Stops.length c12]) 5 0 E E E E (Pt E E (JY E E E E (LA_ (vs:=[.int .i64 t1.P.Road.Nodes,.slice A1 t1.P.Road.Edges.length c1,.slice A2 t1.P.Vehicles.length c2,.slice A3 t1.P.Demands.length c3,.int .i64 t1.P.Unload,.int .i64 t1.P.UnloadSecs,.string t1.V.ID,.int .i64 t1.V.Depot,.int .i64 t1.V.Shift.From,.int .i64 t1.V.Shift.To,.int .i64 t1.V.Grams,.int .i64 t1.V.Kinds,.slice A4 t1.Demands.length c4,.slice A5 t1.Legs.length c5]) 2 0 E E E E ?_))))))));refine Pt E E (JY E E E E (LA_ (vs:=[.slice A13 r5.Stops.length c13,.slice A14 r5.Served.length c14,.int .i64 r5.At,.int .i64 r5.Time,.int .i64 r5.Load,.int .i64 r5.Meters]) 0 0 E E E E (Yc E (WJ E (Qa0 (all:=[.agg #[.int .i64 t1.P.Road.Nodes,.slice A1 t1.P.Road.Edges.length c1,.slice A2 t1.P.Vehicles.length c2,.slice A3 t1.P.Demands.length c3,.int .i64 t1.P.Unload,.int .i64 t1.P.UnloadSecs,.string t1.V.ID,.int .i64 t1.V.Depot,.int .i64 t1.V.Shift.From,.int .i64 t1.V.Shift.To,.int .i64 t1.V.Grams,.int .i64 t1.V.Kinds,.slice A4 t1.Demands.length c4,.slice A5 t1.Legs.length c5],.agg #[.slice A13 r5.Stops.length c13,.slice A14 r5.Served.length c14,.int .i64 r5.At,.int .i64 r5.Time,.int .i64 r5.Load,.int .i64 r5.Meters]]) E E E ?_)))));obtain ⟨r7,hx6,h10227⟩:=Qf h10227;refine ih hl1 hA1 hl2 hA2 hl3 hA3 hl4 hA4 hl5 hA5 hl13 hA14 hl14 hA15 hx6 (fun _ A15 c15 hm_4 hl15 hA16=> ?_);replace hA1:=hA1.mono hm_4;replace hA2:=hA2.mono hm_4;replace hA3:=hA3.mono hm_4;replace hA4:=hA4.mono hm_4;replace hA5:=hA5.mono hm_4;replace hA6:=hA6.mono hm_4;replace hA7:=hA7.mono hm_4;replace hA8:=hA8.mono hm_4;replace hA13:=hA13.mono hm_4;refine ⟨QL.refl,?_⟩;refine Yc E (WJ E (Qa0 (all:=[.agg #[.bool r4.Ok,.int .i64 r4.Cost,.slice A12 r4.Stops.length c12],.agg #[.bool r7.Ok,.int .i64 r7.Cost,.slice A15 r7.Stops.length c15]]) E E E ?_));obtain ⟨r8,hx7,h10227⟩:=Qf h10227;refine Jh hl12 hA13 hl15 hA16 hx7 (fun A16 c16 hl16 hA17=> ?_);refine ⟨QL.refl,?_⟩;refine Yc E (JO (Qea E (QX (vs:=[.bool r8.Ok,.int .i64 r8.Cost,.slice A16 r8.Stops.length c16]) E E E E E E (ST_ (L':=([(g6,.cells #[.slice A13 r5.Stops.length c13,.slice A14 r5.Served.length c14,.int .i64 r5.At,.int .i64 r5.Time,.int .i64 r5.Load,.int .i64 r5.Meters] 81 (0,0))]::[(g5,.cells #[.slice A9 r1.Stops.length c9,.slice A10 r1.Served.length c10,.int .i64 r1.At,.int .i64 r1.Time,.int .i64 r1.Load,.int .i64 r1.Meters] 81 (0,0))]::[(g1,.cells #[.int .i64 t1.P.Road.Nodes,.slice A1 t1.P.Road.Edges.length c1,.slice A2 t1.P.Vehicles.length c2,.slice A3 t1.P.Demands.length c3,.int .i64 t1.P.Unload,.int .i64 t1.P.UnloadSecs,.string t1.V.ID,.int .i64 t1.V.Depot,.int .i64 t1.V.Shift.From,.int .i64 t1.V.Shift.To,.int .i64 t1.V.Grams,.int .i64 t1.V.Kinds,.slice A4 t1.Demands.length c4,.slice A5 t1.Legs.length c5] 76 (0,0))]::[(g2,.cells #[.slice A6 x1.Stops.length c6,.slice A7 x1.Served.length c7,.int .i64 x1.At,.int .i64 x1.Time,.int .i64 x1.Load,.int .i64 x1.Meters] 81 (0,0))]::[(g3,.cells #[.bool false,.int .i64 0,.slice none 0 0] 49 (0,0))]::[(g4,.cells #[.bool r8.Ok,.int .i64 r8.Cost,.slice A16 r8.Stops.length c16] 49 (0,0))]::L)) 5 0 E E E E ?_))));refine JH (G0 1 E ?_);cases h10227;exact Ce E ⟨_,_,_,_,A16,c16,rfl,fE E,sE [some 2,some 3,some 4,some 5] 6 E,(hl16),(hA17)⟩
    refine G2 3 [] [47] [] E ?_;cases h10227;exact Ce E ⟨_,_,_,_,A12,c12,rfl,fE E,sE [some 2,some 3,some 4,some 5] 6 E,(hl12),(hA13)⟩
   rintro _ _ _ _ hb10212 hm10227 ⟨f4,f5,f6,all2,A17,c17,rfl,hF10227,hS10227,hl17,hA18⟩;replace hb10212:=Qh hb10212;replace hb10212:=Qh hb10212;replace hb10212:=Qh hb10212;replace hA1:=hA1.mono hm10227;replace hA2:=hA2.mono hm10227;replace hA3:=hA3.mono hm10227;replace hA4:=hA4.mono hm10227;replace hA5:=hA5.mono hm10227;replace hA6:=hA6.mono hm10227;replace hA7:=hA7.mono hm10227;replace hA8:=hA8.mono hm10227;refine Atn 4 hF10227 hS10227 E E (G0 5 E ?_);cases hb10212;exact Ce E ⟨_,rfl,A17,c17,fE E,sE [some 0,some 1,some 2,some 3] 4 E,(hl17),(hA18)⟩
  refine G2 2 [] [19] [] E ?_;cases hb10212;have hq_:=hq10212 _ E;subst hq_;exact Ce E ⟨_,_,_,_,A8,c8,rfl,fE E,sE [some 0,some 1,some 2,some 3] 4 E,(hl8),(hA8)⟩
 rintro _ _ _ _ h hm10131 ⟨f7,f8,f9,all3,A18,c18,rfl,hF10131,hS10131,hl18,hA19⟩;replace h:=Qh h;replace h:=Qh h;replace h:=Qh h;replace hA1:=hA1.mono hm10131;replace hA2:=hA2.mono hm10131;replace hA3:=hA3.mono hm10131;replace hA4:=hA4.mono hm10131;replace hA5:=hA5.mono hm10131;replace hA6:=hA6.mono hm10131;replace hA7:=hA7.mono hm10131;refine Atn 4 hF10131 hS10131 E E (G0 2 E ?_);refine Cut h (fun f l o_ f_ μ_ l_=> ∃(v5:Bool),v5=o_∧Qg ((59,.bool v5)::Qo [2,3,4,5] f) f_∧Qd l l_) ?_ ?_
 ·intro _ h10303 h;refine G0 4 E ?_;refine Br h10303 55 E E (fun hc6 h10303=> ?_) (fun hc6 h10303=> ?_)
  ·refine G2 5 [55] [] [] E ?_;cases h10303;exact Ce E ⟨_,rfl,fE E,sE [some 0,some 1,some 2,some 3] 4 E⟩
  refine G2 5 [] [55] [1] E ?_;cases h10303;exact Ce E ⟨_,rfl,fE E,sE [some 0,some 1,some 2,some 3] 4 E⟩
 rintro _ _ _ _ h hm10303 ⟨v5,rfl,hF10303,hS10303⟩;replace hA1:=hA1.mono hm10303;replace hA2:=hA2.mono hm10303;replace hA3:=hA3.mono hm10303;replace hA4:=hA4.mono hm10303;replace hA5:=hA5.mono hm10303;replace hA6:=hA6.mono hm10303;replace hA7:=hA7.mono hm10303;replace hA19:=hA19.mono hm10303;refine Atn 4 hF10303 hS10303 E E ?_;refine Br h 59 E E (fun hc7 h=> ?_) (fun hc7 h=> ?_)
 ·refine G2 6 [59] [] [3,2] E ?_;cases h;exact Rt [2] E E (Ug [] 4 (hR _ A18 c18 (hm10131.trans hm10303) hl18 hA19))
 refine G2 6 [] [59] [0,1] E (Cl E ?_);obtain ⟨⟨r9,_⟩,hx8,h⟩:=Qf h;replace h:=Qh h;refine Jq hl1 hA1 hl2 hA2 hl3 hA3 hl4 hA4 hl5 hA5 hl6 hA6 hl7 hA7 hx8 (fun _ _ _ _ _ _ _ _=>Q0 3 E (Al E fun _=>Q1 5 [0] E ?_));refine Cut h (fun f l o_ f_ μ_ l_=> ∃(v6:Bool),v6=o_∧Qg ((76,.bool v6)::Qo [3,4,5,12] f) f_∧Qd (QU [some 2,some 3,some 4,some 0] 5 l) l_) ?_ ?_
 ·intro _ h10319 h;refine G0 3 E ?_;refine Br h10319 68 E E (fun hc8 h10319=> ?_) (fun hc8 h10319=> ?_)
  ·refine G2 9 [68] [] [0,1] E ?_;cases h10319;exact Ce E ⟨_,rfl,fE E,sE [some 2,some 3,some 4,some 0] 5 E⟩
  refine G2 9 [] [68] [] E ?_;cases h10319;exact Ce E ⟨_,rfl,fE E,sE [some 2,some 3,some 4,some 0] 5 E⟩
 rintro _ _ _ _ h hm10319 ⟨v6,rfl,hF10319,hS10319⟩;replace hA6:=hA6.mono hm10319;replace hA19:=hA19.mono hm10319;refine Atn 4 hF10319 hS10319 E E ?_;refine Cut h (fun f l o_ f_ μ_ l_=> ∃(f10:Bool) (f11:Int) (f12:(List Int)) (A22:Option Addr) (c22:Nat),(f10,f11,f12)=o_∧Qg (Qo [4,5] f) f_∧Qd ([(g3,.cells #[.bool false,.int .i64 0,.slice none 0 0] 49 (0,0))]::[(g4,.cells #[.bool f10,.int .i64 f11,.slice A22 f12.length c22] 49 (0,0))]::QU [] 4 l) l_∧(f12.length≤c22∧c22≤maxLen)∧Qk QJ μ_ A22 f12) ?_ ?_
 ·intro _ h10328 h;refine Br h10328 76 E E (fun hc9 h10328=> ?_) (fun hc9 h10328=> ?_)
  ·refine G2 8 [76] [] [2,3,0] E (Cl E ?_);obtain ⟨_,hx9,h10328⟩:=Qf h10328;refine Jh (b1:=(Qp.mk true r9.Meters x1.Stops)) hl18 hA19 hl6 hA6 hx9 (fun A21 c21 hl21 hA22=>Q1 2 [2] E ?_);cases h10328;exact Ce E ⟨_,_,_,A21,c21,rfl,fE E,sE [some 1,some 2] 4 E,(hl21),(hA22)⟩
  refine G2 2 [] [76] [] E ?_;cases h10328;exact Ce E ⟨_,_,_,A18,c18,rfl,fE E,sE [some 1,some 2] 4 E,(hl18),(hA19)⟩
 rintro _ _ _ _ h hm10328 ⟨f10,f11,f12,A22,c22,rfl,hF10328,hS10328,hl22,hA23⟩;replace h:=Qh h;replace h:=Qh h;refine Atn 2 hF10328 hS10328 E E (G1 5 [1,0] E ?_);cases h;exact Rt [0] E E (Ug [] 2 (hR _ A22 c22 (hm10131.trans (hm10303.trans (hm10319.trans hm10328))) hl22 hA23))
theorem QaG {F:Nat} {p1:Qb} {vehicle1:Int} {demands1:(List Int)} {A1:Option Addr} {c1:Nat} {A2:Option Addr} {c2:Nat} {A3:Option Addr} {c3:Nat} {A4:Option Addr} {c4:Nat} {res1:Qp}
  (hl1:p1.Road.Edges.length≤c1∧c1≤maxLen) (hA1:Qk Qw μ A1 p1.Road.Edges) (hl2:p1.Vehicles.length≤c2∧c2≤maxLen) (hA2:Qk Qq μ A2 p1.Vehicles) (hl3:p1.Demands.length≤c3∧c3≤maxLen) (hA3:Qk Qs μ A3 p1.Demands) (hl4:demands1.length≤c4∧c4≤maxLen) (hA4:Qk QJ μ A4 demands1) (h:ZP F p1 vehicle1 demands1=some res1)
  (hR: ∀(μ':Gh) (A0_2:Option Addr) (c0_2:Nat),μ.le μ'→(res1.Stops.length≤c0_2∧c0_2≤maxLen)→Qk QJ μ' A0_2 res1.Stops→R (.agg #[.bool res1.Ok,.int .i64 res1.Cost,.slice A0_2 res1.Stops.length c0_2]) μ' (L)) :
  Fn Tryz.prog 19 [.agg #[.int .i64 p1.Road.Nodes,.slice A1 p1.Road.Edges.length c1,.slice A2 p1.Vehicles.length c2,.slice A3 p1.Demands.length c3,.int .i64 p1.Unload,.int .i64 p1.UnloadSecs],.int .i64 vehicle1,.slice A4 demands1.length c4] μ (L) R:=by
 unfold ZP at h;refine FnS Tryz.func19 (by kernel_rfl) E Tryz.ntmps19 E E ?_;refine G0 2 E (Al E fun g1=>Q0 0 E (Al E fun g2=>Q1 6 [1] E (Cl E ?_)));obtain ⟨r1,hx1,h⟩:=Qf h;refine Vy hl1 hA1 hl2 hA2 hl3 hA3 hl4 hA4 hx1 (fun _ A5 c5 A6 c6 A7 c7 A8 c8 A9 c9 hm_1 hl5 hA5 hl6 hA6 hl7 hA7 hl8 hA8 hl9 hA9=> ?_);refine Q0 0 E (Al E fun g3=>Q1 3 [0] E (Drk [1] 2 E [(true,0),(true,1),(true,2),(true,4),(true,5),(true,6),(true,7),(false,3),(true,8),(false,9),(false,10)] (by kernel_rfl) (G1 7 [0,0] E (So E (QdL E E ?_)))));obtain ⟨_,hn1,h⟩:=Qf h;refine QdH (r:=WM) (z:=false) (zc:=[.bool false]) QW E E E E E (E) E hn1 fun _ _ _ hO1=> ?_;refine ⟨Kp [1,3] 4 E,?_⟩;refine Q0 1 E (Cl E ?_);have hl10:=Own.lenOk hO1;refine Fn.pre Tryz.func35 (by kernel_rfl) E (Upd.frzOwn 0 E hO1 fun _ hm_2 hA10=>Upd.done ?_);replace hA5:=hA5.mono hm_2;replace hA6:=hA6.mono hm_2;replace hA7:=hA7.mono hm_2;replace hA8:=hA8.mono hm_2;replace hA9:=hA9.mono hm_2;obtain ⟨r2,hx2,h⟩:=Qf h;refine VV hl5 hA5 hl6 hA6 hl7 hA7 hl8 hA8 hl9 hA9 ⟨Nat.le_refl _,Nat.zero_le _⟩ Qk.nil hl10 hA10 hx2 (fun _ A11 c11 hm_3 hl11 hA11=> ?_);refine ⟨Kp [1,3] 4 E,?_⟩;refine Q0 0 E (So E (QX (vs:=[.bool r2.Ok,.int .i64 r2.Cost,.slice A11 r2.Stops.length c11]) E E E E E E (ST_ (L':=([]::[(g3,.cells #[.int .i64 r1.P.Road.Nodes,.slice A5 r1.P.Road.Edges.length c5,.slice A6 r1.P.Vehicles.length c6,.slice A7 r1.P.Demands.length c7,.int .i64 r1.P.Unload,.int .i64 r1.P.UnloadSecs,.string r1.V.ID,.int .i64 r1.V.Depot,.int .i64 r1.V.Shift.From,.int .i64 r1.V.Shift.To,.int .i64 r1.V.Grams,.int .i64 r1.V.Kinds,.slice A8 r1.Demands.length c8,.slice A9 r1.Legs.length c9] 76 (0,0))]::[(g2,.cells #[.bool r2.Ok,.int .i64 r2.Cost,.slice A11 r2.Stops.length c11] 49 (0,0))]::[(g1,.cells #[.int .i64 p1.Road.Nodes,.slice A1 p1.Road.Edges.length c1,.slice A2 p1.Vehicles.length c2,.slice A3 p1.Demands.length c3,.int .i64 p1.Unload,.int .i64 p1.UnloadSecs] 28 (0,0))]::L)) 2 0 E E E E ?_)));refine ⟨Kp [1,3] 4 E,?_⟩;refine Q0 1 E ?_;cases h;exact Rt [2] E E (Ug [] 4 (hR _ A11 c11 (hm_1.trans (hm_2.trans hm_3)) hl11 hA11))
end Go.Proofs.YtilbengnjgglhaaGreat
namespace Go.Proofs.YtilbengnjgglhaaGreat
open Go.RowKit
set_option linter.unusedSimpArgs false
set_option linter.unusedVariables false
set_option maxHeartbeats 2000000
set_option maxRecDepth 4000
attribute [local irreducible] WP Y0 Wx Fn AN Upd vcR vcO QaV ZB Zm W5 W9 QaS VJ ZK Qap QL KS
variable {μ:Gh} {L:List Seg} {R:Value→Gh→List Seg→Prop}
theorem QaE {F:Nat} {p1:Qb} {vehicle1:Int} {demands1:(List Int)} {A1:Option Addr} {c1:Nat} {A2:Option Addr} {c2:Nat} {A3:Option Addr} {c3:Nat} {A4:Option Addr} {c4:Nat} {res1:Qi} {res2:Int} {res3:Int}
  (hl1:p1.Road.Edges.length≤c1∧c1≤maxLen) (hA1:Qk Qw μ A1 p1.Road.Edges) (hl2:p1.Vehicles.length≤c2∧c2≤maxLen) (hA2:Qk Qq μ A2 p1.Vehicles) (hl3:p1.Demands.length≤c3∧c3≤maxLen) (hA3:Qk Qs μ A3 p1.Demands) (hl4:demands1.length≤c4∧c4≤maxLen) (hA4:Qk QJ μ A4 demands1) (h:ZN F p1 vehicle1 demands1=some (res1,res2,res3))
  (hR: ∀(μ':Gh) (A0_1:Option Addr) (c0_1:Nat),μ.le μ'→(res1.Stops.length≤c0_1∧c0_1≤maxLen)→Qk QJ μ' A0_1 res1.Stops→R (.tuple #[.agg #[.int .i64 res1.Vehicle,.slice A0_1 res1.Stops.length c0_1],.int .i64 res2,.int .i64 res3]) μ' (L)) :
  Fn Tryz.prog 8 [.agg #[.int .i64 p1.Road.Nodes,.slice A1 p1.Road.Edges.length c1,.slice A2 p1.Vehicles.length c2,.slice A3 p1.Demands.length c3,.int .i64 p1.Unload,.int .i64 p1.UnloadSecs],.int .i64 vehicle1,.slice A4 demands1.length c4] μ (L) R:=by
 unfold ZN at h;refine FnS Tryz.func8 (by kernel_rfl) E Tryz.ntmps8 E E ?_;refine G0 2 E (Al E fun g1=>Q0 0 E (Al E fun g2=>Q1 9 [1] E (Cl E ?_)));obtain ⟨_,hx1,h⟩:=Qf h;refine Qag hl1 hA1 hl2 hA2 hl3 hA3 hl4 (Qk.rds hA4 _) hx1 ((Q0 7 E ?_));refine Br h 16 E E (fun hc1 h=> ?_) (fun hc1 h=> ?_)
 ·refine G2 9 [16] [] [0] E ?_;cases h;exact Rt [0] E E (Ug [] 2 (hR _ none 0 (Gh.le.refl _) ⟨Nat.le_refl _,Nat.zero_le _⟩ Qk.nil))
 refine G2 7 [] [16] [1] E (Cl E ?_);obtain ⟨r2,hx2,h⟩:=Qf h;refine QaG hl1 hA1 hl2 hA2 hl3 hA3 hl4 hA4 hx2 (fun _ A5 c5 hm_1 hl5 hA5=> ?_);refine Q0 0 E (Al E fun g3=>Q1 9 [0,0] E ?_);refine Br h 25 E E (fun hc2 h=> ?_) (fun hc2 h=> ?_)
 ·refine G2 8 [25] [] [1] E ?_;cases h;exact Rt [1] E E (Ug [] 3 (hR _ none 0 hm_1 ⟨Nat.le_refl _,Nat.zero_le _⟩ Qk.nil))
 refine G2 3 [] [25] [] E (Drk [1] 2 E [(true,0),(true,1),(true,2),(true,3),(true,4),(true,5),(false,6),(true,7),(true,8)] (by kernel_rfl) (G1 6 [0,0] E (So E (QX (vs:=[.int .i64 vehicle1,.slice A5 r2.Stops.length c5]) E E E E E E (ST_ (L':=([(g3,.cells #[.bool r2.Ok,.int .i64 r2.Cost,.slice A5 r2.Stops.length c5] 49 (0,0))]::[(g2,.cells #[.int .i64 vehicle1,.slice A5 r2.Stops.length c5] 33 (0,0))]::[(g1,.cells #[.int .i64 p1.Road.Nodes,.slice A1 p1.Road.Edges.length c1,.slice A2 p1.Vehicles.length c2,.slice A3 p1.Demands.length c3,.int .i64 p1.Unload,.int .i64 p1.UnloadSecs] 28 (0,0))]::L)) 1 0 E E E E ?_)))));refine ⟨Kp [0,2] 3 E,?_⟩;refine Q0 3 E ?_;cases h;exact Rt [1] E E (Ug [] 3 (hR _ A5 c5 hm_1 hl5 hA5))
theorem Vf {F:Nat} {p1:Qb} {vehicle1:Int} {demands1:(List Int)} {A1:Option Addr} {c1:Nat} {A2:Option Addr} {c2:Nat} {A3:Option Addr} {c3:Nat} {A4:Option Addr} {c4:Nat} {res1:Bool}
  (hl1:p1.Road.Edges.length≤c1∧c1≤maxLen) (hA1:Qk Qw μ A1 p1.Road.Edges) (hl2:p1.Vehicles.length≤c2∧c2≤maxLen) (hA2:Qk Qq μ A2 p1.Vehicles) (hl3:p1.Demands.length≤c3∧c3≤maxLen) (hA3:Qk Qs μ A3 p1.Demands) (hl4:demands1.length≤c4∧c4≤maxLen) (hA4:Qk QJ μ A4 demands1) (h:Zv F p1 vehicle1 demands1=some res1)
  (hR: ∀(μ':Gh) ,μ.le μ'→R (.bool res1) μ' (L)) :
  Fn Tryz.prog 3 [.agg #[.int .i64 p1.Road.Nodes,.slice A1 p1.Road.Edges.length c1,.slice A2 p1.Vehicles.length c2,.slice A3 p1.Demands.length c3,.int .i64 p1.Unload,.int .i64 p1.UnloadSecs],.int .i64 vehicle1,.slice A4 demands1.length c4] μ (L) R:=by
 unfold Zv at h;refine FnS Tryz.func3 (by kernel_rfl) E Tryz.ntmps3 E E ?_;refine G0 2 E (Al E fun _=>Q1 7 [0] E (Cl E ?_));obtain ⟨_,hx1,h⟩:=Qf h;refine Qaa hl1 hA1 hl2 hA2 hl3 hA3 hl4 (Qk.rds hA4 _) hx1 ((Q0 1 E ?_));refine Br h 15 E E (fun hc1 h=> ?_) (fun hc1 h=> ?_)
 ·refine G2 3 [15] [] [] E (Cl E ?_);obtain ⟨_,hx2,h⟩:=Qf h;refine Wq  hx2 (fun _ hm_1=> ?_);replace hA1:=hA1.mono hm_1;replace hA2:=hA2.mono hm_1;replace hA3:=hA3.mono hm_1;replace hA4:=hA4.mono hm_1;refine Q0 2 E ?_;cases h;exact Rt [] E E (Ug [] 1 (hR _ hm_1))
 refine G2 7 [] [15] [0] E (Cl E ?_);obtain ⟨⟨_,_,_⟩,hx3,h⟩:=Qf h;replace h:=Qh h;replace h:=Qh h;refine WX hl1 hA1 hl2 hA2 hl3 hA3 hl4 hA4 hx3 (fun _ _ _ hm_2 hl5 hA5=> ?_);replace hA1:=hA1.mono hm_2;replace hA2:=hA2.mono hm_2;replace hA3:=hA3.mono hm_2;replace hA4:=hA4.mono hm_2;refine Q0 4 E (Al E fun _=>Q1 9 [0,1] E (Cl E ?_));obtain ⟨⟨_,_,_⟩,hx4,h⟩:=Qf h;replace h:=Qh h;replace h:=Qh h;refine QaE hl1 hA1 hl2 hA2 hl3 hA3 hl4 hA4 hx4 (fun _ _ _ hm_3 hl6 hA6=> ?_);replace hA5:=hA5.mono hm_3;refine Q0 4 E (Al E fun _=>Q1 5 [0] E ?_);refine Cut h (fun f l o_ f_ μ_ l_=> ∃(v5:Bool),v5=o_∧Qg ((6,.bool v5)::[]) f_∧Qd (QU [] 3 l) l_) ?_ ?_
 ·intro _ h10688 h;refine G1 7 [1,0] E ?_;refine Br h10688 38 E E (fun hc2 h10688=> ?_) (fun hc2 h10688=> ?_)
  ·refine G2 4 [38] [] [1,0] E (Cl E ?_);obtain ⟨_,hx5,h10688⟩:=Qf h10688;refine ZR hl5 (Qk.rds hA5 _) hl6 (Qk.rds hA6 _) hx5 ((Q2 2 [38] [] [] E ?_));refine Br h10688 45 E E (fun hc3 h10688=> ?_) (fun hc3 h10688=> ?_)
   ·refine G2 5 [45] [] [] E ?_;refine Br h10688 50 E E (fun hc4 h10688=> ?_) (fun hc4 h10688=> ?_)
    ·refine G2 5 [50] [] [] E ?_;refine Br h10688 55 E E (fun hc5 h10688=> ?_) (fun hc5 h10688=> ?_)
     ·refine Cl E ?_;obtain ⟨_,hx6,h10688⟩:=Qf h10688;refine Wq  hx6 (fun _ _=> ?_);refine Q2 3 [55] [] [] E ?_;cases h10688;exact Ce E ⟨_,rfl,fE E,sE [] 3 E⟩
     refine G2 4 [] [55] [] E ?_;cases h10688;exact Ce E ⟨_,rfl,fE E,sE [] 3 E⟩
    refine G2 9 [] [50,55] [] E ?_;cases h10688;exact Ce E ⟨_,rfl,fE E,sE [] 3 E⟩
   refine G2 14 [] [45,50,55] [] E ?_;cases h10688;exact Ce E ⟨_,rfl,fE E,sE [] 3 E⟩
  refine G2 21 [] [38,45,50,55] [] E ?_;cases h10688;exact Ce E ⟨_,rfl,fE E,sE [] 3 E⟩
 rintro _ _ _ _ h hm10688 ⟨v5,rfl,hF10688,hS10688⟩;refine Atn 0 hF10688 hS10688 E E ?_;cases h;exact Rt [] E E (Ug [] 0 (hR _ (hm_2.trans (hm_3.trans hm10688))))
end Go.Proofs.YtilbengnjgglhaaGreat
namespace Go.Proofs.YtilbengnjgglhaaGreat
set_option linter.unusedSimpArgs false
set_option linter.unusedVariables false
theorem Qd9 {τ ρ:Type} {body:τ→Option (τ⊕ρ)} (I:Nat→τ→ρ→Prop)
  (h: ∀n t o,I n t o→(∃t' n',body t=some (.inl t')∧n'<n∧I n' t' o)∨body t=some (.inr o)): ∀(fuel n:Nat) (t:τ) (o:ρ),I n t o→n<fuel→iter body fuel t=some o
 | 0,_,_,_,_,hm=>by omega
 | f+1,n,t,o,hI,hm=>by
  rcases h n t o hI with ⟨t',n',h1,h2,h3⟩ | h1
  ·simp only[iter,h1,Option.bind_some,QS]
   exact Qd9 I h f n' t' o h3 (by omega)
  ·simp only[iter,h1,Option.bind_some,QS]
theorem QcR {σ ρ:Type} {body:σ→Option (σ⊕ρ)}: ∀{n m:Nat} {s:σ} {r:ρ},iter body n s=some r→n≤m→iter body m s=some r
 | 0,_,_,_,h,_=>by cases h
 | n+1,0,_,_,_,hm=>by omega
 | n+1,m+1,s,r,h,hm=>by
  simp only[iter] at h ⊢
  cases hb:body s with
  | none=>rw[hb] at h;cases h
  | some q =>
   rw[hb] at h
   cases q with
   | inl s'=>exact QcR (n:=n) (m:=m) h (by omega)
   | inr r'=>exact h
theorem Qt {α:Type} (xs:List α) (k:Nat):QI xs (k:Int)=xs[k]? :=by simp[QI]
theorem QhU {α:Type} {xs:List α} {k:Nat} (h:k<xs.length):QI xs (k:Int)=some xs[k]:=by rw[Qt];simp[h]
theorem Q6 {n:Int} (h1: -9223372036854775808≤n) (h2:n≤9223372036854775807):w64 n=n:=QkJ h1 h2
theorem JM {k:Nat} (h:k<9223372036854775807):w64 ((k:Int)+1)=((k+1:Nat):Int):=by rw[Q6 (by omega) (by omega)];omega
theorem Z8 {α:Type} {xs ys:List α} (h:xs.length+ys.length≤1000000):Vc xs ys=some (xs++ys):=by simp[Vc,h]
theorem Wo {p:Prop} [Decidable p] (h:p):Vw p=some ():=by simp[Vw,h]
def Qej {τ ρ:Type} (o:Option ρ) (t:τ):τ⊕ρ:=match o with
 | none=> .inl t
 | some r=> .inr r
@[simp] theorem QkD {τ ρ:Type} (t:τ):Qej (none:Option ρ) t= .inl t:=rfl
@[simp] theorem QkE {τ ρ:Type} (r:ρ) (t:τ):Qej (some r) t= .inr r:=rfl
def Qld {σ τ ρ:Type} (f:σ→τ) (q:σ⊕ρ):τ⊕ρ:=match q with
 | .inl s=> .inl (f s)
 | .inr r=> .inr r
@[simp] theorem Qle {σ τ ρ:Type} (f:σ→τ) (s:σ):Qld f (.inl s:σ⊕ρ)= .inl (f s):=rfl
@[simp] theorem Qlf {σ τ ρ:Type} (f:σ→τ) (r:ρ):Qld f (.inr r:σ⊕ρ)= .inr r:=rfl
def first {α ρ:Type} (step:α→Option ρ) (fin:ρ):List α→ρ
 | []=>fin
 | x::r=>match step x with
  | none=>first step fin r
  | some o=>o
end Go.Proofs.YtilbengnjgglhaaGreat
namespace Go.Proofs.YtilbengnjgglhaaGreat
set_option linter.unusedSimpArgs false
set_option linter.unusedVariables false
theorem QC {α:Type} {l:List α} {k:Nat} {x:α} (h:l[k]? =some x):k<l.length:=by
 rcases Nat.lt_or_ge k l.length with h2 | h2
 ·exact h2
 ·rw[List.getElem?_eq_none h2] at h;cases h
theorem Qfp {α:Type} {l:List α} {i:Int} (h0:0≤i) (h1:i<(l.length:Nat)): ∃x,QI l i=some x:=by
 obtain ⟨k,rfl⟩: ∃k:Nat,i=k:=⟨i.toNat,by omega⟩
 exact ⟨_,QhU (by omega)⟩
def YR {α ρ:Type} (step:Nat→α→Option ρ) (fin:ρ):Nat→List α→ρ
 | _,[]=>fin
 | k,x::r=>match step k x with
  | none=>YR step fin (k+1) r
  | some o=>o
theorem Yu {α ρ:Type} (xs:List α) {body:Int→Option (Int⊕ρ)} (step:Nat→α→Option ρ) (fin:ρ) (hn:xs.length<9223372036854775807)
  (hb: ∀(k:Nat) (x:α),xs[k]? =some x→body (k:Int)=some (Qej (step k x) (w64 ((k:Int)+1))))
  (hf:body (xs.length:Int)=some (.inr fin)): ∀(n:Nat),xs.length<n→iter body n 0=some (YR step fin 0 xs):=by
 intro n hlt;refine Qd9 (fun m t o=> ∃k:Nat,t=(k:Int)∧m=xs.length-k∧k≤xs.length∧YR step fin k (xs.drop k)=o) ?_ n xs.length 0 _ ⟨0,rfl,by simp,Nat.zero_le _,by simp⟩ hlt;rintro m _ o ⟨k,rfl,rfl,hk,ho⟩;rcases Nat.lt_or_ge k xs.length with hlt | hge
 ·have h1:=hb k xs[k] (by simp[hlt])
  rw[List.drop_eq_getElem_cons hlt,YR] at ho
  cases hs:step k xs[k] with
  | none =>
   rw[hs] at h1 ho
   exact .inl ⟨_,xs.length-(k+1),h1,by omega,k+1,by rw[JM (by omega)],rfl,hlt,ho⟩
  | some r =>
   rw[hs] at h1 ho
   exact .inr (by rw[h1];exact congrArg (fun z=>some (Sum.inr z)) ho)
 ·obtain rfl:k=xs.length:=by omega
  rw[List.drop_length] at ho
  exact .inr (by rw[hf];exact congrArg (fun z=>some (Sum.inr z)) ho)
theorem JS {α ρ:Type} {step:Nat→α→Option ρ} {fin:ρ}: ∀(l:List α) (k:Nat),(∀(i:Nat) (x:α),l[i]? =some x→step (k+i) x=none)→YR step fin k l=fin
 | [],_,_=>rfl
 | x::l,k,h=>by
  have h0:=h 0 x rfl
  rw[Nat.add_zero] at h0
  simp only[YR,h0]
  exact JS l (k+1) fun i y hy=>by
   have:=h (i+1) y (by simpa using hy)
   rwa [show k+(i+1)=k+1+i by omega] at this
theorem Qcs {α σ τ ρ:Type} (xs:List α) (st:Nat→σ) (mk:σ→Int→τ) {body:τ→Option (τ⊕ρ)} (step:Nat→α→Option ρ) (fin:ρ) (hn:xs.length<9223372036854775807)
  (hb: ∀(k:Nat) (x:α),xs[k]? =some x→(∀(j:Nat) (y:α),j<k→xs[j]? =some y→step j y=none)→body (mk (st k) (k:Int))=some (Qej (step k x) (mk (st (k+1)) (w64 ((k:Int)+1)))))
  (hf:(∀(j:Nat) (y:α),xs[j]? =some y→step j y=none)→body (mk (st xs.length) (xs.length:Int))=some (.inr fin)): ∀(n:Nat),xs.length<n→iter body n (mk (st 0) 0)=some (YR step fin 0 xs):=by
 intro n hlt;refine Qd9 (fun m t o=> ∃k:Nat,t=mk (st k) (k:Int)∧m=xs.length-k∧k≤xs.length∧(∀(j:Nat) (y:α),j<k→xs[j]? =some y→step j y=none)∧YR step fin k (xs.drop k)=o) ?_ n xs.length _ _ ⟨0,rfl,by simp,Nat.zero_le _,fun j y hj=>absurd hj (Nat.not_lt_zero _),by simp⟩ hlt;rintro m _ o ⟨k,rfl,rfl,hk,hno,ho⟩;rcases Nat.lt_or_ge k xs.length with hlt | hge
 ·have h1:=hb k xs[k] (by simp[hlt]) hno
  rw[List.drop_eq_getElem_cons hlt,YR] at ho
  cases hs:step k xs[k] with
  | none =>
   rw[hs] at h1 ho
   refine .inl ⟨_,xs.length-(k+1),h1,by omega,k+1,by rw[JM (by omega)],rfl,hlt,fun j y hj hy=> ?_,ho⟩;rcases Nat.lt_or_ge j k with h | h
   ·exact hno j y h hy
   ·obtain rfl:j=k:=by omega
    rw[List.getElem?_eq_getElem hlt] at hy
    injection hy with hy;rw[←hy];exact hs
  | some r =>
   rw[hs] at h1 ho
   exact .inr (by rw[h1];exact congrArg (fun z=>some (Sum.inr z)) ho)
 ·obtain rfl:k=xs.length:=by omega
  rw[List.drop_length] at ho
  exact .inr (by rw[hf fun j y hy=>hno j y (QC hy) hy];exact congrArg (fun z=>some (Sum.inr z)) ho)
theorem QaL {α:Type} {l:List α} {k:Nat} {x:α} (hx:l[k]? =some x):l.take (k+1)=l.take k++[x]:=by rw[List.take_add_one,hx];rfl
theorem Zj {α:Type} {l:List α} {k:Nat} (h:k≤l.length):(l.take k).length=k:=by simp;omega
def QhD {α:Type} (f:α→Int) (l:List α):Int:=(l.map f).sum
@[simp] theorem QkL {α:Type} (f:α→Int):QhD f []=0:=rfl
@[simp] theorem QkI {α:Type} (f:α→Int) (x:α) (l:List α):QhD f (x::l)=f x+QhD f l:=by simp[QhD]
theorem Qeg {β:Type} {k:Int} {v:β} (m:List (Int×β)):Wj k (V8 k v m)=some v:=by
 induction m with
 | nil=>simp[V8,Wj]
 | cons p m ih =>
  obtain ⟨a,b⟩:=p
  by_cases h:a=k
  ·simp[V8,Wj,h]
  ·simp[V8,Wj,h,ih]
theorem Qfy {β:Type} {k j:Int} {v:β} (h:j≠k) (m:List (Int×β)):Wj j (V8 k v m)=Wj j m:=by
 induction m with
 | nil=>simp[V8,Wj];omega
 | cons p m ih =>
  obtain ⟨a,b⟩:=p
  by_cases h2:a=k
  ·subst h2;simp[V8,Wj,Ne.symm h]
  ·by_cases h3:a=j
   ·subst h3;simp[V8,Wj,h]
   ·simp[V8,Wj,h2,h3,ih]
theorem Vh {α ρ:Type} {step:Nat→α→Option ρ} {fin:ρ}: ∀(l:List α) (k:Nat),
  ((∀(i:Nat) (x:α),l[i]? =some x→step (k+i) x=none)∧YR step fin k l=fin) ∨
  (∃(i:Nat) (x:α) (o:ρ),l[i]? =some x∧step (k+i) x=some o∧YR step fin k l=o∧ ∀(j:Nat) (y:α),j<i→l[j]? =some y→step (k+j) y=none)
 | [],k=> .inl ⟨fun i x h=>by simp at h,rfl⟩
 | x::l,k=>by
  cases hs:step k x with
  | some o=>exact .inr ⟨0,x,o,rfl,hs,by simp[YR,hs],fun j y hj=>absurd hj (Nat.not_lt_zero _)⟩
  | none =>
   have hf:YR step fin k (x::l)=YR step fin (k+1) l:=by simp[YR,hs]
   rw[hf]
   rcases Vh (step:=step) (fin:=fin) l (k+1) with ⟨h1,h2⟩ | ⟨i,y,o,h1,h2,h3,h4⟩
   ·refine .inl ⟨fun i y hy=> ?_,h2⟩;cases i with
    | zero=>simp at hy;subst hy;simpa using hs
    | succ i=>have:=h1 i y (by simpa using hy);rwa [show k+1+i=k+(i+1) by omega] at this
   ·refine .inr ⟨i+1,y,o,by simpa using h1,by rwa [show k+1+i=k+(i+1) by omega] at h2,h3,fun j z hj hz=> ?_⟩;cases j with
    | zero=>simp at hz;subst hz;simpa using hs
    | succ j=>have:=h4 j z (by omega) (by simpa using hz);rwa [show k+1+j=k+(j+1) by omega] at this
theorem VR {α:Type} [DecidableEq α]: ∀{l m:List α},l.Nodup→(∀x∈l,x∈m)→l.length≤m.length
 | [],_,_,_=>Nat.zero_le _
 | x::l,m,hn,h=>by
  rw[List.nodup_cons] at hn
  have hx:=h x (by simp);have:=VR (l:=l) (m:=m.erase x) hn.2 fun y hy=>(List.mem_erase_of_ne (fun e=>hn.1 (by rw[←e];exact hy))).2 (h y (by simp[hy]))
  rw[List.length_erase_of_mem hx] at this
  have:0<m.length:=List.length_pos_of_mem hx
  simp only[List.length_cons]
  omega
end Go.Proofs.YtilbengnjgglhaaGreat
namespace Go.Proofs.YtilbengnjgglhaaGreat
open Go.RowKit
set_option linter.unusedSimpArgs false
set_option linter.unusedVariables false
theorem YT (a b:Bool):(bif a then some true else some b)=some (a||b):=by cases a<;>rfl
theorem Qiq (a b:Bool):(bif a then some b else some false)=some (a&&b):=by cases a<;>rfl
def Wl (r:QA) (x:QM):Prop:=0≤x.From∧x.From<r.Nodes∧0≤x.To∧x.To<r.Nodes∧x.From≠x.To∧1≤x.Meters∧x.Meters≤100000∧1≤x.Secs∧x.Secs≤100000
def V5 (r:QA) (x:QM):Option (Unit⊕Int) :=
 bif (decide (x.From<0)||(decide (r.Nodes≤x.From)||(decide (x.To<0)||decide (r.Nodes≤x.To)))) then some (.inr 7)
 else bif (decide (x.From=x.To)||(decide (x.Meters<1)||(decide (100000<x.Meters)||(decide (x.Secs<1)||decide (100000<x.Secs))))) then some (.inr 1) else none
theorem QgP {r:QA} {x:QM} (h:V5 r x=none):Wl r x:=by
 unfold V5 at h
 simp only[cond_eq_ite,Bool.or_eq_true,decide_eq_true_eq] at h
 split at h
 ·cases h
 ·split at h
  ·cases h
  ·unfold Wl;omega
theorem QgQ {r:QA} {x:QM} {o:Unit⊕Int} (h:V5 r x=some o): ∃e,o= .inr e∧e≠0:=by
 unfold V5 at h
 simp only[cond_eq_ite] at h
 split at h
 ·injection h with h;exact ⟨7,h.symm,by decide⟩
 ·split at h
  ·injection h with h;exact ⟨1,h.symm,by decide⟩
  ·cases h
theorem Qel (r:QA) (hn:r.Edges.length≤600) (n:Nat) (h:r.Edges.length<n):iter (Yi r) n 0=some (YR (fun _ x=>V5 r x) (.inl ()) 0 r.Edges):=by
 refine Yu r.Edges (fun _ x=>V5 r x) (.inl ()) (by omega) (fun k x hx=> ?_) (by simp[Yi]) n h;have hk:=QC hx;have hk2:((k:Int)<(r.Edges.length:Nat)):=by omega
 simp only[Yi,hk2,decide_true,cond_true,Qt,hx,Option.bind_some,YT,V5]
 generalize (decide (x.From<0)||_)=a
 generalize (decide (x.From=x.To)||_)=b
 cases a<;>cases b<;>rfl
theorem QgX (r:QA) (hn:r.Edges.length≤600):WF r=some ⟨r.Nodes,r.Edges.map fun x=>⟨x.From,x.To⟩⟩:=by
 unfold WF;have:=Qcs (body:=JB r) r.Edges (fun k=>(r.Edges.take k).map fun x=>(⟨x.From,x.To⟩:YV)) (fun m k=>(m,k)) (fun _ _=>none) (r.Edges.map fun x=>(⟨x.From,x.To⟩:YV)) (by omega) (fun k x hx _=> ?_) (fun _=>by simp[JB,oun]) (((r.Edges.length:Nat):Int).toNat+1) (by simp)
 ·rw[show ((r.Edges.take 0).map fun x=>(⟨x.From,x.To⟩:YV))=[] by simp] at this
  rw[this,JS _ _ (fun _ _ _=>rfl)]
  rfl
 ·have hk:=QC hx;have hk2:((k:Int)<(r.Edges.length:Nat)):=by omega
  simp only[JB,oun,hk2,decide_true,cond_true,Qt,hx,Option.bind_some]
  rw[Z8 (by simp;omega)]
  simp[QaL hx,Qej]
theorem QiA (r:QA) (hn:r.Edges.length≤512) (h1:1≤r.Nodes) (h2:r.Nodes≤64) (ho: ∀x∈r.Edges,Wl r x):W6 ⟨r.Nodes,r.Edges.map fun x=>⟨x.From,x.To⟩⟩=some 0:=by
 unfold W6;have:=Yu (body:=JT ⟨r.Nodes,r.Edges.map fun x=>⟨x.From,x.To⟩⟩) (r.Edges.map fun x=>(⟨x.From,x.To⟩:YV)) (fun _ _=>none) (.inl ():Unit⊕Int) (by simp;omega) (fun k x hx=> ?_) (by simp[JT]) ((((r.Edges.map fun x=>(⟨x.From,x.To⟩:YV)).length:Nat):Int).toNat+1) (by simp)
 ·rw[JS _ _ (fun _ _ _=>rfl)] at this
  simp only[YT,Option.bind_some]
  rw[show (decide (r.Nodes<0)||decide (64<r.Nodes))=false by simp;omega]
  simp only[cond_false]
  rw[show decide ((512:Int)<(((r.Edges.map fun x=>(⟨x.From,x.To⟩:YV)).length:Nat):Int))=false by simp;omega]
  simp only[cond_false,this,Option.bind_some,QS]
 ·have hk:=QC hx;have hk2:((k:Int)<((r.Edges.map fun x=>(⟨x.From,x.To⟩:YV)).length:Nat)):=by omega
  obtain ⟨y,hy,rfl⟩: ∃y,r.Edges[k]? =some y∧(⟨y.From,y.To⟩:YV)=x:=by
   rw[List.getElem?_map] at hx
   cases hq:r.Edges[k]? with
   | none=>rw[hq] at hx;cases hx
   | some y=>rw[hq] at hx;injection hx with hx;exact ⟨y,rfl,hx⟩
  have hok:=ho y (List.mem_of_getElem? hy)
  simp only[JT,hk2,decide_true,cond_true,Qt,hx,Option.bind_some,YT]
  unfold Wl at hok
  rw[show (decide (y.From<0)||(decide (r.Nodes≤y.From)||(decide (y.To<0)||decide (r.Nodes≤y.To))))=false by simp;omega]
  rfl
def VM (r:QA):Int:=bif (decide (r.Nodes<1)||decide (64<r.Nodes)) then 1 else bif decide ((512:Int)<(r.Edges.length:Nat)) then 8 else
 match YR (fun _ x=>V5 r x) (.inl ()) 0 r.Edges with | .inl _=>0 | .inr e=>e
theorem JX (r:QA) (hn:r.Edges.length≤600):Y8 r=some (VM r):=by
 unfold Y8 VM
 simp only[YT,Option.bind_some]
 rw[Qel r hn _ (by simp)]
 generalize (decide (r.Nodes<1)||_)=a
 generalize decide ((512:Int)<(r.Edges.length:Nat))=b
 generalize YR (fun _ x=>V5 r x) (.inl ()) 0 r.Edges=o
 cases a<;>cases b<;>cases o<;>rfl
theorem Qen {r:QA} (h:VM r=0):1≤r.Nodes∧r.Nodes≤64∧r.Edges.length≤512∧ ∀x∈r.Edges,Wl r x:=by
 unfold VM at h
 simp only[cond_eq_ite,Bool.or_eq_true,decide_eq_true_eq] at h
 split at h
 ·cases h
 ·split at h
  ·cases h
  ·refine ⟨by omega,by omega,by omega,fun x hx=> ?_⟩;obtain ⟨i,hi⟩:=List.getElem?_of_mem hx;rcases Vh (step:=fun _ x=>V5 r x) (fin:=(.inl ():Unit⊕Int)) r.Edges 0 with ⟨h1,_⟩ | ⟨j,y,o,h1,h2,h3,_⟩
   ·exact QgP (h1 i x hi)
   ·rw[h3] at h
    obtain ⟨e,rfl,he⟩:=QgQ h2;exact absurd h he
theorem QbM (r:QA) (hn:r.Edges.length≤600):Wm r=some (VM r):=by
 by_cases hz:VM r=0
 ·obtain ⟨h1,h2,h3,h4⟩:=Qen hz;unfold Wm
  rw[hz]
  have e1:W2 r=Yi r:=rfl
  rw[e1,Qel r hn _ (by simp)]
  simp only[YT,Option.bind_some]
  rw[show (decide (r.Nodes<1)||decide (64<r.Nodes))=false by simp;omega]
  simp only[cond_false]
  rw[show decide ((512:Int)<(r.Edges.length:Nat))=false by simp;omega]
  simp only[cond_false]
  have:YR (fun _ x=>V5 r x) (.inl ():Unit⊕Int) 0 r.Edges= .inl ():=by
   refine JS _ _ fun i x hx=> ?_;have:=h4 x (List.mem_of_getElem? hx);unfold Wl at this;unfold V5
   rw[show (decide (x.From<0)||(decide (r.Nodes≤x.From)||(decide (x.To<0)||decide (r.Nodes≤x.To))))=false by simp;omega,show (decide (x.From=x.To)||(decide (x.Meters<1)||(decide (100000<x.Meters)||(decide (x.Secs<1)||decide (100000<x.Secs)))))=false by simp;omega]
   rfl
  rw[this]
  simp only[QS,QgX r hn,Option.bind_some,QiA r h3 h1 h2 h4]
 ·have h:=JX r hn;unfold Wm;have e1:W2 r=Yi r:=rfl
  rw[e1,Qel r hn _ (by simp)]
  unfold VM at hz ⊢
  simp only[YT,Option.bind_some]
  generalize (decide (r.Nodes<1)||_)=a at *
  generalize decide ((512:Int)<(r.Edges.length:Nat))=b at *
  generalize YR (fun _ x=>V5 r x) (.inl ()) 0 r.Edges=o at *
  cases a<;>cases b<;>cases o<;>first | rfl | exact absurd rfl hz
end Go.Proofs.YtilbengnjgglhaaGreat
namespace Go.Proofs.YtilbengnjgglhaaGreat
open Go.RowKit
set_option linter.unusedSimpArgs false
set_option linter.unusedVariables false
theorem QeW (c:Int):J1 c=Yg c:=by
 unfold J1 Yg
 generalize decide (97≤c)=a
 generalize decide (c≤122)=b
 generalize decide (65≤c)=d
 generalize decide (c≤90)=e
 cases a<;>cases b<;>cases d<;>cases e<;>rfl
theorem Qa8 (c:Int): ∃b,Yg c=some b:=by
 unfold Yg
 generalize decide (97≤c)=a
 generalize decide (c≤122)=b
 generalize decide (65≤c)=d
 generalize decide (c≤90)=e
 cases a<;>cases b<;>cases d<;>cases e<;>exact ⟨_,rfl⟩
theorem QfP (s:ByteArray):WD s=QF s:=by
 funext i
 simp only[WD,QF,QeW]
theorem Qfo {s:ByteArray} {k:Nat} (h:k<s.size): ∃b,QeC s (k:Int)=some b:=by
 unfold QeC
 rw[if_pos (by omega)]
 simp[h]
theorem QgJ (s:ByteArray) (hs:s.size≤32): ∀(m k:Nat),k+m=s.size→ ∃o,iter (QF s) (m+1) (k:Int)=some o
 | 0,k,h=>by
  refine ⟨.inl (),?_⟩
  simp only[iter,QF]
  rw[show decide ((k:Int)<((s.size:Nat):Int))=false by simp;omega]
  rfl
 | m+1,k,h=>by
  obtain ⟨b,hb⟩:=Qfo (s:=s) (k:=k) (by omega);obtain ⟨q,hq⟩:=Qa8 b;obtain ⟨o,ho⟩:=QgJ s hs m (k+1) (by omega);have hbody:(∃z,QF s (k:Int)=some (.inr z))∨QF s (k:Int)=some (.inl ((k+1:Nat):Int)):=by
   simp only[QF]
   rw[show decide ((k:Int)<((s.size:Nat):Int))=true by simp;omega]
   simp only[cond_true,hb,Option.bind_some,hq,JM (show k<9223372036854775807 by omega)]
   generalize decide (b<48)=c1
   generalize decide (b=45)=c2
   generalize decide (b=95)=c3
   generalize decide (b=46)=c4
   generalize decide (57<b)=c5
   cases q<;>cases c1<;>cases c2<;>cases c3<;>cases c4<;>cases c5<;>first | exact .inr rfl | exact .inl ⟨_,rfl⟩
  rcases hbody with ⟨z,hz⟩ | hz
  ·exact ⟨z,by rw[iter,hz];rfl⟩
  ·exact ⟨o,by rw[iter,hz];exact ho⟩
theorem Qio {F:Nat} (hF:33≤F) (s:ByteArray):W7 F s=YI s:=by
 unfold W7 YI
 simp only[QeW,QfP]
 by_cases h1:((s.size:Nat):Int)<1
 ·simp only[h1,decide_true,cond_true,Option.bind_some]
 ·by_cases h2:(32:Int)<((s.size:Nat):Int)
  ·simp only[h1,h2,decide_true,decide_false,cond_true,cond_false,Option.bind_some]
  ·obtain ⟨b,hb⟩:=Qfo (s:=s) (k:=0) (by omega);obtain ⟨q,hq⟩:=Qa8 b;have hb':QeC s 0=some b:=hb
   simp only[h1,h2,decide_false,cond_false,hb',Option.bind_some,hq]
   cases q with
   | false=>rfl
   | true =>
    simp only[Bool.not_true,cond_false]
    obtain ⟨o,ho⟩:=QgJ s (by omega) (s.size-1) 1 (by omega)
    rw[show ((1:Nat):Int)=1 from rfl] at ho
    rw[QcR ho (by omega)]
    have e2:iter (QF s) (((s.size:Nat):Int).toNat+1) 0=some o:=by
     rw[iter]
     have:QF s 0=some (.inl 1):=by
      simp only[QF]
      rw[show decide ((0:Int)<((s.size:Nat):Int))=true by simp;omega]
      simp only[cond_true,hb',Option.bind_some,hq,Bool.not_true,cond_false]
      rfl
     rw[this]
     exact QcR ho (by simp;omega)
    rw[e2]
theorem Qf6 {F:Nat} (hF:33≤F) (v:Qn) (n m:Int):Wg F v n m=QR v n m:=by
 unfold Wg QR
 rw[Qio hF]
theorem Qir {α ρ:Type} (p:α→Bool) (o fin:ρ): ∀(l:List α) (k:Nat),YR (fun _ y=>bif p y then some o else none) fin k l=bif l.any p then o else fin
 | [],_=>rfl
 | x::l,k=>by
  simp only[YR,List.any_cons]
  cases p x
  ·simpa using Qir p o fin l (k+1)
  ·rfl
theorem Qhm {α:Type} (p:α→Bool): ∀(l:List α) (k:Nat),(YR (fun (k:Nat) y=>bif p y then some (.inr (k:Int)) else none) (.inl ():Unit⊕Int) k l= .inl ()∧l.any p=false) ∨
  ∃j:Nat,YR (fun (k:Nat) y=>bif p y then some (.inr (k:Int)) else none) (.inl ():Unit⊕Int) k l= .inr (j:Int)∧l.any p=true
 | [],_=> .inl ⟨rfl,rfl⟩
 | x::l,k=>by
  simp only[YR,List.any_cons]
  cases p x
  ·simpa using Qhm p l (k+1)
  ·exact .inr ⟨k,rfl,rfl⟩
def Qbm {α β:Type} [DecidableEq β] (f:α→β) (l:List α) (k:Nat) (x:α):Option (Unit⊕Int):=bif (l.take k).any (fun y=>decide (f x=f y)) then some (.inr 6) else none
theorem Qkz {α β:Type} [DecidableEq β] (f:α→β) (l:List α) (hn:l.length<1000000) {b2:Int→Int→Option (Int⊕(Unit⊕Int))} {b3:Int→Option (Int⊕(Unit⊕Int))}
  (h2: ∀(i k:Nat) (x y:α),l[i]? =some x→l[k]? =some y→k<i→b2 i k=some (bif decide (f x=f y) then .inr (.inr 6) else .inl (w64 ((k:Int)+1))))
  (h2f: ∀i:Nat,b2 i i=some (.inr (.inl ())))
  (h3: ∀i:Nat,i<l.length→b3 i=Option.bind (Option.bind (iter (b2 i) ((i:Int).toNat+1) 0) (fun o_=>QS o_ (fun _=>some (.inl ())) (fun rv=>some (.inr rv)))) (fun o_=>QS o_ (fun _:Unit=>some (.inl (w64 ((i:Int)+1)))) (fun rv=>some (.inr (.inr rv)))))
  (h3f:b3 (l.length:Nat)=some (.inr (.inl ()))):iter b3 (((l.length:Nat):Int).toNat+1) 0=some (YR (Qbm f l) (.inl ()) 0 l):=by
 refine Yu l (Qbm f l) (.inl ()) (by omega) (fun i x hx=> ?_) h3f _ (by simp);have hi:=QC hx
 rw[h3 i hi]
 have:=Yu (body:=b2 i) (l.take i) (fun _ y=>bif decide (f x=f y) then some (.inr 6) else none) (.inl ():Unit⊕Int) (by simp;omega) (fun k y hy=> ?_) (by rw[Zj (Nat.le_of_lt hi)];exact h2f i) ((i:Int).toNat+1) (by rw[Zj (Nat.le_of_lt hi)];omega)
 ·rw[this,Qir]
  unfold Qbm
  generalize (l.take i).any _=b
  cases b<;>rfl
 ·have hk:=QC hy
  rw[Zj (Nat.le_of_lt hi)] at hk
  rw[List.getElem?_take,if_pos hk] at hy
  rw[h2 i k x y hx hy hk]
  cases decide (f x=f y)<;>rfl
def Qja (l:List Qn):List (ByteArray×Bool):=l.foldl (fun m x=>QeF x.ID true m) []
theorem Qfa {β:Type} (k j:ByteArray) (v:β): ∀(m:List (ByteArray×β)),QaJ j (QeF k v m)=if k=j then some v else QaJ j m
 | []=>by simp[QeF,QaJ]
 | p::m=>by
  simp only[QeF]
  by_cases h:p.1=k
  ·subst h
   by_cases h2:p.1=j<;>simp[QaJ,h2]
  ·by_cases h2:p.1=j
   ·have: ¬k=j:=fun e=>h (by rw[h2,e])
    rw[if_neg h,if_neg this]
    simp[QaJ,h2]
   ·simp[QaJ,h,h2,Qfa k j v m]
theorem Qh2 (l:List Qn) (id:ByteArray): ∀(m:List (ByteArray×Bool)),(QaJ id (l.foldl (fun m x=>QeF x.ID true m) m)).getD false=(l.any (fun y=>decide (id=y.ID))||(QaJ id m).getD false):=by
 induction l with
 | nil=>intro m;simp
 | cons x l ih =>
  intro m
  rw[List.foldl_cons,ih,List.any_cons,Qfa]
  by_cases h:x.ID=id
  ·simp[h]
  ·have: ¬id=x.ID:=fun e=>h e.symm
   simp[h,this]
theorem Qet (l:List Qn) (hn:l.length≤16):iter (Z0 l) (((l.length:Nat):Int).toNat+1) ([],0)=some (YR (Qbm (·.ID) l) (.inl ()) 0 l):=by
 refine Qcs (body:=Z0 l) l (fun k=>Qja (l.take k)) (fun m k=>(m,k)) (Qbm (·.ID) l) (.inl ()) (by omega) (fun k x hx _=> ?_) (fun _=>by simp[Z0,oun]) _ (by simp);have hk:=QC hx;have hk2:((k:Int)<(l.length:Nat)):=by omega
 simp only[Z0,oun,hk2,decide_true,cond_true,Qt,hx,Option.bind_some]
 rw[Qja,Qh2,QaL hx]
 simp only[QaJ,Option.getD_none,Bool.or_false,Qbm,Qja,List.foldl_append,List.foldl_cons,List.foldl_nil]
 generalize (l.take k).any _=b
 cases b<;>rfl
theorem Qal {F:Nat} (hF:33≤F) (l:List Qn) (n m:Int):JG F l n m=QZ l n m:=by
 unfold JG QZ;have e1:ZZ F l n m=QG l n m:=by
  funext i
  simp only[ZZ,QG,Qf6 hF]
 rw[e1]
 by_cases h:(16:Int)<((l.length:Nat):Int)
 ·simp only[h,decide_true,cond_true]
 ·have e3:=Qkz (·.ID) l (by omega) (b2:=Y9 l) (b3:=Za l) (fun i k x y hx hy hk=>by
    have:((k:Int)<(i:Int)):=by omega
    simp only[Y9,this,decide_true,cond_true,Qt,hx,hy,Option.bind_some]
    cases decide (x.ID=y.ID)<;>rfl) (fun i=>by simp[Y9]) (fun i hi=>by
    have:((i:Int)<((l.length:Nat):Int)):=by omega
    simp only[Za,this,decide_true,cond_true]) (by simp[Za])
  rw[e3,Qet l (by omega)]
theorem Qid (n a b:Int):Je n a b=some (decide (a≤n)&&decide (n≤b)):=by
 unfold Je
 rw[Qiq]
 rfl
theorem Qfl (l:List Qm) (n m:Int):Wh l n m=QK l n m:=by
 funext i
 simp only[Wh,QK]
 cases decide (i<((l.length:Nat):Int)) with
 | false=>rfl
 | true =>
  simp only[cond_true]
  cases QI l i with
  | none=>rfl
  | some x =>
   simp only[Option.bind_some,Qas,Qid,YT,Bool.not_and]
   have e1:(!decide (0≤x.Container)|| !decide (x.Container≤255))=(decide (x.Container<0)||decide (256≤x.Container)):=by
    rw[Bool.eq_iff_iff];simp;omega
   have e2:(!decide (0≤x.Grams)|| !decide (x.Grams≤1073741824))=(decide (x.Grams<0)||decide (1073741824<x.Grams)):=by
    rw[Bool.eq_iff_iff];simp
   have e3:(!decide (0≤x.Service)|| !decide (x.Service≤3600))=(decide (x.Service<0)||decide (3600<x.Service)):=by
    rw[Bool.eq_iff_iff];simp
   rw[e1,e2,e3]
   have key: ∀(a b c d:Bool),(bif a||b then some true else some (c||d))=some (a||(b||(c||d))):=by intro a b c d;cases a<;>cases b<;>rfl
   simp only[YT,Bool.or_assoc]
   generalize (decide (x.Container<0)||_)=a
   generalize (decide (x.Grams<0)||_)=b
   cases a<;>cases b<;>rfl
theorem Qdq (L:List Qm) (hn:L.length≤32) (x:Qm):Yl L x=some (L.any fun y=>decide (x.Container=y.Container)):=by
 unfold Yl Zf;have:=Yu (body:=Ym L x) L (fun k y=>bif decide (x.Container=y.Container) then some (.inr (k:Int)) else none) (.inl ():Unit⊕Int) (by omega) (fun k y hy=> ?_) (by simp[Ym]) (((L.length:Nat):Int).toNat+1) (by simp)
 ·rw[this]
  rcases Qhm (fun y:Qm=>decide (x.Container=y.Container)) L 0 with ⟨h1,h2⟩ | ⟨j,h1,h2⟩
  ·rw[h1,h2];rfl
  ·rw[h1,h2]
   simp only[Option.bind_some,QS]
   simp
 ·have hk:=QC hy;have hk2:((k:Int)<(L.length:Nat)):=by omega
  simp only[Ym,hk2,decide_true,cond_true,Qt,hy,Option.bind_some,WB]
  rw[show decide (y.Container=x.Container)=decide (x.Container=y.Container) by rw[Bool.eq_iff_iff];simp[eq_comm]]
  cases decide (x.Container=y.Container)<;>rfl
theorem Vr {α:Type} {l:List α} {k:Nat} (h:k≤l.length):WH l 0 (k:Int)=some (l.take k):=by
 unfold WH
 rw[if_pos ⟨by omega,by omega,by omega⟩]
 simp
theorem Qdo (l:List Qm) (n m:Int):WA l n m=Q4 l n m:=by
 unfold WA Q4
 rw[Qfl]
 by_cases h:(32:Int)<((l.length:Nat):Int)
 ·simp only[h,decide_true,cond_true]
 ·have e3:=Qkz (·.Container) l (by omega) (b2:=Ya l) (b3:=Yb l) (fun i k x y hx hy hk=>by
    have:((k:Int)<(i:Int)):=by omega
    simp only[Ya,this,decide_true,cond_true,Qt,hx,hy,Option.bind_some]
    cases decide (x.Container=y.Container)<;>rfl) (fun i=>by simp[Ya]) (fun i hi=>by
    have:((i:Int)<((l.length:Nat):Int)):=by omega
    simp only[Yb,this,decide_true,cond_true]) (by simp[Yb])
  have e4:iter (JA l) (((l.length:Nat):Int).toNat+1) 0=some (YR (Qbm (·.Container) l) (.inl ()) 0 l):=by
   refine Yu l (Qbm (·.Container) l) (.inl ()) (by omega) (fun k x hx=> ?_) (by simp[JA]) _ (by simp);have hk:=QC hx;have hk2:((k:Int)<(l.length:Nat)):=by omega
   simp only[JA,hk2,decide_true,cond_true,Qt,hx,Option.bind_some,Vr (Nat.le_of_lt hk),Qbm]
   rw[Qdq _ (by simp;omega)]
   simp only[Option.bind_some]
   generalize (l.take k).any _=b
   cases b<;>rfl
  rw[e3,e4]
theorem QbR {F:Nat} (hF:33≤F) (p:Qb) (hn:p.Road.Edges.length≤600):WV F p=Qj p:=by
 unfold WV Qj
 rw[QbM _ hn,JX _ hn]
 simp only[Qal hF,Qdo]
theorem Qax {ρ:Type} {body:Int→Option (Int⊕ρ)} {N:Nat} (hN:N<1000000) (hb: ∀k:Nat,k<N→(∃r,body k=some (.inr r))∨body k=some (.inl ((k+1:Nat):Int))) (hf: ∃r,body (N:Nat)=some (.inr r)) :
  ∀(m k:Nat),k+m=N→ ∃o,iter body (m+1) (k:Int)=some o
 | 0,k,h=>by
  obtain ⟨r,hr⟩:=hf;obtain rfl:k=N:=by omega
  exact ⟨r,by rw[iter,hr];rfl⟩
 | m+1,k,h=>by
  rcases hb k (by omega) with ⟨r,hr⟩ | hr
  ·exact ⟨r,by rw[iter,hr];rfl⟩
  ·obtain ⟨o,ho⟩:=Qax hN hb hf m (k+1) (by omega);exact ⟨o,by rw[iter,hr];exact ho⟩
theorem QgE (p:Qb):(∃b,Zb p=some b)∧(Zb p=some false→p.Road.Edges.length≤600∧p.Vehicles.length≤30∧p.Demands.length≤60):=by
 unfold Zb
 simp only[YT,Option.bind_some]
 by_cases h:(decide ((600:Int)<((p.Road.Edges.length:Nat):Int))||(decide ((30:Int)<((p.Vehicles.length:Nat):Int))||decide ((60:Int)<((p.Demands.length:Nat):Int))))=true
 ·rw[h]
  exact ⟨⟨true,rfl⟩,fun e=>by cases e⟩
 ·rw[Bool.not_eq_true] at h
  rw[h]
  simp only[Bool.or_eq_false_iff,decide_eq_false_iff_not] at h
  obtain ⟨o,ho⟩:=Qax (body:=Zc p) (N:=p.Vehicles.length) (by omega) (fun k hk=>by
   obtain ⟨x,hx⟩: ∃x,p.Vehicles[k]? =some x:=⟨_,List.getElem?_eq_getElem hk⟩
   have hk2:((k:Int)<((p.Vehicles.length:Nat):Int)):=by omega
   simp only[Zc,hk2,decide_true,cond_true,Qt,hx,Option.bind_some,JM (show k<9223372036854775807 by omega)]
   cases decide ((200:Int)<((x.ID.size:Nat):Int)) with
   | true=>exact .inl ⟨_,rfl⟩
   | false=>exact .inr rfl) ⟨_,by simp[Zc];rfl⟩ p.Vehicles.length 0 (by omega)
  refine ⟨?_,fun _=>by omega⟩
  simp only[cond_false]
  rw[show (((p.Vehicles.length:Nat):Int).toNat+1)=p.Vehicles.length+1 by simp,show (0:Int)=((0:Nat):Int) from rfl,ho]
  cases o with
  | inl u=>exact ⟨false,rfl⟩
  | inr b=>exact ⟨b,rfl⟩
theorem QdX (l:List Qm) (n m:Int) (hn:l.length≤32): ∃o,iter (QK l n m) (((l.length:Nat):Int).toNat+1) 0=some o:=by
 obtain ⟨o,ho⟩:=Qax (body:=QK l n m) (N:=l.length) (by omega) (fun k hk=>by
   obtain ⟨x,hx⟩: ∃x,l[k]? =some x:=⟨_,List.getElem?_eq_getElem hk⟩
   have hk2:((k:Int)<((l.length:Nat):Int)):=by omega
   simp only[QK,hk2,decide_true,cond_true,Qt,hx,Option.bind_some,YT,JM (show k<9223372036854775807 by omega)]
   generalize (decide (x.Container<0)||_)=a
   generalize (decide (x.Grams<0)||_)=b
   cases a<;>cases b<;>first | exact .inr rfl | exact .inl ⟨_,rfl⟩) ⟨_,by simp[QK];rfl⟩ l.length 0 (by omega)
 exact ⟨o,by simpa using ho⟩
theorem Qcw (v:Qn) (n:Int): ∃e,QR v n 16=some e:=by
 unfold QR;have hv: ∃b,YI v.ID=some b:=by
  unfold YI
  by_cases h1:((v.ID.size:Nat):Int)<1
  ·exact ⟨false,by simp only[h1,decide_true,cond_true,Option.bind_some]⟩
  ·by_cases h2:(32:Int)<((v.ID.size:Nat):Int)
   ·exact ⟨false,by simp only[h1,h2,decide_true,decide_false,cond_true,cond_false,Option.bind_some]⟩
   ·obtain ⟨b,hb⟩:=Qfo (s:=v.ID) (k:=0) (by omega);obtain ⟨q,hq⟩:=Qa8 b;have hb':QeC v.ID 0=some b:=hb;obtain ⟨o,ho⟩:=QgJ v.ID (by omega) v.ID.size 0 (by omega)
    simp only[h1,h2,decide_false,cond_false,hb',Option.bind_some,hq]
    rw[show (((v.ID.size:Nat):Int).toNat+1)=v.ID.size+1 by simp,show (0:Int)=((0:Nat):Int) from rfl,ho]
    cases q<;>cases o<;>exact ⟨_,rfl⟩
 obtain ⟨b,hb⟩:=hv
 rw[hb]
 simp only[Option.bind_some,YT,Wo (show (0:Int)≤16∧(16:Int)≤64 by decide)]
 generalize (decide (v.Depot<0)||_)=c1
 generalize (decide (v.Shift.From<0)||_)=c2
 generalize (decide (v.Grams<1)||_)=c3
 generalize (decide (v.Kinds<1)||_)=c4
 cases b<;>cases c1<;>cases c2<;>cases c3<;>cases c4<;>exact ⟨_,rfl⟩
theorem Qg2 (l:List Qn) (n:Int): ∃e,QZ l n 16=some e:=by
 by_cases h:(16:Int)<((l.length:Nat):Int)
 ·unfold QZ
  simp only[YT,Option.bind_some,h,decide_true,cond_true]
  generalize (decide (n<1)||_)=a
  generalize decide (((l.length:Nat):Int)=0)=b
  cases a<;>cases b<;>exact ⟨_,rfl⟩
 ·obtain ⟨o,ho⟩:=Qax (body:=QG l n 16) (N:=l.length) (by omega) (fun k hk=>by
   obtain ⟨x,hx⟩: ∃x,l[k]? =some x:=⟨_,List.getElem?_eq_getElem hk⟩
   obtain ⟨e,he⟩:=Qcw x n;have hk2:((k:Int)<((l.length:Nat):Int)):=by omega
   simp only[QG,hk2,decide_true,cond_true,Qt,hx,Option.bind_some,he,JM (show k<9223372036854775807 by omega)]
   cases decide (e=0)<;>first | exact .inr rfl | exact .inl ⟨_,rfl⟩) ⟨_,by simp[QG];rfl⟩ l.length 0 (by omega)
  have h2:=Qal (F:=33) (Nat.le_refl _) l n 16
  rw[←h2]
  unfold JG;have e1:ZZ 33 l n 16=QG l n 16:=by
   funext i
   simp only[ZZ,QG,Qf6 (F:=33) (Nat.le_refl _)]
  rw[e1,Qet l (by omega),show (((l.length:Nat):Int).toNat+1)=l.length+1 by simp,show (0:Int)=((0:Nat):Int) from rfl,ho]
  simp only[YT,Option.bind_some,h,decide_false,cond_false]
  generalize (decide (n<1)||_)=a
  generalize decide (((l.length:Nat):Int)=((0:Nat):Int))=b
  generalize YR (Qbm (·.ID) l) (.inl ()) 0 l=q
  cases a<;>cases b<;>cases o<;>cases q<;>exact ⟨_,rfl⟩
theorem Qg5 (p:Qb) (hn:p.Road.Edges.length≤600): ∃e,Qj p=some e:=by
 unfold Qj
 rw[JX _ hn]
 obtain ⟨e2,he2⟩:=Qg2 p.Vehicles p.Road.Nodes;have he3: ∃e,Q4 p.Demands p.Road.Nodes 16=some e:=by
  by_cases h:(32:Int)<((p.Demands.length:Nat):Int)
  ·exact ⟨8,by unfold Q4;simp only[h,decide_true,cond_true]⟩
  ·obtain ⟨o,ho⟩:=QdX p.Demands p.Road.Nodes 16 (by omega);unfold Q4;have e3:=Qkz (·.Container) p.Demands (by omega) (b2:=Ya p.Demands) (b3:=Yb p.Demands) (fun i k x y hx hy hk=>by
    have:((k:Int)<(i:Int)):=by omega
    simp only[Ya,this,decide_true,cond_true,Qt,hx,hy,Option.bind_some]
    cases decide (x.Container=y.Container)<;>rfl) (fun i=>by simp[Ya]) (fun i hi=>by
    have:((i:Int)<((p.Demands.length:Nat):Int)):=by omega
    simp only[Yb,this,decide_true,cond_true]) (by simp[Yb])
   rw[ho,e3]
   simp only[h,decide_false,cond_false,Option.bind_some]
   generalize YR (Qbm (·.Container) p.Demands) (.inl ()) 0 p.Demands=q
   cases o<;>cases q<;>exact ⟨_,rfl⟩
 obtain ⟨e3,he3⟩:=he3
 simp only[he2,he3,Option.bind_some,YT]
 generalize decide (VM p.Road=0)=a
 generalize decide (e2=0)=b
 generalize decide (e3=0)=c
 generalize (decide (p.Unload<0)||_)=d
 generalize (decide (p.UnloadSecs<0)||_)=f
 cases a<;>cases b<;>cases c<;>cases d<;>cases f<;>exact ⟨_,rfl⟩
end Go.Proofs.YtilbengnjgglhaaGreat
namespace Go.Proofs.YtilbengnjgglhaaGreat
open Go.RowKit
set_option linter.unusedSimpArgs false
set_option linter.unusedVariables false
abbrev It:=Qz
abbrev Qu:=Qa
abbrev Lg:=Qc
def Lg.lt (a b:Lg):Prop:=a.Secs<b.Secs∨(a.Secs=b.Secs∧a.Meters<b.Meters)
def Lg.le (a b:Lg):Prop:=a.Secs<b.Secs∨(a.Secs=b.Secs∧a.Meters≤b.Meters)
instance (a b:Lg):Decidable (Lg.lt a b):=by unfold Lg.lt;infer_instance
instance (a b:Lg):Decidable (Lg.le a b):=by unfold Lg.le;infer_instance
theorem Lg.le_of_not_lt {a b:Lg} (h: ¬Lg.lt a b):Lg.le b a:=by unfold Lg.lt at h;unfold Lg.le;omega
theorem Lg.le_of_lt {a b:Lg} (h:Lg.lt a b):Lg.le a b:=by unfold Lg.lt at h;unfold Lg.le;omega
theorem Lg.le_refl (a:Lg):Lg.le a a:=by unfold Lg.le;omega
theorem Lg.le_trans {a b c:Lg} (h:Lg.le a b) (h2:Lg.le b c):Lg.le a c:=by unfold Lg.le at *;omega
theorem Lg.not_lt {a b:Lg} (h:Lg.le b a): ¬Lg.lt a b:=by unfold Lg.le at h;unfold Lg.lt;omega
abbrev noL:Lg:=⟨-1,0⟩
theorem QeL (a b:Lg):Wt a b=some (decide (b=noL)||decide (Lg.lt a b)):=by
 unfold Wt Vq
 simp only[Option.bind_some]
 by_cases h:b=noL
 ·simp[h]
 ·by_cases h1:a.Secs<b.Secs
  ·simp[h,h1,Lg.lt]
  ·by_cases h2:a.Secs=b.Secs
   ·simp[h,h1,h2,Lg.lt]
   ·simp[h,h1,h2,Lg.lt]
def okI (x:It):Prop:=0≤x.value.leg.Secs
theorem Qhu {a b:QN} (hb:0≤b.leg.Secs):JE a b=some (decide (Lg.lt a.leg b.leg)):=by
 unfold JE
 rw[QeL]
 have hn:b.leg≠noL:=by intro e;rw[e] at hb;exact absurd hb (by decide)
 by_cases h:a.leg=b.leg
 ·rw[h]
  simp[Lg.lt]
 ·simp[h,hn]
def bef (x y:It):Bool:=decide (Lg.lt x.value.leg y.value.leg)||(decide (x.n<y.n)&& !decide (Lg.lt y.value.leg x.value.leg))
theorem QgM {x y:It} (h:bef x y=true):Lg.le x.value.leg y.value.leg:=by
 simp only[bef,Bool.or_eq_true,Bool.and_eq_true,decide_eq_true_eq,Bool.not_eq_true',decide_eq_false_iff_not] at h
 rcases h with h | ⟨_,h⟩
 ·exact Lg.le_of_lt h
 ·exact Lg.le_of_not_lt h
theorem Qfg {x y:It} (h:bef x y=false):Lg.le y.value.leg x.value.leg:=by
 simp only[bef,Bool.or_eq_false_iff,decide_eq_false_iff_not] at h
 exact Lg.le_of_not_lt h.1
theorem QeJ {q:Qu} {i k:Nat} {x y:It} (hx:q.heap[i]? =some x) (hy:q.heap[k]? =some y) (h1:okI x) (h2:okI y):Yt q i k=some (bef x y):=by
 unfold Yt
 simp only[Qt,hx,hy,Option.bind_some,oun]
 rw[Qhu (a:=⟨x.value.node,⟨x.value.leg.Secs,x.value.leg.Meters⟩⟩) (b:=⟨y.value.node,⟨y.value.leg.Secs,y.value.leg.Meters⟩⟩) h2,Qhu (a:=⟨y.value.node,⟨y.value.leg.Secs,y.value.leg.Meters⟩⟩) (b:=⟨x.value.node,⟨x.value.leg.Secs,x.value.leg.Meters⟩⟩) h1]
 simp only[Option.bind_some]
 unfold bef;cases decide (Lg.lt x.value.leg y.value.leg)<;>cases decide (x.n<y.n)<;>rfl
def swp (h:List It) (i k:Nat):List It:=match h[i]?,h[k]? with
 | some x,some y=>(h.set i y).set k x
 | _,_=>h
theorem QfJ {q:Qu} {i k:Nat} (hi:i<q.heap.length) (hk:k<q.heap.length):Ys q i k=some ⟨swp q.heap i k,q.count⟩:=by
 unfold Ys swp
 simp only[Qt,List.getElem?_eq_getElem hi,List.getElem?_eq_getElem hk,Option.bind_some,ZS,Int.toNat_natCast]
 rw[List.getElem?_eq_getElem (by simpa using hk)]
 rfl
theorem WU (h:List It) (i k:Nat):(swp h i k).length=h.length:=by unfold swp;split<;>simp
theorem Qeq {h:List It} {i k:Nat} (hi:i<h.length) (hk:k<h.length):(swp h i k).Perm h:=by
 unfold swp
 simp only[List.getElem?_eq_getElem hi,List.getElem?_eq_getElem hk]
 exact List.set_set_perm hi hk
theorem QaK {h:List It} {i k:Nat} (hi:i<h.length) (hk:k<h.length) (j:Nat):(swp h i k)[j]? =if j=k then h[i]? else if j=i then h[k]? else h[j]? :=by
 unfold swp
 simp only[List.getElem?_eq_getElem hi,List.getElem?_eq_getElem hk]
 rw[List.getElem?_set,List.getElem?_set]
 simp only[List.length_set]
 by_cases h1:k=j
 ·subst h1;simp[hk]
 ·have h1': ¬j=k:=fun e=>h1 e.symm
  by_cases h2:i=j
  ·subst h2;simp[h1,h1',hi]
  ·have h2': ¬j=i:=fun e=>h2 e.symm
   simp[h1,h2,h1',h2']
end Go.Proofs.YtilbengnjgglhaaGreat
namespace Go.Proofs.YtilbengnjgglhaaGreat
open Go.RowKit
set_option linter.unusedSimpArgs false
set_option linter.unusedVariables false
abbrev kle (x y:It):Prop:=Lg.le x.value.leg y.value.leg
def okH (h:List It):Prop:= ∀x∈h,okI x
theorem okH.get {h:List It} (ho:okH h) {k:Nat} {x:It} (hx:h[k]? =some x):okI x:=ho x (List.mem_of_getElem? hx)
theorem okH.perm {h h':List It} (ho:okH h) (hp:h'.Perm h):okH h':=fun x hx=>ho x (hp.mem_iff.1 hx)
def Hp (h:List It):Prop:= ∀(k:Nat) (x y:It),1≤k→h[k]? =some x→h[(k-1)/2]? =some y→kle y x
theorem Hp.root {h:List It} (hh:Hp h) {r:It} (hr:h[0]? =some r): ∀(k:Nat) (x:It),h[k]? =some x→kle r x:=by
 intro k
 induction k using Nat.strongRecOn with
 | ind k ih =>
  intro x hx;rcases Nat.eq_zero_or_pos k with rfl | hk
  ·rw[hr] at hx;injection hx with hx;subst hx;exact Lg.le_refl _
  ·have hlt:=QC hx;have hy:h[(k-1)/2]? =some h[(k-1)/2]:=List.getElem?_eq_getElem (by omega);exact Lg.le_trans (ih _ (by omega) _ hy) (hh k x _ hk hx hy)
def HpU (h:List It) (i:Nat):Prop:=(∀(k:Nat) (x y:It),1≤k→k≠i→h[k]? =some x→h[(k-1)/2]? =some y→kle y x) ∧
 ∀(c:Nat) (x y:It),1≤i→1≤c→(c-1)/2=i→h[c]? =some x→h[(i-1)/2]? =some y→kle y x
def HpD (h:List It) (i:Nat):Prop:=(∀(k:Nat) (x y:It),1≤k→(k-1)/2≠i→h[k]? =some x→h[(k-1)/2]? =some y→kle y x) ∧
 ∀(c:Nat) (x y:It),1≤i→1≤c→(c-1)/2=i→h[c]? =some x→h[(i-1)/2]? =some y→kle y x
theorem HpU.step {h:List It} {i:Nat} (hi:1≤i) (hl:i<h.length) (hu:HpU h i) {x y:It} (hx:h[i]? =some x) (hy:h[(i-1)/2]? =some y) (hle:kle x y):HpU (swp h i ((i-1)/2)) ((i-1)/2):=by
 have hp:(i-1)/2<h.length:=by omega
 generalize hpe:(i-1)/2=p at *
 refine ⟨fun k a b hk hkp ha hb=> ?_,fun c a b h1 hc hcp ha hb=> ?_⟩
 ·rw[QaK hl hp] at ha hb
  rw[if_neg hkp] at ha
  by_cases hki:k=i
  ·subst hki
   rw[if_pos rfl] at ha
   rw[hpe,if_pos rfl] at hb
   rw[hy] at ha;rw[hx] at hb
   injection ha with ha;injection hb with hb
   subst ha;subst hb;exact hle
  ·rw[if_neg hki] at ha
   by_cases h2:(k-1)/2=p
   ·rw[if_pos h2,hx] at hb
    injection hb with hb;subst hb
    exact Lg.le_trans hle (hu.1 k a y hk hki ha (by rw[h2];exact hy))
   ·rw[if_neg h2] at hb
    by_cases h3:(k-1)/2=i
    ·rw[if_pos h3] at hb
     exact hu.2 k a b hi hk h3 ha (by rw[hpe];exact hb)
    ·rw[if_neg h3] at hb
     exact hu.1 k a b hk hki ha hb
 ·rw[QaK hl hp] at ha hb
  rw[if_neg (by omega),if_neg (by omega)] at hb
  have hpp:kle b y:=hu.1 p y b h1 (by omega) hy hb
  by_cases hci:c=i
  ·subst hci
   rw[if_neg (by omega),if_pos rfl,hy] at ha
   injection ha with ha;subst ha
   exact hpp
  ·rw[if_neg (by omega),if_neg hci] at ha
   exact Lg.le_trans hpp (hu.1 c a y hc hci ha (by rw[hcp];exact hy))
theorem HpU.zero {h:List It} (hu:HpU h 0):Hp h:=fun k x y hk hx hy=>hu.1 k x y hk (by omega) hx hy
theorem HpU.stop {h:List It} {i:Nat} (hu:HpU h i) {x y:It} (hx:h[i]? =some x) (hy:h[(i-1)/2]? =some y) (hle:kle y x):Hp h:=by
 intro k a b hk ha hb
 by_cases hki:k=i
 ·subst hki
  rw[hx] at ha;rw[hy] at hb
  injection ha with ha;injection hb with hb
  subst ha;subst hb;exact hle
 ·exact hu.1 k a b hk hki ha hb
theorem HpD.step {h:List It} {i n:Nat} (hl:n<h.length) (hn:n=2*i+1∨n=2*i+2) (hd:HpD h i) {x y:It} (hx:h[n]? =some x) (hy:h[i]? =some y) (hmin: ∀(j:Nat) (z:It),(j=i∨j=2*i+1∨j=2*i+2)→h[j]? =some z→kle x z):HpD (swp h i n) n:=by
 have hi:i<h.length:=by omega
 refine ⟨fun k a b hk hkp ha hb=> ?_,fun c a b h1 hc hcp ha hb=> ?_⟩
 ·rw[QaK hi hl] at ha hb
  rw[if_neg hkp] at hb
  by_cases h2:(k-1)/2=i
  ·rw[if_pos h2,hx] at hb
   injection hb with hb;subst hb
   by_cases hkn:k=n
   ·rw[if_pos hkn] at ha
    exact hmin i a (.inl rfl) ha
   ·rw[if_neg hkn,if_neg (by omega)] at ha
    exact hmin k a (by omega) ha
  ·rw[if_neg h2] at hb
   by_cases hki:k=i
   ·subst hki
    rw[if_neg (by omega),if_pos rfl] at ha
    exact hd.2 n a b hk (by omega) (by omega) ha hb
   ·rw[if_neg (by omega),if_neg hki] at ha
    exact hd.1 k a b hk h2 ha hb
 ·rw[QaK hi hl] at ha hb
  have h3:(n-1)/2=i:=by omega
  rw[h3,if_neg (by omega),if_pos rfl,hx] at hb
  injection hb with hb;subst hb
  rw[if_neg (by omega),if_neg (by omega)] at ha
  exact hd.1 c a x hc (by omega) ha (by rw[hcp];exact hx)
theorem HpD.stop {h:List It} {i:Nat} (hd:HpD h i) {y:It} (hy:h[i]? =some y) (hmin: ∀(j:Nat) (z:It),(j=i∨j=2*i+1∨j=2*i+2)→h[j]? =some z→kle y z):Hp h:=by
 intro k a b hk ha hb
 by_cases h2:(k-1)/2=i
 ·rw[h2,hy] at hb
  injection hb with hb;subst hb
  exact hmin k a (by omega) ha
 ·exact hd.1 k a b hk h2 ha hb
theorem QkC {i:Nat} (h1:1≤i) (h2:i<1000000000):w64 (Int.tdiv (w64 ((i:Int)-1)) 2)=(((i-1)/2:Nat):Int):=by
 rw[Q6 (n:=(i:Int)-1) (by omega) (by omega),Int.tdiv_eq_ediv_of_nonneg (by omega),Q6 (by omega) (by omega)]
 omega
theorem QhI: ∀(i:Nat) (F:Nat) (h:List It) (c:Int),i<F→i<h.length→h.length<1000000000→okH h→HpU h i →
  ∃h',(iter Yo F (⟨h,c⟩,(i:Int))=some (.inl ⟨h',c⟩)∨iter Yo F (⟨h,c⟩,(i:Int))=some (.inr ⟨h',c⟩))∧h'.Perm h∧Hp h':=by
 intro i
 induction i using Nat.strongRecOn with
 | ind i ih =>
  intro F h c hF hl hb ho hu;obtain ⟨F,rfl⟩: ∃f,F=f+1:=⟨F-1,by omega⟩
  rcases Nat.eq_zero_or_pos i with rfl | hi
  ·exact ⟨h,.inl (by rw[iter];rfl),.refl _,hu.zero⟩
  ·have hx:h[i]? =some h[i]:=List.getElem?_eq_getElem hl;have hp:(i-1)/2<h.length:=by omega
   have hy:h[(i-1)/2]? =some h[(i-1)/2]:=List.getElem?_eq_getElem hp
   generalize h[i]=x at hx
   generalize h[(i-1)/2]=y at hy
   have hbody:Yo (⟨h,c⟩,(i:Int))=if bef x y=true then some (.inl (⟨swp h i ((i-1)/2),c⟩,(((i-1)/2:Nat):Int))) else some (.inr (.inr ⟨h,c⟩)):=by
    simp only[Yo,oun]
    rw[show decide ((0:Int)<(i:Int))=true by simp;omega]
    simp only[cond_true,QkC hi (by omega)]
    rw[QeJ hx hy (ho.get hx) (ho.get hy)]
    simp only[Option.bind_some]
    cases bef x y with
    | false=>rfl
    | true =>
     simp only[Bool.not_true,cond_false]
     rw[QfJ hl hp]
     rfl
   rw[iter,hbody]
   cases hbe:bef x y with
   | false=>exact ⟨h,.inr rfl,.refl _,hu.stop hx hy (Qfg hbe)⟩
   | true =>
    have hpm:=Qeq hl hp;obtain ⟨h',h1,h2,h3⟩:=ih ((i-1)/2) (by omega) F (swp h i ((i-1)/2)) c (by omega) (by rw[WU];exact hp) (by rw[WU];exact hb) (ho.perm hpm) (hu.step hi hl hx hy (QgM hbe));exact ⟨h',h1,h2.trans hpm,h3⟩
theorem Qhk {F:Nat} {q:Qu} (x:QN) (hF:q.heap.length<F) (hl:q.heap.length<1000000) (ho:okH q.heap) (hx:0≤x.leg.Secs) (hh:Hp q.heap) :
  ∃q',YK F q x=some q'∧q'.heap.Perm (q.heap++[⟨x,q.count⟩])∧Hp q'.heap:=by
 unfold YK
 rw[Z8 (by simp;omega)]
 simp only[Option.bind_some]
 have e1:w64 (((((q.heap++[⟨x,q.count⟩]:List It).length:Nat):Int))-1)=((q.heap.length:Nat):Int):=by
  rw[List.length_append,List.length_singleton,Q6 (by omega) (by omega)];omega
 rw[e1]
 obtain ⟨h',h1,h2,h3⟩:=QhI q.heap.length F (q.heap++[⟨x,q.count⟩]) (w64 (q.count+1)) hF (by simp) (by simp;omega) (by
   intro y hy;rcases List.mem_append.1 hy with hy | hy
   ·exact ho y hy
   ·rw[List.mem_singleton.1 hy];exact hx) ⟨fun k a b hk hkn ha hb=>by
   have hka:=QC ha
   rw[List.length_append,List.length_singleton] at hka
   rw[List.getElem?_append_left (by omega)] at ha hb
   exact hh k a b hk ha hb,fun c a b _ hc hcp ha _=>by
   have hka:=QC ha
   rw[List.length_append,List.length_singleton] at hka
   omega⟩
 rcases h1 with h1 | h1
 ·exact ⟨⟨h',_⟩,by rw[h1];rfl,h2,h3⟩
 ·exact ⟨⟨h',_⟩,by rw[h1];rfl,h2,h3⟩
theorem QcX {h:List It} {c:Int} {i n k:Nat} (hb:h.length<1000000000) (hi:i<h.length) (ho:okH h) {y:It} (hy:h[n]? =some y) :
  pqueue_Queue_stop_sink_l1 (i:Int) (h,c,(n:Int),(k:Int))=match h[k]? with
   | some x=>if k≤2*i+2 then some (.inl (h,c,((if bef x y=true then k else n:Nat):Int),w64 ((k:Int)+1))) else some (.inr (h,c,(n:Int)))
   | none=>some (.inr (h,c,(n:Int))):=by
 simp only[pqueue_Queue_stop_sink_l1,oun]
 have e1:w64 (w64 (2*(i:Int))+2)=((2*i+2:Nat):Int):=by
  rw[Q6 (n:=2*(i:Int)) (by omega) (by omega),Q6 (by omega) (by omega)];omega
 rw[e1]
 cases hx:h[k]? with
 | none =>
  have hk:h.length≤k:=List.getElem?_eq_none_iff.1 hx
  rw[show decide ((k:Int)<((h.length:Nat):Int))=false by simp;omega]
  cases decide ((k:Int)≤((2*i+2:Nat):Int))<;>rfl
 | some x =>
  have hk:=QC hx
  rw[show decide ((k:Int)<((h.length:Nat):Int))=true by simp;omega]
  by_cases h2:k≤2*i+2
  ·rw[show decide ((k:Int)≤((2*i+2:Nat):Int))=true by simp only[decide_eq_true_eq];omega]
   simp only[cond_true,Option.bind_some,if_pos h2]
   rw[QeJ (q:=⟨h,c⟩) hx hy (ho.get hx) (ho.get hy)]
   simp only[Option.bind_some]
   cases bef x y<;>rfl
  ·rw[show decide ((k:Int)≤((2*i+2:Nat):Int))=false by simp only[decide_eq_false_iff_not];omega]
   simp only[cond_false,Option.bind_some,if_neg h2]
theorem Qh9 {F:Nat} {h:List It} {c:Int} {i:Nat} (hF:3≤F) (hb:h.length<1000000000) (hi:i<h.length) (ho:okH h) :
  ∃(n:Nat) (x:It),iter (pqueue_Queue_stop_sink_l1 (i:Int)) F (h,c,(i:Int),w64 (w64 (2*(i:Int))+1))=some (h,c,(n:Int))∧(n=i∨n=2*i+1∨n=2*i+2)∧h[n]? =some x ∧
   ∀(j:Nat) (z:It),(j=i∨j=2*i+1∨j=2*i+2)→h[j]? =some z→kle x z:=by
 obtain ⟨F,rfl⟩: ∃f,F=f+3:=⟨F-3,by omega⟩
 have e1:w64 (w64 (2*(i:Int))+1)=((2*i+1:Nat):Int):=by
  rw[Q6 (n:=2*(i:Int)) (by omega) (by omega),Q6 (by omega) (by omega)];omega
 have hy:h[i]? =some h[i]:=List.getElem?_eq_getElem hi
 generalize h[i]=y at hy
 rw[e1,iter,QcX hb hi ho hy]
 cases hx:h[2*i+1]? with
 | none =>
  have hk:h.length≤2*i+1:=List.getElem?_eq_none_iff.1 hx;refine ⟨i,y,rfl,.inl rfl,hy,fun j z hj hz=> ?_⟩;have:=QC hz;obtain rfl:j=i:=by omega
  rw[hy] at hz;injection hz with hz;subst hz;exact Lg.le_refl _
 | some x =>
  simp only[show 2*i+1≤2*i+2 by omega,if_true,Option.bind_some,QS]
  rw[JM (by omega)]
  obtain ⟨n1,x1,hn1,hx1,hle1,hle2,hin⟩: ∃(n1:Nat) (x1:It),(if bef x y=true then 2*i+1 else i)=n1∧h[n1]? =some x1∧kle x1 y∧kle x1 x∧(n1=i∨n1=2*i+1):=by
   cases hbe:bef x y with
   | true=>exact ⟨2*i+1,x,rfl,hx,QgM hbe,Lg.le_refl _,.inr rfl⟩
   | false=>exact ⟨i,y,rfl,hy,Lg.le_refl _,Qfg hbe,.inl rfl⟩
  rw[hn1,iter,QcX hb hi ho hx1]
  cases hx2:h[2*i+1+1]? with
  | none =>
   have hk:h.length≤2*i+2:=List.getElem?_eq_none_iff.1 hx2;refine ⟨n1,x1,rfl,by omega,hx1,fun j z hj hz=> ?_⟩;have:=QC hz;rcases hj with rfl | rfl | rfl
   ·rw[hy] at hz;injection hz with hz;subst hz;exact hle1
   ·rw[hx] at hz;injection hz with hz;subst hz;exact hle2
   ·omega
  | some x2 =>
   simp only[show 2*i+1+1≤2*i+2 by omega,if_true,Option.bind_some,QS]
   rw[JM (by omega)]
   obtain ⟨n2,z2,hn2,hz2,hle3,hle4,hin2⟩: ∃(n2:Nat) (z2:It),(if bef x2 x1=true then 2*i+1+1 else n1)=n2∧h[n2]? =some z2∧kle z2 x1∧kle z2 x2∧(n2=n1∨n2=2*i+2):=by
    cases hbe:bef x2 x1 with
    | true=>exact ⟨2*i+2,x2,rfl,hx2,QgM hbe,Lg.le_refl _,.inr rfl⟩
    | false=>exact ⟨n1,x1,rfl,hx1,Lg.le_refl _,Qfg hbe,.inl rfl⟩
   rw[hn2,iter,QcX hb hi ho hz2]
   have hfin:(match h[2*i+1+1+1]? with
     | some x=>if 2*i+1+1+1≤2*i+2 then some (.inl (h,c,((if bef x z2=true then 2*i+1+1+1 else n2:Nat):Int),w64 (((2*i+1+1+1:Nat):Int)+1))) else some (.inr (h,c,(n2:Int)))
     | none=>some (.inr (h,c,(n2:Int))):Option ((List It×Int×Int×Int)⊕(List It×Int×Int)))=some (.inr (h,c,(n2:Int))):=by
    cases h[2*i+1+1+1]? with
    | none=>rfl
    | some w=>simp only[];rw[if_neg (by omega)]
   rw[hfin]
   refine ⟨n2,z2,rfl,by omega,hz2,fun j z hj hz=> ?_⟩;rcases hj with rfl | rfl | rfl
   ·rw[hy] at hz;injection hz with hz;subst hz;exact Lg.le_trans hle3 hle1
   ·rw[hx] at hz;injection hz with hz;subst hz;exact Lg.le_trans hle3 hle2
   ·rw[hx2] at hz;injection hz with hz;subst hz;exact hle4
theorem Qh8 {F:Nat} (hF3:3≤F): ∀(d:Nat) (i:Nat) (n:Nat) (h:List It) (c:Int),h.length-i≤d→d<n→i<h.length→h.length<1000000000→okH h→HpD h i →
  ∃h',iter (Yp F) n (h,c,(i:Int))=some ⟨h',c⟩∧h'.Perm h∧Hp h':=by
 intro d
 induction d with
 | zero=>intro i n h c hd _ hl;omega
 | succ d ih =>
  intro i n h c hd hn hl hb ho hh;obtain ⟨n,rfl⟩: ∃f,n=f+1:=⟨n-1,by omega⟩
  obtain ⟨m,x,h1,h2,h3,h4⟩:=Qh9 (c:=c) hF3 hb hl ho;have hml:=QC h3;have hy:h[i]? =some h[i]:=List.getElem?_eq_getElem hl
  generalize h[i]=y at hy
  by_cases hmi:m=i
  ·subst hmi;refine ⟨h,?_,.refl _,hh.stop h3 h4⟩
   rw[iter]
   simp only[Yp,oun,h1,Option.bind_some,decide_true,cond_true,QS]
  ·have hpm:=Qeq hl hml;obtain ⟨h',g1,g2,g3⟩:=ih m n (swp h i m) c (by rw[WU];omega) (by omega) (by rw[WU];exact hml) (by rw[WU];exact hb) (ho.perm hpm) (hh.step hml (by omega) h3 hy h4);refine ⟨h',?_,g2.trans hpm,g3⟩
   rw[iter]
   simp only[Yp,oun,h1,Option.bind_some]
   rw[show decide (((m:Nat):Int)=((i:Nat):Int))=false by simp only[decide_eq_false_iff_not];omega]
   simp only[cond_false]
   rw[QfJ (q:=⟨h,c⟩) hl hml]
   simp only[Option.bind_some,QS]
   exact g1
theorem Qhf {F:Nat} (hF:3≤F) (c:Int):Yr F ⟨[],c⟩=some ⟨[],c⟩:=by
 obtain ⟨F,rfl⟩: ∃f,F=f+3:=⟨F-3,by omega⟩
 unfold Yr
 rw[iter]
 simp only[Yp,oun]
 rw[iter]
 rfl
theorem Qjq (F:Nat) (q:Qu) (h:q.heap=[]):Yz F q=some (⟨0,⟨0,0⟩⟩,false,q):=by
 unfold Yz Zl Zx
 rw[h]
 rfl
theorem Qj1 {F:Nat} {q:Qu} (hF:q.heap.length+3≤F) (hb:q.heap.length<1000000000) (ho:okH q.heap) (hh:Hp q.heap) (hne:q.heap≠[]) :
  ∃(x:It) (q':Qu),Yz F q=some (x.value,true,q')∧(x::q'.heap).Perm q.heap∧Hp q'.heap∧ ∀y∈q.heap,kle x y:=by
 have hpos:0<q.heap.length:=List.length_pos_iff.2 hne;have hx:q.heap[0]? =some q.heap[0]:=List.getElem?_eq_getElem hpos
 generalize q.heap[0]=x at hx
 have hmin: ∀y∈q.heap,kle x y:=fun y hy=>by
  obtain ⟨k,hk⟩:=List.getElem?_of_mem hy;exact hh.root hx k y hk
 have hx':QI q.heap 0=some x:=by simpa [QI] using hx
 have e0:w64 (((q.heap.length:Nat):Int)-1)=((q.heap.length-1:Nat):Int):=by rw[Q6 (by omega) (by omega)];omega
 have hlast:q.heap.length-1<q.heap.length:=by omega
 obtain ⟨s,hs⟩: ∃s,swp q.heap 0 (q.heap.length-1)=s:=⟨_,rfl⟩
 have hsl:s.length=q.heap.length:=by rw[←hs,WU]
 have hsp:s.Perm q.heap:=by rw[←hs];exact Qeq hpos hlast
 have hsx:s[q.heap.length-1]? =some x:=by rw[←hs,QaK hpos hlast,if_pos rfl];exact hx
 have htake:s=s.take (q.heap.length-1)++[x]:=by
  conv=>lhs;rw[←List.take_append_drop (q.heap.length-1) s]
  congr 1
  rw[List.drop_eq_getElem_cons (by omega)]
  rw[List.getElem?_eq_getElem (by omega)] at hsx
  injection hsx with hsx
  rw[hsx,List.drop_of_length_le (by omega)]
 have hperm:(x::s.take (q.heap.length-1)).Perm q.heap:=by
  refine List.Perm.trans ?_ hsp
  conv=>rhs;rw[htake]
  exact (List.perm_append_comm (l₁:=[x]) (l₂:=s.take (q.heap.length-1)))
 have hclr: ∀z:It,WH (QdV s ((q.heap.length-1:Nat):Int) z) 0 ((q.heap.length-1:Nat):Int)=some (s.take (q.heap.length-1)):=by
  intro z
  rw[Vr (by rw[Qdd];omega)]
  unfold QdV
  rw[Int.toNat_natCast,List.take_append_of_le_length (by simp;omega),List.take_take,Nat.min_self]
 have hsub: ∃l,WH s ((q.heap.length-1:Nat):Int) ((s.length:Nat):Int)=some l:=by
  unfold WH;exact ⟨_,if_pos ⟨by omega,by omega,by omega⟩⟩
 obtain ⟨l,hl⟩:=hsub;have hsw:=QfJ (q:=q) hpos hlast
 rw[hs] at hsw
 have main: ∃h',Yr F ⟨s.take (q.heap.length-1),q.count⟩=some ⟨h',q.count⟩∧h'.Perm (s.take (q.heap.length-1))∧Hp h':=by
  by_cases h1:q.heap.length=1
  ·rw[show s.take (q.heap.length-1)=[] by rw[h1];rfl]
   exact ⟨[],Qhf (by omega) _,.refl _,fun k a b _ ha=>by simp at ha⟩
  ·have htl:(s.take (q.heap.length-1)).length=q.heap.length-1:=by rw[List.length_take];omega
   have ho2:okH (s.take (q.heap.length-1)):=fun y hy=>ho y (hperm.mem_iff.1 (List.mem_cons_of_mem _ hy));obtain ⟨h',g1,g2,g3⟩:=Qh8 (F:=F) (by omega) (q.heap.length) 0 F (s.take (q.heap.length-1)) q.count (by omega) (by omega) (by omega) (by omega) ho2 ⟨fun k a b hk hkp ha hb=>by
    have hk2:=QC ha
    rw[htl] at hk2
    rw[List.getElem?_take,if_pos hk2,←hs,QaK hpos hlast,if_neg (by omega),if_neg (by omega)] at ha
    rw[List.getElem?_take,if_pos (by omega),←hs,QaK hpos hlast,if_neg (by omega),if_neg (by omega)] at hb
    exact hh k a b hk ha hb,fun _ _ _ h0=>by omega⟩
   refine ⟨h',?_,g2,g3⟩;unfold Yr
   rw[show (0:Int)=((0:Nat):Int) from rfl,g1]
   rfl
 obtain ⟨h',g1,g2,g3⟩:=main;refine ⟨x,⟨h',q.count⟩,?_,(List.Perm.cons x g2).trans hperm,g3,hmin⟩;unfold Yz Zl Zx
 simp only[Option.bind_some]
 rw[show decide (((q.heap.length:Nat):Int)=0)=false by simp only[decide_eq_false_iff_not];omega]
 simp only[cond_false,hx',Option.bind_some,oun,Bool.not_true,e0]
 rw[show (0:Int)=((0:Nat):Int) from rfl,hsw]
 simp only[Option.bind_some,hl]
 rw[show ((0:Nat):Int)=(0:Int) from rfl,hclr]
 simp only[Option.bind_some,g1]
end Go.Proofs.YtilbengnjgglhaaGreat
namespace Go.Proofs.YtilbengnjgglhaaGreat
open Go.RowKit
set_option linter.unusedSimpArgs false
set_option linter.unusedVariables false
abbrev Ed:=QM
abbrev Rd_:=QA
structure OkR (r:Rd_):Prop where
 n1:1≤r.Nodes
 n2:r.Nodes≤64
 el:r.Edges.length≤512
 ed: ∀x∈r.Edges,Wl r x
theorem OkR.of {r:Rd_} (h:VM r=0):OkR r:=let ⟨a,b,c,d⟩:=Qen h;⟨a,b,c,d⟩
def ZY (l:Lg) (x:Ed):Lg:=⟨l.Secs+x.Secs,l.Meters+x.Meters⟩
theorem QjD {l:Lg} {x:Ed} (h:1≤x.Secs):Lg.lt l (ZY l x):=by unfold Lg.lt ZY;simp only[];omega
theorem QcI {a b:Lg} {x:Ed} (h:Lg.le a b):Lg.le (ZY a x) (ZY b x):=by unfold Lg.le ZY at *;simp only[];omega
theorem Lg.lt_irrefl {a:Lg}: ¬Lg.lt a a:=by unfold Lg.lt;omega
theorem Lg.lt_of_lt_le {a b c:Lg} (h:Lg.lt a b) (h2:Lg.le b c):Lg.lt a c:=by unfold Lg.lt Lg.le at *;omega
theorem Lg.lt_of_le_lt {a b c:Lg} (h:Lg.le a b) (h2:Lg.lt b c):Lg.lt a c:=by unfold Lg.lt Lg.le at *;omega
theorem Lg.lt_of_le_ne {a b:Lg} (h:Lg.le a b) (h2:a≠b):Lg.lt a b:=by
 cases a;cases b;unfold Lg.lt Lg.le at *
 simp only[ne_eq,Qc.mk.injEq] at *
 omega
theorem Lg.antisymm {a b:Lg} (h:Lg.le a b) (h2:Lg.le b a):a=b:=by
 cases a;cases b;unfold Lg.le at *
 simp only[Qc.mk.injEq] at *
 omega
inductive Wk (r:Rd_) (s:Int):Nat→Int→Lg→Prop
 | nil:Wk r s 0 s ⟨0,0⟩
 | cons {k:Nat} {a:Int} {l:Lg} {x:Ed} (h:Wk r s k a l) (hx:x∈r.Edges) (ha:x.From=a):Wk r s (k+1) x.To (ZY l x)
theorem Wk.bound {r:Rd_} {s:Int} (hr:OkR r): ∀{k:Nat} {n:Int} {l:Lg},Wk r s k n l→0≤l.Secs∧l.Secs≤k*100000∧0≤l.Meters∧l.Meters≤k*100000
 | _,_,_,.nil=>by simp
 | _,_,_,.cons h hx ha=>by
  have h1:=h.bound hr;have h2:=hr.ed _ hx;unfold Wl at h2;unfold ZY
  simp only[]
  omega
theorem Wk.node {r:Rd_} {s:Int} (hr:OkR r) (hs:0≤s∧s<r.Nodes): ∀{k:Nat} {n:Int} {l:Lg},Wk r s k n l→0≤n∧n<r.Nodes
 | _,_,_,.nil=>hs
 | _,_,_,.cons h hx ha=>by
  have h2:=hr.ed _ hx;unfold Wl at h2
  omega
def lab (out:List Lg) (n:Int):Lg:=(QI out n).getD noL
theorem WZ {out:List Lg} {n:Int} (h0:0≤n) (h1:n<(out.length:Nat)):QI out n=some (lab out n):=by
 obtain ⟨x,hx⟩:=Qfp h0 h1;unfold lab
 rw[hx];rfl
theorem Qbx {out:List Lg} {b n:Int} {l:Lg} (h0:0≤b) (h1:b<(out.length:Nat)) (hn:0≤n):lab (ZS out b l) n=if n=b then l else lab out n:=by
 unfold lab ZS QI
 simp only[hn,if_true]
 rw[List.getElem?_set]
 by_cases h:n=b
 ·subst h
  simp only[if_true]
  rw[if_pos (by omega)];rfl
 ·rw[if_neg h,if_neg (by omega)]
theorem QcC (out:List Lg) (b:Int) (l:Lg):(ZS out b l).length=out.length:=by simp[ZS]
structure Dj (r:Rd_) (s:Int) (M:Nat) (S:List Int) (W:Nat) (b:Lg) (cur:Int) (j:Nat) (out:List Lg) (h:List It):Prop where
 len:((out.length:Nat):Int)=r.Nodes
 hp:Hp h
 lenh:h.length≤M
 it: ∀y∈h,0≤y.value.node∧y.value.node<r.Nodes∧Lg.le b y.value.leg∧0≤(lab out y.value.node).Secs∧Lg.le (lab out y.value.node) y.value.leg
 nd:(h.map fun y=>(y.value.node,y.value.leg)).Nodup
 lb: ∀n,0≤n→n<r.Nodes→lab out n=noL∨ ∃k,k≤W∧Wk r s k n (lab out n)
 src:lab out s=⟨0,0⟩
 pend: ∀n,0≤n→n<r.Nodes→n∉S→lab out n≠noL→ ∃y∈h,y.value.node=n∧y.value.leg=lab out n
 sn:S.Nodup
 sr: ∀n∈S,0≤n∧n<r.Nodes
 dn: ∀n∈S,0≤(lab out n).Secs∧Lg.le (lab out n) b
 st: ∀y∈h,y.value.node∈S→Lg.lt (lab out y.value.node) y.value.leg
 bs:0≤b.Secs
 edge: ∀n∈S,∀x∈(if n=cur then r.Edges.take j else r.Edges),x.From=n→0≤(lab out x.To).Secs∧Lg.le (lab out x.To) (ZY (lab out n) x)
theorem Dj.okH {r:Rd_} {s:Int} {M:Nat} {S:List Int} {W:Nat} {b:Lg} {cur:Int} {j:Nat} {out:List Lg} {h:List It} (d:Dj r s M S W b cur j out h):okH h:=fun y hy=>by
 have h1:=d.it y hy;have h2:=d.bs;unfold okI;have h3:=h1.2.2.1;unfold Lg.le at h3
 omega
theorem Qfz {l:Lg} (h:0≤l.Secs):l≠noL:=by intro e;rw[e] at h;exact absurd h (by decide)
theorem QdG {r:Rd_} {s:Int} {W:Nat} (hr:OkR r) {l:Lg} {n:Int} (h:l=noL∨ ∃k,k≤W∧Wk r s k n l) (hne:l≠noL): ∃k,k≤W∧Wk r s k n l∧0≤l.Secs:=by
 rcases h with h | ⟨k,h1,h2⟩
 ·exact absurd h hne
 ·exact ⟨k,h1,h2,(h2.bound hr).1⟩
theorem V1 {α:Type} {l:List α} {j:Nat} {x y:α} (hx:l[j]? =some x) (hy:y∈l.take (j+1)):y∈l.take j∨y=x:=by
 rw[QaL hx] at hy
 rcases List.mem_append.1 hy with h | h
 ·exact .inl h
 ·exact .inr (List.mem_singleton.1 h)
theorem Dj.skip {r:Rd_} {s:Int} {M:Nat} {S:List Int} {W:Nat} {b:Lg} {cur:Int} {j:Nat} {out:List Lg} {h:List It} {x:Ed} (d:Dj r s M S W b cur j out h) (hx:r.Edges[j]? =some x)
  (hc:x.From=cur→0≤(lab out x.To).Secs∧Lg.le (lab out x.To) (ZY (lab out cur) x)):Dj r s (M+1) S W b cur (j+1) out h:=by
 refine { d with lenh:=by have:=d.lenh;omega,edge:=fun n hn y hy hf=> ?_ }
 by_cases hnc:n=cur
 ·rw[if_pos hnc] at hy
  rcases V1 hx hy with h1 | h1
  ·exact d.edge n hn y (by rw[if_pos hnc];exact h1) hf
  ·subst h1
   rw[hnc]
   exact hc (by rw[hf,hnc])
 ·rw[if_neg hnc] at hy
  exact d.edge n hn y (by rw[if_neg hnc];exact hy) hf
theorem Dj.take {r:Rd_} {s:Int} {M:Nat} {S:List Int} {W:Nat} {b:Lg} {cur:Int} {j:Nat} {out:List Lg} {h h':List It} {x:Ed} {c:Int} (hr:OkR r) (hs:0≤s∧s<r.Nodes) (d:Dj r s M S W b cur j out h) (hx:r.Edges[j]? =some x)
  (hcur:lab out cur=b) (hcs:cur∈S) (hf:x.From=cur) (hk: ∃k,k+1≤W∧Wk r s k cur (lab out cur)) (hb:lab out x.To=noL∨Lg.lt (ZY b x) (lab out x.To))
  (hp:h'.Perm (h++[⟨⟨x.To,ZY b x⟩,c⟩])) (hh:Hp h'):Dj r s (M+1) S W b cur (j+1) (ZS out x.To (ZY b x)) h':=by
 have hok:=hr.ed x (List.mem_of_getElem? hx);unfold Wl at hok;have hlen:=d.len;have hto0:0≤x.To:=by omega
 have hto1:x.To<((out.length:Nat):Int):=by omega
 have hbx:Lg.lt b (ZY b x):=QjD (by omega);have hset: ∀n,0≤n→lab (ZS out x.To (ZY b x)) n=if n=x.To then ZY b x else lab out n:=fun n hn=>Qbx hto0 hto1 hn
 have hself:lab (ZS out x.To (ZY b x)) x.To=ZY b x:=by rw[hset _ hto0,if_pos rfl]
 have hbs:=d.bs;have hxs:0≤(ZY b x).Secs:=by unfold ZY;simp only[];omega
 have hnS:x.To∉S:=fun hm=>by
  have h1:=d.dn _ hm;rcases hb with h2 | h2
  ·rw[h2] at h1;exact absurd h1.1 (by decide)
  ·exact Lg.lt_irrefl (Lg.lt_of_lt_le (Lg.lt_of_lt_le (Lg.lt_of_le_lt h1.2 hbx) (Lg.le_of_lt h2)) (Lg.le_refl _))
 have hne: ∀n∈S,n≠x.To:=fun n hn e=>hnS (e▸hn);have hold: ∀n∈S,lab (ZS out x.To (ZY b x)) n=lab out n:=fun n hn=>by rw[hset _ (d.sr n hn).1,if_neg (hne n hn)]
 have hsrc:s≠x.To:=fun e=>by
  have h1:=d.src
  rw[e] at h1
  rcases hb with h2 | h2
  ·rw[h1] at h2;cases h2
  ·rw[h1] at h2
   unfold Lg.lt ZY at h2
   simp only[] at h2
   omega
 have hmem: ∀y,y∈h'↔y∈h∨y=⟨⟨x.To,ZY b x⟩,c⟩:=fun y=>by rw[hp.mem_iff];simp
 have himp: ∀n,0≤n→0≤(lab out n).Secs→0≤(lab (ZS out x.To (ZY b x)) n).Secs∧Lg.le (lab (ZS out x.To (ZY b x)) n) (lab out n):=fun n hn h0=>by
  rw[hset n hn]
  by_cases h1:n=x.To
  ·subst h1
   rw[if_pos rfl]
   rcases hb with h2 | h2
   ·rw[h2] at h0;exact absurd h0 (by decide)
   ·exact ⟨hxs,Lg.le_of_lt h2⟩
  ·rw[if_neg h1];exact ⟨h0,Lg.le_refl _⟩
 refine { len:=by rw[QcC];exact hlen,hp:=hh,lenh:= ?_,it:= ?_,nd:= ?_,lb:= ?_,src:= ?_,pend:= ?_,sn:=d.sn,sr:=d.sr,dn:= ?_,st:= ?_,bs:=d.bs,edge:= ?_ }
 ·rw[hp.length_eq,List.length_append,List.length_singleton];have:=d.lenh;omega
 ·intro y hy;rcases (hmem y).1 hy with h1 | h1
  ·have h2:=d.it y h1;have h3:=himp _ h2.1 h2.2.2.2.1;exact ⟨h2.1,h2.2.1,h2.2.2.1,h3.1,Lg.le_trans h3.2 h2.2.2.2.2⟩
  ·subst h1
   simp only[]
   rw[hself]
   exact ⟨hto0,by omega,Lg.le_of_lt hbx,hxs,Lg.le_refl _⟩
 ·rw[(hp.map _).nodup_iff,List.map_append,List.nodup_append]
  refine ⟨d.nd,by simp,fun p hp1 q hq=> ?_⟩
  simp only[List.map_cons,List.map_nil,List.mem_singleton] at hq
  subst hq;obtain ⟨y,hy,rfl⟩:=List.mem_map.1 hp1;intro e;injection e with e1 e2
  have h2:=d.it y hy
  rw[e1,e2] at h2
  rcases hb with h3 | h3
  ·rw[h3] at h2;exact absurd h2.2.2.2.1 (by decide)
  ·exact Lg.lt_irrefl (Lg.lt_of_lt_le h3 h2.2.2.2.2)
 ·intro n h0 h1
  rw[hset n h0]
  by_cases h2:n=x.To
  ·subst h2
   rw[if_pos rfl]
   obtain ⟨k,hk1,hk2⟩:=hk;refine .inr ⟨k+1,hk1,?_⟩
   rw[←hcur]
   exact .cons hk2 (List.mem_of_getElem? hx) hf
  ·rw[if_neg h2];exact d.lb n h0 h1
 ·rw[hset s hs.1,if_neg hsrc];exact d.src
 ·intro n h0 h1 h2 h3
  rw[hset n h0] at h3 ⊢
  by_cases h4:n=x.To
  ·rw[if_pos h4]
   exact ⟨_,(hmem _).2 (.inr rfl),h4.symm,rfl⟩
  ·rw[if_neg h4] at h3 ⊢
   obtain ⟨y,hy,h5⟩:=d.pend n h0 h1 h2 h3;exact ⟨y,(hmem y).2 (.inl hy),h5⟩
 ·intro n hn
  rw[hold n hn];exact d.dn n hn
 ·intro y hy hyS;rcases (hmem y).1 hy with h1 | h1
  ·rw[hold _ hyS];exact d.st y h1 hyS
  ·subst h1;exact absurd hyS hnS
 ·intro n hn y hy hfy;have hyE:y∈r.Edges:=by
   split at hy
   ·exact List.mem_of_mem_take hy
   ·exact hy
  have hyok:=hr.ed y hyE;unfold Wl at hyok;have h5:(y=x∧n=cur)∨y∈(if n=cur then r.Edges.take j else r.Edges):=by
   by_cases hnc:n=cur
   ·rw[if_pos hnc] at hy ⊢
    rcases V1 hx hy with h1 | h1
    ·exact .inr h1
    ·exact .inl ⟨h1,hnc⟩
   ·rw[if_neg hnc] at hy ⊢
    exact .inr hy
  rw[hold n hn]
  rcases h5 with ⟨rfl,rfl⟩ | h5
  ·rw[hself,hcur];exact ⟨hxs,Lg.le_refl _⟩
  ·have h6:=d.edge n hn y h5 hfy;have h7:=himp y.To (by omega) h6.1;exact ⟨h7.1,Lg.le_trans h7.2 h6.2⟩
end Go.Proofs.YtilbengnjgglhaaGreat
