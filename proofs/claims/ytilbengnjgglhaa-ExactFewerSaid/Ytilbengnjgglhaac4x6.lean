/- ExactFewer: for every input the given law returns true, and its arguments read as before. No condition. -/
import Derived.Test.Ytilbengnjgglhaac4x1
import Derived.Test.Ytilbengnjgglhaac4x3
import Derived.Test.Ytilbengnjgglhaac4x5
import Derived.Test.Ytilbengnjgglhaac4x2
namespace Go.Proofs.Ytilbengnjgglhaa
open Go.RowKit
set_option linter.unusedSimpArgs false
set_option linter.unusedVariables false
set_option maxHeartbeats 2000000
set_option maxRecDepth 4000
attribute [local irreducible] WP YF Wf Fn AN Upd vcR vcO QaJ Zb YY WK WJ Qaq VX ZQ Qag QK KS
variable {μ:Gh} {L:List Seg} {R:Value→Gh→List Seg→Prop}
theorem Qai {F:Nat} {left1:Int} {b1:Unit} {b2:Qc} {b3:Int} {b4:Bool} {b5:Int} {b6:Qf} {b7:(List Int)} {b8:(List Int)} {b9:(List Bool)} {b10:Unit} {g1:Nat} {g2:Nat} {A1:Option Addr} {c1:Nat} {A2:Option Addr} {c2:Nat} {A3:Option Addr} {c3:Nat} {g3:Nat} {g4:Nat} {g5:Nat} {g6:Nat} {A4:Option Addr} {c4:Nat} {pv1:Value} {so1:Seg} {g7:Nat} {A5:Option Addr} {c5:Nat} {pv2:Value} {so2:Seg} {g8:Nat} {res1:Bool} {res2:Int} {res3:Qf} {res4:(List Int)} {res5:(List Bool)}
  (hl1:b2.Road.Edges.length≤c1∧c1≤maxLen) (hA1:Qn QE μ A1 b2.Road.Edges) (hl2:b2.Vehicles.length≤c2∧c2≤maxLen) (hA2:Qn Qv μ A2 b2.Vehicles) (hl3:b2.Demands.length≤c3∧c3≤maxLen) (hA3:Qn Qw μ A3 b2.Demands) (hl4:b6.Stops.length≤c4∧c4≤maxLen) (hA4:Qn QV μ A4 b6.Stops) (hP1:QI μ pv1 b7 so1) (hl5:b8.length≤c5∧c5≤maxLen) (hA5:Qn QV μ A5 b8) (hP2:Y7 μ pv2 b9 so2) (h:Yn F left1 b1 b2 b3 b4 b5 b6 b7 b8 b9 b10=some (res1,res2,res3,res4,res5))
  (hR: ∀(μ':Gh) (Ab5_1:Option Addr) (cb5_1:Nat) (sp6:Seg) (sp8:Seg),μ.le μ'→(res3.Stops.length≤cb5_1∧cb5_1≤maxLen)→Qn QV μ' Ab5_1 res3.Stops→QI μ' pv1 res4 sp6→Y7 μ' pv2 res5 sp8→R (.tuple #[]) μ' ([(g1,.cells #[.func (.func 29) #[] #[.pointer (some ⟨g2,0,none⟩),.pointer (some ⟨g3,0,none⟩),.pointer (some ⟨g4,0,none⟩),.pointer (some ⟨g5,0,none⟩),.pointer (some ⟨g6,0,none⟩)]] 85 (0,0))]::[(g2,.cells #[.int .i64 b2.Road.Nodes,.slice A1 b2.Road.Edges.length c1,.slice A2 b2.Vehicles.length c2,.slice A3 b2.Demands.length c3,.int .i64 b2.Unload,.int .i64 b2.UnloadSecs] 28 (0,0))]::[(g3,.cells #[.int .i64 b3] 3 (0,0))]::[(g4,.cells #[.bool res1] 4 (0,0))]::[(g5,.cells #[.int .i64 res2] 3 (0,0))]::[(g6,.cells #[.int .i64 res3.Vehicle,.slice Ab5_1 res3.Stops.length cb5_1] 37 (0,0))]::sp6::[(g7,.cells #[.slice A5 b8.length c5] 29 (0,0))]::sp8::[(g8,.cells #[.func (.func 42) #[] #[.pointer (some ⟨g1,0,none⟩),pv1,.pointer (some ⟨g7,0,none⟩),pv2,.pointer (some ⟨g8,0,none⟩)]] 95 (0,0))]::L)) :
  Fn Try.prog 42 [.int .i64 left1,.pointer (some ⟨g1,0,none⟩),pv1,.pointer (some ⟨g7,0,none⟩),pv2,.pointer (some ⟨g8,0,none⟩)] μ ([(g1,.cells #[.func (.func 29) #[] #[.pointer (some ⟨g2,0,none⟩),.pointer (some ⟨g3,0,none⟩),.pointer (some ⟨g4,0,none⟩),.pointer (some ⟨g5,0,none⟩),.pointer (some ⟨g6,0,none⟩)]] 85 (0,0))]::[(g2,.cells #[.int .i64 b2.Road.Nodes,.slice A1 b2.Road.Edges.length c1,.slice A2 b2.Vehicles.length c2,.slice A3 b2.Demands.length c3,.int .i64 b2.Unload,.int .i64 b2.UnloadSecs] 28 (0,0))]::[(g3,.cells #[.int .i64 b3] 3 (0,0))]::[(g4,.cells #[.bool b4] 4 (0,0))]::[(g5,.cells #[.int .i64 b5] 3 (0,0))]::[(g6,.cells #[.int .i64 b6.Vehicle,.slice A4 b6.Stops.length c4] 37 (0,0))]::so1::[(g7,.cells #[.slice A5 b8.length c5] 29 (0,0))]::so2::[(g8,.cells #[.func (.func 42) #[] #[.pointer (some ⟨g1,0,none⟩),pv1,.pointer (some ⟨g7,0,none⟩),pv2,.pointer (some ⟨g8,0,none⟩)]] 95 (0,0))]::L) R:=by
 induction F generalizing μ L R left1 b1 b2 b3 b4 b5 b6 b7 b8 b9 b10 g1 g2 A1 c1 A2 c2 A3 c3 g3 g4 g5 g6 A4 c4 pv1 so1 g7 A5 c5 pv2 so2 g8 res1 res2 res3 res4 res5 with
 | zero=>cases h
 | succ F ih =>
 unfold Yn ZF at h;refine FnS Try.func42 (by kernel_rfl) E Try.ntmps42 E E ?_;refine G0 6 E ?_;refine Br h 11 E E (fun hc1 h=> ?_) (fun hc1 h=> ?_)
 ·obtain ⟨g9,A6,c6,ch1,hv1,rfl,hO1⟩:=hP1;subst hv1;refine G2 2 [11] [] [] E (In QI.fl 6 11 E E E (G1 3 [0,6] E (Cl E (Fn.gp (L2:=([(g2,.cells #[.int .i64 b2.Road.Nodes,.slice A1 b2.Road.Edges.length c1,.slice A2 b2.Vehicles.length c2,.slice A3 b2.Demands.length c3,.int .i64 b2.Unload,.int .i64 b2.UnloadSecs] 28 (0,0))]::[(g3,.cells #[.int .i64 b3] 3 (0,0))]::[(g4,.cells #[.bool b4] 4 (0,0))]::[(g5,.cells #[.int .i64 b5] 3 (0,0))]::[(g6,.cells #[.int .i64 b6.Vehicle,.slice A4 b6.Stops.length c4] 37 (0,0))]::[(g1,.cells #[.func (.func 29) #[] #[.pointer (some ⟨g2,0,none⟩),.pointer (some ⟨g3,0,none⟩),.pointer (some ⟨g4,0,none⟩),.pointer (some ⟨g5,0,none⟩),.pointer (some ⟨g6,0,none⟩)]] 85 (0,0))]::[(g9,.cells #[.slice A6 b7.length c6] 29 (0,0))]::ch1::[(g7,.cells #[.slice A5 b8.length c5] 29 (0,0))]::so2::[(g8,.cells #[.func (.func 42) #[] #[.pointer (some ⟨g1,0,none⟩),.pointer (some ⟨g9,0,none⟩),.pointer (some ⟨g7,0,none⟩),pv2,.pointer (some ⟨g8,0,none⟩)]] 95 (0,0))]::L)) [[1],[2],[3],[4],[5],[0],[6],[7],[8],[9],[10]] 11 11 (by kernel_rfl) ?_))));obtain ⟨⟨r1,r2,r3⟩,hx1,h⟩:=Qg h;replace h:=Qi h;replace h:=Qi h;refine QcH (Own.lenOk hO1) (Own.rds hO1 2 E) hl1 hA1 hl2 hA2 hl3 hA3 hl4 hA4 hx1 (fun _ A7 c7 hm_1 hl6 hA6=> ?_);replace hA1:=hA1.mono hm_1;replace hA2:=hA2.mono hm_1;replace hA3:=hA3.mono hm_1;replace hA4:=hA4.mono hm_1;replace hA5:=hA5.mono hm_1;replace hP2:=hP2.mono hm_1;replace hO1:=hO1.mono hm_1;refine Q0 1 E (Rt [] E E (UgK (L2:=([(g1,.cells #[.func (.func 29) #[] #[.pointer (some ⟨g2,0,none⟩),.pointer (some ⟨g3,0,none⟩),.pointer (some ⟨g4,0,none⟩),.pointer (some ⟨g5,0,none⟩),.pointer (some ⟨g6,0,none⟩)]] 85 (0,0))]::[(g2,.cells #[.int .i64 b2.Road.Nodes,.slice A1 b2.Road.Edges.length c1,.slice A2 b2.Vehicles.length c2,.slice A3 b2.Demands.length c3,.int .i64 b2.Unload,.int .i64 b2.UnloadSecs] 28 (0,0))]::[(g3,.cells #[.int .i64 b3] 3 (0,0))]::[(g4,.cells #[.bool r1] 4 (0,0))]::[(g5,.cells #[.int .i64 r2] 3 (0,0))]::[(g6,.cells #[.int .i64 r3.Vehicle,.slice A7 r3.Stops.length c7] 37 (0,0))]::([(g9,.cells #[.slice A6 b7.length c6] 29 (0,0))]++ch1)::[(g7,.cells #[.slice A5 b8.length c5] 29 (0,0))]::so2::[(g8,.cells #[.func (.func 42) #[] #[.pointer (some ⟨g1,0,none⟩),.pointer (some ⟨g9,0,none⟩),.pointer (some ⟨g7,0,none⟩),pv2,.pointer (some ⟨g8,0,none⟩)]] 95 (0,0))]::L)) [[5],[0],[1],[2],[3],[4],[6,7],[8],[9],[10]] 11 (by kernel_rfl) ?_));cases h;exact ((hR _ A7 c7 _ _ hm_1 hl6 hA6 ⟨g9,A6,c6,ch1,rfl,rfl,hO1⟩ hP2))
 obtain ⟨g10,A8,c8,ch2,hv2,rfl,hO2⟩:=hP1;subst hv2;refine G2 3 [] [11] [] E (In QI.fl 6 11 E E E ?_);obtain ⟨g11,A9,c9,ch3,hv3,rfl,hO3⟩:=hP2;subst hv3;refine G1 11 [6,8] E (In Y7.fl 9 12 E E E ?_);refine Cut h (fun f l o_ f_ μ_ l_=> ∃(f13:Bool) (f14:Int) (f15:Int) (f16:(List Int)) (f17:(List Int)) (f18:(List Bool)) (A23:Option Addr) (c23:Nat) (A24:Option Addr) (c24:Nat) (ch15:Seg) (A25:Option Addr) (c25:Nat) (ch16:Seg),(f13,f14,f15,f16,f17,f18)=o_∧Qm ([]) f_∧Qe ([(g1,.cells #[.func (.func 29) #[] #[.pointer (some ⟨g2,0,none⟩),.pointer (some ⟨g3,0,none⟩),.pointer (some ⟨g4,0,none⟩),.pointer (some ⟨g5,0,none⟩),.pointer (some ⟨g6,0,none⟩)]] 85 (0,0))]::[(g2,.cells #[.int .i64 b2.Road.Nodes,.slice A1 b2.Road.Edges.length c1,.slice A2 b2.Vehicles.length c2,.slice A3 b2.Demands.length c3,.int .i64 b2.Unload,.int .i64 b2.UnloadSecs] 28 (0,0))]::[(g3,.cells #[.int .i64 b3] 3 (0,0))]::[(g4,.cells #[.bool f13] 4 (0,0))]::[(g5,.cells #[.int .i64 f14] 3 (0,0))]::[(g6,.cells #[.int .i64 f15,.slice A23 f16.length c23] 37 (0,0))]::[(g10,.cells #[.slice A24 f17.length c24] 29 (0,0))]::ch15::[(g7,.cells #[.slice A5 b8.length c5] 29 (0,0))]::[(g11,.cells #[.slice A25 f18.length c25] 94 (0,0))]::ch16::Yr [] 11 l) l_∧(f16.length≤c23∧c23≤maxLen)∧Qn QV μ_ A23 f16∧Own QV 3 μ_ (.slice A24 f17.length c24) f17 ch15∧Own Qdt 4 μ_ (.slice A25 f18.length c25) f18 ch16) ?_ ?_
 ·intro _ h5987 h;refine Lp h5987 (fun f l (j_:(List Int)×(List Bool)×Bool×Int×Int×(List Int)×Int) f_ μ_ l_=>WT j_ fun f1 j_=>WT j_ fun f2 j_=>WT j_ fun f3 j_=>WT j_ fun f4 j_=>WT j_ fun f5 j_=>WT j_ fun f6 v2=> ∃(A10:Option Addr) (c10:Nat) (ch4:Seg) (A11:Option Addr) (c11:Nat) (ch5:Seg) (A12:Option Addr) (c12:Nat),Qm ((19,.int .i64 v2)::QD [0,2,4,5,7,17,18] f) f_∧Qe ([(g10,.cells #[.slice A10 f1.length c10] 29 (0,0))]::ch4::[(g11,.cells #[.slice A11 f2.length c11] 94 (0,0))]::ch5::[(g8,.cells #[.func (.func 42) #[] #[.pointer (some ⟨g1,0,none⟩),.pointer (some ⟨g10,0,none⟩),.pointer (some ⟨g7,0,none⟩),.pointer (some ⟨g11,0,none⟩),.pointer (some ⟨g8,0,none⟩)]] 95 (0,0))]::[(g1,.cells #[.func (.func 29) #[] #[.pointer (some ⟨g2,0,none⟩),.pointer (some ⟨g3,0,none⟩),.pointer (some ⟨g4,0,none⟩),.pointer (some ⟨g5,0,none⟩),.pointer (some ⟨g6,0,none⟩)]] 85 (0,0))]::[(g2,.cells #[.int .i64 b2.Road.Nodes,.slice A1 b2.Road.Edges.length c1,.slice A2 b2.Vehicles.length c2,.slice A3 b2.Demands.length c3,.int .i64 b2.Unload,.int .i64 b2.UnloadSecs] 28 (0,0))]::[(g3,.cells #[.int .i64 b3] 3 (0,0))]::[(g4,.cells #[.bool f3] 4 (0,0))]::[(g5,.cells #[.int .i64 f4] 3 (0,0))]::[(g6,.cells #[.int .i64 f5,.slice A12 f6.length c12] 37 (0,0))]::Yr [some 8] 12 l) l_∧Own QV 3 μ_ (.slice A10 f1.length c10) f1 ch4∧Own Qdt 4 μ_ (.slice A11 f2.length c11) f2 ch5∧(f6.length≤c12∧c12≤maxLen)∧Qn QV μ_ A12 f6) ⟨A8,c8,ch2,A9,c9,ch3,A4,c4,fE E,sE [some 6,some 7,some 9,some 10,some 11,some 0,some 1,some 2,some 3,some 4,some 5,some 8] 12 E,(hO2),(hO3),(hl4),(hA4)⟩ ?_;rintro ⟨f1,f2,f3,f4,f5,f6,v2⟩ _ _ μ6546 _ hm6546 ⟨A10,c10,ch4,A11,c11,ch5,A12,c12,hF6546,hS6546,hO4,hO5,hl7,hA7⟩ hb6546 hq6546;unfold Yg at hb6546;replace hb6546:=Qi hb6546;replace hb6546:=Qi hb6546;replace hb6546:=Qi hb6546;replace hb6546:=Qi hb6546;replace hb6546:=Qi hb6546;replace hb6546:=Qi hb6546;replace hA1:=hA1.mono hm6546;replace hA2:=hA2.mono hm6546;replace hA3:=hA3.mono hm6546;replace hA5:=hA5.mono hm6546;refine Atn 12 hF6546 hS6546 E E (G0 5 E ?_);refine Br hb6546 20 E E (fun hc2 hb6546=> ?_) (fun hc2 hb6546=> ?_)
  ·refine G2 3 [20] [] [] E ?_;refine Cut hb6546 (fun f l o_ f_ μ_ l_=> ∃(f7:(List Int)) (f8:(List Bool)) (f9:Bool) (f10:Int) (f11:Int) (f12:(List Int)) (A20:Option Addr) (c20:Nat) (ch13:Seg) (A21:Option Addr) (c21:Nat) (ch14:Seg) (A22:Option Addr) (c22:Nat),(f7,f8,f9,f10,f11,f12)=o_∧Qm (QD [0,2,4,5,7,17,18,19] f) f_∧Qe ([(g10,.cells #[.slice A20 f7.length c20] 29 (0,0))]::ch13::[(g11,.cells #[.slice A21 f8.length c21] 94 (0,0))]::ch14::[(g8,.cells #[.func (.func 42) #[] #[.pointer (some ⟨g1,0,none⟩),.pointer (some ⟨g10,0,none⟩),.pointer (some ⟨g7,0,none⟩),.pointer (some ⟨g11,0,none⟩),.pointer (some ⟨g8,0,none⟩)]] 95 (0,0))]::[(g1,.cells #[.func (.func 29) #[] #[.pointer (some ⟨g2,0,none⟩),.pointer (some ⟨g3,0,none⟩),.pointer (some ⟨g4,0,none⟩),.pointer (some ⟨g5,0,none⟩),.pointer (some ⟨g6,0,none⟩)]] 85 (0,0))]::[(g2,.cells #[.int .i64 b2.Road.Nodes,.slice A1 b2.Road.Edges.length c1,.slice A2 b2.Vehicles.length c2,.slice A3 b2.Demands.length c3,.int .i64 b2.Unload,.int .i64 b2.UnloadSecs] 28 (0,0))]::[(g3,.cells #[.int .i64 b3] 3 (0,0))]::[(g4,.cells #[.bool f9] 4 (0,0))]::[(g5,.cells #[.int .i64 f10] 3 (0,0))]::[(g6,.cells #[.int .i64 f11,.slice A22 f12.length c22] 37 (0,0))]::Yr [] 11 l) l_∧Own QV 3 μ_ (.slice A20 f7.length c20) f7 ch13∧Own Qdt 4 μ_ (.slice A21 f8.length c21) f8 ch14∧(f12.length≤c22∧c22≤maxLen)∧Qn QV μ_ A22 f12) ?_ ?_
   ·intro _ h6581 hb6546;refine G0 4 E (Ix h6581 (Qn.rds hA5 L) E E fun x1 _ _ _ hr1 hc3 _ h6581=> ?_);obtain rfl:=hr1;refine Q3 9 [] [] [64,2] (Z1 (hc3.push.push.push.push.push.push.push.push.push.push.push.push)) E (IxA h6581 (Own.rds hO5 3 E) E E fun _ _ _ _ hr2 hc4 _ h6581=> ?_);obtain rfl:=hr2;refine Q3 2 [] [] [64] (Z1 hc4) E ?_;refine Br h6581 27 E E (fun hc5 h6581=> ?_) (fun hc5 h6581=> ?_)
    ·refine G2 2 [27] [] [] E ?_;cases h6581;exact Ce E ⟨_,_,_,_,_,_,A10,c10,ch4,A11,c11,ch5,A12,c12,rfl,fE E,sE [some 0,some 1,some 2,some 3,some 4,some 5,some 6,some 7,some 8,some 9,some 10,some 11] 12 E,(hO4),(hO5),(hl7),(hA7)⟩
    refine G2 6 [] [27] [2] E (IxA h6581 (Own.rds hO5 3 E) E E fun _ a3 _ hx4 hr3 _ hA10 h6581=> ?_);obtain rfl:=hr3;refine Q0 0 E (So E (YM (vs:=[.bool true]) E E E E E E ?_))
    rw[←Addr.add_zero' ((a3.add (v2.toNat*1)))]
    refine Own.store (μ:=μ6546) (r:=Qdt) (x':=true) (o:=0) (sz:=1) 3 rfl hO5 hA10 hx4 rfl rfl (by rintro _ rfl;rfl) fun ch6 hO6=> ?_
    rw[←Jp f2 v2 true] at hO6 ⊢
    obtain ⟨_,hs1,h6581⟩:=Qg h6581;refine Q1 5 [0] E (Rdo E E (WN E E E E E E (Own.lenOk hO4).1 hs1 ?_));have hA11:=Rds.pre (Own.rds (L:=([(g10,.cells #[.slice A10 f1.length c10] 29 (0,0))]::ch4::[(g11,.cells #[.slice A11 ((Zw f2 v2 true).length) c11] 94 (0,0))]::ch6::[(g8,.cells #[.func (.func 42) #[] #[.pointer (some ⟨g1,0,none⟩),.pointer (some ⟨g10,0,none⟩),.pointer (some ⟨g7,0,none⟩),.pointer (some ⟨g11,0,none⟩),.pointer (some ⟨g8,0,none⟩)]] 95 (0,0))]::[(g1,.cells #[.func (.func 29) #[] #[.pointer (some ⟨g2,0,none⟩),.pointer (some ⟨g3,0,none⟩),.pointer (some ⟨g4,0,none⟩),.pointer (some ⟨g5,0,none⟩),.pointer (some ⟨g6,0,none⟩)]] 85 (0,0))]::[(g2,.cells #[.int .i64 b2.Road.Nodes,.slice A1 b2.Road.Edges.length c1,.slice A2 b2.Vehicles.length c2,.slice A3 b2.Demands.length c3,.int .i64 b2.Unload,.int .i64 b2.UnloadSecs] 28 (0,0))]::[(g3,.cells #[.int .i64 b3] 3 (0,0))]::[(g4,.cells #[.bool f3] 4 (0,0))]::[(g5,.cells #[.int .i64 f4] 3 (0,0))]::[(g6,.cells #[.int .i64 f5,.slice A12 f6.length c12] 37 (0,0))]::[(g7,.cells #[.slice A5 b8.length c5] 29 (0,0))]::L)) hO4 1 rfl) hs1;have hl8:=V4 (Own.lenOk hO4) hs1;refine Q0 1 E (So E (Jk (z:=[.int .i64 0]) E E E E E E E (QQ (cells':=[.int .i64 x1]) E E E E (Z5 (fun g12=>Q0 0 E (So E (ZR E ?_)))))));have hO7:=Own.cut hO4 hs1;obtain ⟨l2,hz1,h6581⟩:=Qg h6581;refine Jv (r:=QV) YB E E E E (by decide) E E 2 E hO7 E (Own.rds (Own.lit (r:=QV) (e:=3) (g:=g12) (xs:=[x1]) (cs:=[.int .i64 x1]) (css:=[[.int .i64 x1]]) E (All2.cons (E) (All2.nil)) E E) 0 E) hz1 fun A13 c13 ch7 hO8=>Q1 7 [1,5] E (Cl E ?_);have hP3:QI μ6546 (.pointer (some ⟨g10,0,none⟩)) l2 _:=⟨g10,A13,c13,ch7,rfl,rfl,hO8⟩
    have hP4:Y7 μ6546 (.pointer (some ⟨g11,0,none⟩)) (Zw f2 v2 true) _:=⟨g11,A11,c11,ch6,rfl,rfl,hO6⟩
    refine Fn.gp (L2:=([(g1,.cells #[.func (.func 29) #[] #[.pointer (some ⟨g2,0,none⟩),.pointer (some ⟨g3,0,none⟩),.pointer (some ⟨g4,0,none⟩),.pointer (some ⟨g5,0,none⟩),.pointer (some ⟨g6,0,none⟩)]] 85 (0,0))]::[(g2,.cells #[.int .i64 b2.Road.Nodes,.slice A1 b2.Road.Edges.length c1,.slice A2 b2.Vehicles.length c2,.slice A3 b2.Demands.length c3,.int .i64 b2.Unload,.int .i64 b2.UnloadSecs] 28 (0,0))]::[(g3,.cells #[.int .i64 b3] 3 (0,0))]::[(g4,.cells #[.bool f3] 4 (0,0))]::[(g5,.cells #[.int .i64 f4] 3 (0,0))]::[(g6,.cells #[.int .i64 f5,.slice A12 f6.length c12] 37 (0,0))]::((g10,Obj.cells #[.slice A13 l2.length c13] 29 (0,0))::ch7)::[(g7,.cells #[.slice A5 b8.length c5] 29 (0,0))]::((g11,Obj.cells #[.slice A11 ((Zw f2 v2 true).length) c11] 94 (0,0))::ch6)::[(g8,.cells #[.func (.func 42) #[] #[.pointer (some ⟨g1,0,none⟩),.pointer (some ⟨g10,0,none⟩),.pointer (some ⟨g7,0,none⟩),.pointer (some ⟨g11,0,none⟩),.pointer (some ⟨g8,0,none⟩)]] 95 (0,0))]::[(g12,.cells #[.int .i64 x1] 3 (0,0))]::L)) [[6],[7],[8],[9],[10],[11],[1,2],[12],[3,4],[5],[0]] 13 11 (by kernel_rfl) ?_;obtain ⟨⟨r4,r5,r6,r7,_⟩,hx5,h6581⟩:=Qg h6581;replace h6581:=Qi h6581;replace h6581:=Qi h6581;replace h6581:=Qi h6581;replace h6581:=Qi h6581;refine ih hl1 hA1 hl2 hA2 hl3 hA3 hl7 hA7 hP3 hl5 hA5 hP4 hx5 (fun v3 A14 c14 _ so4 hm_2 hl9 hA12 hP5 hP6=> ?_);replace hA1:=hA1.mono hm_2;replace hA2:=hA2.mono hm_2;replace hA3:=hA3.mono hm_2;replace hA5:=hA5.mono hm_2;replace hO4:=hO4.mono hm_2;replace hO5:=hO5.mono hm_2;replace hA7:=hA7.mono hm_2;obtain ⟨_,A15,c15,ch8,hv4,rfl,hO9⟩:=hP5;replace hv4:=Wx hv4;subst hv4;refine Q0 2 E (In QI.fl 6 12 E E E ?_);obtain ⟨_,hs2,h6581⟩:=Qg h6581;refine G1 3 [6] E (Rdo E E (WN E E E E E E (Own.lenOk hO9).1 hs2 ?_));have hA13:=Rds.pre (Own.rds (L:=([(g1,.cells #[.func (.func 29) #[] #[.pointer (some ⟨g2,0,none⟩),.pointer (some ⟨g3,0,none⟩),.pointer (some ⟨g4,0,none⟩),.pointer (some ⟨g5,0,none⟩),.pointer (some ⟨g6,0,none⟩)]] 85 (0,0))]::[(g2,.cells #[.int .i64 b2.Road.Nodes,.slice A1 b2.Road.Edges.length c1,.slice A2 b2.Vehicles.length c2,.slice A3 b2.Demands.length c3,.int .i64 b2.Unload,.int .i64 b2.UnloadSecs] 28 (0,0))]::[(g3,.cells #[.int .i64 b3] 3 (0,0))]::[(g4,.cells #[.bool r4] 4 (0,0))]::[(g5,.cells #[.int .i64 r5] 3 (0,0))]::[(g6,.cells #[.int .i64 r6.Vehicle,.slice A14 r6.Stops.length c14] 37 (0,0))]::[(g10,.cells #[.slice A15 r7.length c15] 29 (0,0))]::ch8::[(g7,.cells #[.slice A5 b8.length c5] 29 (0,0))]::so4::[(g8,.cells #[.func (.func 42) #[] #[.pointer (some ⟨g1,0,none⟩),.pointer (some ⟨g10,0,none⟩),.pointer (some ⟨g7,0,none⟩),.pointer (some ⟨g11,0,none⟩),.pointer (some ⟨g8,0,none⟩)]] 95 (0,0))]::[(g12,.cells #[.int .i64 x1] 3 (0,0))]::L)) hO9 7 rfl) hs2;have hl10:=V4 (Own.lenOk hO9) hs2;refine Q0 1 E (So E (Jk (z:=[.int .i64 0,.int .i64 0]) E E E E E E E (QQ (cells':=[.int .i64 x1,.int .i64 0]) E E E E (QQ (cells':=[.int .i64 x1,.int .i64 (-1)]) E E E E (Z5 (fun g14=>Q0 0 E (So E (ZR E ?_))))))));have hO10:=Own.cut hO9 hs2;obtain ⟨l4,hz2,h6581⟩:=Qg h6581;refine Jv (r:=QV) YB E E E E (by decide) E E 8 E hO10 E (Own.rds (Own.lit (r:=QV) (e:=3) (g:=g14) (xs:=[x1,(-1)]) (cs:=[.int .i64 x1,.int .i64 (-1)]) (css:=[[.int .i64 x1],[.int .i64 (-1)]]) E (All2.cons (E) (All2.cons (E) (All2.nil))) E E) 0 E) hz2 fun A16 c16 ch9 hO11=>Q1 7 [7,11] E (Cl E ?_);have hP7:QI v3 (.pointer (some ⟨g10,0,none⟩)) l4 _:=⟨g10,A16,c16,ch9,rfl,rfl,hO11⟩
    refine Fn.gp (L2:=([(g1,.cells #[.func (.func 29) #[] #[.pointer (some ⟨g2,0,none⟩),.pointer (some ⟨g3,0,none⟩),.pointer (some ⟨g4,0,none⟩),.pointer (some ⟨g5,0,none⟩),.pointer (some ⟨g6,0,none⟩)]] 85 (0,0))]::[(g2,.cells #[.int .i64 b2.Road.Nodes,.slice A1 b2.Road.Edges.length c1,.slice A2 b2.Vehicles.length c2,.slice A3 b2.Demands.length c3,.int .i64 b2.Unload,.int .i64 b2.UnloadSecs] 28 (0,0))]::[(g3,.cells #[.int .i64 b3] 3 (0,0))]::[(g4,.cells #[.bool r4] 4 (0,0))]::[(g5,.cells #[.int .i64 r5] 3 (0,0))]::[(g6,.cells #[.int .i64 r6.Vehicle,.slice A14 r6.Stops.length c14] 37 (0,0))]::((g10,Obj.cells #[.slice A16 l4.length c16] 29 (0,0))::ch9)::[(g7,.cells #[.slice A5 b8.length c5] 29 (0,0))]::so4::[(g8,.cells #[.func (.func 42) #[] #[.pointer (some ⟨g1,0,none⟩),.pointer (some ⟨g10,0,none⟩),.pointer (some ⟨g7,0,none⟩),.pointer (some ⟨g11,0,none⟩),.pointer (some ⟨g8,0,none⟩)]] 95 (0,0))]::[(g14,.cells #[.int .i64 x1,.int .i64 (-1)] 3 (0,0))]::[(g12,.cells #[.int .i64 x1] 3 (0,0))]::L)) [[1],[2],[3],[4],[5],[6],[7,8],[9],[10],[11],[0],[12]] 13 12 (by kernel_rfl) ?_;obtain ⟨⟨r9,r10,r11,r12,r13⟩,hx6,h6581⟩:=Qg h6581;replace h6581:=Qi h6581;replace h6581:=Qi h6581;replace h6581:=Qi h6581;replace h6581:=Qi h6581;refine ih hl1 hA1 hl2 hA2 hl3 hA3 hl9 hA12 hP7 hl5 hA5 hP6 hx6 (fun v4 A17 c17 _ so6 hm_3 hl11 hA14 hP8 hP9=> ?_);replace hO4:=hO4.mono hm_3;replace hO5:=hO5.mono hm_3;replace hA7:=hA7.mono hm_3;obtain ⟨_,A18,c18,ch10,hv5,rfl,hO12⟩:=hP8;replace hv5:=Wx hv5;subst hv5;refine Q0 2 E (In QI.fl 6 13 E E E ?_);obtain ⟨l5,hs3,h6581⟩:=Qg h6581;refine G1 3 [6] E (Rdo E E (WN E E E E E E (Own.lenOk hO12).1 hs3 ?_));have hA15:=Rds.pre (Own.rds (L:=([(g1,.cells #[.func (.func 29) #[] #[.pointer (some ⟨g2,0,none⟩),.pointer (some ⟨g3,0,none⟩),.pointer (some ⟨g4,0,none⟩),.pointer (some ⟨g5,0,none⟩),.pointer (some ⟨g6,0,none⟩)]] 85 (0,0))]::[(g2,.cells #[.int .i64 b2.Road.Nodes,.slice A1 b2.Road.Edges.length c1,.slice A2 b2.Vehicles.length c2,.slice A3 b2.Demands.length c3,.int .i64 b2.Unload,.int .i64 b2.UnloadSecs] 28 (0,0))]::[(g3,.cells #[.int .i64 b3] 3 (0,0))]::[(g4,.cells #[.bool r9] 4 (0,0))]::[(g5,.cells #[.int .i64 r10] 3 (0,0))]::[(g6,.cells #[.int .i64 r11.Vehicle,.slice A17 r11.Stops.length c17] 37 (0,0))]::[(g10,.cells #[.slice A18 r12.length c18] 29 (0,0))]::ch10::[(g7,.cells #[.slice A5 b8.length c5] 29 (0,0))]::so6::[(g8,.cells #[.func (.func 42) #[] #[.pointer (some ⟨g1,0,none⟩),.pointer (some ⟨g10,0,none⟩),.pointer (some ⟨g7,0,none⟩),.pointer (some ⟨g11,0,none⟩),.pointer (some ⟨g8,0,none⟩)]] 95 (0,0))]::[(g14,.cells #[.int .i64 x1,.int .i64 (-1)] 3 (0,0))]::[(g12,.cells #[.int .i64 x1] 3 (0,0))]::L)) hO12 7 rfl) hs3;have hl12:=V4 (Own.lenOk hO12) hs3;refine Q0 0 E (So E (YM (vs:=[.slice A18 l5.length c18]) E E E E E E ?_));have hO13:=Own.cut hO12 hs3;refine ST_ (L':=([(g1,.cells #[.func (.func 29) #[] #[.pointer (some ⟨g2,0,none⟩),.pointer (some ⟨g3,0,none⟩),.pointer (some ⟨g4,0,none⟩),.pointer (some ⟨g5,0,none⟩),.pointer (some ⟨g6,0,none⟩)]] 85 (0,0))]::[(g2,.cells #[.int .i64 b2.Road.Nodes,.slice A1 b2.Road.Edges.length c1,.slice A2 b2.Vehicles.length c2,.slice A3 b2.Demands.length c3,.int .i64 b2.Unload,.int .i64 b2.UnloadSecs] 28 (0,0))]::[(g3,.cells #[.int .i64 b3] 3 (0,0))]::[(g4,.cells #[.bool r9] 4 (0,0))]::[(g5,.cells #[.int .i64 r10] 3 (0,0))]::[(g6,.cells #[.int .i64 r11.Vehicle,.slice A17 r11.Stops.length c17] 37 (0,0))]::[(g10,.cells #[.slice A18 l5.length c18] 29 (0,0))]::ch10::[(g7,.cells #[.slice A5 b8.length c5] 29 (0,0))]::so6::[(g8,.cells #[.func (.func 42) #[] #[.pointer (some ⟨g1,0,none⟩),.pointer (some ⟨g10,0,none⟩),.pointer (some ⟨g7,0,none⟩),.pointer (some ⟨g11,0,none⟩),.pointer (some ⟨g8,0,none⟩)]] 95 (0,0))]::[(g14,.cells #[.int .i64 x1,.int .i64 (-1)] 3 (0,0))]::[(g12,.cells #[.int .i64 x1] 3 (0,0))]::L)) 6 0 E E E E ?_;obtain ⟨_,A19,c19,_,hv6,rfl,hO14⟩:=hP9;replace hv6:=Wx hv6;subst hv6
    refine Q0 1 E (In Y7.fl 9 14 E E E (G1 3 [9] E (IxA h6581 (Own.rds hO14 10 E) E E fun _ a4 _ hx7 hr4 _ hA16 h6581=> ?_)));obtain rfl:=hr4;refine Q0 0 E (So E (YM (vs:=[.bool false]) E E E E E E ?_))
    rw[←Addr.add_zero' ((a4.add (v2.toNat*1)))]
    refine Own.store (μ:=v4) (r:=Qdt) (x':=false) (o:=0) (sz:=1) 10 rfl hO14 hA16 hx7 rfl rfl (by rintro _ rfl;rfl) fun ch12 hO15=> ?_
    rw[←Jp r13 v2 false] at hO15 ⊢
    refine Q0 2 E ?_;cases h6581;exact Ce E ⟨_,_,_,_,_,_,A18,c18,ch10,A19,c19,ch12,A17,c17,rfl,fE E,sE [some 6,some 7,some 9,some 10,some 11,some 0,some 1,some 2,some 3,some 4,some 5,some 8] 14 E,(hO13),(hO15),(hl11),(hA14)⟩
   rintro _ _ _ _ hb6546 hm6581 ⟨f7,f8,f9,f10,f11,f12,A20,c20,ch13,A21,c21,ch14,A22,c22,rfl,hF6581,hS6581,hO16,hO17,hl13,hA17⟩;replace hb6546:=Qi hb6546;replace hb6546:=Qi hb6546;replace hb6546:=Qi hb6546;replace hb6546:=Qi hb6546;replace hb6546:=Qi hb6546;replace hO4:=hO4.mono hm6581;replace hO5:=hO5.mono hm6581;replace hA7:=hA7.mono hm6581;refine Atn 12 hF6581 hS6581 E E (G0 4 E ?_);cases hb6546;exact Ce E ⟨_,rfl,A20,c20,ch13,A21,c21,ch14,A22,c22,fE E,sE [some 0,some 1,some 2,some 3,some 4,some 5,some 6,some 7,some 8,some 9,some 10,some 11] 12 E,(hO16),(hO17),(hl13),(hA17)⟩
  refine G2 2 [] [20] [] E ?_;cases hb6546;have hq_:=hq6546 _ E;subst hq_;exact Ce E ⟨_,_,_,_,_,_,A12,c12,A10,c10,ch4,A11,c11,ch5,rfl,fE E,sE [some 5,some 6,some 7,some 8,some 9,some 10,some 0,some 1,some 11,some 2,some 3,some 4] 12 E,(hl7),(hA7),(hO4),(hO5)⟩
 rintro _ _ _ _ h hm5987 ⟨f13,f14,f15,f16,f17,f18,A23,c23,A24,c24,ch15,A25,c25,ch16,rfl,hF5987,hS5987,hl14,hA18,hO18,hO19⟩;replace h:=Qi h;replace h:=Qi h;replace h:=Qi h;replace h:=Qi h;replace h:=Qi h;refine Atn 12 hF5987 hS5987 E E (Rt [] E E (UgK (L2:=([(g1,.cells #[.func (.func 29) #[] #[.pointer (some ⟨g2,0,none⟩),.pointer (some ⟨g3,0,none⟩),.pointer (some ⟨g4,0,none⟩),.pointer (some ⟨g5,0,none⟩),.pointer (some ⟨g6,0,none⟩)]] 85 (0,0))]::[(g2,.cells #[.int .i64 b2.Road.Nodes,.slice A1 b2.Road.Edges.length c1,.slice A2 b2.Vehicles.length c2,.slice A3 b2.Demands.length c3,.int .i64 b2.Unload,.int .i64 b2.UnloadSecs] 28 (0,0))]::[(g3,.cells #[.int .i64 b3] 3 (0,0))]::[(g4,.cells #[.bool f13] 4 (0,0))]::[(g5,.cells #[.int .i64 f14] 3 (0,0))]::[(g6,.cells #[.int .i64 f15,.slice A23 f16.length c23] 37 (0,0))]::([(g10,.cells #[.slice A24 f17.length c24] 29 (0,0))]++ch15)::[(g7,.cells #[.slice A5 b8.length c5] 29 (0,0))]::([(g11,.cells #[.slice A25 f18.length c25] 94 (0,0))]++ch16)::[(g8,.cells #[.func (.func 42) #[] #[.pointer (some ⟨g1,0,none⟩),.pointer (some ⟨g10,0,none⟩),.pointer (some ⟨g7,0,none⟩),.pointer (some ⟨g11,0,none⟩),.pointer (some ⟨g8,0,none⟩)]] 95 (0,0))]::L)) [[0],[1],[2],[3],[4],[5],[6,7],[8],[9,10],[11]] 12 (by kernel_rfl) ?_));cases h;exact ((hR _ A23 c23 _ _ hm5987 hl14 hA18 ⟨g10,A24,c24,ch15,rfl,rfl,hO18⟩ ⟨g11,A25,c25,ch16,rfl,rfl,hO19⟩))
theorem VG {F:Nat} {demands1:(List Int)} {b1:Qc} {b2:Int} {b3:Bool} {b4:Int} {b5:Qf} {A1:Option Addr} {c1:Nat} {g1:Nat} {A2:Option Addr} {c2:Nat} {A3:Option Addr} {c3:Nat} {A4:Option Addr} {c4:Nat} {g2:Nat} {g3:Nat} {g4:Nat} {g5:Nat} {A5:Option Addr} {c5:Nat} {res1:Bool} {res2:Int} {res3:Qf}
  (hl1:demands1.length≤c1∧c1≤maxLen) (hA1:Qn QV μ A1 demands1) (hl2:b1.Road.Edges.length≤c2∧c2≤maxLen) (hA2:Qn QE μ A2 b1.Road.Edges) (hl3:b1.Vehicles.length≤c3∧c3≤maxLen) (hA3:Qn Qv μ A3 b1.Vehicles) (hl4:b1.Demands.length≤c4∧c4≤maxLen) (hA4:Qn Qw μ A4 b1.Demands) (hl5:b5.Stops.length≤c5∧c5≤maxLen) (hA5:Qn QV μ A5 b5.Stops) (h:ZG F demands1 b1 b2 b3 b4 b5=some (res1,res2,res3))
  (hR: ∀(μ':Gh) (Ab4_1:Option Addr) (cb4_1:Nat),μ.le μ'→(res3.Stops.length≤cb4_1∧cb4_1≤maxLen)→Qn QV μ' Ab4_1 res3.Stops→R (.tuple #[]) μ' ([(g1,.cells #[.int .i64 b1.Road.Nodes,.slice A2 b1.Road.Edges.length c2,.slice A3 b1.Vehicles.length c3,.slice A4 b1.Demands.length c4,.int .i64 b1.Unload,.int .i64 b1.UnloadSecs] 28 (0,0))]::[(g2,.cells #[.int .i64 b2] 3 (0,0))]::[(g3,.cells #[.bool res1] 4 (0,0))]::[(g4,.cells #[.int .i64 res2] 3 (0,0))]::[(g5,.cells #[.int .i64 res3.Vehicle,.slice Ab4_1 res3.Stops.length cb4_1] 37 (0,0))]::L)) :
  Fn Try.prog 28 [.slice A1 demands1.length c1,.func (.func 29) #[] #[.pointer (some ⟨g1,0,none⟩),.pointer (some ⟨g2,0,none⟩),.pointer (some ⟨g3,0,none⟩),.pointer (some ⟨g4,0,none⟩),.pointer (some ⟨g5,0,none⟩)]] μ ([(g1,.cells #[.int .i64 b1.Road.Nodes,.slice A2 b1.Road.Edges.length c2,.slice A3 b1.Vehicles.length c3,.slice A4 b1.Demands.length c4,.int .i64 b1.Unload,.int .i64 b1.UnloadSecs] 28 (0,0))]::[(g2,.cells #[.int .i64 b2] 3 (0,0))]::[(g3,.cells #[.bool b3] 4 (0,0))]::[(g4,.cells #[.int .i64 b4] 3 (0,0))]::[(g5,.cells #[.int .i64 b5.Vehicle,.slice A5 b5.Stops.length c5] 37 (0,0))]::L) R:=by
 unfold ZG at h;refine FnS Try.func28 (by kernel_rfl) E Try.ntmps28 E E ?_;refine G0 2 E (Al E fun g6=>Q0 0 E (Al E fun g7=>Q1 5 [1] E (So E (QfT E E ?_))));obtain ⟨l1,hn1,h⟩:=Qg h;refine QgY (r:=Qdt) (z:=false) (zc:=[.bool false]) YB E E E E E (E) E hn1 fun A6 c6 ch1 hO1=>Q0 0 E (Al E fun g8=>Q1 7 [0,3] E (So E (QfT E E ?_)));obtain ⟨_,hn2,h⟩:=Qg h;refine Qi6 (r:=QV) (z:=0) (zc:=[.int .i64 0]) YB E E E E E (E) E hn2 fun A7 c7 ch2 hO2=>Q0 0 E (Al E fun g9=>Q1 4 [0] E (Al E fun g10=>Q1 10 [0,0,6] E (Cl E ?_)));have hP1:QI μ (.pointer (some ⟨g9,0,none⟩)) [] _:=⟨g9,A7,c7,ch2,rfl,rfl,hO2⟩
 have hP2:Y7 μ (.pointer (some ⟨g8,0,none⟩)) l1 _:=⟨g8,A6,c6,ch1,rfl,rfl,hO1⟩
 refine Fn.gp (L2:=([(g7,.cells #[.func (.func 29) #[] #[.pointer (some ⟨g1,0,none⟩),.pointer (some ⟨g2,0,none⟩),.pointer (some ⟨g3,0,none⟩),.pointer (some ⟨g4,0,none⟩),.pointer (some ⟨g5,0,none⟩)]] 85 (0,0))]::[(g1,.cells #[.int .i64 b1.Road.Nodes,.slice A2 b1.Road.Edges.length c2,.slice A3 b1.Vehicles.length c3,.slice A4 b1.Demands.length c4,.int .i64 b1.Unload,.int .i64 b1.UnloadSecs] 28 (0,0))]::[(g2,.cells #[.int .i64 b2] 3 (0,0))]::[(g3,.cells #[.bool b3] 4 (0,0))]::[(g4,.cells #[.int .i64 b4] 3 (0,0))]::[(g5,.cells #[.int .i64 b5.Vehicle,.slice A5 b5.Stops.length c5] 37 (0,0))]::((g9,Obj.cells #[.slice A7 0 c7] 29 (0,0))::ch2)::[(g6,.cells #[.slice A1 demands1.length c1] 29 (0,0))]::((g8,Obj.cells #[.slice A6 l1.length c6] 94 (0,0))::ch1)::[(g10,.cells #[.func (.func 42) #[] #[.pointer (some ⟨g7,0,none⟩),.pointer (some ⟨g9,0,none⟩),.pointer (some ⟨g6,0,none⟩),.pointer (some ⟨g8,0,none⟩),.pointer (some ⟨g10,0,none⟩)]] 95 (0,0))]::L)) [[5],[7],[8],[9],[10],[11],[1,2],[6],[3,4],[0]] 12 10 (by kernel_rfl) ?_;obtain ⟨⟨r1,r2,r3,_,_⟩,hx1,h⟩:=Qg h;replace h:=Qi h;replace h:=Qi h;replace h:=Qi h;replace h:=Qi h;refine Qai hl2 hA2 hl3 hA3 hl4 hA4 hl5 hA5 hP1 hl1 hA1 hP2 hx1 (fun _ A8 c8 _ _ hm_1 hl6 hA6 _ _=> ?_);refine Q0 1 E (Rt [] E E (UgK (L2:=([(g1,.cells #[.int .i64 b1.Road.Nodes,.slice A2 b1.Road.Edges.length c2,.slice A3 b1.Vehicles.length c3,.slice A4 b1.Demands.length c4,.int .i64 b1.Unload,.int .i64 b1.UnloadSecs] 28 (0,0))]::[(g2,.cells #[.int .i64 b2] 3 (0,0))]::[(g3,.cells #[.bool r1] 4 (0,0))]::[(g4,.cells #[.int .i64 r2] 3 (0,0))]::[(g5,.cells #[.int .i64 r3.Vehicle,.slice A8 r3.Stops.length c8] 37 (0,0))]::L)) [[1],[2],[3],[4],[5]] 10 (by kernel_rfl) ?_));cases h;exact ((hR _ A8 c8 hm_1 hl6 hA6))
theorem Vq {F:Nat} {p1:Qc} {vehicle1:Int} {demands1:(List Int)} {A1:Option Addr} {c1:Nat} {A2:Option Addr} {c2:Nat} {A3:Option Addr} {c3:Nat} {A4:Option Addr} {c4:Nat} {res1:Qf} {res2:Int} {res3:Bool}
  (hl1:p1.Road.Edges.length≤c1∧c1≤maxLen) (hA1:Qn QE μ A1 p1.Road.Edges) (hl2:p1.Vehicles.length≤c2∧c2≤maxLen) (hA2:Qn Qv μ A2 p1.Vehicles) (hl3:p1.Demands.length≤c3∧c3≤maxLen) (hA3:Qn Qw μ A3 p1.Demands) (hl4:demands1.length≤c4∧c4≤maxLen) (hA4:Qn QV μ A4 demands1) (h:JP F p1 vehicle1 demands1=some (res1,res2,res3))
  (hR: ∀(μ':Gh) (A0_1:Option Addr) (c0_1:Nat),μ.le μ'→(res1.Stops.length≤c0_1∧c0_1≤maxLen)→Qn QV μ' A0_1 res1.Stops→R (.tuple #[.agg #[.int .i64 res1.Vehicle,.slice A0_1 res1.Stops.length c0_1],.int .i64 res2,.bool res3]) μ' (L)) :
  Fn Try.prog 19 [.agg #[.int .i64 p1.Road.Nodes,.slice A1 p1.Road.Edges.length c1,.slice A2 p1.Vehicles.length c2,.slice A3 p1.Demands.length c3,.int .i64 p1.Unload,.int .i64 p1.UnloadSecs],.int .i64 vehicle1,.slice A4 demands1.length c4] μ (L) R:=by
 unfold JP at h;refine FnS Try.func19 (by kernel_rfl) E Try.ntmps19 E E ?_;refine G0 2 E (Al E fun g1=>Q0 0 E (Al E fun g2=>Q0 0 E (Al E fun g3=>Q1 7 [1] E (Al E fun g4=>Q0 0 E (Al E fun g5=>Q0 0 E (Al E fun g6=>Q1 8 [2,1,0] E (Cl E (Fn.gp [[5],[4],[0],[1],[2],[3]] 6 6 E ?_))))))));obtain ⟨⟨r1,r2,r3⟩,hx1,h⟩:=Qg h;replace h:=Qi h;replace h:=Qi h;refine VG hl4 hA4 hl1 hA1 hl2 hA2 hl3 hA3 ⟨Nat.le_refl _,Nat.zero_le _⟩ Qn.nil hx1 (fun _ A5 c5 hm_1 hl5 hA5=> ?_);refine Q0 2 E (Drk [5] 5 E [(true,0),(true,1),(true,2),(false,3),(true,4),(true,5)] (by kernel_rfl) (G1 3 [4,3,2] E (So E (YM (vs:=[.int .i64 r3.Vehicle,.slice A5 r3.Stops.length c5]) E E E E E E (ST_ (L':=([(g1,.cells #[.int .i64 p1.Road.Nodes,.slice A1 p1.Road.Edges.length c1,.slice A2 p1.Vehicles.length c2,.slice A3 p1.Demands.length c3,.int .i64 p1.Unload,.int .i64 p1.UnloadSecs] 28 (0,0))]::[(g2,.cells #[.int .i64 vehicle1] 3 (0,0))]::[(g6,.cells #[.bool r1] 4 (0,0))]::[(g5,.cells #[.int .i64 r2] 3 (0,0))]::[(g4,.cells #[.int .i64 r3.Vehicle,.slice A5 r3.Stops.length c5] 37 (0,0))]::[(g3,.cells #[.int .i64 r3.Vehicle,.slice A5 r3.Stops.length c5] 37 (0,0))]::L)) 5 0 E E E E ?_)))));refine ⟨Kp [0,1,2,3,4] 6 E,?_⟩;refine Q0 3 E ?_;cases h;exact Rt [5] E E (Ug [] 6 (hR _ A5 c5 hm_1 hl5 hA5))
theorem JK {F:Nat} {p1:Qc} {vehicle1:Int} {demands1:(List Int)} {A1:Option Addr} {c1:Nat} {A2:Option Addr} {c2:Nat} {A3:Option Addr} {c3:Nat} {A4:Option Addr} {c4:Nat} {res1:Qf} {res2:Int} {res3:Int}
  (hl1:p1.Road.Edges.length≤c1∧c1≤maxLen) (hA1:Qn QE μ A1 p1.Road.Edges) (hl2:p1.Vehicles.length≤c2∧c2≤maxLen) (hA2:Qn Qv μ A2 p1.Vehicles) (hl3:p1.Demands.length≤c3∧c3≤maxLen) (hA3:Qn Qw μ A3 p1.Demands) (hl4:demands1.length≤c4∧c4≤maxLen) (hA4:Qn QV μ A4 demands1) (h:Z0 F p1 vehicle1 demands1=some (res1,res2,res3))
  (hR: ∀(μ':Gh) (A0_1:Option Addr) (c0_1:Nat),μ.le μ'→(res1.Stops.length≤c0_1∧c0_1≤maxLen)→Qn QV μ' A0_1 res1.Stops→R (.tuple #[.agg #[.int .i64 res1.Vehicle,.slice A0_1 res1.Stops.length c0_1],.int .i64 res2,.int .i64 res3]) μ' (L)) :
  Fn Try.prog 9 [.agg #[.int .i64 p1.Road.Nodes,.slice A1 p1.Road.Edges.length c1,.slice A2 p1.Vehicles.length c2,.slice A3 p1.Demands.length c3,.int .i64 p1.Unload,.int .i64 p1.UnloadSecs],.int .i64 vehicle1,.slice A4 demands1.length c4] μ (L) R:=by
 unfold Z0 at h;refine FnS Try.func9 (by kernel_rfl) E Try.ntmps9 E E ?_;refine G0 2 E (Al E fun _=>Q0 0 E (Al E fun _=>Q1 9 [1] E (Cl E ?_)));obtain ⟨_,hx1,h⟩:=Qg h;refine W5 hl1 hA1 hl2 hA2 hl3 hA3 hl4 (Qn.rds hA4 _) hx1 (fun _ hm_1=> ?_);replace hA1:=hA1.mono hm_1;replace hA2:=hA2.mono hm_1;replace hA3:=hA3.mono hm_1;replace hA4:=hA4.mono hm_1;refine Q0 7 E ?_;refine Br h 18 E E (fun hc1 h=> ?_) (fun hc1 h=> ?_)
 ·refine G2 9 [18] [] [0] E ?_;cases h;exact Rt [0] E E (Ug [] 2 (hR _ none 0 hm_1 ⟨Nat.le_refl _,Nat.zero_le _⟩ Qn.nil))
 refine G2 7 [] [18] [1] E (Cl E ?_);obtain ⟨⟨_,_,_⟩,hx2,h⟩:=Qg h;replace h:=Qi h;replace h:=Qi h;refine Vq hl1 hA1 hl2 hA2 hl3 hA3 hl4 hA4 hx2 (fun _ A5 c5 hm_2 hl5 hA5=> ?_);refine Q0 4 E (Al E fun _=>Q1 10 [0] E ?_);refine Br h 30 E E (fun hc2 h=> ?_) (fun hc2 h=> ?_)
 ·refine G2 8 [30] [] [1] E ?_;cases h;exact Rt [1] E E (Ug [] 3 (hR _ none 0 (hm_1.trans hm_2) ⟨Nat.le_refl _,Nat.zero_le _⟩ Qn.nil))
 refine G2 10 [] [30] [0,1] E ?_;cases h;exact Rt [1] E E (Ug [] 3 (hR _ A5 c5 (hm_1.trans hm_2) hl5 hA5))
theorem JN {F:Nat} {p1:Qc} {vehicle1:Int} {demands1:(List Int)} {A1:Option Addr} {c1:Nat} {A2:Option Addr} {c2:Nat} {A3:Option Addr} {c3:Nat} {A4:Option Addr} {c4:Nat} {res1:Bool} {res2:Int}
  (hl1:p1.Road.Edges.length≤c1∧c1≤maxLen) (hA1:Qn QE μ A1 p1.Road.Edges) (hl2:p1.Vehicles.length≤c2∧c2≤maxLen) (hA2:Qn Qv μ A2 p1.Vehicles) (hl3:p1.Demands.length≤c3∧c3≤maxLen) (hA3:Qn Qw μ A3 p1.Demands) (hl4:demands1.length≤c4∧c4≤maxLen) (hA4:Qn QV μ A4 demands1) (h:ZE F p1 vehicle1 demands1=some (res1,res2))
  (hR: ∀(μ':Gh) ,μ.le μ'→R (.tuple #[.bool res1,.int .i64 res2]) μ' (L)) :
  Fn Try.prog 13 [.agg #[.int .i64 p1.Road.Nodes,.slice A1 p1.Road.Edges.length c1,.slice A2 p1.Vehicles.length c2,.slice A3 p1.Demands.length c3,.int .i64 p1.Unload,.int .i64 p1.UnloadSecs],.int .i64 vehicle1,.slice A4 demands1.length c4] μ (L) R:=by
 unfold ZE at h;refine FnS Try.func13 (by kernel_rfl) E Try.ntmps13 E E ?_;refine G0 2 E (Al E fun _=>Q1 9 [0] E (Cl E ?_));obtain ⟨_,hx1,h⟩:=Qg h;refine W5 hl1 hA1 hl2 hA2 hl3 hA3 hl4 (Qn.rds hA4 _) hx1 (fun _ hm_1=> ?_);replace hA1:=hA1.mono hm_1;replace hA2:=hA2.mono hm_1;replace hA3:=hA3.mono hm_1;replace hA4:=hA4.mono hm_1;refine Q0 7 E ?_;refine Br h 17 E E (fun hc1 h=> ?_) (fun hc1 h=> ?_)
 ·refine G2 7 [17] [] [] E ?_;cases h;exact Rt [] E E (Ug [] 1 (hR _ hm_1))
 refine G2 7 [] [17] [0] E (Cl E ?_);obtain ⟨⟨_,_,_⟩,hx2,h⟩:=Qg h;replace h:=Qi h;replace h:=Qi h;refine Vq hl1 hA1 hl2 hA2 hl3 hA3 hl4 hA4 hx2 (fun _ _ _ hm_2 _ _=> ?_);refine Q0 4 E (Al E fun _=>Q1 10 [0] E ?_);cases h;exact Rt [] E E (Ug [] 2 (hR _ (hm_1.trans hm_2)))
theorem Vg  {b1:(List Int)} {y1:Int} {l1:Nat} {q1:QbA} {pv1:Value} {so1:Seg} {res1:(List Int)}
  (hq1:YOk 13 l1 q1 [(2,pv1)] Try.f53.body) (hP1:QI μ pv1 b1 so1) (h:Zo b1 y1=some res1)
  (hR: ∀(sp1:Seg),QI μ pv1 res1 sp1→R (.bool true) μ ([(l1,yr .ready q1)]::sp1::L)) :
  Rnd Try.prog l1 [.int .i64 y1] μ ([(l1,yr .ready q1)]::so1::L) R:=by
 unfold Zo at h;refine Rnd.ok hq1 E E ?_ 0 E;refine G0 3 E (Ce E (QiP.mk 0 2 E E ?_));obtain ⟨g1,_,_,_,hv1,rfl,hO1⟩:=hP1;subst hv1;refine G0 1 E (In QI.fl 1 3 E E E (G1 3 [1] E (So E (Jk (z:=[.int .i64 0]) E E E E E E E (QQ (cells':=[.int .i64 y1]) E E E E (Z5 (fun g2=>Q0 0 E (So E (ZR E ?_)))))))));obtain ⟨_,hz1,h⟩:=Qg h;refine Jv (r:=QV) YB E E E E (by decide) E E 3 E hO1 E (Own.rds (Own.lit (r:=QV) (e:=3) (g:=g2) (xs:=[y1]) (cs:=[.int .i64 y1]) (css:=[[.int .i64 y1]]) E (All2.cons (E) (All2.nil)) E E) 0 E) hz1 fun A2 c2 ch2 hO2=>Q1 3 [2] E ?_;cases h;exact Ce E (QhM.mk 1 4 E E ((Ug [[1],[2,3]] 4 (hR _ ⟨g1,A2,c2,ch2,rfl,rfl,hO2⟩))))
theorem Vb  {b1:(List Int)} {b2:(List Int)} {l1:Nat} {q1:QbA} {pv1:Value} {so1:Seg} {g1:Nat} {A1:Option Addr} {c1:Nat} {res1:(List Int)}
  (hq1:YOk 13 l1 q1 [(2,pv1)] Try.f53.body) (hP1:QI μ pv1 b1 so1) (hl1:b2.length≤c1∧c1≤maxLen) (hA1:Qn QV μ A1 b2) (h:Zf b1 b2=some res1)
  (hR: ∀(sp1:Seg),QI μ pv1 res1 sp1→R (.tuple #[]) μ ([(l1,yr .ready q1)]::sp1::[(g1,.cells #[.slice A1 b2.length c1] 29 (0,0))]::L)) :
  Fn Try.prog 38 [.func (.yield l1) #[] #[],.pointer (some ⟨g1,0,none⟩)] μ ([(l1,yr .ready q1)]::so1::[(g1,.cells #[.slice A1 b2.length c1] 29 (0,0))]::L) R:=by
 unfold Zf at h;refine FnS Try.func38 (by kernel_rfl) E Try.ntmps38 E E ?_;refine G1 6 [2] E ?_;refine Cut h (fun f l o_ f_ μ_ l_=> ∃(q3:(List Int)) (so4:Seg),q3=o_∧Qm ([]) f_∧Qe ([(l1,yr .ready q1)]::so4::Yr [] 2 l) l_∧QI μ_ pv1 q3 so4∧μ=μ_) ?_ ?_
 ·intro _ h7863 h;refine Lp h7863 (fun f l (j_:Int×(List Int)) f_ μ_ l_=>WT j_ fun v1 q2=> ∃(so2:Seg),Qm ((7,.int .i64 v1)::QD [0,5,6] f) f_∧Qe ([(l1,yr .ready q1)]::so2::Yr [] 2 l) l_∧QI μ_ pv1 q2 so2∧μ=μ_) ⟨so1,fE E,sE [some 0,some 1,some 2] 3 E,(hP1),E⟩ ?_;rintro ⟨v1,q2⟩ _ _ _ _ _ ⟨so2,hF7874,hS7874,hP2,rfl⟩ hb7874 hq7874;unfold Q4 at hb7874;replace hb7874:=Qi hb7874;refine Atn 3 hF7874 hS7874 E E (G0 5 E ?_);refine Br hb7874 8 E E (fun hc1 hb7874=> ?_) (fun hc1 hb7874=> ?_)
  ·refine G2 6 [8] [] [] E (Ix hb7874 (Qn.rds hA1 L) E E fun _ _ _ _ hr1 hc2 _ hb7874=> ?_);obtain rfl:=hr1;refine Q3 7 [] [] [64] (Z1 (hc2.push.push.push)) E (ClY E E ?_);obtain ⟨_,hx2,hb7874⟩:=Qg hb7874;refine Vg hq1 hP2 hx2 (fun so3 hP3=>Q2 9 [] [14] [] E ?_);cases hb7874;exact Ce E ⟨_,rfl,so3,fE E,sE [some 0,some 1,some 2] 3 E,(hP3),rfl⟩
  refine G2 2 [] [8] [] E ?_;cases hb7874;have hq_:=hq7874 _ E;subst hq_;exact Ce E ⟨_,so2,rfl,fE E,sE [some 0,some 1,some 2] 3 E,(hP2),rfl⟩
 rintro _ _ _ _ h _ ⟨q3,so4,rfl,hF7863,hS7863,hP4,rfl⟩;refine Atn 3 hF7863 hS7863 E E ?_;cases h;exact Rt [] E E (Ug [[0],[1],[2]] 3 (hR _ hP4))
theorem Wh  {b1:(List Int)} {g1:Nat} {A1:Option Addr} {c1:Nat} {res1:(List Int)}
  (hl1:b1.length≤c1∧c1≤maxLen) (hA1:Qn QV μ A1 b1) (h:YD b1=some res1)
  (hR: ∀(A0:Option Addr) (c0:Nat) (ch0:Seg),Own QV 3 μ (.slice A0 res1.length c0) res1 ch0→R (.slice A0 res1.length c0) μ (ch0::[(g1,.cells #[.slice A1 b1.length c1] 29 (0,0))]::L)) :
  Fn Try.prog 53 [.slice none 0 0,.func (.func 38) #[] #[.pointer (some ⟨g1,0,none⟩)]] μ ([(g1,.cells #[.slice A1 b1.length c1] 29 (0,0))]::L) R:=by
 unfold YD at h;refine QkA Try.func53 (by kernel_rfl) E Try.ntmps53 E E ?_;refine G0 1 E (Al E fun g2=>Q0 5 E (Rg (c:=Try.f53.body) [(2,.pointer (some ⟨g2,0,none⟩))] E E E (fg:=Try.f38) Try.func38 E fun _ _ hq1=> ?_));have hP1:QI μ (.pointer (some ⟨g2,0,none⟩)) [] _:=⟨g2,none,0,[],rfl,rfl,Own.nil⟩
 refine Fn.gp [[0],[2,99],[3],[1]] 4 4 E ?_;obtain ⟨_,hx1,h⟩:=Qg h;refine Vb hq1 hP1 hl1 hA1 hx1 (fun _ hP2=>RgE.mk 0 3 E E ?_);obtain ⟨_,A2,c2,ch1,hv1,rfl,hO1⟩:=hP2;replace hv1:=Wx hv1;subst hv1;refine G0 1 E (In QI.fl 0 4 E E E (G1 4 [0] E ?_));cases h;exact RtM 3 3 [] E E E E (Ug [[1],[2]] 3 (hR A2 c2 ch1 hO1))
theorem Vh  {b1:(List Int)} {g1:Nat} {A1:Option Addr} {c1:Nat} {res1:(List Int)}
  (hl1:b1.length≤c1∧c1≤maxLen) (hA1:Qn QV μ A1 b1) (h:Zp b1=some res1)
  (hR: ∀(A0:Option Addr) (c0:Nat) (ch0:Seg),Own QV 3 μ (.slice A0 res1.length c0) res1 ch0→R (.slice A0 res1.length c0) μ (ch0::[(g1,.cells #[.slice A1 b1.length c1] 29 (0,0))]::L)) :
  Fn Try.prog 36 [.func (.func 38) #[] #[.pointer (some ⟨g1,0,none⟩)]] μ ([(g1,.cells #[.slice A1 b1.length c1] 29 (0,0))]::L) R:=by
 unfold Zp at h;refine FnS Try.func36 (by kernel_rfl) E Try.ntmps36 E E ?_;refine G0 7 E (Cl E ?_);obtain ⟨_,hx1,h⟩:=Qg h;refine Wh hl1 hA1 hx1 (fun A2 c2 ch1 hO1=>Q0 2 E ?_);cases h;exact Rt [] E E (Ug [[0],[1]] 2 (hR A2 c2 ch1 hO1))
theorem Vw  {b1:(List Int)} {g1:Nat} {A1:Option Addr} {c1:Nat} {res1:(List Int)}
  (hl1:b1.length≤c1∧c1≤maxLen) (hA1:Qn QV μ A1 b1) (h:Y1 b1=some res1)
  (hR: ∀(A0:Option Addr) (c0:Nat) (ch0:Seg),Own QV 3 μ (.slice A0 res1.length c0) res1 ch0→R (.slice A0 res1.length c0) μ (ch0::[(g1,.cells #[.slice A1 b1.length c1] 29 (0,0))]::L)) :
  Fn Try.prog 22 [.func (.func 38) #[] #[.pointer (some ⟨g1,0,none⟩)]] μ ([(g1,.cells #[.slice A1 b1.length c1] 29 (0,0))]::L) R:=by
 unfold Y1 at h;refine FnS Try.func22 (by kernel_rfl) E Try.ntmps22 E E ?_;refine G0 7 E (Cl E ?_);obtain ⟨_,hx1,h⟩:=Qg h;refine Vh hl1 hA1 hx1 (fun A2 c2 _ hO1=>Q0 5 E (Cl E ?_));obtain ⟨_,hs1,h⟩:=Qg h;refine QiC Try.func37 (by kernel_rfl) E Try.slices_Sort_int Try.slices_Sort_int_none 0 E hO1 hs1 fun ch2 hO2=> ?_
 rw[QeG hs1]
 refine Q0 6 E ?_;cases h;exact Rt [] E E (Ug [[0],[1]] 2 (hR A2 c2 ch2 hO2))
theorem Vp {F:Nat} {p1:Qc} {vehicle1:Int} {demands1:(List Int)} {A1:Option Addr} {c1:Nat} {A2:Option Addr} {c2:Nat} {A3:Option Addr} {c3:Nat} {A4:Option Addr} {c4:Nat} {res1:(List Int)} {res2:Int}
  (hl1:p1.Road.Edges.length≤c1∧c1≤maxLen) (hA1:Qn QE μ A1 p1.Road.Edges) (hl2:p1.Vehicles.length≤c2∧c2≤maxLen) (hA2:Qn Qv μ A2 p1.Vehicles) (hl3:p1.Demands.length≤c3∧c3≤maxLen) (hA3:Qn Qw μ A3 p1.Demands) (hl4:demands1.length≤c4∧c4≤maxLen) (hA4:Qn QV μ A4 demands1) (h:JO F p1 vehicle1 demands1=some (res1,res2))
  (hR: ∀(μ':Gh) (A0_0:Option Addr) (c0_0:Nat),μ.le μ'→(res1.length≤c0_0∧c0_0≤maxLen)→Qn QV μ' A0_0 res1→R (.tuple #[.slice A0_0 res1.length c0_0,.int .i64 res2]) μ' (L)) :
  Fn Try.prog 14 [.agg #[.int .i64 p1.Road.Nodes,.slice A1 p1.Road.Edges.length c1,.slice A2 p1.Vehicles.length c2,.slice A3 p1.Demands.length c3,.int .i64 p1.Unload,.int .i64 p1.UnloadSecs],.int .i64 vehicle1,.slice A4 demands1.length c4] μ (L) R:=by
 unfold JO at h;refine FnS Try.func14 (by kernel_rfl) E Try.ntmps14 E E ?_;refine G0 2 E (Al E fun g1=>Q1 9 [0] E (Cl E ?_));obtain ⟨_,hx1,h⟩:=Qg h;refine W5 hl1 hA1 hl2 hA2 hl3 hA3 hl4 (Qn.rds hA4 _) hx1 (fun _ hm_1=> ?_);replace hA1:=hA1.mono hm_1;replace hA2:=hA2.mono hm_1;replace hA3:=hA3.mono hm_1;replace hA4:=hA4.mono hm_1;refine Q0 7 E ?_;refine Br h 23 E E (fun hc1 h=> ?_) (fun hc1 h=> ?_)
 ·refine G2 7 [23] [] [] E ?_;cases h;exact Rt [] E E (Ug [] 1 (hR _ none 0 hm_1 ⟨Nat.le_refl _,Nat.zero_le _⟩ Qn.nil))
 refine G2 5 [] [23] [] E (Cl E (FnS Try.func23 (by kernel_rfl) E Try.ntmps23 E E (G0 2 E (Al E fun _=>Q0 7 E (Rt [] E E (Upd.done (Q0 0 E (Cl E ?_))))))));obtain ⟨_,hx2,h⟩:=Qg h;refine Vw hl4 hA4 hx2 (fun _ _ ch1 hO1=>Q0 11 E (Rdo E E ?_));obtain ⟨_,hg1,h⟩:=Qg h;refine QhK E E E (WC hg1) (Q0 2 E ?_);refine Cut h (fun f l o_ f_ μ_ l_=> ∃(out3:(List Int)) (A13:Option Addr) (c13:Nat),out3=o_∧Qm ((10,.slice A13 out3.length c13)::[]) f_∧Qe (Yr [] 3 l) l_∧(out3.length≤c13∧c13≤maxLen)∧Qn QV μ_ A13 out3) ?_ ?_
 ·intro _ h7938 h;refine Lp h7938 (fun f l (j_:(List Int)×Int×Int) f_ μ_ l_=>WT j_ fun out1 j_=>WT j_ fun v2 v3=> ∃(A6:Option Addr) (c6:Nat),Qm ((10,.slice A6 out1.length c6)::(30,.int .i64 v2)::(31,.int .i64 v3)::QD [1,3,9] f) f_∧Qe (Yr [some 2,some 0] 3 l) l_∧(out1.length≤c6∧c6≤maxLen)∧Qn QV μ_ A6 out1) ⟨none,0,fE E,sE [some 2,some 0] 3 E,(⟨Nat.le_refl _,Nat.zero_le _⟩),(Qn.nil)⟩ ?_;rintro ⟨out1,v2,v3⟩ _ _ _ _ hm7987 ⟨A6,c6,hF7987,hS7987,hl5,hA5⟩ hb7987 hq7987;unfold ZL at hb7987;replace hb7987:=Qi hb7987;replace hb7987:=Qi hb7987;replace hA1:=hA1.mono hm7987;replace hA2:=hA2.mono hm7987;replace hA3:=hA3.mono hm7987;replace hO1:=hO1.mono hm7987;refine Atn 2 hF7987 hS7987 E E (G0 5 E ?_);refine Br hb7987 32 E E (fun hc2 hb7987=> ?_) (fun hc2 hb7987=> ?_)
  ·refine G2 3 [32] [] [] E ?_;refine Cut hb7987 (fun f l o_ f_ μ_ l_=> ∃(out2:(List Int)) (A12:Option Addr) (c12:Nat),out2=o_∧Qm ((10,.slice A12 out2.length c12)::QD [1,3,9,30,31] f) f_∧Qe l l_∧(out2.length≤c12∧c12≤maxLen)∧Qn QV μ_ A12 out2) ?_ ?_
   ·intro _ h7994 hb7987;refine G0 17 E ?_;refine Cut h7994 (fun f l o_ f_ μ_ l_=> ∃(l4:(List Int)) (A10:Option Addr) (c10:Nat) (ch5:Seg),l4=o_∧Qm ((12,.slice A10 l4.length c10)::QD [1,3,9,10,30,31] f) f_∧Qe ([(g1,.cells #[.int .i64 p1.Road.Nodes,.slice A1 p1.Road.Edges.length c1,.slice A2 p1.Vehicles.length c2,.slice A3 p1.Demands.length c3,.int .i64 p1.Unload,.int .i64 p1.UnloadSecs] 28 (0,0))]::ch1::ch5::Yr [] 2 l) l_∧Own QV 3 μ_ (.slice A10 l4.length c10) l4 ch5) ?_ ?_
    ·intro _ h7997 h7994;refine Lp h7997 (fun f l (j_:(List Int)×Int) f_ μ_ l_=>WT j_ fun l1 v4=> ∃(A7:Option Addr) (c7:Nat) (ch2:Seg),Qm ((12,.slice A7 l1.length c7)::(36,.int .i64 v4)::QD [1,3,9,10,11,30,31,34,35] f) f_∧Qe ([(g1,.cells #[.int .i64 p1.Road.Nodes,.slice A1 p1.Road.Edges.length c1,.slice A2 p1.Vehicles.length c2,.slice A3 p1.Demands.length c3,.int .i64 p1.Unload,.int .i64 p1.UnloadSecs] 28 (0,0))]::ch1::ch2::Yr [] 2 l) l_∧Own QV 3 μ_ (.slice A7 l1.length c7) l1 ch2) ⟨none,0,[],fE E,sE [some 0,some 1,none] 2 E,(Own.nil)⟩ ?_;rintro ⟨l1,v4⟩ _ _ _ _ hm8009 ⟨A7,c7,ch2,hF8009,hS8009,hO2⟩ hb8009 hq8009;unfold ZK at hb8009;replace hb8009:=Qi hb8009;replace hA1:=hA1.mono hm8009;replace hA2:=hA2.mono hm8009;replace hA3:=hA3.mono hm8009;replace hO1:=hO1.mono hm8009;replace hA5:=hA5.mono hm8009;refine Atn 3 hF8009 hS8009 E E (G0 5 E ?_);refine Br hb8009 37 E E (fun hc3 hb8009=> ?_) (fun hc3 hb8009=> ?_)
     ·refine G2 3 [37] [] [] E ?_;refine Cut hb8009 (fun f l o_ f_ μ_ l_=> ∃(l3:(List Int)) (A9:Option Addr) (c9:Nat) (ch4:Seg),l3=o_∧Qm ((12,.slice A9 l3.length c9)::QD [1,3,9,10,11,30,31,34,35,36] f) f_∧Qe ([(g1,.cells #[.int .i64 p1.Road.Nodes,.slice A1 p1.Road.Edges.length c1,.slice A2 p1.Vehicles.length c2,.slice A3 p1.Demands.length c3,.int .i64 p1.Unload,.int .i64 p1.UnloadSecs] 28 (0,0))]::ch1::ch4::Yr [] 3 l) l_∧Own QV 3 μ_ (.slice A9 l3.length c9) l3 ch4) ?_ ?_
      ·intro _ h8015 hb8009;refine G0 4 E (IxA h8015 (Own.rds hO1 1 E) E E fun x1 _ _ _ hr1 hc4 _ h8015=> ?_);obtain rfl:=hr1;refine Q3 8 [] [] [64] (Z1 hc4) E (Rdo E E ?_);obtain ⟨_,hg2,h8015⟩:=Qg h8015;refine QhL E E E (WC hg2) (Q0 0 E (Rdo E E ?_));refine Qja E E ⟨_,Qe7 _ _ _,?_⟩;refine Q0 2 E ?_;refine Br h8015 45 E E (fun hc5 h8015=> ?_) (fun hc5 h8015=> ?_)
       ·refine G2 4 [45] [] [] E (So E (Jk (z:=[.int .i64 0]) E E E E E E E (QQ (cells':=[.int .i64 x1]) E E E E (Z5 (fun g3=>Q0 0 E (So E (ZR E ?_)))))));obtain ⟨_,hz1,h8015⟩:=Qg h8015;refine Jv (r:=QV) YB E E E E (by decide) E E 3 E hO2 E (Own.rds (Own.lit (r:=QV) (e:=3) (g:=g3) (xs:=[x1]) (cs:=[.int .i64 x1]) (css:=[[.int .i64 x1]]) E (All2.cons (E) (All2.nil)) E E) 0 E) hz1 fun A8 c8 ch3 hO3=>Q0 3 E ?_;cases h8015;exact Ce E ⟨_,A8,c8,ch3,rfl,fE E,sE [some 1,some 2,some 3] 4 E,(hO3)⟩
       refine G2 3 [] [45] [] E ?_;cases h8015;exact Ce E ⟨_,A7,c7,ch2,rfl,fE E,sE [some 0,some 1,some 2] 3 E,(hO2)⟩
      rintro _ _ _ _ hb8009 hm8015 ⟨l3,A9,c9,ch4,rfl,hF8015,hS8015,hO4⟩;replace hA1:=hA1.mono hm8015;replace hA2:=hA2.mono hm8015;replace hA3:=hA3.mono hm8015;replace hA5:=hA5.mono hm8015;replace hO2:=hO2.mono hm8015;refine Atn 3 hF8015 hS8015 E E (G0 4 E ?_);cases hb8009;exact Ce E ⟨_,rfl,A9,c9,ch4,fE E,sE [some 0,some 1,some 2] 3 E,(hO4)⟩
     refine G2 2 [] [37] [] E ?_;cases hb8009;have hq_:=hq8009 _ E;subst hq_;exact Ce E ⟨_,A7,c7,ch2,rfl,fE E,sE [some 0,some 1,some 2] 3 E,(hO2)⟩
    rintro _ _ _ _ h7994 hm7997 ⟨l4,A10,c10,ch5,rfl,hF7997,hS7997,hO5⟩;replace hA1:=hA1.mono hm7997;replace hA2:=hA2.mono hm7997;replace hA3:=hA3.mono hm7997;replace hA5:=hA5.mono hm7997;refine Atn 3 hF7997 hS7997 E E (G0 2 E ?_);refine Cut h7994 (fun f l o_ f_ μ_ l_=> ∃(v5:Bool),v5=o_∧Qm ((68,.bool v5)::QD [1,3,9,10,12,30,31] f) f_∧Qe l l_) ?_ ?_
    ·intro _ h8024 h7994;refine G0 7 E ?_;refine Br h8024 56 E E (fun hc6 h8024=> ?_) (fun hc6 h8024=> ?_)
     ·refine G2 13 [56] [] [] E ?_;cases h8024;exact Ce E ⟨_,rfl,fE E,sE [some 0,some 1,some 2] 3 E⟩
     refine G2 6 [] [56] [] E ?_;refine Br h8024 62 E E (fun hc7 h8024=> ?_) (fun hc7 h8024=> ?_)
     ·refine G2 2 [62] [] [] E (Cl E ?_);obtain ⟨_,hx4,h8024⟩:=Qg h8024;refine Wi (Own.lenOk hO5) (Own.rds hO5 2 E) hl5 (Qn.rds hA5 _) hx4 ((Q2 4 [62] [56] [] E ?_));cases h8024;exact Ce E ⟨_,rfl,fE E,sE [some 0,some 1,some 2] 3 E⟩
     refine G2 7 [] [56,62] [] E ?_;cases h8024;exact Ce E ⟨_,rfl,fE E,sE [some 0,some 1,some 2] 3 E⟩
    rintro _ _ _ _ h7994 hm8024 ⟨v5,rfl,hF8024,hS8024⟩;replace hA1:=hA1.mono hm8024;replace hA2:=hA2.mono hm8024;replace hA3:=hA3.mono hm8024;replace hA5:=hA5.mono hm8024;replace hO5:=hO5.mono hm8024;refine Atn 3 hF8024 hS8024 E E ?_;refine Br h7994 68 E E (fun hc8 h7994=> ?_) (fun hc8 h7994=> ?_)
    ·refine G2 2 [68] [] [] E ?_;cases h7994;exact Ce E ⟨_,A6,c6,rfl,fE E,sE [some 0,some 1] 3 E,(hl5),(hA5)⟩
    refine G2 7 [] [68] [0] E (Cl E ?_);have hl6:=Own.lenOk hO5;refine Fn.pre Try.func19 (by kernel_rfl) E (Upd.frzOwn 2 E hO5 fun _ hm_2 hA7=>Upd.done ?_);replace hA1:=hA1.mono hm_2;replace hA2:=hA2.mono hm_2;replace hA3:=hA3.mono hm_2;replace hA5:=hA5.mono hm_2;obtain ⟨⟨_,_,_⟩,hx5,h7994⟩:=Qg h7994;replace h7994:=Qi h7994;replace h7994:=Qi h7994;refine Vq hl1 hA1 hl2 hA2 hl3 hA3 hl6 hA7 hx5 (fun _ _ _ hm_3 _ _=> ?_);replace hA5:=hA5.mono hm_3;replace hA7:=hA7.mono hm_3;refine Q0 4 E (Al E fun _=>Q1 8 [0] E ?_);refine Br h7994 77 E E (fun hc9 h7994=> ?_) (fun hc9 h7994=> ?_)
    ·refine G2 6 [77] [] [] E ?_;cases h7994;exact Ce E ⟨_,A10,c10,rfl,fE E,sE [some 1,some 2] 4 E,(hl6),(hA7)⟩
    refine G2 3 [] [77] [] E ?_;cases h7994;exact Ce E ⟨_,A6,c6,rfl,fE E,sE [some 1,some 2] 4 E,(hl5),(hA5)⟩
   rintro _ _ _ _ hb7987 hm7994 ⟨out2,A12,c12,rfl,hF7994,hS7994,hl8,hA9⟩;replace hA5:=hA5.mono hm7994;refine Atn 2 hF7994 hS7994 E E (G0 4 E ?_);cases hb7987;exact Ce E ⟨_,rfl,A12,c12,fE E,sE [some 0,some 1] 2 E,(hl8),(hA9)⟩
  refine G2 2 [] [32] [] E ?_;cases hb7987;have hq_:=hq7987 _ E;subst hq_;exact Ce E ⟨_,A6,c6,rfl,fE E,sE [] 2 E,(hl5),(hA5)⟩
 rintro _ _ _ _ h hm7938 ⟨out3,A13,c13,rfl,hF7938,hS7938,hl9,hA10⟩;refine Atn 0 hF7938 hS7938 E E (G0 6 E ?_);cases h;exact Rt [] E E (Ug [] 0 (hR _ A13 c13 (hm_1.trans hm7938) hl9 hA10))
theorem Yd  {a1:(List Int)} {b1:(List Int)} {A1:Option Addr} {c1:Nat} {A2:Option Addr} {c2:Nat} {res1:Bool}
  (hl1:a1.length≤c1∧c1≤maxLen) (hA1:Rds QV μ L A1 a1) (hl2:b1.length≤c2∧c2≤maxLen) (hA2:Rds QV μ L A2 b1) (h:QJ a1 b1=some res1)
  (hR:R (.bool res1) μ (L)) :
  Fn Try.prog 15 [.slice A1 a1.length c1,.slice A2 b1.length c2] μ (L) R:=by
 unfold QJ at h;refine FnS Try.func15 (by kernel_rfl) E Try.ntmps15 E E ?_;refine G0 13 E ?_;refine Br h 10 E E (fun hc1 h=> ?_) (fun hc1 h=> ?_)
 ·refine G2 5 [10] [] [] E ?_;cases h;exact Rt [] E E (Ug [] 0 hR)
 refine G2 7 [] [10] [] E ?_;refine Cut h (fun f l o_ f_ μ_ l_=>(.inl ())=o_∧Qm ([]) f_∧Qe l l_∧μ=μ_) ?_ ?_
 ·intro _ h8048 h;refine Lp h8048 (fun f l (i1:Int) f_ μ_ l_=>Qm ((5,.int .i64 i1)::QD [0,1] f) f_∧Qe l l_∧μ=μ_) ⟨fE E,sE [] 0 E,E⟩ ?_;rintro i1 _ _ _ _ _ ⟨hF8050,hS8050,rfl⟩ hb8050 hq8050;unfold Yq at hb8050;refine Atn 0 hF8050 hS8050 E E (G0 8 E ?_);refine Br hb8050 14 E E (fun hc2 hb8050=> ?_) (fun hc2 hb8050=> ?_)
  ·refine G2 5 [14] [] [] E (Dr _ QK.refl [(true,0),(true,1),(true,2),(true,3),(true,4),(true,5),(true,6),(true,7),(true,8)] (by kernel_rfl) (G0 2 E (Ix hb8050 hA1 E E fun _ _ _ _ hr1 hc3 _ hb8050=> ?_)));obtain rfl:=hr1;refine Q3 3 [] [] [64] (Z1 hc3) E (Ix hb8050 hA2 E E fun _ _ _ _ hr2 hc4 _ hb8050=> ?_);obtain rfl:=hr2;refine Q3 3 [] [] [64] (Z1 hc4) E ?_;refine Br hb8050 25 E E (fun hc5 hb8050=> ?_) (fun hc5 hb8050=> ?_)
   ·refine G2 5 [25] [] [] E ?_;cases hb8050;have hq_:=hq8050 _ E;subst hq_;replace h:=ZW h;cases h;exact Rt [] E E (Ug [] 0 hR)
   refine G2 8 [] [25] [] E ?_;cases hb8050;exact Ce E ⟨_,rfl,fE E,sE [] 0 E,rfl⟩
  refine G2 2 [] [14] [] E ?_;cases hb8050;have hq_:=hq8050 _ E;subst hq_;exact Ce E ⟨rfl,fE E,sE [] 0 E,rfl⟩
 rintro _ _ _ _ h _ ⟨rfl,hF8048,hS8048,rfl⟩;replace h:=JD h;refine Atn 0 hF8048 hS8048 E E (G0 4 E ?_);cases h;exact Rt [] E E (Ug [] 0 hR)
theorem Zc {F:Nat}   {res1:Bool}
   (h:Q5 F=some res1)
  (hR: ∀(μ':Gh) ,μ.le μ'→R (.bool res1) μ' (L)) :
  Fn Try.prog 8 [] μ (L) R:=by
 unfold Q5 at h;refine FnS Try.func8 (by kernel_rfl) E Try.ntmps8 E E ?_;refine G0 6 E (Cl E ?_);obtain ⟨_,hx1,h⟩:=Qg h;refine Ya  hx1 (fun _ _ _ _ _ _ _ hm_1 hl1 hA1 hl2 hA2 hl3 hA3=>Q0 0 E (So E (Jk (z:=[.int .i64 0,.int .i64 0]) E E E E E E E (QQ (cells':=[.int .i64 1,.int .i64 0]) E E E E (QQ (cells':=[.int .i64 1,.int .i64 0]) E E E E (Z5 (fun g1=>Q0 0 E (Cl E ?_))))))));have hl4:[1,0].length≤2∧2≤maxLen:=⟨Nat.le_refl _,by unfold maxLen;omega⟩
 refine Fn.pre Try.func9 (by kernel_rfl) E (Upd.frzOwn 0 E (Own.lit (r:=QV) (e:=3) (g:=g1) (xs:=[1,0]) (cs:=[.int .i64 1,.int .i64 0]) (css:=[[.int .i64 1],[.int .i64 0]]) E (All2.cons (E) (All2.cons (E) (All2.nil))) E E) fun _ hm_2 hA4=>Upd.done ?_);replace hA1:=hA1.mono hm_2;replace hA2:=hA2.mono hm_2;replace hA3:=hA3.mono hm_2;obtain ⟨⟨_,_,_⟩,hx2,h⟩:=Qg h;replace h:=Qi h;replace h:=Qi h;refine JK hl1 hA1 hl2 hA2 hl3 hA3 hl4 hA4 hx2 (fun _ _ _ hm_3 hl5 hA5=> ?_);refine Q0 4 E (Al E fun _=>Q1 6 [0] E (Cl E ?_));obtain ⟨_,hx3,h⟩:=Qg h;refine Ya  hx3 (fun _ _ _ _ _ _ _ hm_4 hl6 hA6 hl7 hA7 hl8 hA8=> ?_);replace hA5:=hA5.mono hm_4;refine Q0 0 E (So E (Jk (z:=[.int .i64 0,.int .i64 0]) E E E E E E E (QQ (cells':=[.int .i64 0,.int .i64 0]) E E E E (QQ (cells':=[.int .i64 0,.int .i64 1]) E E E E (Z5 (fun g3=>Q0 0 E (Cl E ?_)))))));have hl9:[0,1].length≤2∧2≤maxLen:=⟨Nat.le_refl _,by unfold maxLen;omega⟩
 refine Fn.pre Try.func9 (by kernel_rfl) E (Upd.frzOwn 0 E (Own.lit (r:=QV) (e:=3) (g:=g3) (xs:=[0,1]) (cs:=[.int .i64 0,.int .i64 1]) (css:=[[.int .i64 0],[.int .i64 1]]) E (All2.cons (E) (All2.cons (E) (All2.nil))) E E) fun _ hm_5 hA9=>Upd.done ?_);replace hA5:=hA5.mono hm_5;replace hA6:=hA6.mono hm_5;replace hA7:=hA7.mono hm_5;replace hA8:=hA8.mono hm_5;obtain ⟨⟨_,_,_⟩,hx4,h⟩:=Qg h;replace h:=Qi h;replace h:=Qi h;refine JK hl6 hA6 hl7 hA7 hl8 hA8 hl9 hA9 hx4 (fun _ _ _ hm_6 hl10 hA10=> ?_);replace hA5:=hA5.mono hm_6;refine Q0 4 E (Al E fun _=>Q1 6 [0] E (Cl E ?_));obtain ⟨_,hx5,h⟩:=Qg h;refine Ya  hx5 (fun _ _ _ _ _ _ _ hm_7 hl11 hA11 hl12 hA12 hl13 hA13=> ?_);replace hA5:=hA5.mono hm_7;replace hA10:=hA10.mono hm_7;refine Q0 0 E (So E (Jk (z:=[.int .i64 0,.int .i64 0]) E E E E E E E (QQ (cells':=[.int .i64 0,.int .i64 0]) E E E E (QQ (cells':=[.int .i64 0,.int .i64 1]) E E E E (Z5 (fun g5=>Q0 0 E (Cl E ?_)))))));have hl14:[0,1].length≤2∧2≤maxLen:=⟨Nat.le_refl _,by unfold maxLen;omega⟩
 refine Fn.pre Try.func9 (by kernel_rfl) E (Upd.frzOwn 0 E (Own.lit (r:=QV) (e:=3) (g:=g5) (xs:=[0,1]) (cs:=[.int .i64 0,.int .i64 1]) (css:=[[.int .i64 0],[.int .i64 1]]) E (All2.cons (E) (All2.cons (E) (All2.nil))) E E) fun _ hm_8 hA14=>Upd.done ?_);replace hA5:=hA5.mono hm_8;replace hA10:=hA10.mono hm_8;replace hA11:=hA11.mono hm_8;replace hA12:=hA12.mono hm_8;replace hA13:=hA13.mono hm_8;obtain ⟨⟨_,_,_⟩,hx6,h⟩:=Qg h;replace h:=Qi h;replace h:=Qi h;refine JK hl11 hA11 hl12 hA12 hl13 hA13 hl14 hA14 hx6 (fun _ _ _ hm_9 _ _=> ?_);replace hA5:=hA5.mono hm_9;replace hA10:=hA10.mono hm_9;refine Q0 4 E (Al E fun _=>Q1 6 [0] E (Cl E ?_));obtain ⟨_,hx7,h⟩:=Qg h;refine Ya  hx7 (fun _ _ _ _ _ _ _ hm_10 hl16 hA16 hl17 hA17 hl18 hA18=> ?_);replace hA5:=hA5.mono hm_10;replace hA10:=hA10.mono hm_10;refine Q0 0 E (So E (Jk (z:=[.int .i64 0]) E E E E E E E (QQ (cells':=[.int .i64 0]) E E E E (Z5 (fun g7=>Q0 0 E (Cl E ?_))))));have hl19:[0].length≤1∧1≤maxLen:=⟨Nat.le_refl _,by unfold maxLen;omega⟩
 refine Fn.pre Try.func13 (by kernel_rfl) E (Upd.frzOwn 0 E (Own.lit (r:=QV) (e:=3) (g:=g7) (xs:=[0]) (cs:=[.int .i64 0]) (css:=[[.int .i64 0]]) E (All2.cons (E) (All2.nil)) E E) fun _ hm_11 hA19=>Upd.done ?_);replace hA5:=hA5.mono hm_11;replace hA10:=hA10.mono hm_11;replace hA16:=hA16.mono hm_11;replace hA17:=hA17.mono hm_11;replace hA18:=hA18.mono hm_11;obtain ⟨⟨_,_⟩,hx8,h⟩:=Qg h;replace h:=Qi h;refine JN hl16 hA16 hl17 hA17 hl18 hA18 hl19 hA19 hx8 (fun _ hm_12=> ?_);replace hA5:=hA5.mono hm_12;replace hA10:=hA10.mono hm_12;refine Q0 8 E (Cl E ?_);obtain ⟨_,hx9,h⟩:=Qg h;refine Ya  hx9 (fun _ _ _ _ _ _ _ hm_13 hl20 hA20 hl21 hA21 hl22 hA22=> ?_);replace hA5:=hA5.mono hm_13;replace hA10:=hA10.mono hm_13;refine Q0 0 E (So E (Jk (z:=[.int .i64 0,.int .i64 0]) E E E E E E E (QQ (cells':=[.int .i64 0,.int .i64 0]) E E E E (QQ (cells':=[.int .i64 0,.int .i64 1]) E E E E (Z5 (fun g8=>Q0 0 E (Cl E ?_)))))));have hl23:[0,1].length≤2∧2≤maxLen:=⟨Nat.le_refl _,by unfold maxLen;omega⟩
 refine Fn.pre Try.func13 (by kernel_rfl) E (Upd.frzOwn 0 E (Own.lit (r:=QV) (e:=3) (g:=g8) (xs:=[0,1]) (cs:=[.int .i64 0,.int .i64 1]) (css:=[[.int .i64 0],[.int .i64 1]]) E (All2.cons (E) (All2.cons (E) (All2.nil))) E E) fun _ hm_14 hA23=>Upd.done ?_);replace hA5:=hA5.mono hm_14;replace hA10:=hA10.mono hm_14;replace hA20:=hA20.mono hm_14;replace hA21:=hA21.mono hm_14;replace hA22:=hA22.mono hm_14;obtain ⟨⟨_,_⟩,hx10,h⟩:=Qg h;replace h:=Qi h;refine JN hl20 hA20 hl21 hA21 hl22 hA22 hl23 hA23 hx10 (fun _ hm_15=> ?_);replace hA5:=hA5.mono hm_15;replace hA10:=hA10.mono hm_15;refine Q0 8 E (Cl E ?_);obtain ⟨_,hx11,h⟩:=Qg h;refine Ya  hx11 (fun _ _ _ _ _ _ _ hm_16 hl24 hA24 hl25 hA25 hl26 hA26=> ?_);replace hA5:=hA5.mono hm_16;replace hA10:=hA10.mono hm_16;refine Q0 0 E (So E (Jk (z:=[.int .i64 0,.int .i64 0]) E E E E E E E (QQ (cells':=[.int .i64 1,.int .i64 0]) E E E E (QQ (cells':=[.int .i64 1,.int .i64 0]) E E E E (Z5 (fun g9=>Q0 0 E (Cl E ?_)))))));have hl27:[1,0].length≤2∧2≤maxLen:=⟨Nat.le_refl _,by unfold maxLen;omega⟩
 refine Fn.pre Try.func14 (by kernel_rfl) E (Upd.frzOwn 0 E (Own.lit (r:=QV) (e:=3) (g:=g9) (xs:=[1,0]) (cs:=[.int .i64 1,.int .i64 0]) (css:=[[.int .i64 1],[.int .i64 0]]) E (All2.cons (E) (All2.cons (E) (All2.nil))) E E) fun _ hm_17 hA27=>Upd.done ?_);replace hA5:=hA5.mono hm_17;replace hA10:=hA10.mono hm_17;replace hA24:=hA24.mono hm_17;replace hA25:=hA25.mono hm_17;replace hA26:=hA26.mono hm_17;obtain ⟨⟨_,_⟩,hx12,h⟩:=Qg h;replace h:=Qi h;refine Vp hl24 hA24 hl25 hA25 hl26 hA26 hl27 hA27 hx12 (fun _ _ _ hm_18 hl28 hA28=> ?_);replace hA5:=hA5.mono hm_18;replace hA10:=hA10.mono hm_18;refine Q0 7 E ?_;refine Cut h (fun f l o_ f_ μ_ l_=> ∃(v19:Bool),v19=o_∧Qm ((0,.bool v19)::[]) f_∧Qe (Yr [] 9 l) l_) ?_ ?_
 ·intro _ h8114 h;refine G0 4 E ?_;refine Br h8114 57 E E (fun hc1 h8114=> ?_) (fun hc1 h8114=> ?_)
  ·refine G2 4 [57] [] [] E ?_;refine Br h8114 61 E E (fun hc2 h8114=> ?_) (fun hc2 h8114=> ?_)
   ·refine G2 2 [61] [] [7] E (So E (Jk (z:=[.int .i64 0,.int .i64 0,.int .i64 0]) E E E E E E E (QQ (cells':=[.int .i64 0,.int .i64 0,.int .i64 0]) E E E E (QQ (cells':=[.int .i64 0,.int .i64 1,.int .i64 0]) E E E E (QQ (cells':=[.int .i64 0,.int .i64 1,.int .i64 (-1)]) E E E E (Z5 (fun g10=>Q0 0 E (Cl E ?_))))))));obtain ⟨_,hx13,h8114⟩:=Qg h8114;refine Yd hl5 (Qn.rds hA5 _) (Qgc (c:=3) E E) (Own.rds (Own.lit (r:=QV) (e:=3) (g:=g10) (xs:=[0,1,(-1)]) (cs:=[.int .i64 0,.int .i64 1,.int .i64 (-1)]) (css:=[[.int .i64 0],[.int .i64 1],[.int .i64 (-1)]]) E (All2.cons (E) (All2.cons (E) (All2.cons (E) (All2.nil)))) E E) 0 E) hx13 ((Q2 2 [61] [] [] E ?_));refine Br h8114 67 E E (fun hc3 h8114=> ?_) (fun hc3 h8114=> ?_)
    ·refine G2 4 [67] [] [] E ?_;refine Br h8114 71 E E (fun hc4 h8114=> ?_) (fun hc4 h8114=> ?_)
     ·refine G2 4 [71] [] [] E ?_;refine Br h8114 75 E E (fun hc5 h8114=> ?_) (fun hc5 h8114=> ?_)
      ·refine G2 2 [75] [] [6] E (So E (Jk (z:=[.int .i64 0,.int .i64 0,.int .i64 0,.int .i64 0]) E E E E E E E (QQ (cells':=[.int .i64 0,.int .i64 0,.int .i64 0,.int .i64 0]) E E E E (QQ (cells':=[.int .i64 0,.int .i64 (-1),.int .i64 0,.int .i64 0]) E E E E (QQ (cells':=[.int .i64 0,.int .i64 (-1),.int .i64 1,.int .i64 0]) E E E E (QQ (cells':=[.int .i64 0,.int .i64 (-1),.int .i64 1,.int .i64 (-1)]) E E E E (Z5 (fun g11=>Q0 0 E (Cl E ?_)))))))));obtain ⟨_,hx14,h8114⟩:=Qg h8114;refine Yd hl10 (Qn.rds hA10 _) (Qgc (c:=4) E E) (Own.rds (Own.lit (r:=QV) (e:=3) (g:=g11) (xs:=[0,(-1),1,(-1)]) (cs:=[.int .i64 0,.int .i64 (-1),.int .i64 1,.int .i64 (-1)]) (css:=[[.int .i64 0],[.int .i64 (-1)],[.int .i64 1],[.int .i64 (-1)]]) E (All2.cons (E) (All2.cons (E) (All2.cons (E) (All2.cons (E) (All2.nil))))) E E) 0 E) hx14 ((Q2 2 [75] [] [] E ?_));refine Br h8114 81 E E (fun hc6 h8114=> ?_) (fun hc6 h8114=> ?_)
       ·refine G2 4 [81] [] [] E ?_;refine Br h8114 85 E E (fun hc7 h8114=> ?_) (fun hc7 h8114=> ?_)
        ·refine G2 4 [85] [] [] E ?_;refine Br h8114 89 E E (fun hc8 h8114=> ?_) (fun hc8 h8114=> ?_)
         ·refine G2 4 [89] [] [] E ?_;refine Br h8114 93 E E (fun hc9 h8114=> ?_) (fun hc9 h8114=> ?_)
          ·refine G2 3 [93] [] [] E ?_;refine Br h8114 96 E E (fun hc10 h8114=> ?_) (fun hc10 h8114=> ?_)
           ·refine G2 4 [96] [] [] E ?_;refine Br h8114 100 E E (fun hc11 h8114=> ?_) (fun hc11 h8114=> ?_)
            ·refine G2 1 [100] [] [] E (So E (Jk (z:=[.int .i64 0,.int .i64 0]) E E E E E E E (QQ (cells':=[.int .i64 0,.int .i64 0]) E E E E (QQ (cells':=[.int .i64 0,.int .i64 1]) E E E E (Z5 (fun g12=>Q0 0 E (Cl E ?_)))))));obtain ⟨_,hx15,h8114⟩:=Qg h8114;refine Yd hl28 (Qn.rds hA28 _) (Qgc (c:=2) E E) (Own.rds (Own.lit (r:=QV) (e:=3) (g:=g12) (xs:=[0,1]) (cs:=[.int .i64 0,.int .i64 1]) (css:=[[.int .i64 0],[.int .i64 1]]) E (All2.cons (E) (All2.cons (E) (All2.nil))) E E) 0 E) hx15 ((Q2 2 [100] [] [] E ?_));refine Br h8114 105 E E (fun hc12 h8114=> ?_) (fun hc12 h8114=> ?_)
             ·refine G2 5 [105] [] [] E ?_;cases h8114;exact Ce E ⟨_,rfl,fE E,sE [] 12 E⟩
             refine G2 5 [] [105] [] E ?_;cases h8114;exact Ce E ⟨_,rfl,fE E,sE [] 12 E⟩
            refine G2 10 [] [100,105] [] E ?_;cases h8114;exact Ce E ⟨_,rfl,fE E,sE [] 11 E⟩
           refine G2 14 [] [96,100,105] [] E ?_;cases h8114;exact Ce E ⟨_,rfl,fE E,sE [] 11 E⟩
          refine G2 17 [] [93,96,100,105] [] E ?_;cases h8114;exact Ce E ⟨_,rfl,fE E,sE [] 11 E⟩
         refine G2 21 [] [89,93,96,100,105] [] E ?_;cases h8114;exact Ce E ⟨_,rfl,fE E,sE [] 11 E⟩
        refine G2 25 [] [85,89,93,96,100,105] [] E ?_;cases h8114;exact Ce E ⟨_,rfl,fE E,sE [] 11 E⟩
       refine G2 29 [] [81,85,89,93,96,100,105] [] E ?_;cases h8114;exact Ce E ⟨_,rfl,fE E,sE [] 11 E⟩
      refine G2 35 [] [75,81,85,89,93,96,100,105] [] E ?_;cases h8114;exact Ce E ⟨_,rfl,fE E,sE [] 10 E⟩
     refine G2 39 [] [71,75,81,85,89,93,96,100,105] [] E ?_;cases h8114;exact Ce E ⟨_,rfl,fE E,sE [] 10 E⟩
    refine G2 43 [] [67,71,75,81,85,89,93,96,100,105] [] E ?_;cases h8114;exact Ce E ⟨_,rfl,fE E,sE [] 10 E⟩
   refine G2 49 [] [61,67,71,75,81,85,89,93,96,100,105] [] E ?_;cases h8114;exact Ce E ⟨_,rfl,fE E,sE [] 9 E⟩
  refine G2 53 [] [57,61,67,71,75,81,85,89,93,96,100,105] [] E ?_;cases h8114;exact Ce E ⟨_,rfl,fE E,sE [] 9 E⟩
 rintro _ _ _ _ h hm8114 ⟨v19,rfl,hF8114,hS8114⟩;refine Atn 0 hF8114 hS8114 E E ?_;cases h;exact Rt [] E E (Ug [] 0 (hR _ (hm_1.trans (hm_2.trans (hm_3.trans (hm_4.trans (hm_5.trans (hm_6.trans (hm_7.trans (hm_8.trans (hm_9.trans (hm_10.trans (hm_11.trans (hm_12.trans (hm_13.trans (hm_14.trans (hm_15.trans (hm_16.trans (hm_17.trans (hm_18.trans hm8114))))))))))))))))))))
end Go.Proofs.Ytilbengnjgglhaa
namespace Go.Proofs.Ytilbengnjgglhaa
open Go.RowKit
set_option linter.unusedSimpArgs false
set_option linter.unusedVariables false
set_option maxHeartbeats 2000000
set_option maxRecDepth 4000
attribute [local irreducible] WP YF Wf Fn AN Upd vcR vcO QaJ Zb YY WK WJ Qaq VX ZQ Qag QK KS
variable {μ:Gh} {L:List Seg} {R:Value→Gh→List Seg→Prop}
theorem WI {F:Nat} {x1:QU} {which1:Int} {A1:Option Addr} {c1:Nat} {A2:Option Addr} {c2:Nat} {A3:Option Addr} {c3:Nat} {A4:Option Addr} {c4:Nat} {res1:Bool}
  (hl1:x1.Problem.Road.Edges.length≤c1∧c1≤maxLen) (hA1:Qn QE μ A1 x1.Problem.Road.Edges) (hl2:x1.Problem.Vehicles.length≤c2∧c2≤maxLen) (hA2:Qn Qv μ A2 x1.Problem.Vehicles) (hl3:x1.Problem.Demands.length≤c3∧c3≤maxLen) (hA3:Qn Qw μ A3 x1.Problem.Demands) (hl4:x1.Demands.length≤c4∧c4≤maxLen) (hA4:Qn QV μ A4 x1.Demands) (h:YZ F x1 which1=some res1)
  (hR: ∀(μ':Gh) ,μ.le μ'→R (.bool res1) μ' (L)) :
  Fn Try.prog 6 [.agg #[.int .i64 x1.Problem.Road.Nodes,.slice A1 x1.Problem.Road.Edges.length c1,.slice A2 x1.Problem.Vehicles.length c2,.slice A3 x1.Problem.Demands.length c3,.int .i64 x1.Problem.Unload,.int .i64 x1.Problem.UnloadSecs,.int .i64 x1.Vehicle,.slice A4 x1.Demands.length c4],.int .u8 which1] μ (L) R:=by
 unfold YZ at h;refine FnS Try.func6 (by kernel_rfl) E Try.ntmps6 E E ?_;refine G0 2 E (Al E fun _=>Q0 4 E ?_);refine Cut h (fun f l o_ f_ μ_ l_=> ∃(v1:Bool),v1=o_∧Qm ((30,.bool v1)::QD [1,2] f) f_∧Qe l l_) ?_ ?_
 ·intro _ h9052 h;refine G1 2 [0] E (Cl E ?_);obtain ⟨_,hx1,h9052⟩:=Qg h9052;refine VK hl1 hA1 hl2 hA2 hl3 hA3 hl4 hA4 hx1 ((Q0 2 E ?_));refine Br h9052 25 E E (fun hc1 h9052=> ?_) (fun hc1 h9052=> ?_)
  ·refine G2 6 [25] [] [] E ?_;cases h9052;exact Ce E ⟨_,rfl,fE E,sE [some 0] 1 E⟩
  refine G2 6 [] [25] [0] E ?_;cases h9052;exact Ce E ⟨_,rfl,fE E,sE [some 0] 1 E⟩
 rintro _ _ _ _ h hm9052 ⟨v1,rfl,hF9052,hS9052⟩;replace hA1:=hA1.mono hm9052;replace hA2:=hA2.mono hm9052;replace hA3:=hA3.mono hm9052;replace hA4:=hA4.mono hm9052;refine Atn 1 hF9052 hS9052 E E ?_;refine Br h 30 E E (fun hc2 h=> ?_) (fun hc2 h=> ?_)
 ·refine G2 3 [30] [] [] E (Cl E ?_);obtain ⟨_,hx2,h⟩:=Qg h;refine Zc  hx2 (fun _ hm_1=> ?_);replace hA1:=hA1.mono hm_1;replace hA2:=hA2.mono hm_1;replace hA3:=hA3.mono hm_1;replace hA4:=hA4.mono hm_1;refine Q0 2 E ?_;cases h;exact Rt [] E E (Ug [] 1 (hR _ (hm9052.trans hm_1)))
 refine G2 10 [] [30] [0,0,0] E (Cl E ?_);obtain ⟨⟨_,_⟩,hx3,h⟩:=Qg h;replace h:=Qi h;refine JN hl1 hA1 hl2 hA2 hl3 hA3 hl4 hA4 hx3 (fun _ hm_2=> ?_);replace hA1:=hA1.mono hm_2;replace hA2:=hA2.mono hm_2;replace hA3:=hA3.mono hm_2;replace hA4:=hA4.mono hm_2;refine Q0 12 E ?_;refine Br h 43 E E (fun hc3 h=> ?_) (fun hc3 h=> ?_)
 ·refine G2 2 [43] [] [] E ?_;refine Cut h (fun f l o_ f_ μ_ l_=> ∃(v5:Bool),v5=o_∧Qm ((4,.bool v5)::[]) f_∧Qe (Yr [] 1 l) l_) ?_ ?_
  ·intro _ h9055 h;refine G0 4 E ?_;refine Br h9055 46 E E (fun hc4 h9055=> ?_) (fun hc4 h9055=> ?_)
   ·refine Cl E ?_;obtain ⟨_,hx4,h9055⟩:=Qg h9055;refine Zc  hx4 (fun _ hm_3=> ?_);replace hA1:=hA1.mono hm_3;replace hA2:=hA2.mono hm_3;replace hA3:=hA3.mono hm_3;replace hA4:=hA4.mono hm_3;refine Q2 3 [46] [] [] E ?_;cases h9055;exact Ce E ⟨_,rfl,fE E,sE [] 1 E⟩
   refine G2 4 [] [46] [] E ?_;cases h9055;exact Ce E ⟨_,rfl,fE E,sE [] 1 E⟩
  rintro _ _ _ _ h hm9055 ⟨v5,rfl,hF9055,hS9055⟩;replace hA1:=hA1.mono hm9055;replace hA2:=hA2.mono hm9055;replace hA3:=hA3.mono hm9055;replace hA4:=hA4.mono hm9055;refine Atn 0 hF9055 hS9055 E E ?_;cases h;exact Rt [] E E (Ug [] 0 (hR _ (hm9052.trans (hm_2.trans hm9055))))
 obtain ⟨_,hg1,h⟩:=Qg h;refine G2 9 [] [43] [0] E (Rdo E E (Qjc E E ?_));refine ⟨WC hg1,?_⟩;refine Q0 3 E (Dr _ QK.refl [(true,1),(true,2),(true,3),(true,4),(true,6),(true,7),(true,8),(true,9),(true,10),(false,0),(false,5),(false,11),(true,12)] (by kernel_rfl) ?_);obtain ⟨_,hs1,h⟩:=Qg h;refine G1 3 [0] E (Rdo E E (WN E E E E E E hl4.1 hs1 ?_));have hA5:=Qn.pre hA4 hs1;have hl5:=V4 hl4 hs1;obtain ⟨_,hs2,h⟩:=Qg h;refine Q1 4 [0] E (Rdo E E (Qes (r:=QV) E E E E E E E hl4.1 hs2 fun _ hAe1=> ?_));have hA6:=Qn.sub hA4 hl4.1 hs2 hAe1;have hl6:=Qgy hl4 hs2;refine Q0 0 E (So E (Jk (z:=[]) E E E E E E E (Z5 (fun g2=> ?_))));refine ⟨QK.more (QK.refl),?_⟩;refine Q0 0 E (So E (ZR E ?_));obtain ⟨_,hz1,h⟩:=Qg h;refine Jv (r:=QV) YB E E E E (by decide) E E 0 E (Own.empty (r:=QV) (e:=3) (g:=g2)) E (Qn.rds hA5 _) hz1 fun _ _ _ hO1=> ?_;refine ⟨QK.more (QK.refl),?_⟩;refine Q0 0 E (So E (ZR E ?_));obtain ⟨_,hz2,h⟩:=Qg h;refine Jv (r:=QV) YB E E E E (by decide) E E 0 E hO1 E (Qn.rds hA6 _) hz2 fun _ _ _ hO2=> ?_;refine ⟨QK.more (QK.refl),?_⟩;refine Q1 9 [1,1] E (Cl E ?_);have hl7:=Own.lenOk hO2;refine Fn.pre Try.func13 (by kernel_rfl) E (Upd.frzOwn 0 E hO2 fun _ hm_4 hA7=>Upd.done ?_);replace hA1:=hA1.mono hm_4;replace hA2:=hA2.mono hm_4;replace hA3:=hA3.mono hm_4;replace hA4:=hA4.mono hm_4;obtain ⟨⟨_,_⟩,hx5,h⟩:=Qg h;replace h:=Qi h;refine JN hl1 hA1 hl2 hA2 hl3 hA3 hl7 hA7 hx5 (fun _ hm_5=> ?_);replace hA1:=hA1.mono hm_5;replace hA2:=hA2.mono hm_5;replace hA3:=hA3.mono hm_5;replace hA4:=hA4.mono hm_5;refine Q0 7 E (Dr _ QK.refl [(true,1),(true,2),(true,3),(true,4),(true,6),(true,7),(true,8),(true,9),(false,0),(false,5),(false,10),(true,11)] (by kernel_rfl) ?_);obtain ⟨_,hs3,h⟩:=Qg h;refine G1 3 [1] E (Rdo E E (Qes (r:=QV) E E E E E E E hl4.1 hs3 fun _ hAe2=> ?_));have hA8:=Qn.sub hA4 hl4.1 hs3 hAe2;have hl8:=Qgy hl4 hs3;obtain ⟨_,hs4,h⟩:=Qg h;refine Q1 3 [1] E (Rdo E E (WN E E E E E E hl4.1 hs4 ?_));have hA9:=Qn.pre hA4 hs4;have hl9:=V4 hl4 hs4;refine Q0 0 E (So E (Jk (z:=[]) E E E E E E E (Z5 (fun g3=> ?_))));refine ⟨QK.more (QK.refl),?_⟩;refine Q0 0 E (So E (ZR E ?_));obtain ⟨_,hz3,h⟩:=Qg h;refine Jv (r:=QV) YB E E E E (by decide) E E 0 E (Own.empty (r:=QV) (e:=3) (g:=g3)) E (Qn.rds hA8 _) hz3 fun _ _ _ hO3=> ?_;refine ⟨QK.more (QK.refl),?_⟩;refine Q0 0 E (So E (ZR E ?_));obtain ⟨_,hz4,h⟩:=Qg h;refine Jv (r:=QV) YB E E E E (by decide) E E 0 E hO3 E (Qn.rds hA9 _) hz4 fun _ _ _ hO4=> ?_;refine ⟨QK.more (QK.refl),?_⟩;refine Q1 10 [2,2,2] E (Cl E ?_);obtain ⟨⟨_,_,_⟩,hx6,h⟩:=Qg h;replace h:=Qi h;replace h:=Qi h;refine JK hl1 hA1 hl2 hA2 hl3 hA3 hl4 hA4 hx6 (fun _ _ _ hm_6 hl10 hA10=> ?_);replace hA1:=hA1.mono hm_6;replace hA2:=hA2.mono hm_6;replace hA3:=hA3.mono hm_6;replace hA4:=hA4.mono hm_6;replace hO4:=hO4.mono hm_6;refine Q0 4 E (Al E fun _=>Q1 11 [0,3,3] E (Cl E ?_));have hl11:=Own.lenOk hO4;refine Fn.pre Try.func9 (by kernel_rfl) E (Upd.frzOwn 1 E hO4 fun _ hm_7 hA11=>Upd.done ?_);replace hA1:=hA1.mono hm_7;replace hA2:=hA2.mono hm_7;replace hA3:=hA3.mono hm_7;replace hA4:=hA4.mono hm_7;replace hA10:=hA10.mono hm_7;obtain ⟨⟨_,_,_⟩,hx7,h⟩:=Qg h;replace h:=Qi h;replace h:=Qi h;refine JK hl1 hA1 hl2 hA2 hl3 hA3 hl11 hA11 hx7 (fun _ _ _ hm_8 hl12 hA12=> ?_);replace hA1:=hA1.mono hm_8;replace hA2:=hA2.mono hm_8;replace hA3:=hA3.mono hm_8;replace hA4:=hA4.mono hm_8;replace hA10:=hA10.mono hm_8;replace hA11:=hA11.mono hm_8;refine Q0 4 E (Al E fun _=>Q1 12 [0,4,4,4] E (Cl E ?_));obtain ⟨⟨_,_⟩,hx8,h⟩:=Qg h;replace h:=Qi h;refine Vp hl1 hA1 hl2 hA2 hl3 hA3 hl4 hA4 hx8 (fun _ _ _ hm_9 hl13 hA13=> ?_);replace hA1:=hA1.mono hm_9;replace hA2:=hA2.mono hm_9;replace hA3:=hA3.mono hm_9;replace hA10:=hA10.mono hm_9;replace hA11:=hA11.mono hm_9;replace hA12:=hA12.mono hm_9;refine Q1 13 [4,4] E (Cl E ?_);obtain ⟨⟨_,_⟩,hx9,h⟩:=Qg h;replace h:=Qi h;refine Vp hl1 hA1 hl2 hA2 hl3 hA3 hl11 hA11 hx9 (fun _ _ _ hm_10 hl14 hA14=> ?_);replace hA10:=hA10.mono hm_10;replace hA12:=hA12.mono hm_10;replace hA13:=hA13.mono hm_10;refine Q0 7 E ?_
 refine Cut h (fun f l o_ f_ μ_ l_=> ∃(v15:Bool),v15=o_∧Qm ((4,.bool v15)::[]) f_∧Qe (Yr [] 5 l) l_) ?_ ?_
 ·intro _ h9133 h;refine G0 4 E ?_;refine Br h9133 129 E E (fun hc5 h9133=> ?_) (fun hc5 h9133=> ?_)
  ·refine G2 3 [129] [] [] E ?_;refine Br h9133 132 E E (fun hc6 h9133=> ?_) (fun hc6 h9133=> ?_)
   ·refine G2 8 [129,132,136] [] [1,0] E (Cl E ?_);obtain ⟨_,hx10,h9133⟩:=Qg h9133;refine Yd hl10 (Qn.rds hA10 _) hl12 (Qn.rds hA12 _) hx10 ((Q2 2 [136] [] [] E ?_));refine Br h9133 143 E E (fun hc7 h9133=> ?_) (fun hc7 h9133=> ?_)
    ·refine G2 5 [143] [] [] E ?_;refine Br h9133 148 E E (fun hc8 h9133=> ?_) (fun hc8 h9133=> ?_)
     ·refine G2 5 [148] [] [] E ?_;refine Br h9133 153 E E (fun hc9 h9133=> ?_) (fun hc9 h9133=> ?_)
      ·refine G2 2 [153] [] [] E (Cl E ?_);obtain ⟨_,hx11,h9133⟩:=Qg h9133;refine Yd hl13 (Qn.rds hA13 _) hl14 (Qn.rds hA14 _) hx11 ((Q2 2 [153] [] [] E ?_));refine Br h9133 158 E E (fun hc10 h9133=> ?_) (fun hc10 h9133=> ?_)
       ·refine G2 5 [158] [] [] E ?_;refine Br h9133 163 E E (fun hc11 h9133=> ?_) (fun hc11 h9133=> ?_)
        ·refine Cl E ?_;obtain ⟨_,hx12,h9133⟩:=Qg h9133;refine Zc  hx12 (fun _ hm_11=> ?_);replace hA10:=hA10.mono hm_11;replace hA12:=hA12.mono hm_11;replace hA13:=hA13.mono hm_11;replace hA14:=hA14.mono hm_11;refine Q2 3 [163] [] [] E ?_;cases h9133;exact Ce E ⟨_,rfl,fE E,sE [] 5 E⟩
        refine G2 4 [] [163] [] E ?_;cases h9133;exact Ce E ⟨_,rfl,fE E,sE [] 5 E⟩
       refine G2 9 [] [158,163] [] E ?_;cases h9133;exact Ce E ⟨_,rfl,fE E,sE [] 5 E⟩
      refine G2 14 [] [153,158,163] [] E ?_;cases h9133;exact Ce E ⟨_,rfl,fE E,sE [] 5 E⟩
     refine G2 19 [] [148,153,158,163] [] E ?_;cases h9133;exact Ce E ⟨_,rfl,fE E,sE [] 5 E⟩
    refine G2 24 [] [143,148,153,158,163] [] E ?_;cases h9133;exact Ce E ⟨_,rfl,fE E,sE [] 5 E⟩
   refine G2 4 [129] [132] [] E ?_;refine Br h9133 136 E E (fun hc12 h9133=> ?_) (fun hc12 h9133=> ?_)
   ·refine G2 4 [136] [] [1,0] E (Cl E ?_);obtain ⟨_,hx13,h9133⟩:=Qg h9133;refine Yd hl10 (Qn.rds hA10 _) hl12 (Qn.rds hA12 _) hx13 ((Q2 2 [136] [] [] E ?_));refine Br h9133 143 E E (fun hc13 h9133=> ?_) (fun hc13 h9133=> ?_)
    ·refine G2 5 [143] [] [] E ?_;refine Br h9133 148 E E (fun hc14 h9133=> ?_) (fun hc14 h9133=> ?_)
     ·refine G2 5 [148] [] [] E ?_;refine Br h9133 153 E E (fun hc15 h9133=> ?_) (fun hc15 h9133=> ?_)
      ·refine G2 2 [153] [] [] E (Cl E ?_);obtain ⟨_,hx14,h9133⟩:=Qg h9133;refine Yd hl13 (Qn.rds hA13 _) hl14 (Qn.rds hA14 _) hx14 ((Q2 2 [153] [] [] E ?_));refine Br h9133 158 E E (fun hc16 h9133=> ?_) (fun hc16 h9133=> ?_)
       ·refine G2 5 [158] [] [] E ?_;refine Br h9133 163 E E (fun hc17 h9133=> ?_) (fun hc17 h9133=> ?_)
        ·refine Cl E ?_;obtain ⟨_,hx15,h9133⟩:=Qg h9133;refine Zc  hx15 (fun _ _=> ?_);refine Q2 3 [163] [] [] E ?_;cases h9133;exact Ce E ⟨_,rfl,fE E,sE [] 5 E⟩
        refine G2 4 [] [163] [] E ?_;cases h9133;exact Ce E ⟨_,rfl,fE E,sE [] 5 E⟩
       refine G2 9 [] [158,163] [] E ?_;cases h9133;exact Ce E ⟨_,rfl,fE E,sE [] 5 E⟩
      refine G2 14 [] [153,158,163] [] E ?_;cases h9133;exact Ce E ⟨_,rfl,fE E,sE [] 5 E⟩
     refine G2 19 [] [148,153,158,163] [] E ?_;cases h9133;exact Ce E ⟨_,rfl,fE E,sE [] 5 E⟩
    refine G2 24 [] [143,148,153,158,163] [] E ?_;cases h9133;exact Ce E ⟨_,rfl,fE E,sE [] 5 E⟩
   refine G2 31 [] [136,143,148,153,158,163] [] E ?_;cases h9133;exact Ce E ⟨_,rfl,fE E,sE [] 5 E⟩
  refine G2 38 [] [129,136,143,148,153,158,163] [] E ?_;cases h9133;exact Ce E ⟨_,rfl,fE E,sE [] 5 E⟩
 rintro _ _ _ _ h hm9133 ⟨v15,rfl,hF9133,hS9133⟩;refine Atn 0 hF9133 hS9133 E E ?_;cases h;exact Rt [] E E (Ug [] 0 (hR _ (hm9052.trans (hm_2.trans (hm_4.trans (hm_5.trans (hm_6.trans (hm_7.trans (hm_8.trans (hm_9.trans (hm_10.trans hm9133)))))))))))
end Go.Proofs.Ytilbengnjgglhaa
namespace Go.Proofs.Ytilbengnjgglhaa
set_option linter.unusedSimpArgs false
set_option linter.unusedVariables false
theorem Qdk {τ ρ:Type} {body:τ→Option (τ⊕ρ)} (I:Nat→τ→ρ→Prop)
  (h: ∀n t o,I n t o→(∃t' n',body t=some (.inl t')∧n'<n∧I n' t' o)∨body t=some (.inr o)): ∀(fuel n:Nat) (t:τ) (o:ρ),I n t o→n<fuel→iter body fuel t=some o
 | 0,_,_,_,_,hm=>by omega
 | f+1,n,t,o,hI,hm=>by
  rcases h n t o hI with ⟨t',n',h1,h2,h3⟩ | h1
  ·simp only[iter,h1,Option.bind_some,QT]
   exact Qdk I h f n' t' o h3 (by omega)
  ·simp only[iter,h1,Option.bind_some,QT]
theorem Qb6 {σ ρ:Type} {body:σ→Option (σ⊕ρ)}: ∀{n m:Nat} {s:σ} {r:ρ},iter body n s=some r→n≤m→iter body m s=some r
 | 0,_,_,_,h,_=>by cases h
 | n+1,0,_,_,_,hm=>by omega
 | n+1,m+1,s,r,h,hm=>by
  simp only[iter] at h ⊢
  cases hb:body s with
  | none=>rw[hb] at h;cases h
  | some q =>
   rw[hb] at h
   cases q with
   | inl s'=>exact Qb6 (n:=n) (m:=m) h (by omega)
   | inr r'=>exact h
theorem Qs {α:Type} (xs:List α) (k:Nat):QM xs (k:Int)=xs[k]? :=by simp[QM]
theorem Qhi {α:Type} {xs:List α} {k:Nat} (h:k<xs.length):QM xs (k:Int)=some xs[k]:=by rw[Qs];simp[h]
theorem Ye {n:Int} (h1: -9223372036854775808≤n) (h2:n≤9223372036854775807):w64 n=n:=Qj0 h1 h2
theorem Ji {k:Nat} (h:k<9223372036854775807):w64 ((k:Int)+1)=((k+1:Nat):Int):=by rw[Ye (by omega) (by omega)];omega
theorem appO_eq {α:Type} {xs ys:List α} (h:xs.length+ys.length≤1000000):VT xs ys=some (xs++ys):=by simp[VT,h]
theorem JW {p:Prop} [Decidable p] (h:p):W7 p=some ():=by simp[W7,h]
def Qds {τ ρ:Type} (o:Option ρ) (t:τ):τ⊕ρ:=match o with
 | none=> .inl t
 | some r=> .inr r
@[simp] theorem QjW {τ ρ:Type} (t:τ):Qds (none:Option ρ) t= .inl t:=rfl
@[simp] theorem QjX {τ ρ:Type} (r:ρ) (t:τ):Qds (some r) t= .inr r:=rfl
def Qkt {σ τ ρ:Type} (f:σ→τ) (q:σ⊕ρ):τ⊕ρ:=match q with
 | .inl s=> .inl (f s)
 | .inr r=> .inr r
@[simp] theorem Qku {σ τ ρ:Type} (f:σ→τ) (s:σ):Qkt f (.inl s:σ⊕ρ)= .inl (f s):=rfl
@[simp] theorem Qkv {σ τ ρ:Type} (f:σ→τ) (r:ρ):Qkt f (.inr r:σ⊕ρ)= .inr r:=rfl
def first {α ρ:Type} (step:α→Option ρ) (fin:ρ):List α→ρ
 | []=>fin
 | x::r=>match step x with
  | none=>first step fin r
  | some o=>o
end Go.Proofs.Ytilbengnjgglhaa
namespace Go.Proofs.Ytilbengnjgglhaa
set_option linter.unusedSimpArgs false
set_option linter.unusedVariables false
theorem QF {α:Type} {l:List α} {k:Nat} {x:α} (h:l[k]? =some x):k<l.length:=by
 rcases Nat.lt_or_ge k l.length with h2 | h2
 ·exact h2
 ·rw[List.getElem?_eq_none h2] at h;cases h
theorem QgM {α:Type} {l:List α} {i:Int} (h0:0≤i) (h1:i<(l.length:Nat)): ∃x,QM l i=some x:=by
 obtain ⟨k,rfl⟩: ∃k:Nat,i=k:=⟨i.toNat,by omega⟩
 exact ⟨_,Qhi (by omega)⟩
def Yt {α ρ:Type} (step:Nat→α→Option ρ) (fin:ρ):Nat→List α→ρ
 | _,[]=>fin
 | k,x::r=>match step k x with
  | none=>Yt step fin (k+1) r
  | some o=>o
theorem YG {α ρ:Type} (xs:List α) {body:Int→Option (Int⊕ρ)} (step:Nat→α→Option ρ) (fin:ρ) (hn:xs.length<9223372036854775807)
  (hb: ∀(k:Nat) (x:α),xs[k]? =some x→body (k:Int)=some (Qds (step k x) (w64 ((k:Int)+1))))
  (hf:body (xs.length:Int)=some (.inr fin)): ∀(n:Nat),xs.length<n→iter body n 0=some (Yt step fin 0 xs):=by
 intro n hlt;refine Qdk (fun m t o=> ∃k:Nat,t=(k:Int)∧m=xs.length-k∧k≤xs.length∧Yt step fin k (xs.drop k)=o) ?_ n xs.length 0 _ ⟨0,rfl,by simp,Nat.zero_le _,by simp⟩ hlt;rintro m _ o ⟨k,rfl,rfl,hk,ho⟩;rcases Nat.lt_or_ge k xs.length with hlt | hge
 ·have h1:=hb k xs[k] (by simp[hlt])
  rw[List.drop_eq_getElem_cons hlt,Yt] at ho
  cases hs:step k xs[k] with
  | none =>
   rw[hs] at h1 ho
   exact .inl ⟨_,xs.length-(k+1),h1,by omega,k+1,by rw[Ji (by omega)],rfl,hlt,ho⟩
  | some r =>
   rw[hs] at h1 ho
   exact .inr (by rw[h1];exact congrArg (fun z=>some (Sum.inr z)) ho)
 ·obtain rfl:k=xs.length:=by omega
  rw[List.drop_length] at ho
  exact .inr (by rw[hf];exact congrArg (fun z=>some (Sum.inr z)) ho)
theorem Jn {α ρ:Type} {step:Nat→α→Option ρ} {fin:ρ}: ∀(l:List α) (k:Nat),(∀(i:Nat) (x:α),l[i]? =some x→step (k+i) x=none)→Yt step fin k l=fin
 | [],_,_=>rfl
 | x::l,k,h=>by
  have h0:=h 0 x rfl
  rw[Nat.add_zero] at h0
  simp only[Yt,h0]
  exact Jn l (k+1) fun i y hy=>by
   have:=h (i+1) y (by simpa using hy)
   rwa [show k+(i+1)=k+1+i by omega] at this
theorem QbJ {α σ τ ρ:Type} (xs:List α) (st:Nat→σ) (mk:σ→Int→τ) {body:τ→Option (τ⊕ρ)} (step:Nat→α→Option ρ) (fin:ρ) (hn:xs.length<9223372036854775807)
  (hb: ∀(k:Nat) (x:α),xs[k]? =some x→(∀(j:Nat) (y:α),j<k→xs[j]? =some y→step j y=none)→body (mk (st k) (k:Int))=some (Qds (step k x) (mk (st (k+1)) (w64 ((k:Int)+1)))))
  (hf:(∀(j:Nat) (y:α),xs[j]? =some y→step j y=none)→body (mk (st xs.length) (xs.length:Int))=some (.inr fin)): ∀(n:Nat),xs.length<n→iter body n (mk (st 0) 0)=some (Yt step fin 0 xs):=by
 intro n hlt;refine Qdk (fun m t o=> ∃k:Nat,t=mk (st k) (k:Int)∧m=xs.length-k∧k≤xs.length∧(∀(j:Nat) (y:α),j<k→xs[j]? =some y→step j y=none)∧Yt step fin k (xs.drop k)=o) ?_ n xs.length _ _ ⟨0,rfl,by simp,Nat.zero_le _,fun j y hj=>absurd hj (Nat.not_lt_zero _),by simp⟩ hlt;rintro m _ o ⟨k,rfl,rfl,hk,hno,ho⟩;rcases Nat.lt_or_ge k xs.length with hlt | hge
 ·have h1:=hb k xs[k] (by simp[hlt]) hno
  rw[List.drop_eq_getElem_cons hlt,Yt] at ho
  cases hs:step k xs[k] with
  | none =>
   rw[hs] at h1 ho
   refine .inl ⟨_,xs.length-(k+1),h1,by omega,k+1,by rw[Ji (by omega)],rfl,hlt,fun j y hj hy=> ?_,ho⟩;rcases Nat.lt_or_ge j k with h | h
   ·exact hno j y h hy
   ·obtain rfl:j=k:=by omega
    rw[List.getElem?_eq_getElem hlt] at hy
    injection hy with hy;rw[←hy];exact hs
  | some r =>
   rw[hs] at h1 ho
   exact .inr (by rw[h1];exact congrArg (fun z=>some (Sum.inr z)) ho)
 ·obtain rfl:k=xs.length:=by omega
  rw[List.drop_length] at ho
  exact .inr (by rw[hf fun j y hy=>hno j y (QF hy) hy];exact congrArg (fun z=>some (Sum.inr z)) ho)
theorem V9 {α:Type} {l:List α} {k:Nat} {x:α} (hx:l[k]? =some x):l.take (k+1)=l.take k++[x]:=by rw[List.take_add_one,hx];rfl
theorem ZH {α:Type} {l:List α} {k:Nat} (h:k≤l.length):(l.take k).length=k:=by simp;omega
def Qg0 {α:Type} (f:α→Int) (l:List α):Int:=(l.map f).sum
@[simp] theorem Qj2 {α:Type} (f:α→Int):Qg0 f []=0:=rfl
@[simp] theorem QjZ {α:Type} (f:α→Int) (x:α) (l:List α):Qg0 f (x::l)=f x+Qg0 f l:=by simp[Qg0]
theorem Qdp {β:Type} {k:Int} {v:β} (m:List (Int×β)):JR k (VI k v m)=some v:=by
 induction m with
 | nil=>simp[VI,JR]
 | cons p m ih =>
  obtain ⟨a,b⟩:=p
  by_cases h:a=k
  ·simp[VI,JR,h]
  ·simp[VI,JR,h,ih]
theorem QeK {β:Type} {k j:Int} {v:β} (h:j≠k) (m:List (Int×β)):JR j (VI k v m)=JR j m:=by
 induction m with
 | nil=>simp[VI,JR];omega
 | cons p m ih =>
  obtain ⟨a,b⟩:=p
  by_cases h2:a=k
  ·subst h2;simp[VI,JR,Ne.symm h]
  ·by_cases h3:a=j
   ·subst h3;simp[VI,JR,h]
   ·simp[VI,JR,h2,h3,ih]
theorem WQ {α ρ:Type} {step:Nat→α→Option ρ} {fin:ρ}: ∀(l:List α) (k:Nat),
  ((∀(i:Nat) (x:α),l[i]? =some x→step (k+i) x=none)∧Yt step fin k l=fin) ∨
  (∃(i:Nat) (x:α) (o:ρ),l[i]? =some x∧step (k+i) x=some o∧Yt step fin k l=o∧ ∀(j:Nat) (y:α),j<i→l[j]? =some y→step (k+j) y=none)
 | [],k=> .inl ⟨fun i x h=>by simp at h,rfl⟩
 | x::l,k=>by
  cases hs:step k x with
  | some o=>exact .inr ⟨0,x,o,rfl,hs,by simp[Yt,hs],fun j y hj=>absurd hj (Nat.not_lt_zero _)⟩
  | none =>
   have hf:Yt step fin k (x::l)=Yt step fin (k+1) l:=by simp[Yt,hs]
   rw[hf]
   rcases WQ (step:=step) (fin:=fin) l (k+1) with ⟨h1,h2⟩ | ⟨i,y,o,h1,h2,h3,h4⟩
   ·refine .inl ⟨fun i y hy=> ?_,h2⟩;cases i with
    | zero=>simp at hy;subst hy;simpa using hs
    | succ i=>have:=h1 i y (by simpa using hy);rwa [show k+1+i=k+(i+1) by omega] at this
   ·refine .inr ⟨i+1,y,o,by simpa using h1,by rwa [show k+1+i=k+(i+1) by omega] at h2,h3,fun j z hj hz=> ?_⟩;cases j with
    | zero=>simp at hz;subst hz;simpa using hs
    | succ j=>have:=h4 j z (by omega) (by simpa using hz);rwa [show k+1+j=k+(j+1) by omega] at this
theorem Vs {α:Type} [DecidableEq α]: ∀{l m:List α},l.Nodup→(∀x∈l,x∈m)→l.length≤m.length
 | [],_,_,_=>Nat.zero_le _
 | x::l,m,hn,h=>by
  rw[List.nodup_cons] at hn
  have hx:=h x (by simp);have:=Vs (l:=l) (m:=m.erase x) hn.2 fun y hy=>(List.mem_erase_of_ne (fun e=>hn.1 (by rw[←e];exact hy))).2 (h y (by simp[hy]))
  rw[List.length_erase_of_mem hx] at this
  have:0<m.length:=List.length_pos_of_mem hx
  simp only[List.length_cons]
  omega
end Go.Proofs.Ytilbengnjgglhaa
namespace Go.Proofs.Ytilbengnjgglhaa
open Go.RowKit
set_option linter.unusedSimpArgs false
set_option linter.unusedVariables false
theorem Yv (a b:Bool):(bif a then some true else some b)=some (a||b):=by cases a<;>rfl
theorem QhQ (a b:Bool):(bif a then some b else some false)=some (a&&b):=by cases a<;>rfl
def JS (r:Qq) (x:QB):Prop:=0≤x.From∧x.From<r.Nodes∧0≤x.To∧x.To<r.Nodes∧x.From≠x.To∧1≤x.Meters∧x.Meters≤100000∧1≤x.Secs∧x.Secs≤100000
def VF (r:Qq) (x:QB):Option (Unit⊕Int) :=
 bif (decide (x.From<0)||(decide (r.Nodes≤x.From)||(decide (x.To<0)||decide (r.Nodes≤x.To)))) then some (.inr 7)
 else bif (decide (x.From=x.To)||(decide (x.Meters<1)||(decide (100000<x.Meters)||(decide (x.Secs<1)||decide (100000<x.Secs))))) then some (.inr 1) else none
theorem Qf3 {r:Qq} {x:QB} (h:VF r x=none):JS r x:=by
 unfold VF at h
 simp only[cond_eq_ite,Bool.or_eq_true,decide_eq_true_eq] at h
 split at h
 ·cases h
 ·split at h
  ·cases h
  ·unfold JS;omega
theorem Qf4 {r:Qq} {x:QB} {o:Unit⊕Int} (h:VF r x=some o): ∃e,o= .inr e∧e≠0:=by
 unfold VF at h
 simp only[cond_eq_ite] at h
 split at h
 ·injection h with h;exact ⟨7,h.symm,by decide⟩
 ·split at h
  ·injection h with h;exact ⟨1,h.symm,by decide⟩
  ·cases h
theorem Qdv (r:Qq) (hn:r.Edges.length≤600) (n:Nat) (h:r.Edges.length<n):iter (Ym r) n 0=some (Yt (fun _ x=>VF r x) (.inl ()) 0 r.Edges):=by
 refine YG r.Edges (fun _ x=>VF r x) (.inl ()) (by omega) (fun k x hx=> ?_) (by simp[Ym]) n h;have hk:=QF hx;have hk2:((k:Int)<(r.Edges.length:Nat)):=by omega
 simp only[Ym,hk2,decide_true,cond_true,Qs,hx,Option.bind_some,Yv,VF]
 generalize (decide (x.From<0)||_)=a
 generalize (decide (x.From=x.To)||_)=b
 cases a<;>cases b<;>rfl
theorem Qge (r:Qq) (hn:r.Edges.length≤600):J9 r=some ⟨r.Nodes,r.Edges.map fun x=>⟨x.From,x.To⟩⟩:=by
 unfold J9;have:=QbJ (body:=Z9 r) r.Edges (fun k=>(r.Edges.take k).map fun x=>(⟨x.From,x.To⟩:Yy)) (fun m k=>(m,k)) (fun _ _=>none) (r.Edges.map fun x=>(⟨x.From,x.To⟩:Yy)) (by omega) (fun k x hx _=> ?_) (fun _=>by simp[Z9,oun]) (((r.Edges.length:Nat):Int).toNat+1) (by simp)
 ·rw[show ((r.Edges.take 0).map fun x=>(⟨x.From,x.To⟩:Yy))=[] by simp] at this
  rw[this,Jn _ _ (fun _ _ _=>rfl)]
  rfl
 ·have hk:=QF hx;have hk2:((k:Int)<(r.Edges.length:Nat)):=by omega
  simp only[Z9,oun,hk2,decide_true,cond_true,Qs,hx,Option.bind_some]
  rw[appO_eq (by simp;omega)]
  simp[V9 hx,Qds]
theorem Qh0 (r:Qq) (hn:r.Edges.length≤512) (h1:1≤r.Nodes) (h2:r.Nodes≤64) (ho: ∀x∈r.Edges,JS r x):WB ⟨r.Nodes,r.Edges.map fun x=>⟨x.From,x.To⟩⟩=some 0:=by
 unfold WB;have:=YG (body:=Jo ⟨r.Nodes,r.Edges.map fun x=>⟨x.From,x.To⟩⟩) (r.Edges.map fun x=>(⟨x.From,x.To⟩:Yy)) (fun _ _=>none) (.inl ():Unit⊕Int) (by simp;omega) (fun k x hx=> ?_) (by simp[Jo]) ((((r.Edges.map fun x=>(⟨x.From,x.To⟩:Yy)).length:Nat):Int).toNat+1) (by simp)
 ·rw[Jn _ _ (fun _ _ _=>rfl)] at this
  simp only[Yv,Option.bind_some]
  rw[show (decide (r.Nodes<0)||decide (64<r.Nodes))=false by simp;omega]
  simp only[cond_false]
  rw[show decide ((512:Int)<(((r.Edges.map fun x=>(⟨x.From,x.To⟩:Yy)).length:Nat):Int))=false by simp;omega]
  simp only[cond_false,this,Option.bind_some,QT]
 ·have hk:=QF hx;have hk2:((k:Int)<((r.Edges.map fun x=>(⟨x.From,x.To⟩:Yy)).length:Nat)):=by omega
  obtain ⟨y,hy,rfl⟩: ∃y,r.Edges[k]? =some y∧(⟨y.From,y.To⟩:Yy)=x:=by
   rw[List.getElem?_map] at hx
   cases hq:r.Edges[k]? with
   | none=>rw[hq] at hx;cases hx
   | some y=>rw[hq] at hx;injection hx with hx;exact ⟨y,rfl,hx⟩
  have hok:=ho y (List.mem_of_getElem? hy)
  simp only[Jo,hk2,decide_true,cond_true,Qs,hx,Option.bind_some,Yv]
  unfold JS at hok
  rw[show (decide (y.From<0)||(decide (r.Nodes≤y.From)||(decide (y.To<0)||decide (r.Nodes≤y.To))))=false by simp;omega]
  rfl
def Vm (r:Qq):Int:=bif (decide (r.Nodes<1)||decide (64<r.Nodes)) then 1 else bif decide ((512:Int)<(r.Edges.length:Nat)) then 8 else
 match Yt (fun _ x=>VF r x) (.inl ()) 0 r.Edges with | .inl _=>0 | .inr e=>e
theorem Jt (r:Qq) (hn:r.Edges.length≤600):ZI r=some (Vm r):=by
 unfold ZI Vm
 simp only[Yv,Option.bind_some]
 rw[Qdv r hn _ (by simp)]
 generalize (decide (r.Nodes<1)||_)=a
 generalize decide ((512:Int)<(r.Edges.length:Nat))=b
 generalize Yt (fun _ x=>VF r x) (.inl ()) 0 r.Edges=o
 cases a<;>cases b<;>cases o<;>rfl
theorem Qdx {r:Qq} (h:Vm r=0):1≤r.Nodes∧r.Nodes≤64∧r.Edges.length≤512∧ ∀x∈r.Edges,JS r x:=by
 unfold Vm at h
 simp only[cond_eq_ite,Bool.or_eq_true,decide_eq_true_eq] at h
 split at h
 ·cases h
 ·split at h
  ·cases h
  ·refine ⟨by omega,by omega,by omega,fun x hx=> ?_⟩;obtain ⟨i,hi⟩:=List.getElem?_of_mem hx;rcases WQ (step:=fun _ x=>VF r x) (fin:=(.inl ():Unit⊕Int)) r.Edges 0 with ⟨h1,_⟩ | ⟨j,y,o,h1,h2,h3,_⟩
   ·exact Qf3 (h1 i x hi)
   ·rw[h3] at h
    obtain ⟨e,rfl,he⟩:=Qf4 h2;exact absurd h he
theorem Qa5 (r:Qq) (hn:r.Edges.length≤600):JT r=some (Vm r):=by
 by_cases hz:Vm r=0
 ·obtain ⟨h1,h2,h3,h4⟩:=Qdx hz;unfold JT
  rw[hz]
  have e1:Wy r=Ym r:=rfl
  rw[e1,Qdv r hn _ (by simp)]
  simp only[Yv,Option.bind_some]
  rw[show (decide (r.Nodes<1)||decide (64<r.Nodes))=false by simp;omega]
  simp only[cond_false]
  rw[show decide ((512:Int)<(r.Edges.length:Nat))=false by simp;omega]
  simp only[cond_false]
  have:Yt (fun _ x=>VF r x) (.inl ():Unit⊕Int) 0 r.Edges= .inl ():=by
   refine Jn _ _ fun i x hx=> ?_;have:=h4 x (List.mem_of_getElem? hx);unfold JS at this;unfold VF
   rw[show (decide (x.From<0)||(decide (r.Nodes≤x.From)||(decide (x.To<0)||decide (r.Nodes≤x.To))))=false by simp;omega,show (decide (x.From=x.To)||(decide (x.Meters<1)||(decide (100000<x.Meters)||(decide (x.Secs<1)||decide (100000<x.Secs)))))=false by simp;omega]
   rfl
  rw[this]
  simp only[QT,Qge r hn,Option.bind_some,Qh0 r h3 h1 h2 h4]
 ·have h:=Jt r hn;unfold JT;have e1:Wy r=Ym r:=rfl
  rw[e1,Qdv r hn _ (by simp)]
  unfold Vm at hz ⊢
  simp only[Yv,Option.bind_some]
  generalize (decide (r.Nodes<1)||_)=a at *
  generalize decide ((512:Int)<(r.Edges.length:Nat))=b at *
  generalize Yt (fun _ x=>VF r x) (.inl ()) 0 r.Edges=o at *
  cases a<;>cases b<;>cases o<;>first | rfl | exact absurd rfl hz
end Go.Proofs.Ytilbengnjgglhaa
