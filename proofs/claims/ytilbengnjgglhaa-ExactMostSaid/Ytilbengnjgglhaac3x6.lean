/- ExactMost: for every input the given law returns true, and its arguments read as before. No condition. -/
import Derived.Test.Ytilbengnjgglhaac3x1
import Derived.Test.Ytilbengnjgglhaac3x3
import Derived.Test.Ytilbengnjgglhaac3x5
import Derived.Test.Ytilbengnjgglhaac3x2
namespace Go.Proofs.Ytilbengnjgglhaa
open Go.RowKit
set_option linter.unusedSimpArgs false
set_option linter.unusedVariables false
set_option maxHeartbeats 2000000
set_option maxRecDepth 4000
attribute [local irreducible] WP YF J9 Fn AN Upd vcR vcO QaK Zc YX WF WE Qaq VW ZC Qaf QA KS
variable {μ:Gh} {L:List Seg} {R:Value→Gh→List Seg→Prop}
theorem Qah {F:Nat} {left1:Int} {b1:Unit} {b2:Qc} {b3:Int} {b4:Bool} {b5:Int} {b6:Qf} {b7:(List Int)} {b8:(List Int)} {b9:(List Bool)} {b10:Unit} {g1:Nat} {g2:Nat} {A1:Option Addr} {c1:Nat} {A2:Option Addr} {c2:Nat} {A3:Option Addr} {c3:Nat} {g3:Nat} {g4:Nat} {g5:Nat} {g6:Nat} {A4:Option Addr} {c4:Nat} {pv1:Value} {so1:Seg} {g7:Nat} {A5:Option Addr} {c5:Nat} {pv2:Value} {so2:Seg} {g8:Nat} {res1:Bool} {res2:Int} {res3:Qf} {res4:(List Int)} {res5:(List Bool)}
  (hl1:b2.Road.Edges.length≤c1∧c1≤maxLen) (hA1:Qp QH μ A1 b2.Road.Edges) (hl2:b2.Vehicles.length≤c2∧c2≤maxLen) (hA2:Qp Qv μ A2 b2.Vehicles) (hl3:b2.Demands.length≤c3∧c3≤maxLen) (hA3:Qp Qy μ A3 b2.Demands) (hl4:b6.Stops.length≤c4∧c4≤maxLen) (hA4:Qp QU μ A4 b6.Stops) (hP1:QL μ pv1 b7 so1) (hl5:b8.length≤c5∧c5≤maxLen) (hA5:Qp QU μ A5 b8) (hP2:Y6 μ pv2 b9 so2) (h:Yp F left1 b1 b2 b3 b4 b5 b6 b7 b8 b9 b10=some (res1,res2,res3,res4,res5))
  (hR: ∀(μ':Gh) (Ab5_1:Option Addr) (cb5_1:Nat) (sp6:Seg) (sp8:Seg),μ.le μ'→(res3.Stops.length≤cb5_1∧cb5_1≤maxLen)→Qp QU μ' Ab5_1 res3.Stops→QL μ' pv1 res4 sp6→Y6 μ' pv2 res5 sp8→R (.tuple #[]) μ' ([(g1,.cells #[.func (.func 29) #[] #[.pointer (some ⟨g2,0,none⟩),.pointer (some ⟨g3,0,none⟩),.pointer (some ⟨g4,0,none⟩),.pointer (some ⟨g5,0,none⟩),.pointer (some ⟨g6,0,none⟩)]] 85 (0,0))]::[(g2,.cells #[.int .i64 b2.Road.Nodes,.slice A1 b2.Road.Edges.length c1,.slice A2 b2.Vehicles.length c2,.slice A3 b2.Demands.length c3,.int .i64 b2.Unload,.int .i64 b2.UnloadSecs] 28 (0,0))]::[(g3,.cells #[.int .i64 b3] 3 (0,0))]::[(g4,.cells #[.bool res1] 4 (0,0))]::[(g5,.cells #[.int .i64 res2] 3 (0,0))]::[(g6,.cells #[.int .i64 res3.Vehicle,.slice Ab5_1 res3.Stops.length cb5_1] 37 (0,0))]::sp6::[(g7,.cells #[.slice A5 b8.length c5] 29 (0,0))]::sp8::[(g8,.cells #[.func (.func 42) #[] #[.pointer (some ⟨g1,0,none⟩),pv1,.pointer (some ⟨g7,0,none⟩),pv2,.pointer (some ⟨g8,0,none⟩)]] 95 (0,0))]::L)) :
  Fn Try.prog 42 [.int .i64 left1,.pointer (some ⟨g1,0,none⟩),pv1,.pointer (some ⟨g7,0,none⟩),pv2,.pointer (some ⟨g8,0,none⟩)] μ ([(g1,.cells #[.func (.func 29) #[] #[.pointer (some ⟨g2,0,none⟩),.pointer (some ⟨g3,0,none⟩),.pointer (some ⟨g4,0,none⟩),.pointer (some ⟨g5,0,none⟩),.pointer (some ⟨g6,0,none⟩)]] 85 (0,0))]::[(g2,.cells #[.int .i64 b2.Road.Nodes,.slice A1 b2.Road.Edges.length c1,.slice A2 b2.Vehicles.length c2,.slice A3 b2.Demands.length c3,.int .i64 b2.Unload,.int .i64 b2.UnloadSecs] 28 (0,0))]::[(g3,.cells #[.int .i64 b3] 3 (0,0))]::[(g4,.cells #[.bool b4] 4 (0,0))]::[(g5,.cells #[.int .i64 b5] 3 (0,0))]::[(g6,.cells #[.int .i64 b6.Vehicle,.slice A4 b6.Stops.length c4] 37 (0,0))]::so1::[(g7,.cells #[.slice A5 b8.length c5] 29 (0,0))]::so2::[(g8,.cells #[.func (.func 42) #[] #[.pointer (some ⟨g1,0,none⟩),pv1,.pointer (some ⟨g7,0,none⟩),pv2,.pointer (some ⟨g8,0,none⟩)]] 95 (0,0))]::L) R:=by
 induction F generalizing μ L R left1 b1 b2 b3 b4 b5 b6 b7 b8 b9 b10 g1 g2 A1 c1 A2 c2 A3 c3 g3 g4 g5 g6 A4 c4 pv1 so1 g7 A5 c5 pv2 so2 g8 res1 res2 res3 res4 res5 with
 | zero=>cases h
 | succ F ih =>
 unfold Yp ZJ at h;refine FnS Try.func42 (by kernel_rfl) E Try.ntmps42 E E ?_;refine G0 6 E ?_;refine Br h 11 E E (fun hc1 h=> ?_) (fun hc1 h=> ?_)
 ·obtain ⟨g9,A6,c6,ch1,hv1,rfl,hO1⟩:=hP1;subst hv1;refine G2 2 [11] [] [] E (In QL.fl 6 11 E E E (G1 3 [0,6] E (Cl E (Fn.gp (L2:=([(g2,.cells #[.int .i64 b2.Road.Nodes,.slice A1 b2.Road.Edges.length c1,.slice A2 b2.Vehicles.length c2,.slice A3 b2.Demands.length c3,.int .i64 b2.Unload,.int .i64 b2.UnloadSecs] 28 (0,0))]::[(g3,.cells #[.int .i64 b3] 3 (0,0))]::[(g4,.cells #[.bool b4] 4 (0,0))]::[(g5,.cells #[.int .i64 b5] 3 (0,0))]::[(g6,.cells #[.int .i64 b6.Vehicle,.slice A4 b6.Stops.length c4] 37 (0,0))]::[(g1,.cells #[.func (.func 29) #[] #[.pointer (some ⟨g2,0,none⟩),.pointer (some ⟨g3,0,none⟩),.pointer (some ⟨g4,0,none⟩),.pointer (some ⟨g5,0,none⟩),.pointer (some ⟨g6,0,none⟩)]] 85 (0,0))]::[(g9,.cells #[.slice A6 b7.length c6] 29 (0,0))]::ch1::[(g7,.cells #[.slice A5 b8.length c5] 29 (0,0))]::so2::[(g8,.cells #[.func (.func 42) #[] #[.pointer (some ⟨g1,0,none⟩),.pointer (some ⟨g9,0,none⟩),.pointer (some ⟨g7,0,none⟩),pv2,.pointer (some ⟨g8,0,none⟩)]] 95 (0,0))]::L)) [[1],[2],[3],[4],[5],[0],[6],[7],[8],[9],[10]] 11 11 (by kernel_rfl) ?_))));obtain ⟨⟨r1,r2,r3⟩,hx1,h⟩:=Qh h;replace h:=Qi h;replace h:=Qi h;refine QcK (Own.lenOk hO1) (Own.rds hO1 2 E) hl1 hA1 hl2 hA2 hl3 hA3 hl4 hA4 hx1 (fun _ A7 c7 hm_1 hl6 hA6=> ?_);replace hA1:=hA1.mono hm_1;replace hA2:=hA2.mono hm_1;replace hA3:=hA3.mono hm_1;replace hA4:=hA4.mono hm_1;replace hA5:=hA5.mono hm_1;replace hP2:=hP2.mono hm_1;replace hO1:=hO1.mono hm_1;refine Q0 1 E (Rt [] E E (UgK (L2:=([(g1,.cells #[.func (.func 29) #[] #[.pointer (some ⟨g2,0,none⟩),.pointer (some ⟨g3,0,none⟩),.pointer (some ⟨g4,0,none⟩),.pointer (some ⟨g5,0,none⟩),.pointer (some ⟨g6,0,none⟩)]] 85 (0,0))]::[(g2,.cells #[.int .i64 b2.Road.Nodes,.slice A1 b2.Road.Edges.length c1,.slice A2 b2.Vehicles.length c2,.slice A3 b2.Demands.length c3,.int .i64 b2.Unload,.int .i64 b2.UnloadSecs] 28 (0,0))]::[(g3,.cells #[.int .i64 b3] 3 (0,0))]::[(g4,.cells #[.bool r1] 4 (0,0))]::[(g5,.cells #[.int .i64 r2] 3 (0,0))]::[(g6,.cells #[.int .i64 r3.Vehicle,.slice A7 r3.Stops.length c7] 37 (0,0))]::([(g9,.cells #[.slice A6 b7.length c6] 29 (0,0))]++ch1)::[(g7,.cells #[.slice A5 b8.length c5] 29 (0,0))]::so2::[(g8,.cells #[.func (.func 42) #[] #[.pointer (some ⟨g1,0,none⟩),.pointer (some ⟨g9,0,none⟩),.pointer (some ⟨g7,0,none⟩),pv2,.pointer (some ⟨g8,0,none⟩)]] 95 (0,0))]::L)) [[5],[0],[1],[2],[3],[4],[6,7],[8],[9],[10]] 11 (by kernel_rfl) ?_));cases h;exact ((hR _ A7 c7 _ _ hm_1 hl6 hA6 ⟨g9,A6,c6,ch1,rfl,rfl,hO1⟩ hP2))
 obtain ⟨g10,A8,c8,ch2,hv2,rfl,hO2⟩:=hP1;subst hv2;refine G2 3 [] [11] [] E (In QL.fl 6 11 E E E ?_);obtain ⟨g11,A9,c9,ch3,hv3,rfl,hO3⟩:=hP2;subst hv3;refine G1 11 [6,8] E (In Y6.fl 9 12 E E E ?_);refine Cut h (fun f l o_ f_ μ_ l_=> ∃(f13:Bool) (f14:Int) (f15:Int) (f16:(List Int)) (f17:(List Int)) (f18:(List Bool)) (A23:Option Addr) (c23:Nat) (A24:Option Addr) (c24:Nat) (ch15:Seg) (A25:Option Addr) (c25:Nat) (ch16:Seg),(f13,f14,f15,f16,f17,f18)=o_∧Qm ([]) f_∧Qe ([(g1,.cells #[.func (.func 29) #[] #[.pointer (some ⟨g2,0,none⟩),.pointer (some ⟨g3,0,none⟩),.pointer (some ⟨g4,0,none⟩),.pointer (some ⟨g5,0,none⟩),.pointer (some ⟨g6,0,none⟩)]] 85 (0,0))]::[(g2,.cells #[.int .i64 b2.Road.Nodes,.slice A1 b2.Road.Edges.length c1,.slice A2 b2.Vehicles.length c2,.slice A3 b2.Demands.length c3,.int .i64 b2.Unload,.int .i64 b2.UnloadSecs] 28 (0,0))]::[(g3,.cells #[.int .i64 b3] 3 (0,0))]::[(g4,.cells #[.bool f13] 4 (0,0))]::[(g5,.cells #[.int .i64 f14] 3 (0,0))]::[(g6,.cells #[.int .i64 f15,.slice A23 f16.length c23] 37 (0,0))]::[(g10,.cells #[.slice A24 f17.length c24] 29 (0,0))]::ch15::[(g7,.cells #[.slice A5 b8.length c5] 29 (0,0))]::[(g11,.cells #[.slice A25 f18.length c25] 94 (0,0))]::ch16::Yt [] 11 l) l_∧(f16.length≤c23∧c23≤maxLen)∧Qp QU μ_ A23 f16∧Own QU 3 μ_ (.slice A24 f17.length c24) f17 ch15∧Own Qdy 4 μ_ (.slice A25 f18.length c25) f18 ch16) ?_ ?_
 ·intro _ h5987 h;refine Lp h5987 (fun f l (j_:(List Int)×(List Bool)×Bool×Int×Int×(List Int)×Int) f_ μ_ l_=>Wx j_ fun f1 j_=>Wx j_ fun f2 j_=>Wx j_ fun f3 j_=>Wx j_ fun f4 j_=>Wx j_ fun f5 j_=>Wx j_ fun f6 v2=> ∃(A10:Option Addr) (c10:Nat) (ch4:Seg) (A11:Option Addr) (c11:Nat) (ch5:Seg) (A12:Option Addr) (c12:Nat),Qm ((19,.int .i64 v2)::Qw [0,2,4,5,7,17,18] f) f_∧Qe ([(g10,.cells #[.slice A10 f1.length c10] 29 (0,0))]::ch4::[(g11,.cells #[.slice A11 f2.length c11] 94 (0,0))]::ch5::[(g8,.cells #[.func (.func 42) #[] #[.pointer (some ⟨g1,0,none⟩),.pointer (some ⟨g10,0,none⟩),.pointer (some ⟨g7,0,none⟩),.pointer (some ⟨g11,0,none⟩),.pointer (some ⟨g8,0,none⟩)]] 95 (0,0))]::[(g1,.cells #[.func (.func 29) #[] #[.pointer (some ⟨g2,0,none⟩),.pointer (some ⟨g3,0,none⟩),.pointer (some ⟨g4,0,none⟩),.pointer (some ⟨g5,0,none⟩),.pointer (some ⟨g6,0,none⟩)]] 85 (0,0))]::[(g2,.cells #[.int .i64 b2.Road.Nodes,.slice A1 b2.Road.Edges.length c1,.slice A2 b2.Vehicles.length c2,.slice A3 b2.Demands.length c3,.int .i64 b2.Unload,.int .i64 b2.UnloadSecs] 28 (0,0))]::[(g3,.cells #[.int .i64 b3] 3 (0,0))]::[(g4,.cells #[.bool f3] 4 (0,0))]::[(g5,.cells #[.int .i64 f4] 3 (0,0))]::[(g6,.cells #[.int .i64 f5,.slice A12 f6.length c12] 37 (0,0))]::Yt [some 8] 12 l) l_∧Own QU 3 μ_ (.slice A10 f1.length c10) f1 ch4∧Own Qdy 4 μ_ (.slice A11 f2.length c11) f2 ch5∧(f6.length≤c12∧c12≤maxLen)∧Qp QU μ_ A12 f6) ⟨A8,c8,ch2,A9,c9,ch3,A4,c4,fE E,sE [some 6,some 7,some 9,some 10,some 11,some 0,some 1,some 2,some 3,some 4,some 5,some 8] 12 E,(hO2),(hO3),(hl4),(hA4)⟩ ?_;rintro ⟨f1,f2,f3,f4,f5,f6,v2⟩ _ _ μ6546 _ hm6546 ⟨A10,c10,ch4,A11,c11,ch5,A12,c12,hF6546,hS6546,hO4,hO5,hl7,hA7⟩ hb6546 hq6546;unfold Yi at hb6546;replace hb6546:=Qi hb6546;replace hb6546:=Qi hb6546;replace hb6546:=Qi hb6546;replace hb6546:=Qi hb6546;replace hb6546:=Qi hb6546;replace hb6546:=Qi hb6546;replace hA1:=hA1.mono hm6546;replace hA2:=hA2.mono hm6546;replace hA3:=hA3.mono hm6546;replace hA5:=hA5.mono hm6546;refine Atn 12 hF6546 hS6546 E E (G0 5 E ?_);refine Br hb6546 20 E E (fun hc2 hb6546=> ?_) (fun hc2 hb6546=> ?_)
  ·refine G2 3 [20] [] [] E ?_;refine Cut hb6546 (fun f l o_ f_ μ_ l_=> ∃(f7:(List Int)) (f8:(List Bool)) (f9:Bool) (f10:Int) (f11:Int) (f12:(List Int)) (A20:Option Addr) (c20:Nat) (ch13:Seg) (A21:Option Addr) (c21:Nat) (ch14:Seg) (A22:Option Addr) (c22:Nat),(f7,f8,f9,f10,f11,f12)=o_∧Qm (Qw [0,2,4,5,7,17,18,19] f) f_∧Qe ([(g10,.cells #[.slice A20 f7.length c20] 29 (0,0))]::ch13::[(g11,.cells #[.slice A21 f8.length c21] 94 (0,0))]::ch14::[(g8,.cells #[.func (.func 42) #[] #[.pointer (some ⟨g1,0,none⟩),.pointer (some ⟨g10,0,none⟩),.pointer (some ⟨g7,0,none⟩),.pointer (some ⟨g11,0,none⟩),.pointer (some ⟨g8,0,none⟩)]] 95 (0,0))]::[(g1,.cells #[.func (.func 29) #[] #[.pointer (some ⟨g2,0,none⟩),.pointer (some ⟨g3,0,none⟩),.pointer (some ⟨g4,0,none⟩),.pointer (some ⟨g5,0,none⟩),.pointer (some ⟨g6,0,none⟩)]] 85 (0,0))]::[(g2,.cells #[.int .i64 b2.Road.Nodes,.slice A1 b2.Road.Edges.length c1,.slice A2 b2.Vehicles.length c2,.slice A3 b2.Demands.length c3,.int .i64 b2.Unload,.int .i64 b2.UnloadSecs] 28 (0,0))]::[(g3,.cells #[.int .i64 b3] 3 (0,0))]::[(g4,.cells #[.bool f9] 4 (0,0))]::[(g5,.cells #[.int .i64 f10] 3 (0,0))]::[(g6,.cells #[.int .i64 f11,.slice A22 f12.length c22] 37 (0,0))]::Yt [] 11 l) l_∧Own QU 3 μ_ (.slice A20 f7.length c20) f7 ch13∧Own Qdy 4 μ_ (.slice A21 f8.length c21) f8 ch14∧(f12.length≤c22∧c22≤maxLen)∧Qp QU μ_ A22 f12) ?_ ?_
   ·intro _ h6581 hb6546;refine G0 4 E (Ix h6581 (Qp.rds hA5 L) E E fun x1 _ _ _ hr1 hc3 _ h6581=> ?_);obtain rfl:=hr1;refine Q3 9 [] [] [64,2] (Z1 (hc3.push.push.push.push.push.push.push.push.push.push.push.push)) E (IxA h6581 (Own.rds hO5 3 E) E E fun _ _ _ _ hr2 hc4 _ h6581=> ?_);obtain rfl:=hr2;refine Q3 2 [] [] [64] (Z1 hc4) E ?_;refine Br h6581 27 E E (fun hc5 h6581=> ?_) (fun hc5 h6581=> ?_)
    ·refine G2 2 [27] [] [] E ?_;cases h6581;exact Ce E ⟨_,_,_,_,_,_,A10,c10,ch4,A11,c11,ch5,A12,c12,rfl,fE E,sE [some 0,some 1,some 2,some 3,some 4,some 5,some 6,some 7,some 8,some 9,some 10,some 11] 12 E,(hO4),(hO5),(hl7),(hA7)⟩
    refine G2 6 [] [27] [2] E (IxA h6581 (Own.rds hO5 3 E) E E fun _ a3 _ hx4 hr3 _ hA10 h6581=> ?_);obtain rfl:=hr3;refine Q0 0 E (So E (YL (vs:=[.bool true]) E E E E E E ?_))
    rw[←Addr.add_zero' ((a3.add (v2.toNat*1)))]
    refine Own.store (μ:=μ6546) (r:=Qdy) (x':=true) (o:=0) (sz:=1) 3 rfl hO5 hA10 hx4 rfl rfl (by rintro _ rfl;rfl) fun ch6 hO6=> ?_
    rw[←Jp f2 v2 true] at hO6 ⊢
    obtain ⟨_,hs1,h6581⟩:=Qh h6581;refine Q1 5 [0] E (Rdo E E (VQ E E E E E E (Own.lenOk hO4).1 hs1 ?_));have hA11:=Rds.pre (Own.rds (L:=([(g10,.cells #[.slice A10 f1.length c10] 29 (0,0))]::ch4::[(g11,.cells #[.slice A11 ((Zy f2 v2 true).length) c11] 94 (0,0))]::ch6::[(g8,.cells #[.func (.func 42) #[] #[.pointer (some ⟨g1,0,none⟩),.pointer (some ⟨g10,0,none⟩),.pointer (some ⟨g7,0,none⟩),.pointer (some ⟨g11,0,none⟩),.pointer (some ⟨g8,0,none⟩)]] 95 (0,0))]::[(g1,.cells #[.func (.func 29) #[] #[.pointer (some ⟨g2,0,none⟩),.pointer (some ⟨g3,0,none⟩),.pointer (some ⟨g4,0,none⟩),.pointer (some ⟨g5,0,none⟩),.pointer (some ⟨g6,0,none⟩)]] 85 (0,0))]::[(g2,.cells #[.int .i64 b2.Road.Nodes,.slice A1 b2.Road.Edges.length c1,.slice A2 b2.Vehicles.length c2,.slice A3 b2.Demands.length c3,.int .i64 b2.Unload,.int .i64 b2.UnloadSecs] 28 (0,0))]::[(g3,.cells #[.int .i64 b3] 3 (0,0))]::[(g4,.cells #[.bool f3] 4 (0,0))]::[(g5,.cells #[.int .i64 f4] 3 (0,0))]::[(g6,.cells #[.int .i64 f5,.slice A12 f6.length c12] 37 (0,0))]::[(g7,.cells #[.slice A5 b8.length c5] 29 (0,0))]::L)) hO4 1 rfl) hs1;have hl8:=Qbl (Own.lenOk hO4) hs1;refine Q0 1 E (So E (Z0 (z:=[.int .i64 0]) E E E E E E E (QM (cells':=[.int .i64 x1]) E E E E (ZQ (fun g12=>Q0 0 E (So E (Zv E ?_)))))));have hO7:=Own.cut hO4 hs1;obtain ⟨l2,hz1,h6581⟩:=Qh h6581;refine ZX (r:=QU) Yf E E E E (by decide) E E 2 E hO7 E (Own.rds (Own.lit (r:=QU) (e:=3) (g:=g12) (xs:=[x1]) (cs:=[.int .i64 x1]) (css:=[[.int .i64 x1]]) E (All2.cons (E) (All2.nil)) E E) 0 E) hz1 fun A13 c13 ch7 hO8=>Q1 7 [1,5] E (Cl E ?_);have hP3:QL μ6546 (.pointer (some ⟨g10,0,none⟩)) l2 _:=⟨g10,A13,c13,ch7,rfl,rfl,hO8⟩
    have hP4:Y6 μ6546 (.pointer (some ⟨g11,0,none⟩)) (Zy f2 v2 true) _:=⟨g11,A11,c11,ch6,rfl,rfl,hO6⟩
    refine Fn.gp (L2:=([(g1,.cells #[.func (.func 29) #[] #[.pointer (some ⟨g2,0,none⟩),.pointer (some ⟨g3,0,none⟩),.pointer (some ⟨g4,0,none⟩),.pointer (some ⟨g5,0,none⟩),.pointer (some ⟨g6,0,none⟩)]] 85 (0,0))]::[(g2,.cells #[.int .i64 b2.Road.Nodes,.slice A1 b2.Road.Edges.length c1,.slice A2 b2.Vehicles.length c2,.slice A3 b2.Demands.length c3,.int .i64 b2.Unload,.int .i64 b2.UnloadSecs] 28 (0,0))]::[(g3,.cells #[.int .i64 b3] 3 (0,0))]::[(g4,.cells #[.bool f3] 4 (0,0))]::[(g5,.cells #[.int .i64 f4] 3 (0,0))]::[(g6,.cells #[.int .i64 f5,.slice A12 f6.length c12] 37 (0,0))]::((g10,Obj.cells #[.slice A13 l2.length c13] 29 (0,0))::ch7)::[(g7,.cells #[.slice A5 b8.length c5] 29 (0,0))]::((g11,Obj.cells #[.slice A11 ((Zy f2 v2 true).length) c11] 94 (0,0))::ch6)::[(g8,.cells #[.func (.func 42) #[] #[.pointer (some ⟨g1,0,none⟩),.pointer (some ⟨g10,0,none⟩),.pointer (some ⟨g7,0,none⟩),.pointer (some ⟨g11,0,none⟩),.pointer (some ⟨g8,0,none⟩)]] 95 (0,0))]::[(g12,.cells #[.int .i64 x1] 3 (0,0))]::L)) [[6],[7],[8],[9],[10],[11],[1,2],[12],[3,4],[5],[0]] 13 11 (by kernel_rfl) ?_;obtain ⟨⟨r4,r5,r6,r7,_⟩,hx5,h6581⟩:=Qh h6581;replace h6581:=Qi h6581;replace h6581:=Qi h6581;replace h6581:=Qi h6581;replace h6581:=Qi h6581;refine ih hl1 hA1 hl2 hA2 hl3 hA3 hl7 hA7 hP3 hl5 hA5 hP4 hx5 (fun v3 A14 c14 _ so4 hm_2 hl9 hA12 hP5 hP6=> ?_);replace hA1:=hA1.mono hm_2;replace hA2:=hA2.mono hm_2;replace hA3:=hA3.mono hm_2;replace hA5:=hA5.mono hm_2;replace hO4:=hO4.mono hm_2;replace hO5:=hO5.mono hm_2;replace hA7:=hA7.mono hm_2;obtain ⟨_,A15,c15,ch8,hv4,rfl,hO9⟩:=hP5;replace hv4:=Wq hv4;subst hv4;refine Q0 2 E (In QL.fl 6 12 E E E ?_);obtain ⟨_,hs2,h6581⟩:=Qh h6581;refine G1 3 [6] E (Rdo E E (VQ E E E E E E (Own.lenOk hO9).1 hs2 ?_));have hA13:=Rds.pre (Own.rds (L:=([(g1,.cells #[.func (.func 29) #[] #[.pointer (some ⟨g2,0,none⟩),.pointer (some ⟨g3,0,none⟩),.pointer (some ⟨g4,0,none⟩),.pointer (some ⟨g5,0,none⟩),.pointer (some ⟨g6,0,none⟩)]] 85 (0,0))]::[(g2,.cells #[.int .i64 b2.Road.Nodes,.slice A1 b2.Road.Edges.length c1,.slice A2 b2.Vehicles.length c2,.slice A3 b2.Demands.length c3,.int .i64 b2.Unload,.int .i64 b2.UnloadSecs] 28 (0,0))]::[(g3,.cells #[.int .i64 b3] 3 (0,0))]::[(g4,.cells #[.bool r4] 4 (0,0))]::[(g5,.cells #[.int .i64 r5] 3 (0,0))]::[(g6,.cells #[.int .i64 r6.Vehicle,.slice A14 r6.Stops.length c14] 37 (0,0))]::[(g10,.cells #[.slice A15 r7.length c15] 29 (0,0))]::ch8::[(g7,.cells #[.slice A5 b8.length c5] 29 (0,0))]::so4::[(g8,.cells #[.func (.func 42) #[] #[.pointer (some ⟨g1,0,none⟩),.pointer (some ⟨g10,0,none⟩),.pointer (some ⟨g7,0,none⟩),.pointer (some ⟨g11,0,none⟩),.pointer (some ⟨g8,0,none⟩)]] 95 (0,0))]::[(g12,.cells #[.int .i64 x1] 3 (0,0))]::L)) hO9 7 rfl) hs2;have hl10:=Qbl (Own.lenOk hO9) hs2;refine Q0 1 E (So E (Z0 (z:=[.int .i64 0,.int .i64 0]) E E E E E E E (QM (cells':=[.int .i64 x1,.int .i64 0]) E E E E (QM (cells':=[.int .i64 x1,.int .i64 (-1)]) E E E E (ZQ (fun g14=>Q0 0 E (So E (Zv E ?_))))))));have hO10:=Own.cut hO9 hs2;obtain ⟨l4,hz2,h6581⟩:=Qh h6581;refine ZX (r:=QU) Yf E E E E (by decide) E E 8 E hO10 E (Own.rds (Own.lit (r:=QU) (e:=3) (g:=g14) (xs:=[x1,(-1)]) (cs:=[.int .i64 x1,.int .i64 (-1)]) (css:=[[.int .i64 x1],[.int .i64 (-1)]]) E (All2.cons (E) (All2.cons (E) (All2.nil))) E E) 0 E) hz2 fun A16 c16 ch9 hO11=>Q1 7 [7,11] E (Cl E ?_);have hP7:QL v3 (.pointer (some ⟨g10,0,none⟩)) l4 _:=⟨g10,A16,c16,ch9,rfl,rfl,hO11⟩
    refine Fn.gp (L2:=([(g1,.cells #[.func (.func 29) #[] #[.pointer (some ⟨g2,0,none⟩),.pointer (some ⟨g3,0,none⟩),.pointer (some ⟨g4,0,none⟩),.pointer (some ⟨g5,0,none⟩),.pointer (some ⟨g6,0,none⟩)]] 85 (0,0))]::[(g2,.cells #[.int .i64 b2.Road.Nodes,.slice A1 b2.Road.Edges.length c1,.slice A2 b2.Vehicles.length c2,.slice A3 b2.Demands.length c3,.int .i64 b2.Unload,.int .i64 b2.UnloadSecs] 28 (0,0))]::[(g3,.cells #[.int .i64 b3] 3 (0,0))]::[(g4,.cells #[.bool r4] 4 (0,0))]::[(g5,.cells #[.int .i64 r5] 3 (0,0))]::[(g6,.cells #[.int .i64 r6.Vehicle,.slice A14 r6.Stops.length c14] 37 (0,0))]::((g10,Obj.cells #[.slice A16 l4.length c16] 29 (0,0))::ch9)::[(g7,.cells #[.slice A5 b8.length c5] 29 (0,0))]::so4::[(g8,.cells #[.func (.func 42) #[] #[.pointer (some ⟨g1,0,none⟩),.pointer (some ⟨g10,0,none⟩),.pointer (some ⟨g7,0,none⟩),.pointer (some ⟨g11,0,none⟩),.pointer (some ⟨g8,0,none⟩)]] 95 (0,0))]::[(g14,.cells #[.int .i64 x1,.int .i64 (-1)] 3 (0,0))]::[(g12,.cells #[.int .i64 x1] 3 (0,0))]::L)) [[1],[2],[3],[4],[5],[6],[7,8],[9],[10],[11],[0],[12]] 13 12 (by kernel_rfl) ?_;obtain ⟨⟨r9,r10,r11,r12,r13⟩,hx6,h6581⟩:=Qh h6581;replace h6581:=Qi h6581;replace h6581:=Qi h6581;replace h6581:=Qi h6581;replace h6581:=Qi h6581;refine ih hl1 hA1 hl2 hA2 hl3 hA3 hl9 hA12 hP7 hl5 hA5 hP6 hx6 (fun v4 A17 c17 _ so6 hm_3 hl11 hA14 hP8 hP9=> ?_);replace hO4:=hO4.mono hm_3;replace hO5:=hO5.mono hm_3;replace hA7:=hA7.mono hm_3;obtain ⟨_,A18,c18,ch10,hv5,rfl,hO12⟩:=hP8;replace hv5:=Wq hv5;subst hv5;refine Q0 2 E (In QL.fl 6 13 E E E ?_);obtain ⟨l5,hs3,h6581⟩:=Qh h6581;refine G1 3 [6] E (Rdo E E (VQ E E E E E E (Own.lenOk hO12).1 hs3 ?_));have hA15:=Rds.pre (Own.rds (L:=([(g1,.cells #[.func (.func 29) #[] #[.pointer (some ⟨g2,0,none⟩),.pointer (some ⟨g3,0,none⟩),.pointer (some ⟨g4,0,none⟩),.pointer (some ⟨g5,0,none⟩),.pointer (some ⟨g6,0,none⟩)]] 85 (0,0))]::[(g2,.cells #[.int .i64 b2.Road.Nodes,.slice A1 b2.Road.Edges.length c1,.slice A2 b2.Vehicles.length c2,.slice A3 b2.Demands.length c3,.int .i64 b2.Unload,.int .i64 b2.UnloadSecs] 28 (0,0))]::[(g3,.cells #[.int .i64 b3] 3 (0,0))]::[(g4,.cells #[.bool r9] 4 (0,0))]::[(g5,.cells #[.int .i64 r10] 3 (0,0))]::[(g6,.cells #[.int .i64 r11.Vehicle,.slice A17 r11.Stops.length c17] 37 (0,0))]::[(g10,.cells #[.slice A18 r12.length c18] 29 (0,0))]::ch10::[(g7,.cells #[.slice A5 b8.length c5] 29 (0,0))]::so6::[(g8,.cells #[.func (.func 42) #[] #[.pointer (some ⟨g1,0,none⟩),.pointer (some ⟨g10,0,none⟩),.pointer (some ⟨g7,0,none⟩),.pointer (some ⟨g11,0,none⟩),.pointer (some ⟨g8,0,none⟩)]] 95 (0,0))]::[(g14,.cells #[.int .i64 x1,.int .i64 (-1)] 3 (0,0))]::[(g12,.cells #[.int .i64 x1] 3 (0,0))]::L)) hO12 7 rfl) hs3;have hl12:=Qbl (Own.lenOk hO12) hs3;refine Q0 0 E (So E (YL (vs:=[.slice A18 l5.length c18]) E E E E E E ?_));have hO13:=Own.cut hO12 hs3;refine ST_ (L':=([(g1,.cells #[.func (.func 29) #[] #[.pointer (some ⟨g2,0,none⟩),.pointer (some ⟨g3,0,none⟩),.pointer (some ⟨g4,0,none⟩),.pointer (some ⟨g5,0,none⟩),.pointer (some ⟨g6,0,none⟩)]] 85 (0,0))]::[(g2,.cells #[.int .i64 b2.Road.Nodes,.slice A1 b2.Road.Edges.length c1,.slice A2 b2.Vehicles.length c2,.slice A3 b2.Demands.length c3,.int .i64 b2.Unload,.int .i64 b2.UnloadSecs] 28 (0,0))]::[(g3,.cells #[.int .i64 b3] 3 (0,0))]::[(g4,.cells #[.bool r9] 4 (0,0))]::[(g5,.cells #[.int .i64 r10] 3 (0,0))]::[(g6,.cells #[.int .i64 r11.Vehicle,.slice A17 r11.Stops.length c17] 37 (0,0))]::[(g10,.cells #[.slice A18 l5.length c18] 29 (0,0))]::ch10::[(g7,.cells #[.slice A5 b8.length c5] 29 (0,0))]::so6::[(g8,.cells #[.func (.func 42) #[] #[.pointer (some ⟨g1,0,none⟩),.pointer (some ⟨g10,0,none⟩),.pointer (some ⟨g7,0,none⟩),.pointer (some ⟨g11,0,none⟩),.pointer (some ⟨g8,0,none⟩)]] 95 (0,0))]::[(g14,.cells #[.int .i64 x1,.int .i64 (-1)] 3 (0,0))]::[(g12,.cells #[.int .i64 x1] 3 (0,0))]::L)) 6 0 E E E E ?_;obtain ⟨_,A19,c19,_,hv6,rfl,hO14⟩:=hP9;replace hv6:=Wq hv6;subst hv6
    refine Q0 1 E (In Y6.fl 9 14 E E E (G1 3 [9] E (IxA h6581 (Own.rds hO14 10 E) E E fun _ a4 _ hx7 hr4 _ hA16 h6581=> ?_)));obtain rfl:=hr4;refine Q0 0 E (So E (YL (vs:=[.bool false]) E E E E E E ?_))
    rw[←Addr.add_zero' ((a4.add (v2.toNat*1)))]
    refine Own.store (μ:=v4) (r:=Qdy) (x':=false) (o:=0) (sz:=1) 10 rfl hO14 hA16 hx7 rfl rfl (by rintro _ rfl;rfl) fun ch12 hO15=> ?_
    rw[←Jp r13 v2 false] at hO15 ⊢
    refine Q0 2 E ?_;cases h6581;exact Ce E ⟨_,_,_,_,_,_,A18,c18,ch10,A19,c19,ch12,A17,c17,rfl,fE E,sE [some 6,some 7,some 9,some 10,some 11,some 0,some 1,some 2,some 3,some 4,some 5,some 8] 14 E,(hO13),(hO15),(hl11),(hA14)⟩
   rintro _ _ _ _ hb6546 hm6581 ⟨f7,f8,f9,f10,f11,f12,A20,c20,ch13,A21,c21,ch14,A22,c22,rfl,hF6581,hS6581,hO16,hO17,hl13,hA17⟩;replace hb6546:=Qi hb6546;replace hb6546:=Qi hb6546;replace hb6546:=Qi hb6546;replace hb6546:=Qi hb6546;replace hb6546:=Qi hb6546;replace hO4:=hO4.mono hm6581;replace hO5:=hO5.mono hm6581;replace hA7:=hA7.mono hm6581;refine Atn 12 hF6581 hS6581 E E (G0 4 E ?_);cases hb6546;exact Ce E ⟨_,rfl,A20,c20,ch13,A21,c21,ch14,A22,c22,fE E,sE [some 0,some 1,some 2,some 3,some 4,some 5,some 6,some 7,some 8,some 9,some 10,some 11] 12 E,(hO16),(hO17),(hl13),(hA17)⟩
  refine G2 2 [] [20] [] E ?_;cases hb6546;have hq_:=hq6546 _ E;subst hq_;exact Ce E ⟨_,_,_,_,_,_,A12,c12,A10,c10,ch4,A11,c11,ch5,rfl,fE E,sE [some 5,some 6,some 7,some 8,some 9,some 10,some 0,some 1,some 11,some 2,some 3,some 4] 12 E,(hl7),(hA7),(hO4),(hO5)⟩
 rintro _ _ _ _ h hm5987 ⟨f13,f14,f15,f16,f17,f18,A23,c23,A24,c24,ch15,A25,c25,ch16,rfl,hF5987,hS5987,hl14,hA18,hO18,hO19⟩;replace h:=Qi h;replace h:=Qi h;replace h:=Qi h;replace h:=Qi h;replace h:=Qi h;refine Atn 12 hF5987 hS5987 E E (Rt [] E E (UgK (L2:=([(g1,.cells #[.func (.func 29) #[] #[.pointer (some ⟨g2,0,none⟩),.pointer (some ⟨g3,0,none⟩),.pointer (some ⟨g4,0,none⟩),.pointer (some ⟨g5,0,none⟩),.pointer (some ⟨g6,0,none⟩)]] 85 (0,0))]::[(g2,.cells #[.int .i64 b2.Road.Nodes,.slice A1 b2.Road.Edges.length c1,.slice A2 b2.Vehicles.length c2,.slice A3 b2.Demands.length c3,.int .i64 b2.Unload,.int .i64 b2.UnloadSecs] 28 (0,0))]::[(g3,.cells #[.int .i64 b3] 3 (0,0))]::[(g4,.cells #[.bool f13] 4 (0,0))]::[(g5,.cells #[.int .i64 f14] 3 (0,0))]::[(g6,.cells #[.int .i64 f15,.slice A23 f16.length c23] 37 (0,0))]::([(g10,.cells #[.slice A24 f17.length c24] 29 (0,0))]++ch15)::[(g7,.cells #[.slice A5 b8.length c5] 29 (0,0))]::([(g11,.cells #[.slice A25 f18.length c25] 94 (0,0))]++ch16)::[(g8,.cells #[.func (.func 42) #[] #[.pointer (some ⟨g1,0,none⟩),.pointer (some ⟨g10,0,none⟩),.pointer (some ⟨g7,0,none⟩),.pointer (some ⟨g11,0,none⟩),.pointer (some ⟨g8,0,none⟩)]] 95 (0,0))]::L)) [[0],[1],[2],[3],[4],[5],[6,7],[8],[9,10],[11]] 12 (by kernel_rfl) ?_));cases h;exact ((hR _ A23 c23 _ _ hm5987 hl14 hA18 ⟨g10,A24,c24,ch15,rfl,rfl,hO18⟩ ⟨g11,A25,c25,ch16,rfl,rfl,hO19⟩))
theorem VE {F:Nat} {demands1:(List Int)} {b1:Qc} {b2:Int} {b3:Bool} {b4:Int} {b5:Qf} {A1:Option Addr} {c1:Nat} {g1:Nat} {A2:Option Addr} {c2:Nat} {A3:Option Addr} {c3:Nat} {A4:Option Addr} {c4:Nat} {g2:Nat} {g3:Nat} {g4:Nat} {g5:Nat} {A5:Option Addr} {c5:Nat} {res1:Bool} {res2:Int} {res3:Qf}
  (hl1:demands1.length≤c1∧c1≤maxLen) (hA1:Qp QU μ A1 demands1) (hl2:b1.Road.Edges.length≤c2∧c2≤maxLen) (hA2:Qp QH μ A2 b1.Road.Edges) (hl3:b1.Vehicles.length≤c3∧c3≤maxLen) (hA3:Qp Qv μ A3 b1.Vehicles) (hl4:b1.Demands.length≤c4∧c4≤maxLen) (hA4:Qp Qy μ A4 b1.Demands) (hl5:b5.Stops.length≤c5∧c5≤maxLen) (hA5:Qp QU μ A5 b5.Stops) (h:ZK F demands1 b1 b2 b3 b4 b5=some (res1,res2,res3))
  (hR: ∀(μ':Gh) (Ab4_1:Option Addr) (cb4_1:Nat),μ.le μ'→(res3.Stops.length≤cb4_1∧cb4_1≤maxLen)→Qp QU μ' Ab4_1 res3.Stops→R (.tuple #[]) μ' ([(g1,.cells #[.int .i64 b1.Road.Nodes,.slice A2 b1.Road.Edges.length c2,.slice A3 b1.Vehicles.length c3,.slice A4 b1.Demands.length c4,.int .i64 b1.Unload,.int .i64 b1.UnloadSecs] 28 (0,0))]::[(g2,.cells #[.int .i64 b2] 3 (0,0))]::[(g3,.cells #[.bool res1] 4 (0,0))]::[(g4,.cells #[.int .i64 res2] 3 (0,0))]::[(g5,.cells #[.int .i64 res3.Vehicle,.slice Ab4_1 res3.Stops.length cb4_1] 37 (0,0))]::L)) :
  Fn Try.prog 28 [.slice A1 demands1.length c1,.func (.func 29) #[] #[.pointer (some ⟨g1,0,none⟩),.pointer (some ⟨g2,0,none⟩),.pointer (some ⟨g3,0,none⟩),.pointer (some ⟨g4,0,none⟩),.pointer (some ⟨g5,0,none⟩)]] μ ([(g1,.cells #[.int .i64 b1.Road.Nodes,.slice A2 b1.Road.Edges.length c2,.slice A3 b1.Vehicles.length c3,.slice A4 b1.Demands.length c4,.int .i64 b1.Unload,.int .i64 b1.UnloadSecs] 28 (0,0))]::[(g2,.cells #[.int .i64 b2] 3 (0,0))]::[(g3,.cells #[.bool b3] 4 (0,0))]::[(g4,.cells #[.int .i64 b4] 3 (0,0))]::[(g5,.cells #[.int .i64 b5.Vehicle,.slice A5 b5.Stops.length c5] 37 (0,0))]::L) R:=by
 unfold ZK at h;refine FnS Try.func28 (by kernel_rfl) E Try.ntmps28 E E ?_;refine G0 2 E (Al E fun g6=>Q0 0 E (Al E fun g7=>Q1 5 [1] E (So E (QfW E E ?_))));obtain ⟨l1,hn1,h⟩:=Qh h;refine QgY (r:=Qdy) (z:=false) (zc:=[.bool false]) Yf E E E E E (E) E hn1 fun A6 c6 ch1 hO1=>Q0 0 E (Al E fun g8=>Q1 7 [0,3] E (So E (QfW E E ?_)));obtain ⟨_,hn2,h⟩:=Qh h;refine QiZ (r:=QU) (z:=0) (zc:=[.int .i64 0]) Yf E E E E E (E) E hn2 fun A7 c7 ch2 hO2=>Q0 0 E (Al E fun g9=>Q1 4 [0] E (Al E fun g10=>Q1 10 [0,0,6] E (Cl E ?_)));have hP1:QL μ (.pointer (some ⟨g9,0,none⟩)) [] _:=⟨g9,A7,c7,ch2,rfl,rfl,hO2⟩
 have hP2:Y6 μ (.pointer (some ⟨g8,0,none⟩)) l1 _:=⟨g8,A6,c6,ch1,rfl,rfl,hO1⟩
 refine Fn.gp (L2:=([(g7,.cells #[.func (.func 29) #[] #[.pointer (some ⟨g1,0,none⟩),.pointer (some ⟨g2,0,none⟩),.pointer (some ⟨g3,0,none⟩),.pointer (some ⟨g4,0,none⟩),.pointer (some ⟨g5,0,none⟩)]] 85 (0,0))]::[(g1,.cells #[.int .i64 b1.Road.Nodes,.slice A2 b1.Road.Edges.length c2,.slice A3 b1.Vehicles.length c3,.slice A4 b1.Demands.length c4,.int .i64 b1.Unload,.int .i64 b1.UnloadSecs] 28 (0,0))]::[(g2,.cells #[.int .i64 b2] 3 (0,0))]::[(g3,.cells #[.bool b3] 4 (0,0))]::[(g4,.cells #[.int .i64 b4] 3 (0,0))]::[(g5,.cells #[.int .i64 b5.Vehicle,.slice A5 b5.Stops.length c5] 37 (0,0))]::((g9,Obj.cells #[.slice A7 0 c7] 29 (0,0))::ch2)::[(g6,.cells #[.slice A1 demands1.length c1] 29 (0,0))]::((g8,Obj.cells #[.slice A6 l1.length c6] 94 (0,0))::ch1)::[(g10,.cells #[.func (.func 42) #[] #[.pointer (some ⟨g7,0,none⟩),.pointer (some ⟨g9,0,none⟩),.pointer (some ⟨g6,0,none⟩),.pointer (some ⟨g8,0,none⟩),.pointer (some ⟨g10,0,none⟩)]] 95 (0,0))]::L)) [[5],[7],[8],[9],[10],[11],[1,2],[6],[3,4],[0]] 12 10 (by kernel_rfl) ?_;obtain ⟨⟨r1,r2,r3,_,_⟩,hx1,h⟩:=Qh h;replace h:=Qi h;replace h:=Qi h;replace h:=Qi h;replace h:=Qi h;refine Qah hl2 hA2 hl3 hA3 hl4 hA4 hl5 hA5 hP1 hl1 hA1 hP2 hx1 (fun _ A8 c8 _ _ hm_1 hl6 hA6 _ _=> ?_);refine Q0 1 E (Rt [] E E (UgK (L2:=([(g1,.cells #[.int .i64 b1.Road.Nodes,.slice A2 b1.Road.Edges.length c2,.slice A3 b1.Vehicles.length c3,.slice A4 b1.Demands.length c4,.int .i64 b1.Unload,.int .i64 b1.UnloadSecs] 28 (0,0))]::[(g2,.cells #[.int .i64 b2] 3 (0,0))]::[(g3,.cells #[.bool r1] 4 (0,0))]::[(g4,.cells #[.int .i64 r2] 3 (0,0))]::[(g5,.cells #[.int .i64 r3.Vehicle,.slice A8 r3.Stops.length c8] 37 (0,0))]::L)) [[1],[2],[3],[4],[5]] 10 (by kernel_rfl) ?_));cases h;exact ((hR _ A8 c8 hm_1 hl6 hA6))
theorem Vn {F:Nat} {p1:Qc} {vehicle1:Int} {demands1:(List Int)} {A1:Option Addr} {c1:Nat} {A2:Option Addr} {c2:Nat} {A3:Option Addr} {c3:Nat} {A4:Option Addr} {c4:Nat} {res1:Qf} {res2:Int} {res3:Bool}
  (hl1:p1.Road.Edges.length≤c1∧c1≤maxLen) (hA1:Qp QH μ A1 p1.Road.Edges) (hl2:p1.Vehicles.length≤c2∧c2≤maxLen) (hA2:Qp Qv μ A2 p1.Vehicles) (hl3:p1.Demands.length≤c3∧c3≤maxLen) (hA3:Qp Qy μ A3 p1.Demands) (hl4:demands1.length≤c4∧c4≤maxLen) (hA4:Qp QU μ A4 demands1) (h:JJ F p1 vehicle1 demands1=some (res1,res2,res3))
  (hR: ∀(μ':Gh) (A0_1:Option Addr) (c0_1:Nat),μ.le μ'→(res1.Stops.length≤c0_1∧c0_1≤maxLen)→Qp QU μ' A0_1 res1.Stops→R (.tuple #[.agg #[.int .i64 res1.Vehicle,.slice A0_1 res1.Stops.length c0_1],.int .i64 res2,.bool res3]) μ' (L)) :
  Fn Try.prog 19 [.agg #[.int .i64 p1.Road.Nodes,.slice A1 p1.Road.Edges.length c1,.slice A2 p1.Vehicles.length c2,.slice A3 p1.Demands.length c3,.int .i64 p1.Unload,.int .i64 p1.UnloadSecs],.int .i64 vehicle1,.slice A4 demands1.length c4] μ (L) R:=by
 unfold JJ at h;refine FnS Try.func19 (by kernel_rfl) E Try.ntmps19 E E ?_;refine G0 2 E (Al E fun g1=>Q0 0 E (Al E fun g2=>Q0 0 E (Al E fun g3=>Q1 7 [1] E (Al E fun g4=>Q0 0 E (Al E fun g5=>Q0 0 E (Al E fun g6=>Q1 8 [2,1,0] E (Cl E (Fn.gp [[5],[4],[0],[1],[2],[3]] 6 6 E ?_))))))));obtain ⟨⟨r1,r2,r3⟩,hx1,h⟩:=Qh h;replace h:=Qi h;replace h:=Qi h;refine VE hl4 hA4 hl1 hA1 hl2 hA2 hl3 hA3 ⟨Nat.le_refl _,Nat.zero_le _⟩ Qp.nil hx1 (fun _ A5 c5 hm_1 hl5 hA5=> ?_);refine Q0 2 E (Drk [5] 5 E [(true,0),(true,1),(true,2),(false,3),(true,4),(true,5)] (by kernel_rfl) (G1 3 [4,3,2] E (So E (YL (vs:=[.int .i64 r3.Vehicle,.slice A5 r3.Stops.length c5]) E E E E E E (ST_ (L':=([(g1,.cells #[.int .i64 p1.Road.Nodes,.slice A1 p1.Road.Edges.length c1,.slice A2 p1.Vehicles.length c2,.slice A3 p1.Demands.length c3,.int .i64 p1.Unload,.int .i64 p1.UnloadSecs] 28 (0,0))]::[(g2,.cells #[.int .i64 vehicle1] 3 (0,0))]::[(g6,.cells #[.bool r1] 4 (0,0))]::[(g5,.cells #[.int .i64 r2] 3 (0,0))]::[(g4,.cells #[.int .i64 r3.Vehicle,.slice A5 r3.Stops.length c5] 37 (0,0))]::[(g3,.cells #[.int .i64 r3.Vehicle,.slice A5 r3.Stops.length c5] 37 (0,0))]::L)) 5 0 E E E E ?_)))));refine ⟨Kp [0,1,2,3,4] 6 E,?_⟩;refine Q0 3 E ?_;cases h;exact Rt [5] E E (Ug [] 6 (hR _ A5 c5 hm_1 hl5 hA5))
theorem Vm {F:Nat} {p1:Qc} {vehicle1:Int} {demands1:(List Int)} {A1:Option Addr} {c1:Nat} {A2:Option Addr} {c2:Nat} {A3:Option Addr} {c3:Nat} {A4:Option Addr} {c4:Nat} {res1:Qf} {res2:Int} {res3:Int}
  (hl1:p1.Road.Edges.length≤c1∧c1≤maxLen) (hA1:Qp QH μ A1 p1.Road.Edges) (hl2:p1.Vehicles.length≤c2∧c2≤maxLen) (hA2:Qp Qv μ A2 p1.Vehicles) (hl3:p1.Demands.length≤c3∧c3≤maxLen) (hA3:Qp Qy μ A3 p1.Demands) (hl4:demands1.length≤c4∧c4≤maxLen) (hA4:Qp QU μ A4 demands1) (h:JI F p1 vehicle1 demands1=some (res1,res2,res3))
  (hR: ∀(μ':Gh) (A0_1:Option Addr) (c0_1:Nat),μ.le μ'→(res1.Stops.length≤c0_1∧c0_1≤maxLen)→Qp QU μ' A0_1 res1.Stops→R (.tuple #[.agg #[.int .i64 res1.Vehicle,.slice A0_1 res1.Stops.length c0_1],.int .i64 res2,.int .i64 res3]) μ' (L)) :
  Fn Try.prog 9 [.agg #[.int .i64 p1.Road.Nodes,.slice A1 p1.Road.Edges.length c1,.slice A2 p1.Vehicles.length c2,.slice A3 p1.Demands.length c3,.int .i64 p1.Unload,.int .i64 p1.UnloadSecs],.int .i64 vehicle1,.slice A4 demands1.length c4] μ (L) R:=by
 unfold JI at h;refine FnS Try.func9 (by kernel_rfl) E Try.ntmps9 E E ?_;refine G0 2 E (Al E fun _=>Q0 0 E (Al E fun _=>Q1 9 [1] E (Cl E ?_)));obtain ⟨_,hx1,h⟩:=Qh h;refine WZ hl1 hA1 hl2 hA2 hl3 hA3 hl4 (Qp.rds hA4 _) hx1 (fun _ hm_1=> ?_);replace hA1:=hA1.mono hm_1;replace hA2:=hA2.mono hm_1;replace hA3:=hA3.mono hm_1;replace hA4:=hA4.mono hm_1;refine Q0 7 E ?_;refine Br h 18 E E (fun hc1 h=> ?_) (fun hc1 h=> ?_)
 ·refine G2 9 [18] [] [0] E ?_;cases h;exact Rt [0] E E (Ug [] 2 (hR _ none 0 hm_1 ⟨Nat.le_refl _,Nat.zero_le _⟩ Qp.nil))
 refine G2 7 [] [18] [1] E (Cl E ?_);obtain ⟨⟨_,_,_⟩,hx2,h⟩:=Qh h;replace h:=Qi h;replace h:=Qi h;refine Vn hl1 hA1 hl2 hA2 hl3 hA3 hl4 hA4 hx2 (fun _ A5 c5 hm_2 hl5 hA5=> ?_);refine Q0 4 E (Al E fun _=>Q1 10 [0] E ?_);refine Br h 30 E E (fun hc2 h=> ?_) (fun hc2 h=> ?_)
 ·refine G2 8 [30] [] [1] E ?_;cases h;exact Rt [1] E E (Ug [] 3 (hR _ none 0 (hm_1.trans hm_2) ⟨Nat.le_refl _,Nat.zero_le _⟩ Qp.nil))
 refine G2 10 [] [30] [0,1] E ?_;cases h;exact Rt [1] E E (Ug [] 3 (hR _ A5 c5 (hm_1.trans hm_2) hl5 hA5))
theorem ZF {F:Nat} {p1:Qc} {vehicle1:Int} {demands1:(List Int)} {A1:Option Addr} {c1:Nat} {A2:Option Addr} {c2:Nat} {A3:Option Addr} {c3:Nat} {A4:Option Addr} {c4:Nat} {res1:Bool} {res2:Int}
  (hl1:p1.Road.Edges.length≤c1∧c1≤maxLen) (hA1:Qp QH μ A1 p1.Road.Edges) (hl2:p1.Vehicles.length≤c2∧c2≤maxLen) (hA2:Qp Qv μ A2 p1.Vehicles) (hl3:p1.Demands.length≤c3∧c3≤maxLen) (hA3:Qp Qy μ A3 p1.Demands) (hl4:demands1.length≤c4∧c4≤maxLen) (hA4:Qp QU μ A4 demands1) (h:Y7 F p1 vehicle1 demands1=some (res1,res2))
  (hR: ∀(μ':Gh) ,μ.le μ'→R (.tuple #[.bool res1,.int .i64 res2]) μ' (L)) :
  Fn Try.prog 13 [.agg #[.int .i64 p1.Road.Nodes,.slice A1 p1.Road.Edges.length c1,.slice A2 p1.Vehicles.length c2,.slice A3 p1.Demands.length c3,.int .i64 p1.Unload,.int .i64 p1.UnloadSecs],.int .i64 vehicle1,.slice A4 demands1.length c4] μ (L) R:=by
 unfold Y7 at h;refine FnS Try.func13 (by kernel_rfl) E Try.ntmps13 E E ?_;refine G0 2 E (Al E fun _=>Q1 9 [0] E (Cl E ?_));obtain ⟨_,hx1,h⟩:=Qh h;refine WZ hl1 hA1 hl2 hA2 hl3 hA3 hl4 (Qp.rds hA4 _) hx1 (fun _ hm_1=> ?_);replace hA1:=hA1.mono hm_1;replace hA2:=hA2.mono hm_1;replace hA3:=hA3.mono hm_1;replace hA4:=hA4.mono hm_1;refine Q0 7 E ?_;refine Br h 17 E E (fun hc1 h=> ?_) (fun hc1 h=> ?_)
 ·refine G2 7 [17] [] [] E ?_;cases h;exact Rt [] E E (Ug [] 1 (hR _ hm_1))
 refine G2 7 [] [17] [0] E (Cl E ?_);obtain ⟨⟨_,_,_⟩,hx2,h⟩:=Qh h;replace h:=Qi h;replace h:=Qi h;refine Vn hl1 hA1 hl2 hA2 hl3 hA3 hl4 hA4 hx2 (fun _ _ _ hm_2 _ _=> ?_);refine Q0 4 E (Al E fun _=>Q1 10 [0] E ?_);cases h;exact Rt [] E E (Ug [] 2 (hR _ (hm_1.trans hm_2)))
theorem Va  {b1:(List Int)} {y1:Int} {l1:Nat} {q1:Qbz} {pv1:Value} {so1:Seg} {res1:(List Int)}
  (hq1:YOk 13 l1 q1 [(2,pv1)] Try.f53.body) (hP1:QL μ pv1 b1 so1) (h:Zo b1 y1=some res1)
  (hR: ∀(sp1:Seg),QL μ pv1 res1 sp1→R (.bool true) μ ([(l1,yr .ready q1)]::sp1::L)) :
  Rnd Try.prog l1 [.int .i64 y1] μ ([(l1,yr .ready q1)]::so1::L) R:=by
 unfold Zo at h;refine Rnd.ok hq1 E E ?_ 0 E;refine G0 3 E (Ce E (QiH.mk 0 2 E E ?_));obtain ⟨g1,_,_,_,hv1,rfl,hO1⟩:=hP1;subst hv1;refine G0 1 E (In QL.fl 1 3 E E E (G1 3 [1] E (So E (Z0 (z:=[.int .i64 0]) E E E E E E E (QM (cells':=[.int .i64 y1]) E E E E (ZQ (fun g2=>Q0 0 E (So E (Zv E ?_)))))))));obtain ⟨_,hz1,h⟩:=Qh h;refine ZX (r:=QU) Yf E E E E (by decide) E E 3 E hO1 E (Own.rds (Own.lit (r:=QU) (e:=3) (g:=g2) (xs:=[y1]) (cs:=[.int .i64 y1]) (css:=[[.int .i64 y1]]) E (All2.cons (E) (All2.nil)) E E) 0 E) hz1 fun A2 c2 ch2 hO2=>Q1 3 [2] E ?_;cases h;exact Ce E (QhJ.mk 1 4 E E ((Ug [[1],[2,3]] 4 (hR _ ⟨g1,A2,c2,ch2,rfl,rfl,hO2⟩))))
theorem W5  {b1:(List Int)} {b2:(List Int)} {l1:Nat} {q1:Qbz} {pv1:Value} {so1:Seg} {g1:Nat} {A1:Option Addr} {c1:Nat} {res1:(List Int)}
  (hq1:YOk 13 l1 q1 [(2,pv1)] Try.f53.body) (hP1:QL μ pv1 b1 so1) (hl1:b2.length≤c1∧c1≤maxLen) (hA1:Qp QU μ A1 b2) (h:Zf b1 b2=some res1)
  (hR: ∀(sp1:Seg),QL μ pv1 res1 sp1→R (.tuple #[]) μ ([(l1,yr .ready q1)]::sp1::[(g1,.cells #[.slice A1 b2.length c1] 29 (0,0))]::L)) :
  Fn Try.prog 38 [.func (.yield l1) #[] #[],.pointer (some ⟨g1,0,none⟩)] μ ([(l1,yr .ready q1)]::so1::[(g1,.cells #[.slice A1 b2.length c1] 29 (0,0))]::L) R:=by
 unfold Zf at h;refine FnS Try.func38 (by kernel_rfl) E Try.ntmps38 E E ?_;refine G1 6 [2] E ?_;refine Cut h (fun f l o_ f_ μ_ l_=> ∃(q3:(List Int)) (so4:Seg),q3=o_∧Qm ([]) f_∧Qe ([(l1,yr .ready q1)]::so4::Yt [] 2 l) l_∧QL μ_ pv1 q3 so4∧μ=μ_) ?_ ?_
 ·intro _ h7863 h;refine Lp h7863 (fun f l (j_:Int×(List Int)) f_ μ_ l_=>Wx j_ fun v1 q2=> ∃(so2:Seg),Qm ((7,.int .i64 v1)::Qw [0,5,6] f) f_∧Qe ([(l1,yr .ready q1)]::so2::Yt [] 2 l) l_∧QL μ_ pv1 q2 so2∧μ=μ_) ⟨so1,fE E,sE [some 0,some 1,some 2] 3 E,(hP1),E⟩ ?_;rintro ⟨v1,q2⟩ _ _ _ _ _ ⟨so2,hF7874,hS7874,hP2,rfl⟩ hb7874 hq7874;unfold Q7 at hb7874;replace hb7874:=Qi hb7874;refine Atn 3 hF7874 hS7874 E E (G0 5 E ?_);refine Br hb7874 8 E E (fun hc1 hb7874=> ?_) (fun hc1 hb7874=> ?_)
  ·refine G2 6 [8] [] [] E (Ix hb7874 (Qp.rds hA1 L) E E fun _ _ _ _ hr1 hc2 _ hb7874=> ?_);obtain rfl:=hr1;refine Q3 7 [] [] [64] (Z1 (hc2.push.push.push)) E (ClY E E ?_);obtain ⟨_,hx2,hb7874⟩:=Qh hb7874;refine Va hq1 hP2 hx2 (fun so3 hP3=>Q2 9 [] [14] [] E ?_);cases hb7874;exact Ce E ⟨_,rfl,so3,fE E,sE [some 0,some 1,some 2] 3 E,(hP3),rfl⟩
  refine G2 2 [] [8] [] E ?_;cases hb7874;have hq_:=hq7874 _ E;subst hq_;exact Ce E ⟨_,so2,rfl,fE E,sE [some 0,some 1,some 2] 3 E,(hP2),rfl⟩
 rintro _ _ _ _ h _ ⟨q3,so4,rfl,hF7863,hS7863,hP4,rfl⟩;refine Atn 3 hF7863 hS7863 E E ?_;cases h;exact Rt [] E E (Ug [[0],[1],[2]] 3 (hR _ hP4))
theorem Wc  {b1:(List Int)} {g1:Nat} {A1:Option Addr} {c1:Nat} {res1:(List Int)}
  (hl1:b1.length≤c1∧c1≤maxLen) (hA1:Qp QU μ A1 b1) (h:YE b1=some res1)
  (hR: ∀(A0:Option Addr) (c0:Nat) (ch0:Seg),Own QU 3 μ (.slice A0 res1.length c0) res1 ch0→R (.slice A0 res1.length c0) μ (ch0::[(g1,.cells #[.slice A1 b1.length c1] 29 (0,0))]::L)) :
  Fn Try.prog 53 [.slice none 0 0,.func (.func 38) #[] #[.pointer (some ⟨g1,0,none⟩)]] μ ([(g1,.cells #[.slice A1 b1.length c1] 29 (0,0))]::L) R:=by
 unfold YE at h;refine Qkt Try.func53 (by kernel_rfl) E Try.ntmps53 E E ?_;refine G0 1 E (Al E fun g2=>Q0 5 E (Rg (c:=Try.f53.body) [(2,.pointer (some ⟨g2,0,none⟩))] E E E (fg:=Try.f38) Try.func38 E fun _ _ hq1=> ?_));have hP1:QL μ (.pointer (some ⟨g2,0,none⟩)) [] _:=⟨g2,none,0,[],rfl,rfl,Own.nil⟩
 refine Fn.gp [[0],[2,99],[3],[1]] 4 4 E ?_;obtain ⟨_,hx1,h⟩:=Qh h;refine W5 hq1 hP1 hl1 hA1 hx1 (fun _ hP2=>RgE.mk 0 3 E E ?_);obtain ⟨_,A2,c2,ch1,hv1,rfl,hO1⟩:=hP2;replace hv1:=Wq hv1;subst hv1;refine G0 1 E (In QL.fl 0 4 E E E (G1 4 [0] E ?_));cases h;exact RtM 3 3 [] E E E E (Ug [[1],[2]] 3 (hR A2 c2 ch1 hO1))
theorem Vb  {b1:(List Int)} {g1:Nat} {A1:Option Addr} {c1:Nat} {res1:(List Int)}
  (hl1:b1.length≤c1∧c1≤maxLen) (hA1:Qp QU μ A1 b1) (h:Zp b1=some res1)
  (hR: ∀(A0:Option Addr) (c0:Nat) (ch0:Seg),Own QU 3 μ (.slice A0 res1.length c0) res1 ch0→R (.slice A0 res1.length c0) μ (ch0::[(g1,.cells #[.slice A1 b1.length c1] 29 (0,0))]::L)) :
  Fn Try.prog 36 [.func (.func 38) #[] #[.pointer (some ⟨g1,0,none⟩)]] μ ([(g1,.cells #[.slice A1 b1.length c1] 29 (0,0))]::L) R:=by
 unfold Zp at h;refine FnS Try.func36 (by kernel_rfl) E Try.ntmps36 E E ?_;refine G0 7 E (Cl E ?_);obtain ⟨_,hx1,h⟩:=Qh h;refine Wc hl1 hA1 hx1 (fun A2 c2 ch1 hO1=>Q0 2 E ?_);cases h;exact Rt [] E E (Ug [[0],[1]] 2 (hR A2 c2 ch1 hO1))
theorem Vu  {b1:(List Int)} {g1:Nat} {A1:Option Addr} {c1:Nat} {res1:(List Int)}
  (hl1:b1.length≤c1∧c1≤maxLen) (hA1:Qp QU μ A1 b1) (h:Y0 b1=some res1)
  (hR: ∀(A0:Option Addr) (c0:Nat) (ch0:Seg),Own QU 3 μ (.slice A0 res1.length c0) res1 ch0→R (.slice A0 res1.length c0) μ (ch0::[(g1,.cells #[.slice A1 b1.length c1] 29 (0,0))]::L)) :
  Fn Try.prog 22 [.func (.func 38) #[] #[.pointer (some ⟨g1,0,none⟩)]] μ ([(g1,.cells #[.slice A1 b1.length c1] 29 (0,0))]::L) R:=by
 unfold Y0 at h;refine FnS Try.func22 (by kernel_rfl) E Try.ntmps22 E E ?_;refine G0 7 E (Cl E ?_);obtain ⟨_,hx1,h⟩:=Qh h;refine Vb hl1 hA1 hx1 (fun A2 c2 _ hO1=>Q0 5 E (Cl E ?_));obtain ⟨_,hs1,h⟩:=Qh h;refine Qiv Try.func37 (by kernel_rfl) E Try.slices_Sort_int Try.slices_Sort_int_none 0 E hO1 hs1 fun ch2 hO2=> ?_
 rw[QeJ hs1]
 refine Q0 6 E ?_;cases h;exact Rt [] E E (Ug [[0],[1]] 2 (hR A2 c2 ch2 hO2))
theorem Qa2 {F:Nat} {p1:Qc} {vehicle1:Int} {demands1:(List Int)} {A1:Option Addr} {c1:Nat} {A2:Option Addr} {c2:Nat} {A3:Option Addr} {c3:Nat} {A4:Option Addr} {c4:Nat} {res1:(List Int)} {res2:Int}
  (hl1:p1.Road.Edges.length≤c1∧c1≤maxLen) (hA1:Qp QH μ A1 p1.Road.Edges) (hl2:p1.Vehicles.length≤c2∧c2≤maxLen) (hA2:Qp Qv μ A2 p1.Vehicles) (hl3:p1.Demands.length≤c3∧c3≤maxLen) (hA3:Qp Qy μ A3 p1.Demands) (hl4:demands1.length≤c4∧c4≤maxLen) (hA4:Qp QU μ A4 demands1) (h:Wg F p1 vehicle1 demands1=some (res1,res2))
  (hR: ∀(μ':Gh) (A0_0:Option Addr) (c0_0:Nat),μ.le μ'→(res1.length≤c0_0∧c0_0≤maxLen)→Qp QU μ' A0_0 res1→R (.tuple #[.slice A0_0 res1.length c0_0,.int .i64 res2]) μ' (L)) :
  Fn Try.prog 14 [.agg #[.int .i64 p1.Road.Nodes,.slice A1 p1.Road.Edges.length c1,.slice A2 p1.Vehicles.length c2,.slice A3 p1.Demands.length c3,.int .i64 p1.Unload,.int .i64 p1.UnloadSecs],.int .i64 vehicle1,.slice A4 demands1.length c4] μ (L) R:=by
 unfold Wg at h;refine FnS Try.func14 (by kernel_rfl) E Try.ntmps14 E E ?_;refine G0 2 E (Al E fun g1=>Q1 9 [0] E (Cl E ?_));obtain ⟨_,hx1,h⟩:=Qh h;refine WZ hl1 hA1 hl2 hA2 hl3 hA3 hl4 (Qp.rds hA4 _) hx1 (fun _ hm_1=> ?_);replace hA1:=hA1.mono hm_1;replace hA2:=hA2.mono hm_1;replace hA3:=hA3.mono hm_1;replace hA4:=hA4.mono hm_1;refine Q0 7 E ?_;refine Br h 23 E E (fun hc1 h=> ?_) (fun hc1 h=> ?_)
 ·refine G2 7 [23] [] [] E ?_;cases h;exact Rt [] E E (Ug [] 1 (hR _ none 0 hm_1 ⟨Nat.le_refl _,Nat.zero_le _⟩ Qp.nil))
 refine G2 5 [] [23] [] E (Cl E (FnS Try.func23 (by kernel_rfl) E Try.ntmps23 E E (G0 2 E (Al E fun _=>Q0 7 E (Rt [] E E (Upd.done (Q0 0 E (Cl E ?_))))))));obtain ⟨_,hx2,h⟩:=Qh h;refine Vu hl4 hA4 hx2 (fun _ _ ch1 hO1=>Q0 11 E (Rdo E E ?_));obtain ⟨_,hg1,h⟩:=Qh h;refine QhH E E E (Vd hg1) (Q0 2 E ?_);refine Cut h (fun f l o_ f_ μ_ l_=> ∃(out3:(List Int)) (A13:Option Addr) (c13:Nat),out3=o_∧Qm ((10,.slice A13 out3.length c13)::[]) f_∧Qe (Yt [] 3 l) l_∧(out3.length≤c13∧c13≤maxLen)∧Qp QU μ_ A13 out3) ?_ ?_
 ·intro _ h7938 h;refine Lp h7938 (fun f l (j_:(List Int)×Int×Int) f_ μ_ l_=>Wx j_ fun out1 j_=>Wx j_ fun v2 v3=> ∃(A6:Option Addr) (c6:Nat),Qm ((10,.slice A6 out1.length c6)::(30,.int .i64 v2)::(31,.int .i64 v3)::Qw [1,3,9] f) f_∧Qe (Yt [some 2,some 0] 3 l) l_∧(out1.length≤c6∧c6≤maxLen)∧Qp QU μ_ A6 out1) ⟨none,0,fE E,sE [some 2,some 0] 3 E,(⟨Nat.le_refl _,Nat.zero_le _⟩),(Qp.nil)⟩ ?_;rintro ⟨out1,v2,v3⟩ _ _ _ _ hm7987 ⟨A6,c6,hF7987,hS7987,hl5,hA5⟩ hb7987 hq7987;unfold ZP at hb7987;replace hb7987:=Qi hb7987;replace hb7987:=Qi hb7987;replace hA1:=hA1.mono hm7987;replace hA2:=hA2.mono hm7987;replace hA3:=hA3.mono hm7987;replace hO1:=hO1.mono hm7987;refine Atn 2 hF7987 hS7987 E E (G0 5 E ?_);refine Br hb7987 32 E E (fun hc2 hb7987=> ?_) (fun hc2 hb7987=> ?_)
  ·refine G2 3 [32] [] [] E ?_;refine Cut hb7987 (fun f l o_ f_ μ_ l_=> ∃(out2:(List Int)) (A12:Option Addr) (c12:Nat),out2=o_∧Qm ((10,.slice A12 out2.length c12)::Qw [1,3,9,30,31] f) f_∧Qe l l_∧(out2.length≤c12∧c12≤maxLen)∧Qp QU μ_ A12 out2) ?_ ?_
   ·intro _ h7994 hb7987;refine G0 17 E ?_;refine Cut h7994 (fun f l o_ f_ μ_ l_=> ∃(l4:(List Int)) (A10:Option Addr) (c10:Nat) (ch5:Seg),l4=o_∧Qm ((12,.slice A10 l4.length c10)::Qw [1,3,9,10,30,31] f) f_∧Qe ([(g1,.cells #[.int .i64 p1.Road.Nodes,.slice A1 p1.Road.Edges.length c1,.slice A2 p1.Vehicles.length c2,.slice A3 p1.Demands.length c3,.int .i64 p1.Unload,.int .i64 p1.UnloadSecs] 28 (0,0))]::ch1::ch5::Yt [] 2 l) l_∧Own QU 3 μ_ (.slice A10 l4.length c10) l4 ch5) ?_ ?_
    ·intro _ h7997 h7994;refine Lp h7997 (fun f l (j_:(List Int)×Int) f_ μ_ l_=>Wx j_ fun l1 v4=> ∃(A7:Option Addr) (c7:Nat) (ch2:Seg),Qm ((12,.slice A7 l1.length c7)::(36,.int .i64 v4)::Qw [1,3,9,10,11,30,31,34,35] f) f_∧Qe ([(g1,.cells #[.int .i64 p1.Road.Nodes,.slice A1 p1.Road.Edges.length c1,.slice A2 p1.Vehicles.length c2,.slice A3 p1.Demands.length c3,.int .i64 p1.Unload,.int .i64 p1.UnloadSecs] 28 (0,0))]::ch1::ch2::Yt [] 2 l) l_∧Own QU 3 μ_ (.slice A7 l1.length c7) l1 ch2) ⟨none,0,[],fE E,sE [some 0,some 1,none] 2 E,(Own.nil)⟩ ?_;rintro ⟨l1,v4⟩ _ _ _ _ hm8009 ⟨A7,c7,ch2,hF8009,hS8009,hO2⟩ hb8009 hq8009;unfold ZO at hb8009;replace hb8009:=Qi hb8009;replace hA1:=hA1.mono hm8009;replace hA2:=hA2.mono hm8009;replace hA3:=hA3.mono hm8009;replace hO1:=hO1.mono hm8009;replace hA5:=hA5.mono hm8009;refine Atn 3 hF8009 hS8009 E E (G0 5 E ?_);refine Br hb8009 37 E E (fun hc3 hb8009=> ?_) (fun hc3 hb8009=> ?_)
     ·refine G2 3 [37] [] [] E ?_;refine Cut hb8009 (fun f l o_ f_ μ_ l_=> ∃(l3:(List Int)) (A9:Option Addr) (c9:Nat) (ch4:Seg),l3=o_∧Qm ((12,.slice A9 l3.length c9)::Qw [1,3,9,10,11,30,31,34,35,36] f) f_∧Qe ([(g1,.cells #[.int .i64 p1.Road.Nodes,.slice A1 p1.Road.Edges.length c1,.slice A2 p1.Vehicles.length c2,.slice A3 p1.Demands.length c3,.int .i64 p1.Unload,.int .i64 p1.UnloadSecs] 28 (0,0))]::ch1::ch4::Yt [] 3 l) l_∧Own QU 3 μ_ (.slice A9 l3.length c9) l3 ch4) ?_ ?_
      ·intro _ h8015 hb8009;refine G0 4 E (IxA h8015 (Own.rds hO1 1 E) E E fun x1 _ _ _ hr1 hc4 _ h8015=> ?_);obtain rfl:=hr1;refine Q3 8 [] [] [64] (Z1 hc4) E (Rdo E E ?_);obtain ⟨_,hg2,h8015⟩:=Qh h8015;refine QhI E E E (Vd hg2) (Q0 0 E (Rdo E E ?_));refine Qi3 E E ⟨_,Qe8 _ _ _,?_⟩;refine Q0 2 E ?_;refine Br h8015 45 E E (fun hc5 h8015=> ?_) (fun hc5 h8015=> ?_)
       ·refine G2 4 [45] [] [] E (So E (Z0 (z:=[.int .i64 0]) E E E E E E E (QM (cells':=[.int .i64 x1]) E E E E (ZQ (fun g3=>Q0 0 E (So E (Zv E ?_)))))));obtain ⟨_,hz1,h8015⟩:=Qh h8015;refine ZX (r:=QU) Yf E E E E (by decide) E E 3 E hO2 E (Own.rds (Own.lit (r:=QU) (e:=3) (g:=g3) (xs:=[x1]) (cs:=[.int .i64 x1]) (css:=[[.int .i64 x1]]) E (All2.cons (E) (All2.nil)) E E) 0 E) hz1 fun A8 c8 ch3 hO3=>Q0 3 E ?_;cases h8015;exact Ce E ⟨_,A8,c8,ch3,rfl,fE E,sE [some 1,some 2,some 3] 4 E,(hO3)⟩
       refine G2 3 [] [45] [] E ?_;cases h8015;exact Ce E ⟨_,A7,c7,ch2,rfl,fE E,sE [some 0,some 1,some 2] 3 E,(hO2)⟩
      rintro _ _ _ _ hb8009 hm8015 ⟨l3,A9,c9,ch4,rfl,hF8015,hS8015,hO4⟩;replace hA1:=hA1.mono hm8015;replace hA2:=hA2.mono hm8015;replace hA3:=hA3.mono hm8015;replace hA5:=hA5.mono hm8015;replace hO2:=hO2.mono hm8015;refine Atn 3 hF8015 hS8015 E E (G0 4 E ?_);cases hb8009;exact Ce E ⟨_,rfl,A9,c9,ch4,fE E,sE [some 0,some 1,some 2] 3 E,(hO4)⟩
     refine G2 2 [] [37] [] E ?_;cases hb8009;have hq_:=hq8009 _ E;subst hq_;exact Ce E ⟨_,A7,c7,ch2,rfl,fE E,sE [some 0,some 1,some 2] 3 E,(hO2)⟩
    rintro _ _ _ _ h7994 hm7997 ⟨l4,A10,c10,ch5,rfl,hF7997,hS7997,hO5⟩;replace hA1:=hA1.mono hm7997;replace hA2:=hA2.mono hm7997;replace hA3:=hA3.mono hm7997;replace hA5:=hA5.mono hm7997;refine Atn 3 hF7997 hS7997 E E (G0 2 E ?_);refine Cut h7994 (fun f l o_ f_ μ_ l_=> ∃(v5:Bool),v5=o_∧Qm ((68,.bool v5)::Qw [1,3,9,10,12,30,31] f) f_∧Qe l l_) ?_ ?_
    ·intro _ h8024 h7994;refine G0 7 E ?_;refine Br h8024 56 E E (fun hc6 h8024=> ?_) (fun hc6 h8024=> ?_)
     ·refine G2 13 [56] [] [] E ?_;cases h8024;exact Ce E ⟨_,rfl,fE E,sE [some 0,some 1,some 2] 3 E⟩
     refine G2 6 [] [56] [] E ?_;refine Br h8024 62 E E (fun hc7 h8024=> ?_) (fun hc7 h8024=> ?_)
     ·refine G2 2 [62] [] [] E (Cl E ?_);obtain ⟨_,hx4,h8024⟩:=Qh h8024;refine Wd (Own.lenOk hO5) (Own.rds hO5 2 E) hl5 (Qp.rds hA5 _) hx4 ((Q2 4 [62] [56] [] E ?_));cases h8024;exact Ce E ⟨_,rfl,fE E,sE [some 0,some 1,some 2] 3 E⟩
     refine G2 7 [] [56,62] [] E ?_;cases h8024;exact Ce E ⟨_,rfl,fE E,sE [some 0,some 1,some 2] 3 E⟩
    rintro _ _ _ _ h7994 hm8024 ⟨v5,rfl,hF8024,hS8024⟩;replace hA1:=hA1.mono hm8024;replace hA2:=hA2.mono hm8024;replace hA3:=hA3.mono hm8024;replace hA5:=hA5.mono hm8024;replace hO5:=hO5.mono hm8024;refine Atn 3 hF8024 hS8024 E E ?_;refine Br h7994 68 E E (fun hc8 h7994=> ?_) (fun hc8 h7994=> ?_)
    ·refine G2 2 [68] [] [] E ?_;cases h7994;exact Ce E ⟨_,A6,c6,rfl,fE E,sE [some 0,some 1] 3 E,(hl5),(hA5)⟩
    refine G2 7 [] [68] [0] E (Cl E ?_);have hl6:=Own.lenOk hO5;refine Fn.pre Try.func19 (by kernel_rfl) E (Upd.frzOwn 2 E hO5 fun _ hm_2 hA7=>Upd.done ?_);replace hA1:=hA1.mono hm_2;replace hA2:=hA2.mono hm_2;replace hA3:=hA3.mono hm_2;replace hA5:=hA5.mono hm_2;obtain ⟨⟨_,_,_⟩,hx5,h7994⟩:=Qh h7994;replace h7994:=Qi h7994;replace h7994:=Qi h7994;refine Vn hl1 hA1 hl2 hA2 hl3 hA3 hl6 hA7 hx5 (fun _ _ _ hm_3 _ _=> ?_);replace hA5:=hA5.mono hm_3;replace hA7:=hA7.mono hm_3;refine Q0 4 E (Al E fun _=>Q1 8 [0] E ?_);refine Br h7994 77 E E (fun hc9 h7994=> ?_) (fun hc9 h7994=> ?_)
    ·refine G2 6 [77] [] [] E ?_;cases h7994;exact Ce E ⟨_,A10,c10,rfl,fE E,sE [some 1,some 2] 4 E,(hl6),(hA7)⟩
    refine G2 3 [] [77] [] E ?_;cases h7994;exact Ce E ⟨_,A6,c6,rfl,fE E,sE [some 1,some 2] 4 E,(hl5),(hA5)⟩
   rintro _ _ _ _ hb7987 hm7994 ⟨out2,A12,c12,rfl,hF7994,hS7994,hl8,hA9⟩;replace hA5:=hA5.mono hm7994;refine Atn 2 hF7994 hS7994 E E (G0 4 E ?_);cases hb7987;exact Ce E ⟨_,rfl,A12,c12,fE E,sE [some 0,some 1] 2 E,(hl8),(hA9)⟩
  refine G2 2 [] [32] [] E ?_;cases hb7987;have hq_:=hq7987 _ E;subst hq_;exact Ce E ⟨_,A6,c6,rfl,fE E,sE [] 2 E,(hl5),(hA5)⟩
 rintro _ _ _ _ h hm7938 ⟨out3,A13,c13,rfl,hF7938,hS7938,hl9,hA10⟩;refine Atn 0 hF7938 hS7938 E E (G0 6 E ?_);cases h;exact Rt [] E E (Ug [] 0 (hR _ A13 c13 (hm_1.trans hm7938) hl9 hA10))
theorem Z6  {a1:(List Int)} {b1:(List Int)} {A1:Option Addr} {c1:Nat} {A2:Option Addr} {c2:Nat} {res1:Bool}
  (hl1:a1.length≤c1∧c1≤maxLen) (hA1:Rds QU μ L A1 a1) (hl2:b1.length≤c2∧c2≤maxLen) (hA2:Rds QU μ L A2 b1) (h:Zk a1 b1=some res1)
  (hR:R (.bool res1) μ (L)) :
  Fn Try.prog 15 [.slice A1 a1.length c1,.slice A2 b1.length c2] μ (L) R:=by
 unfold Zk at h;refine FnS Try.func15 (by kernel_rfl) E Try.ntmps15 E E ?_;refine G0 13 E ?_;refine Br h 10 E E (fun hc1 h=> ?_) (fun hc1 h=> ?_)
 ·refine G2 5 [10] [] [] E ?_;cases h;exact Rt [] E E (Ug [] 0 hR)
 refine G2 7 [] [10] [] E ?_;refine Cut h (fun f l o_ f_ μ_ l_=>(.inl ())=o_∧Qm ([]) f_∧Qe l l_∧μ=μ_) ?_ ?_
 ·intro _ h8048 h;refine Lp h8048 (fun f l (i1:Int) f_ μ_ l_=>Qm ((5,.int .i64 i1)::Qw [0,1] f) f_∧Qe l l_∧μ=μ_) ⟨fE E,sE [] 0 E,E⟩ ?_;rintro i1 _ _ _ _ _ ⟨hF8050,hS8050,rfl⟩ hb8050 hq8050;unfold J3 at hb8050;refine Atn 0 hF8050 hS8050 E E (G0 8 E ?_);refine Br hb8050 14 E E (fun hc2 hb8050=> ?_) (fun hc2 hb8050=> ?_)
  ·refine G2 5 [14] [] [] E (Dr _ QA.refl [(true,0),(true,1),(true,2),(true,3),(true,4),(true,5),(true,6),(true,7),(true,8)] (by kernel_rfl) (G0 2 E (Ix hb8050 hA1 E E fun _ _ _ _ hr1 hc3 _ hb8050=> ?_)));obtain rfl:=hr1;refine Q3 3 [] [] [64] (Z1 hc3) E (Ix hb8050 hA2 E E fun _ _ _ _ hr2 hc4 _ hb8050=> ?_);obtain rfl:=hr2;refine Q3 3 [] [] [64] (Z1 hc4) E ?_;refine Br hb8050 25 E E (fun hc5 hb8050=> ?_) (fun hc5 hb8050=> ?_)
   ·refine G2 5 [25] [] [] E ?_;cases hb8050;have hq_:=hq8050 _ E;subst hq_;replace h:=Zw h;cases h;exact Rt [] E E (Ug [] 0 hR)
   refine G2 8 [] [25] [] E ?_;cases hb8050;exact Ce E ⟨_,rfl,fE E,sE [] 0 E,rfl⟩
  refine G2 2 [] [14] [] E ?_;cases hb8050;have hq_:=hq8050 _ E;subst hq_;exact Ce E ⟨rfl,fE E,sE [] 0 E,rfl⟩
 rintro _ _ _ _ h _ ⟨rfl,hF8048,hS8048,rfl⟩;replace h:=Z3 h;refine Atn 0 hF8048 hS8048 E E (G0 4 E ?_);cases h;exact Rt [] E E (Ug [] 0 hR)
theorem ZW {F:Nat}   {res1:Bool}
   (h:Yq F=some res1)
  (hR: ∀(μ':Gh) ,μ.le μ'→R (.bool res1) μ' (L)) :
  Fn Try.prog 8 [] μ (L) R:=by
 unfold Yq at h;refine FnS Try.func8 (by kernel_rfl) E Try.ntmps8 E E ?_;refine G0 6 E (Cl E ?_);obtain ⟨_,hx1,h⟩:=Qh h;refine Yc  hx1 (fun _ _ _ _ _ _ _ hm_1 hl1 hA1 hl2 hA2 hl3 hA3=>Q0 0 E (So E (Z0 (z:=[.int .i64 0,.int .i64 0]) E E E E E E E (QM (cells':=[.int .i64 1,.int .i64 0]) E E E E (QM (cells':=[.int .i64 1,.int .i64 0]) E E E E (ZQ (fun g1=>Q0 0 E (Cl E ?_))))))));have hl4:[1,0].length≤2∧2≤maxLen:=⟨Nat.le_refl _,by unfold maxLen;omega⟩
 refine Fn.pre Try.func9 (by kernel_rfl) E (Upd.frzOwn 0 E (Own.lit (r:=QU) (e:=3) (g:=g1) (xs:=[1,0]) (cs:=[.int .i64 1,.int .i64 0]) (css:=[[.int .i64 1],[.int .i64 0]]) E (All2.cons (E) (All2.cons (E) (All2.nil))) E E) fun _ hm_2 hA4=>Upd.done ?_);replace hA1:=hA1.mono hm_2;replace hA2:=hA2.mono hm_2;replace hA3:=hA3.mono hm_2;obtain ⟨⟨_,_,_⟩,hx2,h⟩:=Qh h;replace h:=Qi h;replace h:=Qi h;refine Vm hl1 hA1 hl2 hA2 hl3 hA3 hl4 hA4 hx2 (fun _ _ _ hm_3 hl5 hA5=> ?_);refine Q0 4 E (Al E fun _=>Q1 6 [0] E (Cl E ?_));obtain ⟨_,hx3,h⟩:=Qh h;refine Yc  hx3 (fun _ _ _ _ _ _ _ hm_4 hl6 hA6 hl7 hA7 hl8 hA8=> ?_);replace hA5:=hA5.mono hm_4;refine Q0 0 E (So E (Z0 (z:=[.int .i64 0,.int .i64 0]) E E E E E E E (QM (cells':=[.int .i64 0,.int .i64 0]) E E E E (QM (cells':=[.int .i64 0,.int .i64 1]) E E E E (ZQ (fun g3=>Q0 0 E (Cl E ?_)))))));have hl9:[0,1].length≤2∧2≤maxLen:=⟨Nat.le_refl _,by unfold maxLen;omega⟩
 refine Fn.pre Try.func9 (by kernel_rfl) E (Upd.frzOwn 0 E (Own.lit (r:=QU) (e:=3) (g:=g3) (xs:=[0,1]) (cs:=[.int .i64 0,.int .i64 1]) (css:=[[.int .i64 0],[.int .i64 1]]) E (All2.cons (E) (All2.cons (E) (All2.nil))) E E) fun _ hm_5 hA9=>Upd.done ?_);replace hA5:=hA5.mono hm_5;replace hA6:=hA6.mono hm_5;replace hA7:=hA7.mono hm_5;replace hA8:=hA8.mono hm_5;obtain ⟨⟨_,_,_⟩,hx4,h⟩:=Qh h;replace h:=Qi h;replace h:=Qi h;refine Vm hl6 hA6 hl7 hA7 hl8 hA8 hl9 hA9 hx4 (fun _ _ _ hm_6 hl10 hA10=> ?_);replace hA5:=hA5.mono hm_6;refine Q0 4 E (Al E fun _=>Q1 6 [0] E (Cl E ?_));obtain ⟨_,hx5,h⟩:=Qh h;refine Yc  hx5 (fun _ _ _ _ _ _ _ hm_7 hl11 hA11 hl12 hA12 hl13 hA13=> ?_);replace hA5:=hA5.mono hm_7;replace hA10:=hA10.mono hm_7;refine Q0 0 E (So E (Z0 (z:=[.int .i64 0,.int .i64 0]) E E E E E E E (QM (cells':=[.int .i64 0,.int .i64 0]) E E E E (QM (cells':=[.int .i64 0,.int .i64 1]) E E E E (ZQ (fun g5=>Q0 0 E (Cl E ?_)))))));have hl14:[0,1].length≤2∧2≤maxLen:=⟨Nat.le_refl _,by unfold maxLen;omega⟩
 refine Fn.pre Try.func9 (by kernel_rfl) E (Upd.frzOwn 0 E (Own.lit (r:=QU) (e:=3) (g:=g5) (xs:=[0,1]) (cs:=[.int .i64 0,.int .i64 1]) (css:=[[.int .i64 0],[.int .i64 1]]) E (All2.cons (E) (All2.cons (E) (All2.nil))) E E) fun _ hm_8 hA14=>Upd.done ?_);replace hA5:=hA5.mono hm_8;replace hA10:=hA10.mono hm_8;replace hA11:=hA11.mono hm_8;replace hA12:=hA12.mono hm_8;replace hA13:=hA13.mono hm_8;obtain ⟨⟨_,_,_⟩,hx6,h⟩:=Qh h;replace h:=Qi h;replace h:=Qi h;refine Vm hl11 hA11 hl12 hA12 hl13 hA13 hl14 hA14 hx6 (fun _ _ _ hm_9 _ _=> ?_);replace hA5:=hA5.mono hm_9;replace hA10:=hA10.mono hm_9;refine Q0 4 E (Al E fun _=>Q1 6 [0] E (Cl E ?_));obtain ⟨_,hx7,h⟩:=Qh h;refine Yc  hx7 (fun _ _ _ _ _ _ _ hm_10 hl16 hA16 hl17 hA17 hl18 hA18=> ?_);replace hA5:=hA5.mono hm_10;replace hA10:=hA10.mono hm_10;refine Q0 0 E (So E (Z0 (z:=[.int .i64 0]) E E E E E E E (QM (cells':=[.int .i64 0]) E E E E (ZQ (fun g7=>Q0 0 E (Cl E ?_))))));have hl19:[0].length≤1∧1≤maxLen:=⟨Nat.le_refl _,by unfold maxLen;omega⟩
 refine Fn.pre Try.func13 (by kernel_rfl) E (Upd.frzOwn 0 E (Own.lit (r:=QU) (e:=3) (g:=g7) (xs:=[0]) (cs:=[.int .i64 0]) (css:=[[.int .i64 0]]) E (All2.cons (E) (All2.nil)) E E) fun _ hm_11 hA19=>Upd.done ?_);replace hA5:=hA5.mono hm_11;replace hA10:=hA10.mono hm_11;replace hA16:=hA16.mono hm_11;replace hA17:=hA17.mono hm_11;replace hA18:=hA18.mono hm_11;obtain ⟨⟨_,_⟩,hx8,h⟩:=Qh h;replace h:=Qi h;refine ZF hl16 hA16 hl17 hA17 hl18 hA18 hl19 hA19 hx8 (fun _ hm_12=> ?_);replace hA5:=hA5.mono hm_12;replace hA10:=hA10.mono hm_12;refine Q0 8 E (Cl E ?_);obtain ⟨_,hx9,h⟩:=Qh h;refine Yc  hx9 (fun _ _ _ _ _ _ _ hm_13 hl20 hA20 hl21 hA21 hl22 hA22=> ?_);replace hA5:=hA5.mono hm_13;replace hA10:=hA10.mono hm_13;refine Q0 0 E (So E (Z0 (z:=[.int .i64 0,.int .i64 0]) E E E E E E E (QM (cells':=[.int .i64 0,.int .i64 0]) E E E E (QM (cells':=[.int .i64 0,.int .i64 1]) E E E E (ZQ (fun g8=>Q0 0 E (Cl E ?_)))))));have hl23:[0,1].length≤2∧2≤maxLen:=⟨Nat.le_refl _,by unfold maxLen;omega⟩
 refine Fn.pre Try.func13 (by kernel_rfl) E (Upd.frzOwn 0 E (Own.lit (r:=QU) (e:=3) (g:=g8) (xs:=[0,1]) (cs:=[.int .i64 0,.int .i64 1]) (css:=[[.int .i64 0],[.int .i64 1]]) E (All2.cons (E) (All2.cons (E) (All2.nil))) E E) fun _ hm_14 hA23=>Upd.done ?_);replace hA5:=hA5.mono hm_14;replace hA10:=hA10.mono hm_14;replace hA20:=hA20.mono hm_14;replace hA21:=hA21.mono hm_14;replace hA22:=hA22.mono hm_14;obtain ⟨⟨_,_⟩,hx10,h⟩:=Qh h;replace h:=Qi h;refine ZF hl20 hA20 hl21 hA21 hl22 hA22 hl23 hA23 hx10 (fun _ hm_15=> ?_);replace hA5:=hA5.mono hm_15;replace hA10:=hA10.mono hm_15;refine Q0 8 E (Cl E ?_);obtain ⟨_,hx11,h⟩:=Qh h;refine Yc  hx11 (fun _ _ _ _ _ _ _ hm_16 hl24 hA24 hl25 hA25 hl26 hA26=> ?_);replace hA5:=hA5.mono hm_16;replace hA10:=hA10.mono hm_16;refine Q0 0 E (So E (Z0 (z:=[.int .i64 0,.int .i64 0]) E E E E E E E (QM (cells':=[.int .i64 1,.int .i64 0]) E E E E (QM (cells':=[.int .i64 1,.int .i64 0]) E E E E (ZQ (fun g9=>Q0 0 E (Cl E ?_)))))));have hl27:[1,0].length≤2∧2≤maxLen:=⟨Nat.le_refl _,by unfold maxLen;omega⟩
 refine Fn.pre Try.func14 (by kernel_rfl) E (Upd.frzOwn 0 E (Own.lit (r:=QU) (e:=3) (g:=g9) (xs:=[1,0]) (cs:=[.int .i64 1,.int .i64 0]) (css:=[[.int .i64 1],[.int .i64 0]]) E (All2.cons (E) (All2.cons (E) (All2.nil))) E E) fun _ hm_17 hA27=>Upd.done ?_);replace hA5:=hA5.mono hm_17;replace hA10:=hA10.mono hm_17;replace hA24:=hA24.mono hm_17;replace hA25:=hA25.mono hm_17;replace hA26:=hA26.mono hm_17;obtain ⟨⟨_,_⟩,hx12,h⟩:=Qh h;replace h:=Qi h;refine Qa2 hl24 hA24 hl25 hA25 hl26 hA26 hl27 hA27 hx12 (fun _ _ _ hm_18 hl28 hA28=> ?_);replace hA5:=hA5.mono hm_18;replace hA10:=hA10.mono hm_18;refine Q0 7 E ?_;refine Cut h (fun f l o_ f_ μ_ l_=> ∃(v19:Bool),v19=o_∧Qm ((0,.bool v19)::[]) f_∧Qe (Yt [] 9 l) l_) ?_ ?_
 ·intro _ h8114 h;refine G0 4 E ?_;refine Br h8114 57 E E (fun hc1 h8114=> ?_) (fun hc1 h8114=> ?_)
  ·refine G2 4 [57] [] [] E ?_;refine Br h8114 61 E E (fun hc2 h8114=> ?_) (fun hc2 h8114=> ?_)
   ·refine G2 2 [61] [] [7] E (So E (Z0 (z:=[.int .i64 0,.int .i64 0,.int .i64 0]) E E E E E E E (QM (cells':=[.int .i64 0,.int .i64 0,.int .i64 0]) E E E E (QM (cells':=[.int .i64 0,.int .i64 1,.int .i64 0]) E E E E (QM (cells':=[.int .i64 0,.int .i64 1,.int .i64 (-1)]) E E E E (ZQ (fun g10=>Q0 0 E (Cl E ?_))))))));obtain ⟨_,hx13,h8114⟩:=Qh h8114;refine Z6 hl5 (Qp.rds hA5 _) (Qge (c:=3) E E) (Own.rds (Own.lit (r:=QU) (e:=3) (g:=g10) (xs:=[0,1,(-1)]) (cs:=[.int .i64 0,.int .i64 1,.int .i64 (-1)]) (css:=[[.int .i64 0],[.int .i64 1],[.int .i64 (-1)]]) E (All2.cons (E) (All2.cons (E) (All2.cons (E) (All2.nil)))) E E) 0 E) hx13 ((Q2 2 [61] [] [] E ?_));refine Br h8114 67 E E (fun hc3 h8114=> ?_) (fun hc3 h8114=> ?_)
    ·refine G2 4 [67] [] [] E ?_;refine Br h8114 71 E E (fun hc4 h8114=> ?_) (fun hc4 h8114=> ?_)
     ·refine G2 4 [71] [] [] E ?_;refine Br h8114 75 E E (fun hc5 h8114=> ?_) (fun hc5 h8114=> ?_)
      ·refine G2 2 [75] [] [6] E (So E (Z0 (z:=[.int .i64 0,.int .i64 0,.int .i64 0,.int .i64 0]) E E E E E E E (QM (cells':=[.int .i64 0,.int .i64 0,.int .i64 0,.int .i64 0]) E E E E (QM (cells':=[.int .i64 0,.int .i64 (-1),.int .i64 0,.int .i64 0]) E E E E (QM (cells':=[.int .i64 0,.int .i64 (-1),.int .i64 1,.int .i64 0]) E E E E (QM (cells':=[.int .i64 0,.int .i64 (-1),.int .i64 1,.int .i64 (-1)]) E E E E (ZQ (fun g11=>Q0 0 E (Cl E ?_)))))))));obtain ⟨_,hx14,h8114⟩:=Qh h8114;refine Z6 hl10 (Qp.rds hA10 _) (Qge (c:=4) E E) (Own.rds (Own.lit (r:=QU) (e:=3) (g:=g11) (xs:=[0,(-1),1,(-1)]) (cs:=[.int .i64 0,.int .i64 (-1),.int .i64 1,.int .i64 (-1)]) (css:=[[.int .i64 0],[.int .i64 (-1)],[.int .i64 1],[.int .i64 (-1)]]) E (All2.cons (E) (All2.cons (E) (All2.cons (E) (All2.cons (E) (All2.nil))))) E E) 0 E) hx14 ((Q2 2 [75] [] [] E ?_));refine Br h8114 81 E E (fun hc6 h8114=> ?_) (fun hc6 h8114=> ?_)
       ·refine G2 4 [81] [] [] E ?_;refine Br h8114 85 E E (fun hc7 h8114=> ?_) (fun hc7 h8114=> ?_)
        ·refine G2 4 [85] [] [] E ?_;refine Br h8114 89 E E (fun hc8 h8114=> ?_) (fun hc8 h8114=> ?_)
         ·refine G2 4 [89] [] [] E ?_;refine Br h8114 93 E E (fun hc9 h8114=> ?_) (fun hc9 h8114=> ?_)
          ·refine G2 3 [93] [] [] E ?_;refine Br h8114 96 E E (fun hc10 h8114=> ?_) (fun hc10 h8114=> ?_)
           ·refine G2 4 [96] [] [] E ?_;refine Br h8114 100 E E (fun hc11 h8114=> ?_) (fun hc11 h8114=> ?_)
            ·refine G2 1 [100] [] [] E (So E (Z0 (z:=[.int .i64 0,.int .i64 0]) E E E E E E E (QM (cells':=[.int .i64 0,.int .i64 0]) E E E E (QM (cells':=[.int .i64 0,.int .i64 1]) E E E E (ZQ (fun g12=>Q0 0 E (Cl E ?_)))))));obtain ⟨_,hx15,h8114⟩:=Qh h8114;refine Z6 hl28 (Qp.rds hA28 _) (Qge (c:=2) E E) (Own.rds (Own.lit (r:=QU) (e:=3) (g:=g12) (xs:=[0,1]) (cs:=[.int .i64 0,.int .i64 1]) (css:=[[.int .i64 0],[.int .i64 1]]) E (All2.cons (E) (All2.cons (E) (All2.nil))) E E) 0 E) hx15 ((Q2 2 [100] [] [] E ?_));refine Br h8114 105 E E (fun hc12 h8114=> ?_) (fun hc12 h8114=> ?_)
             ·refine G2 5 [105] [] [] E ?_;cases h8114;exact Ce E ⟨_,rfl,fE E,sE [] 12 E⟩
             refine G2 5 [] [105] [] E ?_;cases h8114;exact Ce E ⟨_,rfl,fE E,sE [] 12 E⟩
            refine G2 10 [] [100,105] [] E ?_;cases h8114;exact Ce E ⟨_,rfl,fE E,sE [] 11 E⟩
           refine G2 14 [] [96,100,105] [] E ?_;cases h8114;exact Ce E ⟨_,rfl,fE E,sE [] 11 E⟩
          refine G2 17 [] [93,96,100,105] [] E ?_;cases h8114;exact Ce E ⟨_,rfl,fE E,sE [] 11 E⟩
         refine G2 21 [] [89,93,96,100,105] [] E ?_;cases h8114;exact Ce E ⟨_,rfl,fE E,sE [] 11 E⟩
        refine G2 25 [] [85,89,93,96,100,105] [] E ?_;cases h8114;exact Ce E ⟨_,rfl,fE E,sE [] 11 E⟩
       refine G2 29 [] [81,85,89,93,96,100,105] [] E ?_;cases h8114;exact Ce E ⟨_,rfl,fE E,sE [] 11 E⟩
      refine G2 35 [] [75,81,85,89,93,96,100,105] [] E ?_;cases h8114;exact Ce E ⟨_,rfl,fE E,sE [] 10 E⟩
     refine G2 39 [] [71,75,81,85,89,93,96,100,105] [] E ?_;cases h8114;exact Ce E ⟨_,rfl,fE E,sE [] 10 E⟩
    refine G2 43 [] [67,71,75,81,85,89,93,96,100,105] [] E ?_;cases h8114;exact Ce E ⟨_,rfl,fE E,sE [] 10 E⟩
   refine G2 49 [] [61,67,71,75,81,85,89,93,96,100,105] [] E ?_;cases h8114;exact Ce E ⟨_,rfl,fE E,sE [] 9 E⟩
  refine G2 53 [] [57,61,67,71,75,81,85,89,93,96,100,105] [] E ?_;cases h8114;exact Ce E ⟨_,rfl,fE E,sE [] 9 E⟩
 rintro _ _ _ _ h hm8114 ⟨v19,rfl,hF8114,hS8114⟩;refine Atn 0 hF8114 hS8114 E E ?_;cases h;exact Rt [] E E (Ug [] 0 (hR _ (hm_1.trans (hm_2.trans (hm_3.trans (hm_4.trans (hm_5.trans (hm_6.trans (hm_7.trans (hm_8.trans (hm_9.trans (hm_10.trans (hm_11.trans (hm_12.trans (hm_13.trans (hm_14.trans (hm_15.trans (hm_16.trans (hm_17.trans (hm_18.trans hm8114))))))))))))))))))))
end Go.Proofs.Ytilbengnjgglhaa
namespace Go.Proofs.Ytilbengnjgglhaa
open Go.RowKit
set_option linter.unusedSimpArgs false
set_option linter.unusedVariables false
set_option maxHeartbeats 2000000
set_option maxRecDepth 4000
attribute [local irreducible] WP YF J9 Fn AN Upd vcR vcO QaK Zc YX WF WE Qaq VW ZC Qaf QA KS
variable {μ:Gh} {L:List Seg} {R:Value→Gh→List Seg→Prop}
theorem WL {F:Nat} {x1:QF} {A1:Option Addr} {c1:Nat} {A2:Option Addr} {c2:Nat} {A3:Option Addr} {c3:Nat} {A4:Option Addr} {c4:Nat} {res1:Bool}
  (hl1:x1.Problem.Road.Edges.length≤c1∧c1≤maxLen) (hA1:Qp QH μ A1 x1.Problem.Road.Edges) (hl2:x1.Problem.Vehicles.length≤c2∧c2≤maxLen) (hA2:Qp Qv μ A2 x1.Problem.Vehicles) (hl3:x1.Problem.Demands.length≤c3∧c3≤maxLen) (hA3:Qp Qy μ A3 x1.Problem.Demands) (hl4:x1.Demands.length≤c4∧c4≤maxLen) (hA4:Qp QU μ A4 x1.Demands) (h:Y8 F x1=some res1)
  (hR: ∀(μ':Gh) ,μ.le μ'→R (.bool res1) μ' (L)) :
  Fn Try.prog 5 [.agg #[.int .i64 x1.Problem.Road.Nodes,.slice A1 x1.Problem.Road.Edges.length c1,.slice A2 x1.Problem.Vehicles.length c2,.slice A3 x1.Problem.Demands.length c3,.int .i64 x1.Problem.Unload,.int .i64 x1.Problem.UnloadSecs,.int .i64 x1.Vehicle,.slice A4 x1.Demands.length c4]] μ (L) R:=by
 unfold Y8 at h;refine FnS Try.func5 (by kernel_rfl) E Try.ntmps5 E E ?_;refine G0 2 E (Al E fun _=>Q1 6 [0] E (Cl E ?_));obtain ⟨_,hx1,h⟩:=Qh h;refine VI hl1 hA1 hl2 hA2 hl3 hA3 hl4 hA4 hx1 ((Q0 2 E ?_));refine Br h 16 E E (fun hc1 h=> ?_) (fun hc1 h=> ?_)
 ·refine G2 3 [16] [] [] E (Cl E ?_);obtain ⟨_,hx2,h⟩:=Qh h;refine ZW  hx2 (fun _ hm_1=> ?_);replace hA1:=hA1.mono hm_1;replace hA2:=hA2.mono hm_1;replace hA3:=hA3.mono hm_1;replace hA4:=hA4.mono hm_1;refine Q0 2 E ?_;cases h;exact Rt [] E E (Ug [] 1 (hR _ hm_1))
 refine G2 10 [] [16] [0,0,0] E (Cl E ?_);obtain ⟨⟨_,_⟩,hx3,h⟩:=Qh h;replace h:=Qi h;refine Qa2 hl1 hA1 hl2 hA2 hl3 hA3 hl4 hA4 hx3 (fun _ _ _ hm_2 hl5 hA5=> ?_);replace hA1:=hA1.mono hm_2;replace hA2:=hA2.mono hm_2;replace hA3:=hA3.mono hm_2;replace hA4:=hA4.mono hm_2;refine Q0 12 E ?_;refine Br h 29 E E (fun hc2 h=> ?_) (fun hc2 h=> ?_)
 ·refine G2 2 [29] [] [] E ?_;refine Cut h (fun f l o_ f_ μ_ l_=> ∃(v4:Bool),v4=o_∧Qm ((2,.bool v4)::[]) f_∧Qe (Yt [] 1 l) l_) ?_ ?_
  ·intro _ h8719 h;refine G0 5 E ?_;refine Br h8719 33 E E (fun hc3 h8719=> ?_) (fun hc3 h8719=> ?_)
   ·refine Cl E ?_;obtain ⟨_,hx4,h8719⟩:=Qh h8719;refine ZW  hx4 (fun _ hm_3=> ?_);replace hA1:=hA1.mono hm_3;replace hA2:=hA2.mono hm_3;replace hA3:=hA3.mono hm_3;replace hA4:=hA4.mono hm_3;replace hA5:=hA5.mono hm_3;refine Q2 3 [33] [] [] E ?_;cases h8719;exact Ce E ⟨_,rfl,fE E,sE [] 1 E⟩
   refine G2 4 [] [33] [] E ?_;cases h8719;exact Ce E ⟨_,rfl,fE E,sE [] 1 E⟩
  rintro _ _ _ _ h hm8719 ⟨v4,rfl,hF8719,hS8719⟩;replace hA1:=hA1.mono hm8719;replace hA2:=hA2.mono hm8719;replace hA3:=hA3.mono hm8719;replace hA4:=hA4.mono hm8719;replace hA5:=hA5.mono hm8719;refine Atn 0 hF8719 hS8719 E E ?_;cases h;exact Rt [] E E (Ug [] 0 (hR _ (hm_2.trans hm8719)))
 refine G2 9 [] [29] [0,0] E (Cl E ?_);obtain ⟨⟨_,_⟩,hx5,h⟩:=Qh h;replace h:=Qi h;refine ZF hl1 hA1 hl2 hA2 hl3 hA3 hl5 hA5 hx5 (fun _ hm_4=> ?_);replace hA1:=hA1.mono hm_4;replace hA2:=hA2.mono hm_4;replace hA3:=hA3.mono hm_4;replace hA4:=hA4.mono hm_4;replace hA5:=hA5.mono hm_4;refine Q0 8 E ?_;refine Cut h (fun f l o_ f_ μ_ l_=> ∃(v6:Bool),v6=o_∧Qm ((50,.bool v6)::Qw [1,3] f) f_∧Qe l l_) ?_ ?_
 ·intro _ h8720 h;refine G0 4 E ?_;refine Br h8720 47 E E (fun hc4 h8720=> ?_) (fun hc4 h8720=> ?_)
  ·refine G2 4 [47] [] [] E ?_;cases h8720;exact Ce E ⟨_,rfl,fE E,sE [some 0] 1 E⟩
  refine G2 4 [] [47] [] E ?_;cases h8720;exact Ce E ⟨_,rfl,fE E,sE [some 0] 1 E⟩
 rintro _ _ _ _ h hm8720 ⟨v6,rfl,hF8720,hS8720⟩;replace hA1:=hA1.mono hm8720;replace hA2:=hA2.mono hm8720;replace hA3:=hA3.mono hm8720;replace hA4:=hA4.mono hm8720;replace hA5:=hA5.mono hm8720;refine Atn 1 hF8720 hS8720 E E ?_;refine Br h 50 E E (fun hc5 h=> ?_) (fun hc5 h=> ?_)
 ·refine G2 5 [50] [] [] E ?_;cases h;exact Rt [] E E (Ug [] 1 (hR _ (hm_2.trans (hm_4.trans hm8720))))
 refine G2 7 [] [50] [] E ?_;refine Cut h (fun f l o_ f_ μ_ l_=>(.inl ())=o_∧Qm (Qw [1,3] f) f_∧Qe l l_) ?_ ?_
 ·intro _ h8723 h;refine Lp h8723 (fun f l (i1:Int) f_ μ_ l_=>Qm ((7,.int .i64 i1)::Qw [1,3] f) f_∧Qe l l_) ⟨fE E,sE [some 0] 1 E⟩ ?_;rintro i1 _ _ _ _ hm8728 ⟨hF8728,hS8728⟩ hb8728 hq8728;unfold QW at hb8728;replace hA1:=hA1.mono hm8728;replace hA2:=hA2.mono hm8728;replace hA3:=hA3.mono hm8728;replace hA4:=hA4.mono hm8728;replace hA5:=hA5.mono hm8728;refine Atn 1 hF8728 hS8728 E E (G0 8 E ?_);refine Br hb8728 54 E E (fun hc6 hb8728=> ?_) (fun hc6 hb8728=> ?_)
  ·refine G2 5 [54] [] [] E (Dr _ QA.refl [(true,0),(true,1),(true,2),(true,3),(true,4),(true,5),(true,6),(true,7),(true,8),(true,9)] (by kernel_rfl) (G0 2 E (Ix hb8728 (Qp.rds hA5 L) E E fun _ _ _ _ hr1 hc7 _ hb8728=> ?_)));obtain rfl:=hr1;refine Q3 4 [] [] [64] (Z1 (hc7.push)) E (Ix hb8728 (Qp.rds hA5 L) E E fun _ _ _ _ hr2 hc8 _ hb8728=> ?_);obtain rfl:=hr2;refine Q3 3 [] [] [64] (Z1 (hc8.push)) E ?_;refine Br hb8728 66 E E (fun hc9 hb8728=> ?_) (fun hc9 hb8728=> ?_)
   ·refine G2 5 [66] [] [] E ?_;cases hb8728;have hq_:=hq8728 _ E;subst hq_;replace h:=Zw h;cases h;exact Rt [] E E (Ug [] 1 (hR _ (hm_2.trans (hm_4.trans (hm8720.trans hm8728)))))
   refine G2 8 [] [66] [] E ?_;cases hb8728;exact Ce E ⟨_,rfl,fE E,sE [some 0] 1 E⟩
  refine G2 2 [] [54] [] E ?_;cases hb8728;have hq_:=hq8728 _ E;subst hq_;exact Ce E ⟨rfl,fE E,sE [some 0] 1 E⟩
 rintro _ _ _ _ h hm8723 ⟨rfl,hF8723,hS8723⟩;replace h:=Z3 h;replace hA1:=hA1.mono hm8723;replace hA2:=hA2.mono hm8723;replace hA3:=hA3.mono hm8723;replace hA4:=hA4.mono hm8723;replace hA5:=hA5.mono hm8723;refine Atn 1 hF8723 hS8723 E E (G0 9 E ?_);refine Cut h (fun f l o_ f_ μ_ l_=> ∃(left4:Int),(.inl left4)=o_∧Qm ((8,.int .i64 left4)::Qw [1,3] f) f_∧Qe l l_) ?_ ?_
 ·intro _ h8734 h;refine Lp h8734 (fun f l (j_:Int×Int) f_ μ_ l_=>Wx j_ fun left1 k1=>Qm ((8,.int .i64 left1)::(9,.int .i64 k1)::Qw [1,3] f) f_∧Qe l l_) ⟨fE E,sE [some 0] 1 E⟩ ?_;rintro ⟨left1,k1⟩ _ _ _ _ hm8846 ⟨hF8846,hS8846⟩ hb8846 hq8846;unfold QD at hb8846;replace hb8846:=Qi hb8846;replace hA1:=hA1.mono hm8846;replace hA2:=hA2.mono hm8846;replace hA3:=hA3.mono hm8846;replace hA4:=hA4.mono hm8846;replace hA5:=hA5.mono hm8846;refine Atn 1 hF8846 hS8846 E E (G1 9 [0] E ?_);refine Br hb8846 71 E E (fun hc10 hb8846=> ?_) (fun hc10 hb8846=> ?_)
  ·refine G2 3 [71] [] [] E ?_;refine Cut hb8846 (fun f l o_ f_ μ_ l_=> ∃(left3:Int),(.inl left3)=o_∧Qm ((8,.int .i64 left3)::Qw [1,3,9] f) f_∧Qe l l_) ?_ ?_
   ·intro _ h8850 hb8846;refine G0 10 E ?_;refine Cut h8850 (fun f l o_ f_ μ_ l_=> ∃(f_in3:Bool),f_in3=o_∧Qm ((10,.bool f_in3)::Qw [1,3,8,9] f) f_∧Qe l l_) ?_ ?_
    ·intro _ h8851 h8850;refine Lp h8851 (fun f l (j_:Bool×Int) f_ μ_ l_=>Wx j_ fun f_in1 i2=>Qm ((10,.bool f_in1)::(11,.int .i64 i2)::Qw [1,3,8,9] f) f_∧Qe l l_) ⟨fE E,sE [some 0] 1 E⟩ ?_;rintro ⟨f_in1,i2⟩ _ _ _ _ hm8859 ⟨hF8859,hS8859⟩ hb8859 hq8859;unfold QX at hb8859;replace hb8859:=Qi hb8859;replace hA1:=hA1.mono hm8859;replace hA2:=hA2.mono hm8859;replace hA3:=hA3.mono hm8859;replace hA4:=hA4.mono hm8859;replace hA5:=hA5.mono hm8859;refine Atn 1 hF8859 hS8859 E E (G0 8 E ?_);refine Br hb8859 77 E E (fun hc11 hb8859=> ?_) (fun hc11 hb8859=> ?_)
     ·refine G2 3 [77] [] [] E ?_;refine Cut hb8859 (fun f l o_ f_ μ_ l_=> ∃(f_in2:Bool),f_in2=o_∧Qm ((10,.bool f_in2)::Qw [1,3,8,9,11] f) f_∧Qe l l_) ?_ ?_
      ·intro _ h8863 hb8859;refine G0 1 E (Dr _ QA.refl [(true,0),(true,1),(true,2),(true,3),(true,4),(true,5),(true,6),(true,7),(true,8),(true,9),(true,10),(true,11),(true,12),(true,13)] (by kernel_rfl) (G0 2 E ?_));refine Br h8863 81 E E (fun hc12 h8863=> ?_) (fun hc12 h8863=> ?_)
       ·refine G2 14 [81] [] [] E ?_;cases h8863;exact Ce E ⟨_,rfl,fE E,sE [some 0] 1 E⟩
       refine G2 2 [] [81] [] E (Ix h8863 (Qp.rds hA5 L) E E fun _ _ _ _ hr3 hc13 _ h8863=> ?_);obtain rfl:=hr3;refine Q3 4 [] [81] [64,0] (Z1 (hc13.push)) E (Ix h8863 (Qp.rds hA4 L) E E fun _ _ _ _ hr4 hc14 _ h8863=> ?_);obtain rfl:=hr4;refine Q3 6 [] [81] [64] (Z1 (hc14.push)) E ?_;cases h8863;exact Ce E ⟨_,rfl,fE E,sE [some 0] 1 E⟩
      rintro _ _ _ _ hb8859 hm8863 ⟨f_in2,rfl,hF8863,hS8863⟩;replace hA1:=hA1.mono hm8863;replace hA2:=hA2.mono hm8863;replace hA3:=hA3.mono hm8863;replace hA4:=hA4.mono hm8863;replace hA5:=hA5.mono hm8863;refine Atn 1 hF8863 hS8863 E E (G0 5 E ?_);cases hb8859;exact Ce E ⟨_,rfl,fE E,sE [some 0] 1 E⟩
     refine G2 2 [] [77] [] E ?_;cases hb8859;have hq_:=hq8859 _ E;subst hq_;exact Ce E ⟨_,rfl,fE E,sE [some 0] 1 E⟩
    rintro _ _ _ _ h8850 hm8851 ⟨f_in3,rfl,hF8851,hS8851⟩;replace hA1:=hA1.mono hm8851;replace hA2:=hA2.mono hm8851;replace hA3:=hA3.mono hm8851;replace hA4:=hA4.mono hm8851;replace hA5:=hA5.mono hm8851;refine Atn 1 hF8851 hS8851 E E (G0 5 E ?_);refine Br h8850 93 E E (fun hc15 h8850=> ?_) (fun hc15 h8850=> ?_)
    ·refine G2 2 [93] [] [] E ?_;cases h8850;exact Ce E ⟨_,rfl,fE E,sE [some 0] 1 E⟩
    refine G2 9 [] [93] [] E ?_;refine Cut h8850 (fun f l o_ f_ μ_ l_=> ∃(left2:Int) (more1:Bool) (g4:Int),(left2,more1,g4)=o_∧Qm ((8,.int .i64 left2)::(12,.bool more1)::(13,.int .i64 g4)::Qw [1,3,9] f) f_∧Qe l l_) ?_ ?_
    ·intro _ h8895 h8850;refine Cd (WP.draw (id:=25) QfT _ QA.refl E (AN.run (fuel:=10) (listed':=[true,true,true,true,false,true,false,true,true,true,true,true,false,false,false,false,false,false,false,false]) Yf [(true,0),(true,1),(true,2),(true,3),(true,5),(true,7),(true,8),(true,9),(true,10),(true,11)] (by kernel_rfl) (by kernel_rfl) E (QdJ E (ZD (o':=0) E E E E E E (Pt E E (VP E E E E (LA_ (vs:=[.int .i64 x1.Problem.Road.Nodes,.slice A1 x1.Problem.Road.Edges.length c1,.slice A2 x1.Problem.Vehicles.length c2,.slice A3 x1.Problem.Demands.length c3,.int .i64 x1.Problem.Unload,.int .i64 x1.Problem.UnloadSecs]) 0 0 E E E E (Pt E E (ZD (o':=6) E E E E E E (Pt E E (Za E E E ?_)))))))))));refine Ex.mk _ (ZC.seg 0 0 E E E) (Pt E E (Yn E (Pt E E (ZD (o':=7) E E E E E E (Pt E E (Za E E E (Ex.mk _ (ZC.seg 0 0 E E E) (Pt E E (Yn E (Pt E E ?_))))))))));obtain ⟨x6,hx10,h8895⟩:=Qh h8895;obtain ⟨_,_,hA10,hr5,_,hc16⟩:=Rds.getI (Qp.rds hA4 L) hx10;obtain rfl:=hr5;refine Qcj E E E E E E ⟨(ZA hx10).1,(ZA hx10).2.1⟩ hA10 (Pt E E (Za E E E (Ex.mk _ (ZC.of_cells0 (hc16.push) E) (Yh E (WD ?_)))));refine Qja Yf (a:=4) (b:=12) (by kernel_rfl) ?_ ?_
     ·refine FO_ E E (Z0 (z:=[]) E E E E E E E (ZQ (fun g2=> ?_)));refine ⟨QA.more (QA.refl),?_⟩;apply Yh;exact rfl;refine Qja Yf (a:=6) (b:=12) (by kernel_rfl) ?_ ?_
      ·refine FO_ E E (Zv E ?_);obtain ⟨l1,hz1,h8895⟩:=Qh h8895;refine ZX (r:=QU) Yf E E E E (by decide) E E 0 E (Own.empty (r:=QU) (e:=3) (g:=g2)) E (Qp.rds hA5 _) hz1 fun A6 c6 ch1 hO1=> ?_;refine ⟨QA.more (QA.refl),?_⟩;refine Yh E (AN.run (fuel:=0) (listed':=[true,true,true,true,true,true,true,true,true,true,true,true,true,true,true,true,true,true,true,true]) Yf [(false,12),(false,13),(false,14),(true,15),(true,16),(true,17),(true,18),(true,19)] (by kernel_rfl) (by kernel_rfl) E (Vz E (Z0 (z:=[.int .i64 0]) E E E E E E E (QM (cells':=[.int .i64 x6]) E E E E (ZQ (fun g3=> ?_))))));refine ⟨QA.more (QA.more (QA.refl)),?_⟩;refine Yh E (Vz E (Zv E ?_));obtain ⟨l2,hz2,h8895⟩:=Qh h8895;refine ZX (r:=QU) Yf E E E E (by decide) E E 1 E hO1 E (Own.rds (Own.lit (r:=QU) (e:=3) (g:=g3) (xs:=[x6]) (cs:=[.int .i64 x6]) (css:=[[.int .i64 x6]]) E (All2.cons (E) (All2.nil)) E E) 0 E) hz2 fun A7 c7 ch2 hO2=> ?_;refine ⟨QA.more (QA.more (QA.refl)),?_⟩;refine Yh E (Vz E (Qc4 (all:=[.agg #[.int .i64 x1.Problem.Road.Nodes,.slice A1 x1.Problem.Road.Edges.length c1,.slice A2 x1.Problem.Vehicles.length c2,.slice A3 x1.Problem.Demands.length c3,.int .i64 x1.Problem.Unload,.int .i64 x1.Problem.UnloadSecs],.int .i64 x1.Vehicle,.slice A7 l2.length c7]) E E E ?_));have hl6:=Own.lenOk hO2;refine Fn.pre Try.func13 (by kernel_rfl) E (Upd.frzOwn 1 E hO2 fun v7 hm_5 hA11=>Upd.done ?_);replace hA1:=hA1.mono hm_5;replace hA2:=hA2.mono hm_5;replace hA3:=hA3.mono hm_5;replace hA5:=hA5.mono hm_5;replace hO1:=hO1.mono hm_5;replace hO2:=hO2.mono hm_5;obtain ⟨⟨r8,r9⟩,hx11,h8895⟩:=Qh h8895;replace h8895:=Qi h8895;refine ZF hl1 hA1 hl2 hA2 hl3 hA3 hl6 hA11 hx11 (fun v8 hm_6=> ?_);replace hA1:=hA1.mono hm_6;replace hA2:=hA2.mono hm_6;replace hA3:=hA3.mono hm_6;replace hA5:=hA5.mono hm_6;replace hO1:=hO1.mono hm_6;replace hO2:=hO2.mono hm_6;replace hA11:=hA11.mono hm_6;refine ⟨QA.more (QA.more (QA.refl)),?_⟩;refine Pt E E (Yn E (Pt E E (Qc5 E E (Pt E E (Qc5 E E (Pt E E (JV E (Pt E E (JV E (Yh E (WD (AN.done0 (by kernel_rfl) ?_))))))))))));cases h8895;exact Ce E ⟨_,_,_,rfl,fE E,sE [some 2] 3 E⟩
      obtain ⟨l1,hz1,h8895⟩:=Qh h8895;obtain ⟨l2,hz2,h8895⟩:=Qh h8895;obtain ⟨⟨r8,r9⟩,hx11,h8895⟩:=Qh h8895;replace h8895:=Qi h8895;refine FO_ E E (Z0 (z:=[.int .i64 0]) E E E E E E E (QM (cells':=[.int .i64 x6]) E E E E (ZQ (fun g3=> ?_))));refine ⟨QA.more (QA.more (QA.refl)),?_⟩;refine Yh E (AN.run (fuel:=0) (listed':=[true,true,true,true,true,true,true,true,true,true,true,true,true,true,true,true,true,true,true,true]) Yf [(false,6),(false,13),(false,14),(true,15),(true,16),(true,17),(true,18),(true,19)] (by kernel_rfl) (by kernel_rfl) E (Vz E (Zv E (ZX (r:=QU) Yf E E E E (by decide) E E 1 E (Own.empty (r:=QU) (e:=3) (g:=g2)) E (Qp.rds hA5 _) hz1 fun A6 c6 ch1 hO1=> ?_))));refine ⟨QA.more (QA.more (QA.refl)),?_⟩;refine Yh E (Vz E (Zv E (ZX (r:=QU) Yf E E E E (by decide) E E 1 E hO1 E (Own.rds (Own.lit (r:=QU) (e:=3) (g:=g3) (xs:=[x6]) (cs:=[.int .i64 x6]) (css:=[[.int .i64 x6]]) E (All2.cons (E) (All2.nil)) E E) 0 E) hz2 fun A7 c7 ch2 hO2=> ?_)));refine ⟨QA.more (QA.more (QA.refl)),?_⟩;refine Yh E (Vz E (Qc4 (all:=[.agg #[.int .i64 x1.Problem.Road.Nodes,.slice A1 x1.Problem.Road.Edges.length c1,.slice A2 x1.Problem.Vehicles.length c2,.slice A3 x1.Problem.Demands.length c3,.int .i64 x1.Problem.Unload,.int .i64 x1.Problem.UnloadSecs],.int .i64 x1.Vehicle,.slice A7 l2.length c7]) E E E ?_));have hl6:=Own.lenOk hO2;refine Fn.pre Try.func13 (by kernel_rfl) E (Upd.frzOwn 1 E hO2 fun v7 hm_5 hA11=>Upd.done ?_);replace hA1:=hA1.mono hm_5;replace hA2:=hA2.mono hm_5;replace hA3:=hA3.mono hm_5;replace hA5:=hA5.mono hm_5;replace hO1:=hO1.mono hm_5;replace hO2:=hO2.mono hm_5;refine ZF hl1 hA1 hl2 hA2 hl3 hA3 hl6 hA11 hx11 (fun v8 hm_6=> ?_);replace hA1:=hA1.mono hm_6;replace hA2:=hA2.mono hm_6;replace hA3:=hA3.mono hm_6;replace hA5:=hA5.mono hm_6;replace hO1:=hO1.mono hm_6;replace hO2:=hO2.mono hm_6;replace hA11:=hA11.mono hm_6;refine ⟨QA.more (QA.more (QA.refl)),?_⟩;refine Pt E E (Yn E (Pt E E (Qc5 E E (Pt E E (Qc5 E E (Pt E E (JV E (Pt E E (JV E (Yh E (WD (AN.done0 (by kernel_rfl) ?_))))))))))));cases h8895;exact Ce E ⟨_,_,_,rfl,fE E,sE [some 2] 3 E⟩
     obtain ⟨l1,hz1,h8895⟩:=Qh h8895;obtain ⟨l2,hz2,h8895⟩:=Qh h8895;obtain ⟨⟨r8,r9⟩,hx11,h8895⟩:=Qh h8895;replace h8895:=Qi h8895;refine FO_ E E (Z0 (z:=[.int .i64 0]) E E E E E E E (QM (cells':=[.int .i64 x6]) E E E E (ZQ (fun g3=> ?_))));refine ⟨QA.more (QA.refl),?_⟩;refine Yh E (AN.run (fuel:=0) (listed':=[true,true,true,true,true,true,true,true,true,true,true,true,true,true,true,true,true,true,true,true]) Yf [(false,4),(false,6),(false,13),(false,14),(true,15),(true,16),(true,17),(true,18),(true,19)] (by kernel_rfl) (by kernel_rfl) E (Vz E (Z0 (z:=[]) E E E E E E E (ZQ (fun g2=> ?_)))));refine ⟨QA.more (QA.more (QA.refl)),?_⟩;refine Yh E (Vz E (Zv E (ZX (r:=QU) Yf E E E E (by decide) E E 0 E (Own.empty (r:=QU) (e:=3) (g:=g2)) E (Qp.rds hA5 _) hz1 fun A6 c6 ch1 hO1=> ?_)));refine ⟨QA.more (QA.more (QA.refl)),?_⟩;refine Yh E (Vz E (Zv E (ZX (r:=QU) Yf E E E E (by decide) E E 0 E hO1 E (Own.rds (Own.lit (r:=QU) (e:=3) (g:=g3) (xs:=[x6]) (cs:=[.int .i64 x6]) (css:=[[.int .i64 x6]]) E (All2.cons (E) (All2.nil)) E E) 1 E) hz2 fun A7 c7 ch2 hO2=> ?_)));refine ⟨QA.more (QA.more (QA.refl)),?_⟩;refine Yh E (Vz E (Qc4 (all:=[.agg #[.int .i64 x1.Problem.Road.Nodes,.slice A1 x1.Problem.Road.Edges.length c1,.slice A2 x1.Problem.Vehicles.length c2,.slice A3 x1.Problem.Demands.length c3,.int .i64 x1.Problem.Unload,.int .i64 x1.Problem.UnloadSecs],.int .i64 x1.Vehicle,.slice A7 l2.length c7]) E E E ?_));have hl6:=Own.lenOk hO2;refine Fn.pre Try.func13 (by kernel_rfl) E (Upd.frzOwn 0 E hO2 fun v7 hm_5 hA11=>Upd.done ?_);replace hA1:=hA1.mono hm_5;replace hA2:=hA2.mono hm_5;replace hA3:=hA3.mono hm_5;refine ZF hl1 hA1 hl2 hA2 hl3 hA3 hl6 hA11 hx11 (fun v8 hm_6=> ?_);refine ⟨QA.more (QA.more (QA.refl)),?_⟩;refine Pt E E (Yn E (Pt E E (Qc5 E E (Pt E E (Qc5 E E (Pt E E (JV E (Pt E E (JV E (Yh E (WD (AN.done0 (by kernel_rfl) ?_))))))))))));cases h8895;exact Ce E ⟨_,_,_,rfl,fE E,sE [some 2] 3 E⟩
    rintro _ _ _ _ h8850 hm8895 ⟨left2,more1,g4,rfl,hF8895,hS8895⟩;replace h8850:=Qi h8850;replace h8850:=Qi h8850;refine Atn 1 hF8895 hS8895 E E (G0 1 E ?_);refine Cut h8850 (fun f l o_ f_ μ_ l_=> ∃(v9:Bool),v9=o_∧Qm ((118,.bool v9)::Qw [1,3,8,9] f) f_∧Qe l l_) ?_ ?_
    ·intro _ h8952 h8850;refine G0 3 E ?_;refine Br h8952 115 E E (fun hc17 h8952=> ?_) (fun hc17 h8952=> ?_)
     ·refine G2 4 [115] [] [] E ?_;cases h8952;exact Ce E ⟨_,rfl,fE E,sE [some 0] 1 E⟩
     refine G2 4 [] [115] [] E ?_;cases h8952;exact Ce E ⟨_,rfl,fE E,sE [some 0] 1 E⟩
    rintro _ _ _ _ h8850 hm8952 ⟨v9,rfl,hF8952,hS8952⟩;refine Atn 1 hF8952 hS8952 E E ?_;refine Br h8850 118 E E (fun hc18 h8850=> ?_) (fun hc18 h8850=> ?_)
    ·refine G2 5 [118] [] [] E ?_;cases h8850;replace hb8846:=Zw hb8846;cases hb8846;have hq_:=hq8846 _ E;subst hq_;replace h:=Zw h;cases h;exact Rt [] E E (Ug [] 1 (hR _ (hm_2.trans (hm_4.trans (hm8720.trans (hm8723.trans (hm8846.trans (hm8851.trans (hm8895.trans hm8952)))))))))
    refine G2 3 [] [118] [] E ?_;cases h8850;exact Ce E ⟨_,rfl,fE E,sE [some 0] 1 E⟩
   rintro _ _ _ _ hb8846 _ ⟨left3,rfl,hF8850,hS8850⟩;replace hb8846:=Z3 hb8846;refine Atn 1 hF8850 hS8850 E E (G0 5 E ?_);cases hb8846;exact Ce E ⟨_,rfl,fE E,sE [some 0] 1 E⟩
  refine G2 2 [] [71] [] E ?_;cases hb8846;have hq_:=hq8846 _ E;subst hq_;exact Ce E ⟨_,rfl,fE E,sE [some 0] 1 E⟩
 rintro _ _ _ _ h hm8734 ⟨left4,rfl,hF8734,hS8734⟩;replace h:=Z3 h;refine Atn 1 hF8734 hS8734 E E (G0 1 E ?_);refine Cut h (fun f l o_ f_ μ_ l_=> ∃(v11:Bool),v11=o_∧Qm ((2,.bool v11)::[]) f_∧Qe (Yt [] 1 l) l_) ?_ ?_
 ·intro _ h8959 h;refine G1 10 [0] E ?_;refine Br h8959 127 E E (fun hc19 h8959=> ?_) (fun hc19 h8959=> ?_)
  ·refine Cl E ?_;obtain ⟨_,hx12,h8959⟩:=Qh h8959;refine ZW  hx12 (fun _ _=> ?_);refine Q2 3 [127] [] [] E ?_;cases h8959;exact Ce E ⟨_,rfl,fE E,sE [] 1 E⟩
  refine G2 4 [] [127] [] E ?_;cases h8959;exact Ce E ⟨_,rfl,fE E,sE [] 1 E⟩
 rintro _ _ _ _ h hm8959 ⟨v11,rfl,hF8959,hS8959⟩;refine Atn 0 hF8959 hS8959 E E ?_;cases h;exact Rt [] E E (Ug [] 0 (hR _ (hm_2.trans (hm_4.trans (hm8720.trans (hm8723.trans (hm8734.trans hm8959)))))))
end Go.Proofs.Ytilbengnjgglhaa
namespace Go.Proofs.Ytilbengnjgglhaa
set_option linter.unusedSimpArgs false
set_option linter.unusedVariables false
theorem Qdq {τ ρ:Type} {body:τ→Option (τ⊕ρ)} (I:Nat→τ→ρ→Prop)
  (h: ∀n t o,I n t o→(∃t' n',body t=some (.inl t')∧n'<n∧I n' t' o)∨body t=some (.inr o)): ∀(fuel n:Nat) (t:τ) (o:ρ),I n t o→n<fuel→iter body fuel t=some o
 | 0,_,_,_,_,hm=>by omega
 | f+1,n,t,o,hI,hm=>by
  rcases h n t o hI with ⟨t',n',h1,h2,h3⟩ | h1
  ·simp only[iter,h1,Option.bind_some,QO]
   exact Qdq I h f n' t' o h3 (by omega)
  ·simp only[iter,h1,Option.bind_some,QO]
theorem Qb6 {σ ρ:Type} {body:σ→Option (σ⊕ρ)}: ∀{n m:Nat} {s:σ} {r:ρ},iter body n s=some r→n≤m→iter body m s=some r
 | 0,_,_,_,h,_=>by cases h
 | n+1,0,_,_,_,hm=>by omega
 | n+1,m+1,s,r,h,hm=>by
  simp only[iter] at h ⊢
  cases hb:body s with
  | none=>rw[hb] at h;cases h
  | some q =>
   rw[hb] at h
   cases q with
   | inl s'=>exact Qb6 (n:=n) (m:=m) h (by omega)
   | inr r'=>exact h
theorem Qq {α:Type} (xs:List α) (k:Nat):QP xs (k:Int)=xs[k]? :=by simp[QP]
theorem Qhg {α:Type} {xs:List α} {k:Nat} (h:k<xs.length):QP xs (k:Int)=some xs[k]:=by rw[Qq];simp[h]
theorem QY {n:Int} (h1: -9223372036854775808≤n) (h2:n≤9223372036854775807):w64 n=n:=QjU h1 h2
theorem Jk {k:Nat} (h:k<9223372036854775807):w64 ((k:Int)+1)=((k+1:Nat):Int):=by rw[QY (by omega) (by omega)];omega
theorem JX {α:Type} {xs ys:List α} (h:xs.length+ys.length≤1000000):Qak xs ys=some (xs++ys):=by simp[Qak,h]
theorem Wh {p:Prop} [Decidable p] (h:p):Vo p=some ():=by simp[Vo,h]
def Qdx {τ ρ:Type} (o:Option ρ) (t:τ):τ⊕ρ:=match o with
 | none=> .inl t
 | some r=> .inr r
@[simp] theorem QjP {τ ρ:Type} (t:τ):Qdx (none:Option ρ) t= .inl t:=rfl
@[simp] theorem QjQ {τ ρ:Type} (r:ρ) (t:τ):Qdx (some r) t= .inr r:=rfl
def Qkn {σ τ ρ:Type} (f:σ→τ) (q:σ⊕ρ):τ⊕ρ:=match q with
 | .inl s=> .inl (f s)
 | .inr r=> .inr r
@[simp] theorem Qko {σ τ ρ:Type} (f:σ→τ) (s:σ):Qkn f (.inl s:σ⊕ρ)= .inl (f s):=rfl
@[simp] theorem Qkp {σ τ ρ:Type} (f:σ→τ) (r:ρ):Qkn f (.inr r:σ⊕ρ)= .inr r:=rfl
def first {α ρ:Type} (step:α→Option ρ) (fin:ρ):List α→ρ
 | []=>fin
 | x::r=>match step x with
  | none=>first step fin r
  | some o=>o
end Go.Proofs.Ytilbengnjgglhaa
namespace Go.Proofs.Ytilbengnjgglhaa
set_option linter.unusedSimpArgs false
set_option linter.unusedVariables false
theorem QJ {α:Type} {l:List α} {k:Nat} {x:α} (h:l[k]? =some x):k<l.length:=by
 rcases Nat.lt_or_ge k l.length with h2 | h2
 ·exact h2
 ·rw[List.getElem?_eq_none h2] at h;cases h
theorem QgN {α:Type} {l:List α} {i:Int} (h0:0≤i) (h1:i<(l.length:Nat)): ∃x,QP l i=some x:=by
 obtain ⟨k,rfl⟩: ∃k:Nat,i=k:=⟨i.toNat,by omega⟩
 exact ⟨_,Qhg (by omega)⟩
def Yw {α ρ:Type} (step:Nat→α→Option ρ) (fin:ρ):Nat→List α→ρ
 | _,[]=>fin
 | k,x::r=>match step k x with
  | none=>Yw step fin (k+1) r
  | some o=>o
theorem YY {α ρ:Type} (xs:List α) {body:Int→Option (Int⊕ρ)} (step:Nat→α→Option ρ) (fin:ρ) (hn:xs.length<9223372036854775807)
  (hb: ∀(k:Nat) (x:α),xs[k]? =some x→body (k:Int)=some (Qdx (step k x) (w64 ((k:Int)+1))))
  (hf:body (xs.length:Int)=some (.inr fin)): ∀(n:Nat),xs.length<n→iter body n 0=some (Yw step fin 0 xs):=by
 intro n hlt;refine Qdq (fun m t o=> ∃k:Nat,t=(k:Int)∧m=xs.length-k∧k≤xs.length∧Yw step fin k (xs.drop k)=o) ?_ n xs.length 0 _ ⟨0,rfl,by simp,Nat.zero_le _,by simp⟩ hlt;rintro m _ o ⟨k,rfl,rfl,hk,ho⟩;rcases Nat.lt_or_ge k xs.length with hlt | hge
 ·have h1:=hb k xs[k] (by simp[hlt])
  rw[List.drop_eq_getElem_cons hlt,Yw] at ho
  cases hs:step k xs[k] with
  | none =>
   rw[hs] at h1 ho
   exact .inl ⟨_,xs.length-(k+1),h1,by omega,k+1,by rw[Jk (by omega)],rfl,hlt,ho⟩
  | some r =>
   rw[hs] at h1 ho
   exact .inr (by rw[h1];exact congrArg (fun z=>some (Sum.inr z)) ho)
 ·obtain rfl:k=xs.length:=by omega
  rw[List.drop_length] at ho
  exact .inr (by rw[hf];exact congrArg (fun z=>some (Sum.inr z)) ho)
theorem JP {α ρ:Type} {step:Nat→α→Option ρ} {fin:ρ}: ∀(l:List α) (k:Nat),(∀(i:Nat) (x:α),l[i]? =some x→step (k+i) x=none)→Yw step fin k l=fin
 | [],_,_=>rfl
 | x::l,k,h=>by
  have h0:=h 0 x rfl
  rw[Nat.add_zero] at h0
  simp only[Yw,h0]
  exact JP l (k+1) fun i y hy=>by
   have:=h (i+1) y (by simpa using hy)
   rwa [show k+(i+1)=k+1+i by omega] at this
theorem QbH {α σ τ ρ:Type} (xs:List α) (st:Nat→σ) (mk:σ→Int→τ) {body:τ→Option (τ⊕ρ)} (step:Nat→α→Option ρ) (fin:ρ) (hn:xs.length<9223372036854775807)
  (hb: ∀(k:Nat) (x:α),xs[k]? =some x→(∀(j:Nat) (y:α),j<k→xs[j]? =some y→step j y=none)→body (mk (st k) (k:Int))=some (Qdx (step k x) (mk (st (k+1)) (w64 ((k:Int)+1)))))
  (hf:(∀(j:Nat) (y:α),xs[j]? =some y→step j y=none)→body (mk (st xs.length) (xs.length:Int))=some (.inr fin)): ∀(n:Nat),xs.length<n→iter body n (mk (st 0) 0)=some (Yw step fin 0 xs):=by
 intro n hlt;refine Qdq (fun m t o=> ∃k:Nat,t=mk (st k) (k:Int)∧m=xs.length-k∧k≤xs.length∧(∀(j:Nat) (y:α),j<k→xs[j]? =some y→step j y=none)∧Yw step fin k (xs.drop k)=o) ?_ n xs.length _ _ ⟨0,rfl,by simp,Nat.zero_le _,fun j y hj=>absurd hj (Nat.not_lt_zero _),by simp⟩ hlt;rintro m _ o ⟨k,rfl,rfl,hk,hno,ho⟩;rcases Nat.lt_or_ge k xs.length with hlt | hge
 ·have h1:=hb k xs[k] (by simp[hlt]) hno
  rw[List.drop_eq_getElem_cons hlt,Yw] at ho
  cases hs:step k xs[k] with
  | none =>
   rw[hs] at h1 ho
   refine .inl ⟨_,xs.length-(k+1),h1,by omega,k+1,by rw[Jk (by omega)],rfl,hlt,fun j y hj hy=> ?_,ho⟩;rcases Nat.lt_or_ge j k with h | h
   ·exact hno j y h hy
   ·obtain rfl:j=k:=by omega
    rw[List.getElem?_eq_getElem hlt] at hy
    injection hy with hy;rw[←hy];exact hs
  | some r =>
   rw[hs] at h1 ho
   exact .inr (by rw[h1];exact congrArg (fun z=>some (Sum.inr z)) ho)
 ·obtain rfl:k=xs.length:=by omega
  rw[List.drop_length] at ho
  exact .inr (by rw[hf fun j y hy=>hno j y (QJ hy) hy];exact congrArg (fun z=>some (Sum.inr z)) ho)
theorem V8 {α:Type} {l:List α} {k:Nat} {x:α} (hx:l[k]? =some x):l.take (k+1)=l.take k++[x]:=by rw[List.take_add_one,hx];rfl
theorem ZL {α:Type} {l:List α} {k:Nat} (h:k≤l.length):(l.take k).length=k:=by simp;omega
def Qg0 {α:Type} (f:α→Int) (l:List α):Int:=(l.map f).sum
@[simp] theorem QjW {α:Type} (f:α→Int):Qg0 f []=0:=rfl
@[simp] theorem QjT {α:Type} (f:α→Int) (x:α) (l:List α):Qg0 f (x::l)=f x+Qg0 f l:=by simp[Qg0]
theorem Qdv {β:Type} {k:Int} {v:β} (m:List (Int×β)):JK k (VG k v m)=some v:=by
 induction m with
 | nil=>simp[VG,JK]
 | cons p m ih =>
  obtain ⟨a,b⟩:=p
  by_cases h:a=k
  ·simp[VG,JK,h]
  ·simp[VG,JK,h,ih]
theorem QeN {β:Type} {k j:Int} {v:β} (h:j≠k) (m:List (Int×β)):JK j (VG k v m)=JK j m:=by
 induction m with
 | nil=>simp[VG,JK];omega
 | cons p m ih =>
  obtain ⟨a,b⟩:=p
  by_cases h2:a=k
  ·subst h2;simp[VG,JK,Ne.symm h]
  ·by_cases h3:a=j
   ·subst h3;simp[VG,JK,h]
   ·simp[VG,JK,h2,h3,ih]
theorem WJ {α ρ:Type} {step:Nat→α→Option ρ} {fin:ρ}: ∀(l:List α) (k:Nat),
  ((∀(i:Nat) (x:α),l[i]? =some x→step (k+i) x=none)∧Yw step fin k l=fin) ∨
  (∃(i:Nat) (x:α) (o:ρ),l[i]? =some x∧step (k+i) x=some o∧Yw step fin k l=o∧ ∀(j:Nat) (y:α),j<i→l[j]? =some y→step (k+j) y=none)
 | [],k=> .inl ⟨fun i x h=>by simp at h,rfl⟩
 | x::l,k=>by
  cases hs:step k x with
  | some o=>exact .inr ⟨0,x,o,rfl,hs,by simp[Yw,hs],fun j y hj=>absurd hj (Nat.not_lt_zero _)⟩
  | none =>
   have hf:Yw step fin k (x::l)=Yw step fin (k+1) l:=by simp[Yw,hs]
   rw[hf]
   rcases WJ (step:=step) (fin:=fin) l (k+1) with ⟨h1,h2⟩ | ⟨i,y,o,h1,h2,h3,h4⟩
   ·refine .inl ⟨fun i y hy=> ?_,h2⟩;cases i with
    | zero=>simp at hy;subst hy;simpa using hs
    | succ i=>have:=h1 i y (by simpa using hy);rwa [show k+1+i=k+(i+1) by omega] at this
   ·refine .inr ⟨i+1,y,o,by simpa using h1,by rwa [show k+1+i=k+(i+1) by omega] at h2,h3,fun j z hj hz=> ?_⟩;cases j with
    | zero=>simp at hz;subst hz;simpa using hs
    | succ j=>have:=h4 j z (by omega) (by simpa using hz);rwa [show k+1+j=k+(j+1) by omega] at this
theorem Vq {α:Type} [DecidableEq α]: ∀{l m:List α},l.Nodup→(∀x∈l,x∈m)→l.length≤m.length
 | [],_,_,_=>Nat.zero_le _
 | x::l,m,hn,h=>by
  rw[List.nodup_cons] at hn
  have hx:=h x (by simp);have:=Vq (l:=l) (m:=m.erase x) hn.2 fun y hy=>(List.mem_erase_of_ne (fun e=>hn.1 (by rw[←e];exact hy))).2 (h y (by simp[hy]))
  rw[List.length_erase_of_mem hx] at this
  have:0<m.length:=List.length_pos_of_mem hx
  simp only[List.length_cons]
  omega
end Go.Proofs.Ytilbengnjgglhaa
namespace Go.Proofs.Ytilbengnjgglhaa
open Go.RowKit
set_option linter.unusedSimpArgs false
set_option linter.unusedVariables false
theorem Yy (a b:Bool):(bif a then some true else some b)=some (a||b):=by cases a<;>rfl
theorem QhN (a b:Bool):(bif a then some b else some false)=some (a&&b):=by cases a<;>rfl
def JL (r:Qr) (x:QE):Prop:=0≤x.From∧x.From<r.Nodes∧0≤x.To∧x.To<r.Nodes∧x.From≠x.To∧1≤x.Meters∧x.Meters≤100000∧1≤x.Secs∧x.Secs≤100000
def VD (r:Qr) (x:QE):Option (Unit⊕Int) :=
 bif (decide (x.From<0)||(decide (r.Nodes≤x.From)||(decide (x.To<0)||decide (r.Nodes≤x.To)))) then some (.inr 7)
 else bif (decide (x.From=x.To)||(decide (x.Meters<1)||(decide (100000<x.Meters)||(decide (x.Secs<1)||decide (100000<x.Secs))))) then some (.inr 1) else none
theorem Qf6 {r:Qr} {x:QE} (h:VD r x=none):JL r x:=by
 unfold VD at h
 simp only[cond_eq_ite,Bool.or_eq_true,decide_eq_true_eq] at h
 split at h
 ·cases h
 ·split at h
  ·cases h
  ·unfold JL;omega
theorem Qf7 {r:Qr} {x:QE} {o:Unit⊕Int} (h:VD r x=some o): ∃e,o= .inr e∧e≠0:=by
 unfold VD at h
 simp only[cond_eq_ite] at h
 split at h
 ·injection h with h;exact ⟨7,h.symm,by decide⟩
 ·split at h
  ·injection h with h;exact ⟨1,h.symm,by decide⟩
  ·cases h
theorem QdA (r:Qr) (hn:r.Edges.length≤600) (n:Nat) (h:r.Edges.length<n):iter (Yo r) n 0=some (Yw (fun _ x=>VD r x) (.inl ()) 0 r.Edges):=by
 refine YY r.Edges (fun _ x=>VD r x) (.inl ()) (by omega) (fun k x hx=> ?_) (by simp[Yo]) n h;have hk:=QJ hx;have hk2:((k:Int)<(r.Edges.length:Nat)):=by omega
 simp only[Yo,hk2,decide_true,cond_true,Qq,hx,Option.bind_some,Yy,VD]
 generalize (decide (x.From<0)||_)=a
 generalize (decide (x.From=x.To)||_)=b
 cases a<;>cases b<;>rfl
theorem Qgg (r:Qr) (hn:r.Edges.length≤600):J4 r=some ⟨r.Nodes,r.Edges.map fun x=>⟨x.From,x.To⟩⟩:=by
 unfold J4;have:=QbH (body:=Jb r) r.Edges (fun k=>(r.Edges.take k).map fun x=>(⟨x.From,x.To⟩:YA)) (fun m k=>(m,k)) (fun _ _=>none) (r.Edges.map fun x=>(⟨x.From,x.To⟩:YA)) (by omega) (fun k x hx _=> ?_) (fun _=>by simp[Jb,oun]) (((r.Edges.length:Nat):Int).toNat+1) (by simp)
 ·rw[show ((r.Edges.take 0).map fun x=>(⟨x.From,x.To⟩:YA))=[] by simp] at this
  rw[this,JP _ _ (fun _ _ _=>rfl)]
  rfl
 ·have hk:=QJ hx;have hk2:((k:Int)<(r.Edges.length:Nat)):=by omega
  simp only[Jb,oun,hk2,decide_true,cond_true,Qq,hx,Option.bind_some]
  rw[JX (by simp;omega)]
  simp[V8 hx,Qdx]
theorem QhW (r:Qr) (hn:r.Edges.length≤512) (h1:1≤r.Nodes) (h2:r.Nodes≤64) (ho: ∀x∈r.Edges,JL r x):Wv ⟨r.Nodes,r.Edges.map fun x=>⟨x.From,x.To⟩⟩=some 0:=by
 unfold Wv;have:=YY (body:=Jo ⟨r.Nodes,r.Edges.map fun x=>⟨x.From,x.To⟩⟩) (r.Edges.map fun x=>(⟨x.From,x.To⟩:YA)) (fun _ _=>none) (.inl ():Unit⊕Int) (by simp;omega) (fun k x hx=> ?_) (by simp[Jo]) ((((r.Edges.map fun x=>(⟨x.From,x.To⟩:YA)).length:Nat):Int).toNat+1) (by simp)
 ·rw[JP _ _ (fun _ _ _=>rfl)] at this
  simp only[Yy,Option.bind_some]
  rw[show (decide (r.Nodes<0)||decide (64<r.Nodes))=false by simp;omega]
  simp only[cond_false]
  rw[show decide ((512:Int)<(((r.Edges.map fun x=>(⟨x.From,x.To⟩:YA)).length:Nat):Int))=false by simp;omega]
  simp only[cond_false,this,Option.bind_some,QO]
 ·have hk:=QJ hx;have hk2:((k:Int)<((r.Edges.map fun x=>(⟨x.From,x.To⟩:YA)).length:Nat)):=by omega
  obtain ⟨y,hy,rfl⟩: ∃y,r.Edges[k]? =some y∧(⟨y.From,y.To⟩:YA)=x:=by
   rw[List.getElem?_map] at hx
   cases hq:r.Edges[k]? with
   | none=>rw[hq] at hx;cases hx
   | some y=>rw[hq] at hx;injection hx with hx;exact ⟨y,rfl,hx⟩
  have hok:=ho y (List.mem_of_getElem? hy)
  simp only[Jo,hk2,decide_true,cond_true,Qq,hx,Option.bind_some,Yy]
  unfold JL at hok
  rw[show (decide (y.From<0)||(decide (r.Nodes≤y.From)||(decide (y.To<0)||decide (r.Nodes≤y.To))))=false by simp;omega]
  rfl
def Vj (r:Qr):Int:=bif (decide (r.Nodes<1)||decide (64<r.Nodes)) then 1 else bif decide ((512:Int)<(r.Edges.length:Nat)) then 8 else
 match Yw (fun _ x=>VD r x) (.inl ()) 0 r.Edges with | .inl _=>0 | .inr e=>e
theorem Jt (r:Qr) (hn:r.Edges.length≤600):ZM r=some (Vj r):=by
 unfold ZM Vj
 simp only[Yy,Option.bind_some]
 rw[QdA r hn _ (by simp)]
 generalize (decide (r.Nodes<1)||_)=a
 generalize decide ((512:Int)<(r.Edges.length:Nat))=b
 generalize Yw (fun _ x=>VD r x) (.inl ()) 0 r.Edges=o
 cases a<;>cases b<;>cases o<;>rfl
theorem QdC {r:Qr} (h:Vj r=0):1≤r.Nodes∧r.Nodes≤64∧r.Edges.length≤512∧ ∀x∈r.Edges,JL r x:=by
 unfold Vj at h
 simp only[cond_eq_ite,Bool.or_eq_true,decide_eq_true_eq] at h
 split at h
 ·cases h
 ·split at h
  ·cases h
  ·refine ⟨by omega,by omega,by omega,fun x hx=> ?_⟩;obtain ⟨i,hi⟩:=List.getElem?_of_mem hx;rcases WJ (step:=fun _ x=>VD r x) (fin:=(.inl ():Unit⊕Int)) r.Edges 0 with ⟨h1,_⟩ | ⟨j,y,o,h1,h2,h3,_⟩
   ·exact Qf6 (h1 i x hi)
   ·rw[h3] at h
    obtain ⟨e,rfl,he⟩:=Qf7 h2;exact absurd h he
theorem Qa3 (r:Qr) (hn:r.Edges.length≤600):JM r=some (Vj r):=by
 by_cases hz:Vj r=0
 ·obtain ⟨h1,h2,h3,h4⟩:=QdC hz;unfold JM
  rw[hz]
  have e1:Wr r=Yo r:=rfl
  rw[e1,QdA r hn _ (by simp)]
  simp only[Yy,Option.bind_some]
  rw[show (decide (r.Nodes<1)||decide (64<r.Nodes))=false by simp;omega]
  simp only[cond_false]
  rw[show decide ((512:Int)<(r.Edges.length:Nat))=false by simp;omega]
  simp only[cond_false]
  have:Yw (fun _ x=>VD r x) (.inl ():Unit⊕Int) 0 r.Edges= .inl ():=by
   refine JP _ _ fun i x hx=> ?_;have:=h4 x (List.mem_of_getElem? hx);unfold JL at this;unfold VD
   rw[show (decide (x.From<0)||(decide (r.Nodes≤x.From)||(decide (x.To<0)||decide (r.Nodes≤x.To))))=false by simp;omega,show (decide (x.From=x.To)||(decide (x.Meters<1)||(decide (100000<x.Meters)||(decide (x.Secs<1)||decide (100000<x.Secs)))))=false by simp;omega]
   rfl
  rw[this]
  simp only[QO,Qgg r hn,Option.bind_some,QhW r h3 h1 h2 h4]
 ·have h:=Jt r hn;unfold JM;have e1:Wr r=Yo r:=rfl
  rw[e1,QdA r hn _ (by simp)]
  unfold Vj at hz ⊢
  simp only[Yy,Option.bind_some]
  generalize (decide (r.Nodes<1)||_)=a at *
  generalize decide ((512:Int)<(r.Edges.length:Nat))=b at *
  generalize Yw (fun _ x=>VD r x) (.inl ()) 0 r.Edges=o at *
  cases a<;>cases b<;>cases o<;>first | rfl | exact absurd rfl hz
end Go.Proofs.Ytilbengnjgglhaa
