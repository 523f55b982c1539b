/- DispatchBetter: for every input the given law returns true, and its arguments read as before. No condition. -/
import Derived.Test.YthpgjbbjpfiniaaGreatc6x1
import Derived.Test.YthpgjbbjpfiniaaGreatc6x3
import Derived.Test.YthpgjbbjpfiniaaGreatc6x6
import Derived.Test.YthpgjbbjpfiniaaGreatc6x7
import Derived.Test.YthpgjbbjpfiniaaGreatc6x2
namespace Go.Proofs.YthpgjbbjpfiniaaGreat
open Go.RowKit
set_option linter.unusedSimpArgs false
set_option linter.unusedVariables false
set_option maxHeartbeats 2000000
set_option maxRecDepth 4000
attribute [local irreducible] WP ZC QaD Fn AN Upd vcR vcO Qc2 JA Z6 Qa8 Qbf QcP QbM W9 QcG QB KS
variable {μ:Gh} {L:List Seg} {R:Value→Gh→List Seg→Prop}
theorem Qav {F:Nat} {x1:(List Qb)} {A1:Option Addr} {c1:Nat} {ch1:Seg} {n1:Nat} {res1:(List Qb)}
  (hn1:n1=x1.length) (hO1:Own Qm 82 μ (.slice A1 n1 c1) x1 ch1) (h:Yn F x1=some res1)
  (hR: ∀(sp0:Seg),Own Qm 82 μ (.slice A1 n1 c1) res1 sp0→n1=res1.length→R (.tuple #[]) μ (sp0::L)) :
  Fn Tryz.prog 41 [.slice A1 n1 c1,.func (.func 40) #[] #[]] μ (ch1::L) R:=by
 unfold Yn at h;subst hn1;have hn1:x1.length=x1.length:=rfl;refine FnS Tryz.func41 (by kernel_rfl) E Tryz.ntmps41 E E ?_;refine G0 5 E (Cl E ?_);obtain ⟨_,hx1,h⟩:=Qh h;refine QaI hn1 hO1 hx1 (fun _ hO2 hn2=>Q0 1 E ?_);cases h;exact Rt [] E E (Ug [[0]] 1 (hR _ hO2 hn2))
theorem QaP {F:Nat} {p1:Qd} {x1:Qg} {A1:Option Addr} {c1:Nat} {A2:Option Addr} {c2:Nat} {A3:Option Addr} {c3:Nat} {A4:Option Addr} {c4:Nat} {A5:Option Addr} {c5:Nat} {res1:(List Qg)} {res2:Int}
  (hl1:p1.Road.Edges.length≤c1∧c1≤maxLen) (hA1:Qv QS μ A1 p1.Road.Edges) (hl2:p1.Vehicles.length≤c2∧c2≤maxLen) (hA2:Qv QE μ A2 p1.Vehicles) (hl3:p1.Demands.length≤c3∧c3≤maxLen) (hA3:Qv QJ μ A3 p1.Demands) (hl4:x1.Tours.length≤c4∧c4≤maxLen) (hA4:Qv Qy μ A4 x1.Tours) (hl5:x1.Left.length≤c5∧c5≤maxLen) (hA5:Qv Yb μ A5 x1.Left) (h:Y0 F p1 x1=some (res1,res2))
  (hR: ∀(μ':Gh) (A0:Option Addr) (c0:Nat) (ch0:Seg),μ.le μ'→Own Qbe 33 μ' (.slice A0 res1.length c0) res1 ch0→R (.tuple #[.slice A0 res1.length c0,.int .i64 res2]) μ' (ch0::L)) :
  Fn Tryz.prog 16 [.agg #[.int .i64 p1.Road.Nodes,.slice A1 p1.Road.Edges.length c1,.slice A2 p1.Vehicles.length c2,.slice A3 p1.Demands.length c3,.int .i64 p1.Unload,.int .i64 p1.UnloadSecs],.agg #[.slice A4 x1.Tours.length c4,.slice A5 x1.Left.length c5]] μ (L) R:=by
 unfold Y0 at h;refine QqO Tryz.func16 (by kernel_rfl) E Tryz.ntmps16 E E ?_;refine G0 1 E (Al E fun g1=>Q0 0 E (Al E fun g2=>Q1 6 [1,0] E (Cl E ?_)));obtain ⟨⟨_,_⟩,hx1,h⟩:=Qh h;replace h:=Qo h;refine Qbo hl1 hA1 hl2 hA2 hl3 hA3 hl4 hA4 hl5 hA5 hx1 (fun v1 hm_1=> ?_);replace hA1:=hA1.mono hm_1;replace hA2:=hA2.mono hm_1;replace hA3:=hA3.mono hm_1;replace hA4:=hA4.mono hm_1;replace hA5:=hA5.mono hm_1;refine Q0 3 E (Al E fun g3=>Q1 8 [0] E ?_);refine Br h 23 E E (fun hc1 h=> ?_) (fun hc1 h=> ?_)
 ·refine G2 7 [23] [] [] E ?_;cases h;exact Rt [] E E (Ug [[]] 3 (hR _ none 0 [] hm_1 Own.nil))
 refine G2 3 [] [23] [] E (Al E fun g4=>Q1 4 [3,2] E (Cl E (FnS Tryz.func39 (by kernel_rfl) E Tryz.ntmps39 E E (G0 2 E (Al E fun _=>Q0 0 E (Al E fun _=>Q0 7 E (Rt [] E E (Upd.done (Q0 1 E (Rg (c:=Tryz.f16.body) [(2,.pointer (some ⟨g1,0,none⟩)),(3,.pointer (some ⟨g2,0,none⟩)),(6,.pointer (some ⟨g3,0,none⟩)),(8,.pointer (some ⟨g4,0,none⟩))] E E E (fg:=Tryz.f59) Tryz.func59 E fun _ _ hq1=> ?_))))))))));have hP1:QF v1 (.pointer (some ⟨g4,0,none⟩)) [] _:=⟨g4,none,0,[],rfl,rfl,Own.nil⟩
 refine Fn.gp [[0],[7],[6],[5],[4,99],[3],[2],[1]] 8 8 E ?_;obtain ⟨_,hx2,h⟩:=Qh h;refine QcN hq1 hl1 hA1 hl2 hA2 hl3 hA3 hl4 hA4 hl5 hA5 hP1 hl1 hA1 hl2 hA2 hl3 hA3 hl4 hA4 hl5 hA5 hx2 (fun _ _ hm_2 hP2=> ?_);refine RgE.mk 0 7 E E ?_;obtain ⟨_,_,_,_,hv1,rfl,hO1⟩:=hP2;replace hv1:=Qdm hv1;subst hv1;refine G0 1 E (In QF.fl 3 8 E E E (G1 2 [3] E (Cl E (Fn.gp [[4],[0],[1],[2],[3],[5],[6],[7]] 8 8 E ?_))));obtain ⟨_,hx3,h⟩:=Qh h;refine Qav E hO1 hx3 (fun _ hO2 hn1=> ?_)
 rw[hn1] at hO2 ⊢
 refine Q1 12 [4] E ?_;refine Cut h (fun f l o_ f_ μ_ l_=> ∃(out2:(List Qg)) (A11:Option Addr) (c11:Nat) (ch5:Seg),out2=o_∧Qk ((13,.slice A11 out2.length c11)::[]) f_∧Qe (ch5::QL [] 7 l) l_∧Own Qbe 33 μ_ (.slice A11 out2.length c11) out2 ch5) ?_ ?_
 ·intro _ h20020 h;refine Lp h20020 (fun f l (j_:(List Qg)×Int) f_ μ_ l_=>Zk j_ fun out1 v3=> ∃(A7:Option Addr) (c7:Nat) (ch3:Seg),Qk ((13,.slice A7 out1.length c7)::(56,.int .i64 v3)::Qs [54,55] f) f_∧Qe (ch3::QL [some 0,some 7] 8 l) l_∧Own Qbe 33 μ_ (.slice A7 out1.length c7) out1 ch3) ⟨none,0,[],fE E,sE [none,some 0,some 7] 8 E,(Own.nil)⟩ ?_;rintro ⟨out1,v3⟩ _ _ _ _ hm20039 ⟨A7,c7,ch3,hF20039,hS20039,hO3⟩ hb20039 hq20039;unfold JY at hb20039;replace hb20039:=Qo hb20039;replace hO2:=hO2.mono hm20039;refine Atn 3 hF20039 hS20039 E E (G0 5 E ?_);refine Br hb20039 57 E E (fun hc2 hb20039=> ?_) (fun hc2 hb20039=> ?_)
  ·refine G2 6 [57] [] [] E (IxA hb20039 (Own.rds hO2 1 E) E E fun x2 _ _ _ hr1 hc3 _ hb20039=> ?_);obtain ⟨A8,c8,A9,c9,rfl,hl6,hA7,hl7,hA8⟩:=hr1;refine Q3 1 [] [] [64] (Z1 hc3) E (Al E fun _=>Q1 6 [0,0] E (So E (Z7 (z:=[.slice none 0 0,.slice none 0 0]) E E E E E E E (QW (cells':=[.slice A8 x2.plan.Tours.length c8,.slice A9 x2.plan.Left.length c9]) E E E E (Zw (fun g9=>Q0 0 E (So E (Ja E ?_))))))));obtain ⟨_,hz1,hb20039⟩:=Qh hb20039;refine JW (r:=Qbe) Ym E E E E (by decide) E E 2 E hO3 E (Own.rds (Own.lit (r:=Qbe) (e:=33) (g:=g9) (xs:=[x2.plan]) (cs:=[.slice A8 x2.plan.Tours.length c8,.slice A9 x2.plan.Left.length c9]) (css:=[[.slice A8 x2.plan.Tours.length c8,.slice A9 x2.plan.Left.length c9]]) E (All2.cons (⟨A8,c8,A9,c9,E,hl6,hA7,hl7,hA8⟩) (All2.nil)) E E) 0 E) hz1 fun A10 c10 ch4 hO4=>Q0 7 E ?_;cases hb20039;exact Ce E ⟨_,rfl,A10,c10,ch4,fE E,sE [some 2,some 3,some 4] 5 E,(hO4)⟩
  refine G2 2 [] [57] [] E ?_;cases hb20039;have hq_:=hq20039 _ E;subst hq_;exact Ce E ⟨_,A7,c7,ch3,rfl,fE E,sE [some 0,some 2] 3 E,(hO3)⟩
 rintro _ _ _ _ h hm20020 ⟨out2,A11,c11,ch5,rfl,hF20020,hS20020,hO5⟩;refine Atn 2 hF20020 hS20020 E E (G0 6 E ?_);cases h;exact RtM 1 1 [] E E E E (Ug [[0]] 1 (hR _ A11 c11 ch5 (hm_1.trans (hm_2.trans hm20020)) hO5))
theorem QcM {F:Nat} {p1:Qd} {A1:Option Addr} {c1:Nat} {A2:Option Addr} {c2:Nat} {A3:Option Addr} {c3:Nat} {res1:Qg} {res2:Int}
  (hl1:p1.Road.Edges.length≤c1∧c1≤maxLen) (hA1:Qv QS μ A1 p1.Road.Edges) (hl2:p1.Vehicles.length≤c2∧c2≤maxLen) (hA2:Qv QE μ A2 p1.Vehicles) (hl3:p1.Demands.length≤c3∧c3≤maxLen) (hA3:Qv QJ μ A3 p1.Demands) (h:Wy F p1=some (res1,res2))
  (hR: ∀(μ':Gh) (A0_0:Option Addr) (c0_0:Nat) (A0_1:Option Addr) (c0_1:Nat),μ.le μ'→(res1.Tours.length≤c0_0∧c0_0≤maxLen)→Qv Qy μ' A0_0 res1.Tours→(res1.Left.length≤c0_1∧c0_1≤maxLen)→Qv Yb μ' A0_1 res1.Left→R (.tuple #[.agg #[.slice A0_0 res1.Tours.length c0_0,.slice A0_1 res1.Left.length c0_1],.int .i64 res2]) μ' (L)) :
  Fn Tryz.prog 13 [.agg #[.int .i64 p1.Road.Nodes,.slice A1 p1.Road.Edges.length c1,.slice A2 p1.Vehicles.length c2,.slice A3 p1.Demands.length c3,.int .i64 p1.Unload,.int .i64 p1.UnloadSecs]] μ (L) R:=by
 unfold Wy at h;refine FnS Tryz.func13 (by kernel_rfl) E Tryz.ntmps13 E E ?_;refine G0 2 E (Al E fun g1=>Q0 0 E (Al E fun g2=>Q1 5 [1] E (Cl E ?_)));obtain ⟨⟨_,_⟩,hx1,h⟩:=Qh h;replace h:=Qo h;refine QgG hl1 hA1 hl2 hA2 hl3 hA3 hx1 (fun _ A4 c4 A5 c5 hm_1 hl4 hA4 hl5 hA5=> ?_);replace hA1:=hA1.mono hm_1;replace hA2:=hA2.mono hm_1;replace hA3:=hA3.mono hm_1;refine Q0 3 E (Al E fun g3=>Q1 9 [0] E ?_);refine Br h 14 E E (fun hc1 h=> ?_) (fun hc1 h=> ?_)
 ·refine G2 8 [14] [] [1] E ?_;cases h;exact Rt [1] E E (Ug [] 3 (hR _ none 0 none 0 hm_1 ⟨Nat.le_refl _,Nat.zero_le _⟩ Qv.nil ⟨Nat.le_refl _,Nat.zero_le _⟩ Qv.nil))
 refine G2 2 [] [14] [] E ?_;refine Cut h (fun _ _ _ _ _ _=>False) ?_ ?_
 ·intro _ h20105 h;refine Lp h20105 (fun f l (j_:(List Qa)×(List Int)) f_ μ_ l_=>Zk j_ fun f1 f2=> ∃(A6:Option Addr) (c6:Nat) (A7:Option Addr) (c7:Nat),Qk (Qs [1,2,4] f) f_∧Qe ([(g1,.cells #[.int .i64 p1.Road.Nodes,.slice A1 p1.Road.Edges.length c1,.slice A2 p1.Vehicles.length c2,.slice A3 p1.Demands.length c3,.int .i64 p1.Unload,.int .i64 p1.UnloadSecs] 28 (0,0))]::[(g2,.cells #[.slice none 0 0,.slice none 0 0] 33 (0,0))]::[(g3,.cells #[.slice A6 f1.length c6,.slice A7 f2.length c7] 33 (0,0))]::QL [] 3 l) l_∧(f1.length≤c6∧c6≤maxLen)∧Qv Qy μ_ A6 f1∧(f2.length≤c7∧c7≤maxLen)∧Qv Yb μ_ A7 f2) ⟨A4,c4,A5,c5,fE E,sE [some 2,some 1,some 0] 3 E,(hl4),(hA4),(hl5),(hA5)⟩ ?_;rintro ⟨f1,f2⟩ _ _ _ _ hm20124 ⟨A6,c6,A7,c7,hF20124,hS20124,hl6,hA6,hl7,hA7⟩ hb20124 hq20124;unfold Vk at hb20124;replace hb20124:=Qo hb20124;replace hA1:=hA1.mono hm20124;replace hA2:=hA2.mono hm20124;replace hA3:=hA3.mono hm20124;refine Atn 3 hF20124 hS20124 E E (G1 5 [0,2] E (Cl E ?_));obtain ⟨⟨_,_⟩,hx2,hb20124⟩:=Qh hb20124;replace hb20124:=Qo hb20124;refine QaP hl1 hA1 hl2 hA2 hl3 hA3 hl6 hA6 hl7 hA7 hx2 (fun _ _ _ _ hm_2 hO1=> ?_);replace hA6:=hA6.mono hm_2;replace hA7:=hA7.mono hm_2;refine Q0 12 E ?_;refine Br hb20124 24 E E (fun hc2 hb20124=> ?_) (fun hc2 hb20124=> ?_)
  ·refine G2 8 [24] [] [2] E ?_;cases hb20124;have hq_:=hq20124 _ E;subst hq_;cases h;exact Rt [2] E E (Ug [] 4 (hR _ none 0 none 0 (hm_1.trans (hm20124.trans hm_2)) ⟨Nat.le_refl _,Nat.zero_le _⟩ Qv.nil ⟨Nat.le_refl _,Nat.zero_le _⟩ Qv.nil))
  refine G2 9 [] [24] [] E ?_;refine Br hb20124 29 E E (fun hc3 hb20124=> ?_) (fun hc3 hb20124=> ?_)
  ·refine G2 7 [29] [] [3,2] E ?_;cases hb20124;have hq_:=hq20124 _ E;subst hq_;cases h;exact Rt [2] E E (Ug [] 4 (hR _ A6 c6 A7 c7 (hm_1.trans (hm20124.trans hm_2)) hl6 hA6 hl7 hA7))
  refine G2 4 [] [29] [] E (IxA hb20124 (Own.rds hO1 0 E) E E fun _ _ _ _ hr1 hc4 _ hb20124=> ?_);obtain ⟨A9,c9,A10,c10,rfl,hl8,hA9,hl9,hA10⟩:=hr1;refine Q3 4 [] [] [64,3] (Z1 hc4) E ?_;cases hb20124;exact Ce E ⟨_,rfl,A9,c9,A10,c10,fE E,sE [some 1,some 2,some 3] 4 E,(hl8),(hA9),(hl9),(hA10)⟩
 exact fun _ _ _ _ _ _ hf_=>hf_.elim
theorem Qf9 {F:Nat} {p1:Qd} {x1:Qg} {A1:Option Addr} {c1:Nat} {A2:Option Addr} {c2:Nat} {A3:Option Addr} {c3:Nat} {A4:Option Addr} {c4:Nat} {A5:Option Addr} {c5:Nat} {res1:Int}
  (hl1:p1.Road.Edges.length≤c1∧c1≤maxLen) (hA1:Qv QS μ A1 p1.Road.Edges) (hl2:p1.Vehicles.length≤c2∧c2≤maxLen) (hA2:Qv QE μ A2 p1.Vehicles) (hl3:p1.Demands.length≤c3∧c3≤maxLen) (hA3:Qv QJ μ A3 p1.Demands) (hl4:x1.Tours.length≤c4∧c4≤maxLen) (hA4:Qv Qy μ A4 x1.Tours) (hl5:x1.Left.length≤c5∧c5≤maxLen) (hA5:Qv Yb μ A5 x1.Left) (h:WJ F p1 x1=some res1)
  (hR: ∀(μ':Gh) ,μ.le μ'→R (.int .i64 res1) μ' (L)) :
  Fn Tryz.prog 22 [.agg #[.int .i64 p1.Road.Nodes,.slice A1 p1.Road.Edges.length c1,.slice A2 p1.Vehicles.length c2,.slice A3 p1.Demands.length c3,.int .i64 p1.Unload,.int .i64 p1.UnloadSecs],.agg #[.slice A4 x1.Tours.length c4,.slice A5 x1.Left.length c5]] μ (L) R:=by
 unfold WJ at h;refine FnS Tryz.func22 (by kernel_rfl) E Tryz.ntmps22 E E ?_;refine G0 2 E (Al E fun _=>Q0 0 E (Al E fun _=>Q1 6 [1,0] E (Cl E ?_)));obtain ⟨⟨_,_⟩,hx1,h⟩:=Qh h;replace h:=Qo h;refine QfI hl1 hA1 hl2 hA2 hl3 hA3 hl4 hA4 hl5 hA5 hx1 (fun _ hm_1=> ?_);refine Q0 11 E ?_;cases h;exact Rt [] E E (Ug [] 2 (hR _ hm_1))
theorem QjH {F:Nat} {p1:Qd} {t1:Qa} {A1:Option Addr} {c1:Nat} {A2:Option Addr} {c2:Nat} {A3:Option Addr} {c3:Nat} {A4:Option Addr} {c4:Nat} {res1:(List QT)} {res2:Int} {res3:Int}
  (hl1:p1.Road.Edges.length≤c1∧c1≤maxLen) (hA1:Qv QS μ A1 p1.Road.Edges) (hl2:p1.Vehicles.length≤c2∧c2≤maxLen) (hA2:Qv QE μ A2 p1.Vehicles) (hl3:p1.Demands.length≤c3∧c3≤maxLen) (hA3:Qv QJ μ A3 p1.Demands) (hl4:t1.Stops.length≤c4∧c4≤maxLen) (hA4:Qv Yb μ A4 t1.Stops) (h:Qb1 F p1 t1=some (res1,res2,res3))
  (hR: ∀(μ':Gh) (A0:Option Addr) (c0:Nat) (ch0:Seg),μ.le μ'→Own Qcq 135 μ' (.slice A0 res1.length c0) res1 ch0→R (.tuple #[.slice A0 res1.length c0,.int .i64 res2,.int .i64 res3]) μ' (ch0::L)) :
  Fn Tryz.prog 26 [.agg #[.int .i64 p1.Road.Nodes,.slice A1 p1.Road.Edges.length c1,.slice A2 p1.Vehicles.length c2,.slice A3 p1.Demands.length c3,.int .i64 p1.Unload,.int .i64 p1.UnloadSecs],.agg #[.int .i64 t1.Vehicle,.slice A4 t1.Stops.length c4]] μ (L) R:=by
 unfold Qb1 at h;refine FnS Tryz.func26 (by kernel_rfl) E Tryz.ntmps26 E E ?_;refine G0 2 E (Al E fun _=>Q0 0 E (Al E fun _=>Q1 8 [1] E (Cl E ?_)));obtain ⟨_,hx1,h⟩:=Qh h;refine Qao hl1 hA1 hl2 hA2 hl3 hA3 hx1 (fun _ hm_1=> ?_);replace hA1:=hA1.mono hm_1;replace hA2:=hA2.mono hm_1;replace hA3:=hA3.mono hm_1;replace hA4:=hA4.mono hm_1;refine Q0 7 E ?_;refine Br h 14 E E (fun hc1 h=> ?_) (fun hc1 h=> ?_)
 ·refine G2 8 [14] [] [] E ?_;cases h;exact Rt [] E E (Ug [[]] 2 (hR _ none 0 [] hm_1 Own.nil))
 refine G2 6 [] [14] [1,0] E (Cl E ?_);obtain ⟨⟨_,_,_⟩,hx2,h⟩:=Qh h;replace h:=Qo h;replace h:=Qo h;refine Qcc hl1 hA1 hl2 hA2 hl3 hA3 hl4 hA4 hx2 (fun _ _ _ hm_2 hP1=> ?_);refine Q0 14 E ?_;refine Br h 24 E E (fun hc2 h=> ?_) (fun hc2 h=> ?_)
 ·refine G2 9 [24] [] [] E ?_;cases h;exact Rt [] E E (Ug [[]] 3 (hR _ none 0 [] (hm_1.trans hm_2) Own.nil))
 obtain ⟨_,hm_3,h⟩:=Qh h;have hP2:=Qfc.get hP1 hm_3;obtain ⟨_,_,_,_,_,_,_,_,_,_,A8,c8,ch1,hv1,rfl,⟨_,_⟩,⟨_,_⟩,⟨_,_⟩,_,hO1⟩:=hP2;subst hv1;refine G2 3 [] [24] [] E (In QH.fl 0 5 E E E (G1 9 [0] E ?_));cases h;exact Rt [] E E (Ug [[2]] 5 (hR _ A8 c8 ch1 (hm_1.trans hm_2) hO1))
theorem Qft {F:Nat} {p1:Qd} {t1:Qa} {d1:Int} {A1:Option Addr} {c1:Nat} {A2:Option Addr} {c2:Nat} {A3:Option Addr} {c3:Nat} {A4:Option Addr} {c4:Nat} {res1:(List Qa)} {res2:Int}
  (hl1:p1.Road.Edges.length≤c1∧c1≤maxLen) (hA1:Qv QS μ A1 p1.Road.Edges) (hl2:p1.Vehicles.length≤c2∧c2≤maxLen) (hA2:Qv QE μ A2 p1.Vehicles) (hl3:p1.Demands.length≤c3∧c3≤maxLen) (hA3:Qv QJ μ A3 p1.Demands) (hl4:t1.Stops.length≤c4∧c4≤maxLen) (hA4:Qv Yb μ A4 t1.Stops) (h:Jd F p1 t1 d1=some (res1,res2))
  (hR: ∀(μ':Gh) (A0:Option Addr) (c0:Nat) (ch0:Seg),μ.le μ'→Own Qy 51 μ' (.slice A0 res1.length c0) res1 ch0→R (.tuple #[.slice A0 res1.length c0,.int .i64 res2]) μ' (ch0::L)) :
  Fn Tryz.prog 27 [.agg #[.int .i64 p1.Road.Nodes,.slice A1 p1.Road.Edges.length c1,.slice A2 p1.Vehicles.length c2,.slice A3 p1.Demands.length c3,.int .i64 p1.Unload,.int .i64 p1.UnloadSecs],.agg #[.int .i64 t1.Vehicle,.slice A4 t1.Stops.length c4],.int .i64 d1] μ (L) R:=by
 unfold Jd at h;refine FnS Tryz.func27 (by kernel_rfl) E Tryz.ntmps27 E E ?_;refine G0 2 E (Al E fun _=>Q0 0 E (Al E fun _=>Q1 8 [1,0] E (Cl E ?_)));obtain ⟨⟨_,_⟩,hx1,h⟩:=Qh h;replace h:=Qo h;refine QaU hl1 hA1 hl2 hA2 hl3 hA3 hl4 hA4 hx1 (fun _ _ _ _ hm_1 hO1=> ?_);refine Q0 17 E ?_;refine Cut h (fun f l o_ f_ μ_ l_=> ∃(out2:(List Qa)) (A9:Option Addr) (c9:Nat) (ch4:Seg),out2=o_∧Qk ((10,.slice A9 out2.length c9)::Qs [9] f) f_∧Qe (ch4::QL [] 3 l) l_∧Own Qy 51 μ_ (.slice A9 out2.length c9) out2 ch4) ?_ ?_
 ·intro _ h20379 h;refine Lp h20379 (fun f l (j_:(List Qa)×Int) f_ μ_ l_=>Zk j_ fun out1 v2=> ∃(A6:Option Addr) (c6:Nat) (ch2:Seg),Qk ((10,.slice A6 out1.length c6)::(22,.int .i64 v2)::Qs [9,20,21] f) f_∧Qe (ch2::QL [some 0] 3 l) l_∧Own Qy 51 μ_ (.slice A6 out1.length c6) out1 ch2) ⟨none,0,[],fE E,sE [none,some 0] 3 E,(Own.nil)⟩ ?_;rintro ⟨out1,v2⟩ _ _ _ _ hm20391 ⟨A6,c6,ch2,hF20391,hS20391,hO2⟩ hb20391 hq20391;unfold JZ at hb20391;replace hb20391:=Qo hb20391;replace hO1:=hO1.mono hm20391;refine Atn 2 hF20391 hS20391 E E (G0 5 E ?_);refine Br hb20391 23 E E (fun hc1 hb20391=> ?_) (fun hc1 hb20391=> ?_)
  ·refine G2 6 [23] [] [] E (IxA hb20391 (Own.rds hO1 1 E) E E fun x1 _ _ _ hr1 hc2 _ hb20391=> ?_);obtain ⟨A7,c7,rfl,hl5,hA6⟩:=hr1;refine Q3 1 [] [] [64] (Z1 hc2) E (Al E fun _=>Q1 6 [0,0] E (So E (Z7 (z:=[.int .i64 0,.slice none 0 0]) E E E E E E E (QW (cells':=[.int .i64 x1.tour.Vehicle,.slice A7 x1.tour.Stops.length c7]) E E E E (Zw (fun g4=>Q0 0 E (So E (Ja E ?_))))))));obtain ⟨_,hz1,hb20391⟩:=Qh hb20391;refine JW (r:=Qy) Ym E E E E (by decide) E E 2 E hO2 E (Own.rds (Own.lit (r:=Qy) (e:=51) (g:=g4) (xs:=[x1.tour]) (cs:=[.int .i64 x1.tour.Vehicle,.slice A7 x1.tour.Stops.length c7]) (css:=[[.int .i64 x1.tour.Vehicle,.slice A7 x1.tour.Stops.length c7]]) E (All2.cons (⟨A7,c7,E,hl5,hA6⟩) (All2.nil)) E E) 0 E) hz1 fun A8 c8 ch3 hO3=>Q0 7 E ?_;cases hb20391;exact Ce E ⟨_,rfl,A8,c8,ch3,fE E,sE [some 2,some 3] 4 E,(hO3)⟩
  refine G2 2 [] [23] [] E ?_;cases hb20391;have hq_:=hq20391 _ E;subst hq_;exact Ce E ⟨_,A6,c6,ch2,rfl,fE E,sE [some 0] 2 E,(hO2)⟩
 rintro _ _ _ _ h hm20379 ⟨out2,A9,c9,ch4,rfl,hF20379,hS20379,hO4⟩;refine Atn 1 hF20379 hS20379 E E (G0 7 E ?_);cases h;exact Rt [] E E (Ug [[0]] 1 (hR _ A9 c9 ch4 (hm_1.trans hm20379) hO4))
theorem QeQ {F:Nat} {p1:Qd} {x1:Qg} {d1:Int} {v1:Int} {A1:Option Addr} {c1:Nat} {A2:Option Addr} {c2:Nat} {A3:Option Addr} {c3:Nat} {A4:Option Addr} {c4:Nat} {A5:Option Addr} {c5:Nat} {res1:Int}
  (hl1:p1.Road.Edges.length≤c1∧c1≤maxLen) (hA1:Qv QS μ A1 p1.Road.Edges) (hl2:p1.Vehicles.length≤c2∧c2≤maxLen) (hA2:Qv QE μ A2 p1.Vehicles) (hl3:p1.Demands.length≤c3∧c3≤maxLen) (hA3:Qv QJ μ A3 p1.Demands) (hl4:x1.Tours.length≤c4∧c4≤maxLen) (hA4:Qv Qy μ A4 x1.Tours) (hl5:x1.Left.length≤c5∧c5≤maxLen) (hA5:Qv Yb μ A5 x1.Left) (h:Yl F p1 x1 d1 v1=some res1)
  (hR: ∀(μ':Gh) ,μ.le μ'→R (.int .i64 res1) μ' (L)) :
  Fn Tryz.prog 46 [.agg #[.int .i64 p1.Road.Nodes,.slice A1 p1.Road.Edges.length c1,.slice A2 p1.Vehicles.length c2,.slice A3 p1.Demands.length c3,.int .i64 p1.Unload,.int .i64 p1.UnloadSecs],.agg #[.slice A4 x1.Tours.length c4,.slice A5 x1.Left.length c5],.int .i64 d1,.int .i64 v1] μ (L) R:=by
 unfold Yl at h;refine FnS Tryz.func46 (by kernel_rfl) E Tryz.ntmps46 E E ?_;refine G0 2 E (Al E fun _=>Q0 0 E (Al E fun _=>Q0 4 E (Dr _ QB.refl [(true,0),(true,1),(true,2),(true,3),(true,4),(true,5),(true,6),(true,7),(true,8),(true,9),(true,10),(false,11),(true,12)] (by kernel_rfl) (G1 3 [1] E (Ix h (Qv.rds hA2 L) E E fun _ _ _ _ hr1 hc1 _ h=> ?_)))));obtain rfl:=hr1;refine Q3 4 [] [] [64,1] (Z1 (hc1.push.push)) E (Ix h (Qv.rds hA3 L) E E fun _ _ _ _ hr2 hc2 _ h=> ?_);obtain rfl:=hr2;refine Q3 2 [] [] [66] (Z1 (hc2.push.push)) E (Cl E ?_);obtain ⟨_,hx3,h⟩:=Qh h;refine Qce  hx3 (?_);refine ⟨QB.refl,?_⟩;refine Q0 2 E ?_;refine Br h 26 E E (fun hc3 h=> ?_) (fun hc3 h=> ?_)
 ·refine G2 5 [26] [] [] E ?_;cases h;exact Rt [] E E (Ug [] 2 (hR _ (Gh.le.refl _)))
 refine G2 4 [] [26] [] E (Dr _ QB.refl [(true,0),(true,1),(true,2),(true,3),(true,4),(true,5),(true,6),(true,7),(true,8),(true,9),(true,10),(true,11),(true,12)] (by kernel_rfl) (G1 3 [1] E (Ix h (Qv.rds hA3 L) E E fun _ _ _ _ hr3 hc4 _ h=> ?_)));obtain rfl:=hr3;refine Q3 5 [] [] [67,1] (Z1 (hc4.push.push)) E (Ix h (Qv.rds hA2 L) E E fun _ _ _ _ hr4 hc5 _ h=> ?_);obtain rfl:=hr4;refine Q3 4 [] [] [68] (Z1 (hc5.push.push)) E ?_;refine Br h 39 E E (fun hc6 h=> ?_) (fun hc6 h=> ?_)
 ·refine G2 5 [39] [] [] E ?_;cases h;exact Rt [] E E (Ug [] 2 (hR _ (Gh.le.refl _)))
 refine G2 8 [] [39] [1] E (So E (Z7 (z:=[.int .i64 0,.int .i64 0]) E E E E E E E (QW (cells':=[.int .i64 d1,.int .i64 0]) E E E E (QW (cells':=[.int .i64 d1,.int .i64 (-1)]) E E E E (Zw (fun g3=>Q0 1 E (Cl E ?_)))))));have hl6:[d1,(-1)].length≤2∧2≤maxLen:=⟨Nat.le_refl _,by unfold maxLen;omega⟩
 refine Fn.pre Tryz.func26 (by kernel_rfl) E (Upd.frzOwn 0 E (Own.lit (r:=Yb) (e:=3) (g:=g3) (xs:=[d1,(-1)]) (cs:=[.int .i64 d1,.int .i64 (-1)]) (css:=[[.int .i64 d1],[.int .i64 (-1)]]) E (All2.cons (E) (All2.cons (E) (All2.nil))) E E) fun _ hm_1 hA10=>Upd.done ?_);replace hA1:=hA1.mono hm_1;replace hA2:=hA2.mono hm_1;replace hA3:=hA3.mono hm_1;replace hA4:=hA4.mono hm_1;replace hA5:=hA5.mono hm_1;obtain ⟨⟨_,_,_⟩,hx6,h⟩:=Qh h;replace h:=Qo h;replace h:=Qo h;refine QjH hl1 hA1 hl2 hA2 hl3 hA3 hl6 hA10 hx6 (fun _ _ _ _ hm_2 _=> ?_);replace hA1:=hA1.mono hm_2;replace hA2:=hA2.mono hm_2;replace hA3:=hA3.mono hm_2;replace hA4:=hA4.mono hm_2;replace hA5:=hA5.mono hm_2;refine Q0 13 E ?_;refine Br h 51 E E (fun hc7 h=> ?_) (fun hc7 h=> ?_)
 ·refine G2 6 [51] [] [] E ?_;cases h;exact Rt [] E E (Ug [] 4 (hR _ (hm_1.trans hm_2)))
 refine G2 3 [] [51] [] E (Dr _ QB.refl [(true,0),(true,1),(true,2),(true,4),(false,3),(false,5),(true,6),(true,7),(true,8),(true,9),(true,10)] (by kernel_rfl) (G1 4 [3,2] E (Cl E ?_)));obtain ⟨_,hx7,h⟩:=Qh h;refine QaQ hl4 hA4 hl5 hA5 hx7 (fun _ _ hl7 hA11=> ?_);refine ⟨QB.refl,?_⟩;refine Q0 0 E (Cl E ?_);obtain ⟨⟨_,_⟩,hx8,h⟩:=Qh h;replace h:=Qo h;refine Qft hl1 hA1 hl2 hA2 hl3 hA3 hl7 hA11 hx8 (fun _ _ _ _ hm_3 _=> ?_);refine ⟨QB.more (QB.refl),?_⟩;refine Q0 12 E ?_;refine Br h 63 E E (fun hc8 h=> ?_) (fun hc8 h=> ?_)
 ·refine G2 6 [63] [] [] E ?_;cases h;exact Rt [] E E (Ug [] 5 (hR _ (hm_1.trans (hm_2.trans hm_3))))
 refine G2 9 [] [63] [] E ?_;refine Br h 67 E E (fun hc9 h=> ?_) (fun hc9 h=> ?_)
 ·refine G2 5 [67] [] [] E ?_;cases h;exact Rt [] E E (Ug [] 5 (hR _ (hm_1.trans (hm_2.trans hm_3))))
 refine G2 6 [] [67] [] E ?_;cases h;exact Rt [] E E (Ug [] 5 (hR _ (hm_1.trans (hm_2.trans hm_3))))
theorem Qdu {F:Nat} {p1:Qd} {x1:Qg} {d1:Int} {A1:Option Addr} {c1:Nat} {A2:Option Addr} {c2:Nat} {A3:Option Addr} {c3:Nat} {A4:Option Addr} {c4:Nat} {A5:Option Addr} {c5:Nat} {res1:(List QI)} {res2:Int}
  (hl1:p1.Road.Edges.length≤c1∧c1≤maxLen) (hA1:Qv QS μ A1 p1.Road.Edges) (hl2:p1.Vehicles.length≤c2∧c2≤maxLen) (hA2:Qv QE μ A2 p1.Vehicles) (hl3:p1.Demands.length≤c3∧c3≤maxLen) (hA3:Qv QJ μ A3 p1.Demands) (hl4:x1.Tours.length≤c4∧c4≤maxLen) (hA4:Qv Qy μ A4 x1.Tours) (hl5:x1.Left.length≤c5∧c5≤maxLen) (hA5:Qv Yb μ A5 x1.Left) (h:Wr F p1 x1 d1=some (res1,res2))
  (hR: ∀(μ':Gh) (A0:Option Addr) (c0:Nat) (ch0:Seg),μ.le μ'→Own Wt 56 μ' (.slice A0 res1.length c0) res1 ch0→R (.tuple #[.slice A0 res1.length c0,.int .i64 res2]) μ' (ch0::L)) :
  Fn Tryz.prog 18 [.agg #[.int .i64 p1.Road.Nodes,.slice A1 p1.Road.Edges.length c1,.slice A2 p1.Vehicles.length c2,.slice A3 p1.Demands.length c3,.int .i64 p1.Unload,.int .i64 p1.UnloadSecs],.agg #[.slice A4 x1.Tours.length c4,.slice A5 x1.Left.length c5],.int .i64 d1] μ (L) R:=by
 unfold Wr at h;refine FnS Tryz.func18 (by kernel_rfl) E Tryz.ntmps18 E E ?_;refine G0 2 E (Al E fun g1=>Q0 0 E (Al E fun g2=>Q1 8 [1,0] E (Cl E ?_)));obtain ⟨_,hx1,h⟩:=Qh h;refine Qf9 hl1 hA1 hl2 hA2 hl3 hA3 hl4 hA4 hl5 hA5 hx1 (fun _ hm_1=> ?_);replace hA1:=hA1.mono hm_1;replace hA2:=hA2.mono hm_1;replace hA3:=hA3.mono hm_1;replace hA4:=hA4.mono hm_1;replace hA5:=hA5.mono hm_1;refine Q0 7 E ?_;refine Br h 15 E E (fun hc1 h=> ?_) (fun hc1 h=> ?_)
 ·refine G2 7 [15] [] [] E ?_;cases h;exact Rt [] E E (Ug [[]] 2 (hR _ none 0 [] hm_1 Own.nil))
 refine G2 4 [] [15] [] E ?_;refine Cut h (fun f l o_ f_ μ_ l_=> ∃(v2:Bool),v2=o_∧Qk ((25,.bool v2)::Qs [2,3,4] f) f_∧Qe (QL [some 1,some 0] 2 l) l_) ?_ ?_
 ·intro _ h20467 h;refine G0 4 E ?_;refine Br h20467 19 E E (fun hc2 h20467=> ?_) (fun hc2 h20467=> ?_)
  ·refine G2 7 [19] [] [] E ?_;cases h20467;exact Ce E ⟨_,rfl,fE E,sE [some 1,some 0] 2 E⟩
  refine G2 7 [] [19] [1] E ?_;cases h20467;exact Ce E ⟨_,rfl,fE E,sE [some 1,some 0] 2 E⟩
 rintro _ _ _ _ h hm20467 ⟨v2,rfl,hF20467,hS20467⟩;replace hA1:=hA1.mono hm20467;replace hA2:=hA2.mono hm20467;replace hA3:=hA3.mono hm20467;replace hA4:=hA4.mono hm20467;replace hA5:=hA5.mono hm20467;refine Atn 2 hF20467 hS20467 E E ?_;refine Br h 25 E E (fun hc3 h=> ?_) (fun hc3 h=> ?_)
 ·refine G2 6 [25] [] [] E ?_;cases h;exact Rt [] E E (Ug [[]] 2 (hR _ none 0 [] (hm_1.trans hm20467) Own.nil))
 refine G2 8 [] [25] [1] E (Cl E ?_);obtain ⟨_,hx2,h⟩:=Qh h;refine Ww hl5 (Qv.rds hA5 _) hx2 ((Q0 2 E ?_));refine Br h 30 E E (fun hc4 h=> ?_) (fun hc4 h=> ?_)
 ·refine G2 6 [30] [] [] E ?_;cases h;exact Rt [] E E (Ug [[]] 2 (hR _ none 0 [] (hm_1.trans hm20467) Own.nil))
 refine G2 14 [] [30] [0] E ?_;refine Cut h (fun f l o_ f_ μ_ l_=> ∃(out2:(List QI)) (A8:Option Addr) (c8:Nat) (ch3:Seg),out2=o_∧Qk ((9,.slice A8 out2.length c8)::[]) f_∧Qe (ch3::QL [] 2 l) l_∧Own Wt 56 μ_ (.slice A8 out2.length c8) out2 ch3) ?_ ?_
 ·intro _ h20478 h;refine Lp h20478 (fun f l (j_:(List QI)×Int) f_ μ_ l_=>Zk j_ fun out1 v3=> ∃(A6:Option Addr) (c6:Nat) (ch1:Seg),Qk ((9,.slice A6 out1.length c6)::(34,.int .i64 v3)::Qs [2,3,4,33] f) f_∧Qe ([(g1,.cells #[.int .i64 p1.Road.Nodes,.slice A1 p1.Road.Edges.length c1,.slice A2 p1.Vehicles.length c2,.slice A3 p1.Demands.length c3,.int .i64 p1.Unload,.int .i64 p1.UnloadSecs] 28 (0,0))]::[(g2,.cells #[.slice A4 x1.Tours.length c4,.slice A5 x1.Left.length c5] 33 (0,0))]::ch1::QL [] 2 l) l_∧Own Wt 56 μ_ (.slice A6 out1.length c6) out1 ch1) ⟨none,0,[],fE E,sE [some 0,some 1,none] 2 E,(Own.nil)⟩ ?_;rintro ⟨out1,v3⟩ _ _ _ _ hm20489 ⟨A6,c6,ch1,hF20489,hS20489,hO1⟩ hb20489 hq20489;unfold Qbz at hb20489;replace hb20489:=Qo hb20489;replace hA1:=hA1.mono hm20489;replace hA2:=hA2.mono hm20489;replace hA3:=hA3.mono hm20489;replace hA4:=hA4.mono hm20489;replace hA5:=hA5.mono hm20489;refine Atn 3 hF20489 hS20489 E E (G0 5 E ?_);refine Br hb20489 35 E E (fun hc5 hb20489=> ?_) (fun hc5 hb20489=> ?_)
  ·refine G2 16 [35] [] [0,1] E (Cl E ?_);obtain ⟨r3,hx3,hb20489⟩:=Qh hb20489;refine QeQ hl1 hA1 hl2 hA2 hl3 hA3 hl4 hA4 hl5 hA5 hx3 (fun _ hm_2=> ?_);replace hO1:=hO1.mono hm_2;refine Q0 1 E (So E (Z7 (z:=[.int .i64 0,.int .i64 0]) E E E E E E E (QW (cells':=[.int .i64 v3,.int .i64 r3]) E E E E (Zw (fun g3=>Q0 0 E (So E (Ja E ?_)))))));obtain ⟨_,hz1,hb20489⟩:=Qh hb20489;refine JW (r:=Wt) Ym E E E E (by decide) E E 3 E hO1 E (Own.rds (Own.lit (r:=Wt) (e:=56) (g:=g3) (xs:=[(QI.mk v3 r3)]) (cs:=[.int .i64 v3,.int .i64 r3]) (css:=[[.int .i64 v3,.int .i64 r3]]) E (All2.cons (E) (All2.nil)) E E) 0 E) hz1 fun A7 c7 ch2 hO2=>Q0 7 E ?_;cases hb20489;exact Ce E ⟨_,rfl,A7,c7,ch2,fE E,sE [some 1,some 2,some 3] 4 E,(hO2)⟩
  refine G2 2 [] [35] [] E ?_;cases hb20489;have hq_:=hq20489 _ E;subst hq_;exact Ce E ⟨_,A6,c6,ch1,rfl,fE E,sE [some 2] 3 E,(hO1)⟩
 rintro _ _ _ _ h hm20478 ⟨out2,A8,c8,ch3,rfl,hF20478,hS20478,hO3⟩;refine Atn 1 hF20478 hS20478 E E (G0 6 E ?_);cases h;exact Rt [] E E (Ug [[0]] 1 (hR _ A8 c8 ch3 (hm_1.trans (hm20467.trans hm20478)) hO3))
theorem QaX  {a1:(List Int)} {b1:(List Int)} {A1:Option Addr} {c1:Nat} {A2:Option Addr} {c2:Nat} {res1:Bool}
  (hl1:a1.length≤c1∧c1≤maxLen) (hA1:Rds Yb μ L A1 a1) (hl2:b1.length≤c2∧c2≤maxLen) (hA2:Rds Yb μ L A2 b1) (h:Jr a1 b1=some res1)
  (hR:R (.bool res1) μ (L)) :
  Fn Tryz.prog 38 [.slice A1 a1.length c1,.slice A2 b1.length c2] μ (L) R:=by
 unfold Jr at h;refine FnS Tryz.func38 (by kernel_rfl) E Tryz.ntmps38 E E ?_;refine G0 13 E ?_;refine Br h 10 E E (fun hc1 h=> ?_) (fun hc1 h=> ?_)
 ·refine G2 5 [10] [] [] E ?_;cases h;exact Rt [] E E (Ug [] 0 hR)
 refine G2 7 [] [10] [] E ?_;refine Cut h (fun f l o_ f_ μ_ l_=>(.inl ())=o_∧Qk ([]) f_∧Qe l l_∧μ=μ_) ?_ ?_
 ·intro _ h20606 h;refine Lp h20606 (fun f l (i1:Int) f_ μ_ l_=>Qk ((5,.int .i64 i1)::Qs [0,1] f) f_∧Qe l l_∧μ=μ_) ⟨fE E,sE [] 0 E,E⟩ ?_;rintro i1 _ _ _ _ _ ⟨hF20608,hS20608,rfl⟩ hb20608 hq20608;unfold Jk at hb20608;refine Atn 0 hF20608 hS20608 E E (G0 8 E ?_);refine Br hb20608 14 E E (fun hc2 hb20608=> ?_) (fun hc2 hb20608=> ?_)
  ·refine G2 5 [14] [] [] E (Dr _ QB.refl [(true,0),(true,1),(true,2),(true,3),(true,4),(true,5),(true,6),(true,7),(true,8)] (by kernel_rfl) (G0 2 E (Ix hb20608 hA1 E E fun _ _ _ _ hr1 hc3 _ hb20608=> ?_)));obtain rfl:=hr1;refine Q3 3 [] [] [64] (Z1 hc3) E (Ix hb20608 hA2 E E fun _ _ _ _ hr2 hc4 _ hb20608=> ?_);obtain rfl:=hr2;refine Q3 3 [] [] [64] (Z1 hc4) E ?_;refine Br hb20608 25 E E (fun hc5 hb20608=> ?_) (fun hc5 hb20608=> ?_)
   ·refine G2 5 [25] [] [] E ?_;cases hb20608;have hq_:=hq20608 _ E;subst hq_;replace h:=Z5 h;cases h;exact Rt [] E E (Ug [] 0 hR)
   refine G2 8 [] [25] [] E ?_;cases hb20608;exact Ce E ⟨_,rfl,fE E,sE [] 0 E,rfl⟩
  refine G2 2 [] [14] [] E ?_;cases hb20608;have hq_:=hq20608 _ E;subst hq_;exact Ce E ⟨rfl,fE E,sE [] 0 E,rfl⟩
 rintro _ _ _ _ h _ ⟨rfl,hF20606,hS20606,rfl⟩;replace h:=JT h;refine Atn 0 hF20606 hS20606 E E (G0 4 E ?_);cases h;exact Rt [] E E (Ug [] 0 hR)
theorem Qdn  {a1:(List Qa)} {b1:(List Qa)} {A1:Option Addr} {c1:Nat} {A2:Option Addr} {c2:Nat} {res1:Bool}
  (hl1:a1.length≤c1∧c1≤maxLen) (hA1:Rds Qy μ L A1 a1) (hl2:b1.length≤c2∧c2≤maxLen) (hA2:Rds Qy μ L A2 b1) (h:Wg a1 b1=some res1)
  (hR:R (.bool res1) μ (L)) :
  Fn Tryz.prog 37 [.slice A1 a1.length c1,.slice A2 b1.length c2] μ (L) R:=by
 unfold Wg at h;refine FnS Tryz.func37 (by kernel_rfl) E Tryz.ntmps37 E E ?_;refine G0 13 E ?_;refine Br h 10 E E (fun hc1 h=> ?_) (fun hc1 h=> ?_)
 ·refine G2 5 [10] [] [] E ?_;cases h;exact Rt [] E E (Ug [] 0 hR)
 refine G2 7 [] [10] [] E ?_;refine Cut h (fun f l o_ f_ μ_ l_=>(.inl ())=o_∧Qk ([]) f_∧Qe l l_∧μ=μ_) ?_ ?_
 ·intro _ h20598 h;refine Lp h20598 (fun f l (i1:Int) f_ μ_ l_=>Qk ((5,.int .i64 i1)::Qs [0,1] f) f_∧Qe l l_∧μ=μ_) ⟨fE E,sE [] 0 E,E⟩ ?_;rintro i1 _ _ _ _ _ ⟨hF20630,hS20630,rfl⟩ hb20630 hq20630;unfold Jl at hb20630;refine Atn 0 hF20630 hS20630 E E (G0 8 E ?_);refine Br hb20630 14 E E (fun hc2 hb20630=> ?_) (fun hc2 hb20630=> ?_)
  ·refine G2 5 [14] [] [] E ?_;refine Cut hb20630 (fun f l o_ f_ μ_ l_=> ∃(v1:Bool),v1=o_∧Qk ((41,.bool v1)::Qs [0,1,5] f) f_∧Qe l l_∧μ=μ_) ?_ ?_
   ·intro _ h20639 hb20630;refine Dr _ QB.refl [(true,0),(true,1),(true,2),(true,3),(true,4),(true,5),(true,6),(true,7),(true,8),(true,9),(true,10),(true,11),(true,12),(true,13),(true,14),(true,15),(true,16),(true,17),(true,18),(true,19),(true,20),(true,21),(false,22),(true,23),(true,24)] (by kernel_rfl) (G0 2 E (Ix h20639 hA1 E E fun _ _ _ _ hr1 hc3 _ h20639=> ?_));obtain ⟨_,_,rfl,_,_⟩:=hr1;refine Q3 4 [] [] [64] (Z1 hc3) E (Ix h20639 hA2 E E fun _ _ _ _ hr2 hc4 _ h20639=> ?_);obtain ⟨_,_,rfl,_,_⟩:=hr2;refine Q3 4 [] [] [64] (Z1 hc4) E ?_;refine Br h20639 28 E E (fun hc5 h20639=> ?_) (fun hc5 h20639=> ?_)
    ·refine G2 14 [28] [] [] E ?_;cases h20639;exact Ce E ⟨_,rfl,fE E,sE [] 0 E,rfl⟩
    refine G2 2 [] [28] [] E (Ix h20639 hA1 E E fun _ _ _ _ hr3 hc6 _ h20639=> ?_);obtain ⟨_,_,rfl,hl5,hA8⟩:=hr3;refine Q3 4 [] [28] [65] (Z1 hc6) E (Ix h20639 hA2 E E fun _ _ _ _ hr4 hc7 _ h20639=> ?_);obtain ⟨_,_,rfl,hl6,hA10⟩:=hr4;refine Q3 2 [] [28] [65] (Z1 hc7) E (Cl E ?_);obtain ⟨_,hx5,h20639⟩:=Qh h20639;refine QaX hl5 (Qv.rds hA8 _) hl6 (Qv.rds hA10 _) hx5 (?_);refine ⟨QB.refl,?_⟩;refine Q2 3 [] [28] [] E ?_;cases h20639;exact Ce E ⟨_,rfl,fE E,sE [] 0 E,rfl⟩
   rintro _ _ _ _ hb20630 _ ⟨v1,rfl,hF20639,hS20639,rfl⟩;refine Atn 0 hF20639 hS20639 E E ?_;refine Br hb20630 41 E E (fun hc8 hb20630=> ?_) (fun hc8 hb20630=> ?_)
   ·refine G2 5 [41] [] [] E ?_;cases hb20630;have hq_:=hq20630 _ E;subst hq_;replace h:=Z5 h;cases h;exact Rt [] E E (Ug [] 0 hR)
   refine G2 8 [] [41] [] E ?_;cases hb20630;exact Ce E ⟨_,rfl,fE E,sE [] 0 E,rfl⟩
  refine G2 2 [] [14] [] E ?_;cases hb20630;have hq_:=hq20630 _ E;subst hq_;exact Ce E ⟨rfl,fE E,sE [] 0 E,rfl⟩
 rintro _ _ _ _ h _ ⟨rfl,hF20598,hS20598,rfl⟩;replace h:=JT h;refine Atn 0 hF20598 hS20598 E E (G0 4 E ?_);cases h;exact Rt [] E E (Ug [] 0 hR)
theorem Vw  {a1:Qg} {b1:Qg} {A1:Option Addr} {c1:Nat} {A2:Option Addr} {c2:Nat} {A3:Option Addr} {c3:Nat} {A4:Option Addr} {c4:Nat} {res1:Bool}
  (hl1:a1.Tours.length≤c1∧c1≤maxLen) (hA1:Qv Qy μ A1 a1.Tours) (hl2:a1.Left.length≤c2∧c2≤maxLen) (hA2:Qv Yb μ A2 a1.Left) (hl3:b1.Tours.length≤c3∧c3≤maxLen) (hA3:Qv Qy μ A3 b1.Tours) (hl4:b1.Left.length≤c4∧c4≤maxLen) (hA4:Qv Yb μ A4 b1.Left) (h:Yt a1 b1=some res1)
  (hR:R (.bool res1) μ (L)) :
  Fn Tryz.prog 15 [.agg #[.slice A1 a1.Tours.length c1,.slice A2 a1.Left.length c2],.agg #[.slice A3 b1.Tours.length c3,.slice A4 b1.Left.length c4]] μ (L) R:=by
 unfold Yt at h;refine FnS Tryz.func15 (by kernel_rfl) E Tryz.ntmps15 E E ?_;refine G0 2 E (Al E fun _=>Q0 0 E (Al E fun _=>Q0 3 E ?_));refine Cut h (fun f l o_ f_ μ_ l_=> ∃(v1:Bool),v1=o_∧Qk ((4,.bool v1)::[]) f_∧Qe (QL [] 2 l) l_∧μ=μ_) ?_ ?_
 ·intro _ h20595 h;refine G1 5 [1,0] E (Cl E ?_);obtain ⟨_,hx1,h20595⟩:=Qh h20595;refine Qdn hl1 (Qv.rds hA1 _) hl3 (Qv.rds hA3 _) hx1 ((Q0 1 E ?_));refine Br h20595 10 E E (fun hc1 h20595=> ?_) (fun hc1 h20595=> ?_)
  ·refine G2 4 [10] [] [1,0] E (Cl E ?_);obtain ⟨_,hx2,h20595⟩:=Qh h20595;refine QaX hl2 (Qv.rds hA2 _) hl4 (Qv.rds hA4 _) hx2 ((Q2 3 [10] [] [] E ?_));cases h20595;exact Ce E ⟨_,rfl,fE E,sE [] 2 E,rfl⟩
  refine G2 8 [] [10] [] E ?_;cases h20595;exact Ce E ⟨_,rfl,fE E,sE [] 2 E,rfl⟩
 rintro _ _ _ _ h _ ⟨v1,rfl,hF20595,hS20595,rfl⟩;refine Atn 0 hF20595 hS20595 E E ?_;cases h;exact Rt [] E E (Ug [] 0 hR)
theorem Vq  {a1:(List QI)} {b1:(List QI)} {A1:Option Addr} {c1:Nat} {A2:Option Addr} {c2:Nat} {res1:Bool}
  (hl1:a1.length≤c1∧c1≤maxLen) (hA1:Rds Wt μ L A1 a1) (hl2:b1.length≤c2∧c2≤maxLen) (hA2:Rds Wt μ L A2 b1) (h:Ye a1 b1=some res1)
  (hR:R (.bool res1) μ (L)) :
  Fn Tryz.prog 20 [.slice A1 a1.length c1,.slice A2 b1.length c2] μ (L) R:=by
 unfold Ye at h;refine FnS Tryz.func20 (by kernel_rfl) E Tryz.ntmps20 E E ?_;refine G0 13 E ?_;refine Br h 10 E E (fun hc1 h=> ?_) (fun hc1 h=> ?_)
 ·refine G2 5 [10] [] [] E ?_;cases h;exact Rt [] E E (Ug [] 0 hR)
 refine G2 9 [] [10] [] E ?_;refine Cut h (fun f l o_ f_ μ_ l_=>(.inl ())=o_∧Qk ([]) f_∧Qe l l_∧μ=μ_) ?_ ?_
 ·intro _ h20681 h;refine Lp h20681 (fun f l (v1:Int) f_ μ_ l_=>Qk ((13,.int .i64 v1)::Qs [0,1,12] f) f_∧Qe l l_∧μ=μ_) ⟨fE E,sE [] 0 E,E⟩ ?_;rintro v1 _ _ _ _ _ ⟨hF20683,hS20683,rfl⟩ hb20683 hq20683;unfold JV at hb20683;refine Atn 0 hF20683 hS20683 E E (G0 5 E ?_);refine Br hb20683 14 E E (fun hc2 hb20683=> ?_) (fun hc2 hb20683=> ?_)
  ·refine G2 10 [14] [] [] E (Dr _ QB.refl [(true,0),(true,1),(true,2),(true,3),(true,4),(true,5),(true,6),(true,7),(true,8)] (by kernel_rfl) (G0 2 E (Ix hb20683 hA1 E E fun x1 _ _ _ hr1 hc3 _ hb20683=> ?_)));obtain rfl:=hr1;refine Q3 3 [] [] [64] (Z1 hc3) E (Ix hb20683 hA2 E E fun x2 _ _ _ hr2 hc4 _ hb20683=> ?_);obtain rfl:=hr2;refine Q3 1 [] [] [64] (Z1 hc4) E (Rdo E E (Qiq E E (Ex.mk _ (Qe0 x1 x2) (Q0 1 E ?_))));refine Br hb20683 24 E E (fun hc5 hb20683=> ?_) (fun hc5 hb20683=> ?_)
   ·refine G2 5 [24] [] [] E ?_;cases hb20683;have hq_:=hq20683 _ E;subst hq_;replace h:=Z5 h;cases h;exact Rt [] E E (Ug [] 0 hR)
   refine G2 7 [] [24] [] E ?_;cases hb20683;exact Ce E ⟨_,rfl,fE E,sE [] 0 E,rfl⟩
  refine G2 2 [] [14] [] E ?_;cases hb20683;have hq_:=hq20683 _ E;subst hq_;exact Ce E ⟨rfl,fE E,sE [] 0 E,rfl⟩
 rintro _ _ _ _ h _ ⟨rfl,hF20681,hS20681,rfl⟩;replace h:=JT h;refine Atn 0 hF20681 hS20681 E E (G0 4 E ?_);cases h;exact Rt [] E E (Ug [] 0 hR)
theorem Vm {F:Nat}   {res1:Bool}
   (h:Zm F=some res1)
  (hR: ∀(μ':Gh) ,μ.le μ'→R (.bool res1) μ' (L)) :
  Fn Tryz.prog 12 [] μ (L) R:=by
 unfold Zm at h;refine FnS Tryz.func12 (by kernel_rfl) E Tryz.ntmps12 E E ?_;refine G0 6 E (So E (Z7 (z:=[.int .i64 0,.int .i64 0]) E E E E E E E (QW (cells':=[.int .i64 0,.int .i64 0]) E E E E (QW (cells':=[.int .i64 0,.int .i64 (-1)]) E E E E (Zw (fun g1=>Q0 1 E (So E (Z7 (z:=[.int .i64 0,.slice none 0 0]) E E E E E E E (QW (cells':=[.int .i64 0,.slice (some ⟨g1,0,none⟩) 2 2]) E E E E (Zw (fun g2=>Q0 1 E (Al E fun g3=>Q1 4 [0] E (Cl E (FnS Tryz.func35 (by kernel_rfl) E Tryz.ntmps35 E E (G0 2 E (Al E fun g4=> ?_))))))))))))))));refine Q0 5 E (So E (Z7 (z:=[.int .i64 0,.int .i64 0,.int .i64 0,.int .i64 0,.int .i64 0,.int .i64 0,.int .i64 0,.int .i64 0]) E E E E E E E (QW (cells':=[.int .i64 0,.int .i64 1,.int .i64 500,.int .i64 60,.int .i64 0,.int .i64 0,.int .i64 0,.int .i64 0]) E E E E (QW (cells':=[.int .i64 0,.int .i64 1,.int .i64 500,.int .i64 60,.int .i64 1,.int .i64 0,.int .i64 500,.int .i64 60]) E E E E (Zw (fun g5=>Q0 3 E (So E (Z7 (z:=[.string ⟨#[]⟩,.int .i64 0,.int .i64 0,.int .i64 0,.int .i64 0,.int .i64 0]) E E E E E E E (QW (cells':=[.string ⟨#[118]⟩,.int .i64 0,.int .i64 1000,.int .i64 2000,.int .i64 1000,.int .i64 1]) E E E E (Zw (fun g6=>Q0 2 E (So E (Z7 (z:=[.int .i64 0,.int .i64 0,.int .i64 0,.int .i64 0,.int .i64 0,.int .i64 0,.int .i64 0]) E E E E E E E ?_)))))))))))));refine QW (cells':=[.int .i64 0,.int .i64 1,.int .i64 0,.int .i64 300,.int .i64 1100,.int .i64 1200,.int .i64 30]) E E E E (Zw (fun g7=>Q1 3 [3] E (Rt [3] E E (Upd.done (Q0 0 E (Cl E ?_))))));have hl1:[(QG.mk 0 1 500 60),(QG.mk 1 0 500 60)].length≤2∧2≤maxLen:=⟨Nat.le_refl _,by unfold maxLen;omega⟩
 refine Fn.pre Tryz.func13 (by kernel_rfl) E (Upd.frzOwn 2 E (Own.lit (r:=QS) (e:=106) (g:=g5) (xs:=[(QG.mk 0 1 500 60),(QG.mk 1 0 500 60)]) (cs:=[.int .i64 0,.int .i64 1,.int .i64 500,.int .i64 60,.int .i64 1,.int .i64 0,.int .i64 500,.int .i64 60]) (css:=[[.int .i64 0,.int .i64 1,.int .i64 500,.int .i64 60],[.int .i64 1,.int .i64 0,.int .i64 500,.int .i64 60]]) E (All2.cons (E) (All2.cons (E) (All2.nil))) E E) fun _ hm_1 hA1=>Upd.done ?_);have hl2:[(Qn.mk ⟨#[118]⟩ 0 (Qz.mk 1000 2000) 1000 1)].length≤1∧1≤maxLen:=⟨Nat.le_refl _,by unfold maxLen;omega⟩
 refine Fn.pre Tryz.func13 (by kernel_rfl) E (Upd.frzOwn 1 E (Own.lit (r:=QE) (e:=61) (g:=g6) (xs:=[(Qn.mk ⟨#[118]⟩ 0 (Qz.mk 1000 2000) 1000 1)]) (cs:=[.string ⟨#[118]⟩,.int .i64 0,.int .i64 1000,.int .i64 2000,.int .i64 1000,.int .i64 1]) (css:=[[.string ⟨#[118]⟩,.int .i64 0,.int .i64 1000,.int .i64 2000,.int .i64 1000,.int .i64 1]]) E (All2.cons (E) (All2.nil)) E E) fun _ hm_2 hA2=>Upd.done ?_);replace hA1:=hA1.mono hm_2;have hl3:[(Qt.mk 0 1 0 300 (Qz.mk 1100 1200) 30)].length≤1∧1≤maxLen:=⟨Nat.le_refl _,by unfold maxLen;omega⟩
 refine Fn.pre Tryz.func13 (by kernel_rfl) E (Upd.frzOwn 0 E (Own.lit (r:=QJ) (e:=63) (g:=g7) (xs:=[(Qt.mk 0 1 0 300 (Qz.mk 1100 1200) 30)]) (cs:=[.int .i64 0,.int .i64 1,.int .i64 0,.int .i64 300,.int .i64 1100,.int .i64 1200,.int .i64 30]) (css:=[[.int .i64 0,.int .i64 1,.int .i64 0,.int .i64 300,.int .i64 1100,.int .i64 1200,.int .i64 30]]) E (All2.cons (E) (All2.nil)) E E) fun _ hm_3 hA3=>Upd.done ?_);replace hA1:=hA1.mono hm_3;replace hA2:=hA2.mono hm_3;obtain ⟨⟨r1,_⟩,hx1,h⟩:=Qh h;replace h:=Qo h;refine QcM hl1 hA1 hl2 hA2 hl3 hA3 hx1 (fun _ A1 c1 A2 c2 hm_4 hl4 hA4 hl5 hA5=> ?_);refine Q0 3 E (Al E fun g8=>Q1 5 [0] E (Cl E (FnS Tryz.func35 (by kernel_rfl) E Tryz.ntmps35 E E (G0 2 E (Al E fun g9=>Q0 5 E (So E (Z7 (z:=[.int .i64 0,.int .i64 0,.int .i64 0,.int .i64 0,.int .i64 0,.int .i64 0,.int .i64 0,.int .i64 0]) E E E E E E E (QW (cells':=[.int .i64 0,.int .i64 1,.int .i64 500,.int .i64 60,.int .i64 0,.int .i64 0,.int .i64 0,.int .i64 0]) E E E E (QW (cells':=[.int .i64 0,.int .i64 1,.int .i64 500,.int .i64 60,.int .i64 1,.int .i64 0,.int .i64 500,.int .i64 60]) E E E E (Zw (fun g10=>Q0 3 E (So E (Z7 (z:=[.string ⟨#[]⟩,.int .i64 0,.int .i64 0,.int .i64 0,.int .i64 0,.int .i64 0]) E E E E E E E (QW (cells':=[.string ⟨#[118]⟩,.int .i64 0,.int .i64 1000,.int .i64 2000,.int .i64 1000,.int .i64 1]) E E E E ?_))))))))))))));refine Zw (fun g11=>Q0 2 E (So E (Z7 (z:=[.int .i64 0,.int .i64 0,.int .i64 0,.int .i64 0,.int .i64 0,.int .i64 0,.int .i64 0]) E E E E E E E (QW (cells':=[.int .i64 0,.int .i64 1,.int .i64 0,.int .i64 300,.int .i64 1100,.int .i64 1200,.int .i64 30]) E E E E (Zw (fun g12=>Q1 3 [3] E (Rt [3] E E (Upd.done (Q0 0 E (So E (Z7 (z:=[.int .i64 0]) E E E E E E E (QW (cells':=[.int .i64 0]) E E E E (Zw (fun g13=>Q0 1 E (Cl E ?_)))))))))))))));have hl6:[(QG.mk 0 1 500 60),(QG.mk 1 0 500 60)].length≤2∧2≤maxLen:=⟨Nat.le_refl _,by unfold maxLen;omega⟩
 refine Fn.pre Tryz.func16 (by kernel_rfl) E (Upd.frzOwn 3 E (Own.lit (r:=QS) (e:=106) (g:=g10) (xs:=[(QG.mk 0 1 500 60),(QG.mk 1 0 500 60)]) (cs:=[.int .i64 0,.int .i64 1,.int .i64 500,.int .i64 60,.int .i64 1,.int .i64 0,.int .i64 500,.int .i64 60]) (css:=[[.int .i64 0,.int .i64 1,.int .i64 500,.int .i64 60],[.int .i64 1,.int .i64 0,.int .i64 500,.int .i64 60]]) E (All2.cons (E) (All2.cons (E) (All2.nil))) E E) fun _ hm_5 hA6=>Upd.done ?_);replace hA4:=hA4.mono hm_5;replace hA5:=hA5.mono hm_5;have hl7:[(Qn.mk ⟨#[118]⟩ 0 (Qz.mk 1000 2000) 1000 1)].length≤1∧1≤maxLen:=⟨Nat.le_refl _,by unfold maxLen;omega⟩
 refine Fn.pre Tryz.func16 (by kernel_rfl) E (Upd.frzOwn 2 E (Own.lit (r:=QE) (e:=61) (g:=g11) (xs:=[(Qn.mk ⟨#[118]⟩ 0 (Qz.mk 1000 2000) 1000 1)]) (cs:=[.string ⟨#[118]⟩,.int .i64 0,.int .i64 1000,.int .i64 2000,.int .i64 1000,.int .i64 1]) (css:=[[.string ⟨#[118]⟩,.int .i64 0,.int .i64 1000,.int .i64 2000,.int .i64 1000,.int .i64 1]]) E (All2.cons (E) (All2.nil)) E E) fun _ hm_6 hA7=>Upd.done ?_);replace hA4:=hA4.mono hm_6;replace hA5:=hA5.mono hm_6;replace hA6:=hA6.mono hm_6;have hl8:[(Qt.mk 0 1 0 300 (Qz.mk 1100 1200) 30)].length≤1∧1≤maxLen:=⟨Nat.le_refl _,by unfold maxLen;omega⟩
 refine Fn.pre Tryz.func16 (by kernel_rfl) E (Upd.frzOwn 1 E (Own.lit (r:=QJ) (e:=63) (g:=g12) (xs:=[(Qt.mk 0 1 0 300 (Qz.mk 1100 1200) 30)]) (cs:=[.int .i64 0,.int .i64 1,.int .i64 0,.int .i64 300,.int .i64 1100,.int .i64 1200,.int .i64 30]) (css:=[[.int .i64 0,.int .i64 1,.int .i64 0,.int .i64 300,.int .i64 1100,.int .i64 1200,.int .i64 30]]) E (All2.cons (E) (All2.nil)) E E) fun _ hm_7 hA8=>Upd.done ?_);replace hA4:=hA4.mono hm_7;replace hA5:=hA5.mono hm_7;replace hA6:=hA6.mono hm_7;replace hA7:=hA7.mono hm_7;have hl9:[0].length≤1∧1≤maxLen:=⟨Nat.le_refl _,by unfold maxLen;omega⟩
 refine Fn.pre Tryz.func16 (by kernel_rfl) E (Upd.frzOwn 0 E (Own.lit (r:=Yb) (e:=3) (g:=g13) (xs:=[0]) (cs:=[.int .i64 0]) (css:=[[.int .i64 0]]) E (All2.cons (E) (All2.nil)) E E) fun _ hm_8 hA9=>Upd.done ?_);replace hA4:=hA4.mono hm_8;replace hA5:=hA5.mono hm_8;replace hA6:=hA6.mono hm_8;replace hA7:=hA7.mono hm_8;replace hA8:=hA8.mono hm_8;obtain ⟨⟨_,_⟩,hx2,h⟩:=Qh h;replace h:=Qo h;refine QaP hl6 hA6 hl7 hA7 hl8 hA8 ⟨Nat.le_refl _,Nat.zero_le _⟩ Qv.nil hl9 hA9 hx2 (fun _ _ _ ch1 hm_9 hO1=> ?_);replace hA4:=hA4.mono hm_9;replace hA5:=hA5.mono hm_9;refine Q0 8 E (Cl E (FnS Tryz.func35 (by kernel_rfl) E Tryz.ntmps35 E E (G0 2 E (Al E fun g14=>Q0 5 E (So E (Z7 (z:=[.int .i64 0,.int .i64 0,.int .i64 0,.int .i64 0,.int .i64 0,.int .i64 0,.int .i64 0,.int .i64 0]) E E E E E E E (QW (cells':=[.int .i64 0,.int .i64 1,.int .i64 500,.int .i64 60,.int .i64 0,.int .i64 0,.int .i64 0,.int .i64 0]) E E E E (QW (cells':=[.int .i64 0,.int .i64 1,.int .i64 500,.int .i64 60,.int .i64 1,.int .i64 0,.int .i64 500,.int .i64 60]) E E E E (Zw (fun g15=>Q0 3 E (So E (Z7 (z:=[.string ⟨#[]⟩,.int .i64 0,.int .i64 0,.int .i64 0,.int .i64 0,.int .i64 0]) E E E E E E E (QW (cells':=[.string ⟨#[118]⟩,.int .i64 0,.int .i64 1000,.int .i64 2000,.int .i64 1000,.int .i64 1]) E E E E ?_)))))))))))));refine Zw (fun g16=>Q0 2 E (So E (Z7 (z:=[.int .i64 0,.int .i64 0,.int .i64 0,.int .i64 0,.int .i64 0,.int .i64 0,.int .i64 0]) E E E E E E E (QW (cells':=[.int .i64 0,.int .i64 1,.int .i64 0,.int .i64 300,.int .i64 1100,.int .i64 1200,.int .i64 30]) E E E E (Zw (fun g17=>Q1 3 [3] E (Rt [3] E E (Upd.done (Q0 0 E (So E (Z7 (z:=[.int .i64 0]) E E E E E E E (QW (cells':=[.int .i64 0]) E E E E (Zw (fun g18=>Q0 1 E (Cl E ?_)))))))))))))));have hl10:[(QG.mk 0 1 500 60),(QG.mk 1 0 500 60)].length≤2∧2≤maxLen:=⟨Nat.le_refl _,by unfold maxLen;omega⟩
 refine Fn.pre Tryz.func18 (by kernel_rfl) E (Upd.frzOwn 3 E (Own.lit (r:=QS) (e:=106) (g:=g15) (xs:=[(QG.mk 0 1 500 60),(QG.mk 1 0 500 60)]) (cs:=[.int .i64 0,.int .i64 1,.int .i64 500,.int .i64 60,.int .i64 1,.int .i64 0,.int .i64 500,.int .i64 60]) (css:=[[.int .i64 0,.int .i64 1,.int .i64 500,.int .i64 60],[.int .i64 1,.int .i64 0,.int .i64 500,.int .i64 60]]) E (All2.cons (E) (All2.cons (E) (All2.nil))) E E) fun _ hm_10 hA10=>Upd.done ?_);replace hA4:=hA4.mono hm_10;replace hA5:=hA5.mono hm_10;replace hO1:=hO1.mono hm_10;have hl11:[(Qn.mk ⟨#[118]⟩ 0 (Qz.mk 1000 2000) 1000 1)].length≤1∧1≤maxLen:=⟨Nat.le_refl _,by unfold maxLen;omega⟩
 refine Fn.pre Tryz.func18 (by kernel_rfl) E (Upd.frzOwn 2 E (Own.lit (r:=QE) (e:=61) (g:=g16) (xs:=[(Qn.mk ⟨#[118]⟩ 0 (Qz.mk 1000 2000) 1000 1)]) (cs:=[.string ⟨#[118]⟩,.int .i64 0,.int .i64 1000,.int .i64 2000,.int .i64 1000,.int .i64 1]) (css:=[[.string ⟨#[118]⟩,.int .i64 0,.int .i64 1000,.int .i64 2000,.int .i64 1000,.int .i64 1]]) E (All2.cons (E) (All2.nil)) E E) fun _ hm_11 hA11=>Upd.done ?_);replace hA4:=hA4.mono hm_11;replace hA5:=hA5.mono hm_11;replace hO1:=hO1.mono hm_11;replace hA10:=hA10.mono hm_11;have hl12:[(Qt.mk 0 1 0 300 (Qz.mk 1100 1200) 30)].length≤1∧1≤maxLen:=⟨Nat.le_refl _,by unfold maxLen;omega⟩
 refine Fn.pre Tryz.func18 (by kernel_rfl) E (Upd.frzOwn 1 E (Own.lit (r:=QJ) (e:=63) (g:=g17) (xs:=[(Qt.mk 0 1 0 300 (Qz.mk 1100 1200) 30)]) (cs:=[.int .i64 0,.int .i64 1,.int .i64 0,.int .i64 300,.int .i64 1100,.int .i64 1200,.int .i64 30]) (css:=[[.int .i64 0,.int .i64 1,.int .i64 0,.int .i64 300,.int .i64 1100,.int .i64 1200,.int .i64 30]]) E (All2.cons (E) (All2.nil)) E E) fun _ hm_12 hA12=>Upd.done ?_);replace hA4:=hA4.mono hm_12;replace hA5:=hA5.mono hm_12;replace hO1:=hO1.mono hm_12;replace hA10:=hA10.mono hm_12;replace hA11:=hA11.mono hm_12;have hl13:[0].length≤1∧1≤maxLen:=⟨Nat.le_refl _,by unfold maxLen;omega⟩
 refine Fn.pre Tryz.func18 (by kernel_rfl) E (Upd.frzOwn 0 E (Own.lit (r:=Yb) (e:=3) (g:=g18) (xs:=[0]) (cs:=[.int .i64 0]) (css:=[[.int .i64 0]]) E (All2.cons (E) (All2.nil)) E E) fun _ hm_13 hA13=>Upd.done ?_);replace hA4:=hA4.mono hm_13;replace hA5:=hA5.mono hm_13;replace hO1:=hO1.mono hm_13;replace hA10:=hA10.mono hm_13;replace hA11:=hA11.mono hm_13;replace hA12:=hA12.mono hm_13;obtain ⟨⟨_,_⟩,hx3,h⟩:=Qh h;replace h:=Qo h;refine Qdu hl10 hA10 hl11 hA11 hl12 hA12 ⟨Nat.le_refl _,Nat.zero_le _⟩ Qv.nil hl13 hA13 hx3 (fun v14 _ _ ch2 hm_14 hO2=> ?_);replace hA4:=hA4.mono hm_14;replace hA5:=hA5.mono hm_14;replace hO1:=hO1.mono hm_14;refine Q0 8 E (Cl E (FnS Tryz.func35 (by kernel_rfl) E Tryz.ntmps35 E E (G0 2 E (Al E fun g19=>Q0 5 E (So E (Z7 (z:=[.int .i64 0,.int .i64 0,.int .i64 0,.int .i64 0,.int .i64 0,.int .i64 0,.int .i64 0,.int .i64 0]) E E E E E E E (QW (cells':=[.int .i64 0,.int .i64 1,.int .i64 500,.int .i64 60,.int .i64 0,.int .i64 0,.int .i64 0,.int .i64 0]) E E E E (QW (cells':=[.int .i64 0,.int .i64 1,.int .i64 500,.int .i64 60,.int .i64 1,.int .i64 0,.int .i64 500,.int .i64 60]) E E E E (Zw (fun g20=>Q0 3 E (So E (Z7 (z:=[.string ⟨#[]⟩,.int .i64 0,.int .i64 0,.int .i64 0,.int .i64 0,.int .i64 0]) E E E E E E E (QW (cells':=[.string ⟨#[118]⟩,.int .i64 0,.int .i64 1000,.int .i64 2000,.int .i64 1000,.int .i64 1]) E E E E ?_)))))))))))));refine Zw (fun g21=>Q0 2 E (So E (Z7 (z:=[.int .i64 0,.int .i64 0,.int .i64 0,.int .i64 0,.int .i64 0,.int .i64 0,.int .i64 0]) E E E E E E E (QW (cells':=[.int .i64 0,.int .i64 1,.int .i64 0,.int .i64 300,.int .i64 1100,.int .i64 1200,.int .i64 30]) E E E E (Zw (fun g22=>Q1 3 [3] E (Rt [3] E E (Upd.done (Q0 0 E (Al E fun g23=>Q1 6 [0,0] E (IxA h (Own.rds (Own.lit (r:=QE) (e:=61) (g:=g21) (xs:=[(Qn.mk ⟨#[118]⟩ 0 (Qz.mk 1000 2000) 1000 1)]) (cs:=[.string ⟨#[118]⟩,.int .i64 0,.int .i64 1000,.int .i64 2000,.int .i64 1000,.int .i64 1]) (css:=[[.string ⟨#[118]⟩,.int .i64 0,.int .i64 1000,.int .i64 2000,.int .i64 1000,.int .i64 1]]) E (All2.cons (E) (All2.nil)) E E) 2 E) E E fun x1 _ _ hx4 hr1 _ hA14 h=> ?_)))))))))));obtain rfl:=hr1;refine Q0 1 E (So E (Q8 (vs:=[.int .i64 299]) rfl rfl rfl rfl rfl rfl (Own.store (μ:=v14) (r:=QE) (x':=(Qn.mk x1.ID x1.Depot x1.Shift 299 x1.Kinds)) (o:=4) (sz:=6) 2 rfl (Own.lit (r:=QE) (e:=61) (g:=g21) (xs:=[(Qn.mk ⟨#[118]⟩ 0 (Qz.mk 1000 2000) 1000 1)]) (cs:=[.string ⟨#[118]⟩,.int .i64 0,.int .i64 1000,.int .i64 2000,.int .i64 1000,.int .i64 1]) (css:=[[.string ⟨#[118]⟩,.int .i64 0,.int .i64 1000,.int .i64 2000,.int .i64 1000,.int .i64 1]]) rfl (All2.cons (rfl) (All2.nil)) rfl rfl) hA14 hx4 rfl rfl (by rintro _ rfl;rfl) fun _ hO3=>Q1 4 [0] E (Cl E ?_))));have hl14:[(QG.mk 0 1 500 60),(QG.mk 1 0 500 60)].length≤2∧2≤maxLen:=⟨Nat.le_refl _,by unfold maxLen;omega⟩
 refine Fn.pre Tryz.func13 (by kernel_rfl) E (Upd.frzOwn 3 E (Own.lit (r:=QS) (e:=106) (g:=g20) (xs:=[(QG.mk 0 1 500 60),(QG.mk 1 0 500 60)]) (cs:=[.int .i64 0,.int .i64 1,.int .i64 500,.int .i64 60,.int .i64 1,.int .i64 0,.int .i64 500,.int .i64 60]) (css:=[[.int .i64 0,.int .i64 1,.int .i64 500,.int .i64 60],[.int .i64 1,.int .i64 0,.int .i64 500,.int .i64 60]]) E (All2.cons (E) (All2.cons (E) (All2.nil))) E E) fun _ hm_15 hA15=>Upd.done ?_);replace hA4:=hA4.mono hm_15;replace hA5:=hA5.mono hm_15;replace hO1:=hO1.mono hm_15;replace hO2:=hO2.mono hm_15;replace hO3:=hO3.mono hm_15;have hl15:=Own.lenOk hO3;refine Fn.pre Tryz.func13 (by kernel_rfl) E (Upd.frzOwn 2 E hO3 fun _ hm_16 hA16=>Upd.done ?_);replace hA4:=hA4.mono hm_16;replace hA5:=hA5.mono hm_16;replace hO1:=hO1.mono hm_16;replace hO2:=hO2.mono hm_16;replace hA15:=hA15.mono hm_16;have hl16:[(Qt.mk 0 1 0 300 (Qz.mk 1100 1200) 30)].length≤1∧1≤maxLen:=⟨Nat.le_refl _,by unfold maxLen;omega⟩
 refine Fn.pre Tryz.func13 (by kernel_rfl) E (Upd.frzOwn 1 E (Own.lit (r:=QJ) (e:=63) (g:=g22) (xs:=[(Qt.mk 0 1 0 300 (Qz.mk 1100 1200) 30)]) (cs:=[.int .i64 0,.int .i64 1,.int .i64 0,.int .i64 300,.int .i64 1100,.int .i64 1200,.int .i64 30]) (css:=[[.int .i64 0,.int .i64 1,.int .i64 0,.int .i64 300,.int .i64 1100,.int .i64 1200,.int .i64 30]]) E (All2.cons (E) (All2.nil)) E E) fun _ hm_17 hA17=>Upd.done ?_);replace hA4:=hA4.mono hm_17;replace hA5:=hA5.mono hm_17;replace hO1:=hO1.mono hm_17;replace hO2:=hO2.mono hm_17;replace hA15:=hA15.mono hm_17;replace hA16:=hA16.mono hm_17;obtain ⟨⟨r7,_⟩,hx5,h⟩:=Qh h;replace h:=Qo h;refine QcM (p1:=(Qd.mk (QK.mk 2 [(QG.mk 0 1 500 60),(QG.mk 1 0 500 60)]) (Yg [(Qn.mk ⟨#[118]⟩ 0 (Qz.mk 1000 2000) 1000 1)] 0 (Qn.mk x1.ID x1.Depot x1.Shift 299 x1.Kinds)) [(Qt.mk 0 1 0 300 (Qz.mk 1100 1200) 30)] 0 20)) hl14 hA15 hl15 hA16 hl16 hA17 hx5 (fun _ A5 c5 A6 c6 hm_18 hl17 hA18 hl18 hA19=> ?_);replace hA4:=hA4.mono hm_18;replace hA5:=hA5.mono hm_18;replace hO1:=hO1.mono hm_18;replace hO2:=hO2.mono hm_18;replace hA15:=hA15.mono hm_18;replace hA16:=hA16.mono hm_18;replace hA17:=hA17.mono hm_18;refine Q0 3 E (Al E fun g24=>Q1 7 [0,1,0] E (Cl E ?_));obtain ⟨⟨_,_⟩,hx6,h⟩:=Qh h;replace h:=Qo h;refine Qdu (p1:=(Qd.mk (QK.mk 2 [(QG.mk 0 1 500 60),(QG.mk 1 0 500 60)]) (Yg [(Qn.mk ⟨#[118]⟩ 0 (Qz.mk 1000 2000) 1000 1)] 0 (Qn.mk x1.ID x1.Depot x1.Shift 299 x1.Kinds)) [(Qt.mk 0 1 0 300 (Qz.mk 1100 1200) 30)] 0 20)) hl14 hA15 hl15 hA16 hl16 hA17 hl17 hA18 hl18 hA19 hx6 (fun _ _ _ ch4 hm_19 hO4=> ?_);replace hA4:=hA4.mono hm_19;replace hA5:=hA5.mono hm_19;replace hO1:=hO1.mono hm_19;replace hO2:=hO2.mono hm_19;replace hA18:=hA18.mono hm_19;replace hA19:=hA19.mono hm_19;refine Q0 7 E ?_;refine Cut h (fun f l o_ f_ μ_ l_=> ∃(v23:Bool),v23=o_∧Qk ((0,.bool v23)::[]) f_∧Qe (QL [] 27 l) l_) ?_ ?_
 ·intro _ h21081 h;have hl19:[0,(-1)].length≤2∧2≤maxLen:=⟨Nat.le_refl _,by unfold maxLen;omega⟩
  refine KS.upd E (Upd.frzOwn 26 E (Own.lit (r:=Yb) (e:=3) (g:=g1) (xs:=[0,(-1)]) (cs:=[.int .i64 0,.int .i64 (-1)]) (css:=[[.int .i64 0],[.int .i64 (-1)]]) E (All2.cons (E) (All2.cons (E) (All2.nil))) E E) fun _ hm_20 hA20=>Upd.done ?_);replace hA4:=hA4.mono hm_20;replace hA5:=hA5.mono hm_20;replace hO1:=hO1.mono hm_20;replace hO2:=hO2.mono hm_20;replace hA18:=hA18.mono hm_20;replace hA19:=hA19.mono hm_20;replace hO4:=hO4.mono hm_20;have hl20:[(Qa.mk 0 [0,(-1)])].length≤1∧1≤maxLen:=⟨Nat.le_refl _,by unfold maxLen;omega⟩
  refine KS.upd E (Upd.frzOwn 25 E (Own.lit (r:=Qy) (e:=51) (g:=g2) (xs:=[(Qa.mk 0 [0,(-1)])]) (cs:=[.int .i64 0,.slice (some ⟨g1,0,none⟩) 2 2]) (css:=[[.int .i64 0,.slice (some ⟨g1,0,none⟩) 2 2]]) E (All2.cons (⟨(some ⟨g1,0,none⟩),2,E,hl19,hA20⟩) (All2.nil)) E E) fun _ hm_21 hA21=>Upd.done ?_);replace hA4:=hA4.mono hm_21;replace hA5:=hA5.mono hm_21;replace hO1:=hO1.mono hm_21;replace hO2:=hO2.mono hm_21;replace hA18:=hA18.mono hm_21;replace hA19:=hA19.mono hm_21;replace hO4:=hO4.mono hm_21;refine Dr _ QB.refl [(true,0),(true,1),(false,2),(true,3),(true,4),(true,5),(true,6),(true,7),(true,8),(true,9),(true,10),(true,11),(true,12),(true,13),(true,14),(true,15),(true,16),(false,17),(true,18),(true,19),(true,20),(true,21),(true,22),(true,23),(true,24),(true,25),(false,26),(false,27),(true,28),(true,29),(true,30),(true,31),(true,32),(true,33),(true,34),(false,35),(true,36),(false,37),(true,38),(true,39),(true,40),(true,41),(true,42),(true,43),(true,44),(true,45),(false,46),(false,47),(true,48),(true,49),(true,50),(true,51),(true,52),(true,53)] (by kernel_rfl) (G1 2 [19,24] E (Cl E ?_));obtain ⟨_,hx7,h21081⟩:=Qh h21081;refine Vw hl4 hA4 hl5 hA5 hl20 hA21 ⟨Nat.le_refl _,Nat.zero_le _⟩ Qv.nil hx7 (?_);refine ⟨QB.refl,?_⟩;refine Q0 1 E ?_;refine Br h21081 55 E E (fun hc2 h21081=> ?_) (fun hc2 h21081=> ?_)
  ·refine G2 4 [55] [] [] E ?_;refine Br h21081 59 E E (fun hc3 h21081=> ?_) (fun hc3 h21081=> ?_)
   ·refine G2 5 [59] [] [] E ?_;refine Br h21081 64 E E (fun hc4 h21081=> ?_) (fun hc4 h21081=> ?_)
    ·refine G2 1 [64] [] [] E (Ix h21081 (Own.rds (L:=(ch4::[(g24,.cells #[.slice A5 r7.Tours.length c5,.slice A6 r7.Left.length c6] 33 (0,0))]::[(g23,.cells #[.int .i64 2,.slice (some ⟨g20,0,none⟩) 2 2,.slice (some ⟨g21,0,none⟩) 1 1,.slice (some ⟨g22,0,none⟩) 1 1,.int .i64 0,.int .i64 20] 28 (0,0))]::[]::[]::[]::[(g19,.cells #[.int .i64 2,.slice (some ⟨g20,0,none⟩) 2 2,.slice (some ⟨g21,0,none⟩) 1 1,.slice (some ⟨g22,0,none⟩) 1 1,.int .i64 0,.int .i64 20] 28 (0,0))]::ch2::[]::[]::[]::[]::[(g14,.cells #[.int .i64 2,.slice (some ⟨g15,0,none⟩) 2 2,.slice (some ⟨g16,0,none⟩) 1 1,.slice (some ⟨g17,0,none⟩) 1 1,.int .i64 0,.int .i64 20] 28 (0,0))]::ch1::[]::[]::[]::[]::[(g9,.cells #[.int .i64 2,.slice (some ⟨g10,0,none⟩) 2 2,.slice (some ⟨g11,0,none⟩) 1 1,.slice (some ⟨g12,0,none⟩) 1 1,.int .i64 0,.int .i64 20] 28 (0,0))]::[(g8,.cells #[.slice A1 r1.Tours.length c1,.slice A2 r1.Left.length c2] 33 (0,0))]::[]::[]::[]::[(g4,.cells #[.int .i64 2,.slice (some ⟨g5,0,none⟩) 2 2,.slice (some ⟨g6,0,none⟩) 1 1,.slice (some ⟨g7,0,none⟩) 1 1,.int .i64 0,.int .i64 20] 28 (0,0))]::[(g3,.cells #[.slice (some ⟨g2,0,none⟩) 1 1,.slice none 0 0] 33 (0,0))]::[]::[]::L)) hO1 13 E) E E fun _ _ _ _ hr2 hc5 _ h21081=> ?_);obtain ⟨_,_,_,_,rfl,hl21,hA23,hl22,hA24⟩:=hr2;refine Q3 2 [64] [] [64,24] (Z1 hc5) E (Cl E ?_);obtain ⟨_,hx9,h21081⟩:=Qh h21081;refine Vw hl21 hA23 hl22 hA24 hl20 hA21 ⟨Nat.le_refl _,Nat.zero_le _⟩ Qv.nil hx9 (?_);refine ⟨QB.refl,?_⟩;refine Q2 2 [64] [] [] E ?_;refine Br h21081 71 E E (fun hc6 h21081=> ?_) (fun hc6 h21081=> ?_)
     ·refine G2 4 [71] [] [] E ?_;refine Br h21081 75 E E (fun hc7 h21081=> ?_) (fun hc7 h21081=> ?_)
      ·refine G2 2 [75] [] [] E (So E (Z7 (z:=[.int .i64 0,.int .i64 0]) E E E E E E E (QW (cells':=[.int .i64 0,.int .i64 0]) E E E E (Zw (fun g25=> ?_)))));refine ⟨QB.more (QB.refl),?_⟩;refine Q0 0 E (Cl E ?_);obtain ⟨_,hx10,h21081⟩:=Qh h21081;refine Vq (Own.lenOk hO2) (Own.rds hO2 8 E) (QhF (c:=1) E E) (Own.rds (Own.lit (r:=Wt) (e:=56) (g:=g25) (xs:=[(QI.mk 0 0)]) (cs:=[.int .i64 0,.int .i64 0]) (css:=[[.int .i64 0,.int .i64 0]]) E (All2.cons (E) (All2.nil)) E E) 0 E) hx10 (?_);refine ⟨QB.more (QB.refl),?_⟩;refine Q2 2 [75] [] [] E ?_;refine Br h21081 81 E E (fun hc8 h21081=> ?_) (fun hc8 h21081=> ?_)
       ·refine G2 4 [81] [] [] E ?_;refine Br h21081 85 E E (fun hc9 h21081=> ?_) (fun hc9 h21081=> ?_)
        ·refine G2 1 [85] [] [1] E (So E (Z7 (z:=[.int .i64 0]) E E E E E E E (QW (cells':=[.int .i64 0]) E E E E (Zw (fun g26=> ?_)))));refine ⟨QB.more (QB.more (QB.refl)),?_⟩;refine Q2 1 [85] [] [] E (Cl E ?_);have hl23:[0].length≤1∧1≤maxLen:=⟨Nat.le_refl _,by unfold maxLen;omega⟩
         refine Fn.pre Tryz.func15 (by kernel_rfl) E (Upd.frzOwn 0 E (Own.lit (r:=Yb) (e:=3) (g:=g26) (xs:=[0]) (cs:=[.int .i64 0]) (css:=[[.int .i64 0]]) E (All2.cons (E) (All2.nil)) E E) fun _ hm_22 hA25=>Upd.done ?_);replace hA18:=hA18.mono hm_22;replace hA19:=hA19.mono hm_22;replace hO4:=hO4.mono hm_22;obtain ⟨_,hx11,h21081⟩:=Qh h21081;refine Vw hl17 hA18 hl18 hA19 ⟨Nat.le_refl _,Nat.zero_le _⟩ Qv.nil hl23 hA25 hx11 (?_);refine ⟨QB.more (QB.more (QB.refl)),?_⟩;refine Q2 2 [85] [] [] E ?_;refine Br h21081 91 E E (fun hc10 h21081=> ?_) (fun hc10 h21081=> ?_)
         ·refine G2 4 [91] [] [] E ?_;refine Br h21081 95 E E (fun hc11 h21081=> ?_) (fun hc11 h21081=> ?_)
          ·refine G2 2 [95] [] [] E (So E (Z7 (z:=[.int .i64 0,.int .i64 0]) E E E E E E E (QW (cells':=[.int .i64 0,.int .i64 20]) E E E E (Zw (fun g27=> ?_)))));refine ⟨QB.more (QB.more (QB.more (QB.refl))),?_⟩;refine Q0 0 E (Cl E ?_);obtain ⟨_,hx12,h21081⟩:=Qh h21081;refine Vq (Own.lenOk hO4) (Own.rds hO4 3 E) (QhF (c:=1) E E) (Own.rds (Own.lit (r:=Wt) (e:=56) (g:=g27) (xs:=[(QI.mk 0 20)]) (cs:=[.int .i64 0,.int .i64 20]) (css:=[[.int .i64 0,.int .i64 20]]) E (All2.cons (E) (All2.nil)) E E) 0 E) hx12 (?_);refine ⟨QB.more (QB.more (QB.more (QB.refl))),?_⟩;refine Q2 2 [95] [] [] E ?_;refine Br h21081 101 E E (fun hc12 h21081=> ?_) (fun hc12 h21081=> ?_)
           ·refine G2 5 [101] [] [] E ?_;cases h21081;exact Ce E ⟨_,rfl,fE E,sE [] 30 E⟩
           refine G2 5 [] [101] [] E ?_;cases h21081;exact Ce E ⟨_,rfl,fE E,sE [] 30 E⟩
          refine G2 11 [] [95,101] [] E ?_;cases h21081;exact Ce E ⟨_,rfl,fE E,sE [] 29 E⟩
         refine G2 15 [] [91,95,101] [] E ?_;cases h21081;exact Ce E ⟨_,rfl,fE E,sE [] 29 E⟩
        refine G2 21 [] [85,91,95,101] [] E ?_;cases h21081;exact Ce E ⟨_,rfl,fE E,sE [] 28 E⟩
       refine G2 25 [] [81,85,91,95,101] [] E ?_;cases h21081;exact Ce E ⟨_,rfl,fE E,sE [] 28 E⟩
      refine G2 31 [] [75,81,85,91,95,101] [] E ?_;cases h21081;exact Ce E ⟨_,rfl,fE E,sE [] 27 E⟩
     refine G2 35 [] [71,75,81,85,91,95,101] [] E ?_;cases h21081;exact Ce E ⟨_,rfl,fE E,sE [] 27 E⟩
    refine G2 42 [] [64,71,75,81,85,91,95,101] [] E ?_;cases h21081;exact Ce E ⟨_,rfl,fE E,sE [] 27 E⟩
   refine G2 47 [] [59,64,71,75,81,85,91,95,101] [] E ?_;cases h21081;exact Ce E ⟨_,rfl,fE E,sE [] 27 E⟩
  refine G2 51 [] [55,59,64,71,75,81,85,91,95,101] [] E ?_;cases h21081;exact Ce E ⟨_,rfl,fE E,sE [] 27 E⟩
 rintro _ _ _ _ h hm21081 ⟨v23,rfl,hF21081,hS21081⟩;refine Atn 0 hF21081 hS21081 E E ?_;cases h;exact Rt [] E E (Ug [] 0 (hR _ (hm_1.trans (hm_2.trans (hm_3.trans (hm_4.trans (hm_5.trans (hm_6.trans (hm_7.trans (hm_8.trans (hm_9.trans (hm_10.trans (hm_11.trans (hm_12.trans (hm_13.trans (hm_14.trans (hm_15.trans (hm_16.trans (hm_17.trans (hm_18.trans (hm_19.trans hm21081)))))))))))))))))))))
end Go.Proofs.YthpgjbbjpfiniaaGreat
namespace Go.Proofs.YthpgjbbjpfiniaaGreat
open Go.RowKit
set_option linter.unusedSimpArgs false
set_option linter.unusedVariables false
set_option maxHeartbeats 2000000
set_option maxRecDepth 4000
attribute [local irreducible] WP ZC QaD Fn AN Upd vcR vcO Qc2 JA Z6 Qa8 Qbf QcP QbM W9 QcG QB KS
variable {μ:Gh} {L:List Seg} {R:Value→Gh→List Seg→Prop}
theorem Qak  {left1:Int} {cost1:Int} {otherLeft1:Int} {otherCost1:Int}  {res1:Bool}
   (h:Q4 left1 cost1 otherLeft1 otherCost1=some res1)
  (hR:R (.bool res1) μ (L)) :
  Fn Tryz.prog 29 [.int .i64 left1,.int .i64 cost1,.int .i64 otherLeft1,.int .i64 otherCost1] μ (L) R:=by
 unfold Q4 at h;refine FnS Tryz.func29 (by kernel_rfl) E Tryz.ntmps29 E E ?_;refine G0 5 E ?_;refine Cut h (fun f l o_ f_ μ_ l_=> ∃(v1:Bool),v1=o_∧Qk ((8,.bool v1)::[]) f_∧Qe l l_∧μ=μ_) ?_ ?_
 ·intro _ h24770 h;refine G0 5 E ?_;refine Br h24770 12 E E (fun hc1 h24770=> ?_) (fun hc1 h24770=> ?_)
  ·refine G2 11 [12] [] [] E ?_;cases h24770;exact Ce E ⟨_,rfl,fE E,sE [] 0 E,rfl⟩
  refine G2 4 [] [12] [] E ?_;refine Br h24770 16 E E (fun hc2 h24770=> ?_) (fun hc2 h24770=> ?_)
  ·refine G2 7 [16] [12] [] E ?_;cases h24770;exact Ce E ⟨_,rfl,fE E,sE [] 0 E,rfl⟩
  refine G2 7 [] [12,16] [] E ?_;cases h24770;exact Ce E ⟨_,rfl,fE E,sE [] 0 E,rfl⟩
 rintro _ _ _ _ h _ ⟨v1,rfl,hF24770,hS24770,rfl⟩;refine Atn 0 hF24770 hS24770 E E ?_;cases h;exact Rt [] E E (Ug [] 0 hR)
end Go.Proofs.YthpgjbbjpfiniaaGreat
namespace Go.Proofs.YthpgjbbjpfiniaaGreat
open Go.RowKit
set_option linter.unusedSimpArgs false
set_option linter.unusedVariables false
set_option maxHeartbeats 2000000
set_option maxRecDepth 4000
attribute [local irreducible] WP ZC QaD Fn AN Upd vcR vcO Qc2 JA Z6 Qa8 Qbf QcP QbM W9 QcG QB KS
variable {μ:Gh} {L:List Seg} {R:Value→Gh→List Seg→Prop}
theorem QaW {F:Nat} {p1:Qd} {x1:Qg} {A1:Option Addr} {c1:Nat} {A2:Option Addr} {c2:Nat} {A3:Option Addr} {c3:Nat} {A4:Option Addr} {c4:Nat} {A5:Option Addr} {c5:Nat} {res1:Bool}
  (hl1:p1.Road.Edges.length≤c1∧c1≤maxLen) (hA1:Qv QS μ A1 p1.Road.Edges) (hl2:p1.Vehicles.length≤c2∧c2≤maxLen) (hA2:Qv QE μ A2 p1.Vehicles) (hl3:p1.Demands.length≤c3∧c3≤maxLen) (hA3:Qv QJ μ A3 p1.Demands) (hl4:x1.Tours.length≤c4∧c4≤maxLen) (hA4:Qv Qy μ A4 x1.Tours) (hl5:x1.Left.length≤c5∧c5≤maxLen) (hA5:Qv Yb μ A5 x1.Left) (h:YN F p1 x1=some res1)
  (hR: ∀(μ':Gh) ,μ.le μ'→R (.bool res1) μ' (L)) :
  Fn Tryz.prog 8 [.agg #[.int .i64 p1.Road.Nodes,.slice A1 p1.Road.Edges.length c1,.slice A2 p1.Vehicles.length c2,.slice A3 p1.Demands.length c3,.int .i64 p1.Unload,.int .i64 p1.UnloadSecs],.agg #[.slice A4 x1.Tours.length c4,.slice A5 x1.Left.length c5]] μ (L) R:=by
 unfold YN at h;refine FnS Tryz.func8 (by kernel_rfl) E Tryz.ntmps8 E E ?_;refine G0 2 E (Al E fun _=>Q0 0 E (Al E fun _=>Q1 7 [1,0] E (Cl E ?_)));obtain ⟨_,hx1,h⟩:=Qh h;refine QcY hl1 hA1 hl2 hA2 hl3 hA3 hl4 hA4 hl5 hA5 hx1 ((Q0 1 E ?_));refine Br h 17 E E (fun hc1 h=> ?_) (fun hc1 h=> ?_)
 ·refine G2 3 [17] [] [] E (Cl E ?_);obtain ⟨_,hx2,h⟩:=Qh h;refine Vm  hx2 (fun _ hm_1=> ?_);replace hA1:=hA1.mono hm_1;replace hA2:=hA2.mono hm_1;replace hA3:=hA3.mono hm_1;replace hA4:=hA4.mono hm_1;replace hA5:=hA5.mono hm_1;refine Q0 2 E ?_;cases h;exact Rt [] E E (Ug [] 2 (hR _ hm_1))
 refine G2 6 [] [17] [1,0] E (Cl E ?_);obtain ⟨⟨_,_⟩,hx3,h⟩:=Qh h;replace h:=Qo h;refine QaP hl1 hA1 hl2 hA2 hl3 hA3 hl4 hA4 hl5 hA5 hx3 (fun _ _ _ _ hm_2 hO1=> ?_);replace hA1:=hA1.mono hm_2;replace hA2:=hA2.mono hm_2;replace hA3:=hA3.mono hm_2;replace hA4:=hA4.mono hm_2;replace hA5:=hA5.mono hm_2;refine Q1 10 [2,1] E (Cl E ?_);obtain ⟨⟨_,_⟩,hx4,h⟩:=Qh h;replace h:=Qo h;refine Qbo hl1 hA1 hl2 hA2 hl3 hA3 hl4 hA4 hl5 hA5 hx4 (fun _ hm_3=> ?_);replace hA1:=hA1.mono hm_3;replace hA2:=hA2.mono hm_3;replace hA3:=hA3.mono hm_3;replace hO1:=hO1.mono hm_3;refine Q0 8 E ?_;refine Cut h (fun f l o_ f_ μ_ l_=> ∃(v4:Bool),v4=o_∧Qk ((36,.bool v4)::Qs [2,3,5,6,7,8] f) f_∧Qe (QL [some 2,some 1,some 0] 3 l) l_) ?_ ?_
 ·intro _ h27255 h;refine G0 4 E ?_;refine Br h27255 33 E E (fun hc2 h27255=> ?_) (fun hc2 h27255=> ?_)
  ·refine G2 4 [33] [] [] E ?_;cases h27255;exact Ce E ⟨_,rfl,fE E,sE [some 2,some 1,some 0] 3 E⟩
  refine G2 4 [] [33] [] E ?_;cases h27255;exact Ce E ⟨_,rfl,fE E,sE [some 2,some 1,some 0] 3 E⟩
 rintro _ _ _ _ h hm27255 ⟨v4,rfl,hF27255,hS27255⟩;replace hA1:=hA1.mono hm27255;replace hA2:=hA2.mono hm27255;replace hA3:=hA3.mono hm27255;replace hO1:=hO1.mono hm27255;refine Atn 3 hF27255 hS27255 E E ?_;refine Br h 36 E E (fun hc3 h=> ?_) (fun hc3 h=> ?_)
 ·refine G2 2 [36] [] [] E ?_;refine Cut h (fun f l o_ f_ μ_ l_=> ∃(v6:Bool),v6=o_∧Qk ((4,.bool v6)::[]) f_∧Qe (QL [] 3 l) l_) ?_ ?_
  ·intro _ h27260 h;refine G0 5 E ?_;refine Br h27260 40 E E (fun hc4 h27260=> ?_) (fun hc4 h27260=> ?_)
   ·refine G2 5 [40] [] [] E ?_;refine Br h27260 45 E E (fun hc5 h27260=> ?_) (fun hc5 h27260=> ?_)
    ·refine Cl E ?_;obtain ⟨_,hx5,h27260⟩:=Qh h27260;refine Vm  hx5 (fun _ hm_4=> ?_);replace hA1:=hA1.mono hm_4;replace hA2:=hA2.mono hm_4;replace hA3:=hA3.mono hm_4;replace hO1:=hO1.mono hm_4;refine Q2 3 [45] [] [] E ?_;cases h27260;exact Ce E ⟨_,rfl,fE E,sE [] 3 E⟩
    refine G2 4 [] [45] [] E ?_;cases h27260;exact Ce E ⟨_,rfl,fE E,sE [] 3 E⟩
   refine G2 9 [] [40,45] [] E ?_;cases h27260;exact Ce E ⟨_,rfl,fE E,sE [] 3 E⟩
  rintro _ _ _ _ h hm27260 ⟨v6,rfl,hF27260,hS27260⟩;replace hA1:=hA1.mono hm27260;replace hA2:=hA2.mono hm27260;replace hA3:=hA3.mono hm27260;replace hO1:=hO1.mono hm27260;refine Atn 0 hF27260 hS27260 E E ?_;cases h;exact Rt [] E E (Ug [] 0 (hR _ (hm_2.trans (hm_3.trans (hm27255.trans hm27260)))))
 refine G2 14 [] [36] [] E ?_;refine Cut h (fun f l o_ f_ μ_ l_=>(.inl ())=o_∧Qk ([]) f_∧Qe (QL [] 3 l) l_) ?_ ?_
 ·intro _ h27261 h;refine Lp h27261 (fun f l (j_:Int×Int×Int) f_ μ_ l_=>Zk j_ fun left1 j_=>Zk j_ fun cost1 v7=>Qk ((9,.int .i64 left1)::(10,.int .i64 cost1)::(50,.int .i64 v7)::Qs [2,3,7,48,49] f) f_∧Qe l l_) ⟨fE E,sE [some 0,some 1,some 2] 3 E⟩ ?_;rintro ⟨left1,cost1,v7⟩ _ _ _ _ hm27282 ⟨hF27282,hS27282⟩ hb27282 hq27282;unfold Yj at hb27282;replace hb27282:=Qo hb27282;replace hb27282:=Qo hb27282;replace hA1:=hA1.mono hm27282;replace hA2:=hA2.mono hm27282;replace hA3:=hA3.mono hm27282;replace hO1:=hO1.mono hm27282;refine Atn 3 hF27282 hS27282 E E (G0 5 E ?_);refine Br hb27282 51 E E (fun hc6 hb27282=> ?_) (fun hc6 hb27282=> ?_)
  ·refine G2 7 [51] [] [] E (IxA hb27282 (Own.rds hO1 2 E) E E fun _ _ _ _ hr1 hc7 _ hb27282=> ?_);obtain ⟨_,_,_,_,rfl,hl6,hA7,hl7,hA8⟩:=hr1;refine Q3 1 [] [] [64] (Z1 hc7) E (Al E fun _=>Q1 7 [0,1,0] E (Cl E ?_));obtain ⟨⟨_,_⟩,hx7,hb27282⟩:=Qh hb27282;replace hb27282:=Qo hb27282;refine Qbo hl1 hA1 hl2 hA2 hl3 hA3 hl6 hA7 hl7 hA8 hx7 (fun _ hm_5=> ?_);refine Q0 8 E ?_;refine Cut hb27282 (fun f l o_ f_ μ_ l_=> ∃(v9:Bool),v9=o_∧Qk ((87,.bool v9)::Qs [2,3,7,12,13,48,49,50] f) f_∧Qe (QL [some 1,some 2,some 0,some 3] 4 l) l_) ?_ ?_
   ·intro _ h27295 hb27282;refine G0 4 E ?_;refine Br h27295 63 E E (fun hc8 h27295=> ?_) (fun hc8 h27295=> ?_)
    ·refine G2 25 [63,75] [] [] E ?_;cases h27295;exact Ce E ⟨_,rfl,fE E,sE [some 1,some 2,some 0,some 3] 4 E⟩
    refine G2 8 [] [63] [0,2] E (Cl E ?_);obtain ⟨_,hx8,h27295⟩:=Qh h27295;refine Qak  hx8 ((Q2 3 [] [63] [] E ?_));refine Br h27295 75 E E (fun hc9 h27295=> ?_) (fun hc9 h27295=> ?_)
    ·refine G2 13 [75] [] [] E ?_;cases h27295;exact Ce E ⟨_,rfl,fE E,sE [some 1,some 2,some 0,some 3] 4 E⟩
    refine G2 3 [] [75] [] E ?_;refine Br h27295 78 E E (fun hc10 h27295=> ?_) (fun hc10 h27295=> ?_)
    ·refine G2 6 [78] [] [0] E (Cl E ?_);obtain ⟨_,hx9,h27295⟩:=Qh h27295;refine Qak  hx9 ((Q2 3 [78] [75] [] E ?_));cases h27295;exact Ce E ⟨_,rfl,fE E,sE [some 1,some 2,some 0,some 3] 4 E⟩
    refine G2 10 [] [75,78] [] E ?_;cases h27295;exact Ce E ⟨_,rfl,fE E,sE [some 1,some 2,some 0,some 3] 4 E⟩
   rintro _ _ _ _ hb27282 hm27295 ⟨v9,rfl,hF27295,hS27295⟩;refine Atn 4 hF27295 hS27295 E E ?_;refine Br hb27282 87 E E (fun hc11 hb27282=> ?_) (fun hc11 hb27282=> ?_)
   ·refine G2 5 [87] [] [] E ?_;cases hb27282;have hq_:=hq27282 _ E;subst hq_;replace h:=Z5 h;cases h;exact Rt [] E E (Ug [] 4 (hR _ (hm_2.trans (hm_3.trans (hm27255.trans (hm27282.trans (hm_5.trans hm27295)))))))
   refine G2 18 [] [87] [2] E ?_;cases hb27282;exact Ce E ⟨_,rfl,fE E,sE [some 0,some 1,some 3] 4 E⟩
  refine G2 2 [] [51] [] E ?_;cases hb27282;have hq_:=hq27282 _ E;subst hq_;exact Ce E ⟨rfl,fE E,sE [] 3 E⟩
 rintro _ _ _ _ h hm27261 ⟨rfl,hF27261,hS27261⟩;replace h:=JT h;refine Atn 0 hF27261 hS27261 E E (G0 2 E (Cl E ?_));obtain ⟨_,hx10,h⟩:=Qh h;refine Vm  hx10 (fun _ hm_6=> ?_);refine Q0 2 E ?_;cases h;exact Rt [] E E (Ug [] 0 (hR _ (hm_2.trans (hm_3.trans (hm27255.trans (hm27261.trans hm_6))))))
end Go.Proofs.YthpgjbbjpfiniaaGreat
namespace Go.Proofs.YthpgjbbjpfiniaaGreat
set_option linter.unusedSimpArgs false
set_option linter.unusedVariables false
theorem Qfu {τ ρ:Type} {body:τ→Option (τ⊕ρ)} (I:Nat→τ→ρ→Prop)
  (h: ∀n t o,I n t o→(∃t' n',body t=some (.inl t')∧n'<n∧I n' t' o)∨body t=some (.inr o)): ∀(fuel n:Nat) (t:τ) (o:ρ),I n t o→n<fuel→iter body fuel t=some o
 | 0,_,_,_,_,hm=>by omega
 | f+1,n,t,o,hI,hm=>by
  rcases h n t o hI with ⟨t',n',h1,h2,h3⟩ | h1
  ·simp only[iter,h1,Option.bind_some,QD]
   exact Qfu I h f n' t' o h3 (by omega)
  ·simp only[iter,h1,Option.bind_some,QD]
theorem Qf1 {σ ρ:Type} {body:σ→Option (σ⊕ρ)}: ∀{n m:Nat} {s:σ} {r:ρ},iter body n s=some r→n≤m→iter body m s=some r
 | 0,_,_,_,h,_=>by cases h
 | n+1,0,_,_,_,hm=>by omega
 | n+1,m+1,s,r,h,hm=>by
  simp only[iter] at h ⊢
  cases hb:body s with
  | none=>rw[hb] at h;cases h
  | some q =>
   rw[hb] at h
   cases q with
   | inl s'=>exact Qf1 (n:=n) (m:=m) h (by omega)
   | inr r'=>exact h
theorem Qq {α:Type} (xs:List α) (k:Nat):getI xs (k:Int)=xs[k]? :=by simp[getI]
theorem QmM {α:Type} {xs:List α} {k:Nat} (h:k<xs.length):getI xs (k:Int)=some xs[k]:=by rw[Qq];simp[h]
theorem Yc {n:Int} (h1: -9223372036854775808≤n) (h2:n≤9223372036854775807):w64 n=n:=Qqa h1 h2
theorem J6 {k:Nat} (h:k<9223372036854775807):w64 ((k:Int)+1)=((k+1:Nat):Int):=by rw[Yc (by omega) (by omega)];omega
theorem Yh {α:Type} {xs ys:List α} (h:xs.length+ys.length≤1000000):ZH xs ys=some (xs++ys):=by simp[ZH,h]
theorem QaA {p:Prop} [Decidable p] (h:p):Ws p=some ():=by simp[Ws,h]
def each {α σ ρ:Type} (step:σ→α→σ⊕ρ) (fin:σ→ρ):List α→σ→ρ
 | [],s=>fin s
 | x::r,s=>match step s x with
  | .inl s'=>each step fin r s'
  | .inr o=>o
def ZU {τ ρ:Type} (o:Option ρ) (t:τ):τ⊕ρ:=match o with
 | none=> .inl t
 | some r=> .inr r
@[simp] theorem Qp5 {τ ρ:Type} (t:τ):ZU (none:Option ρ) t= .inl t:=rfl
@[simp] theorem Qp6 {τ ρ:Type} (r:ρ) (t:τ):ZU (some r) t= .inr r:=rfl
def QpW {σ τ ρ:Type} (f:σ→τ) (q:σ⊕ρ):τ⊕ρ:=match q with
 | .inl s=> .inl (f s)
 | .inr r=> .inr r
@[simp] theorem QqJ {σ τ ρ:Type} (f:σ→τ) (s:σ):QpW f (.inl s:σ⊕ρ)= .inl (f s):=rfl
@[simp] theorem QqK {σ τ ρ:Type} (f:σ→τ) (r:ρ):QpW f (.inr r:σ⊕ρ)= .inr r:=rfl
theorem QiG {α σ τ ρ:Type} (xs:List α) (mk:σ→Int→τ) {body:τ→Option (τ⊕ρ)} (step:σ→α→σ⊕ρ) (fin:σ→ρ) (I:σ→Nat→Prop) (hn:xs.length<9223372036854775807)
  (hb: ∀(k:Nat) (x:α) (s:σ),xs[k]? =some x→I s k→body (mk s (k:Int))=some (QpW (fun s'=>mk s' (w64 ((k:Int)+1))) (step s x))∧ ∀s',step s x= .inl s'→I s' (k+1))
  (hf: ∀s,I s xs.length→body (mk s (xs.length:Int))=some (.inr (fin s))): ∀(n:Nat) (s:σ),I s 0→xs.length<n→iter body n (mk s 0)=some (each step fin xs s):=by
 intro n s hs hlt;refine Qfu (fun m t o=> ∃(s:σ) (k:Nat),t=mk s k∧m=xs.length-k∧k≤xs.length∧I s k∧each step fin (xs.drop k) s=o) ?_ n xs.length (mk s 0) _ ⟨s,0,rfl,by simp,Nat.zero_le _,hs,by simp⟩ hlt;rintro m _ o ⟨s,k,rfl,rfl,hk,hI,ho⟩;rcases Nat.lt_or_ge k xs.length with hlt | hge
 ·obtain ⟨h1,h2⟩:=hb k xs[k] s (by simp[hlt]) hI
  rw[List.drop_eq_getElem_cons hlt,each] at ho
  cases hs:step s xs[k] with
  | inl s' =>
   rw[hs] at h1 ho
   exact .inl ⟨_,xs.length-(k+1),h1,by omega,s',k+1,by rw[J6 (by omega)],rfl,hlt,h2 s' hs,ho⟩
  | inr o' =>
   rw[hs] at h1 ho
   exact .inr (by rw[h1];exact congrArg (fun z=>some (Sum.inr z)) ho)
 ·obtain rfl:k=xs.length:=by omega
  rw[List.drop_length] at ho
  exact .inr (by rw[hf s hI];exact congrArg (fun z=>some (Sum.inr z)) ho)
def first {α ρ:Type} (step:α→Option ρ) (fin:ρ):List α→ρ
 | []=>fin
 | x::r=>match step x with
  | none=>first step fin r
  | some o=>o
theorem Qdh {α ρ:Type} (xs:List α) {body:Int→Option (Int⊕ρ)} (step:α→Option ρ) (fin:ρ) (hn:xs.length<9223372036854775807)
  (hb: ∀(k:Nat) (x:α),xs[k]? =some x→body (k:Int)=some (ZU (step x) (w64 ((k:Int)+1))))
  (hf:body (xs.length:Int)=some (.inr fin)): ∀(n:Nat),xs.length<n→iter body n 0=some (first step fin xs):=by
 intro n hlt;have:=QiG xs (fun (_:Unit) k=>k) (body:=body) (fun _ x=>ZU (step x) ()) (fun _=>fin) (fun _ _=>True) hn
  (fun k x s hx _=>⟨by rw[hb k x hx];cases step x<;>rfl,fun _ _=>trivial⟩) (fun _ _=>hf) n () trivial hlt
 rw[this]
 congr 1
 clear this hb hf hlt hn
 induction xs with
 | nil=>rfl
 | cons x r ih =>
  simp only[each,first]
  cases step x<;>simp[ih]
end Go.Proofs.YthpgjbbjpfiniaaGreat
namespace Go.Proofs.YthpgjbbjpfiniaaGreat
set_option linter.unusedSimpArgs false
set_option linter.unusedVariables false
theorem Qr {α:Type} {l:List α} {k:Nat} {x:α} (h:l[k]? =some x):k<l.length:=by
 rcases Nat.lt_or_ge k l.length with h2 | h2
 ·exact h2
 ·rw[List.getElem?_eq_none h2] at h;cases h
theorem Qma {α:Type} {l:List α} {i:Int} (h0:0≤i) (h1:i<(l.length:Nat)): ∃x,getI l i=some x:=by
 obtain ⟨k,rfl⟩: ∃k:Nat,i=k:=⟨i.toNat,by omega⟩
 exact ⟨_,QmM (by omega)⟩
def YA {α ρ:Type} (step:Nat→α→Option ρ) (fin:ρ):Nat→List α→ρ
 | _,[]=>fin
 | k,x::r=>match step k x with
  | none=>YA step fin (k+1) r
  | some o=>o
theorem YD {α ρ:Type} (xs:List α) {body:Int→Option (Int⊕ρ)} (step:Nat→α→Option ρ) (fin:ρ) (hn:xs.length<9223372036854775807)
  (hb: ∀(k:Nat) (x:α),xs[k]? =some x→body (k:Int)=some (ZU (step k x) (w64 ((k:Int)+1))))
  (hf:body (xs.length:Int)=some (.inr fin)): ∀(n:Nat),xs.length<n→iter body n 0=some (YA step fin 0 xs):=by
 intro n hlt;refine Qfu (fun m t o=> ∃k:Nat,t=(k:Int)∧m=xs.length-k∧k≤xs.length∧YA step fin k (xs.drop k)=o) ?_ n xs.length 0 _ ⟨0,rfl,by simp,Nat.zero_le _,by simp⟩ hlt;rintro m _ o ⟨k,rfl,rfl,hk,ho⟩;rcases Nat.lt_or_ge k xs.length with hlt | hge
 ·have h1:=hb k xs[k] (by simp[hlt])
  rw[List.drop_eq_getElem_cons hlt,YA] at ho
  cases hs:step k xs[k] with
  | none =>
   rw[hs] at h1 ho
   exact .inl ⟨_,xs.length-(k+1),h1,by omega,k+1,by rw[J6 (by omega)],rfl,hlt,ho⟩
  | some r =>
   rw[hs] at h1 ho
   exact .inr (by rw[h1];exact congrArg (fun z=>some (Sum.inr z)) ho)
 ·obtain rfl:k=xs.length:=by omega
  rw[List.drop_length] at ho
  exact .inr (by rw[hf];exact congrArg (fun z=>some (Sum.inr z)) ho)
theorem QP {α ρ:Type} {step:Nat→α→Option ρ} {fin:ρ}: ∀(l:List α) (k:Nat),(∀(i:Nat) (x:α),l[i]? =some x→step (k+i) x=none)→YA step fin k l=fin
 | [],_,_=>rfl
 | x::l,k,h=>by
  have h0:=h 0 x rfl
  rw[Nat.add_zero] at h0
  simp only[YA,h0]
  exact QP l (k+1) fun i y hy=>by
   have:=h (i+1) y (by simpa using hy)
   rwa [show k+(i+1)=k+1+i by omega] at this
theorem YG {α σ τ ρ:Type} (xs:List α) (st:Nat→σ) (mk:σ→Int→τ) {body:τ→Option (τ⊕ρ)} (step:Nat→α→Option ρ) (fin:ρ) (hn:xs.length<9223372036854775807)
  (hb: ∀(k:Nat) (x:α),xs[k]? =some x→(∀(j:Nat) (y:α),j<k→xs[j]? =some y→step j y=none)→body (mk (st k) (k:Int))=some (ZU (step k x) (mk (st (k+1)) (w64 ((k:Int)+1)))))
  (hf:(∀(j:Nat) (y:α),xs[j]? =some y→step j y=none)→body (mk (st xs.length) (xs.length:Int))=some (.inr fin)): ∀(n:Nat),xs.length<n→iter body n (mk (st 0) 0)=some (YA step fin 0 xs):=by
 intro n hlt;refine Qfu (fun m t o=> ∃k:Nat,t=mk (st k) (k:Int)∧m=xs.length-k∧k≤xs.length∧(∀(j:Nat) (y:α),j<k→xs[j]? =some y→step j y=none)∧YA step fin k (xs.drop k)=o) ?_ n xs.length _ _ ⟨0,rfl,by simp,Nat.zero_le _,fun j y hj=>absurd hj (Nat.not_lt_zero _),by simp⟩ hlt;rintro m _ o ⟨k,rfl,rfl,hk,hno,ho⟩;rcases Nat.lt_or_ge k xs.length with hlt | hge
 ·have h1:=hb k xs[k] (by simp[hlt]) hno
  rw[List.drop_eq_getElem_cons hlt,YA] at ho
  cases hs:step k xs[k] with
  | none =>
   rw[hs] at h1 ho
   refine .inl ⟨_,xs.length-(k+1),h1,by omega,k+1,by rw[J6 (by omega)],rfl,hlt,fun j y hj hy=> ?_,ho⟩;rcases Nat.lt_or_ge j k with h | h
   ·exact hno j y h hy
   ·obtain rfl:j=k:=by omega
    rw[List.getElem?_eq_getElem hlt] at hy
    injection hy with hy;rw[←hy];exact hs
  | some r =>
   rw[hs] at h1 ho
   exact .inr (by rw[h1];exact congrArg (fun z=>some (Sum.inr z)) ho)
 ·obtain rfl:k=xs.length:=by omega
  rw[List.drop_length] at ho
  exact .inr (by rw[hf fun j y hy=>hno j y (Qr hy) hy];exact congrArg (fun z=>some (Sum.inr z)) ho)
theorem Yw {α:Type} {l:List α} {k:Nat} {x:α} (hx:l[k]? =some x):l.take (k+1)=l.take k++[x]:=by rw[List.take_add_one,hx];rfl
theorem Yi {α:Type} {l:List α} {k:Nat} (h:k≤l.length):(l.take k).length=k:=by simp;omega
def Qan {α:Type} (f:α→Int) (l:List α):Int:=(l.map f).sum
@[simp] theorem Qqc {α:Type} (f:α→Int):Qan f []=0:=rfl
@[simp] theorem Qh1 {α:Type} (f:α→Int) (x:α) (l:List α):Qan f (x::l)=f x+Qan f l:=by simp[Qan]
theorem QbS {α:Type} (f:α→Int): ∀(a b:List α),Qan f (a++b)=Qan f a+Qan f b
 | [],b=>by simp
 | x::a,b=>by simp only[List.cons_append,Qh1,QbS f a b];omega
theorem Qgs {α:Type} {f:α→Int} {B:Int}: ∀{l:List α},(∀x∈l,0≤f x∧f x≤B)→0≤Qan f l∧Qan f l≤l.length*B
 | [],_=>by simp
 | x::l,h=>by
  have h1:=h x (by simp);have h2:=Qgs (l:=l) fun y hy=>h y (by simp[hy])
  rw[Qh1,List.length_cons]
  have:((l.length+1:Nat):Int)*B=l.length*B+B:=by rw[Int.natCast_add,Int.add_mul];simp
  rw[this]
  omega
theorem QhI {β:Type} {k:Int} {v:β} (m:List (Int×β)):Qar k (QcU k v m)=some v:=by
 induction m with
 | nil=>simp[QcU,Qar]
 | cons p m ih =>
  obtain ⟨a,b⟩:=p
  by_cases h:a=k
  ·simp[QcU,Qar,h]
  ·simp[QcU,Qar,h,ih]
theorem Qjq {β:Type} {k j:Int} {v:β} (h:j≠k) (m:List (Int×β)):Qar j (QcU k v m)=Qar j m:=by
 induction m with
 | nil=>simp[QcU,Qar];omega
 | cons p m ih =>
  obtain ⟨a,b⟩:=p
  by_cases h2:a=k
  ·subst h2;simp[QcU,Qar,Ne.symm h]
  ·by_cases h3:a=j
   ·subst h3;simp[QcU,Qar,h]
   ·simp[QcU,Qar,h2,h3,ih]
theorem QbL {α ρ:Type} {step:Nat→α→Option ρ} {fin:ρ}: ∀(l:List α) (k:Nat),
  ((∀(i:Nat) (x:α),l[i]? =some x→step (k+i) x=none)∧YA step fin k l=fin) ∨
  (∃(i:Nat) (x:α) (o:ρ),l[i]? =some x∧step (k+i) x=some o∧YA step fin k l=o∧ ∀(j:Nat) (y:α),j<i→l[j]? =some y→step (k+j) y=none)
 | [],k=> .inl ⟨fun i x h=>by simp at h,rfl⟩
 | x::l,k=>by
  cases hs:step k x with
  | some o=>exact .inr ⟨0,x,o,rfl,hs,by simp[YA,hs],fun j y hj=>absurd hj (Nat.not_lt_zero _)⟩
  | none =>
   have hf:YA step fin k (x::l)=YA step fin (k+1) l:=by simp[YA,hs]
   rw[hf]
   rcases QbL (step:=step) (fin:=fin) l (k+1) with ⟨h1,h2⟩ | ⟨i,y,o,h1,h2,h3,h4⟩
   ·refine .inl ⟨fun i y hy=> ?_,h2⟩;cases i with
    | zero=>simp at hy;subst hy;simpa using hs
    | succ i=>have:=h1 i y (by simpa using hy);rwa [show k+1+i=k+(i+1) by omega] at this
   ·refine .inr ⟨i+1,y,o,by simpa using h1,by rwa [show k+1+i=k+(i+1) by omega] at h2,h3,fun j z hj hz=> ?_⟩;cases j with
    | zero=>simp at hz;subst hz;simpa using hs
    | succ j=>have:=h4 j z (by omega) (by simpa using hz);rwa [show k+1+j=k+(j+1) by omega] at this
theorem Qcx {α:Type} [DecidableEq α]: ∀{l m:List α},l.Nodup→(∀x∈l,x∈m)→l.length≤m.length
 | [],_,_,_=>Nat.zero_le _
 | x::l,m,hn,h=>by
  rw[List.nodup_cons] at hn
  have hx:=h x (by simp);have:=Qcx (l:=l) (m:=m.erase x) hn.2 fun y hy=>(List.mem_erase_of_ne (fun e=>hn.1 (by rw[←e];exact hy))).2 (h y (by simp[hy]))
  rw[List.length_erase_of_mem hx] at this
  have:0<m.length:=List.length_pos_of_mem hx
  simp only[List.length_cons]
  omega
end Go.Proofs.YthpgjbbjpfiniaaGreat
namespace Go.Proofs.YthpgjbbjpfiniaaGreat
open Go.RowKit
set_option linter.unusedSimpArgs false
set_option linter.unusedVariables false
theorem Y3 (a b:Bool):(bif a then some true else some b)=some (a||b):=by cases a<;>rfl
theorem Qnm (a b:Bool):(bif a then some b else some false)=some (a&&b):=by cases a<;>rfl
def Qas (r:QK) (x:QG):Prop:=0≤x.From∧x.From<r.Nodes∧0≤x.To∧x.To<r.Nodes∧x.From≠x.To∧1≤x.Meters∧x.Meters≤100000∧1≤x.Secs∧x.Secs≤100000
def QcO (r:QK) (x:QG):Option (Unit⊕Int) :=
 bif (decide (x.From<0)||(decide (r.Nodes≤x.From)||(decide (x.To<0)||decide (r.Nodes≤x.To)))) then some (.inr 7)
 else bif (decide (x.From=x.To)||(decide (x.Meters<1)||(decide (100000<x.Meters)||(decide (x.Secs<1)||decide (100000<x.Secs))))) then some (.inr 1) else none
theorem Qk7 {r:QK} {x:QG} (h:QcO r x=none):Qas r x:=by
 unfold QcO at h
 simp only[cond_eq_ite,Bool.or_eq_true,decide_eq_true_eq] at h
 split at h
 ·cases h
 ·split at h
  ·cases h
  ·unfold Qas;omega
theorem Qk8 {r:QK} {x:QG} {o:Unit⊕Int} (h:QcO r x=some o): ∃e,o= .inr e∧e≠0:=by
 unfold QcO at h
 simp only[cond_eq_ite] at h
 split at h
 ·injection h with h;exact ⟨7,h.symm,by decide⟩
 ·split at h
  ·injection h with h;exact ⟨1,h.symm,by decide⟩
  ·cases h
theorem QhO (r:QK) (hn:r.Edges.length≤600) (n:Nat) (h:r.Edges.length<n):iter (Zg r) n 0=some (YA (fun _ x=>QcO r x) (.inl ()) 0 r.Edges):=by
 refine YD r.Edges (fun _ x=>QcO r x) (.inl ()) (by omega) (fun k x hx=> ?_) (by simp[Zg]) n h;have hk:=Qr hx;have hk2:((k:Int)<(r.Edges.length:Nat)):=by omega
 simp only[Zg,hk2,decide_true,cond_true,Qq,hx,Option.bind_some,Y3,QcO]
 generalize (decide (x.From<0)||_)=a
 generalize (decide (x.From=x.To)||_)=b
 cases a<;>cases b<;>rfl
theorem Qlj (r:QK) (hn:r.Edges.length≤600):QaZ r=some ⟨r.Nodes,r.Edges.map fun x=>⟨x.From,x.To⟩⟩:=by
 unfold QaZ;have:=YG (body:=VF r) r.Edges (fun k=>(r.Edges.take k).map fun x=>(⟨x.From,x.To⟩:ZE)) (fun m k=>(m,k)) (fun _ _=>none) (r.Edges.map fun x=>(⟨x.From,x.To⟩:ZE)) (by omega) (fun k x hx _=> ?_) (fun _=>by simp[VF,oun]) (((r.Edges.length:Nat):Int).toNat+1) (by simp)
 ·rw[show ((r.Edges.take 0).map fun x=>(⟨x.From,x.To⟩:ZE))=[] by simp] at this
  rw[this,QP _ _ (fun _ _ _=>rfl)]
  rfl
 ·have hk:=Qr hx;have hk2:((k:Int)<(r.Edges.length:Nat)):=by omega
  simp only[VF,oun,hk2,decide_true,cond_true,Qq,hx,Option.bind_some]
  rw[Yh (by simp;omega)]
  simp[Yw hx,ZU]
theorem QnF (r:QK) (hn:r.Edges.length≤512) (h1:1≤r.Nodes) (h2:r.Nodes≤64) (ho: ∀x∈r.Edges,Qas r x):Qbr ⟨r.Nodes,r.Edges.map fun x=>⟨x.From,x.To⟩⟩=some 0:=by
 unfold Qbr;have:=YD (body:=VW ⟨r.Nodes,r.Edges.map fun x=>⟨x.From,x.To⟩⟩) (r.Edges.map fun x=>(⟨x.From,x.To⟩:ZE)) (fun _ _=>none) (.inl ():Unit⊕Int) (by simp;omega) (fun k x hx=> ?_) (by simp[VW]) ((((r.Edges.map fun x=>(⟨x.From,x.To⟩:ZE)).length:Nat):Int).toNat+1) (by simp)
 ·rw[QP _ _ (fun _ _ _=>rfl)] at this
  simp only[Y3,Option.bind_some]
  rw[show (decide (r.Nodes<0)||decide (64<r.Nodes))=false by simp;omega]
  simp only[cond_false]
  rw[show decide ((512:Int)<(((r.Edges.map fun x=>(⟨x.From,x.To⟩:ZE)).length:Nat):Int))=false by simp;omega]
  simp only[cond_false,this,Option.bind_some,QD]
 ·have hk:=Qr hx;have hk2:((k:Int)<((r.Edges.map fun x=>(⟨x.From,x.To⟩:ZE)).length:Nat)):=by omega
  obtain ⟨y,hy,rfl⟩: ∃y,r.Edges[k]? =some y∧(⟨y.From,y.To⟩:ZE)=x:=by
   rw[List.getElem?_map] at hx
   cases hq:r.Edges[k]? with
   | none=>rw[hq] at hx;cases hx
   | some y=>rw[hq] at hx;injection hx with hx;exact ⟨y,rfl,hx⟩
  have hok:=ho y (List.mem_of_getElem? hy)
  simp only[VW,hk2,decide_true,cond_true,Qq,hx,Option.bind_some,Y3]
  unfold Qas at hok
  rw[show (decide (y.From<0)||(decide (r.Nodes≤y.From)||(decide (y.To<0)||decide (r.Nodes≤y.To))))=false by simp;omega]
  rfl
def Qcr (r:QK):Int:=bif (decide (r.Nodes<1)||decide (64<r.Nodes)) then 1 else bif decide ((512:Int)<(r.Edges.length:Nat)) then 8 else
 match YA (fun _ x=>QcO r x) (.inl ()) 0 r.Edges with | .inl _=>0 | .inr e=>e
theorem V4 (r:QK) (hn:r.Edges.length≤600):W7 r=some (Qcr r):=by
 unfold W7 Qcr
 simp only[Y3,Option.bind_some]
 rw[QhO r hn _ (by simp)]
 generalize (decide (r.Nodes<1)||_)=a
 generalize decide ((512:Int)<(r.Edges.length:Nat))=b
 generalize YA (fun _ x=>QcO r x) (.inl ()) 0 r.Edges=o
 cases a<;>cases b<;>cases o<;>rfl
theorem QhT {r:QK} (h:Qcr r=0):1≤r.Nodes∧r.Nodes≤64∧r.Edges.length≤512∧ ∀x∈r.Edges,Qas r x:=by
 unfold Qcr at h
 simp only[cond_eq_ite,Bool.or_eq_true,decide_eq_true_eq] at h
 split at h
 ·cases h
 ·split at h
  ·cases h
  ·refine ⟨by omega,by omega,by omega,fun x hx=> ?_⟩;obtain ⟨i,hi⟩:=List.getElem?_of_mem hx;rcases QbL (step:=fun _ x=>QcO r x) (fin:=(.inl ():Unit⊕Int)) r.Edges 0 with ⟨h1,_⟩ | ⟨j,y,o,h1,h2,h3,_⟩
   ·exact Qk7 (h1 i x hi)
   ·rw[h3] at h
    obtain ⟨e,rfl,he⟩:=Qk8 h2;exact absurd h he
theorem QeD (r:QK) (hn:r.Edges.length≤600):Qau r=some (Qcr r):=by
 by_cases hz:Qcr r=0
 ·obtain ⟨h1,h2,h3,h4⟩:=QhT hz;unfold Qau
  rw[hz]
  have e1:Qbn r=Zg r:=rfl
  rw[e1,QhO r hn _ (by simp)]
  simp only[Y3,Option.bind_some]
  rw[show (decide (r.Nodes<1)||decide (64<r.Nodes))=false by simp;omega]
  simp only[cond_false]
  rw[show decide ((512:Int)<(r.Edges.length:Nat))=false by simp;omega]
  simp only[cond_false]
  have:YA (fun _ x=>QcO r x) (.inl ():Unit⊕Int) 0 r.Edges= .inl ():=by
   refine QP _ _ fun i x hx=> ?_;have:=h4 x (List.mem_of_getElem? hx);unfold Qas at this;unfold QcO
   rw[show (decide (x.From<0)||(decide (r.Nodes≤x.From)||(decide (x.To<0)||decide (r.Nodes≤x.To))))=false by simp;omega,show (decide (x.From=x.To)||(decide (x.Meters<1)||(decide (100000<x.Meters)||(decide (x.Secs<1)||decide (100000<x.Secs)))))=false by simp;omega]
   rfl
  rw[this]
  simp only[QD,Qlj r hn,Option.bind_some,QnF r h3 h1 h2 h4]
 ·have h:=V4 r hn;unfold Qau;have e1:Qbn r=Zg r:=rfl
  rw[e1,QhO r hn _ (by simp)]
  unfold Qcr at hz ⊢
  simp only[Y3,Option.bind_some]
  generalize (decide (r.Nodes<1)||_)=a at *
  generalize decide ((512:Int)<(r.Edges.length:Nat))=b at *
  generalize YA (fun _ x=>QcO r x) (.inl ()) 0 r.Edges=o at *
  cases a<;>cases b<;>cases o<;>first | rfl | exact absurd rfl hz
end Go.Proofs.YthpgjbbjpfiniaaGreat
namespace Go.Proofs.YthpgjbbjpfiniaaGreat
open Go.RowKit
set_option linter.unusedSimpArgs false
set_option linter.unusedVariables false
theorem QiJ (c:Int):V5 c=ZG c:=by
 unfold V5 ZG
 generalize decide (97≤c)=a
 generalize decide (c≤122)=b
 generalize decide (65≤c)=d
 generalize decide (c≤90)=e
 cases a<;>cases b<;>cases d<;>cases e<;>rfl
theorem QdU (c:Int): ∃b,ZG c=some b:=by
 unfold ZG
 generalize decide (97≤c)=a
 generalize decide (c≤122)=b
 generalize decide (65≤c)=d
 generalize decide (c≤90)=e
 cases a<;>cases b<;>cases d<;>cases e<;>exact ⟨_,rfl⟩
theorem QjK (s:ByteArray):QaS s=QX s:=by
 funext i
 simp only[QaS,QX,QiJ]
theorem Qji {s:ByteArray} {k:Nat} (h:k<s.size): ∃b,Qii s (k:Int)=some b:=by
 unfold Qii
 rw[if_pos (by omega)]
 simp[h]
theorem QkW (s:ByteArray) (hs:s.size≤32): ∀(m k:Nat),k+m=s.size→ ∃o,iter (QX s) (m+1) (k:Int)=some o
 | 0,k,h=>by
  refine ⟨.inl (),?_⟩
  simp only[iter,QX]
  rw[show decide ((k:Int)<((s.size:Nat):Int))=false by simp;omega]
  rfl
 | m+1,k,h=>by
  obtain ⟨b,hb⟩:=Qji (s:=s) (k:=k) (by omega);obtain ⟨q,hq⟩:=QdU b;obtain ⟨o,ho⟩:=QkW s hs m (k+1) (by omega);have hbody:(∃z,QX s (k:Int)=some (.inr z))∨QX s (k:Int)=some (.inl ((k+1:Nat):Int)):=by
   simp only[QX]
   rw[show decide ((k:Int)<((s.size:Nat):Int))=true by simp;omega]
   simp only[cond_true,hb,Option.bind_some,hq,J6 (show k<9223372036854775807 by omega)]
   generalize decide (b<48)=c1
   generalize decide (b=45)=c2
   generalize decide (b=95)=c3
   generalize decide (b=46)=c4
   generalize decide (57<b)=c5
   cases q<;>cases c1<;>cases c2<;>cases c3<;>cases c4<;>cases c5<;>first | exact .inr rfl | exact .inl ⟨_,rfl⟩
  rcases hbody with ⟨z,hz⟩ | hz
  ·exact ⟨z,by rw[iter,hz];rfl⟩
  ·exact ⟨o,by rw[iter,hz];exact ho⟩
theorem Qnj {F:Nat} (hF:33≤F) (s:ByteArray):Qbs F s=JU s:=by
 unfold Qbs JU
 simp only[QiJ,QjK]
 by_cases h1:((s.size:Nat):Int)<1
 ·simp only[h1,decide_true,cond_true,Option.bind_some]
 ·by_cases h2:(32:Int)<((s.size:Nat):Int)
  ·simp only[h1,h2,decide_true,decide_false,cond_true,cond_false,Option.bind_some]
  ·obtain ⟨b,hb⟩:=Qji (s:=s) (k:=0) (by omega);obtain ⟨q,hq⟩:=QdU b;have hb':Qii s 0=some b:=hb
   simp only[h1,h2,decide_false,cond_false,hb',Option.bind_some,hq]
   cases q with
   | false=>rfl
   | true =>
    simp only[Bool.not_true,cond_false]
    obtain ⟨o,ho⟩:=QkW s (by omega) (s.size-1) 1 (by omega)
    rw[show ((1:Nat):Int)=1 from rfl] at ho
    rw[Qf1 ho (by omega)]
    have e2:iter (QX s) (((s.size:Nat):Int).toNat+1) 0=some o:=by
     rw[iter]
     have:QX s 0=some (.inl 1):=by
      simp only[QX]
      rw[show decide ((0:Int)<((s.size:Nat):Int))=true by simp;omega]
      simp only[cond_true,hb',Option.bind_some,hq,Bool.not_true,cond_false]
      rfl
     rw[this]
     exact Qf1 ho (by simp;omega)
    rw[e2]
theorem Qj5 {F:Nat} (hF:33≤F) (v:Qn) (n m:Int):Qap F v n m=Yo v n m:=by
 unfold Qap Yo
 rw[Qnj hF]
theorem QjP {α ρ:Type} (p:α→Bool) (o fin:ρ): ∀(l:List α) (k:Nat),YA (fun _ y=>bif p y then some o else none) fin k l=bif l.any p then o else fin
 | [],_=>rfl
 | x::l,k=>by
  simp only[YA,List.any_cons]
  cases p x
  ·simpa using QjP p o fin l (k+1)
  ·rfl
theorem QjQ {α:Type} (p:α→Bool): ∀(l:List α) (k:Nat),(YA (fun (k:Nat) y=>bif p y then some (.inr (k:Int)) else none) (.inl ():Unit⊕Int) k l= .inl ()∧l.any p=false) ∨
  ∃j:Nat,YA (fun (k:Nat) y=>bif p y then some (.inr (k:Int)) else none) (.inl ():Unit⊕Int) k l= .inr (j:Int)∧l.any p=true
 | [],_=> .inl ⟨rfl,rfl⟩
 | x::l,k=>by
  simp only[YA,List.any_cons]
  cases p x
  ·simpa using QjQ p l (k+1)
  ·exact .inr ⟨k,rfl,rfl⟩
def Qee {α β:Type} [DecidableEq β] (f:α→β) (l:List α) (k:Nat) (x:α):Option (Unit⊕Int):=bif (l.take k).any (fun y=>decide (f x=f y)) then some (.inr 6) else none
theorem QpY {α β:Type} [DecidableEq β] (f:α→β) (l:List α) (hn:l.length<1000000) {b2:Int→Int→Option (Int⊕(Unit⊕Int))} {b3:Int→Option (Int⊕(Unit⊕Int))}
  (h2: ∀(i k:Nat) (x y:α),l[i]? =some x→l[k]? =some y→k<i→b2 i k=some (bif decide (f x=f y) then .inr (.inr 6) else .inl (w64 ((k:Int)+1))))
  (h2f: ∀i:Nat,b2 i i=some (.inr (.inl ())))
  (h3: ∀i:Nat,i<l.length→b3 i=Option.bind (Option.bind (iter (b2 i) ((i:Int).toNat+1) 0) (fun o_=>QD o_ (fun _=>some (.inl ())) (fun rv=>some (.inr rv)))) (fun o_=>QD o_ (fun _:Unit=>some (.inl (w64 ((i:Int)+1)))) (fun rv=>some (.inr (.inr rv)))))
  (h3f:b3 (l.length:Nat)=some (.inr (.inl ()))):iter b3 (((l.length:Nat):Int).toNat+1) 0=some (YA (Qee f l) (.inl ()) 0 l):=by
 refine YD l (Qee f l) (.inl ()) (by omega) (fun i x hx=> ?_) h3f _ (by simp);have hi:=Qr hx
 rw[h3 i hi]
 have:=YD (body:=b2 i) (l.take i) (fun _ y=>bif decide (f x=f y) then some (.inr 6) else none) (.inl ():Unit⊕Int) (by simp;omega) (fun k y hy=> ?_) (by rw[Yi (Nat.le_of_lt hi)];exact h2f i) ((i:Int).toNat+1) (by rw[Yi (Nat.le_of_lt hi)];omega)
 ·rw[this,QjP]
  unfold Qee
  generalize (l.take i).any _=b
  cases b<;>rfl
 ·have hk:=Qr hy
  rw[Yi (Nat.le_of_lt hi)] at hk
  rw[List.getElem?_take,if_pos hk] at hy
  rw[h2 i k x y hx hy hk]
  cases decide (f x=f y)<;>rfl
def Qor (l:List Qn):List (ByteArray×Bool):=l.foldl (fun m x=>Qil x.ID true m) []
theorem QiW {β:Type} (k j:ByteArray) (v:β): ∀(m:List (ByteArray×β)),Qdq j (Qil k v m)=if k=j then some v else Qdq j m
 | []=>by simp[Qil,Qdq]
 | p::m=>by
  simp only[Qil]
  by_cases h:p.1=k
  ·subst h
   by_cases h2:p.1=j<;>simp[Qdq,h2]
  ·by_cases h2:p.1=j
   ·have: ¬k=j:=fun e=>h (by rw[h2,e])
    rw[if_neg h,if_neg this]
    simp[Qdq,h2]
   ·simp[Qdq,h,h2,QiW k j v m]
theorem Qm0 (l:List Qn) (id:ByteArray): ∀(m:List (ByteArray×Bool)),(Qdq id (l.foldl (fun m x=>Qil x.ID true m) m)).getD false=(l.any (fun y=>decide (id=y.ID))||(Qdq id m).getD false):=by
 induction l with
 | nil=>intro m;simp
 | cons x l ih =>
  intro m
  rw[List.foldl_cons,ih,List.any_cons,QiW]
  by_cases h:x.ID=id
  ·simp[h]
  ·have: ¬id=x.ID:=fun e=>h e.symm
   simp[h,this]
theorem Qh7 (l:List Qn) (hn:l.length≤16):iter (WL l) (((l.length:Nat):Int).toNat+1) ([],0)=some (YA (Qee (·.ID) l) (.inl ()) 0 l):=by
 refine YG (body:=WL l) l (fun k=>Qor (l.take k)) (fun m k=>(m,k)) (Qee (·.ID) l) (.inl ()) (by omega) (fun k x hx _=> ?_) (fun _=>by simp[WL,oun]) _ (by simp);have hk:=Qr hx;have hk2:((k:Int)<(l.length:Nat)):=by omega
 simp only[WL,oun,hk2,decide_true,cond_true,Qq,hx,Option.bind_some]
 rw[Qor,Qm0,Yw hx]
 simp only[Qdq,Option.getD_none,Bool.or_false,Qee,Qor,List.foldl_append,List.foldl_cons,List.foldl_nil]
 generalize (l.take k).any _=b
 cases b<;>rfl
theorem Qc4 {F:Nat} (hF:33≤F) (l:List Qn) (n m:Int):VL F l n m=YO l n m:=by
 unfold VL YO;have e1:WK F l n m=QY l n m:=by
  funext i
  simp only[WK,QY,Qj5 hF]
 rw[e1]
 by_cases h:(16:Int)<((l.length:Nat):Int)
 ·simp only[h,decide_true,cond_true]
 ·have e3:=QpY (·.ID) l (by omega) (b2:=J2 l) (b3:=J3 l) (fun i k x y hx hy hk=>by
    have:((k:Int)<(i:Int)):=by omega
    simp only[J2,this,decide_true,cond_true,Qq,hx,hy,Option.bind_some]
    cases decide (x.ID=y.ID)<;>rfl) (fun i=>by simp[J2]) (fun i hi=>by
    have:((i:Int)<((l.length:Nat):Int)):=by omega
    simp only[J3,this,decide_true,cond_true]) (by simp[J3])
  rw[e3,Qh7 l (by omega)]
theorem Qm9 (n a b:Int):Va n a b=some (decide (a≤n)&&decide (n≤b)):=by
 unfold Va
 rw[Qnm]
 rfl
theorem Qjb (l:List Qt) (n m:Int):Qaq l n m=Q9 l n m:=by
 funext i
 simp only[Qaq,Q9]
 cases decide (i<((l.length:Nat):Int)) with
 | false=>rfl
 | true =>
  simp only[cond_true]
  cases getI l i with
  | none=>rfl
  | some x =>
   simp only[Option.bind_some,Qc9,Qm9,Y3,Bool.not_and]
   have e1:(!decide (0≤x.Container)|| !decide (x.Container≤255))=(decide (x.Container<0)||decide (256≤x.Container)):=by
    rw[Bool.eq_iff_iff];simp;omega
   have e2:(!decide (0≤x.Grams)|| !decide (x.Grams≤1073741824))=(decide (x.Grams<0)||decide (1073741824<x.Grams)):=by
    rw[Bool.eq_iff_iff];simp
   have e3:(!decide (0≤x.Service)|| !decide (x.Service≤3600))=(decide (x.Service<0)||decide (3600<x.Service)):=by
    rw[Bool.eq_iff_iff];simp
   rw[e1,e2,e3]
   have key: ∀(a b c d:Bool),(bif a||b then some true else some (c||d))=some (a||(b||(c||d))):=by intro a b c d;cases a<;>cases b<;>rfl
   simp only[Y3,Bool.or_assoc]
   generalize (decide (x.Container<0)||_)=a
   generalize (decide (x.Grams<0)||_)=b
   cases a<;>cases b<;>rfl
theorem QgE (L:List Qt) (hn:L.length≤32) (x:Qt):YK L x=some (L.any fun y=>decide (x.Container=y.Container)):=by
 unfold YK Z4;have:=YD (body:=YL L x) L (fun k y=>bif decide (x.Container=y.Container) then some (.inr (k:Int)) else none) (.inl ():Unit⊕Int) (by omega) (fun k y hy=> ?_) (by simp[YL]) (((L.length:Nat):Int).toNat+1) (by simp)
 ·rw[this]
  rcases QjQ (fun y:Qt=>decide (x.Container=y.Container)) L 0 with ⟨h1,h2⟩ | ⟨j,h1,h2⟩
  ·rw[h1,h2];rfl
  ·rw[h1,h2]
   simp only[Option.bind_some,QD]
   simp
 ·have hk:=Qr hy;have hk2:((k:Int)<(L.length:Nat)):=by omega
  simp only[YL,hk2,decide_true,cond_true,Qq,hy,Option.bind_some,QaO]
  rw[show decide (y.Container=x.Container)=decide (x.Container=y.Container) by rw[Bool.eq_iff_iff];simp[eq_comm]]
  cases decide (x.Container=y.Container)<;>rfl
theorem VJ {α:Type} {l:List α} {k:Nat} (h:k≤l.length):Wx l 0 (k:Int)=some (l.take k):=by
 unfold Wx
 rw[if_pos ⟨by omega,by omega,by omega⟩]
 simp
theorem QgC (l:List Qt) (n m:Int):QaN l n m=YP l n m:=by
 unfold QaN YP
 rw[Qjb]
 by_cases h:(32:Int)<((l.length:Nat):Int)
 ·simp only[h,decide_true,cond_true]
 ·have e3:=QpY (·.Container) l (by omega) (b2:=YH l) (b3:=YI l) (fun i k x y hx hy hk=>by
    have:((k:Int)<(i:Int)):=by omega
    simp only[YH,this,decide_true,cond_true,Qq,hx,hy,Option.bind_some]
    cases decide (x.Container=y.Container)<;>rfl) (fun i=>by simp[YH]) (fun i hi=>by
    have:((i:Int)<((l.length:Nat):Int)):=by omega
    simp only[YI,this,decide_true,cond_true]) (by simp[YI])
  have e4:iter (VD l) (((l.length:Nat):Int).toNat+1) 0=some (YA (Qee (·.Container) l) (.inl ()) 0 l):=by
   refine YD l (Qee (·.Container) l) (.inl ()) (by omega) (fun k x hx=> ?_) (by simp[VD]) _ (by simp);have hk:=Qr hx;have hk2:((k:Int)<(l.length:Nat)):=by omega
   simp only[VD,hk2,decide_true,cond_true,Qq,hx,Option.bind_some,VJ (Nat.le_of_lt hk),Qee]
   rw[QgE _ (by simp;omega)]
   simp only[Option.bind_some]
   generalize (l.take k).any _=b
   cases b<;>rfl
  rw[e3,e4]
theorem Zq {F:Nat} (hF:33≤F) (p:Qd) (hn:p.Road.Edges.length≤600):VA F p=Ql p:=by
 unfold VA Ql
 rw[QeD _ hn,V4 _ hn]
 simp only[Qc4 hF,QgC]
theorem Qbd {ρ:Type} {body:Int→Option (Int⊕ρ)} {N:Nat} (hN:N<1000000) (hb: ∀k:Nat,k<N→(∃r,body k=some (.inr r))∨body k=some (.inl ((k+1:Nat):Int))) (hf: ∃r,body (N:Nat)=some (.inr r)) :
  ∀(m k:Nat),k+m=N→ ∃o,iter body (m+1) (k:Int)=some o
 | 0,k,h=>by
  obtain ⟨r,hr⟩:=hf;obtain rfl:k=N:=by omega
  exact ⟨r,by rw[iter,hr];rfl⟩
 | m+1,k,h=>by
  rcases hb k (by omega) with ⟨r,hr⟩ | hr
  ·exact ⟨r,by rw[iter,hr];rfl⟩
  ·obtain ⟨o,ho⟩:=Qbd hN hb hf m (k+1) (by omega);exact ⟨o,by rw[iter,hr];exact ho⟩
theorem QkP (p:Qd):(∃b,ZV p=some b)∧(ZV p=some false→p.Road.Edges.length≤600∧p.Vehicles.length≤30∧p.Demands.length≤60):=by
 unfold ZV
 simp only[Y3,Option.bind_some]
 by_cases h:(decide ((600:Int)<((p.Road.Edges.length:Nat):Int))||(decide ((30:Int)<((p.Vehicles.length:Nat):Int))||decide ((60:Int)<((p.Demands.length:Nat):Int))))=true
 ·rw[h]
  exact ⟨⟨true,rfl⟩,fun e=>by cases e⟩
 ·rw[Bool.not_eq_true] at h
  rw[h]
  simp only[Bool.or_eq_false_iff,decide_eq_false_iff_not] at h
  obtain ⟨o,ho⟩:=Qbd (body:=ZW p) (N:=p.Vehicles.length) (by omega) (fun k hk=>by
   obtain ⟨x,hx⟩: ∃x,p.Vehicles[k]? =some x:=⟨_,List.getElem?_eq_getElem hk⟩
   have hk2:((k:Int)<((p.Vehicles.length:Nat):Int)):=by omega
   simp only[ZW,hk2,decide_true,cond_true,Qq,hx,Option.bind_some,J6 (show k<9223372036854775807 by omega)]
   cases decide ((200:Int)<((x.ID.size:Nat):Int)) with
   | true=>exact .inl ⟨_,rfl⟩
   | false=>exact .inr rfl) ⟨_,by simp[ZW];rfl⟩ p.Vehicles.length 0 (by omega)
  refine ⟨?_,fun _=>by omega⟩
  simp only[cond_false]
  rw[show (((p.Vehicles.length:Nat):Int).toNat+1)=p.Vehicles.length+1 by simp,show (0:Int)=((0:Nat):Int) from rfl,ho]
  cases o with
  | inl u=>exact ⟨false,rfl⟩
  | inr b=>exact ⟨b,rfl⟩
theorem Qhd (l:List Qt) (n m:Int) (hn:l.length≤32): ∃o,iter (Q9 l n m) (((l.length:Nat):Int).toNat+1) 0=some o:=by
 obtain ⟨o,ho⟩:=Qbd (body:=Q9 l n m) (N:=l.length) (by omega) (fun k hk=>by
   obtain ⟨x,hx⟩: ∃x,l[k]? =some x:=⟨_,List.getElem?_eq_getElem hk⟩
   have hk2:((k:Int)<((l.length:Nat):Int)):=by omega
   simp only[Q9,hk2,decide_true,cond_true,Qq,hx,Option.bind_some,Y3,J6 (show k<9223372036854775807 by omega)]
   generalize (decide (x.Container<0)||_)=a
   generalize (decide (x.Grams<0)||_)=b
   cases a<;>cases b<;>first | exact .inr rfl | exact .inl ⟨_,rfl⟩) ⟨_,by simp[Q9];rfl⟩ l.length 0 (by omega)
 exact ⟨o,by simpa using ho⟩
theorem Qfy (v:Qn) (n:Int): ∃e,Yo v n 16=some e:=by
 unfold Yo;have hv: ∃b,JU v.ID=some b:=by
  unfold JU
  by_cases h1:((v.ID.size:Nat):Int)<1
  ·exact ⟨false,by simp only[h1,decide_true,cond_true,Option.bind_some]⟩
  ·by_cases h2:(32:Int)<((v.ID.size:Nat):Int)
   ·exact ⟨false,by simp only[h1,h2,decide_true,decide_false,cond_true,cond_false,Option.bind_some]⟩
   ·obtain ⟨b,hb⟩:=Qji (s:=v.ID) (k:=0) (by omega);obtain ⟨q,hq⟩:=QdU b;have hb':Qii v.ID 0=some b:=hb;obtain ⟨o,ho⟩:=QkW v.ID (by omega) v.ID.size 0 (by omega)
    simp only[h1,h2,decide_false,cond_false,hb',Option.bind_some,hq]
    rw[show (((v.ID.size:Nat):Int).toNat+1)=v.ID.size+1 by simp,show (0:Int)=((0:Nat):Int) from rfl,ho]
    cases q<;>cases o<;>exact ⟨_,rfl⟩
 obtain ⟨b,hb⟩:=hv
 rw[hb]
 simp only[Option.bind_some,Y3,QaA (show (0:Int)≤16∧(16:Int)≤64 by decide)]
 generalize (decide (v.Depot<0)||_)=c1
 generalize (decide (v.Shift.From<0)||_)=c2
 generalize (decide (v.Grams<1)||_)=c3
 generalize (decide (v.Kinds<1)||_)=c4
 cases b<;>cases c1<;>cases c2<;>cases c3<;>cases c4<;>exact ⟨_,rfl⟩
theorem Qlu (l:List Qn) (n:Int): ∃e,YO l n 16=some e:=by
 by_cases h:(16:Int)<((l.length:Nat):Int)
 ·unfold YO
  simp only[Y3,Option.bind_some,h,decide_true,cond_true]
  generalize (decide (n<1)||_)=a
  generalize decide (((l.length:Nat):Int)=0)=b
  cases a<;>cases b<;>exact ⟨_,rfl⟩
 ·obtain ⟨o,ho⟩:=Qbd (body:=QY l n 16) (N:=l.length) (by omega) (fun k hk=>by
   obtain ⟨x,hx⟩: ∃x,l[k]? =some x:=⟨_,List.getElem?_eq_getElem hk⟩
   obtain ⟨e,he⟩:=Qfy x n;have hk2:((k:Int)<((l.length:Nat):Int)):=by omega
   simp only[QY,hk2,decide_true,cond_true,Qq,hx,Option.bind_some,he,J6 (show k<9223372036854775807 by omega)]
   cases decide (e=0)<;>first | exact .inr rfl | exact .inl ⟨_,rfl⟩) ⟨_,by simp[QY];rfl⟩ l.length 0 (by omega)
  have h2:=Qc4 (F:=33) (Nat.le_refl _) l n 16
  rw[←h2]
  unfold VL;have e1:WK 33 l n 16=QY l n 16:=by
   funext i
   simp only[WK,QY,Qj5 (F:=33) (Nat.le_refl _)]
  rw[e1,Qh7 l (by omega),show (((l.length:Nat):Int).toNat+1)=l.length+1 by simp,show (0:Int)=((0:Nat):Int) from rfl,ho]
  simp only[Y3,Option.bind_some,h,decide_false,cond_false]
  generalize (decide (n<1)||_)=a
  generalize decide (((l.length:Nat):Int)=((0:Nat):Int))=b
  generalize YA (Qee (·.ID) l) (.inl ()) 0 l=q
  cases a<;>cases b<;>cases o<;>cases q<;>exact ⟨_,rfl⟩
theorem Qlx (p:Qd) (hn:p.Road.Edges.length≤600): ∃e,Ql p=some e:=by
 unfold Ql
 rw[V4 _ hn]
 obtain ⟨e2,he2⟩:=Qlu p.Vehicles p.Road.Nodes;have he3: ∃e,YP p.Demands p.Road.Nodes 16=some e:=by
  by_cases h:(32:Int)<((p.Demands.length:Nat):Int)
  ·exact ⟨8,by unfold YP;simp only[h,decide_true,cond_true]⟩
  ·obtain ⟨o,ho⟩:=Qhd p.Demands p.Road.Nodes 16 (by omega);unfold YP;have e3:=QpY (·.Container) p.Demands (by omega) (b2:=YH p.Demands) (b3:=YI p.Demands) (fun i k x y hx hy hk=>by
    have:((k:Int)<(i:Int)):=by omega
    simp only[YH,this,decide_true,cond_true,Qq,hx,hy,Option.bind_some]
    cases decide (x.Container=y.Container)<;>rfl) (fun i=>by simp[YH]) (fun i hi=>by
    have:((i:Int)<((p.Demands.length:Nat):Int)):=by omega
    simp only[YI,this,decide_true,cond_true]) (by simp[YI])
   rw[ho,e3]
   simp only[h,decide_false,cond_false,Option.bind_some]
   generalize YA (Qee (·.Container) p.Demands) (.inl ()) 0 p.Demands=q
   cases o<;>cases q<;>exact ⟨_,rfl⟩
 obtain ⟨e3,he3⟩:=he3
 simp only[he2,he3,Option.bind_some,Y3]
 generalize decide (Qcr p.Road=0)=a
 generalize decide (e2=0)=b
 generalize decide (e3=0)=c
 generalize (decide (p.Unload<0)||_)=d
 generalize (decide (p.UnloadSecs<0)||_)=f
 cases a<;>cases b<;>cases c<;>cases d<;>cases f<;>exact ⟨_,rfl⟩
end Go.Proofs.YthpgjbbjpfiniaaGreat
