/- DispatchComplete: for every input the given law returns true, and its arguments read as before. No condition. -/
import Derived.Test.YthpgjbbjpfiniaaGreatc4x1
import Derived.Test.YthpgjbbjpfiniaaGreatc4x3
import Derived.Test.YthpgjbbjpfiniaaGreatc4x6
import Derived.Test.YthpgjbbjpfiniaaGreatc4x7
import Derived.Test.YthpgjbbjpfiniaaGreatc4x2
namespace Go.Proofs.YthpgjbbjpfiniaaGreat
open Go.RowKit
set_option linter.unusedSimpArgs false
set_option linter.unusedVariables false
set_option maxHeartbeats 2000000
set_option maxRecDepth 4000
attribute [local irreducible] WP ZH QaL Fn AN Upd vcR vcO Qc9 JE Jb Qbd Qbm QcW QbU Vg QcN Qy KS
variable {μ:Gh} {L:List Seg} {R:Value→Gh→List Seg→Prop}
theorem QaC {F:Nat} {x1:(List Qb)} {A1:Option Addr} {c1:Nat} {ch1:Seg} {n1:Nat} {res1:(List Qb)}
  (hn1:n1=x1.length) (hO1:Own Qm 82 μ (.slice A1 n1 c1) x1 ch1) (h:Ym F x1=some res1)
  (hR: ∀(sp0:Seg),Own Qm 82 μ (.slice A1 n1 c1) res1 sp0→n1=res1.length→R (.tuple #[]) μ (sp0::L)) :
  Fn Tryz.prog 41 [.slice A1 n1 c1,.func (.func 40) #[] #[]] μ (ch1::L) R:=by
 unfold Ym at h;subst hn1;have hn1:x1.length=x1.length:=rfl;refine FnS Tryz.func41 (by kernel_rfl) E Tryz.ntmps41 E E ?_;refine G0 5 E (Cl E ?_);obtain ⟨_,hx1,h⟩:=Qh h;refine QaQ hn1 hO1 hx1 (fun _ hO2 hn2=>Q0 1 E ?_);cases h;exact Rt [] E E (Ug [[0]] 1 (hR _ hO2 hn2))
theorem QaW {F:Nat} {p1:Qd} {x1:Qf} {A1:Option Addr} {c1:Nat} {A2:Option Addr} {c2:Nat} {A3:Option Addr} {c3:Nat} {A4:Option Addr} {c4:Nat} {A5:Option Addr} {c5:Nat} {res1:(List Qf)} {res2:Int}
  (hl1:p1.Road.Edges.length≤c1∧c1≤maxLen) (hA1:Qv QS μ A1 p1.Road.Edges) (hl2:p1.Vehicles.length≤c2∧c2≤maxLen) (hA2:Qv QE μ A2 p1.Vehicles) (hl3:p1.Demands.length≤c3∧c3≤maxLen) (hA3:Qv QL μ A3 p1.Demands) (hl4:x1.Tours.length≤c4∧c4≤maxLen) (hA4:Qv Qz μ A4 x1.Tours) (hl5:x1.Left.length≤c5∧c5≤maxLen) (hA5:Qv Yc μ A5 x1.Left) (h:Zn F p1 x1=some (res1,res2))
  (hR: ∀(μ':Gh) (A0:Option Addr) (c0:Nat) (ch0:Seg),μ.le μ'→Own Qcg 33 μ' (.slice A0 res1.length c0) res1 ch0→R (.tuple #[.slice A0 res1.length c0,.int .i64 res2]) μ' (ch0::L)) :
  Fn Tryz.prog 16 [.agg #[.int .i64 p1.Road.Nodes,.slice A1 p1.Road.Edges.length c1,.slice A2 p1.Vehicles.length c2,.slice A3 p1.Demands.length c3,.int .i64 p1.Unload,.int .i64 p1.UnloadSecs],.agg #[.slice A4 x1.Tours.length c4,.slice A5 x1.Left.length c5]] μ (L) R:=by
 unfold Zn at h;refine QqT Tryz.func16 (by kernel_rfl) E Tryz.ntmps16 E E ?_;refine G0 1 E (Al E fun g1=>Q0 0 E (Al E fun g2=>Q1 6 [1,0] E (Cl E ?_)));obtain ⟨⟨_,_⟩,hx1,h⟩:=Qh h;replace h:=Qo h;refine QeJ hl1 hA1 hl2 hA2 hl3 hA3 hl4 hA4 hl5 hA5 hx1 (fun v1 hm_1=> ?_);replace hA1:=hA1.mono hm_1;replace hA2:=hA2.mono hm_1;replace hA3:=hA3.mono hm_1;replace hA4:=hA4.mono hm_1;replace hA5:=hA5.mono hm_1;refine Q0 3 E (Al E fun g3=>Q1 8 [0] E ?_);refine Br h 23 E E (fun hc1 h=> ?_) (fun hc1 h=> ?_)
 ·refine G2 7 [23] [] [] E ?_;cases h;exact Rt [] E E (Ug [[]] 3 (hR _ none 0 [] hm_1 Own.nil))
 refine G2 3 [] [23] [] E (Al E fun g4=>Q1 4 [3,2] E (Cl E (FnS Tryz.func39 (by kernel_rfl) E Tryz.ntmps39 E E (G0 2 E (Al E fun _=>Q0 0 E (Al E fun _=>Q0 7 E (Rt [] E E (Upd.done (Q0 1 E (Rg (c:=Tryz.f16.body) [(2,.pointer (some ⟨g1,0,none⟩)),(3,.pointer (some ⟨g2,0,none⟩)),(6,.pointer (some ⟨g3,0,none⟩)),(8,.pointer (some ⟨g4,0,none⟩))] E E E (fg:=Tryz.f59) Tryz.func59 E fun _ _ hq1=> ?_))))))))));have hP1:QF v1 (.pointer (some ⟨g4,0,none⟩)) [] _:=⟨g4,none,0,[],rfl,rfl,Own.nil⟩
 refine Fn.gp [[0],[7],[6],[5],[4,99],[3],[2],[1]] 8 8 E ?_;obtain ⟨_,hx2,h⟩:=Qh h;refine QcU hq1 hl1 hA1 hl2 hA2 hl3 hA3 hl4 hA4 hl5 hA5 hP1 hl1 hA1 hl2 hA2 hl3 hA3 hl4 hA4 hl5 hA5 hx2 (fun _ _ hm_2 hP2=> ?_);refine RgE.mk 0 7 E E ?_;obtain ⟨_,_,_,_,hv1,rfl,hO1⟩:=hP2;replace hv1:=Qdr hv1;subst hv1;refine G0 1 E (In QF.fl 3 8 E E E (G1 2 [3] E (Cl E (Fn.gp [[4],[0],[1],[2],[3],[5],[6],[7]] 8 8 E ?_))));obtain ⟨_,hx3,h⟩:=Qh h;refine QaC E hO1 hx3 (fun _ hO2 hn1=> ?_)
 rw[hn1] at hO2 ⊢
 refine Q1 12 [4] E ?_;refine Cut h (fun f l o_ f_ μ_ l_=> ∃(out2:(List Qf)) (A11:Option Addr) (c11:Nat) (ch5:Seg),out2=o_∧Qk ((13,.slice A11 out2.length c11)::[]) f_∧Qe (ch5::QK [] 7 l) l_∧Own Qcg 33 μ_ (.slice A11 out2.length c11) out2 ch5) ?_ ?_
 ·intro _ h20020 h;refine Lp h20020 (fun f l (j_:(List Qf)×Int) f_ μ_ l_=>Zt j_ fun out1 v3=> ∃(A7:Option Addr) (c7:Nat) (ch3:Seg),Qk ((13,.slice A7 out1.length c7)::(56,.int .i64 v3)::Qr [54,55] f) f_∧Qe (ch3::QK [some 0,some 7] 8 l) l_∧Own Qcg 33 μ_ (.slice A7 out1.length c7) out1 ch3) ⟨none,0,[],fE E,sE [none,some 0,some 7] 8 E,(Own.nil)⟩ ?_;rintro ⟨out1,v3⟩ _ _ _ _ hm20039 ⟨A7,c7,ch3,hF20039,hS20039,hO3⟩ hb20039 hq20039;unfold J2 at hb20039;replace hb20039:=Qo hb20039;replace hO2:=hO2.mono hm20039;refine Atn 3 hF20039 hS20039 E E (G0 5 E ?_);refine Br hb20039 57 E E (fun hc2 hb20039=> ?_) (fun hc2 hb20039=> ?_)
  ·refine G2 6 [57] [] [] E (IxA hb20039 (Own.rds hO2 1 E) E E fun x2 _ _ _ hr1 hc3 _ hb20039=> ?_);obtain ⟨A8,c8,A9,c9,rfl,hl6,hA7,hl7,hA8⟩:=hr1;refine Q3 1 [] [] [64] (Z1 hc3) E (Al E fun _=>Q1 6 [0,0] E (So E (Jc (z:=[.slice none 0 0,.slice none 0 0]) E E E E E E E (QW (cells':=[.slice A8 x2.plan.Tours.length c8,.slice A9 x2.plan.Left.length c9]) E E E E (ZA (fun g9=>Q0 0 E (So E (Je E ?_))))))));obtain ⟨_,hz1,hb20039⟩:=Qh hb20039;refine J0 (r:=Qcg) Q9 E E E E (by decide) E E 2 E hO3 E (Own.rds (Own.lit (r:=Qcg) (e:=33) (g:=g9) (xs:=[x2.plan]) (cs:=[.slice A8 x2.plan.Tours.length c8,.slice A9 x2.plan.Left.length c9]) (css:=[[.slice A8 x2.plan.Tours.length c8,.slice A9 x2.plan.Left.length c9]]) E (All2.cons (⟨A8,c8,A9,c9,E,hl6,hA7,hl7,hA8⟩) (All2.nil)) E E) 0 E) hz1 fun A10 c10 ch4 hO4=>Q0 7 E ?_;cases hb20039;exact Ce E ⟨_,rfl,A10,c10,ch4,fE E,sE [some 2,some 3,some 4] 5 E,(hO4)⟩
  refine G2 2 [] [57] [] E ?_;cases hb20039;have hq_:=hq20039 _ E;subst hq_;exact Ce E ⟨_,A7,c7,ch3,rfl,fE E,sE [some 0,some 2] 3 E,(hO3)⟩
 rintro _ _ _ _ h hm20020 ⟨out2,A11,c11,ch5,rfl,hF20020,hS20020,hO5⟩;refine Atn 2 hF20020 hS20020 E E (G0 6 E ?_);cases h;exact RtM 1 1 [] E E E E (Ug [[0]] 1 (hR _ A11 c11 ch5 (hm_1.trans (hm_2.trans hm20020)) hO5))
theorem Qbk {F:Nat} {p1:Qd} {A1:Option Addr} {c1:Nat} {A2:Option Addr} {c2:Nat} {A3:Option Addr} {c3:Nat} {res1:Qf} {res2:Int}
  (hl1:p1.Road.Edges.length≤c1∧c1≤maxLen) (hA1:Qv QS μ A1 p1.Road.Edges) (hl2:p1.Vehicles.length≤c2∧c2≤maxLen) (hA2:Qv QE μ A2 p1.Vehicles) (hl3:p1.Demands.length≤c3∧c3≤maxLen) (hA3:Qv QL μ A3 p1.Demands) (h:Y3 F p1=some (res1,res2))
  (hR: ∀(μ':Gh) (A0_0:Option Addr) (c0_0:Nat) (A0_1:Option Addr) (c0_1:Nat),μ.le μ'→(res1.Tours.length≤c0_0∧c0_0≤maxLen)→Qv Qz μ' A0_0 res1.Tours→(res1.Left.length≤c0_1∧c0_1≤maxLen)→Qv Yc μ' A0_1 res1.Left→R (.tuple #[.agg #[.slice A0_0 res1.Tours.length c0_0,.slice A0_1 res1.Left.length c0_1],.int .i64 res2]) μ' (L)) :
  Fn Tryz.prog 13 [.agg #[.int .i64 p1.Road.Nodes,.slice A1 p1.Road.Edges.length c1,.slice A2 p1.Vehicles.length c2,.slice A3 p1.Demands.length c3,.int .i64 p1.Unload,.int .i64 p1.UnloadSecs]] μ (L) R:=by
 unfold Y3 at h;refine FnS Tryz.func13 (by kernel_rfl) E Tryz.ntmps13 E E ?_;refine G0 2 E (Al E fun g1=>Q0 0 E (Al E fun g2=>Q1 5 [1] E (Cl E ?_)));obtain ⟨⟨_,_⟩,hx1,h⟩:=Qh h;replace h:=Qo h;refine QgI hl1 hA1 hl2 hA2 hl3 hA3 hx1 (fun _ A4 c4 A5 c5 hm_1 hl4 hA4 hl5 hA5=> ?_);replace hA1:=hA1.mono hm_1;replace hA2:=hA2.mono hm_1;replace hA3:=hA3.mono hm_1;refine Q0 3 E (Al E fun g3=>Q1 9 [0] E ?_);refine Br h 14 E E (fun hc1 h=> ?_) (fun hc1 h=> ?_)
 ·refine G2 8 [14] [] [1] E ?_;cases h;exact Rt [1] E E (Ug [] 3 (hR _ none 0 none 0 hm_1 ⟨Nat.le_refl _,Nat.zero_le _⟩ Qv.nil ⟨Nat.le_refl _,Nat.zero_le _⟩ Qv.nil))
 refine G2 2 [] [14] [] E ?_;refine Cut h (fun _ _ _ _ _ _=>False) ?_ ?_
 ·intro _ h20105 h;refine Lp h20105 (fun f l (j_:(List Qa)×(List Int)) f_ μ_ l_=>Zt j_ fun f1 f2=> ∃(A6:Option Addr) (c6:Nat) (A7:Option Addr) (c7:Nat),Qk (Qr [1,2,4] f) f_∧Qe ([(g1,.cells #[.int .i64 p1.Road.Nodes,.slice A1 p1.Road.Edges.length c1,.slice A2 p1.Vehicles.length c2,.slice A3 p1.Demands.length c3,.int .i64 p1.Unload,.int .i64 p1.UnloadSecs] 28 (0,0))]::[(g2,.cells #[.slice none 0 0,.slice none 0 0] 33 (0,0))]::[(g3,.cells #[.slice A6 f1.length c6,.slice A7 f2.length c7] 33 (0,0))]::QK [] 3 l) l_∧(f1.length≤c6∧c6≤maxLen)∧Qv Qz μ_ A6 f1∧(f2.length≤c7∧c7≤maxLen)∧Qv Yc μ_ A7 f2) ⟨A4,c4,A5,c5,fE E,sE [some 2,some 1,some 0] 3 E,(hl4),(hA4),(hl5),(hA5)⟩ ?_;rintro ⟨f1,f2⟩ _ _ _ _ hm20124 ⟨A6,c6,A7,c7,hF20124,hS20124,hl6,hA6,hl7,hA7⟩ hb20124 hq20124;unfold ZY at hb20124;replace hb20124:=Qo hb20124;replace hA1:=hA1.mono hm20124;replace hA2:=hA2.mono hm20124;replace hA3:=hA3.mono hm20124;refine Atn 3 hF20124 hS20124 E E (G1 5 [0,2] E (Cl E ?_));obtain ⟨⟨_,_⟩,hx2,hb20124⟩:=Qh hb20124;replace hb20124:=Qo hb20124;refine QaW hl1 hA1 hl2 hA2 hl3 hA3 hl6 hA6 hl7 hA7 hx2 (fun _ _ _ _ hm_2 hO1=> ?_);replace hA6:=hA6.mono hm_2;replace hA7:=hA7.mono hm_2;refine Q0 12 E ?_;refine Br hb20124 24 E E (fun hc2 hb20124=> ?_) (fun hc2 hb20124=> ?_)
  ·refine G2 8 [24] [] [2] E ?_;cases hb20124;have hq_:=hq20124 _ E;subst hq_;cases h;exact Rt [2] E E (Ug [] 4 (hR _ none 0 none 0 (hm_1.trans (hm20124.trans hm_2)) ⟨Nat.le_refl _,Nat.zero_le _⟩ Qv.nil ⟨Nat.le_refl _,Nat.zero_le _⟩ Qv.nil))
  refine G2 9 [] [24] [] E ?_;refine Br hb20124 29 E E (fun hc3 hb20124=> ?_) (fun hc3 hb20124=> ?_)
  ·refine G2 7 [29] [] [3,2] E ?_;cases hb20124;have hq_:=hq20124 _ E;subst hq_;cases h;exact Rt [2] E E (Ug [] 4 (hR _ A6 c6 A7 c7 (hm_1.trans (hm20124.trans hm_2)) hl6 hA6 hl7 hA7))
  refine G2 4 [] [29] [] E (IxA hb20124 (Own.rds hO1 0 E) E E fun _ _ _ _ hr1 hc4 _ hb20124=> ?_);obtain ⟨A9,c9,A10,c10,rfl,hl8,hA9,hl9,hA10⟩:=hr1;refine Q3 4 [] [] [64,3] (Z1 hc4) E ?_;cases hb20124;exact Ce E ⟨_,rfl,A9,c9,A10,c10,fE E,sE [some 1,some 2,some 3] 4 E,(hl8),(hA9),(hl9),(hA10)⟩
 exact fun _ _ _ _ _ _ hf_=>hf_.elim
theorem Qc7 {F:Nat} {p1:Qd} {x1:Qf} {A1:Option Addr} {c1:Nat} {A2:Option Addr} {c2:Nat} {A3:Option Addr} {c3:Nat} {A4:Option Addr} {c4:Nat} {A5:Option Addr} {c5:Nat} {res1:Int}
  (hl1:p1.Road.Edges.length≤c1∧c1≤maxLen) (hA1:Qv QS μ A1 p1.Road.Edges) (hl2:p1.Vehicles.length≤c2∧c2≤maxLen) (hA2:Qv QE μ A2 p1.Vehicles) (hl3:p1.Demands.length≤c3∧c3≤maxLen) (hA3:Qv QL μ A3 p1.Demands) (hl4:x1.Tours.length≤c4∧c4≤maxLen) (hA4:Qv Qz μ A4 x1.Tours) (hl5:x1.Left.length≤c5∧c5≤maxLen) (hA5:Qv Yc μ A5 x1.Left) (h:ZR F p1 x1=some res1)
  (hR: ∀(μ':Gh) ,μ.le μ'→R (.int .i64 res1) μ' (L)) :
  Fn Tryz.prog 22 [.agg #[.int .i64 p1.Road.Nodes,.slice A1 p1.Road.Edges.length c1,.slice A2 p1.Vehicles.length c2,.slice A3 p1.Demands.length c3,.int .i64 p1.Unload,.int .i64 p1.UnloadSecs],.agg #[.slice A4 x1.Tours.length c4,.slice A5 x1.Left.length c5]] μ (L) R:=by
 unfold ZR at h;refine FnS Tryz.func22 (by kernel_rfl) E Tryz.ntmps22 E E ?_;refine G0 2 E (Al E fun _=>Q0 0 E (Al E fun _=>Q1 6 [1,0] E (Cl E ?_)));obtain ⟨⟨_,_⟩,hx1,h⟩:=Qh h;replace h:=Qo h;refine QfK hl1 hA1 hl2 hA2 hl3 hA3 hl4 hA4 hl5 hA5 hx1 (fun _ hm_1=> ?_);refine Q0 11 E ?_;cases h;exact Rt [] E E (Ug [] 2 (hR _ hm_1))
theorem QjI {F:Nat} {p1:Qd} {t1:Qa} {A1:Option Addr} {c1:Nat} {A2:Option Addr} {c2:Nat} {A3:Option Addr} {c3:Nat} {A4:Option Addr} {c4:Nat} {res1:(List QT)} {res2:Int} {res3:Int}
  (hl1:p1.Road.Edges.length≤c1∧c1≤maxLen) (hA1:Qv QS μ A1 p1.Road.Edges) (hl2:p1.Vehicles.length≤c2∧c2≤maxLen) (hA2:Qv QE μ A2 p1.Vehicles) (hl3:p1.Demands.length≤c3∧c3≤maxLen) (hA3:Qv QL μ A3 p1.Demands) (hl4:t1.Stops.length≤c4∧c4≤maxLen) (hA4:Qv Yc μ A4 t1.Stops) (h:Qb8 F p1 t1=some (res1,res2,res3))
  (hR: ∀(μ':Gh) (A0:Option Addr) (c0:Nat) (ch0:Seg),μ.le μ'→Own Qcz 135 μ' (.slice A0 res1.length c0) res1 ch0→R (.tuple #[.slice A0 res1.length c0,.int .i64 res2,.int .i64 res3]) μ' (ch0::L)) :
  Fn Tryz.prog 26 [.agg #[.int .i64 p1.Road.Nodes,.slice A1 p1.Road.Edges.length c1,.slice A2 p1.Vehicles.length c2,.slice A3 p1.Demands.length c3,.int .i64 p1.Unload,.int .i64 p1.UnloadSecs],.agg #[.int .i64 t1.Vehicle,.slice A4 t1.Stops.length c4]] μ (L) R:=by
 unfold Qb8 at h;refine FnS Tryz.func26 (by kernel_rfl) E Tryz.ntmps26 E E ?_;refine G0 2 E (Al E fun _=>Q0 0 E (Al E fun _=>Q1 8 [1] E (Cl E ?_)));obtain ⟨_,hx1,h⟩:=Qh h;refine VS hl1 hA1 hl2 hA2 hl3 hA3 hx1 (fun _ hm_1=> ?_);replace hA1:=hA1.mono hm_1;replace hA2:=hA2.mono hm_1;replace hA3:=hA3.mono hm_1;replace hA4:=hA4.mono hm_1;refine Q0 7 E ?_;refine Br h 14 E E (fun hc1 h=> ?_) (fun hc1 h=> ?_)
 ·refine G2 8 [14] [] [] E ?_;cases h;exact Rt [] E E (Ug [[]] 2 (hR _ none 0 [] hm_1 Own.nil))
 refine G2 6 [] [14] [1,0] E (Cl E ?_);obtain ⟨⟨_,_,_⟩,hx2,h⟩:=Qh h;replace h:=Qo h;replace h:=Qo h;refine Qcl hl1 hA1 hl2 hA2 hl3 hA3 hl4 hA4 hx2 (fun _ _ _ hm_2 hP1=> ?_);refine Q0 14 E ?_;refine Br h 24 E E (fun hc2 h=> ?_) (fun hc2 h=> ?_)
 ·refine G2 9 [24] [] [] E ?_;cases h;exact Rt [] E E (Ug [[]] 3 (hR _ none 0 [] (hm_1.trans hm_2) Own.nil))
 obtain ⟨_,hm_3,h⟩:=Qh h;have hP2:=Qfe.get hP1 hm_3;obtain ⟨_,_,_,_,_,_,_,_,_,_,A8,c8,ch1,hv1,rfl,⟨_,_⟩,⟨_,_⟩,⟨_,_⟩,_,hO1⟩:=hP2;subst hv1;refine G2 3 [] [24] [] E (In QH.fl 0 5 E E E (G1 9 [0] E ?_));cases h;exact Rt [] E E (Ug [[2]] 5 (hR _ A8 c8 ch1 (hm_1.trans hm_2) hO1))
theorem Qfv {F:Nat} {p1:Qd} {t1:Qa} {d1:Int} {A1:Option Addr} {c1:Nat} {A2:Option Addr} {c2:Nat} {A3:Option Addr} {c3:Nat} {A4:Option Addr} {c4:Nat} {res1:(List Qa)} {res2:Int}
  (hl1:p1.Road.Edges.length≤c1∧c1≤maxLen) (hA1:Qv QS μ A1 p1.Road.Edges) (hl2:p1.Vehicles.length≤c2∧c2≤maxLen) (hA2:Qv QE μ A2 p1.Vehicles) (hl3:p1.Demands.length≤c3∧c3≤maxLen) (hA3:Qv QL μ A3 p1.Demands) (hl4:t1.Stops.length≤c4∧c4≤maxLen) (hA4:Qv Yc μ A4 t1.Stops) (h:Jh F p1 t1 d1=some (res1,res2))
  (hR: ∀(μ':Gh) (A0:Option Addr) (c0:Nat) (ch0:Seg),μ.le μ'→Own Qz 51 μ' (.slice A0 res1.length c0) res1 ch0→R (.tuple #[.slice A0 res1.length c0,.int .i64 res2]) μ' (ch0::L)) :
  Fn Tryz.prog 27 [.agg #[.int .i64 p1.Road.Nodes,.slice A1 p1.Road.Edges.length c1,.slice A2 p1.Vehicles.length c2,.slice A3 p1.Demands.length c3,.int .i64 p1.Unload,.int .i64 p1.UnloadSecs],.agg #[.int .i64 t1.Vehicle,.slice A4 t1.Stops.length c4],.int .i64 d1] μ (L) R:=by
 unfold Jh at h;refine FnS Tryz.func27 (by kernel_rfl) E Tryz.ntmps27 E E ?_;refine G0 2 E (Al E fun _=>Q0 0 E (Al E fun _=>Q1 8 [1,0] E (Cl E ?_)));obtain ⟨⟨_,_⟩,hx1,h⟩:=Qh h;replace h:=Qo h;refine Qa0 hl1 hA1 hl2 hA2 hl3 hA3 hl4 hA4 hx1 (fun _ _ _ _ hm_1 hO1=> ?_);refine Q0 17 E ?_;refine Cut h (fun f l o_ f_ μ_ l_=> ∃(out2:(List Qa)) (A9:Option Addr) (c9:Nat) (ch4:Seg),out2=o_∧Qk ((10,.slice A9 out2.length c9)::Qr [9] f) f_∧Qe (ch4::QK [] 3 l) l_∧Own Qz 51 μ_ (.slice A9 out2.length c9) out2 ch4) ?_ ?_
 ·intro _ h20379 h;refine Lp h20379 (fun f l (j_:(List Qa)×Int) f_ μ_ l_=>Zt j_ fun out1 v2=> ∃(A6:Option Addr) (c6:Nat) (ch2:Seg),Qk ((10,.slice A6 out1.length c6)::(22,.int .i64 v2)::Qr [9,20,21] f) f_∧Qe (ch2::QK [some 0] 3 l) l_∧Own Qz 51 μ_ (.slice A6 out1.length c6) out1 ch2) ⟨none,0,[],fE E,sE [none,some 0] 3 E,(Own.nil)⟩ ?_;rintro ⟨out1,v2⟩ _ _ _ _ hm20391 ⟨A6,c6,ch2,hF20391,hS20391,hO2⟩ hb20391 hq20391;unfold J3 at hb20391;replace hb20391:=Qo hb20391;replace hO1:=hO1.mono hm20391;refine Atn 2 hF20391 hS20391 E E (G0 5 E ?_);refine Br hb20391 23 E E (fun hc1 hb20391=> ?_) (fun hc1 hb20391=> ?_)
  ·refine G2 6 [23] [] [] E (IxA hb20391 (Own.rds hO1 1 E) E E fun x1 _ _ _ hr1 hc2 _ hb20391=> ?_);obtain ⟨A7,c7,rfl,hl5,hA6⟩:=hr1;refine Q3 1 [] [] [64] (Z1 hc2) E (Al E fun _=>Q1 6 [0,0] E (So E (Jc (z:=[.int .i64 0,.slice none 0 0]) E E E E E E E (QW (cells':=[.int .i64 x1.tour.Vehicle,.slice A7 x1.tour.Stops.length c7]) E E E E (ZA (fun g4=>Q0 0 E (So E (Je E ?_))))))));obtain ⟨_,hz1,hb20391⟩:=Qh hb20391;refine J0 (r:=Qz) Q9 E E E E (by decide) E E 2 E hO2 E (Own.rds (Own.lit (r:=Qz) (e:=51) (g:=g4) (xs:=[x1.tour]) (cs:=[.int .i64 x1.tour.Vehicle,.slice A7 x1.tour.Stops.length c7]) (css:=[[.int .i64 x1.tour.Vehicle,.slice A7 x1.tour.Stops.length c7]]) E (All2.cons (⟨A7,c7,E,hl5,hA6⟩) (All2.nil)) E E) 0 E) hz1 fun A8 c8 ch3 hO3=>Q0 7 E ?_;cases hb20391;exact Ce E ⟨_,rfl,A8,c8,ch3,fE E,sE [some 2,some 3] 4 E,(hO3)⟩
  refine G2 2 [] [23] [] E ?_;cases hb20391;have hq_:=hq20391 _ E;subst hq_;exact Ce E ⟨_,A6,c6,ch2,rfl,fE E,sE [some 0] 2 E,(hO2)⟩
 rintro _ _ _ _ h hm20379 ⟨out2,A9,c9,ch4,rfl,hF20379,hS20379,hO4⟩;refine Atn 1 hF20379 hS20379 E E (G0 7 E ?_);cases h;exact Rt [] E E (Ug [[0]] 1 (hR _ A9 c9 ch4 (hm_1.trans hm20379) hO4))
theorem QeS {F:Nat} {p1:Qd} {x1:Qf} {d1:Int} {v1:Int} {A1:Option Addr} {c1:Nat} {A2:Option Addr} {c2:Nat} {A3:Option Addr} {c3:Nat} {A4:Option Addr} {c4:Nat} {A5:Option Addr} {c5:Nat} {res1:Int}
  (hl1:p1.Road.Edges.length≤c1∧c1≤maxLen) (hA1:Qv QS μ A1 p1.Road.Edges) (hl2:p1.Vehicles.length≤c2∧c2≤maxLen) (hA2:Qv QE μ A2 p1.Vehicles) (hl3:p1.Demands.length≤c3∧c3≤maxLen) (hA3:Qv QL μ A3 p1.Demands) (hl4:x1.Tours.length≤c4∧c4≤maxLen) (hA4:Qv Qz μ A4 x1.Tours) (hl5:x1.Left.length≤c5∧c5≤maxLen) (hA5:Qv Yc μ A5 x1.Left) (h:Yl F p1 x1 d1 v1=some res1)
  (hR: ∀(μ':Gh) ,μ.le μ'→R (.int .i64 res1) μ' (L)) :
  Fn Tryz.prog 46 [.agg #[.int .i64 p1.Road.Nodes,.slice A1 p1.Road.Edges.length c1,.slice A2 p1.Vehicles.length c2,.slice A3 p1.Demands.length c3,.int .i64 p1.Unload,.int .i64 p1.UnloadSecs],.agg #[.slice A4 x1.Tours.length c4,.slice A5 x1.Left.length c5],.int .i64 d1,.int .i64 v1] μ (L) R:=by
 unfold Yl at h;refine FnS Tryz.func46 (by kernel_rfl) E Tryz.ntmps46 E E ?_;refine G0 2 E (Al E fun _=>Q0 0 E (Al E fun _=>Q0 4 E (Dr _ Qy.refl [(true,0),(true,1),(true,2),(true,3),(true,4),(true,5),(true,6),(true,7),(true,8),(true,9),(true,10),(false,11),(true,12)] (by kernel_rfl) (G1 3 [1] E (Ix h (Qv.rds hA2 L) E E fun _ _ _ _ hr1 hc1 _ h=> ?_)))));obtain rfl:=hr1;refine Q3 4 [] [] [64,1] (Z1 (hc1.push.push)) E (Ix h (Qv.rds hA3 L) E E fun _ _ _ _ hr2 hc2 _ h=> ?_);obtain rfl:=hr2;refine Q3 2 [] [] [66] (Z1 (hc2.push.push)) E (Cl E ?_);obtain ⟨_,hx3,h⟩:=Qh h;refine Qcn  hx3 (?_);refine ⟨Qy.refl,?_⟩;refine Q0 2 E ?_;refine Br h 26 E E (fun hc3 h=> ?_) (fun hc3 h=> ?_)
 ·refine G2 5 [26] [] [] E ?_;cases h;exact Rt [] E E (Ug [] 2 (hR _ (Gh.le.refl _)))
 refine G2 4 [] [26] [] E (Dr _ Qy.refl [(true,0),(true,1),(true,2),(true,3),(true,4),(true,5),(true,6),(true,7),(true,8),(true,9),(true,10),(true,11),(true,12)] (by kernel_rfl) (G1 3 [1] E (Ix h (Qv.rds hA3 L) E E fun _ _ _ _ hr3 hc4 _ h=> ?_)));obtain rfl:=hr3;refine Q3 5 [] [] [67,1] (Z1 (hc4.push.push)) E (Ix h (Qv.rds hA2 L) E E fun _ _ _ _ hr4 hc5 _ h=> ?_);obtain rfl:=hr4;refine Q3 4 [] [] [68] (Z1 (hc5.push.push)) E ?_;refine Br h 39 E E (fun hc6 h=> ?_) (fun hc6 h=> ?_)
 ·refine G2 5 [39] [] [] E ?_;cases h;exact Rt [] E E (Ug [] 2 (hR _ (Gh.le.refl _)))
 refine G2 8 [] [39] [1] E (So E (Jc (z:=[.int .i64 0,.int .i64 0]) E E E E E E E (QW (cells':=[.int .i64 d1,.int .i64 0]) E E E E (QW (cells':=[.int .i64 d1,.int .i64 (-1)]) E E E E (ZA (fun g3=>Q0 1 E (Cl E ?_)))))));have hl6:[d1,(-1)].length≤2∧2≤maxLen:=⟨Nat.le_refl _,by unfold maxLen;omega⟩
 refine Fn.pre Tryz.func26 (by kernel_rfl) E (Upd.frzOwn 0 E (Own.lit (r:=Yc) (e:=3) (g:=g3) (xs:=[d1,(-1)]) (cs:=[.int .i64 d1,.int .i64 (-1)]) (css:=[[.int .i64 d1],[.int .i64 (-1)]]) E (All2.cons (E) (All2.cons (E) (All2.nil))) E E) fun _ hm_1 hA10=>Upd.done ?_);replace hA1:=hA1.mono hm_1;replace hA2:=hA2.mono hm_1;replace hA3:=hA3.mono hm_1;replace hA4:=hA4.mono hm_1;replace hA5:=hA5.mono hm_1;obtain ⟨⟨_,_,_⟩,hx6,h⟩:=Qh h;replace h:=Qo h;replace h:=Qo h;refine QjI hl1 hA1 hl2 hA2 hl3 hA3 hl6 hA10 hx6 (fun _ _ _ _ hm_2 _=> ?_);replace hA1:=hA1.mono hm_2;replace hA2:=hA2.mono hm_2;replace hA3:=hA3.mono hm_2;replace hA4:=hA4.mono hm_2;replace hA5:=hA5.mono hm_2;refine Q0 13 E ?_;refine Br h 51 E E (fun hc7 h=> ?_) (fun hc7 h=> ?_)
 ·refine G2 6 [51] [] [] E ?_;cases h;exact Rt [] E E (Ug [] 4 (hR _ (hm_1.trans hm_2)))
 refine G2 3 [] [51] [] E (Dr _ Qy.refl [(true,0),(true,1),(true,2),(true,4),(false,3),(false,5),(true,6),(true,7),(true,8),(true,9),(true,10)] (by kernel_rfl) (G1 4 [3,2] E (Cl E ?_)));obtain ⟨_,hx7,h⟩:=Qh h;refine QaX hl4 hA4 hl5 hA5 hx7 (fun _ _ hl7 hA11=> ?_);refine ⟨Qy.refl,?_⟩;refine Q0 0 E (Cl E ?_);obtain ⟨⟨_,_⟩,hx8,h⟩:=Qh h;replace h:=Qo h;refine Qfv hl1 hA1 hl2 hA2 hl3 hA3 hl7 hA11 hx8 (fun _ _ _ _ hm_3 _=> ?_);refine ⟨Qy.more (Qy.refl),?_⟩;refine Q0 12 E ?_;refine Br h 63 E E (fun hc8 h=> ?_) (fun hc8 h=> ?_)
 ·refine G2 6 [63] [] [] E ?_;cases h;exact Rt [] E E (Ug [] 5 (hR _ (hm_1.trans (hm_2.trans hm_3))))
 refine G2 9 [] [63] [] E ?_;refine Br h 67 E E (fun hc9 h=> ?_) (fun hc9 h=> ?_)
 ·refine G2 5 [67] [] [] E ?_;cases h;exact Rt [] E E (Ug [] 5 (hR _ (hm_1.trans (hm_2.trans hm_3))))
 refine G2 6 [] [67] [] E ?_;cases h;exact Rt [] E E (Ug [] 5 (hR _ (hm_1.trans (hm_2.trans hm_3))))
theorem QbI {F:Nat} {p1:Qd} {x1:Qf} {d1:Int} {A1:Option Addr} {c1:Nat} {A2:Option Addr} {c2:Nat} {A3:Option Addr} {c3:Nat} {A4:Option Addr} {c4:Nat} {A5:Option Addr} {c5:Nat} {res1:(List QJ)} {res2:Int}
  (hl1:p1.Road.Edges.length≤c1∧c1≤maxLen) (hA1:Qv QS μ A1 p1.Road.Edges) (hl2:p1.Vehicles.length≤c2∧c2≤maxLen) (hA2:Qv QE μ A2 p1.Vehicles) (hl3:p1.Demands.length≤c3∧c3≤maxLen) (hA3:Qv QL μ A3 p1.Demands) (hl4:x1.Tours.length≤c4∧c4≤maxLen) (hA4:Qv Qz μ A4 x1.Tours) (hl5:x1.Left.length≤c5∧c5≤maxLen) (hA5:Qv Yc μ A5 x1.Left) (h:JT F p1 x1 d1=some (res1,res2))
  (hR: ∀(μ':Gh) (A0:Option Addr) (c0:Nat) (ch0:Seg),μ.le μ'→Own Ww 56 μ' (.slice A0 res1.length c0) res1 ch0→R (.tuple #[.slice A0 res1.length c0,.int .i64 res2]) μ' (ch0::L)) :
  Fn Tryz.prog 18 [.agg #[.int .i64 p1.Road.Nodes,.slice A1 p1.Road.Edges.length c1,.slice A2 p1.Vehicles.length c2,.slice A3 p1.Demands.length c3,.int .i64 p1.Unload,.int .i64 p1.UnloadSecs],.agg #[.slice A4 x1.Tours.length c4,.slice A5 x1.Left.length c5],.int .i64 d1] μ (L) R:=by
 unfold JT at h;refine FnS Tryz.func18 (by kernel_rfl) E Tryz.ntmps18 E E ?_;refine G0 2 E (Al E fun g1=>Q0 0 E (Al E fun g2=>Q1 8 [1,0] E (Cl E ?_)));obtain ⟨_,hx1,h⟩:=Qh h;refine Qc7 hl1 hA1 hl2 hA2 hl3 hA3 hl4 hA4 hl5 hA5 hx1 (fun _ hm_1=> ?_);replace hA1:=hA1.mono hm_1;replace hA2:=hA2.mono hm_1;replace hA3:=hA3.mono hm_1;replace hA4:=hA4.mono hm_1;replace hA5:=hA5.mono hm_1;refine Q0 7 E ?_;refine Br h 15 E E (fun hc1 h=> ?_) (fun hc1 h=> ?_)
 ·refine G2 7 [15] [] [] E ?_;cases h;exact Rt [] E E (Ug [[]] 2 (hR _ none 0 [] hm_1 Own.nil))
 refine G2 4 [] [15] [] E ?_;refine Cut h (fun f l o_ f_ μ_ l_=> ∃(v2:Bool),v2=o_∧Qk ((25,.bool v2)::Qr [2,3,4] f) f_∧Qe (QK [some 1,some 0] 2 l) l_) ?_ ?_
 ·intro _ h20467 h;refine G0 4 E ?_;refine Br h20467 19 E E (fun hc2 h20467=> ?_) (fun hc2 h20467=> ?_)
  ·refine G2 7 [19] [] [] E ?_;cases h20467;exact Ce E ⟨_,rfl,fE E,sE [some 1,some 0] 2 E⟩
  refine G2 7 [] [19] [1] E ?_;cases h20467;exact Ce E ⟨_,rfl,fE E,sE [some 1,some 0] 2 E⟩
 rintro _ _ _ _ h hm20467 ⟨v2,rfl,hF20467,hS20467⟩;replace hA1:=hA1.mono hm20467;replace hA2:=hA2.mono hm20467;replace hA3:=hA3.mono hm20467;replace hA4:=hA4.mono hm20467;replace hA5:=hA5.mono hm20467;refine Atn 2 hF20467 hS20467 E E ?_;refine Br h 25 E E (fun hc3 h=> ?_) (fun hc3 h=> ?_)
 ·refine G2 6 [25] [] [] E ?_;cases h;exact Rt [] E E (Ug [[]] 2 (hR _ none 0 [] (hm_1.trans hm20467) Own.nil))
 refine G2 8 [] [25] [1] E (Cl E ?_);obtain ⟨_,hx2,h⟩:=Qh h;refine WA hl5 (Qv.rds hA5 _) hx2 ((Q0 2 E ?_));refine Br h 30 E E (fun hc4 h=> ?_) (fun hc4 h=> ?_)
 ·refine G2 6 [30] [] [] E ?_;cases h;exact Rt [] E E (Ug [[]] 2 (hR _ none 0 [] (hm_1.trans hm20467) Own.nil))
 refine G2 14 [] [30] [0] E ?_;refine Cut h (fun f l o_ f_ μ_ l_=> ∃(out2:(List QJ)) (A8:Option Addr) (c8:Nat) (ch3:Seg),out2=o_∧Qk ((9,.slice A8 out2.length c8)::[]) f_∧Qe (ch3::QK [] 2 l) l_∧Own Ww 56 μ_ (.slice A8 out2.length c8) out2 ch3) ?_ ?_
 ·intro _ h20478 h;refine Lp h20478 (fun f l (j_:(List QJ)×Int) f_ μ_ l_=>Zt j_ fun out1 v3=> ∃(A6:Option Addr) (c6:Nat) (ch1:Seg),Qk ((9,.slice A6 out1.length c6)::(34,.int .i64 v3)::Qr [2,3,4,33] f) f_∧Qe ([(g1,.cells #[.int .i64 p1.Road.Nodes,.slice A1 p1.Road.Edges.length c1,.slice A2 p1.Vehicles.length c2,.slice A3 p1.Demands.length c3,.int .i64 p1.Unload,.int .i64 p1.UnloadSecs] 28 (0,0))]::[(g2,.cells #[.slice A4 x1.Tours.length c4,.slice A5 x1.Left.length c5] 33 (0,0))]::ch1::QK [] 2 l) l_∧Own Ww 56 μ_ (.slice A6 out1.length c6) out1 ch1) ⟨none,0,[],fE E,sE [some 0,some 1,none] 2 E,(Own.nil)⟩ ?_;rintro ⟨out1,v3⟩ _ _ _ _ hm20489 ⟨A6,c6,ch1,hF20489,hS20489,hO1⟩ hb20489 hq20489;unfold QbJ at hb20489;replace hb20489:=Qo hb20489;replace hA1:=hA1.mono hm20489;replace hA2:=hA2.mono hm20489;replace hA3:=hA3.mono hm20489;replace hA4:=hA4.mono hm20489;replace hA5:=hA5.mono hm20489;refine Atn 3 hF20489 hS20489 E E (G0 5 E ?_);refine Br hb20489 35 E E (fun hc5 hb20489=> ?_) (fun hc5 hb20489=> ?_)
  ·refine G2 16 [35] [] [0,1] E (Cl E ?_);obtain ⟨r3,hx3,hb20489⟩:=Qh hb20489;refine QeS hl1 hA1 hl2 hA2 hl3 hA3 hl4 hA4 hl5 hA5 hx3 (fun _ hm_2=> ?_);replace hO1:=hO1.mono hm_2;refine Q0 1 E (So E (Jc (z:=[.int .i64 0,.int .i64 0]) E E E E E E E (QW (cells':=[.int .i64 v3,.int .i64 r3]) E E E E (ZA (fun g3=>Q0 0 E (So E (Je E ?_)))))));obtain ⟨_,hz1,hb20489⟩:=Qh hb20489;refine J0 (r:=Ww) Q9 E E E E (by decide) E E 3 E hO1 E (Own.rds (Own.lit (r:=Ww) (e:=56) (g:=g3) (xs:=[(QJ.mk v3 r3)]) (cs:=[.int .i64 v3,.int .i64 r3]) (css:=[[.int .i64 v3,.int .i64 r3]]) E (All2.cons (E) (All2.nil)) E E) 0 E) hz1 fun A7 c7 ch2 hO2=>Q0 7 E ?_;cases hb20489;exact Ce E ⟨_,rfl,A7,c7,ch2,fE E,sE [some 1,some 2,some 3] 4 E,(hO2)⟩
  refine G2 2 [] [35] [] E ?_;cases hb20489;have hq_:=hq20489 _ E;subst hq_;exact Ce E ⟨_,A6,c6,ch1,rfl,fE E,sE [some 2] 3 E,(hO1)⟩
 rintro _ _ _ _ h hm20478 ⟨out2,A8,c8,ch3,rfl,hF20478,hS20478,hO3⟩;refine Atn 1 hF20478 hS20478 E E (G0 6 E ?_);cases h;exact Rt [] E E (Ug [[0]] 1 (hR _ A8 c8 ch3 (hm_1.trans (hm20467.trans hm20478)) hO3))
theorem Qa2  {a1:(List Int)} {b1:(List Int)} {A1:Option Addr} {c1:Nat} {A2:Option Addr} {c2:Nat} {res1:Bool}
  (hl1:a1.length≤c1∧c1≤maxLen) (hA1:Rds Yc μ L A1 a1) (hl2:b1.length≤c2∧c2≤maxLen) (hA2:Rds Yc μ L A2 b1) (h:Jw a1 b1=some res1)
  (hR:R (.bool res1) μ (L)) :
  Fn Tryz.prog 38 [.slice A1 a1.length c1,.slice A2 b1.length c2] μ (L) R:=by
 unfold Jw at h;refine FnS Tryz.func38 (by kernel_rfl) E Tryz.ntmps38 E E ?_;refine G0 13 E ?_;refine Br h 10 E E (fun hc1 h=> ?_) (fun hc1 h=> ?_)
 ·refine G2 5 [10] [] [] E ?_;cases h;exact Rt [] E E (Ug [] 0 hR)
 refine G2 7 [] [10] [] E ?_;refine Cut h (fun f l o_ f_ μ_ l_=>(.inl ())=o_∧Qk ([]) f_∧Qe l l_∧μ=μ_) ?_ ?_
 ·intro _ h20606 h;refine Lp h20606 (fun f l (i1:Int) f_ μ_ l_=>Qk ((5,.int .i64 i1)::Qr [0,1] f) f_∧Qe l l_∧μ=μ_) ⟨fE E,sE [] 0 E,E⟩ ?_;rintro i1 _ _ _ _ _ ⟨hF20608,hS20608,rfl⟩ hb20608 hq20608;unfold Jp at hb20608;refine Atn 0 hF20608 hS20608 E E (G0 8 E ?_);refine Br hb20608 14 E E (fun hc2 hb20608=> ?_) (fun hc2 hb20608=> ?_)
  ·refine G2 5 [14] [] [] E (Dr _ Qy.refl [(true,0),(true,1),(true,2),(true,3),(true,4),(true,5),(true,6),(true,7),(true,8)] (by kernel_rfl) (G0 2 E (Ix hb20608 hA1 E E fun _ _ _ _ hr1 hc3 _ hb20608=> ?_)));obtain rfl:=hr1;refine Q3 3 [] [] [64] (Z1 hc3) E (Ix hb20608 hA2 E E fun _ _ _ _ hr2 hc4 _ hb20608=> ?_);obtain rfl:=hr2;refine Q3 3 [] [] [64] (Z1 hc4) E ?_;refine Br hb20608 25 E E (fun hc5 hb20608=> ?_) (fun hc5 hb20608=> ?_)
   ·refine G2 5 [25] [] [] E ?_;cases hb20608;have hq_:=hq20608 _ E;subst hq_;replace h:=Zo h;cases h;exact Rt [] E E (Ug [] 0 hR)
   refine G2 8 [] [25] [] E ?_;cases hb20608;exact Ce E ⟨_,rfl,fE E,sE [] 0 E,rfl⟩
  refine G2 2 [] [14] [] E ?_;cases hb20608;have hq_:=hq20608 _ E;subst hq_;exact Ce E ⟨rfl,fE E,sE [] 0 E,rfl⟩
 rintro _ _ _ _ h _ ⟨rfl,hF20606,hS20606,rfl⟩;replace h:=Jj h;refine Atn 0 hF20606 hS20606 E E (G0 4 E ?_);cases h;exact Rt [] E E (Ug [] 0 hR)
theorem Qds  {a1:(List Qa)} {b1:(List Qa)} {A1:Option Addr} {c1:Nat} {A2:Option Addr} {c2:Nat} {res1:Bool}
  (hl1:a1.length≤c1∧c1≤maxLen) (hA1:Rds Qz μ L A1 a1) (hl2:b1.length≤c2∧c2≤maxLen) (hA2:Rds Qz μ L A2 b1) (h:Wl a1 b1=some res1)
  (hR:R (.bool res1) μ (L)) :
  Fn Tryz.prog 37 [.slice A1 a1.length c1,.slice A2 b1.length c2] μ (L) R:=by
 unfold Wl at h;refine FnS Tryz.func37 (by kernel_rfl) E Tryz.ntmps37 E E ?_;refine G0 13 E ?_;refine Br h 10 E E (fun hc1 h=> ?_) (fun hc1 h=> ?_)
 ·refine G2 5 [10] [] [] E ?_;cases h;exact Rt [] E E (Ug [] 0 hR)
 refine G2 7 [] [10] [] E ?_;refine Cut h (fun f l o_ f_ μ_ l_=>(.inl ())=o_∧Qk ([]) f_∧Qe l l_∧μ=μ_) ?_ ?_
 ·intro _ h20598 h;refine Lp h20598 (fun f l (i1:Int) f_ μ_ l_=>Qk ((5,.int .i64 i1)::Qr [0,1] f) f_∧Qe l l_∧μ=μ_) ⟨fE E,sE [] 0 E,E⟩ ?_;rintro i1 _ _ _ _ _ ⟨hF20630,hS20630,rfl⟩ hb20630 hq20630;unfold Jq at hb20630;refine Atn 0 hF20630 hS20630 E E (G0 8 E ?_);refine Br hb20630 14 E E (fun hc2 hb20630=> ?_) (fun hc2 hb20630=> ?_)
  ·refine G2 5 [14] [] [] E ?_;refine Cut hb20630 (fun f l o_ f_ μ_ l_=> ∃(v1:Bool),v1=o_∧Qk ((41,.bool v1)::Qr [0,1,5] f) f_∧Qe l l_∧μ=μ_) ?_ ?_
   ·intro _ h20639 hb20630;refine Dr _ Qy.refl [(true,0),(true,1),(true,2),(true,3),(true,4),(true,5),(true,6),(true,7),(true,8),(true,9),(true,10),(true,11),(true,12),(true,13),(true,14),(true,15),(true,16),(true,17),(true,18),(true,19),(true,20),(true,21),(false,22),(true,23),(true,24)] (by kernel_rfl) (G0 2 E (Ix h20639 hA1 E E fun _ _ _ _ hr1 hc3 _ h20639=> ?_));obtain ⟨_,_,rfl,_,_⟩:=hr1;refine Q3 4 [] [] [64] (Z1 hc3) E (Ix h20639 hA2 E E fun _ _ _ _ hr2 hc4 _ h20639=> ?_);obtain ⟨_,_,rfl,_,_⟩:=hr2;refine Q3 4 [] [] [64] (Z1 hc4) E ?_;refine Br h20639 28 E E (fun hc5 h20639=> ?_) (fun hc5 h20639=> ?_)
    ·refine G2 14 [28] [] [] E ?_;cases h20639;exact Ce E ⟨_,rfl,fE E,sE [] 0 E,rfl⟩
    refine G2 2 [] [28] [] E (Ix h20639 hA1 E E fun _ _ _ _ hr3 hc6 _ h20639=> ?_);obtain ⟨_,_,rfl,hl5,hA8⟩:=hr3;refine Q3 4 [] [28] [65] (Z1 hc6) E (Ix h20639 hA2 E E fun _ _ _ _ hr4 hc7 _ h20639=> ?_);obtain ⟨_,_,rfl,hl6,hA10⟩:=hr4;refine Q3 2 [] [28] [65] (Z1 hc7) E (Cl E ?_);obtain ⟨_,hx5,h20639⟩:=Qh h20639;refine Qa2 hl5 (Qv.rds hA8 _) hl6 (Qv.rds hA10 _) hx5 (?_);refine ⟨Qy.refl,?_⟩;refine Q2 3 [] [28] [] E ?_;cases h20639;exact Ce E ⟨_,rfl,fE E,sE [] 0 E,rfl⟩
   rintro _ _ _ _ hb20630 _ ⟨v1,rfl,hF20639,hS20639,rfl⟩;refine Atn 0 hF20639 hS20639 E E ?_;refine Br hb20630 41 E E (fun hc8 hb20630=> ?_) (fun hc8 hb20630=> ?_)
   ·refine G2 5 [41] [] [] E ?_;cases hb20630;have hq_:=hq20630 _ E;subst hq_;replace h:=Zo h;cases h;exact Rt [] E E (Ug [] 0 hR)
   refine G2 8 [] [41] [] E ?_;cases hb20630;exact Ce E ⟨_,rfl,fE E,sE [] 0 E,rfl⟩
  refine G2 2 [] [14] [] E ?_;cases hb20630;have hq_:=hq20630 _ E;subst hq_;exact Ce E ⟨rfl,fE E,sE [] 0 E,rfl⟩
 rintro _ _ _ _ h _ ⟨rfl,hF20598,hS20598,rfl⟩;replace h:=Jj h;refine Atn 0 hF20598 hS20598 E E (G0 4 E ?_);cases h;exact Rt [] E E (Ug [] 0 hR)
theorem VF  {a1:Qf} {b1:Qf} {A1:Option Addr} {c1:Nat} {A2:Option Addr} {c2:Nat} {A3:Option Addr} {c3:Nat} {A4:Option Addr} {c4:Nat} {res1:Bool}
  (hl1:a1.Tours.length≤c1∧c1≤maxLen) (hA1:Qv Qz μ A1 a1.Tours) (hl2:a1.Left.length≤c2∧c2≤maxLen) (hA2:Qv Yc μ A2 a1.Left) (hl3:b1.Tours.length≤c3∧c3≤maxLen) (hA3:Qv Qz μ A3 b1.Tours) (hl4:b1.Left.length≤c4∧c4≤maxLen) (hA4:Qv Yc μ A4 b1.Left) (h:Ys a1 b1=some res1)
  (hR:R (.bool res1) μ (L)) :
  Fn Tryz.prog 15 [.agg #[.slice A1 a1.Tours.length c1,.slice A2 a1.Left.length c2],.agg #[.slice A3 b1.Tours.length c3,.slice A4 b1.Left.length c4]] μ (L) R:=by
 unfold Ys at h;refine FnS Tryz.func15 (by kernel_rfl) E Tryz.ntmps15 E E ?_;refine G0 2 E (Al E fun _=>Q0 0 E (Al E fun _=>Q0 3 E ?_));refine Cut h (fun f l o_ f_ μ_ l_=> ∃(v1:Bool),v1=o_∧Qk ((4,.bool v1)::[]) f_∧Qe (QK [] 2 l) l_∧μ=μ_) ?_ ?_
 ·intro _ h20595 h;refine G1 5 [1,0] E (Cl E ?_);obtain ⟨_,hx1,h20595⟩:=Qh h20595;refine Qds hl1 (Qv.rds hA1 _) hl3 (Qv.rds hA3 _) hx1 ((Q0 1 E ?_));refine Br h20595 10 E E (fun hc1 h20595=> ?_) (fun hc1 h20595=> ?_)
  ·refine G2 4 [10] [] [1,0] E (Cl E ?_);obtain ⟨_,hx2,h20595⟩:=Qh h20595;refine Qa2 hl2 (Qv.rds hA2 _) hl4 (Qv.rds hA4 _) hx2 ((Q2 3 [10] [] [] E ?_));cases h20595;exact Ce E ⟨_,rfl,fE E,sE [] 2 E,rfl⟩
  refine G2 8 [] [10] [] E ?_;cases h20595;exact Ce E ⟨_,rfl,fE E,sE [] 2 E,rfl⟩
 rintro _ _ _ _ h _ ⟨v1,rfl,hF20595,hS20595,rfl⟩;refine Atn 0 hF20595 hS20595 E E ?_;cases h;exact Rt [] E E (Ug [] 0 hR)
theorem Vz  {a1:(List QJ)} {b1:(List QJ)} {A1:Option Addr} {c1:Nat} {A2:Option Addr} {c2:Nat} {res1:Bool}
  (hl1:a1.length≤c1∧c1≤maxLen) (hA1:Rds Ww μ L A1 a1) (hl2:b1.length≤c2∧c2≤maxLen) (hA2:Rds Ww μ L A2 b1) (h:Ye a1 b1=some res1)
  (hR:R (.bool res1) μ (L)) :
  Fn Tryz.prog 20 [.slice A1 a1.length c1,.slice A2 b1.length c2] μ (L) R:=by
 unfold Ye at h;refine FnS Tryz.func20 (by kernel_rfl) E Tryz.ntmps20 E E ?_;refine G0 13 E ?_;refine Br h 10 E E (fun hc1 h=> ?_) (fun hc1 h=> ?_)
 ·refine G2 5 [10] [] [] E ?_;cases h;exact Rt [] E E (Ug [] 0 hR)
 refine G2 9 [] [10] [] E ?_;refine Cut h (fun f l o_ f_ μ_ l_=>(.inl ())=o_∧Qk ([]) f_∧Qe l l_∧μ=μ_) ?_ ?_
 ·intro _ h20681 h;refine Lp h20681 (fun f l (v1:Int) f_ μ_ l_=>Qk ((13,.int .i64 v1)::Qr [0,1,12] f) f_∧Qe l l_∧μ=μ_) ⟨fE E,sE [] 0 E,E⟩ ?_;rintro v1 _ _ _ _ _ ⟨hF20683,hS20683,rfl⟩ hb20683 hq20683;unfold JZ at hb20683;refine Atn 0 hF20683 hS20683 E E (G0 5 E ?_);refine Br hb20683 14 E E (fun hc2 hb20683=> ?_) (fun hc2 hb20683=> ?_)
  ·refine G2 10 [14] [] [] E (Dr _ Qy.refl [(true,0),(true,1),(true,2),(true,3),(true,4),(true,5),(true,6),(true,7),(true,8)] (by kernel_rfl) (G0 2 E (Ix hb20683 hA1 E E fun x1 _ _ _ hr1 hc3 _ hb20683=> ?_)));obtain rfl:=hr1;refine Q3 3 [] [] [64] (Z1 hc3) E (Ix hb20683 hA2 E E fun x2 _ _ _ hr2 hc4 _ hb20683=> ?_);obtain rfl:=hr2;refine Q3 1 [] [] [64] (Z1 hc4) E (Rdo E E (Qis E E (Ex.mk _ (Qe2 x1 x2) (Q0 1 E ?_))));refine Br hb20683 24 E E (fun hc5 hb20683=> ?_) (fun hc5 hb20683=> ?_)
   ·refine G2 5 [24] [] [] E ?_;cases hb20683;have hq_:=hq20683 _ E;subst hq_;replace h:=Zo h;cases h;exact Rt [] E E (Ug [] 0 hR)
   refine G2 7 [] [24] [] E ?_;cases hb20683;exact Ce E ⟨_,rfl,fE E,sE [] 0 E,rfl⟩
  refine G2 2 [] [14] [] E ?_;cases hb20683;have hq_:=hq20683 _ E;subst hq_;exact Ce E ⟨rfl,fE E,sE [] 0 E,rfl⟩
 rintro _ _ _ _ h _ ⟨rfl,hF20681,hS20681,rfl⟩;replace h:=Jj h;refine Atn 0 hF20681 hS20681 E E (G0 4 E ?_);cases h;exact Rt [] E E (Ug [] 0 hR)
theorem Vu {F:Nat}   {res1:Bool}
   (h:Zp F=some res1)
  (hR: ∀(μ':Gh) ,μ.le μ'→R (.bool res1) μ' (L)) :
  Fn Tryz.prog 12 [] μ (L) R:=by
 unfold Zp at h;refine FnS Tryz.func12 (by kernel_rfl) E Tryz.ntmps12 E E ?_;refine G0 6 E (So E (Jc (z:=[.int .i64 0,.int .i64 0]) E E E E E E E (QW (cells':=[.int .i64 0,.int .i64 0]) E E E E (QW (cells':=[.int .i64 0,.int .i64 (-1)]) E E E E (ZA (fun g1=>Q0 1 E (So E (Jc (z:=[.int .i64 0,.slice none 0 0]) E E E E E E E (QW (cells':=[.int .i64 0,.slice (some ⟨g1,0,none⟩) 2 2]) E E E E (ZA (fun g2=>Q0 1 E (Al E fun g3=>Q1 4 [0] E (Cl E (FnS Tryz.func35 (by kernel_rfl) E Tryz.ntmps35 E E (G0 2 E (Al E fun g4=> ?_))))))))))))))));refine Q0 5 E (So E (Jc (z:=[.int .i64 0,.int .i64 0,.int .i64 0,.int .i64 0,.int .i64 0,.int .i64 0,.int .i64 0,.int .i64 0]) E E E E E E E (QW (cells':=[.int .i64 0,.int .i64 1,.int .i64 500,.int .i64 60,.int .i64 0,.int .i64 0,.int .i64 0,.int .i64 0]) E E E E (QW (cells':=[.int .i64 0,.int .i64 1,.int .i64 500,.int .i64 60,.int .i64 1,.int .i64 0,.int .i64 500,.int .i64 60]) E E E E (ZA (fun g5=>Q0 3 E (So E (Jc (z:=[.string ⟨#[]⟩,.int .i64 0,.int .i64 0,.int .i64 0,.int .i64 0,.int .i64 0]) E E E E E E E (QW (cells':=[.string ⟨#[118]⟩,.int .i64 0,.int .i64 1000,.int .i64 2000,.int .i64 1000,.int .i64 1]) E E E E (ZA (fun g6=>Q0 2 E (So E (Jc (z:=[.int .i64 0,.int .i64 0,.int .i64 0,.int .i64 0,.int .i64 0,.int .i64 0,.int .i64 0]) E E E E E E E ?_)))))))))))));refine QW (cells':=[.int .i64 0,.int .i64 1,.int .i64 0,.int .i64 300,.int .i64 1100,.int .i64 1200,.int .i64 30]) E E E E (ZA (fun g7=>Q1 3 [3] E (Rt [3] E E (Upd.done (Q0 0 E (Cl E ?_))))));have hl1:[(QG.mk 0 1 500 60),(QG.mk 1 0 500 60)].length≤2∧2≤maxLen:=⟨Nat.le_refl _,by unfold maxLen;omega⟩
 refine Fn.pre Tryz.func13 (by kernel_rfl) E (Upd.frzOwn 2 E (Own.lit (r:=QS) (e:=106) (g:=g5) (xs:=[(QG.mk 0 1 500 60),(QG.mk 1 0 500 60)]) (cs:=[.int .i64 0,.int .i64 1,.int .i64 500,.int .i64 60,.int .i64 1,.int .i64 0,.int .i64 500,.int .i64 60]) (css:=[[.int .i64 0,.int .i64 1,.int .i64 500,.int .i64 60],[.int .i64 1,.int .i64 0,.int .i64 500,.int .i64 60]]) E (All2.cons (E) (All2.cons (E) (All2.nil))) E E) fun _ hm_1 hA1=>Upd.done ?_);have hl2:[(Qn.mk ⟨#[118]⟩ 0 (QA.mk 1000 2000) 1000 1)].length≤1∧1≤maxLen:=⟨Nat.le_refl _,by unfold maxLen;omega⟩
 refine Fn.pre Tryz.func13 (by kernel_rfl) E (Upd.frzOwn 1 E (Own.lit (r:=QE) (e:=61) (g:=g6) (xs:=[(Qn.mk ⟨#[118]⟩ 0 (QA.mk 1000 2000) 1000 1)]) (cs:=[.string ⟨#[118]⟩,.int .i64 0,.int .i64 1000,.int .i64 2000,.int .i64 1000,.int .i64 1]) (css:=[[.string ⟨#[118]⟩,.int .i64 0,.int .i64 1000,.int .i64 2000,.int .i64 1000,.int .i64 1]]) E (All2.cons (E) (All2.nil)) E E) fun _ hm_2 hA2=>Upd.done ?_);replace hA1:=hA1.mono hm_2;have hl3:[(Qt.mk 0 1 0 300 (QA.mk 1100 1200) 30)].length≤1∧1≤maxLen:=⟨Nat.le_refl _,by unfold maxLen;omega⟩
 refine Fn.pre Tryz.func13 (by kernel_rfl) E (Upd.frzOwn 0 E (Own.lit (r:=QL) (e:=63) (g:=g7) (xs:=[(Qt.mk 0 1 0 300 (QA.mk 1100 1200) 30)]) (cs:=[.int .i64 0,.int .i64 1,.int .i64 0,.int .i64 300,.int .i64 1100,.int .i64 1200,.int .i64 30]) (css:=[[.int .i64 0,.int .i64 1,.int .i64 0,.int .i64 300,.int .i64 1100,.int .i64 1200,.int .i64 30]]) E (All2.cons (E) (All2.nil)) E E) fun _ hm_3 hA3=>Upd.done ?_);replace hA1:=hA1.mono hm_3;replace hA2:=hA2.mono hm_3;obtain ⟨⟨r1,_⟩,hx1,h⟩:=Qh h;replace h:=Qo h;refine Qbk hl1 hA1 hl2 hA2 hl3 hA3 hx1 (fun _ A1 c1 A2 c2 hm_4 hl4 hA4 hl5 hA5=> ?_);refine Q0 3 E (Al E fun g8=>Q1 5 [0] E (Cl E (FnS Tryz.func35 (by kernel_rfl) E Tryz.ntmps35 E E (G0 2 E (Al E fun g9=>Q0 5 E (So E (Jc (z:=[.int .i64 0,.int .i64 0,.int .i64 0,.int .i64 0,.int .i64 0,.int .i64 0,.int .i64 0,.int .i64 0]) E E E E E E E (QW (cells':=[.int .i64 0,.int .i64 1,.int .i64 500,.int .i64 60,.int .i64 0,.int .i64 0,.int .i64 0,.int .i64 0]) E E E E (QW (cells':=[.int .i64 0,.int .i64 1,.int .i64 500,.int .i64 60,.int .i64 1,.int .i64 0,.int .i64 500,.int .i64 60]) E E E E (ZA (fun g10=>Q0 3 E (So E (Jc (z:=[.string ⟨#[]⟩,.int .i64 0,.int .i64 0,.int .i64 0,.int .i64 0,.int .i64 0]) E E E E E E E (QW (cells':=[.string ⟨#[118]⟩,.int .i64 0,.int .i64 1000,.int .i64 2000,.int .i64 1000,.int .i64 1]) E E E E ?_))))))))))))));refine ZA (fun g11=>Q0 2 E (So E (Jc (z:=[.int .i64 0,.int .i64 0,.int .i64 0,.int .i64 0,.int .i64 0,.int .i64 0,.int .i64 0]) E E E E E E E (QW (cells':=[.int .i64 0,.int .i64 1,.int .i64 0,.int .i64 300,.int .i64 1100,.int .i64 1200,.int .i64 30]) E E E E (ZA (fun g12=>Q1 3 [3] E (Rt [3] E E (Upd.done (Q0 0 E (So E (Jc (z:=[.int .i64 0]) E E E E E E E (QW (cells':=[.int .i64 0]) E E E E (ZA (fun g13=>Q0 1 E (Cl E ?_)))))))))))))));have hl6:[(QG.mk 0 1 500 60),(QG.mk 1 0 500 60)].length≤2∧2≤maxLen:=⟨Nat.le_refl _,by unfold maxLen;omega⟩
 refine Fn.pre Tryz.func16 (by kernel_rfl) E (Upd.frzOwn 3 E (Own.lit (r:=QS) (e:=106) (g:=g10) (xs:=[(QG.mk 0 1 500 60),(QG.mk 1 0 500 60)]) (cs:=[.int .i64 0,.int .i64 1,.int .i64 500,.int .i64 60,.int .i64 1,.int .i64 0,.int .i64 500,.int .i64 60]) (css:=[[.int .i64 0,.int .i64 1,.int .i64 500,.int .i64 60],[.int .i64 1,.int .i64 0,.int .i64 500,.int .i64 60]]) E (All2.cons (E) (All2.cons (E) (All2.nil))) E E) fun _ hm_5 hA6=>Upd.done ?_);replace hA4:=hA4.mono hm_5;replace hA5:=hA5.mono hm_5;have hl7:[(Qn.mk ⟨#[118]⟩ 0 (QA.mk 1000 2000) 1000 1)].length≤1∧1≤maxLen:=⟨Nat.le_refl _,by unfold maxLen;omega⟩
 refine Fn.pre Tryz.func16 (by kernel_rfl) E (Upd.frzOwn 2 E (Own.lit (r:=QE) (e:=61) (g:=g11) (xs:=[(Qn.mk ⟨#[118]⟩ 0 (QA.mk 1000 2000) 1000 1)]) (cs:=[.string ⟨#[118]⟩,.int .i64 0,.int .i64 1000,.int .i64 2000,.int .i64 1000,.int .i64 1]) (css:=[[.string ⟨#[118]⟩,.int .i64 0,.int .i64 1000,.int .i64 2000,.int .i64 1000,.int .i64 1]]) E (All2.cons (E) (All2.nil)) E E) fun _ hm_6 hA7=>Upd.done ?_);replace hA4:=hA4.mono hm_6;replace hA5:=hA5.mono hm_6;replace hA6:=hA6.mono hm_6;have hl8:[(Qt.mk 0 1 0 300 (QA.mk 1100 1200) 30)].length≤1∧1≤maxLen:=⟨Nat.le_refl _,by unfold maxLen;omega⟩
 refine Fn.pre Tryz.func16 (by kernel_rfl) E (Upd.frzOwn 1 E (Own.lit (r:=QL) (e:=63) (g:=g12) (xs:=[(Qt.mk 0 1 0 300 (QA.mk 1100 1200) 30)]) (cs:=[.int .i64 0,.int .i64 1,.int .i64 0,.int .i64 300,.int .i64 1100,.int .i64 1200,.int .i64 30]) (css:=[[.int .i64 0,.int .i64 1,.int .i64 0,.int .i64 300,.int .i64 1100,.int .i64 1200,.int .i64 30]]) E (All2.cons (E) (All2.nil)) E E) fun _ hm_7 hA8=>Upd.done ?_);replace hA4:=hA4.mono hm_7;replace hA5:=hA5.mono hm_7;replace hA6:=hA6.mono hm_7;replace hA7:=hA7.mono hm_7;have hl9:[0].length≤1∧1≤maxLen:=⟨Nat.le_refl _,by unfold maxLen;omega⟩
 refine Fn.pre Tryz.func16 (by kernel_rfl) E (Upd.frzOwn 0 E (Own.lit (r:=Yc) (e:=3) (g:=g13) (xs:=[0]) (cs:=[.int .i64 0]) (css:=[[.int .i64 0]]) E (All2.cons (E) (All2.nil)) E E) fun _ hm_8 hA9=>Upd.done ?_);replace hA4:=hA4.mono hm_8;replace hA5:=hA5.mono hm_8;replace hA6:=hA6.mono hm_8;replace hA7:=hA7.mono hm_8;replace hA8:=hA8.mono hm_8;obtain ⟨⟨_,_⟩,hx2,h⟩:=Qh h;replace h:=Qo h;refine QaW hl6 hA6 hl7 hA7 hl8 hA8 ⟨Nat.le_refl _,Nat.zero_le _⟩ Qv.nil hl9 hA9 hx2 (fun _ _ _ ch1 hm_9 hO1=> ?_);replace hA4:=hA4.mono hm_9;replace hA5:=hA5.mono hm_9;refine Q0 8 E (Cl E (FnS Tryz.func35 (by kernel_rfl) E Tryz.ntmps35 E E (G0 2 E (Al E fun g14=>Q0 5 E (So E (Jc (z:=[.int .i64 0,.int .i64 0,.int .i64 0,.int .i64 0,.int .i64 0,.int .i64 0,.int .i64 0,.int .i64 0]) E E E E E E E (QW (cells':=[.int .i64 0,.int .i64 1,.int .i64 500,.int .i64 60,.int .i64 0,.int .i64 0,.int .i64 0,.int .i64 0]) E E E E (QW (cells':=[.int .i64 0,.int .i64 1,.int .i64 500,.int .i64 60,.int .i64 1,.int .i64 0,.int .i64 500,.int .i64 60]) E E E E (ZA (fun g15=>Q0 3 E (So E (Jc (z:=[.string ⟨#[]⟩,.int .i64 0,.int .i64 0,.int .i64 0,.int .i64 0,.int .i64 0]) E E E E E E E (QW (cells':=[.string ⟨#[118]⟩,.int .i64 0,.int .i64 1000,.int .i64 2000,.int .i64 1000,.int .i64 1]) E E E E ?_)))))))))))));refine ZA (fun g16=>Q0 2 E (So E (Jc (z:=[.int .i64 0,.int .i64 0,.int .i64 0,.int .i64 0,.int .i64 0,.int .i64 0,.int .i64 0]) E E E E E E E (QW (cells':=[.int .i64 0,.int .i64 1,.int .i64 0,.int .i64 300,.int .i64 1100,.int .i64 1200,.int .i64 30]) E E E E (ZA (fun g17=>Q1 3 [3] E (Rt [3] E E (Upd.done (Q0 0 E (So E (Jc (z:=[.int .i64 0]) E E E E E E E (QW (cells':=[.int .i64 0]) E E E E (ZA (fun g18=>Q0 1 E (Cl E ?_)))))))))))))));have hl10:[(QG.mk 0 1 500 60),(QG.mk 1 0 500 60)].length≤2∧2≤maxLen:=⟨Nat.le_refl _,by unfold maxLen;omega⟩
 refine Fn.pre Tryz.func18 (by kernel_rfl) E (Upd.frzOwn 3 E (Own.lit (r:=QS) (e:=106) (g:=g15) (xs:=[(QG.mk 0 1 500 60),(QG.mk 1 0 500 60)]) (cs:=[.int .i64 0,.int .i64 1,.int .i64 500,.int .i64 60,.int .i64 1,.int .i64 0,.int .i64 500,.int .i64 60]) (css:=[[.int .i64 0,.int .i64 1,.int .i64 500,.int .i64 60],[.int .i64 1,.int .i64 0,.int .i64 500,.int .i64 60]]) E (All2.cons (E) (All2.cons (E) (All2.nil))) E E) fun _ hm_10 hA10=>Upd.done ?_);replace hA4:=hA4.mono hm_10;replace hA5:=hA5.mono hm_10;replace hO1:=hO1.mono hm_10;have hl11:[(Qn.mk ⟨#[118]⟩ 0 (QA.mk 1000 2000) 1000 1)].length≤1∧1≤maxLen:=⟨Nat.le_refl _,by unfold maxLen;omega⟩
 refine Fn.pre Tryz.func18 (by kernel_rfl) E (Upd.frzOwn 2 E (Own.lit (r:=QE) (e:=61) (g:=g16) (xs:=[(Qn.mk ⟨#[118]⟩ 0 (QA.mk 1000 2000) 1000 1)]) (cs:=[.string ⟨#[118]⟩,.int .i64 0,.int .i64 1000,.int .i64 2000,.int .i64 1000,.int .i64 1]) (css:=[[.string ⟨#[118]⟩,.int .i64 0,.int .i64 1000,.int .i64 2000,.int .i64 1000,.int .i64 1]]) E (All2.cons (E) (All2.nil)) E E) fun _ hm_11 hA11=>Upd.done ?_);replace hA4:=hA4.mono hm_11;replace hA5:=hA5.mono hm_11;replace hO1:=hO1.mono hm_11;replace hA10:=hA10.mono hm_11;have hl12:[(Qt.mk 0 1 0 300 (QA.mk 1100 1200) 30)].length≤1∧1≤maxLen:=⟨Nat.le_refl _,by unfold maxLen;omega⟩
 refine Fn.pre Tryz.func18 (by kernel_rfl) E (Upd.frzOwn 1 E (Own.lit (r:=QL) (e:=63) (g:=g17) (xs:=[(Qt.mk 0 1 0 300 (QA.mk 1100 1200) 30)]) (cs:=[.int .i64 0,.int .i64 1,.int .i64 0,.int .i64 300,.int .i64 1100,.int .i64 1200,.int .i64 30]) (css:=[[.int .i64 0,.int .i64 1,.int .i64 0,.int .i64 300,.int .i64 1100,.int .i64 1200,.int .i64 30]]) E (All2.cons (E) (All2.nil)) E E) fun _ hm_12 hA12=>Upd.done ?_);replace hA4:=hA4.mono hm_12;replace hA5:=hA5.mono hm_12;replace hO1:=hO1.mono hm_12;replace hA10:=hA10.mono hm_12;replace hA11:=hA11.mono hm_12;have hl13:[0].length≤1∧1≤maxLen:=⟨Nat.le_refl _,by unfold maxLen;omega⟩
 refine Fn.pre Tryz.func18 (by kernel_rfl) E (Upd.frzOwn 0 E (Own.lit (r:=Yc) (e:=3) (g:=g18) (xs:=[0]) (cs:=[.int .i64 0]) (css:=[[.int .i64 0]]) E (All2.cons (E) (All2.nil)) E E) fun _ hm_13 hA13=>Upd.done ?_);replace hA4:=hA4.mono hm_13;replace hA5:=hA5.mono hm_13;replace hO1:=hO1.mono hm_13;replace hA10:=hA10.mono hm_13;replace hA11:=hA11.mono hm_13;replace hA12:=hA12.mono hm_13;obtain ⟨⟨_,_⟩,hx3,h⟩:=Qh h;replace h:=Qo h;refine QbI hl10 hA10 hl11 hA11 hl12 hA12 ⟨Nat.le_refl _,Nat.zero_le _⟩ Qv.nil hl13 hA13 hx3 (fun v14 _ _ ch2 hm_14 hO2=> ?_);replace hA4:=hA4.mono hm_14;replace hA5:=hA5.mono hm_14;replace hO1:=hO1.mono hm_14;refine Q0 8 E (Cl E (FnS Tryz.func35 (by kernel_rfl) E Tryz.ntmps35 E E (G0 2 E (Al E fun g19=>Q0 5 E (So E (Jc (z:=[.int .i64 0,.int .i64 0,.int .i64 0,.int .i64 0,.int .i64 0,.int .i64 0,.int .i64 0,.int .i64 0]) E E E E E E E (QW (cells':=[.int .i64 0,.int .i64 1,.int .i64 500,.int .i64 60,.int .i64 0,.int .i64 0,.int .i64 0,.int .i64 0]) E E E E (QW (cells':=[.int .i64 0,.int .i64 1,.int .i64 500,.int .i64 60,.int .i64 1,.int .i64 0,.int .i64 500,.int .i64 60]) E E E E (ZA (fun g20=>Q0 3 E (So E (Jc (z:=[.string ⟨#[]⟩,.int .i64 0,.int .i64 0,.int .i64 0,.int .i64 0,.int .i64 0]) E E E E E E E (QW (cells':=[.string ⟨#[118]⟩,.int .i64 0,.int .i64 1000,.int .i64 2000,.int .i64 1000,.int .i64 1]) E E E E ?_)))))))))))));refine ZA (fun g21=>Q0 2 E (So E (Jc (z:=[.int .i64 0,.int .i64 0,.int .i64 0,.int .i64 0,.int .i64 0,.int .i64 0,.int .i64 0]) E E E E E E E (QW (cells':=[.int .i64 0,.int .i64 1,.int .i64 0,.int .i64 300,.int .i64 1100,.int .i64 1200,.int .i64 30]) E E E E (ZA (fun g22=>Q1 3 [3] E (Rt [3] E E (Upd.done (Q0 0 E (Al E fun g23=>Q1 6 [0,0] E (IxA h (Own.rds (Own.lit (r:=QE) (e:=61) (g:=g21) (xs:=[(Qn.mk ⟨#[118]⟩ 0 (QA.mk 1000 2000) 1000 1)]) (cs:=[.string ⟨#[118]⟩,.int .i64 0,.int .i64 1000,.int .i64 2000,.int .i64 1000,.int .i64 1]) (css:=[[.string ⟨#[118]⟩,.int .i64 0,.int .i64 1000,.int .i64 2000,.int .i64 1000,.int .i64 1]]) E (All2.cons (E) (All2.nil)) E E) 2 E) E E fun x1 _ _ hx4 hr1 _ hA14 h=> ?_)))))))))));obtain rfl:=hr1;refine Q0 1 E (So E (QZ (vs:=[.int .i64 299]) rfl rfl rfl rfl rfl rfl (Own.store (μ:=v14) (r:=QE) (x':=(Qn.mk x1.ID x1.Depot x1.Shift 299 x1.Kinds)) (o:=4) (sz:=6) 2 rfl (Own.lit (r:=QE) (e:=61) (g:=g21) (xs:=[(Qn.mk ⟨#[118]⟩ 0 (QA.mk 1000 2000) 1000 1)]) (cs:=[.string ⟨#[118]⟩,.int .i64 0,.int .i64 1000,.int .i64 2000,.int .i64 1000,.int .i64 1]) (css:=[[.string ⟨#[118]⟩,.int .i64 0,.int .i64 1000,.int .i64 2000,.int .i64 1000,.int .i64 1]]) rfl (All2.cons (rfl) (All2.nil)) rfl rfl) hA14 hx4 rfl rfl (by rintro _ rfl;rfl) fun _ hO3=>Q1 4 [0] E (Cl E ?_))));have hl14:[(QG.mk 0 1 500 60),(QG.mk 1 0 500 60)].length≤2∧2≤maxLen:=⟨Nat.le_refl _,by unfold maxLen;omega⟩
 refine Fn.pre Tryz.func13 (by kernel_rfl) E (Upd.frzOwn 3 E (Own.lit (r:=QS) (e:=106) (g:=g20) (xs:=[(QG.mk 0 1 500 60),(QG.mk 1 0 500 60)]) (cs:=[.int .i64 0,.int .i64 1,.int .i64 500,.int .i64 60,.int .i64 1,.int .i64 0,.int .i64 500,.int .i64 60]) (css:=[[.int .i64 0,.int .i64 1,.int .i64 500,.int .i64 60],[.int .i64 1,.int .i64 0,.int .i64 500,.int .i64 60]]) E (All2.cons (E) (All2.cons (E) (All2.nil))) E E) fun _ hm_15 hA15=>Upd.done ?_);replace hA4:=hA4.mono hm_15;replace hA5:=hA5.mono hm_15;replace hO1:=hO1.mono hm_15;replace hO2:=hO2.mono hm_15;replace hO3:=hO3.mono hm_15;have hl15:=Own.lenOk hO3;refine Fn.pre Tryz.func13 (by kernel_rfl) E (Upd.frzOwn 2 E hO3 fun _ hm_16 hA16=>Upd.done ?_);replace hA4:=hA4.mono hm_16;replace hA5:=hA5.mono hm_16;replace hO1:=hO1.mono hm_16;replace hO2:=hO2.mono hm_16;replace hA15:=hA15.mono hm_16;have hl16:[(Qt.mk 0 1 0 300 (QA.mk 1100 1200) 30)].length≤1∧1≤maxLen:=⟨Nat.le_refl _,by unfold maxLen;omega⟩
 refine Fn.pre Tryz.func13 (by kernel_rfl) E (Upd.frzOwn 1 E (Own.lit (r:=QL) (e:=63) (g:=g22) (xs:=[(Qt.mk 0 1 0 300 (QA.mk 1100 1200) 30)]) (cs:=[.int .i64 0,.int .i64 1,.int .i64 0,.int .i64 300,.int .i64 1100,.int .i64 1200,.int .i64 30]) (css:=[[.int .i64 0,.int .i64 1,.int .i64 0,.int .i64 300,.int .i64 1100,.int .i64 1200,.int .i64 30]]) E (All2.cons (E) (All2.nil)) E E) fun _ hm_17 hA17=>Upd.done ?_);replace hA4:=hA4.mono hm_17;replace hA5:=hA5.mono hm_17;replace hO1:=hO1.mono hm_17;replace hO2:=hO2.mono hm_17;replace hA15:=hA15.mono hm_17;replace hA16:=hA16.mono hm_17;obtain ⟨⟨r7,_⟩,hx5,h⟩:=Qh h;replace h:=Qo h;refine Qbk (p1:=(Qd.mk (QM.mk 2 [(QG.mk 0 1 500 60),(QG.mk 1 0 500 60)]) (Yh [(Qn.mk ⟨#[118]⟩ 0 (QA.mk 1000 2000) 1000 1)] 0 (Qn.mk x1.ID x1.Depot x1.Shift 299 x1.Kinds)) [(Qt.mk 0 1 0 300 (QA.mk 1100 1200) 30)] 0 20)) hl14 hA15 hl15 hA16 hl16 hA17 hx5 (fun _ A5 c5 A6 c6 hm_18 hl17 hA18 hl18 hA19=> ?_);replace hA4:=hA4.mono hm_18;replace hA5:=hA5.mono hm_18;replace hO1:=hO1.mono hm_18;replace hO2:=hO2.mono hm_18;replace hA15:=hA15.mono hm_18;replace hA16:=hA16.mono hm_18;replace hA17:=hA17.mono hm_18;refine Q0 3 E (Al E fun g24=>Q1 7 [0,1,0] E (Cl E ?_));obtain ⟨⟨_,_⟩,hx6,h⟩:=Qh h;replace h:=Qo h;refine QbI (p1:=(Qd.mk (QM.mk 2 [(QG.mk 0 1 500 60),(QG.mk 1 0 500 60)]) (Yh [(Qn.mk ⟨#[118]⟩ 0 (QA.mk 1000 2000) 1000 1)] 0 (Qn.mk x1.ID x1.Depot x1.Shift 299 x1.Kinds)) [(Qt.mk 0 1 0 300 (QA.mk 1100 1200) 30)] 0 20)) hl14 hA15 hl15 hA16 hl16 hA17 hl17 hA18 hl18 hA19 hx6 (fun _ _ _ ch4 hm_19 hO4=> ?_);replace hA4:=hA4.mono hm_19;replace hA5:=hA5.mono hm_19;replace hO1:=hO1.mono hm_19;replace hO2:=hO2.mono hm_19;replace hA18:=hA18.mono hm_19;replace hA19:=hA19.mono hm_19;refine Q0 7 E ?_;refine Cut h (fun f l o_ f_ μ_ l_=> ∃(v23:Bool),v23=o_∧Qk ((0,.bool v23)::[]) f_∧Qe (QK [] 27 l) l_) ?_ ?_
 ·intro _ h21081 h;have hl19:[0,(-1)].length≤2∧2≤maxLen:=⟨Nat.le_refl _,by unfold maxLen;omega⟩
  refine KS.upd E (Upd.frzOwn 26 E (Own.lit (r:=Yc) (e:=3) (g:=g1) (xs:=[0,(-1)]) (cs:=[.int .i64 0,.int .i64 (-1)]) (css:=[[.int .i64 0],[.int .i64 (-1)]]) E (All2.cons (E) (All2.cons (E) (All2.nil))) E E) fun _ hm_20 hA20=>Upd.done ?_);replace hA4:=hA4.mono hm_20;replace hA5:=hA5.mono hm_20;replace hO1:=hO1.mono hm_20;replace hO2:=hO2.mono hm_20;replace hA18:=hA18.mono hm_20;replace hA19:=hA19.mono hm_20;replace hO4:=hO4.mono hm_20;have hl20:[(Qa.mk 0 [0,(-1)])].length≤1∧1≤maxLen:=⟨Nat.le_refl _,by unfold maxLen;omega⟩
  refine KS.upd E (Upd.frzOwn 25 E (Own.lit (r:=Qz) (e:=51) (g:=g2) (xs:=[(Qa.mk 0 [0,(-1)])]) (cs:=[.int .i64 0,.slice (some ⟨g1,0,none⟩) 2 2]) (css:=[[.int .i64 0,.slice (some ⟨g1,0,none⟩) 2 2]]) E (All2.cons (⟨(some ⟨g1,0,none⟩),2,E,hl19,hA20⟩) (All2.nil)) E E) fun _ hm_21 hA21=>Upd.done ?_);replace hA4:=hA4.mono hm_21;replace hA5:=hA5.mono hm_21;replace hO1:=hO1.mono hm_21;replace hO2:=hO2.mono hm_21;replace hA18:=hA18.mono hm_21;replace hA19:=hA19.mono hm_21;replace hO4:=hO4.mono hm_21;refine Dr _ Qy.refl [(true,0),(true,1),(false,2),(true,3),(true,4),(true,5),(true,6),(true,7),(true,8),(true,9),(true,10),(true,11),(true,12),(true,13),(true,14),(true,15),(true,16),(false,17),(true,18),(true,19),(true,20),(true,21),(true,22),(true,23),(true,24),(true,25),(false,26),(false,27),(true,28),(true,29),(true,30),(true,31),(true,32),(true,33),(true,34),(false,35),(true,36),(false,37),(true,38),(true,39),(true,40),(true,41),(true,42),(true,43),(true,44),(true,45),(false,46),(false,47),(true,48),(true,49),(true,50),(true,51),(true,52),(true,53)] (by kernel_rfl) (G1 2 [19,24] E (Cl E ?_));obtain ⟨_,hx7,h21081⟩:=Qh h21081;refine VF hl4 hA4 hl5 hA5 hl20 hA21 ⟨Nat.le_refl _,Nat.zero_le _⟩ Qv.nil hx7 (?_);refine ⟨Qy.refl,?_⟩;refine Q0 1 E ?_;refine Br h21081 55 E E (fun hc2 h21081=> ?_) (fun hc2 h21081=> ?_)
  ·refine G2 4 [55] [] [] E ?_;refine Br h21081 59 E E (fun hc3 h21081=> ?_) (fun hc3 h21081=> ?_)
   ·refine G2 5 [59] [] [] E ?_;refine Br h21081 64 E E (fun hc4 h21081=> ?_) (fun hc4 h21081=> ?_)
    ·refine G2 1 [64] [] [] E (Ix h21081 (Own.rds (L:=(ch4::[(g24,.cells #[.slice A5 r7.Tours.length c5,.slice A6 r7.Left.length c6] 33 (0,0))]::[(g23,.cells #[.int .i64 2,.slice (some ⟨g20,0,none⟩) 2 2,.slice (some ⟨g21,0,none⟩) 1 1,.slice (some ⟨g22,0,none⟩) 1 1,.int .i64 0,.int .i64 20] 28 (0,0))]::[]::[]::[]::[(g19,.cells #[.int .i64 2,.slice (some ⟨g20,0,none⟩) 2 2,.slice (some ⟨g21,0,none⟩) 1 1,.slice (some ⟨g22,0,none⟩) 1 1,.int .i64 0,.int .i64 20] 28 (0,0))]::ch2::[]::[]::[]::[]::[(g14,.cells #[.int .i64 2,.slice (some ⟨g15,0,none⟩) 2 2,.slice (some ⟨g16,0,none⟩) 1 1,.slice (some ⟨g17,0,none⟩) 1 1,.int .i64 0,.int .i64 20] 28 (0,0))]::ch1::[]::[]::[]::[]::[(g9,.cells #[.int .i64 2,.slice (some ⟨g10,0,none⟩) 2 2,.slice (some ⟨g11,0,none⟩) 1 1,.slice (some ⟨g12,0,none⟩) 1 1,.int .i64 0,.int .i64 20] 28 (0,0))]::[(g8,.cells #[.slice A1 r1.Tours.length c1,.slice A2 r1.Left.length c2] 33 (0,0))]::[]::[]::[]::[(g4,.cells #[.int .i64 2,.slice (some ⟨g5,0,none⟩) 2 2,.slice (some ⟨g6,0,none⟩) 1 1,.slice (some ⟨g7,0,none⟩) 1 1,.int .i64 0,.int .i64 20] 28 (0,0))]::[(g3,.cells #[.slice (some ⟨g2,0,none⟩) 1 1,.slice none 0 0] 33 (0,0))]::[]::[]::L)) hO1 13 E) E E fun _ _ _ _ hr2 hc5 _ h21081=> ?_);obtain ⟨_,_,_,_,rfl,hl21,hA23,hl22,hA24⟩:=hr2;refine Q3 2 [64] [] [64,24] (Z1 hc5) E (Cl E ?_);obtain ⟨_,hx9,h21081⟩:=Qh h21081;refine VF hl21 hA23 hl22 hA24 hl20 hA21 ⟨Nat.le_refl _,Nat.zero_le _⟩ Qv.nil hx9 (?_);refine ⟨Qy.refl,?_⟩;refine Q2 2 [64] [] [] E ?_;refine Br h21081 71 E E (fun hc6 h21081=> ?_) (fun hc6 h21081=> ?_)
     ·refine G2 4 [71] [] [] E ?_;refine Br h21081 75 E E (fun hc7 h21081=> ?_) (fun hc7 h21081=> ?_)
      ·refine G2 2 [75] [] [] E (So E (Jc (z:=[.int .i64 0,.int .i64 0]) E E E E E E E (QW (cells':=[.int .i64 0,.int .i64 0]) E E E E (ZA (fun g25=> ?_)))));refine ⟨Qy.more (Qy.refl),?_⟩;refine Q0 0 E (Cl E ?_);obtain ⟨_,hx10,h21081⟩:=Qh h21081;refine Vz (Own.lenOk hO2) (Own.rds hO2 8 E) (QhH (c:=1) E E) (Own.rds (Own.lit (r:=Ww) (e:=56) (g:=g25) (xs:=[(QJ.mk 0 0)]) (cs:=[.int .i64 0,.int .i64 0]) (css:=[[.int .i64 0,.int .i64 0]]) E (All2.cons (E) (All2.nil)) E E) 0 E) hx10 (?_);refine ⟨Qy.more (Qy.refl),?_⟩;refine Q2 2 [75] [] [] E ?_;refine Br h21081 81 E E (fun hc8 h21081=> ?_) (fun hc8 h21081=> ?_)
       ·refine G2 4 [81] [] [] E ?_;refine Br h21081 85 E E (fun hc9 h21081=> ?_) (fun hc9 h21081=> ?_)
        ·refine G2 1 [85] [] [1] E (So E (Jc (z:=[.int .i64 0]) E E E E E E E (QW (cells':=[.int .i64 0]) E E E E (ZA (fun g26=> ?_)))));refine ⟨Qy.more (Qy.more (Qy.refl)),?_⟩;refine Q2 1 [85] [] [] E (Cl E ?_);have hl23:[0].length≤1∧1≤maxLen:=⟨Nat.le_refl _,by unfold maxLen;omega⟩
         refine Fn.pre Tryz.func15 (by kernel_rfl) E (Upd.frzOwn 0 E (Own.lit (r:=Yc) (e:=3) (g:=g26) (xs:=[0]) (cs:=[.int .i64 0]) (css:=[[.int .i64 0]]) E (All2.cons (E) (All2.nil)) E E) fun _ hm_22 hA25=>Upd.done ?_);replace hA18:=hA18.mono hm_22;replace hA19:=hA19.mono hm_22;replace hO4:=hO4.mono hm_22;obtain ⟨_,hx11,h21081⟩:=Qh h21081;refine VF hl17 hA18 hl18 hA19 ⟨Nat.le_refl _,Nat.zero_le _⟩ Qv.nil hl23 hA25 hx11 (?_);refine ⟨Qy.more (Qy.more (Qy.refl)),?_⟩;refine Q2 2 [85] [] [] E ?_;refine Br h21081 91 E E (fun hc10 h21081=> ?_) (fun hc10 h21081=> ?_)
         ·refine G2 4 [91] [] [] E ?_;refine Br h21081 95 E E (fun hc11 h21081=> ?_) (fun hc11 h21081=> ?_)
          ·refine G2 2 [95] [] [] E (So E (Jc (z:=[.int .i64 0,.int .i64 0]) E E E E E E E (QW (cells':=[.int .i64 0,.int .i64 20]) E E E E (ZA (fun g27=> ?_)))));refine ⟨Qy.more (Qy.more (Qy.more (Qy.refl))),?_⟩;refine Q0 0 E (Cl E ?_);obtain ⟨_,hx12,h21081⟩:=Qh h21081;refine Vz (Own.lenOk hO4) (Own.rds hO4 3 E) (QhH (c:=1) E E) (Own.rds (Own.lit (r:=Ww) (e:=56) (g:=g27) (xs:=[(QJ.mk 0 20)]) (cs:=[.int .i64 0,.int .i64 20]) (css:=[[.int .i64 0,.int .i64 20]]) E (All2.cons (E) (All2.nil)) E E) 0 E) hx12 (?_);refine ⟨Qy.more (Qy.more (Qy.more (Qy.refl))),?_⟩;refine Q2 2 [95] [] [] E ?_;refine Br h21081 101 E E (fun hc12 h21081=> ?_) (fun hc12 h21081=> ?_)
           ·refine G2 5 [101] [] [] E ?_;cases h21081;exact Ce E ⟨_,rfl,fE E,sE [] 30 E⟩
           refine G2 5 [] [101] [] E ?_;cases h21081;exact Ce E ⟨_,rfl,fE E,sE [] 30 E⟩
          refine G2 11 [] [95,101] [] E ?_;cases h21081;exact Ce E ⟨_,rfl,fE E,sE [] 29 E⟩
         refine G2 15 [] [91,95,101] [] E ?_;cases h21081;exact Ce E ⟨_,rfl,fE E,sE [] 29 E⟩
        refine G2 21 [] [85,91,95,101] [] E ?_;cases h21081;exact Ce E ⟨_,rfl,fE E,sE [] 28 E⟩
       refine G2 25 [] [81,85,91,95,101] [] E ?_;cases h21081;exact Ce E ⟨_,rfl,fE E,sE [] 28 E⟩
      refine G2 31 [] [75,81,85,91,95,101] [] E ?_;cases h21081;exact Ce E ⟨_,rfl,fE E,sE [] 27 E⟩
     refine G2 35 [] [71,75,81,85,91,95,101] [] E ?_;cases h21081;exact Ce E ⟨_,rfl,fE E,sE [] 27 E⟩
    refine G2 42 [] [64,71,75,81,85,91,95,101] [] E ?_;cases h21081;exact Ce E ⟨_,rfl,fE E,sE [] 27 E⟩
   refine G2 47 [] [59,64,71,75,81,85,91,95,101] [] E ?_;cases h21081;exact Ce E ⟨_,rfl,fE E,sE [] 27 E⟩
  refine G2 51 [] [55,59,64,71,75,81,85,91,95,101] [] E ?_;cases h21081;exact Ce E ⟨_,rfl,fE E,sE [] 27 E⟩
 rintro _ _ _ _ h hm21081 ⟨v23,rfl,hF21081,hS21081⟩;refine Atn 0 hF21081 hS21081 E E ?_;cases h;exact Rt [] E E (Ug [] 0 (hR _ (hm_1.trans (hm_2.trans (hm_3.trans (hm_4.trans (hm_5.trans (hm_6.trans (hm_7.trans (hm_8.trans (hm_9.trans (hm_10.trans (hm_11.trans (hm_12.trans (hm_13.trans (hm_14.trans (hm_15.trans (hm_16.trans (hm_17.trans (hm_18.trans (hm_19.trans hm21081)))))))))))))))))))))
end Go.Proofs.YthpgjbbjpfiniaaGreat
namespace Go.Proofs.YthpgjbbjpfiniaaGreat
open Go.RowKit
set_option linter.unusedSimpArgs false
set_option linter.unusedVariables false
set_option maxHeartbeats 2000000
set_option maxRecDepth 4000
attribute [local irreducible] WP ZH QaL Fn AN Upd vcR vcO Qc9 JE Jb Qbd Qbm QcW QbU Vg QcN Qy KS
variable {μ:Gh} {L:List Seg} {R:Value→Gh→List Seg→Prop}
theorem QbD  {x1:Qf} {v1:Int} {A1:Option Addr} {c1:Nat} {A2:Option Addr} {c2:Nat} {res1:Qa}
  (hl1:x1.Tours.length≤c1∧c1≤maxLen) (hA1:Qv Qz μ A1 x1.Tours) (hl2:x1.Left.length≤c2∧c2≤maxLen) (hA2:Qv Yc μ A2 x1.Left) (h:J8 x1 v1=some res1)
  (hR: ∀(A0_1:Option Addr) (c0_1:Nat),(res1.Stops.length≤c0_1∧c0_1≤maxLen)→Qv Yc μ A0_1 res1.Stops→R (.agg #[.int .i64 res1.Vehicle,.slice A0_1 res1.Stops.length c0_1]) μ (L)) :
  Fn Tryz.prog 24 [.agg #[.slice A1 x1.Tours.length c1,.slice A2 x1.Left.length c2],.int .i64 v1] μ (L) R:=by
 unfold J8 at h;refine FnS Tryz.func24 (by kernel_rfl) E Tryz.ntmps24 E E ?_;refine G0 2 E (Al E fun _=>Q0 0 E (Al E fun _=>Q1 9 [1] E ?_));refine Cut h (fun f l o_ f_ μ_ l_=>(.inl ())=o_∧Qk (Qr [1,4] f) f_∧Qe (QK [some 0] 2 l) l_∧μ=μ_) ?_ ?_
 ·intro _ h24224 h;refine Lp h24224 (fun f l (v2:Int) f_ μ_ l_=>Qk ((10,.int .i64 v2)::Qr [1,4,8,9] f) f_∧Qe (QK [some 0] 2 l) l_∧μ=μ_) ⟨fE E,sE [some 0] 2 E,E⟩ ?_;rintro v2 _ _ _ _ _ ⟨hF24235,hS24235,rfl⟩ hb24235 hq24235;unfold QbE at hb24235;refine Atn 1 hF24235 hS24235 E E (G0 5 E ?_);refine Br hb24235 11 E E (fun hc1 hb24235=> ?_) (fun hc1 hb24235=> ?_)
  ·refine G2 6 [11] [] [] E (Ix hb24235 (Qv.rds hA1 L) E E fun _ _ _ _ hr1 hc2 _ hb24235=> ?_);obtain ⟨A3,c3,rfl,hl3,hA4⟩:=hr1;refine Q3 1 [] [] [64] (Z1 (hc2.push)) E (Al E fun _=>Q1 9 [0,0] E ?_);refine Br hb24235 17 E E (fun hc3 hb24235=> ?_) (fun hc3 hb24235=> ?_)
   ·refine G2 6 [17] [] [0,1] E ?_;cases hb24235;have hq_:=hq24235 _ E;subst hq_;replace h:=Zo h;cases h;exact Rt [1] E E (Ug [] 2 (hR A3 c3 hl3 hA4))
   refine G2 7 [] [17] [] E ?_;cases hb24235;exact Ce E ⟨_,rfl,fE E,sE [some 1] 2 E,rfl⟩
  refine G2 2 [] [11] [] E ?_;cases hb24235;have hq_:=hq24235 _ E;subst hq_;exact Ce E ⟨rfl,fE E,sE [some 0] 1 E,rfl⟩
 rintro _ _ _ _ h _ ⟨rfl,hF24224,hS24224,rfl⟩;replace h:=Jj h;refine Atn 1 hF24224 hS24224 E E (G1 6 [0] E ?_);cases h;exact Rt [0] E E (Ug [] 1 (hR none 0 ⟨Nat.le_refl _,Nat.zero_le _⟩ Qv.nil))
end Go.Proofs.YthpgjbbjpfiniaaGreat
namespace Go.Proofs.YthpgjbbjpfiniaaGreat
open Go.RowKit
set_option linter.unusedSimpArgs false
set_option linter.unusedVariables false
set_option maxHeartbeats 2000000
set_option maxRecDepth 4000
attribute [local irreducible] WP ZH QaL Fn AN Upd vcR vcO Qc9 JE Jb Qbd Qbm QcW QbU Vg QcN Qy KS
variable {μ:Gh} {L:List Seg} {R:Value→Gh→List Seg→Prop}
theorem QaA {F:Nat} {p1:Qd} {A1:Option Addr} {c1:Nat} {A2:Option Addr} {c2:Nat} {A3:Option Addr} {c3:Nat} {res1:Bool}
  (hl1:p1.Road.Edges.length≤c1∧c1≤maxLen) (hA1:Qv QS μ A1 p1.Road.Edges) (hl2:p1.Vehicles.length≤c2∧c2≤maxLen) (hA2:Qv QE μ A2 p1.Vehicles) (hl3:p1.Demands.length≤c3∧c3≤maxLen) (hA3:Qv QL μ A3 p1.Demands) (h:YB F p1=some res1)
  (hR: ∀(μ':Gh) ,μ.le μ'→R (.bool res1) μ' (L)) :
  Fn Tryz.prog 6 [.agg #[.int .i64 p1.Road.Nodes,.slice A1 p1.Road.Edges.length c1,.slice A2 p1.Vehicles.length c2,.slice A3 p1.Demands.length c3,.int .i64 p1.Unload,.int .i64 p1.UnloadSecs]] μ (L) R:=by
 unfold YB at h;refine FnS Tryz.func6 (by kernel_rfl) E Tryz.ntmps6 E E ?_;refine G0 2 E (Al E fun g1=>Q1 7 [0] E (Cl E ?_));obtain ⟨_,hx1,h⟩:=Qh h;refine Qc4 hl1 hA1 hl2 hA2 hl3 hA3 ⟨Nat.le_refl _,Nat.zero_le _⟩ Qv.nil ⟨Nat.le_refl _,Nat.zero_le _⟩ Qv.nil hx1 ((Q0 1 E ?_));refine Br h 16 E E (fun hc1 h=> ?_) (fun hc1 h=> ?_)
 ·refine G2 3 [16] [] [] E (Cl E ?_);obtain ⟨_,hx2,h⟩:=Qh h;refine Vu  hx2 (fun _ hm_1=> ?_);replace hA1:=hA1.mono hm_1;replace hA2:=hA2.mono hm_1;replace hA3:=hA3.mono hm_1;refine Q0 2 E ?_;cases h;exact Rt [] E E (Ug [] 1 (hR _ hm_1))
 refine G2 5 [] [16] [0] E (Cl E ?_);obtain ⟨⟨r3,_⟩,hx3,h⟩:=Qh h;replace h:=Qo h;refine Qbk hl1 hA1 hl2 hA2 hl3 hA3 hx3 (fun _ A4 c4 A5 c5 hm_2 hl4 hA4 hl5 hA5=> ?_);replace hA1:=hA1.mono hm_2;replace hA2:=hA2.mono hm_2;replace hA3:=hA3.mono hm_2;refine Q0 3 E (Al E fun g2=>Q1 9 [0] E ?_);refine Br h 24 E E (fun hc2 h=> ?_) (fun hc2 h=> ?_)
 ·refine G2 2 [24] [] [] E ?_;refine Cut h (fun f l o_ f_ μ_ l_=> ∃(v5:Bool),v5=o_∧Qk ((2,.bool v5)::[]) f_∧Qe (QK [] 2 l) l_) ?_ ?_
  ·intro _ h26616 h;refine G1 3 [1] E (Cl E ?_);obtain ⟨_,hx4,h26616⟩:=Qh h26616;refine VS hl1 hA1 hl2 hA2 hl3 hA3 hx4 (fun _ hm_3=> ?_);replace hA1:=hA1.mono hm_3;replace hA2:=hA2.mono hm_3;replace hA3:=hA3.mono hm_3;replace hA4:=hA4.mono hm_3;replace hA5:=hA5.mono hm_3;refine Q0 2 E ?_;refine Br h26616 29 E E (fun hc3 h26616=> ?_) (fun hc3 h26616=> ?_)
   ·refine G2 6 [29] [] [0] E ?_;refine Br h26616 35 E E (fun hc4 h26616=> ?_) (fun hc4 h26616=> ?_)
    ·refine G2 6 [35] [] [0] E ?_;refine Br h26616 41 E E (fun hc5 h26616=> ?_) (fun hc5 h26616=> ?_)
     ·refine Cl E ?_;obtain ⟨_,hx5,h26616⟩:=Qh h26616;refine Vu  hx5 (fun _ hm_4=> ?_);replace hA1:=hA1.mono hm_4;replace hA2:=hA2.mono hm_4;replace hA3:=hA3.mono hm_4;replace hA4:=hA4.mono hm_4;replace hA5:=hA5.mono hm_4;refine Q2 3 [41] [] [] E ?_;cases h26616;exact Ce E ⟨_,rfl,fE E,sE [] 2 E⟩
     refine G2 4 [] [41] [] E ?_;cases h26616;exact Ce E ⟨_,rfl,fE E,sE [] 2 E⟩
    refine G2 10 [] [35,41] [] E ?_;cases h26616;exact Ce E ⟨_,rfl,fE E,sE [] 2 E⟩
   refine G2 16 [] [29,35,41] [] E ?_;cases h26616;exact Ce E ⟨_,rfl,fE E,sE [] 2 E⟩
  rintro _ _ _ _ h hm26616 ⟨v5,rfl,hF26616,hS26616⟩;replace hA1:=hA1.mono hm26616;replace hA2:=hA2.mono hm26616;replace hA3:=hA3.mono hm26616;replace hA4:=hA4.mono hm26616;replace hA5:=hA5.mono hm26616;refine Atn 0 hF26616 hS26616 E E ?_;cases h;exact Rt [] E E (Ug [] 0 (hR _ (hm_2.trans hm26616)))
 refine G2 6 [] [24] [1,0] E (Cl E ?_);obtain ⟨⟨_,_⟩,hx6,h⟩:=Qh h;replace h:=Qo h;refine QaW hl1 hA1 hl2 hA2 hl3 hA3 hl4 hA4 hl5 hA5 hx6 (fun _ _ _ _ hm_5 _=> ?_);replace hA1:=hA1.mono hm_5;replace hA2:=hA2.mono hm_5;replace hA3:=hA3.mono hm_5;replace hA4:=hA4.mono hm_5;replace hA5:=hA5.mono hm_5;refine Q0 8 E ?_;refine Cut h (fun f l o_ f_ μ_ l_=> ∃(v8:Bool),v8=o_∧Qk ((62,.bool v8)::Qr [1,3] f) f_∧Qe (QK [some 2,some 1] 3 l) l_) ?_ ?_
 ·intro _ h26618 h;refine G1 3 [2,1] E (Cl E ?_);obtain ⟨_,hx7,h26618⟩:=Qh h26618;refine Qc7 hl1 hA1 hl2 hA2 hl3 hA3 hl4 hA4 hl5 hA5 hx7 (fun _ hm_6=> ?_);replace hA1:=hA1.mono hm_6;replace hA2:=hA2.mono hm_6;replace hA3:=hA3.mono hm_6;replace hA4:=hA4.mono hm_6;replace hA5:=hA5.mono hm_6;refine Q0 2 E ?_;refine Br h26618 54 E E (fun hc6 h26618=> ?_) (fun hc6 h26618=> ?_)
  ·refine G2 9 [54,58] [] [] E ?_;cases h26618;exact Ce E ⟨_,rfl,fE E,sE [some 2,some 1] 3 E⟩
  refine G2 4 [] [54] [] E ?_;refine Br h26618 58 E E (fun hc7 h26618=> ?_) (fun hc7 h26618=> ?_)
  ·refine G2 5 [58] [] [] E ?_;cases h26618;exact Ce E ⟨_,rfl,fE E,sE [some 2,some 1] 3 E⟩
  refine G2 5 [] [58] [] E ?_;cases h26618;exact Ce E ⟨_,rfl,fE E,sE [some 2,some 1] 3 E⟩
 rintro _ _ _ _ h hm26618 ⟨v8,rfl,hF26618,hS26618⟩;replace hA1:=hA1.mono hm26618;replace hA2:=hA2.mono hm26618;replace hA3:=hA3.mono hm26618;replace hA4:=hA4.mono hm26618;replace hA5:=hA5.mono hm26618;refine Atn 2 hF26618 hS26618 E E ?_;refine Br h 62 E E (fun hc8 h=> ?_) (fun hc8 h=> ?_)
 ·refine G2 5 [62] [] [] E ?_;cases h;exact Rt [] E E (Ug [] 2 (hR _ (hm_2.trans (hm_5.trans hm26618))))
 refine G2 10 [] [62] [1] E ?_;refine Cut h (fun f l o_ f_ μ_ l_=>(.inl ())=o_∧Qk ([]) f_∧Qe (QK [] 2 l) l_) ?_ ?_
 ·intro _ h26623 h;refine Lp h26623 (fun f l (v9:Int) f_ μ_ l_=>Qk ((66,.int .i64 v9)::Qr [1,3,64,65] f) f_∧Qe l l_) ⟨fE E,sE [some 0,some 1] 2 E⟩ ?_;rintro v9 _ _ _ _ hm26811 ⟨hF26811,hS26811⟩ hb26811 hq26811;unfold YT at hb26811;replace hA1:=hA1.mono hm26811;replace hA2:=hA2.mono hm26811;replace hA3:=hA3.mono hm26811;replace hA4:=hA4.mono hm26811;replace hA5:=hA5.mono hm26811;refine Atn 2 hF26811 hS26811 E E (G0 5 E ?_);refine Br hb26811 67 E E (fun hc9 hb26811=> ?_) (fun hc9 hb26811=> ?_)
  ·refine G2 3 [67] [] [] E ?_;refine Cut hb26811 (fun f l o_ f_ μ_ l_=>(.inl ())=o_∧Qk (Qr [1,3,64,65,66] f) f_∧Qe l l_) ?_ ?_
   ·intro _ h26818 hb26811;refine G0 3 E (Ix h26818 (Qv.rds hA5 L) E E fun x1 _ _ _ hr1 hc10 _ h26818=> ?_);obtain rfl:=hr1;refine Q3 8 [] [] [64,0,1] (Z1 (hc10.push.push)) E (Cl E ?_);obtain ⟨⟨_,_⟩,hx9,h26818⟩:=Qh h26818;replace h26818:=Qo h26818;refine QbI hl1 hA1 hl2 hA2 hl3 hA3 hl4 hA4 hl5 hA5 hx9 (fun _ _ _ ch2 hm_7 hO2=> ?_);replace hA1:=hA1.mono hm_7;replace hA2:=hA2.mono hm_7;replace hA3:=hA3.mono hm_7;replace hA4:=hA4.mono hm_7;replace hA5:=hA5.mono hm_7;refine Q0 8 E ?_;refine Cut h26818 (fun f l o_ f_ μ_ l_=> ∃(v11:Bool),v11=o_∧Qk ((86,.bool v11)::Qr [1,3,8,9,64,65,66] f) f_∧Qe (QK [some 1,some 2,some 0] 3 l) l_) ?_ ?_
    ·intro _ h26820 h26818;refine G0 4 E ?_;refine Br h26820 79 E E (fun hc11 h26820=> ?_) (fun hc11 h26820=> ?_)
     ·refine G2 8 [79] [] [] E ?_;cases h26820;exact Ce E ⟨_,rfl,fE E,sE [some 1,some 2,some 0] 3 E⟩
     refine G2 8 [] [79] [1] E ?_;cases h26820;exact Ce E ⟨_,rfl,fE E,sE [some 1,some 2,some 0] 3 E⟩
    rintro _ _ _ _ h26818 hm26820 ⟨v11,rfl,hF26820,hS26820⟩;replace hA1:=hA1.mono hm26820;replace hA2:=hA2.mono hm26820;replace hA3:=hA3.mono hm26820;replace hA4:=hA4.mono hm26820;replace hA5:=hA5.mono hm26820;replace hO2:=hO2.mono hm26820;refine Atn 3 hF26820 hS26820 E E ?_;refine Br h26818 86 E E (fun hc12 h26818=> ?_) (fun hc12 h26818=> ?_)
    ·refine G2 5 [86] [] [] E ?_;cases h26818;replace hb26811:=Zo hb26811;cases hb26811;have hq_:=hq26811 _ E;subst hq_;replace h:=Zo h;cases h;exact Rt [] E E (Ug [] 3 (hR _ (hm_2.trans (hm_5.trans (hm26618.trans (hm26811.trans (hm_7.trans hm26820)))))))
    refine G2 9 [] [86] [0] E ?_;refine Cut h26818 (fun f l o_ f_ μ_ l_=>(.inl ())=o_∧Qk (Qr [1,3,64,65,66] f) f_∧Qe (QK [some 0,some 1] 3 l) l_) ?_ ?_
    ·intro _ h26825 h26818;refine Lp h26825 (fun f l (v12:Int) f_ μ_ l_=>Qk ((90,.int .i64 v12)::Qr [1,3,8,9,64,65,66,89] f) f_∧Qe l l_) ⟨fE E,sE [some 0,some 1,some 2] 3 E⟩ ?_;rintro v12 _ _ _ _ hm26908 ⟨hF26908,hS26908⟩ hb26908 hq26908;unfold Yb at hb26908;replace hA1:=hA1.mono hm26908;replace hA2:=hA2.mono hm26908;replace hA3:=hA3.mono hm26908;replace hA4:=hA4.mono hm26908;replace hA5:=hA5.mono hm26908;replace hO2:=hO2.mono hm26908;refine Atn 3 hF26908 hS26908 E E (G0 5 E ?_);refine Br hb26908 91 E E (fun hc13 hb26908=> ?_) (fun hc13 hb26908=> ?_)
     ·refine G2 10 [91] [] [] E ?_;refine Cut hb26908 (fun f l o_ f_ μ_ l_=> ∃(h_1:Int),h_1=o_∧Qk ((13,.int .i64 h_1)::Qr [1,3,8,9,11,64,65,66,89,90] f) f_∧Qe l l_) ?_ ?_
      ·intro _ h26938 hb26908;refine Cd (WP.draw (id:=18) Qel _ Qy.refl E (AN.run (fuel:=8) (listed':=[true,true,true,false,true,false,false,false,false,false,false,false]) Q9 [(true,0),(true,1),(true,2),(true,4)] (by kernel_rfl) (by kernel_rfl) E (Vl E (ZG E E E E (LA_ (vs:=[.int .i64 p1.Road.Nodes,.slice A1 p1.Road.Edges.length c1,.slice A2 p1.Vehicles.length c2,.slice A3 p1.Demands.length c3,.int .i64 p1.Unload,.int .i64 p1.UnloadSecs]) 0 0 E E E E (Pt E E (ZG E E E E (LA_ (vs:=[.slice A4 r3.Tours.length c4,.slice A5 r3.Left.length c5]) 1 0 E E E E (Pt E E (Qw E (Pt E E (Qw E (QI E (JN ?_))))))))))))));refine Qmx Q9 (a:=3) (b:=9) (by kernel_rfl) ?_ ?_
       ·refine FO_ E E (Qal (all:=[.agg #[.slice A4 r3.Tours.length c4,.slice A5 r3.Left.length c5],.int .i64 v12]) E E E ?_);obtain ⟨r12,hx10,h26938⟩:=Qh h26938;refine QbD hl4 hA4 hl5 hA5 hx10 (fun A8 c8 hl6 hA7=> ?_);refine ⟨Qy.refl,?_⟩;apply QI;exact rfl;refine Qmx Q9 (a:=5) (b:=9) (by kernel_rfl) ?_ ?_
        ·refine FO_ E E (Qal (all:=[.agg #[.int .i64 p1.Road.Nodes,.slice A1 p1.Road.Edges.length c1,.slice A2 p1.Vehicles.length c2,.slice A3 p1.Demands.length c3,.int .i64 p1.Unload,.int .i64 p1.UnloadSecs],.agg #[.int .i64 r12.Vehicle,.slice A8 r12.Stops.length c8],.int .i64 x1]) E E E ?_);obtain ⟨⟨r13,r14⟩,hx11,h26938⟩:=Qh h26938;replace h26938:=Qo h26938;refine WR hl1 hA1 hl2 hA2 hl3 hA3 hl6 hA7 hx11 (fun v13 A9 c9 hm_8 hl7 hA8=> ?_);replace hA1:=hA1.mono hm_8;replace hA2:=hA2.mono hm_8;replace hA3:=hA3.mono hm_8;replace hA4:=hA4.mono hm_8;replace hA5:=hA5.mono hm_8;replace hO2:=hO2.mono hm_8;replace hA7:=hA7.mono hm_8;refine ⟨Qy.refl,?_⟩;refine QI E (AN.run (fuel:=0) (listed':=[true,true,true,true,true,true,true,true,true,true,true,true]) Q9 [(true,6),(true,7),(true,8),(false,9),(false,10),(true,11)] (by kernel_rfl) (by kernel_rfl) E (Vl E (Qw E (Pt E E (Qb9 E E (Pt E E (Qb9 E E (QI E (Qa7 E (Qaw (cs:= #[.int .i64 0,.slice none 0 0]) E E (fun g3=> ?_)))))))))));refine ⟨Qy.more (Qy.refl),?_⟩;refine QI E (Qa7 E (QZ (vs:=[.int .i64 r13.Vehicle,.slice A9 r13.Stops.length c9]) E E E E E E (ST_ (L':=([(g3,.cells #[.int .i64 r13.Vehicle,.slice A9 r13.Stops.length c9] 51 (0,0))]::[(g1,.cells #[.int .i64 p1.Road.Nodes,.slice A1 p1.Road.Edges.length c1,.slice A2 p1.Vehicles.length c2,.slice A3 p1.Demands.length c3,.int .i64 p1.Unload,.int .i64 p1.UnloadSecs] 28 (0,0))]::[(g2,.cells #[.slice A4 r3.Tours.length c4,.slice A5 r3.Left.length c5] 33 (0,0))]::ch2::L)) 0 0 E E E E ?_)));refine ⟨Qy.more (Qy.refl),?_⟩;refine Zu (Vl E (Qan E (QI E (JN (AN.done0 (by kernel_rfl) ?_)))));cases h26938;exact Ce E ⟨_,rfl,fE E,sE [some 1,some 2,some 3] 4 E⟩
        obtain ⟨⟨r13,r14⟩,hx11,h26938⟩:=Qh h26938;replace h26938:=Qo h26938;refine FO_ E E (Qaw (cs:= #[.int .i64 0,.slice none 0 0]) E E (fun g3=> ?_));refine ⟨Qy.more (Qy.refl),?_⟩;refine QI E (AN.run (fuel:=0) (listed':=[true,true,true,true,true,true,true,true,true,true,true,true]) Q9 [(false,5),(true,6),(true,7),(true,8),(false,10),(true,11)] (by kernel_rfl) (by kernel_rfl) E (Qa7 E (Qal (all:=[.agg #[.int .i64 p1.Road.Nodes,.slice A1 p1.Road.Edges.length c1,.slice A2 p1.Vehicles.length c2,.slice A3 p1.Demands.length c3,.int .i64 p1.Unload,.int .i64 p1.UnloadSecs],.agg #[.int .i64 r12.Vehicle,.slice A8 r12.Stops.length c8],.int .i64 x1]) E E E (WR hl1 hA1 hl2 hA2 hl3 hA3 hl6 hA7 hx11 (fun v13 A9 c9 hm_8 hl7 hA8=> ?_)))));replace hA1:=hA1.mono hm_8;replace hA2:=hA2.mono hm_8;replace hA3:=hA3.mono hm_8;replace hA4:=hA4.mono hm_8;replace hA5:=hA5.mono hm_8;replace hO2:=hO2.mono hm_8;replace hA7:=hA7.mono hm_8;refine ⟨Qy.more (Qy.refl),?_⟩;refine Pt E E (Qw E (Pt E E (Qb9 E E (Pt E E (Qb9 E E (QI E (Qa7 E (QZ (vs:=[.int .i64 r13.Vehicle,.slice A9 r13.Stops.length c9]) E E E E E E (ST_ (L':=([(g3,.cells #[.int .i64 r13.Vehicle,.slice A9 r13.Stops.length c9] 51 (0,0))]::[(g1,.cells #[.int .i64 p1.Road.Nodes,.slice A1 p1.Road.Edges.length c1,.slice A2 p1.Vehicles.length c2,.slice A3 p1.Demands.length c3,.int .i64 p1.Unload,.int .i64 p1.UnloadSecs] 28 (0,0))]::[(g2,.cells #[.slice A4 r3.Tours.length c4,.slice A5 r3.Left.length c5] 33 (0,0))]::ch2::L)) 0 0 E E E E ?_)))))))));refine ⟨Qy.more (Qy.refl),?_⟩;refine Zu (Vl E (Qan E (QI E (JN (AN.done0 (by kernel_rfl) ?_)))));cases h26938;exact Ce E ⟨_,rfl,fE E,sE [some 1,some 2,some 3] 4 E⟩
       obtain ⟨r12,hx10,h26938⟩:=Qh h26938;obtain ⟨⟨r13,r14⟩,hx11,h26938⟩:=Qh h26938;replace h26938:=Qo h26938;refine FO_ E E (Qaw (cs:= #[.int .i64 0,.slice none 0 0]) E E (fun g3=> ?_));refine ⟨Qy.more (Qy.refl),?_⟩;refine QI E (AN.run (fuel:=0) (listed':=[true,true,true,true,true,true,true,true,true,true,true,true]) Q9 [(false,3),(false,5),(true,6),(true,7),(true,8),(false,10),(true,11)] (by kernel_rfl) (by kernel_rfl) E (Qa7 E (Qal (all:=[.agg #[.slice A4 r3.Tours.length c4,.slice A5 r3.Left.length c5],.int .i64 v12]) E E E (QbD hl4 hA4 hl5 hA5 hx10 (fun A8 c8 hl6 hA7=> ?_)))));refine ⟨Qy.more (Qy.refl),?_⟩;refine QI E (Qa7 E (Qal (all:=[.agg #[.int .i64 p1.Road.Nodes,.slice A1 p1.Road.Edges.length c1,.slice A2 p1.Vehicles.length c2,.slice A3 p1.Demands.length c3,.int .i64 p1.Unload,.int .i64 p1.UnloadSecs],.agg #[.int .i64 r12.Vehicle,.slice A8 r12.Stops.length c8],.int .i64 x1]) E E E (WR hl1 hA1 hl2 hA2 hl3 hA3 hl6 hA7 hx11 (fun v13 A9 c9 hm_8 hl7 hA8=> ?_))));replace hO2:=hO2.mono hm_8;refine ⟨Qy.more (Qy.refl),?_⟩;refine Pt E E (Qw E (Pt E E (Qb9 E E (Pt E E (Qb9 E E (QI E (Qa7 E (QZ (vs:=[.int .i64 r13.Vehicle,.slice A9 r13.Stops.length c9]) E E E E E E (ST_ (L':=([(g3,.cells #[.int .i64 r13.Vehicle,.slice A9 r13.Stops.length c9] 51 (0,0))]::[(g1,.cells #[.int .i64 p1.Road.Nodes,.slice A1 p1.Road.Edges.length c1,.slice A2 p1.Vehicles.length c2,.slice A3 p1.Demands.length c3,.int .i64 p1.Unload,.int .i64 p1.UnloadSecs] 28 (0,0))]::[(g2,.cells #[.slice A4 r3.Tours.length c4,.slice A5 r3.Left.length c5] 33 (0,0))]::ch2::L)) 0 0 E E E E ?_)))))))));refine ⟨Qy.more (Qy.refl),?_⟩;refine Zu (Vl E (Qan E (QI E (JN (AN.done0 (by kernel_rfl) ?_)))));cases h26938;exact Ce E ⟨_,rfl,fE E,sE [some 1,some 2,some 3] 4 E⟩
      rintro _ _ _ _ hb26908 hm26938 ⟨h_1,rfl,hF26938,hS26938⟩;replace hO2:=hO2.mono hm26938;refine Atn 3 hF26938 hS26938 E E (G0 1 E ?_);refine Cut hb26908 (fun f l o_ f_ μ_ l_=> ∃(v14:Bool),v14=o_∧Qk ((120,.bool v14)::Qr [1,3,8,9,64,65,66,89,90] f) f_∧Qe l l_) ?_ ?_
      ·intro _ h26985 hb26908;refine G0 4 E ?_;refine Br h26985 104 E E (fun hc14 h26985=> ?_) (fun hc14 h26985=> ?_)
       ·refine G2 17 [104,113] [] [] E ?_;cases h26985;exact Ce E ⟨_,rfl,fE E,sE [some 0,some 1,some 2] 3 E⟩
       refine G2 2 [] [104] [] E (IxA h26985 (Own.rds hO2 2 E) E E fun _ _ _ _ hr2 hc15 _ h26985=> ?_);obtain rfl:=hr2;refine Q3 6 [] [104] [64] (Z1 hc15) E ?_;refine Br h26985 113 E E (fun hc16 h26985=> ?_) (fun hc16 h26985=> ?_)
       ·refine G2 8 [113] [] [] E ?_;cases h26985;exact Ce E ⟨_,rfl,fE E,sE [some 0,some 1,some 2] 3 E⟩
       refine G2 2 [] [113] [] E (IxA h26985 (Own.rds hO2 2 E) E E fun _ _ _ _ hr3 hc17 _ h26985=> ?_);obtain rfl:=hr3;refine Q3 5 [] [113] [65] (Z1 hc17) E ?_;cases h26985;exact Ce E ⟨_,rfl,fE E,sE [some 0,some 1,some 2] 3 E⟩
      rintro _ _ _ _ hb26908 hm26985 ⟨v14,rfl,hF26985,hS26985⟩;refine Atn 3 hF26985 hS26985 E E ?_;refine Br hb26908 120 E E (fun hc18 hb26908=> ?_) (fun hc18 hb26908=> ?_)
      ·refine G2 5 [120] [] [] E ?_;cases hb26908;have hq_:=hq26908 _ E;subst hq_;replace h26818:=Zo h26818;cases h26818;replace hb26811:=Zo hb26811;cases hb26811;have hq_:=hq26811 _ E;subst hq_;replace h:=Zo h;cases h;exact Rt [] E E (Ug [] 3 (hR _ (hm_2.trans (hm_5.trans (hm26618.trans (hm26811.trans (hm_7.trans (hm26820.trans (hm26908.trans (hm26938.trans hm26985))))))))))
      refine G2 7 [] [120] [] E ?_;cases hb26908;exact Ce E ⟨_,rfl,fE E,sE [some 0,some 1,some 2] 3 E⟩
     refine G2 2 [] [91] [] E ?_;cases hb26908;have hq_:=hq26908 _ E;subst hq_;exact Ce E ⟨rfl,fE E,sE [some 0,some 1] 3 E⟩
    rintro _ _ _ _ h26818 _ ⟨rfl,hF26825,hS26825⟩;replace h26818:=Jj h26818;refine G0 1 E ?_;cases h26818;exact Ce E ⟨rfl,hF26825.tr E,hS26825.tr (sE [some 0,some 1] 2 E)⟩
   rintro _ _ _ _ hb26811 _ ⟨rfl,hF26818,hS26818⟩;replace hb26811:=Jj hb26811;refine Atn 2 hF26818 hS26818 E E (G0 4 E ?_);cases hb26811;exact Ce E ⟨_,rfl,fE E,sE [some 0,some 1] 2 E⟩
  refine G2 2 [] [67] [] E ?_;cases hb26811;have hq_:=hq26811 _ E;subst hq_;exact Ce E ⟨rfl,fE E,sE [] 2 E⟩
 rintro _ _ _ _ h hm26623 ⟨rfl,hF26623,hS26623⟩;replace h:=Jj h;refine Atn 0 hF26623 hS26623 E E (G0 2 E (Cl E ?_));obtain ⟨_,hx14,h⟩:=Qh h;refine Vu  hx14 (fun _ hm_9=> ?_);refine Q0 2 E ?_;cases h;exact Rt [] E E (Ug [] 0 (hR _ (hm_2.trans (hm_5.trans (hm26618.trans (hm26623.trans hm_9))))))
end Go.Proofs.YthpgjbbjpfiniaaGreat
namespace Go.Proofs.YthpgjbbjpfiniaaGreat
set_option linter.unusedSimpArgs false
set_option linter.unusedVariables false
theorem Qfw {τ ρ:Type} {body:τ→Option (τ⊕ρ)} (I:Nat→τ→ρ→Prop)
  (h: ∀n t o,I n t o→(∃t' n',body t=some (.inl t')∧n'<n∧I n' t' o)∨body t=some (.inr o)): ∀(fuel n:Nat) (t:τ) (o:ρ),I n t o→n<fuel→iter body fuel t=some o
 | 0,_,_,_,_,hm=>by omega
 | f+1,n,t,o,hI,hm=>by
  rcases h n t o hI with ⟨t',n',h1,h2,h3⟩ | h1
  ·simp only[iter,h1,Option.bind_some,QD]
   exact Qfw I h f n' t' o h3 (by omega)
  ·simp only[iter,h1,Option.bind_some,QD]
theorem Qf4 {σ ρ:Type} {body:σ→Option (σ⊕ρ)}: ∀{n m:Nat} {s:σ} {r:ρ},iter body n s=some r→n≤m→iter body m s=some r
 | 0,_,_,_,h,_=>by cases h
 | n+1,0,_,_,_,hm=>by omega
 | n+1,m+1,s,r,h,hm=>by
  simp only[iter] at h ⊢
  cases hb:body s with
  | none=>rw[hb] at h;cases h
  | some q =>
   rw[hb] at h
   cases q with
   | inl s'=>exact Qf4 (n:=n) (m:=m) h (by omega)
   | inr r'=>exact h
theorem Qp {α:Type} (xs:List α) (k:Nat):getI xs (k:Int)=xs[k]? :=by simp[getI]
theorem QmO {α:Type} {xs:List α} {k:Nat} (h:k<xs.length):getI xs (k:Int)=some xs[k]:=by rw[Qp];simp[h]
theorem Yf {n:Int} (h1: -9223372036854775808≤n) (h2:n≤9223372036854775807):w64 n=n:=Qqd h1 h2
theorem Wb {k:Nat} (h:k<9223372036854775807):w64 ((k:Int)+1)=((k+1:Nat):Int):=by rw[Yf (by omega) (by omega)];omega
theorem Yi {α:Type} {xs ys:List α} (h:xs.length+ys.length≤1000000):ZN xs ys=some (xs++ys):=by simp[ZN,h]
theorem QaH {p:Prop} [Decidable p] (h:p):Wv p=some ():=by simp[Wv,h]
def each {α σ ρ:Type} (step:σ→α→σ⊕ρ) (fin:σ→ρ):List α→σ→ρ
 | [],s=>fin s
 | x::r,s=>match step s x with
  | .inl s'=>each step fin r s'
  | .inr o=>o
def Z3 {τ ρ:Type} (o:Option ρ) (t:τ):τ⊕ρ:=match o with
 | none=> .inl t
 | some r=> .inr r
@[simp] theorem Qp8 {τ ρ:Type} (t:τ):Z3 (none:Option ρ) t= .inl t:=rfl
@[simp] theorem Qp9 {τ ρ:Type} (r:ρ) (t:τ):Z3 (some r) t= .inr r:=rfl
def QpZ {σ τ ρ:Type} (f:σ→τ) (q:σ⊕ρ):τ⊕ρ:=match q with
 | .inl s=> .inl (f s)
 | .inr r=> .inr r
@[simp] theorem QqM {σ τ ρ:Type} (f:σ→τ) (s:σ):QpZ f (.inl s:σ⊕ρ)= .inl (f s):=rfl
@[simp] theorem QqN {σ τ ρ:Type} (f:σ→τ) (r:ρ):QpZ f (.inr r:σ⊕ρ)= .inr r:=rfl
theorem QiI {α σ τ ρ:Type} (xs:List α) (mk:σ→Int→τ) {body:τ→Option (τ⊕ρ)} (step:σ→α→σ⊕ρ) (fin:σ→ρ) (I:σ→Nat→Prop) (hn:xs.length<9223372036854775807)
  (hb: ∀(k:Nat) (x:α) (s:σ),xs[k]? =some x→I s k→body (mk s (k:Int))=some (QpZ (fun s'=>mk s' (w64 ((k:Int)+1))) (step s x))∧ ∀s',step s x= .inl s'→I s' (k+1))
  (hf: ∀s,I s xs.length→body (mk s (xs.length:Int))=some (.inr (fin s))): ∀(n:Nat) (s:σ),I s 0→xs.length<n→iter body n (mk s 0)=some (each step fin xs s):=by
 intro n s hs hlt;refine Qfw (fun m t o=> ∃(s:σ) (k:Nat),t=mk s k∧m=xs.length-k∧k≤xs.length∧I s k∧each step fin (xs.drop k) s=o) ?_ n xs.length (mk s 0) _ ⟨s,0,rfl,by simp,Nat.zero_le _,hs,by simp⟩ hlt;rintro m _ o ⟨s,k,rfl,rfl,hk,hI,ho⟩;rcases Nat.lt_or_ge k xs.length with hlt | hge
 ·obtain ⟨h1,h2⟩:=hb k xs[k] s (by simp[hlt]) hI
  rw[List.drop_eq_getElem_cons hlt,each] at ho
  cases hs:step s xs[k] with
  | inl s' =>
   rw[hs] at h1 ho
   exact .inl ⟨_,xs.length-(k+1),h1,by omega,s',k+1,by rw[Wb (by omega)],rfl,hlt,h2 s' hs,ho⟩
  | inr o' =>
   rw[hs] at h1 ho
   exact .inr (by rw[h1];exact congrArg (fun z=>some (Sum.inr z)) ho)
 ·obtain rfl:k=xs.length:=by omega
  rw[List.drop_length] at ho
  exact .inr (by rw[hf s hI];exact congrArg (fun z=>some (Sum.inr z)) ho)
def first {α ρ:Type} (step:α→Option ρ) (fin:ρ):List α→ρ
 | []=>fin
 | x::r=>match step x with
  | none=>first step fin r
  | some o=>o
theorem Qce {α ρ:Type} (xs:List α) {body:Int→Option (Int⊕ρ)} (step:α→Option ρ) (fin:ρ) (hn:xs.length<9223372036854775807)
  (hb: ∀(k:Nat) (x:α),xs[k]? =some x→body (k:Int)=some (Z3 (step x) (w64 ((k:Int)+1))))
  (hf:body (xs.length:Int)=some (.inr fin)): ∀(n:Nat),xs.length<n→iter body n 0=some (first step fin xs):=by
 intro n hlt;have:=QiI xs (fun (_:Unit) k=>k) (body:=body) (fun _ x=>Z3 (step x) ()) (fun _=>fin) (fun _ _=>True) hn
  (fun k x s hx _=>⟨by rw[hb k x hx];cases step x<;>rfl,fun _ _=>trivial⟩) (fun _ _=>hf) n () trivial hlt
 rw[this]
 congr 1
 clear this hb hf hlt hn
 induction xs with
 | nil=>rfl
 | cons x r ih =>
  simp only[each,first]
  cases step x<;>simp[ih]
end Go.Proofs.YthpgjbbjpfiniaaGreat
namespace Go.Proofs.YthpgjbbjpfiniaaGreat
set_option linter.unusedSimpArgs false
set_option linter.unusedVariables false
theorem Qs {α:Type} {l:List α} {k:Nat} {x:α} (h:l[k]? =some x):k<l.length:=by
 rcases Nat.lt_or_ge k l.length with h2 | h2
 ·exact h2
 ·rw[List.getElem?_eq_none h2] at h;cases h
theorem Qmb {α:Type} {l:List α} {i:Int} (h0:0≤i) (h1:i<(l.length:Nat)): ∃x,getI l i=some x:=by
 obtain ⟨k,rfl⟩: ∃k:Nat,i=k:=⟨i.toNat,by omega⟩
 exact ⟨_,QmO (by omega)⟩
def Yx {α ρ:Type} (step:Nat→α→Option ρ) (fin:ρ):Nat→List α→ρ
 | _,[]=>fin
 | k,x::r=>match step k x with
  | none=>Yx step fin (k+1) r
  | some o=>o
theorem YC {α ρ:Type} (xs:List α) {body:Int→Option (Int⊕ρ)} (step:Nat→α→Option ρ) (fin:ρ) (hn:xs.length<9223372036854775807)
  (hb: ∀(k:Nat) (x:α),xs[k]? =some x→body (k:Int)=some (Z3 (step k x) (w64 ((k:Int)+1))))
  (hf:body (xs.length:Int)=some (.inr fin)): ∀(n:Nat),xs.length<n→iter body n 0=some (Yx step fin 0 xs):=by
 intro n hlt;refine Qfw (fun m t o=> ∃k:Nat,t=(k:Int)∧m=xs.length-k∧k≤xs.length∧Yx step fin k (xs.drop k)=o) ?_ n xs.length 0 _ ⟨0,rfl,by simp,Nat.zero_le _,by simp⟩ hlt;rintro m _ o ⟨k,rfl,rfl,hk,ho⟩;rcases Nat.lt_or_ge k xs.length with hlt | hge
 ·have h1:=hb k xs[k] (by simp[hlt])
  rw[List.drop_eq_getElem_cons hlt,Yx] at ho
  cases hs:step k xs[k] with
  | none =>
   rw[hs] at h1 ho
   exact .inl ⟨_,xs.length-(k+1),h1,by omega,k+1,by rw[Wb (by omega)],rfl,hlt,ho⟩
  | some r =>
   rw[hs] at h1 ho
   exact .inr (by rw[h1];exact congrArg (fun z=>some (Sum.inr z)) ho)
 ·obtain rfl:k=xs.length:=by omega
  rw[List.drop_length] at ho
  exact .inr (by rw[hf];exact congrArg (fun z=>some (Sum.inr z)) ho)
theorem QP {α ρ:Type} {step:Nat→α→Option ρ} {fin:ρ}: ∀(l:List α) (k:Nat),(∀(i:Nat) (x:α),l[i]? =some x→step (k+i) x=none)→Yx step fin k l=fin
 | [],_,_=>rfl
 | x::l,k,h=>by
  have h0:=h 0 x rfl
  rw[Nat.add_zero] at h0
  simp only[Yx,h0]
  exact QP l (k+1) fun i y hy=>by
   have:=h (i+1) y (by simpa using hy)
   rwa [show k+(i+1)=k+1+i by omega] at this
theorem YF {α σ τ ρ:Type} (xs:List α) (st:Nat→σ) (mk:σ→Int→τ) {body:τ→Option (τ⊕ρ)} (step:Nat→α→Option ρ) (fin:ρ) (hn:xs.length<9223372036854775807)
  (hb: ∀(k:Nat) (x:α),xs[k]? =some x→(∀(j:Nat) (y:α),j<k→xs[j]? =some y→step j y=none)→body (mk (st k) (k:Int))=some (Z3 (step k x) (mk (st (k+1)) (w64 ((k:Int)+1)))))
  (hf:(∀(j:Nat) (y:α),xs[j]? =some y→step j y=none)→body (mk (st xs.length) (xs.length:Int))=some (.inr fin)): ∀(n:Nat),xs.length<n→iter body n (mk (st 0) 0)=some (Yx step fin 0 xs):=by
 intro n hlt;refine Qfw (fun m t o=> ∃k:Nat,t=mk (st k) (k:Int)∧m=xs.length-k∧k≤xs.length∧(∀(j:Nat) (y:α),j<k→xs[j]? =some y→step j y=none)∧Yx step fin k (xs.drop k)=o) ?_ n xs.length _ _ ⟨0,rfl,by simp,Nat.zero_le _,fun j y hj=>absurd hj (Nat.not_lt_zero _),by simp⟩ hlt;rintro m _ o ⟨k,rfl,rfl,hk,hno,ho⟩;rcases Nat.lt_or_ge k xs.length with hlt | hge
 ·have h1:=hb k xs[k] (by simp[hlt]) hno
  rw[List.drop_eq_getElem_cons hlt,Yx] at ho
  cases hs:step k xs[k] with
  | none =>
   rw[hs] at h1 ho
   refine .inl ⟨_,xs.length-(k+1),h1,by omega,k+1,by rw[Wb (by omega)],rfl,hlt,fun j y hj hy=> ?_,ho⟩;rcases Nat.lt_or_ge j k with h | h
   ·exact hno j y h hy
   ·obtain rfl:j=k:=by omega
    rw[List.getElem?_eq_getElem hlt] at hy
    injection hy with hy;rw[←hy];exact hs
  | some r =>
   rw[hs] at h1 ho
   exact .inr (by rw[h1];exact congrArg (fun z=>some (Sum.inr z)) ho)
 ·obtain rfl:k=xs.length:=by omega
  rw[List.drop_length] at ho
  exact .inr (by rw[hf fun j y hy=>hno j y (Qs hy) hy];exact congrArg (fun z=>some (Sum.inr z)) ho)
theorem Yz {α:Type} {l:List α} {k:Nat} {x:α} (hx:l[k]? =some x):l.take (k+1)=l.take k++[x]:=by rw[List.take_add_one,hx];rfl
theorem Yj {α:Type} {l:List α} {k:Nat} (h:k≤l.length):(l.take k).length=k:=by simp;omega
def Qau {α:Type} (f:α→Int) (l:List α):Int:=(l.map f).sum
@[simp] theorem Qqf {α:Type} (f:α→Int):Qau f []=0:=rfl
@[simp] theorem Qh3 {α:Type} (f:α→Int) (x:α) (l:List α):Qau f (x::l)=f x+Qau f l:=by simp[Qau]
theorem Qb0 {α:Type} (f:α→Int): ∀(a b:List α),Qau f (a++b)=Qau f a+Qau f b
 | [],b=>by simp
 | x::a,b=>by simp only[List.cons_append,Qh3,Qb0 f a b];omega
theorem Qgx {α:Type} {f:α→Int} {B:Int}: ∀{l:List α},(∀x∈l,0≤f x∧f x≤B)→0≤Qau f l∧Qau f l≤l.length*B
 | [],_=>by simp
 | x::l,h=>by
  have h1:=h x (by simp);have h2:=Qgx (l:=l) fun y hy=>h y (by simp[hy])
  rw[Qh3,List.length_cons]
  have:((l.length+1:Nat):Int)*B=l.length*B+B:=by rw[Int.natCast_add,Int.add_mul];simp
  rw[this]
  omega
theorem QhK {β:Type} {k:Int} {v:β} (m:List (Int×β)):Qay k (Qc1 k v m)=some v:=by
 induction m with
 | nil=>simp[Qc1,Qay]
 | cons p m ih =>
  obtain ⟨a,b⟩:=p
  by_cases h:a=k
  ·simp[Qc1,Qay,h]
  ·simp[Qc1,Qay,h,ih]
theorem Qjs {β:Type} {k j:Int} {v:β} (h:j≠k) (m:List (Int×β)):Qay j (Qc1 k v m)=Qay j m:=by
 induction m with
 | nil=>simp[Qc1,Qay];omega
 | cons p m ih =>
  obtain ⟨a,b⟩:=p
  by_cases h2:a=k
  ·subst h2;simp[Qc1,Qay,Ne.symm h]
  ·by_cases h3:a=j
   ·subst h3;simp[Qc1,Qay,h]
   ·simp[Qc1,Qay,h2,h3,ih]
theorem QbT {α ρ:Type} {step:Nat→α→Option ρ} {fin:ρ}: ∀(l:List α) (k:Nat),
  ((∀(i:Nat) (x:α),l[i]? =some x→step (k+i) x=none)∧Yx step fin k l=fin) ∨
  (∃(i:Nat) (x:α) (o:ρ),l[i]? =some x∧step (k+i) x=some o∧Yx step fin k l=o∧ ∀(j:Nat) (y:α),j<i→l[j]? =some y→step (k+j) y=none)
 | [],k=> .inl ⟨fun i x h=>by simp at h,rfl⟩
 | x::l,k=>by
  cases hs:step k x with
  | some o=>exact .inr ⟨0,x,o,rfl,hs,by simp[Yx,hs],fun j y hj=>absurd hj (Nat.not_lt_zero _)⟩
  | none =>
   have hf:Yx step fin k (x::l)=Yx step fin (k+1) l:=by simp[Yx,hs]
   rw[hf]
   rcases QbT (step:=step) (fin:=fin) l (k+1) with ⟨h1,h2⟩ | ⟨i,y,o,h1,h2,h3,h4⟩
   ·refine .inl ⟨fun i y hy=> ?_,h2⟩;cases i with
    | zero=>simp at hy;subst hy;simpa using hs
    | succ i=>have:=h1 i y (by simpa using hy);rwa [show k+1+i=k+(i+1) by omega] at this
   ·refine .inr ⟨i+1,y,o,by simpa using h1,by rwa [show k+1+i=k+(i+1) by omega] at h2,h3,fun j z hj hz=> ?_⟩;cases j with
    | zero=>simp at hz;subst hz;simpa using hs
    | succ j=>have:=h4 j z (by omega) (by simpa using hz);rwa [show k+1+j=k+(j+1) by omega] at this
theorem QcF {α:Type} [DecidableEq α]: ∀{l m:List α},l.Nodup→(∀x∈l,x∈m)→l.length≤m.length
 | [],_,_,_=>Nat.zero_le _
 | x::l,m,hn,h=>by
  rw[List.nodup_cons] at hn
  have hx:=h x (by simp);have:=QcF (l:=l) (m:=m.erase x) hn.2 fun y hy=>(List.mem_erase_of_ne (fun e=>hn.1 (by rw[←e];exact hy))).2 (h y (by simp[hy]))
  rw[List.length_erase_of_mem hx] at this
  have:0<m.length:=List.length_pos_of_mem hx
  simp only[List.length_cons]
  omega
end Go.Proofs.YthpgjbbjpfiniaaGreat
namespace Go.Proofs.YthpgjbbjpfiniaaGreat
open Go.RowKit
set_option linter.unusedSimpArgs false
set_option linter.unusedVariables false
theorem Y0 (a b:Bool):(bif a then some true else some b)=some (a||b):=by cases a<;>rfl
theorem Qnp (a b:Bool):(bif a then some b else some false)=some (a&&b):=by cases a<;>rfl
def Qaz (r:QM) (x:QG):Prop:=0≤x.From∧x.From<r.Nodes∧0≤x.To∧x.To<r.Nodes∧x.From≠x.To∧1≤x.Meters∧x.Meters≤100000∧1≤x.Secs∧x.Secs≤100000
def QcV (r:QM) (x:QG):Option (Unit⊕Int) :=
 bif (decide (x.From<0)||(decide (r.Nodes≤x.From)||(decide (x.To<0)||decide (r.Nodes≤x.To)))) then some (.inr 7)
 else bif (decide (x.From=x.To)||(decide (x.Meters<1)||(decide (100000<x.Meters)||(decide (x.Secs<1)||decide (100000<x.Secs))))) then some (.inr 1) else none
theorem Qk9 {r:QM} {x:QG} (h:QcV r x=none):Qaz r x:=by
 unfold QcV at h
 simp only[cond_eq_ite,Bool.or_eq_true,decide_eq_true_eq] at h
 split at h
 ·cases h
 ·split at h
  ·cases h
  ·unfold Qaz;omega
theorem Qla {r:QM} {x:QG} {o:Unit⊕Int} (h:QcV r x=some o): ∃e,o= .inr e∧e≠0:=by
 unfold QcV at h
 simp only[cond_eq_ite] at h
 split at h
 ·injection h with h;exact ⟨7,h.symm,by decide⟩
 ·split at h
  ·injection h with h;exact ⟨1,h.symm,by decide⟩
  ·cases h
theorem QhQ (r:QM) (hn:r.Edges.length≤600) (n:Nat) (h:r.Edges.length<n):iter (Zi r) n 0=some (Yx (fun _ x=>QcV r x) (.inl ()) 0 r.Edges):=by
 refine YC r.Edges (fun _ x=>QcV r x) (.inl ()) (by omega) (fun k x hx=> ?_) (by simp[Zi]) n h;have hk:=Qs hx;have hk2:((k:Int)<(r.Edges.length:Nat)):=by omega
 simp only[Zi,hk2,decide_true,cond_true,Qp,hx,Option.bind_some,Y0,QcV]
 generalize (decide (x.From<0)||_)=a
 generalize (decide (x.From=x.To)||_)=b
 cases a<;>cases b<;>rfl
theorem Qlk (r:QM) (hn:r.Edges.length≤600):Qa3 r=some ⟨r.Nodes,r.Edges.map fun x=>⟨x.From,x.To⟩⟩:=by
 unfold Qa3;have:=YF (body:=VN r) r.Edges (fun k=>(r.Edges.take k).map fun x=>(⟨x.From,x.To⟩:ZJ)) (fun m k=>(m,k)) (fun _ _=>none) (r.Edges.map fun x=>(⟨x.From,x.To⟩:ZJ)) (by omega) (fun k x hx _=> ?_) (fun _=>by simp[VN,oun]) (((r.Edges.length:Nat):Int).toNat+1) (by simp)
 ·rw[show ((r.Edges.take 0).map fun x=>(⟨x.From,x.To⟩:ZJ))=[] by simp] at this
  rw[this,QP _ _ (fun _ _ _=>rfl)]
  rfl
 ·have hk:=Qs hx;have hk2:((k:Int)<(r.Edges.length:Nat)):=by omega
  simp only[VN,oun,hk2,decide_true,cond_true,Qp,hx,Option.bind_some]
  rw[Yi (by simp;omega)]
  simp[Yz hx,Z3]
theorem QnI (r:QM) (hn:r.Edges.length≤512) (h1:1≤r.Nodes) (h2:r.Nodes≤64) (ho: ∀x∈r.Edges,Qaz r x):Qby ⟨r.Nodes,r.Edges.map fun x=>⟨x.From,x.To⟩⟩=some 0:=by
 unfold Qby;have:=YC (body:=V7 ⟨r.Nodes,r.Edges.map fun x=>⟨x.From,x.To⟩⟩) (r.Edges.map fun x=>(⟨x.From,x.To⟩:ZJ)) (fun _ _=>none) (.inl ():Unit⊕Int) (by simp;omega) (fun k x hx=> ?_) (by simp[V7]) ((((r.Edges.map fun x=>(⟨x.From,x.To⟩:ZJ)).length:Nat):Int).toNat+1) (by simp)
 ·rw[QP _ _ (fun _ _ _=>rfl)] at this
  simp only[Y0,Option.bind_some]
  rw[show (decide (r.Nodes<0)||decide (64<r.Nodes))=false by simp;omega]
  simp only[cond_false]
  rw[show decide ((512:Int)<(((r.Edges.map fun x=>(⟨x.From,x.To⟩:ZJ)).length:Nat):Int))=false by simp;omega]
  simp only[cond_false,this,Option.bind_some,QD]
 ·have hk:=Qs hx;have hk2:((k:Int)<((r.Edges.map fun x=>(⟨x.From,x.To⟩:ZJ)).length:Nat)):=by omega
  obtain ⟨y,hy,rfl⟩: ∃y,r.Edges[k]? =some y∧(⟨y.From,y.To⟩:ZJ)=x:=by
   rw[List.getElem?_map] at hx
   cases hq:r.Edges[k]? with
   | none=>rw[hq] at hx;cases hx
   | some y=>rw[hq] at hx;injection hx with hx;exact ⟨y,rfl,hx⟩
  have hok:=ho y (List.mem_of_getElem? hy)
  simp only[V7,hk2,decide_true,cond_true,Qp,hx,Option.bind_some,Y0]
  unfold Qaz at hok
  rw[show (decide (y.From<0)||(decide (r.Nodes≤y.From)||(decide (y.To<0)||decide (r.Nodes≤y.To))))=false by simp;omega]
  rfl
def QcA (r:QM):Int:=bif (decide (r.Nodes<1)||decide (64<r.Nodes)) then 1 else bif decide ((512:Int)<(r.Edges.length:Nat)) then 8 else
 match Yx (fun _ x=>QcV r x) (.inl ()) 0 r.Edges with | .inl _=>0 | .inr e=>e
theorem Qab (r:QM) (hn:r.Edges.length≤600):Vc r=some (QcA r):=by
 unfold Vc QcA
 simp only[Y0,Option.bind_some]
 rw[QhQ r hn _ (by simp)]
 generalize (decide (r.Nodes<1)||_)=a
 generalize decide ((512:Int)<(r.Edges.length:Nat))=b
 generalize Yx (fun _ x=>QcV r x) (.inl ()) 0 r.Edges=o
 cases a<;>cases b<;>cases o<;>rfl
theorem QhV {r:QM} (h:QcA r=0):1≤r.Nodes∧r.Nodes≤64∧r.Edges.length≤512∧ ∀x∈r.Edges,Qaz r x:=by
 unfold QcA at h
 simp only[cond_eq_ite,Bool.or_eq_true,decide_eq_true_eq] at h
 split at h
 ·cases h
 ·split at h
  ·cases h
  ·refine ⟨by omega,by omega,by omega,fun x hx=> ?_⟩;obtain ⟨i,hi⟩:=List.getElem?_of_mem hx;rcases QbT (step:=fun _ x=>QcV r x) (fin:=(.inl ():Unit⊕Int)) r.Edges 0 with ⟨h1,_⟩ | ⟨j,y,o,h1,h2,h3,_⟩
   ·exact Qk9 (h1 i x hi)
   ·rw[h3] at h
    obtain ⟨e,rfl,he⟩:=Qla h2;exact absurd h he
theorem QeE (r:QM) (hn:r.Edges.length≤600):QaB r=some (QcA r):=by
 by_cases hz:QcA r=0
 ·obtain ⟨h1,h2,h3,h4⟩:=QhV hz;unfold QaB
  rw[hz]
  have e1:Qbv r=Zi r:=rfl
  rw[e1,QhQ r hn _ (by simp)]
  simp only[Y0,Option.bind_some]
  rw[show (decide (r.Nodes<1)||decide (64<r.Nodes))=false by simp;omega]
  simp only[cond_false]
  rw[show decide ((512:Int)<(r.Edges.length:Nat))=false by simp;omega]
  simp only[cond_false]
  have:Yx (fun _ x=>QcV r x) (.inl ():Unit⊕Int) 0 r.Edges= .inl ():=by
   refine QP _ _ fun i x hx=> ?_;have:=h4 x (List.mem_of_getElem? hx);unfold Qaz at this;unfold QcV
   rw[show (decide (x.From<0)||(decide (r.Nodes≤x.From)||(decide (x.To<0)||decide (r.Nodes≤x.To))))=false by simp;omega,show (decide (x.From=x.To)||(decide (x.Meters<1)||(decide (100000<x.Meters)||(decide (x.Secs<1)||decide (100000<x.Secs)))))=false by simp;omega]
   rfl
  rw[this]
  simp only[QD,Qlk r hn,Option.bind_some,QnI r h3 h1 h2 h4]
 ·have h:=Qab r hn;unfold QaB;have e1:Qbv r=Zi r:=rfl
  rw[e1,QhQ r hn _ (by simp)]
  unfold QcA at hz ⊢
  simp only[Y0,Option.bind_some]
  generalize (decide (r.Nodes<1)||_)=a at *
  generalize decide ((512:Int)<(r.Edges.length:Nat))=b at *
  generalize Yx (fun _ x=>QcV r x) (.inl ()) 0 r.Edges=o at *
  cases a<;>cases b<;>cases o<;>first | rfl | exact absurd rfl hz
end Go.Proofs.YthpgjbbjpfiniaaGreat
