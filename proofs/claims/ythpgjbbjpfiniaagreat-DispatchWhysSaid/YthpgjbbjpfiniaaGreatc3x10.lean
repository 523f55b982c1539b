/- DispatchWhys: for every input the given law returns true, and its arguments read as before. No condition. -/
import Derived.Test.YthpgjbbjpfiniaaGreatc3x1
import Derived.Test.YthpgjbbjpfiniaaGreatc3x3
import Derived.Test.YthpgjbbjpfiniaaGreatc3x6
import Derived.Test.YthpgjbbjpfiniaaGreatc3x8
import Derived.Test.YthpgjbbjpfiniaaGreatc3x9
import Derived.Test.YthpgjbbjpfiniaaGreatc3x2
namespace Go.Proofs.YthpgjbbjpfiniaaGreat
open Go.RowKit
set_option linter.unusedSimpArgs false
set_option linter.unusedVariables false
set_option maxHeartbeats 2000000
set_option maxRecDepth 4000
attribute [local irreducible] WP Zt Qap Fn AN Upd vcR vcO Qcq Jp Z8 QaL Qbc Qci Qa5 Ws Qct Qz KS
variable {μ:Gh} {L:List Seg} {R:Value→Gh→List Seg→Prop}
theorem Qd0 {F:Nat} {p1:Qe} {x1:Qf} {d1:Int} {v1:Int} {A1:Option Addr} {c1:Nat} {A2:Option Addr} {c2:Nat} {A3:Option Addr} {c3:Nat} {A4:Option Addr} {c4:Nat} {A5:Option Addr} {c5:Nat} {res1:Int}
  (hl1:p1.Road.Edges.length≤c1∧c1≤maxLen) (hA1:Qr QF μ A1 p1.Road.Edges) (hl2:p1.Vehicles.length≤c2∧c2≤maxLen) (hA2:Qr Qy μ A2 p1.Vehicles) (hl3:p1.Demands.length≤c3∧c3≤maxLen) (hA3:Qr QB μ A3 p1.Demands) (hl4:x1.Tours.length≤c4∧c4≤maxLen) (hA4:Qr Qv μ A4 x1.Tours) (hl5:x1.Left.length≤c5∧c5≤maxLen) (hA5:Qr QS μ A5 x1.Left) (h:Ja F p1 x1 d1 v1=some res1)
  (hR: ∀(μ':Gh) ,μ.le μ'→R (.int .i64 res1) μ' (L)) :
  Fn Tryz.prog 48 [.agg #[.int .i64 p1.Road.Nodes,.slice A1 p1.Road.Edges.length c1,.slice A2 p1.Vehicles.length c2,.slice A3 p1.Demands.length c3,.int .i64 p1.Unload,.int .i64 p1.UnloadSecs],.agg #[.slice A4 x1.Tours.length c4,.slice A5 x1.Left.length c5],.int .i64 d1,.int .i64 v1] μ (L) R:=by
 unfold Ja at h;refine FnS Tryz.func48 (by kernel_rfl) E Tryz.ntmps48 E E ?_;refine G0 2 E (Al E fun _=>Q0 0 E (Al E fun _=>Q0 4 E (Dr _ Qz.refl [(true,0),(true,1),(true,2),(true,3),(true,4),(true,5),(true,6),(true,7),(true,8),(true,9),(true,10),(false,11),(true,12)] (by kernel_rfl) (G1 3 [1] E (Ix h (Qr.rds hA2 L) E E fun _ _ _ _ hr1 hc1 _ h=> ?_)))));obtain rfl:=hr1;refine Q3 4 [] [] [64,1] (Z1 (hc1.push.push)) E (Ix h (Qr.rds hA3 L) E E fun _ _ _ _ hr2 hc2 _ h=> ?_);obtain rfl:=hr2;refine Q3 2 [] [] [66] (Z1 (hc2.push.push)) E (Cl E ?_);obtain ⟨_,hx3,h⟩:=Qi h;refine Qao  hx3 (?_);refine ⟨Qz.refl,?_⟩;refine Q0 2 E ?_;refine Br h 26 E E (fun hc3 h=> ?_) (fun hc3 h=> ?_)
 ·refine G2 5 [26] [] [] E ?_;cases h;exact Rt [] E E (Ug [] 2 (hR _ (Gh.le.refl _)))
 refine G2 4 [] [26] [] E (Dr _ Qz.refl [(true,0),(true,1),(true,2),(true,3),(true,4),(true,5),(true,6),(true,7),(true,8),(true,9),(true,10),(true,11),(true,12)] (by kernel_rfl) (G1 3 [1] E (Ix h (Qr.rds hA3 L) E E fun _ _ _ _ hr3 hc4 _ h=> ?_)));obtain rfl:=hr3;refine Q3 5 [] [] [67,1] (Z1 (hc4.push.push)) E (Ix h (Qr.rds hA2 L) E E fun _ _ _ _ hr4 hc5 _ h=> ?_);obtain rfl:=hr4;refine Q3 4 [] [] [68] (Z1 (hc5.push.push)) E ?_;refine Br h 39 E E (fun hc6 h=> ?_) (fun hc6 h=> ?_)
 ·refine G2 5 [39] [] [] E ?_;cases h;exact Rt [] E E (Ug [] 2 (hR _ (Gh.le.refl _)))
 refine G2 8 [] [39] [1] E (So E (Zs (z:=[.int .i64 0,.int .i64 0]) E E E E E E E (QR (cells':=[.int .i64 d1,.int .i64 0]) E E E E (QR (cells':=[.int .i64 d1,.int .i64 (-1)]) E E E E (YM (fun g3=>Q0 1 E (Cl E ?_)))))));have hl6:[d1,(-1)].length≤2∧2≤maxLen:=⟨Nat.le_refl _,by unfold maxLen;omega⟩
 refine Fn.pre Tryz.func64 (by kernel_rfl) E (Upd.frzOwn 0 E (Own.lit (r:=QS) (e:=3) (g:=g3) (xs:=[d1,(-1)]) (cs:=[.int .i64 d1,.int .i64 (-1)]) (css:=[[.int .i64 d1],[.int .i64 (-1)]]) E (All2.cons (E) (All2.cons (E) (All2.nil))) E E) fun _ hm_1 hA10=>Upd.done ?_);replace hA1:=hA1.mono hm_1;replace hA2:=hA2.mono hm_1;replace hA3:=hA3.mono hm_1;replace hA4:=hA4.mono hm_1;replace hA5:=hA5.mono hm_1;obtain ⟨⟨_,_,_⟩,hx6,h⟩:=Qi h;replace h:=Qj h;replace h:=Qj h;refine VE hl1 hA1 hl2 hA2 hl3 hA3 hl6 hA10 hx6 (fun _ _ _ _=>Q0 13 E ?_);refine Br h 51 E E (fun hc7 h=> ?_) (fun hc7 h=> ?_)
 ·refine G2 6 [51] [] [] E ?_;cases h;exact Rt [] E E (Ug [] 4 (hR _ hm_1))
 refine G2 4 [] [51] [] E (Dr _ Qz.refl [(true,0),(true,1),(true,2),(true,4),(false,3),(false,5),(true,6),(true,7),(true,8),(true,9),(true,10)] (by kernel_rfl) (G1 4 [3,2] E (Cl E ?_)));obtain ⟨_,hx7,h⟩:=Qi h;refine Qex hl4 hA4 hl5 hA5 hx7 (fun _ _ hl7 hA11=> ?_);refine ⟨Qz.refl,?_⟩;refine Q0 0 E (Cl E ?_);obtain ⟨⟨_,_⟩,hx8,h⟩:=Qi h;replace h:=Qj h;refine Qcw hl1 hA1 hl2 hA2 hl3 hA3 hl7 hA11 hx8 (fun _ _ _ _ hm_2 _=> ?_);refine ⟨Qz.more (Qz.refl),?_⟩;refine Q0 12 E ?_;refine Br h 64 E E (fun hc8 h=> ?_) (fun hc8 h=> ?_)
 ·refine G2 5 [64] [] [] E ?_;cases h;exact Rt [] E E (Ug [] 5 (hR _ (hm_1.trans hm_2)))
 refine G2 6 [] [64] [] E ?_;cases h;exact Rt [] E E (Ug [] 5 (hR _ (hm_1.trans hm_2)))
theorem QdY {F:Nat} {p1:Qe} {x1:Qf} {d1:Int} {A1:Option Addr} {c1:Nat} {A2:Option Addr} {c2:Nat} {A3:Option Addr} {c3:Nat} {A4:Option Addr} {c4:Nat} {A5:Option Addr} {c5:Nat} {res1:(List QH)} {res2:Int}
  (hl1:p1.Road.Edges.length≤c1∧c1≤maxLen) (hA1:Qr QF μ A1 p1.Road.Edges) (hl2:p1.Vehicles.length≤c2∧c2≤maxLen) (hA2:Qr Qy μ A2 p1.Vehicles) (hl3:p1.Demands.length≤c3∧c3≤maxLen) (hA3:Qr QB μ A3 p1.Demands) (hl4:x1.Tours.length≤c4∧c4≤maxLen) (hA4:Qr Qv μ A4 x1.Tours) (hl5:x1.Left.length≤c5∧c5≤maxLen) (hA5:Qr QS μ A5 x1.Left) (h:WY F p1 x1 d1=some (res1,res2))
  (hR: ∀(μ':Gh) (A0:Option Addr) (c0:Nat) (ch0:Seg),μ.le μ'→Own Zu 56 μ' (.slice A0 res1.length c0) res1 ch0→R (.tuple #[.slice A0 res1.length c0,.int .i64 res2]) μ' (ch0::L)) :
  Fn Tryz.prog 19 [.agg #[.int .i64 p1.Road.Nodes,.slice A1 p1.Road.Edges.length c1,.slice A2 p1.Vehicles.length c2,.slice A3 p1.Demands.length c3,.int .i64 p1.Unload,.int .i64 p1.UnloadSecs],.agg #[.slice A4 x1.Tours.length c4,.slice A5 x1.Left.length c5],.int .i64 d1] μ (L) R:=by
 unfold WY at h;refine FnS Tryz.func19 (by kernel_rfl) E Tryz.ntmps19 E E ?_;refine G0 2 E (Al E fun g1=>Q0 0 E (Al E fun g2=>Q1 8 [1,0] E (Cl E ?_)));obtain ⟨_,hx1,h⟩:=Qi h;refine Qcl hl1 hA1 hl2 hA2 hl3 hA3 hl4 hA4 hl5 hA5 hx1 ((Q0 7 E ?_));refine Br h 15 E E (fun hc1 h=> ?_) (fun hc1 h=> ?_)
 ·refine G2 7 [15] [] [] E ?_;cases h;exact Rt [] E E (Ug [[]] 2 (hR _ none 0 [] (Gh.le.refl _) Own.nil))
 refine G2 4 [] [15] [] E ?_;refine Cut h (fun f l o_ f_ μ_ l_=> ∃(v1:Bool),v1=o_∧Qh ((25,.bool v1)::Qk [2,3,4] f) f_∧Qd (QC [some 1,some 0] 2 l) l_) ?_ ?_
 ·intro _ h26164 h;refine G0 4 E ?_;refine Br h26164 19 E E (fun hc2 h26164=> ?_) (fun hc2 h26164=> ?_)
  ·refine G2 7 [19] [] [] E ?_;cases h26164;exact Ce E ⟨_,rfl,fE E,sE [some 1,some 0] 2 E⟩
  refine G2 7 [] [19] [1] E ?_;cases h26164;exact Ce E ⟨_,rfl,fE E,sE [some 1,some 0] 2 E⟩
 rintro _ _ _ _ h hm26164 ⟨v1,rfl,hF26164,hS26164⟩;replace hA1:=hA1.mono hm26164;replace hA2:=hA2.mono hm26164;replace hA3:=hA3.mono hm26164;replace hA4:=hA4.mono hm26164;replace hA5:=hA5.mono hm26164;refine Atn 2 hF26164 hS26164 E E ?_;refine Br h 25 E E (fun hc3 h=> ?_) (fun hc3 h=> ?_)
 ·refine G2 6 [25] [] [] E ?_;cases h;exact Rt [] E E (Ug [[]] 2 (hR _ none 0 [] hm26164 Own.nil))
 refine G2 8 [] [25] [1] E (Cl E ?_);obtain ⟨_,hx2,h⟩:=Qi h;refine QdZ hl5 (Qr.rds hA5 _) hx2 ((Q0 2 E ?_));refine Br h 30 E E (fun hc4 h=> ?_) (fun hc4 h=> ?_)
 ·refine G2 6 [30] [] [] E ?_;cases h;exact Rt [] E E (Ug [[]] 2 (hR _ none 0 [] hm26164 Own.nil))
 refine G2 14 [] [30] [0] E ?_;refine Cut h (fun f l o_ f_ μ_ l_=> ∃(out2:(List QH)) (A8:Option Addr) (c8:Nat) (ch3:Seg),out2=o_∧Qh ((9,.slice A8 out2.length c8)::[]) f_∧Qd (ch3::QC [] 2 l) l_∧Own Zu 56 μ_ (.slice A8 out2.length c8) out2 ch3) ?_ ?_
 ·intro _ h26175 h;refine Lp h26175 (fun f l (j_:(List QH)×Int) f_ μ_ l_=>YG j_ fun out1 v2=> ∃(A6:Option Addr) (c6:Nat) (ch1:Seg),Qh ((9,.slice A6 out1.length c6)::(34,.int .i64 v2)::Qk [2,3,4,33] f) f_∧Qd ([(g1,.cells #[.int .i64 p1.Road.Nodes,.slice A1 p1.Road.Edges.length c1,.slice A2 p1.Vehicles.length c2,.slice A3 p1.Demands.length c3,.int .i64 p1.Unload,.int .i64 p1.UnloadSecs] 28 (0,0))]::[(g2,.cells #[.slice A4 x1.Tours.length c4,.slice A5 x1.Left.length c5] 33 (0,0))]::ch1::QC [] 2 l) l_∧Own Zu 56 μ_ (.slice A6 out1.length c6) out1 ch1) ⟨none,0,[],fE E,sE [some 0,some 1,none] 2 E,(Own.nil)⟩ ?_;rintro ⟨out1,v2⟩ _ _ _ _ hm26186 ⟨A6,c6,ch1,hF26186,hS26186,hO1⟩ hb26186 hq26186;unfold VV at hb26186;replace hb26186:=Qj hb26186;replace hA1:=hA1.mono hm26186;replace hA2:=hA2.mono hm26186;replace hA3:=hA3.mono hm26186;replace hA4:=hA4.mono hm26186;replace hA5:=hA5.mono hm26186;refine Atn 3 hF26186 hS26186 E E (G0 5 E ?_);refine Br hb26186 35 E E (fun hc5 hb26186=> ?_) (fun hc5 hb26186=> ?_)
  ·refine G2 16 [35] [] [0,1] E (Cl E ?_);obtain ⟨r3,hx3,hb26186⟩:=Qi hb26186;refine Qd0 hl1 hA1 hl2 hA2 hl3 hA3 hl4 hA4 hl5 hA5 hx3 (fun _ hm_1=> ?_);replace hO1:=hO1.mono hm_1;refine Q0 1 E (So E (Zs (z:=[.int .i64 0,.int .i64 0]) E E E E E E E (QR (cells':=[.int .i64 v2,.int .i64 r3]) E E E E (YM (fun g3=>Q0 0 E (So E (Yo E ?_)))))));obtain ⟨_,hz1,hb26186⟩:=Qi hb26186;refine Yu (r:=Zu) QU E E E E (by decide) E E 3 E hO1 E (Own.rds (Own.lit (r:=Zu) (e:=56) (g:=g3) (xs:=[(QH.mk v2 r3)]) (cs:=[.int .i64 v2,.int .i64 r3]) (css:=[[.int .i64 v2,.int .i64 r3]]) E (All2.cons (E) (All2.nil)) E E) 0 E) hz1 fun A7 c7 ch2 hO2=>Q0 7 E ?_;cases hb26186;exact Ce E ⟨_,rfl,A7,c7,ch2,fE E,sE [some 1,some 2,some 3] 4 E,(hO2)⟩
  refine G2 2 [] [35] [] E ?_;cases hb26186;have hq_:=hq26186 _ E;subst hq_;exact Ce E ⟨_,A6,c6,ch1,rfl,fE E,sE [some 2] 3 E,(hO1)⟩
 rintro _ _ _ _ h hm26175 ⟨out2,A8,c8,ch3,rfl,hF26175,hS26175,hO3⟩;refine Atn 1 hF26175 hS26175 E E (G0 6 E ?_);cases h;exact Rt [] E E (Ug [[0]] 1 (hR _ A8 c8 ch3 (hm26164.trans hm26175) hO3))
end Go.Proofs.YthpgjbbjpfiniaaGreat
namespace Go.Proofs.YthpgjbbjpfiniaaGreat
open Go.RowKit
set_option linter.unusedSimpArgs false
set_option linter.unusedVariables false
set_option maxHeartbeats 2000000
set_option maxRecDepth 4000
attribute [local irreducible] WP Zt Qap Fn AN Upd vcR vcO Qcq Jp Z8 QaL Qbc Qci Qa5 Ws Qct Qz KS
variable {μ:Gh} {L:List Seg} {R:Value→Gh→List Seg→Prop}
theorem Qbq {F:Nat} {p1:Qe} {x1:Qf} {d1:Int} {A1:Option Addr} {c1:Nat} {A2:Option Addr} {c2:Nat} {A3:Option Addr} {c3:Nat} {A4:Option Addr} {c4:Nat} {A5:Option Addr} {c5:Nat} {res1:Bool}
  (hl1:p1.Road.Edges.length≤c1∧c1≤maxLen) (hA1:Qr QF μ A1 p1.Road.Edges) (hl2:p1.Vehicles.length≤c2∧c2≤maxLen) (hA2:Qr Qy μ A2 p1.Vehicles) (hl3:p1.Demands.length≤c3∧c3≤maxLen) (hA3:Qr QB μ A3 p1.Demands) (hl4:x1.Tours.length≤c4∧c4≤maxLen) (hA4:Qr Qv μ A4 x1.Tours) (hl5:x1.Left.length≤c5∧c5≤maxLen) (hA5:Qr QS μ A5 x1.Left) (h:Zv F p1 x1 d1=some res1)
  (hR: ∀(μ':Gh) ,μ.le μ'→R (.bool res1) μ' (L)) :
  Fn Tryz.prog 5 [.agg #[.int .i64 p1.Road.Nodes,.slice A1 p1.Road.Edges.length c1,.slice A2 p1.Vehicles.length c2,.slice A3 p1.Demands.length c3,.int .i64 p1.Unload,.int .i64 p1.UnloadSecs],.agg #[.slice A4 x1.Tours.length c4,.slice A5 x1.Left.length c5],.int .i64 d1] μ (L) R:=by
 unfold Zv at h;refine FnS Tryz.func5 (by kernel_rfl) E Tryz.ntmps5 E E ?_;refine G0 2 E (Al E fun _=>Q0 0 E (Al E fun _=>Q1 7 [1,0] E (Cl E ?_)));obtain ⟨_,hx1,h⟩:=Qi h;refine Qdh hl1 hA1 hl2 hA2 hl3 hA3 hl4 hA4 hl5 hA5 hx1 ((Q0 1 E ?_));refine Br h 13 E E (fun hc1 h=> ?_) (fun hc1 h=> ?_)
 ·refine G2 3 [13] [] [] E (Cl E ?_);obtain ⟨_,hx2,h⟩:=Qi h;refine QaO  hx2 (fun _ hm_1=> ?_);replace hA1:=hA1.mono hm_1;replace hA2:=hA2.mono hm_1;replace hA3:=hA3.mono hm_1;replace hA4:=hA4.mono hm_1;replace hA5:=hA5.mono hm_1;refine Q0 2 E ?_;cases h;exact Rt [] E E (Ug [] 2 (hR _ hm_1))
 refine G2 7 [] [13] [1,0] E (Cl E ?_);obtain ⟨⟨_,_⟩,hx3,h⟩:=Qi h;replace h:=Qj h;refine QbL hl1 hA1 hl2 hA2 hl3 hA3 hl4 hA4 hl5 hA5 hx3 (fun _ _ _ _ hm_2 hO1=> ?_);replace hA1:=hA1.mono hm_2;replace hA2:=hA2.mono hm_2;replace hA3:=hA3.mono hm_2;replace hA4:=hA4.mono hm_2;replace hA5:=hA5.mono hm_2;refine Q1 11 [2,1] E (Cl E ?_);obtain ⟨⟨_,_⟩,hx4,h⟩:=Qi h;replace h:=Qj h;refine QdY hl1 hA1 hl2 hA2 hl3 hA3 hl4 hA4 hl5 hA5 hx4 (fun _ _ _ _ hm_3 hO2=> ?_);replace hO1:=hO1.mono hm_3;refine Q0 7 E ?_;refine Cut h (fun f l o_ f_ μ_ l_=> ∃(v5:Bool),v5=o_∧Qh ((6,.bool v5)::[]) f_∧Qd (QC [] 4 l) l_) ?_ ?_
 ·intro _ h26209 h;refine G0 3 E (Cl E ?_);obtain ⟨_,hx5,h26209⟩:=Qi h26209;refine Wc (Own.lenOk hO1) (Own.rds hO1 1 E) (Own.lenOk hO2) (Own.rds hO2 0 E) hx5 ((Q0 1 E ?_));refine Br h26209 32 E E (fun hc2 h26209=> ?_) (fun hc2 h26209=> ?_)
  ·refine G2 5 [32] [] [] E ?_;refine Br h26209 37 E E (fun hc3 h26209=> ?_) (fun hc3 h26209=> ?_)
   ·refine Cl E ?_;obtain ⟨_,hx6,h26209⟩:=Qi h26209;refine QaO  hx6 (fun _ _=> ?_);refine Q2 3 [37] [] [] E ?_;cases h26209;exact Ce E ⟨_,rfl,fE E,sE [] 4 E⟩
   refine G2 4 [] [37] [] E ?_;cases h26209;exact Ce E ⟨_,rfl,fE E,sE [] 4 E⟩
  refine G2 9 [] [32,37] [] E ?_;cases h26209;exact Ce E ⟨_,rfl,fE E,sE [] 4 E⟩
 rintro _ _ _ _ h hm26209 ⟨v5,rfl,hF26209,hS26209⟩;refine Atn 0 hF26209 hS26209 E E ?_;cases h;exact Rt [] E E (Ug [] 0 (hR _ (hm_2.trans (hm_3.trans hm26209))))
end Go.Proofs.YthpgjbbjpfiniaaGreat
namespace Go.Proofs.YthpgjbbjpfiniaaGreat
set_option linter.unusedSimpArgs false
set_option linter.unusedVariables false
theorem QfT {τ ρ:Type} {body:τ→Option (τ⊕ρ)} (I:Nat→τ→ρ→Prop)
  (h: ∀n t o,I n t o→(∃t' n',body t=some (.inl t')∧n'<n∧I n' t' o)∨body t=some (.inr o)): ∀(fuel n:Nat) (t:τ) (o:ρ),I n t o→n<fuel→iter body fuel t=some o
 | 0,_,_,_,_,hm=>by omega
 | f+1,n,t,o,hI,hm=>by
  rcases h n t o hI with ⟨t',n',h1,h2,h3⟩ | h1
  ·simp only[iter,h1,Option.bind_some,QI]
   exact QfT I h f n' t' o h3 (by omega)
  ·simp only[iter,h1,Option.bind_some,QI]
theorem Qgr {σ ρ:Type} {body:σ→Option (σ⊕ρ)}: ∀{n m:Nat} {s:σ} {r:ρ},iter body n s=some r→n≤m→iter body m s=some r
 | 0,_,_,_,h,_=>by cases h
 | n+1,0,_,_,_,hm=>by omega
 | n+1,m+1,s,r,h,hm=>by
  simp only[iter] at h ⊢
  cases hb:body s with
  | none=>rw[hb] at h;cases h
  | some q =>
   rw[hb] at h
   cases q with
   | inl s'=>exact Qgr (n:=n) (m:=m) h (by omega)
   | inr r'=>exact h
theorem Qs {α:Type} (xs:List α) (k:Nat):getI xs (k:Int)=xs[k]? :=by simp[getI]
theorem Qnc {α:Type} {xs:List α} {k:Nat} (h:k<xs.length):getI xs (k:Int)=some xs[k]:=by rw[Qs];simp[h]
theorem Yg {n:Int} (h1: -9223372036854775808≤n) (h2:n≤9223372036854775807):w64 n=n:=Qqy h1 h2
theorem Wn {k:Nat} (h:k<9223372036854775807):w64 ((k:Int)+1)=((k+1:Nat):Int):=by rw[Yg (by omega) (by omega)];omega
theorem Yj {α:Type} {xs ys:List α} (h:xs.length+ys.length≤1000000):Z0 xs ys=some (xs++ys):=by simp[Z0,h]
theorem QaM {p:Prop} [Decidable p] (h:p):WG p=some ():=by simp[WG,h]
def each {α σ ρ:Type} (step:σ→α→σ⊕ρ) (fin:σ→ρ):List α→σ→ρ
 | [],s=>fin s
 | x::r,s=>match step s x with
  | .inl s'=>each step fin r s'
  | .inr o=>o
def Je {τ ρ:Type} (o:Option ρ) (t:τ):τ⊕ρ:=match o with
 | none=> .inl t
 | some r=> .inr r
@[simp] theorem Qqt {τ ρ:Type} (t:τ):Je (none:Option ρ) t= .inl t:=rfl
@[simp] theorem Qqu {τ ρ:Type} (r:ρ) (t:τ):Je (some r) t= .inr r:=rfl
def Qqk {σ τ ρ:Type} (f:σ→τ) (q:σ⊕ρ):τ⊕ρ:=match q with
 | .inl s=> .inl (f s)
 | .inr r=> .inr r
@[simp] theorem Qq5 {σ τ ρ:Type} (f:σ→τ) (s:σ):Qqk f (.inl s:σ⊕ρ)= .inl (f s):=rfl
@[simp] theorem Qq6 {σ τ ρ:Type} (f:σ→τ) (r:ρ):Qqk f (.inr r:σ⊕ρ)= .inr r:=rfl
theorem Qi7 {α σ τ ρ:Type} (xs:List α) (mk:σ→Int→τ) {body:τ→Option (τ⊕ρ)} (step:σ→α→σ⊕ρ) (fin:σ→ρ) (I:σ→Nat→Prop) (hn:xs.length<9223372036854775807)
  (hb: ∀(k:Nat) (x:α) (s:σ),xs[k]? =some x→I s k→body (mk s (k:Int))=some (Qqk (fun s'=>mk s' (w64 ((k:Int)+1))) (step s x))∧ ∀s',step s x= .inl s'→I s' (k+1))
  (hf: ∀s,I s xs.length→body (mk s (xs.length:Int))=some (.inr (fin s))): ∀(n:Nat) (s:σ),I s 0→xs.length<n→iter body n (mk s 0)=some (each step fin xs s):=by
 intro n s hs hlt;refine QfT (fun m t o=> ∃(s:σ) (k:Nat),t=mk s k∧m=xs.length-k∧k≤xs.length∧I s k∧each step fin (xs.drop k) s=o) ?_ n xs.length (mk s 0) _ ⟨s,0,rfl,by simp,Nat.zero_le _,hs,by simp⟩ hlt;rintro m _ o ⟨s,k,rfl,rfl,hk,hI,ho⟩;rcases Nat.lt_or_ge k xs.length with hlt | hge
 ·obtain ⟨h1,h2⟩:=hb k xs[k] s (by simp[hlt]) hI
  rw[List.drop_eq_getElem_cons hlt,each] at ho
  cases hs:step s xs[k] with
  | inl s' =>
   rw[hs] at h1 ho
   exact .inl ⟨_,xs.length-(k+1),h1,by omega,s',k+1,by rw[Wn (by omega)],rfl,hlt,h2 s' hs,ho⟩
  | inr o' =>
   rw[hs] at h1 ho
   exact .inr (by rw[h1];exact congrArg (fun z=>some (Sum.inr z)) ho)
 ·obtain rfl:k=xs.length:=by omega
  rw[List.drop_length] at ho
  exact .inr (by rw[hf s hI];exact congrArg (fun z=>some (Sum.inr z)) ho)
def first {α ρ:Type} (step:α→Option ρ) (fin:ρ):List α→ρ
 | []=>fin
 | x::r=>match step x with
  | none=>first step fin r
  | some o=>o
theorem Qdx {α ρ:Type} (xs:List α) {body:Int→Option (Int⊕ρ)} (step:α→Option ρ) (fin:ρ) (hn:xs.length<9223372036854775807)
  (hb: ∀(k:Nat) (x:α),xs[k]? =some x→body (k:Int)=some (Je (step x) (w64 ((k:Int)+1))))
  (hf:body (xs.length:Int)=some (.inr fin)): ∀(n:Nat),xs.length<n→iter body n 0=some (first step fin xs):=by
 intro n hlt;have:=Qi7 xs (fun (_:Unit) k=>k) (body:=body) (fun _ x=>Je (step x) ()) (fun _=>fin) (fun _ _=>True) hn
  (fun k x s hx _=>⟨by rw[hb k x hx];cases step x<;>rfl,fun _ _=>trivial⟩) (fun _ _=>hf) n () trivial hlt
 rw[this]
 congr 1
 clear this hb hf hlt hn
 induction xs with
 | nil=>rfl
 | cons x r ih =>
  simp only[each,first]
  cases step x<;>simp[ih]
end Go.Proofs.YthpgjbbjpfiniaaGreat
namespace Go.Proofs.YthpgjbbjpfiniaaGreat
set_option linter.unusedSimpArgs false
set_option linter.unusedVariables false
theorem Qt {α:Type} {l:List α} {k:Nat} {x:α} (h:l[k]? =some x):k<l.length:=by
 rcases Nat.lt_or_ge k l.length with h2 | h2
 ·exact h2
 ·rw[List.getElem?_eq_none h2] at h;cases h
theorem Qmy {α:Type} {l:List α} {i:Int} (h0:0≤i) (h1:i<(l.length:Nat)): ∃x,getI l i=some x:=by
 obtain ⟨k,rfl⟩: ∃k:Nat,i=k:=⟨i.toNat,by omega⟩
 exact ⟨_,Qnc (by omega)⟩
def YI {α ρ:Type} (step:Nat→α→Option ρ) (fin:ρ):Nat→List α→ρ
 | _,[]=>fin
 | k,x::r=>match step k x with
  | none=>YI step fin (k+1) r
  | some o=>o
theorem YN {α ρ:Type} (xs:List α) {body:Int→Option (Int⊕ρ)} (step:Nat→α→Option ρ) (fin:ρ) (hn:xs.length<9223372036854775807)
  (hb: ∀(k:Nat) (x:α),xs[k]? =some x→body (k:Int)=some (Je (step k x) (w64 ((k:Int)+1))))
  (hf:body (xs.length:Int)=some (.inr fin)): ∀(n:Nat),xs.length<n→iter body n 0=some (YI step fin 0 xs):=by
 intro n hlt;refine QfT (fun m t o=> ∃k:Nat,t=(k:Int)∧m=xs.length-k∧k≤xs.length∧YI step fin k (xs.drop k)=o) ?_ n xs.length 0 _ ⟨0,rfl,by simp,Nat.zero_le _,by simp⟩ hlt;rintro m _ o ⟨k,rfl,rfl,hk,ho⟩;rcases Nat.lt_or_ge k xs.length with hlt | hge
 ·have h1:=hb k xs[k] (by simp[hlt])
  rw[List.drop_eq_getElem_cons hlt,YI] at ho
  cases hs:step k xs[k] with
  | none =>
   rw[hs] at h1 ho
   exact .inl ⟨_,xs.length-(k+1),h1,by omega,k+1,by rw[Wn (by omega)],rfl,hlt,ho⟩
  | some r =>
   rw[hs] at h1 ho
   exact .inr (by rw[h1];exact congrArg (fun z=>some (Sum.inr z)) ho)
 ·obtain rfl:k=xs.length:=by omega
  rw[List.drop_length] at ho
  exact .inr (by rw[hf];exact congrArg (fun z=>some (Sum.inr z)) ho)
theorem QW {α ρ:Type} {step:Nat→α→Option ρ} {fin:ρ}: ∀(l:List α) (k:Nat),(∀(i:Nat) (x:α),l[i]? =some x→step (k+i) x=none)→YI step fin k l=fin
 | [],_,_=>rfl
 | x::l,k,h=>by
  have h0:=h 0 x rfl
  rw[Nat.add_zero] at h0
  simp only[YI,h0]
  exact QW l (k+1) fun i y hy=>by
   have:=h (i+1) y (by simpa using hy)
   rwa [show k+(i+1)=k+1+i by omega] at this
theorem YX {α σ τ ρ:Type} (xs:List α) (st:Nat→σ) (mk:σ→Int→τ) {body:τ→Option (τ⊕ρ)} (step:Nat→α→Option ρ) (fin:ρ) (hn:xs.length<9223372036854775807)
  (hb: ∀(k:Nat) (x:α),xs[k]? =some x→(∀(j:Nat) (y:α),j<k→xs[j]? =some y→step j y=none)→body (mk (st k) (k:Int))=some (Je (step k x) (mk (st (k+1)) (w64 ((k:Int)+1)))))
  (hf:(∀(j:Nat) (y:α),xs[j]? =some y→step j y=none)→body (mk (st xs.length) (xs.length:Int))=some (.inr fin)): ∀(n:Nat),xs.length<n→iter body n (mk (st 0) 0)=some (YI step fin 0 xs):=by
 intro n hlt;refine QfT (fun m t o=> ∃k:Nat,t=mk (st k) (k:Int)∧m=xs.length-k∧k≤xs.length∧(∀(j:Nat) (y:α),j<k→xs[j]? =some y→step j y=none)∧YI step fin k (xs.drop k)=o) ?_ n xs.length _ _ ⟨0,rfl,by simp,Nat.zero_le _,fun j y hj=>absurd hj (Nat.not_lt_zero _),by simp⟩ hlt;rintro m _ o ⟨k,rfl,rfl,hk,hno,ho⟩;rcases Nat.lt_or_ge k xs.length with hlt | hge
 ·have h1:=hb k xs[k] (by simp[hlt]) hno
  rw[List.drop_eq_getElem_cons hlt,YI] at ho
  cases hs:step k xs[k] with
  | none =>
   rw[hs] at h1 ho
   refine .inl ⟨_,xs.length-(k+1),h1,by omega,k+1,by rw[Wn (by omega)],rfl,hlt,fun j y hj hy=> ?_,ho⟩;rcases Nat.lt_or_ge j k with h | h
   ·exact hno j y h hy
   ·obtain rfl:j=k:=by omega
    rw[List.getElem?_eq_getElem hlt] at hy
    injection hy with hy;rw[←hy];exact hs
  | some r =>
   rw[hs] at h1 ho
   exact .inr (by rw[h1];exact congrArg (fun z=>some (Sum.inr z)) ho)
 ·obtain rfl:k=xs.length:=by omega
  rw[List.drop_length] at ho
  exact .inr (by rw[hf fun j y hy=>hno j y (Qt hy) hy];exact congrArg (fun z=>some (Sum.inr z)) ho)
theorem YK {α:Type} {l:List α} {k:Nat} {x:α} (hx:l[k]? =some x):l.take (k+1)=l.take k++[x]:=by rw[List.take_add_one,hx];rfl
theorem Yk {α:Type} {l:List α} {k:Nat} (h:k≤l.length):(l.take k).length=k:=by simp;omega
def Qay {α:Type} (f:α→Int) (l:List α):Int:=(l.map f).sum
@[simp] theorem QqA {α:Type} (f:α→Int):Qay f []=0:=rfl
@[simp] theorem Qit {α:Type} (f:α→Int) (x:α) (l:List α):Qay f (x::l)=f x+Qay f l:=by simp[Qay]
theorem Qb4 {α:Type} (f:α→Int): ∀(a b:List α),Qay f (a++b)=Qay f a+Qay f b
 | [],b=>by simp
 | x::a,b=>by simp only[List.cons_append,Qit,Qb4 f a b];omega
theorem QgS {α:Type} {f:α→Int} {B:Int}: ∀{l:List α},(∀x∈l,0≤f x∧f x≤B)→0≤Qay f l∧Qay f l≤l.length*B
 | [],_=>by simp
 | x::l,h=>by
  have h1:=h x (by simp);have h2:=QgS (l:=l) fun y hy=>h y (by simp[hy])
  rw[Qit,List.length_cons]
  have:((l.length+1:Nat):Int)*B=l.length*B+B:=by rw[Int.natCast_add,Int.add_mul];simp
  rw[this]
  omega
theorem Qia {β:Type} {k:Int} {v:β} (m:List (Int×β)):QaD k (Qc9 k v m)=some v:=by
 induction m with
 | nil=>simp[Qc9,QaD]
 | cons p m ih =>
  obtain ⟨a,b⟩:=p
  by_cases h:a=k
  ·simp[Qc9,QaD,h]
  ·simp[Qc9,QaD,h,ih]
theorem QjR {β:Type} {k j:Int} {v:β} (h:j≠k) (m:List (Int×β)):QaD j (Qc9 k v m)=QaD j m:=by
 induction m with
 | nil=>simp[Qc9,QaD];omega
 | cons p m ih =>
  obtain ⟨a,b⟩:=p
  by_cases h2:a=k
  ·subst h2;simp[Qc9,QaD,Ne.symm h]
  ·by_cases h3:a=j
   ·subst h3;simp[Qc9,QaD,h]
   ·simp[Qc9,QaD,h2,h3,ih]
theorem QbY {α ρ:Type} {step:Nat→α→Option ρ} {fin:ρ}: ∀(l:List α) (k:Nat),
  ((∀(i:Nat) (x:α),l[i]? =some x→step (k+i) x=none)∧YI step fin k l=fin) ∨
  (∃(i:Nat) (x:α) (o:ρ),l[i]? =some x∧step (k+i) x=some o∧YI step fin k l=o∧ ∀(j:Nat) (y:α),j<i→l[j]? =some y→step (k+j) y=none)
 | [],k=> .inl ⟨fun i x h=>by simp at h,rfl⟩
 | x::l,k=>by
  cases hs:step k x with
  | some o=>exact .inr ⟨0,x,o,rfl,hs,by simp[YI,hs],fun j y hj=>absurd hj (Nat.not_lt_zero _)⟩
  | none =>
   have hf:YI step fin k (x::l)=YI step fin (k+1) l:=by simp[YI,hs]
   rw[hf]
   rcases QbY (step:=step) (fin:=fin) l (k+1) with ⟨h1,h2⟩ | ⟨i,y,o,h1,h2,h3,h4⟩
   ·refine .inl ⟨fun i y hy=> ?_,h2⟩;cases i with
    | zero=>simp at hy;subst hy;simpa using hs
    | succ i=>have:=h1 i y (by simpa using hy);rwa [show k+1+i=k+(i+1) by omega] at this
   ·refine .inr ⟨i+1,y,o,by simpa using h1,by rwa [show k+1+i=k+(i+1) by omega] at h2,h3,fun j z hj hz=> ?_⟩;cases j with
    | zero=>simp at hz;subst hz;simpa using hs
    | succ j=>have:=h4 j z (by omega) (by simpa using hz);rwa [show k+1+j=k+(j+1) by omega] at this
theorem QcM {α:Type} [DecidableEq α]: ∀{l m:List α},l.Nodup→(∀x∈l,x∈m)→l.length≤m.length
 | [],_,_,_=>Nat.zero_le _
 | x::l,m,hn,h=>by
  rw[List.nodup_cons] at hn
  have hx:=h x (by simp);have:=QcM (l:=l) (m:=m.erase x) hn.2 fun y hy=>(List.mem_erase_of_ne (fun e=>hn.1 (by rw[←e];exact hy))).2 (h y (by simp[hy]))
  rw[List.length_erase_of_mem hx] at this
  have:0<m.length:=List.length_pos_of_mem hx
  simp only[List.length_cons]
  omega
end Go.Proofs.YthpgjbbjpfiniaaGreat
namespace Go.Proofs.YthpgjbbjpfiniaaGreat
open Go.RowKit
set_option linter.unusedSimpArgs false
set_option linter.unusedVariables false
theorem Zc (a b:Bool):(bif a then some true else some b)=some (a||b):=by cases a<;>rfl
theorem QnN (a b:Bool):(bif a then some b else some false)=some (a&&b):=by cases a<;>rfl
def QaE (r:QM) (x:QK):Prop:=0≤x.From∧x.From<r.Nodes∧0≤x.To∧x.To<r.Nodes∧x.From≠x.To∧1≤x.Meters∧x.Meters≤100000∧1≤x.Secs∧x.Secs≤100000
def Qc4 (r:QM) (x:QK):Option (Unit⊕Int) :=
 bif (decide (x.From<0)||(decide (r.Nodes≤x.From)||(decide (x.To<0)||decide (r.Nodes≤x.To)))) then some (.inr 7)
 else bif (decide (x.From=x.To)||(decide (x.Meters<1)||(decide (100000<x.Meters)||(decide (x.Secs<1)||decide (100000<x.Secs))))) then some (.inr 1) else none
theorem Qlw {r:QM} {x:QK} (h:Qc4 r x=none):QaE r x:=by
 unfold Qc4 at h
 simp only[cond_eq_ite,Bool.or_eq_true,decide_eq_true_eq] at h
 split at h
 ·cases h
 ·split at h
  ·cases h
  ·unfold QaE;omega
theorem Qlx {r:QM} {x:QK} {o:Unit⊕Int} (h:Qc4 r x=some o): ∃e,o= .inr e∧e≠0:=by
 unfold Qc4 at h
 simp only[cond_eq_ite] at h
 split at h
 ·injection h with h;exact ⟨7,h.symm,by decide⟩
 ·split at h
  ·injection h with h;exact ⟨1,h.symm,by decide⟩
  ·cases h
theorem Qig (r:QM) (hn:r.Edges.length≤600) (n:Nat) (h:r.Edges.length<n):iter (YQ r) n 0=some (YI (fun _ x=>Qc4 r x) (.inl ()) 0 r.Edges):=by
 refine YN r.Edges (fun _ x=>Qc4 r x) (.inl ()) (by omega) (fun k x hx=> ?_) (by simp[YQ]) n h;have hk:=Qt hx;have hk2:((k:Int)<(r.Edges.length:Nat)):=by omega
 simp only[YQ,hk2,decide_true,cond_true,Qs,hx,Option.bind_some,Zc,Qc4]
 generalize (decide (x.From<0)||_)=a
 generalize (decide (x.From=x.To)||_)=b
 cases a<;>cases b<;>rfl
theorem QlH (r:QM) (hn:r.Edges.length≤600):Qbd r=some ⟨r.Nodes,r.Edges.map fun x=>⟨x.From,x.To⟩⟩:=by
 unfold Qbd;have:=YX (body:=VN r) r.Edges (fun k=>(r.Edges.take k).map fun x=>(⟨x.From,x.To⟩:ZW)) (fun m k=>(m,k)) (fun _ _=>none) (r.Edges.map fun x=>(⟨x.From,x.To⟩:ZW)) (by omega) (fun k x hx _=> ?_) (fun _=>by simp[VN,oun]) (((r.Edges.length:Nat):Int).toNat+1) (by simp)
 ·rw[show ((r.Edges.take 0).map fun x=>(⟨x.From,x.To⟩:ZW))=[] by simp] at this
  rw[this,QW _ _ (fun _ _ _=>rfl)]
  rfl
 ·have hk:=Qt hx;have hk2:((k:Int)<(r.Edges.length:Nat)):=by omega
  simp only[VN,oun,hk2,decide_true,cond_true,Qs,hx,Option.bind_some]
  rw[Yj (by simp;omega)]
  simp[YK hx,Je]
theorem Qn5 (r:QM) (hn:r.Edges.length≤512) (h1:1≤r.Nodes) (h2:r.Nodes≤64) (ho: ∀x∈r.Edges,QaE r x):QbC ⟨r.Nodes,r.Edges.map fun x=>⟨x.From,x.To⟩⟩=some 0:=by
 unfold QbC;have:=YN (body:=V7 ⟨r.Nodes,r.Edges.map fun x=>⟨x.From,x.To⟩⟩) (r.Edges.map fun x=>(⟨x.From,x.To⟩:ZW)) (fun _ _=>none) (.inl ():Unit⊕Int) (by simp;omega) (fun k x hx=> ?_) (by simp[V7]) ((((r.Edges.map fun x=>(⟨x.From,x.To⟩:ZW)).length:Nat):Int).toNat+1) (by simp)
 ·rw[QW _ _ (fun _ _ _=>rfl)] at this
  simp only[Zc,Option.bind_some]
  rw[show (decide (r.Nodes<0)||decide (64<r.Nodes))=false by simp;omega]
  simp only[cond_false]
  rw[show decide ((512:Int)<(((r.Edges.map fun x=>(⟨x.From,x.To⟩:ZW)).length:Nat):Int))=false by simp;omega]
  simp only[cond_false,this,Option.bind_some,QI]
 ·have hk:=Qt hx;have hk2:((k:Int)<((r.Edges.map fun x=>(⟨x.From,x.To⟩:ZW)).length:Nat)):=by omega
  obtain ⟨y,hy,rfl⟩: ∃y,r.Edges[k]? =some y∧(⟨y.From,y.To⟩:ZW)=x:=by
   rw[List.getElem?_map] at hx
   cases hq:r.Edges[k]? with
   | none=>rw[hq] at hx;cases hx
   | some y=>rw[hq] at hx;injection hx with hx;exact ⟨y,rfl,hx⟩
  have hok:=ho y (List.mem_of_getElem? hy)
  simp only[V7,hk2,decide_true,cond_true,Qs,hx,Option.bind_some,Zc]
  unfold QaE at hok
  rw[show (decide (y.From<0)||(decide (r.Nodes≤y.From)||(decide (y.To<0)||decide (r.Nodes≤y.To))))=false by simp;omega]
  rfl
def QcG (r:QM):Int:=bif (decide (r.Nodes<1)||decide (64<r.Nodes)) then 1 else bif decide ((512:Int)<(r.Edges.length:Nat)) then 8 else
 match YI (fun _ x=>Qc4 r x) (.inl ()) 0 r.Edges with | .inl _=>0 | .inr e=>e
theorem Qac (r:QM) (hn:r.Edges.length≤600):Jg r=some (QcG r):=by
 unfold Jg QcG
 simp only[Zc,Option.bind_some]
 rw[Qig r hn _ (by simp)]
 generalize (decide (r.Nodes<1)||_)=a
 generalize decide ((512:Int)<(r.Edges.length:Nat))=b
 generalize YI (fun _ x=>Qc4 r x) (.inl ()) 0 r.Edges=o
 cases a<;>cases b<;>cases o<;>rfl
theorem Qil {r:QM} (h:QcG r=0):1≤r.Nodes∧r.Nodes≤64∧r.Edges.length≤512∧ ∀x∈r.Edges,QaE r x:=by
 unfold QcG at h
 simp only[cond_eq_ite,Bool.or_eq_true,decide_eq_true_eq] at h
 split at h
 ·cases h
 ·split at h
  ·cases h
  ·refine ⟨by omega,by omega,by omega,fun x hx=> ?_⟩;obtain ⟨i,hi⟩:=List.getElem?_of_mem hx;rcases QbY (step:=fun _ x=>Qc4 r x) (fin:=(.inl ():Unit⊕Int)) r.Edges 0 with ⟨h1,_⟩ | ⟨j,y,o,h1,h2,h3,_⟩
   ·exact Qlw (h1 i x hi)
   ·rw[h3] at h
    obtain ⟨e,rfl,he⟩:=Qlx h2;exact absurd h he
theorem Qe0 (r:QM) (hn:r.Edges.length≤600):QaF r=some (QcG r):=by
 by_cases hz:QcG r=0
 ·obtain ⟨h1,h2,h3,h4⟩:=Qil hz;unfold QaF
  rw[hz]
  have e1:Qbz r=YQ r:=rfl
  rw[e1,Qig r hn _ (by simp)]
  simp only[Zc,Option.bind_some]
  rw[show (decide (r.Nodes<1)||decide (64<r.Nodes))=false by simp;omega]
  simp only[cond_false]
  rw[show decide ((512:Int)<(r.Edges.length:Nat))=false by simp;omega]
  simp only[cond_false]
  have:YI (fun _ x=>Qc4 r x) (.inl ():Unit⊕Int) 0 r.Edges= .inl ():=by
   refine QW _ _ fun i x hx=> ?_;have:=h4 x (List.mem_of_getElem? hx);unfold QaE at this;unfold Qc4
   rw[show (decide (x.From<0)||(decide (r.Nodes≤x.From)||(decide (x.To<0)||decide (r.Nodes≤x.To))))=false by simp;omega,show (decide (x.From=x.To)||(decide (x.Meters<1)||(decide (100000<x.Meters)||(decide (x.Secs<1)||decide (100000<x.Secs)))))=false by simp;omega]
   rfl
  rw[this]
  simp only[QI,QlH r hn,Option.bind_some,Qn5 r h3 h1 h2 h4]
 ·have h:=Qac r hn;unfold QaF;have e1:Qbz r=YQ r:=rfl
  rw[e1,Qig r hn _ (by simp)]
  unfold QcG at hz ⊢
  simp only[Zc,Option.bind_some]
  generalize (decide (r.Nodes<1)||_)=a at *
  generalize decide ((512:Int)<(r.Edges.length:Nat))=b at *
  generalize YI (fun _ x=>Qc4 r x) (.inl ()) 0 r.Edges=o at *
  cases a<;>cases b<;>cases o<;>first | rfl | exact absurd rfl hz
end Go.Proofs.YthpgjbbjpfiniaaGreat
namespace Go.Proofs.YthpgjbbjpfiniaaGreat
open Go.RowKit
set_option linter.unusedSimpArgs false
set_option linter.unusedVariables false
theorem Qja (c:Int):Qae c=YO c:=by
 unfold Qae YO
 generalize decide (97≤c)=a
 generalize decide (c≤122)=b
 generalize decide (65≤c)=d
 generalize decide (c≤90)=e
 cases a<;>cases b<;>cases d<;>cases e<;>rfl
theorem Qeh (c:Int): ∃b,YO c=some b:=by
 unfold YO
 generalize decide (97≤c)=a
 generalize decide (c≤122)=b
 generalize decide (65≤c)=d
 generalize decide (c≤90)=e
 cases a<;>cases b<;>cases d<;>cases e<;>exact ⟨_,rfl⟩
theorem Qka (s:ByteArray):Qa6 s=QZ s:=by
 funext i
 simp only[Qa6,QZ,Qja]
theorem QjJ {s:ByteArray} {k:Nat} (h:k<s.size): ∃b,QiK s (k:Int)=some b:=by
 unfold QiK
 rw[if_pos (by omega)]
 simp[h]
theorem Qll (s:ByteArray) (hs:s.size≤32): ∀(m k:Nat),k+m=s.size→ ∃o,iter (QZ s) (m+1) (k:Int)=some o
 | 0,k,h=>by
  refine ⟨.inl (),?_⟩
  simp only[iter,QZ]
  rw[show decide ((k:Int)<((s.size:Nat):Int))=false by simp;omega]
  rfl
 | m+1,k,h=>by
  obtain ⟨b,hb⟩:=QjJ (s:=s) (k:=k) (by omega);obtain ⟨q,hq⟩:=Qeh b;obtain ⟨o,ho⟩:=Qll s hs m (k+1) (by omega);have hbody:(∃z,QZ s (k:Int)=some (.inr z))∨QZ s (k:Int)=some (.inl ((k+1:Nat):Int)):=by
   simp only[QZ]
   rw[show decide ((k:Int)<((s.size:Nat):Int))=true by simp;omega]
   simp only[cond_true,hb,Option.bind_some,hq,Wn (show k<9223372036854775807 by omega)]
   generalize decide (b<48)=c1
   generalize decide (b=45)=c2
   generalize decide (b=95)=c3
   generalize decide (b=46)=c4
   generalize decide (57<b)=c5
   cases q<;>cases c1<;>cases c2<;>cases c3<;>cases c4<;>cases c5<;>first | exact .inr rfl | exact .inl ⟨_,rfl⟩
  rcases hbody with ⟨z,hz⟩ | hz
  ·exact ⟨z,by rw[iter,hz];rfl⟩
  ·exact ⟨o,by rw[iter,hz];exact ho⟩
theorem QnK {F:Nat} (hF:33≤F) (s:ByteArray):QbD F s=ZG s:=by
 unfold QbD ZG
 simp only[Qja,Qka]
 by_cases h1:((s.size:Nat):Int)<1
 ·simp only[h1,decide_true,cond_true,Option.bind_some]
 ·by_cases h2:(32:Int)<((s.size:Nat):Int)
  ·simp only[h1,h2,decide_true,decide_false,cond_true,cond_false,Option.bind_some]
  ·obtain ⟨b,hb⟩:=QjJ (s:=s) (k:=0) (by omega);obtain ⟨q,hq⟩:=Qeh b;have hb':QiK s 0=some b:=hb
   simp only[h1,h2,decide_false,cond_false,hb',Option.bind_some,hq]
   cases q with
   | false=>rfl
   | true =>
    simp only[Bool.not_true,cond_false]
    obtain ⟨o,ho⟩:=Qll s (by omega) (s.size-1) 1 (by omega)
    rw[show ((1:Nat):Int)=1 from rfl] at ho
    rw[Qgr ho (by omega)]
    have e2:iter (QZ s) (((s.size:Nat):Int).toNat+1) 0=some o:=by
     rw[iter]
     have:QZ s 0=some (.inl 1):=by
      simp only[QZ]
      rw[show decide ((0:Int)<((s.size:Nat):Int))=true by simp;omega]
      simp only[cond_true,hb',Option.bind_some,hq,Bool.not_true,cond_false]
      rfl
     rw[this]
     exact Qgr ho (by simp;omega)
    rw[e2]
theorem Qkv {F:Nat} (hF:33≤F) (v:Qp) (n m:Int):QaA F v n m=Yd v n m:=by
 unfold QaA Yd
 rw[QnK hF]
theorem Qkf {α ρ:Type} (p:α→Bool) (o fin:ρ): ∀(l:List α) (k:Nat),YI (fun _ y=>bif p y then some o else none) fin k l=bif l.any p then o else fin
 | [],_=>rfl
 | x::l,k=>by
  simp only[YI,List.any_cons]
  cases p x
  ·simpa using Qkf p o fin l (k+1)
  ·rfl
theorem Qkg {α:Type} (p:α→Bool): ∀(l:List α) (k:Nat),(YI (fun (k:Nat) y=>bif p y then some (.inr (k:Int)) else none) (.inl ():Unit⊕Int) k l= .inl ()∧l.any p=false) ∨
  ∃j:Nat,YI (fun (k:Nat) y=>bif p y then some (.inr (k:Int)) else none) (.inl ():Unit⊕Int) k l= .inr (j:Int)∧l.any p=true
 | [],_=> .inl ⟨rfl,rfl⟩
 | x::l,k=>by
  simp only[YI,List.any_cons]
  cases p x
  ·simpa using Qkg p l (k+1)
  ·exact .inr ⟨k,rfl,rfl⟩
def QeC {α β:Type} [DecidableEq β] (f:α→β) (l:List α) (k:Nat) (x:α):Option (Unit⊕Int):=bif (l.take k).any (fun y=>decide (f x=f y)) then some (.inr 6) else none
theorem Qqm {α β:Type} [DecidableEq β] (f:α→β) (l:List α) (hn:l.length<1000000) {b2:Int→Int→Option (Int⊕(Unit⊕Int))} {b3:Int→Option (Int⊕(Unit⊕Int))}
  (h2: ∀(i k:Nat) (x y:α),l[i]? =some x→l[k]? =some y→k<i→b2 i k=some (bif decide (f x=f y) then .inr (.inr 6) else .inl (w64 ((k:Int)+1))))
  (h2f: ∀i:Nat,b2 i i=some (.inr (.inl ())))
  (h3: ∀i:Nat,i<l.length→b3 i=Option.bind (Option.bind (iter (b2 i) ((i:Int).toNat+1) 0) (fun o_=>QI o_ (fun _=>some (.inl ())) (fun rv=>some (.inr rv)))) (fun o_=>QI o_ (fun _:Unit=>some (.inl (w64 ((i:Int)+1)))) (fun rv=>some (.inr (.inr rv)))))
  (h3f:b3 (l.length:Nat)=some (.inr (.inl ()))):iter b3 (((l.length:Nat):Int).toNat+1) 0=some (YI (QeC f l) (.inl ()) 0 l):=by
 refine YN l (QeC f l) (.inl ()) (by omega) (fun i x hx=> ?_) h3f _ (by simp);have hi:=Qt hx
 rw[h3 i hi]
 have:=YN (body:=b2 i) (l.take i) (fun _ y=>bif decide (f x=f y) then some (.inr 6) else none) (.inl ():Unit⊕Int) (by simp;omega) (fun k y hy=> ?_) (by rw[Yk (Nat.le_of_lt hi)];exact h2f i) ((i:Int).toNat+1) (by rw[Yk (Nat.le_of_lt hi)];omega)
 ·rw[this,Qkf]
  unfold QeC
  generalize (l.take i).any _=b
  cases b<;>rfl
 ·have hk:=Qt hy
  rw[Yk (Nat.le_of_lt hi)] at hk
  rw[List.getElem?_take,if_pos hk] at hy
  rw[h2 i k x y hx hy hk]
  cases decide (f x=f y)<;>rfl
def QoQ (l:List Qp):List (ByteArray×Bool):=l.foldl (fun m x=>QiN x.ID true m) []
theorem Qjn {β:Type} (k j:ByteArray) (v:β): ∀(m:List (ByteArray×β)),QdL j (QiN k v m)=if k=j then some v else QdL j m
 | []=>by simp[QiN,QdL]
 | p::m=>by
  simp only[QiN]
  by_cases h:p.1=k
  ·subst h
   by_cases h2:p.1=j<;>simp[QdL,h2]
  ·by_cases h2:p.1=j
   ·have: ¬k=j:=fun e=>h (by rw[h2,e])
    rw[if_neg h,if_neg this]
    simp[QdL,h2]
   ·simp[QdL,h,h2,Qjn k j v m]
theorem Qnq (l:List Qp) (id:ByteArray): ∀(m:List (ByteArray×Bool)),(QdL id (l.foldl (fun m x=>QiN x.ID true m) m)).getD false=(l.any (fun y=>decide (id=y.ID))||(QdL id m).getD false):=by
 induction l with
 | nil=>intro m;simp
 | cons x l ih =>
  intro m
  rw[List.foldl_cons,ih,List.any_cons,Qjn]
  by_cases h:x.ID=id
  ·simp[h]
  ·have: ¬id=x.ID:=fun e=>h e.symm
   simp[h,this]
theorem Qiz (l:List Qp) (hn:l.length≤16):iter (WX l) (((l.length:Nat):Int).toNat+1) ([],0)=some (YI (QeC (·.ID) l) (.inl ()) 0 l):=by
 refine YX (body:=WX l) l (fun k=>QoQ (l.take k)) (fun m k=>(m,k)) (QeC (·.ID) l) (.inl ()) (by omega) (fun k x hx _=> ?_) (fun _=>by simp[WX,oun]) _ (by simp);have hk:=Qt hx;have hk2:((k:Int)<(l.length:Nat)):=by omega
 simp only[WX,oun,hk2,decide_true,cond_true,Qs,hx,Option.bind_some]
 rw[QoQ,Qnq,YK hx]
 simp only[QdL,Option.getD_none,Bool.or_false,QeC,QoQ,List.foldl_append,List.foldl_cons,List.foldl_nil]
 generalize (l.take k).any _=b
 cases b<;>rfl
theorem Qdm {F:Nat} (hF:33≤F) (l:List Qp) (n m:Int):VT F l n m=Ys l n m:=by
 unfold VT Ys;have e1:WW F l n m=Q4 l n m:=by
  funext i
  simp only[WW,Q4,Qkv hF]
 rw[e1]
 by_cases h:(16:Int)<((l.length:Nat):Int)
 ·simp only[h,decide_true,cond_true]
 ·have e3:=Qqm (·.ID) l (by omega) (b2:=Jh l) (b3:=Ji l) (fun i k x y hx hy hk=>by
    have:((k:Int)<(i:Int)):=by omega
    simp only[Jh,this,decide_true,cond_true,Qs,hx,hy,Option.bind_some]
    cases decide (x.ID=y.ID)<;>rfl) (fun i=>by simp[Jh]) (fun i hi=>by
    have:((i:Int)<((l.length:Nat):Int)):=by omega
    simp only[Ji,this,decide_true,cond_true]) (by simp[Ji])
  rw[e3,Qiz l (by omega)]
theorem Qnz (n a b:Int):Vl n a b=some (decide (a≤n)&&decide (n≤b)):=by
 unfold Vl
 rw[QnN]
 rfl
theorem QjC (l:List Qw) (n m:Int):QaB l n m=Q7 l n m:=by
 funext i
 simp only[QaB,Q7]
 cases decide (i<((l.length:Nat):Int)) with
 | false=>rfl
 | true =>
  simp only[cond_true]
  cases getI l i with
  | none=>rfl
  | some x =>
   simp only[Option.bind_some,Qdp,Qnz,Zc,Bool.not_and]
   have e1:(!decide (0≤x.Container)|| !decide (x.Container≤255))=(decide (x.Container<0)||decide (256≤x.Container)):=by
    rw[Bool.eq_iff_iff];simp;omega
   have e2:(!decide (0≤x.Grams)|| !decide (x.Grams≤1073741824))=(decide (x.Grams<0)||decide (1073741824<x.Grams)):=by
    rw[Bool.eq_iff_iff];simp
   have e3:(!decide (0≤x.Service)|| !decide (x.Service≤3600))=(decide (x.Service<0)||decide (3600<x.Service)):=by
    rw[Bool.eq_iff_iff];simp
   rw[e1,e2,e3]
   have key: ∀(a b c d:Bool),(bif a||b then some true else some (c||d))=some (a||(b||(c||d))):=by intro a b c d;cases a<;>cases b<;>rfl
   simp only[Zc,Bool.or_assoc]
   generalize (decide (x.Container<0)||_)=a
   generalize (decide (x.Grams<0)||_)=b
   cases a<;>cases b<;>rfl
theorem Qg4 (L:List Qw) (hn:L.length≤32) (x:Qw):YU L x=some (L.any fun y=>decide (x.Container=y.Container)):=by
 unfold YU Jo;have:=YN (body:=YV L x) L (fun k y=>bif decide (x.Container=y.Container) then some (.inr (k:Int)) else none) (.inl ():Unit⊕Int) (by omega) (fun k y hy=> ?_) (by simp[YV]) (((L.length:Nat):Int).toNat+1) (by simp)
 ·rw[this]
  rcases Qkg (fun y:Qw=>decide (x.Container=y.Container)) L 0 with ⟨h1,h2⟩ | ⟨j,h1,h2⟩
  ·rw[h1,h2];rfl
  ·rw[h1,h2]
   simp only[Option.bind_some,QI]
   simp
 ·have hk:=Qt hy;have hk2:((k:Int)<(L.length:Nat)):=by omega
  simp only[YV,hk2,decide_true,cond_true,Qs,hy,Option.bind_some,Qa2]
  rw[show decide (y.Container=x.Container)=decide (x.Container=y.Container) by rw[Bool.eq_iff_iff];simp[eq_comm]]
  cases decide (x.Container=y.Container)<;>rfl
theorem VR {α:Type} {l:List α} {k:Nat} (h:k≤l.length):WI l 0 (k:Int)=some (l.take k):=by
 unfold WI
 rw[if_pos ⟨by omega,by omega,by omega⟩]
 simp
theorem Qg2 (l:List Qw) (n m:Int):Qa1 l n m=Yt l n m:=by
 unfold Qa1 Yt
 rw[QjC]
 by_cases h:(32:Int)<((l.length:Nat):Int)
 ·simp only[h,decide_true,cond_true]
 ·have e3:=Qqm (·.Container) l (by omega) (b2:=Yx l) (b3:=Yy l) (fun i k x y hx hy hk=>by
    have:((k:Int)<(i:Int)):=by omega
    simp only[Yx,this,decide_true,cond_true,Qs,hx,hy,Option.bind_some]
    cases decide (x.Container=y.Container)<;>rfl) (fun i=>by simp[Yx]) (fun i hi=>by
    have:((i:Int)<((l.length:Nat):Int)):=by omega
    simp only[Yy,this,decide_true,cond_true]) (by simp[Yy])
  have e4:iter (VL l) (((l.length:Nat):Int).toNat+1) 0=some (YI (QeC (·.Container) l) (.inl ()) 0 l):=by
   refine YN l (QeC (·.Container) l) (.inl ()) (by omega) (fun k x hx=> ?_) (by simp[VL]) _ (by simp);have hk:=Qt hx;have hk2:((k:Int)<(l.length:Nat)):=by omega
   simp only[VL,hk2,decide_true,cond_true,Qs,hx,Option.bind_some,VR (Nat.le_of_lt hk),QeC]
   rw[Qg4 _ (by simp;omega)]
   simp only[Option.bind_some]
   generalize (l.take k).any _=b
   cases b<;>rfl
  rw[e3,e4]
theorem ZJ {F:Nat} (hF:33≤F) (p:Qe) (hn:p.Road.Edges.length≤600):VI F p=Qo p:=by
 unfold VI Qo
 rw[Qe0 _ hn,Qac _ hn]
 simp only[Qdm hF,Qg2]
theorem Qbo {ρ:Type} {body:Int→Option (Int⊕ρ)} {N:Nat} (hN:N<1000000) (hb: ∀k:Nat,k<N→(∃r,body k=some (.inr r))∨body k=some (.inl ((k+1:Nat):Int))) (hf: ∃r,body (N:Nat)=some (.inr r)) :
  ∀(m k:Nat),k+m=N→ ∃o,iter body (m+1) (k:Int)=some o
 | 0,k,h=>by
  obtain ⟨r,hr⟩:=hf;obtain rfl:k=N:=by omega
  exact ⟨r,by rw[iter,hr];rfl⟩
 | m+1,k,h=>by
  rcases hb k (by omega) with ⟨r,hr⟩ | hr
  ·exact ⟨r,by rw[iter,hr];rfl⟩
  ·obtain ⟨o,ho⟩:=Qbo hN hb hf m (k+1) (by omega);exact ⟨o,by rw[iter,hr];exact ho⟩
theorem Qlf (p:Qe):(∃b,Jj p=some b)∧(Jj p=some false→p.Road.Edges.length≤600∧p.Vehicles.length≤30∧p.Demands.length≤60):=by
 unfold Jj
 simp only[Zc,Option.bind_some]
 by_cases h:(decide ((600:Int)<((p.Road.Edges.length:Nat):Int))||(decide ((30:Int)<((p.Vehicles.length:Nat):Int))||decide ((60:Int)<((p.Demands.length:Nat):Int))))=true
 ·rw[h]
  exact ⟨⟨true,rfl⟩,fun e=>by cases e⟩
 ·rw[Bool.not_eq_true] at h
  rw[h]
  simp only[Bool.or_eq_false_iff,decide_eq_false_iff_not] at h
  obtain ⟨o,ho⟩:=Qbo (body:=Jk p) (N:=p.Vehicles.length) (by omega) (fun k hk=>by
   obtain ⟨x,hx⟩: ∃x,p.Vehicles[k]? =some x:=⟨_,List.getElem?_eq_getElem hk⟩
   have hk2:((k:Int)<((p.Vehicles.length:Nat):Int)):=by omega
   simp only[Jk,hk2,decide_true,cond_true,Qs,hx,Option.bind_some,Wn (show k<9223372036854775807 by omega)]
   cases decide ((200:Int)<((x.ID.size:Nat):Int)) with
   | true=>exact .inl ⟨_,rfl⟩
   | false=>exact .inr rfl) ⟨_,by simp[Jk];rfl⟩ p.Vehicles.length 0 (by omega)
  refine ⟨?_,fun _=>by omega⟩
  simp only[cond_false]
  rw[show (((p.Vehicles.length:Nat):Int).toNat+1)=p.Vehicles.length+1 by simp,show (0:Int)=((0:Nat):Int) from rfl,ho]
  cases o with
  | inl u=>exact ⟨false,rfl⟩
  | inr b=>exact ⟨b,rfl⟩
theorem QhF (l:List Qw) (n m:Int) (hn:l.length≤32): ∃o,iter (Q7 l n m) (((l.length:Nat):Int).toNat+1) 0=some o:=by
 obtain ⟨o,ho⟩:=Qbo (body:=Q7 l n m) (N:=l.length) (by omega) (fun k hk=>by
   obtain ⟨x,hx⟩: ∃x,l[k]? =some x:=⟨_,List.getElem?_eq_getElem hk⟩
   have hk2:((k:Int)<((l.length:Nat):Int)):=by omega
   simp only[Q7,hk2,decide_true,cond_true,Qs,hx,Option.bind_some,Zc,Wn (show k<9223372036854775807 by omega)]
   generalize (decide (x.Container<0)||_)=a
   generalize (decide (x.Grams<0)||_)=b
   cases a<;>cases b<;>first | exact .inr rfl | exact .inl ⟨_,rfl⟩) ⟨_,by simp[Q7];rfl⟩ l.length 0 (by omega)
 exact ⟨o,by simpa using ho⟩
theorem QfX (v:Qp) (n:Int): ∃e,Yd v n 16=some e:=by
 unfold Yd;have hv: ∃b,ZG v.ID=some b:=by
  unfold ZG
  by_cases h1:((v.ID.size:Nat):Int)<1
  ·exact ⟨false,by simp only[h1,decide_true,cond_true,Option.bind_some]⟩
  ·by_cases h2:(32:Int)<((v.ID.size:Nat):Int)
   ·exact ⟨false,by simp only[h1,h2,decide_true,decide_false,cond_true,cond_false,Option.bind_some]⟩
   ·obtain ⟨b,hb⟩:=QjJ (s:=v.ID) (k:=0) (by omega);obtain ⟨q,hq⟩:=Qeh b;have hb':QiK v.ID 0=some b:=hb;obtain ⟨o,ho⟩:=Qll v.ID (by omega) v.ID.size 0 (by omega)
    simp only[h1,h2,decide_false,cond_false,hb',Option.bind_some,hq]
    rw[show (((v.ID.size:Nat):Int).toNat+1)=v.ID.size+1 by simp,show (0:Int)=((0:Nat):Int) from rfl,ho]
    cases q<;>cases o<;>exact ⟨_,rfl⟩
 obtain ⟨b,hb⟩:=hv
 rw[hb]
 simp only[Option.bind_some,Zc,QaM (show (0:Int)≤16∧(16:Int)≤64 by decide)]
 generalize (decide (v.Depot<0)||_)=c1
 generalize (decide (v.Shift.From<0)||_)=c2
 generalize (decide (v.Grams<1)||_)=c3
 generalize (decide (v.Kinds<1)||_)=c4
 cases b<;>cases c1<;>cases c2<;>cases c3<;>cases c4<;>exact ⟨_,rfl⟩
theorem QlS (l:List Qp) (n:Int): ∃e,Ys l n 16=some e:=by
 by_cases h:(16:Int)<((l.length:Nat):Int)
 ·unfold Ys
  simp only[Zc,Option.bind_some,h,decide_true,cond_true]
  generalize (decide (n<1)||_)=a
  generalize decide (((l.length:Nat):Int)=0)=b
  cases a<;>cases b<;>exact ⟨_,rfl⟩
 ·obtain ⟨o,ho⟩:=Qbo (body:=Q4 l n 16) (N:=l.length) (by omega) (fun k hk=>by
   obtain ⟨x,hx⟩: ∃x,l[k]? =some x:=⟨_,List.getElem?_eq_getElem hk⟩
   obtain ⟨e,he⟩:=QfX x n;have hk2:((k:Int)<((l.length:Nat):Int)):=by omega
   simp only[Q4,hk2,decide_true,cond_true,Qs,hx,Option.bind_some,he,Wn (show k<9223372036854775807 by omega)]
   cases decide (e=0)<;>first | exact .inr rfl | exact .inl ⟨_,rfl⟩) ⟨_,by simp[Q4];rfl⟩ l.length 0 (by omega)
  have h2:=Qdm (F:=33) (Nat.le_refl _) l n 16
  rw[←h2]
  unfold VT;have e1:WW 33 l n 16=Q4 l n 16:=by
   funext i
   simp only[WW,Q4,Qkv (F:=33) (Nat.le_refl _)]
  rw[e1,Qiz l (by omega),show (((l.length:Nat):Int).toNat+1)=l.length+1 by simp,show (0:Int)=((0:Nat):Int) from rfl,ho]
  simp only[Zc,Option.bind_some,h,decide_false,cond_false]
  generalize (decide (n<1)||_)=a
  generalize decide (((l.length:Nat):Int)=((0:Nat):Int))=b
  generalize YI (QeC (·.ID) l) (.inl ()) 0 l=q
  cases a<;>cases b<;>cases o<;>cases q<;>exact ⟨_,rfl⟩
theorem QlV (p:Qe) (hn:p.Road.Edges.length≤600): ∃e,Qo p=some e:=by
 unfold Qo
 rw[Qac _ hn]
 obtain ⟨e2,he2⟩:=QlS p.Vehicles p.Road.Nodes;have he3: ∃e,Yt p.Demands p.Road.Nodes 16=some e:=by
  by_cases h:(32:Int)<((p.Demands.length:Nat):Int)
  ·exact ⟨8,by unfold Yt;simp only[h,decide_true,cond_true]⟩
  ·obtain ⟨o,ho⟩:=QhF p.Demands p.Road.Nodes 16 (by omega);unfold Yt;have e3:=Qqm (·.Container) p.Demands (by omega) (b2:=Yx p.Demands) (b3:=Yy p.Demands) (fun i k x y hx hy hk=>by
    have:((k:Int)<(i:Int)):=by omega
    simp only[Yx,this,decide_true,cond_true,Qs,hx,hy,Option.bind_some]
    cases decide (x.Container=y.Container)<;>rfl) (fun i=>by simp[Yx]) (fun i hi=>by
    have:((i:Int)<((p.Demands.length:Nat):Int)):=by omega
    simp only[Yy,this,decide_true,cond_true]) (by simp[Yy])
   rw[ho,e3]
   simp only[h,decide_false,cond_false,Option.bind_some]
   generalize YI (QeC (·.Container) p.Demands) (.inl ()) 0 p.Demands=q
   cases o<;>cases q<;>exact ⟨_,rfl⟩
 obtain ⟨e3,he3⟩:=he3
 simp only[he2,he3,Option.bind_some,Zc]
 generalize decide (QcG p.Road=0)=a
 generalize decide (e2=0)=b
 generalize decide (e3=0)=c
 generalize (decide (p.Unload<0)||_)=d
 generalize (decide (p.UnloadSecs<0)||_)=f
 cases a<;>cases b<;>cases c<;>cases d<;>cases f<;>exact ⟨_,rfl⟩
end Go.Proofs.YthpgjbbjpfiniaaGreat
namespace Go.Proofs.YthpgjbbjpfiniaaGreat
open Go.RowKit
set_option linter.unusedSimpArgs false
set_option linter.unusedVariables false
abbrev It:=QQ
abbrev Qu:=Qg
abbrev Lg:=Ql
def Lg.lt (a b:Lg):Prop:=a.Secs<b.Secs∨(a.Secs=b.Secs∧a.Meters<b.Meters)
def Lg.le (a b:Lg):Prop:=a.Secs<b.Secs∨(a.Secs=b.Secs∧a.Meters≤b.Meters)
instance (a b:Lg):Decidable (Lg.lt a b):=by unfold Lg.lt;infer_instance
instance (a b:Lg):Decidable (Lg.le a b):=by unfold Lg.le;infer_instance
theorem Lg.le_of_not_lt {a b:Lg} (h: ¬Lg.lt a b):Lg.le b a:=by unfold Lg.lt at h;unfold Lg.le;omega
theorem Lg.le_of_lt {a b:Lg} (h:Lg.lt a b):Lg.le a b:=by unfold Lg.lt at h;unfold Lg.le;omega
theorem Lg.le_refl (a:Lg):Lg.le a a:=by unfold Lg.le;omega
theorem Lg.le_trans {a b c:Lg} (h:Lg.le a b) (h2:Lg.le b c):Lg.le a c:=by unfold Lg.le at *;omega
abbrev noL:Lg:=⟨-1,0⟩
theorem QiU (a b:Lg):QaR a b=some (decide (b=noL)||decide (Lg.lt a b)):=by
 unfold QaR Qcc
 simp only[Option.bind_some]
 by_cases h:b=noL
 ·simp[h]
 ·by_cases h1:a.Secs<b.Secs
  ·simp[h,h1,Lg.lt]
  ·by_cases h2:a.Secs=b.Secs
   ·simp[h,h1,h2,Lg.lt]
   ·simp[h,h1,h2,Lg.lt]
def okI (x:It):Prop:=0≤x.value.leg.Secs
theorem QmB {a b:Q9} (hb:0≤b.leg.Secs):VQ a b=some (decide (Lg.lt a.leg b.leg)):=by
 unfold VQ
 rw[QiU]
 have hn:b.leg≠noL:=by intro e;rw[e] at hb;exact absurd hb (by decide)
 by_cases h:a.leg=b.leg
 ·rw[h]
  simp[Lg.lt]
 ·simp[h,hn]
def bef (x y:It):Bool:=decide (Lg.lt x.value.leg y.value.leg)||(decide (x.n<y.n)&& !decide (Lg.lt y.value.leg x.value.leg))
theorem Qlo {x y:It} (h:bef x y=true):Lg.le x.value.leg y.value.leg:=by
 simp only[bef,Bool.or_eq_true,Bool.and_eq_true,decide_eq_true_eq,Bool.not_eq_true',decide_eq_false_iff_not] at h
 rcases h with h | ⟨_,h⟩
 ·exact Lg.le_of_lt h
 ·exact Lg.le_of_not_lt h
theorem Qjy {x y:It} (h:bef x y=false):Lg.le y.value.leg x.value.leg:=by
 simp only[bef,Bool.or_eq_false_iff,decide_eq_false_iff_not] at h
 exact Lg.le_of_not_lt h.1
theorem QiT {q:Qu} {i k:Nat} {x y:It} (hx:q.heap[i]? =some x) (hy:q.heap[k]? =some y) (h1:okI x) (h2:okI y):Zf q i k=some (bef x y):=by
 unfold Zf
 simp only[Qs,hx,hy,Option.bind_some,oun]
 rw[QmB (a:=⟨x.value.node,⟨x.value.leg.Secs,x.value.leg.Meters⟩⟩) (b:=⟨y.value.node,⟨y.value.leg.Secs,y.value.leg.Meters⟩⟩) h2,QmB (a:=⟨y.value.node,⟨y.value.leg.Secs,y.value.leg.Meters⟩⟩) (b:=⟨x.value.node,⟨x.value.leg.Secs,x.value.leg.Meters⟩⟩) h1]
 simp only[Option.bind_some]
 unfold bef;cases decide (Lg.lt x.value.leg y.value.leg)<;>cases decide (x.n<y.n)<;>rfl
def swp (h:List It) (i k:Nat):List It:=match h[i]?,h[k]? with
 | some x,some y=>(h.set i y).set k x
 | _,_=>h
theorem Qj5 {q:Qu} {i k:Nat} (hi:i<q.heap.length) (hk:k<q.heap.length):Y5 q i k=some ⟨swp q.heap i k,q.count⟩:=by
 unfold Y5 swp
 simp only[Qs,List.getElem?_eq_getElem hi,List.getElem?_eq_getElem hk,Option.bind_some,Yi,Int.toNat_natCast]
 rw[List.getElem?_eq_getElem (by simpa using hk)]
 rfl
theorem Qbu (h:List It) (i k:Nat):(swp h i k).length=h.length:=by unfold swp;split<;>simp
theorem Qiu {h:List It} {i k:Nat} (hi:i<h.length) (hk:k<h.length):(swp h i k).Perm h:=by
 unfold swp
 simp only[List.getElem?_eq_getElem hi,List.getElem?_eq_getElem hk]
 exact List.set_set_perm hi hk
theorem QdM {h:List It} {i k:Nat} (hi:i<h.length) (hk:k<h.length) (j:Nat):(swp h i k)[j]? =if j=k then h[i]? else if j=i then h[k]? else h[j]? :=by
 unfold swp
 simp only[List.getElem?_eq_getElem hi,List.getElem?_eq_getElem hk]
 rw[List.getElem?_set,List.getElem?_set]
 simp only[List.length_set]
 by_cases h1:k=j
 ·subst h1;simp[hk]
 ·have h1': ¬j=k:=fun e=>h1 e.symm
  by_cases h2:i=j
  ·subst h2;simp[h1,h1',hi]
  ·have h2': ¬j=i:=fun e=>h2 e.symm
   simp[h1,h2,h1',h2']
end Go.Proofs.YthpgjbbjpfiniaaGreat
namespace Go.Proofs.YthpgjbbjpfiniaaGreat
open Go.RowKit
set_option linter.unusedSimpArgs false
set_option linter.unusedVariables false
abbrev kle (x y:It):Prop:=Lg.le x.value.leg y.value.leg
def okH (h:List It):Prop:= ∀x∈h,okI x
theorem okH.get {h:List It} (ho:okH h) {k:Nat} {x:It} (hx:h[k]? =some x):okI x:=ho x (List.mem_of_getElem? hx)
theorem okH.perm {h h':List It} (ho:okH h) (hp:h'.Perm h):okH h':=fun x hx=>ho x (hp.mem_iff.1 hx)
def Hp (h:List It):Prop:= ∀(k:Nat) (x y:It),1≤k→h[k]? =some x→h[(k-1)/2]? =some y→kle y x
theorem Hp.root {h:List It} (hh:Hp h) {r:It} (hr:h[0]? =some r): ∀(k:Nat) (x:It),h[k]? =some x→kle r x:=by
 intro k
 induction k using Nat.strongRecOn with
 | ind k ih =>
  intro x hx;rcases Nat.eq_zero_or_pos k with rfl | hk
  ·rw[hr] at hx;injection hx with hx;subst hx;exact Lg.le_refl _
  ·have hlt:=Qt hx;have hy:h[(k-1)/2]? =some h[(k-1)/2]:=List.getElem?_eq_getElem (by omega);exact Lg.le_trans (ih _ (by omega) _ hy) (hh k x _ hk hx hy)
def HpU (h:List It) (i:Nat):Prop:=(∀(k:Nat) (x y:It),1≤k→k≠i→h[k]? =some x→h[(k-1)/2]? =some y→kle y x) ∧
 ∀(c:Nat) (x y:It),1≤i→1≤c→(c-1)/2=i→h[c]? =some x→h[(i-1)/2]? =some y→kle y x
def HpD (h:List It) (i:Nat):Prop:=(∀(k:Nat) (x y:It),1≤k→(k-1)/2≠i→h[k]? =some x→h[(k-1)/2]? =some y→kle y x) ∧
 ∀(c:Nat) (x y:It),1≤i→1≤c→(c-1)/2=i→h[c]? =some x→h[(i-1)/2]? =some y→kle y x
theorem HpU.step {h:List It} {i:Nat} (hi:1≤i) (hl:i<h.length) (hu:HpU h i) {x y:It} (hx:h[i]? =some x) (hy:h[(i-1)/2]? =some y) (hle:kle x y):HpU (swp h i ((i-1)/2)) ((i-1)/2):=by
 have hp:(i-1)/2<h.length:=by omega
 generalize hpe:(i-1)/2=p at *
 refine ⟨fun k a b hk hkp ha hb=> ?_,fun c a b h1 hc hcp ha hb=> ?_⟩
 ·rw[QdM hl hp] at ha hb
  rw[if_neg hkp] at ha
  by_cases hki:k=i
  ·subst hki
   rw[if_pos rfl] at ha
   rw[hpe,if_pos rfl] at hb
   rw[hy] at ha;rw[hx] at hb
   injection ha with ha;injection hb with hb
   subst ha;subst hb;exact hle
  ·rw[if_neg hki] at ha
   by_cases h2:(k-1)/2=p
   ·rw[if_pos h2,hx] at hb
    injection hb with hb;subst hb
    exact Lg.le_trans hle (hu.1 k a y hk hki ha (by rw[h2];exact hy))
   ·rw[if_neg h2] at hb
    by_cases h3:(k-1)/2=i
    ·rw[if_pos h3] at hb
     exact hu.2 k a b hi hk h3 ha (by rw[hpe];exact hb)
    ·rw[if_neg h3] at hb
     exact hu.1 k a b hk hki ha hb
 ·rw[QdM hl hp] at ha hb
  rw[if_neg (by omega),if_neg (by omega)] at hb
  have hpp:kle b y:=hu.1 p y b h1 (by omega) hy hb
  by_cases hci:c=i
  ·subst hci
   rw[if_neg (by omega),if_pos rfl,hy] at ha
   injection ha with ha;subst ha
   exact hpp
  ·rw[if_neg (by omega),if_neg hci] at ha
   exact Lg.le_trans hpp (hu.1 c a y hc hci ha (by rw[hcp];exact hy))
theorem HpU.zero {h:List It} (hu:HpU h 0):Hp h:=fun k x y hk hx hy=>hu.1 k x y hk (by omega) hx hy
theorem HpU.stop {h:List It} {i:Nat} (hu:HpU h i) {x y:It} (hx:h[i]? =some x) (hy:h[(i-1)/2]? =some y) (hle:kle y x):Hp h:=by
 intro k a b hk ha hb
 by_cases hki:k=i
 ·subst hki
  rw[hx] at ha;rw[hy] at hb
  injection ha with ha;injection hb with hb
  subst ha;subst hb;exact hle
 ·exact hu.1 k a b hk hki ha hb
theorem HpD.step {h:List It} {i n:Nat} (hl:n<h.length) (hn:n=2*i+1∨n=2*i+2) (hd:HpD h i) {x y:It} (hx:h[n]? =some x) (hy:h[i]? =some y) (hmin: ∀(j:Nat) (z:It),(j=i∨j=2*i+1∨j=2*i+2)→h[j]? =some z→kle x z):HpD (swp h i n) n:=by
 have hi:i<h.length:=by omega
 refine ⟨fun k a b hk hkp ha hb=> ?_,fun c a b h1 hc hcp ha hb=> ?_⟩
 ·rw[QdM hi hl] at ha hb
  rw[if_neg hkp] at hb
  by_cases h2:(k-1)/2=i
  ·rw[if_pos h2,hx] at hb
   injection hb with hb;subst hb
   by_cases hkn:k=n
   ·rw[if_pos hkn] at ha
    exact hmin i a (.inl rfl) ha
   ·rw[if_neg hkn,if_neg (by omega)] at ha
    exact hmin k a (by omega) ha
  ·rw[if_neg h2] at hb
   by_cases hki:k=i
   ·subst hki
    rw[if_neg (by omega),if_pos rfl] at ha
    exact hd.2 n a b hk (by omega) (by omega) ha hb
   ·rw[if_neg (by omega),if_neg hki] at ha
    exact hd.1 k a b hk h2 ha hb
 ·rw[QdM hi hl] at ha hb
  have h3:(n-1)/2=i:=by omega
  rw[h3,if_neg (by omega),if_pos rfl,hx] at hb
  injection hb with hb;subst hb
  rw[if_neg (by omega),if_neg (by omega)] at ha
  exact hd.1 c a x hc (by omega) ha (by rw[hcp];exact hx)
theorem HpD.stop {h:List It} {i:Nat} (hd:HpD h i) {y:It} (hy:h[i]? =some y) (hmin: ∀(j:Nat) (z:It),(j=i∨j=2*i+1∨j=2*i+2)→h[j]? =some z→kle y z):Hp h:=by
 intro k a b hk ha hb
 by_cases h2:(k-1)/2=i
 ·rw[h2,hy] at hb
  injection hb with hb;subst hb
  exact hmin k a (by omega) ha
 ·exact hd.1 k a b hk h2 ha hb
theorem Qqs {i:Nat} (h1:1≤i) (h2:i<1000000000):w64 (Int.tdiv (w64 ((i:Int)-1)) 2)=(((i-1)/2:Nat):Int):=by
 rw[Yg (n:=(i:Int)-1) (by omega) (by omega),Int.tdiv_eq_ediv_of_nonneg (by omega),Yg (by omega) (by omega)]
 omega
theorem QmX: ∀(i:Nat) (F:Nat) (h:List It) (c:Int),i<F→i<h.length→h.length<1000000000→okH h→HpU h i →
  ∃h',(iter YZ F (⟨h,c⟩,(i:Int))=some (.inl ⟨h',c⟩)∨iter YZ F (⟨h,c⟩,(i:Int))=some (.inr ⟨h',c⟩))∧h'.Perm h∧Hp h':=by
 intro i
 induction i using Nat.strongRecOn with
 | ind i ih =>
  intro F h c hF hl hb ho hu;obtain ⟨F,rfl⟩: ∃f,F=f+1:=⟨F-1,by omega⟩
  rcases Nat.eq_zero_or_pos i with rfl | hi
  ·exact ⟨h,.inl (by rw[iter];rfl),.refl _,hu.zero⟩
  ·have hx:h[i]? =some h[i]:=List.getElem?_eq_getElem hl;have hp:(i-1)/2<h.length:=by omega
   have hy:h[(i-1)/2]? =some h[(i-1)/2]:=List.getElem?_eq_getElem hp
   generalize h[i]=x at hx
   generalize h[(i-1)/2]=y at hy
   have hbody:YZ (⟨h,c⟩,(i:Int))=if bef x y=true then some (.inl (⟨swp h i ((i-1)/2),c⟩,(((i-1)/2:Nat):Int))) else some (.inr (.inr ⟨h,c⟩)):=by
    simp only[YZ,oun]
    rw[show decide ((0:Int)<(i:Int))=true by simp;omega]
    simp only[cond_true,Qqs hi (by omega)]
    rw[QiT hx hy (ho.get hx) (ho.get hy)]
    simp only[Option.bind_some]
    cases bef x y with
    | false=>rfl
    | true =>
     simp only[Bool.not_true,cond_false]
     rw[Qj5 hl hp]
     rfl
   rw[iter,hbody]
   cases hbe:bef x y with
   | false=>exact ⟨h,.inr rfl,.refl _,hu.stop hx hy (Qjy hbe)⟩
   | true =>
    have hpm:=Qiu hl hp;obtain ⟨h',h1,h2,h3⟩:=ih ((i-1)/2) (by omega) F (swp h i ((i-1)/2)) c (by omega) (by rw[Qbu];exact hp) (by rw[Qbu];exact hb) (ho.perm hpm) (hu.step hi hl hx hy (Qlo hbe));exact ⟨h',h1,h2.trans hpm,h3⟩
theorem Qmj {F:Nat} {q:Qu} (x:Q9) (hF:q.heap.length<F) (hl:q.heap.length<1000000) (ho:okH q.heap) (hx:0≤x.leg.Secs) (hh:Hp q.heap) :
  ∃q',ZK F q x=some q'∧q'.heap.Perm (q.heap++[⟨x,q.count⟩])∧Hp q'.heap:=by
 unfold ZK
 rw[Yj (by simp;omega)]
 simp only[Option.bind_some]
 have e1:w64 (((((q.heap++[⟨x,q.count⟩]:List It).length:Nat):Int))-1)=((q.heap.length:Nat):Int):=by
  rw[List.length_append,List.length_singleton,Yg (by omega) (by omega)];omega
 rw[e1]
 obtain ⟨h',h1,h2,h3⟩:=QmX q.heap.length F (q.heap++[⟨x,q.count⟩]) (w64 (q.count+1)) hF (by simp) (by simp;omega) (by
   intro y hy;rcases List.mem_append.1 hy with hy | hy
   ·exact ho y hy
   ·rw[List.mem_singleton.1 hy];exact hx) ⟨fun k a b hk hkn ha hb=>by
   have hka:=Qt ha
   rw[List.length_append,List.length_singleton] at hka
   rw[List.getElem?_append_left (by omega)] at ha hb
   exact hh k a b hk ha hb,fun c a b _ hc hcp ha _=>by
   have hka:=Qt ha
   rw[List.length_append,List.length_singleton] at hka
   omega⟩
 rcases h1 with h1 | h1
 ·exact ⟨⟨h',_⟩,by rw[h1];rfl,h2,h3⟩
 ·exact ⟨⟨h',_⟩,by rw[h1];rfl,h2,h3⟩
theorem Qgx {h:List It} {c:Int} {i n k:Nat} (hb:h.length<1000000000) (hi:i<h.length) (ho:okH h) {y:It} (hy:h[n]? =some y) :
  pqueue_Queue_stop_sink_l1 (i:Int) (h,c,(n:Int),(k:Int))=match h[k]? with
   | some x=>if k≤2*i+2 then some (.inl (h,c,((if bef x y=true then k else n:Nat):Int),w64 ((k:Int)+1))) else some (.inr (h,c,(n:Int)))
   | none=>some (.inr (h,c,(n:Int))):=by
 simp only[pqueue_Queue_stop_sink_l1,oun]
 have e1:w64 (w64 (2*(i:Int))+2)=((2*i+2:Nat):Int):=by
  rw[Yg (n:=2*(i:Int)) (by omega) (by omega),Yg (by omega) (by omega)];omega
 rw[e1]
 cases hx:h[k]? with
 | none =>
  have hk:h.length≤k:=List.getElem?_eq_none_iff.1 hx
  rw[show decide ((k:Int)<((h.length:Nat):Int))=false by simp;omega]
  cases decide ((k:Int)≤((2*i+2:Nat):Int))<;>rfl
 | some x =>
  have hk:=Qt hx
  rw[show decide ((k:Int)<((h.length:Nat):Int))=true by simp;omega]
  by_cases h2:k≤2*i+2
  ·rw[show decide ((k:Int)≤((2*i+2:Nat):Int))=true by simp only[decide_eq_true_eq];omega]
   simp only[cond_true,Option.bind_some,if_pos h2]
   rw[QiT (q:=⟨h,c⟩) hx hy (ho.get hx) (ho.get hy)]
   simp only[Option.bind_some]
   cases bef x y<;>rfl
  ·rw[show decide ((k:Int)≤((2*i+2:Nat):Int))=false by simp only[decide_eq_false_iff_not];omega]
   simp only[cond_false,Option.bind_some,if_neg h2]
theorem Qnv {F:Nat} {h:List It} {c:Int} {i:Nat} (hF:3≤F) (hb:h.length<1000000000) (hi:i<h.length) (ho:okH h) :
  ∃(n:Nat) (x:It),iter (pqueue_Queue_stop_sink_l1 (i:Int)) F (h,c,(i:Int),w64 (w64 (2*(i:Int))+1))=some (h,c,(n:Int))∧(n=i∨n=2*i+1∨n=2*i+2)∧h[n]? =some x ∧
   ∀(j:Nat) (z:It),(j=i∨j=2*i+1∨j=2*i+2)→h[j]? =some z→kle x z:=by
 obtain ⟨F,rfl⟩: ∃f,F=f+3:=⟨F-3,by omega⟩
 have e1:w64 (w64 (2*(i:Int))+1)=((2*i+1:Nat):Int):=by
  rw[Yg (n:=2*(i:Int)) (by omega) (by omega),Yg (by omega) (by omega)];omega
 have hy:h[i]? =some h[i]:=List.getElem?_eq_getElem hi
 generalize h[i]=y at hy
 rw[e1,iter,Qgx hb hi ho hy]
 cases hx:h[2*i+1]? with
 | none =>
  have hk:h.length≤2*i+1:=List.getElem?_eq_none_iff.1 hx;refine ⟨i,y,rfl,.inl rfl,hy,fun j z hj hz=> ?_⟩;have:=Qt hz;obtain rfl:j=i:=by omega
  rw[hy] at hz;injection hz with hz;subst hz;exact Lg.le_refl _
 | some x =>
  simp only[show 2*i+1≤2*i+2 by omega,if_true,Option.bind_some,QI]
  rw[Wn (by omega)]
  obtain ⟨n1,x1,hn1,hx1,hle1,hle2,hin⟩: ∃(n1:Nat) (x1:It),(if bef x y=true then 2*i+1 else i)=n1∧h[n1]? =some x1∧kle x1 y∧kle x1 x∧(n1=i∨n1=2*i+1):=by
   cases hbe:bef x y with
   | true=>exact ⟨2*i+1,x,rfl,hx,Qlo hbe,Lg.le_refl _,.inr rfl⟩
   | false=>exact ⟨i,y,rfl,hy,Lg.le_refl _,Qjy hbe,.inl rfl⟩
  rw[hn1,iter,Qgx hb hi ho hx1]
  cases hx2:h[2*i+1+1]? with
  | none =>
   have hk:h.length≤2*i+2:=List.getElem?_eq_none_iff.1 hx2;refine ⟨n1,x1,rfl,by omega,hx1,fun j z hj hz=> ?_⟩;have:=Qt hz;rcases hj with rfl | rfl | rfl
   ·rw[hy] at hz;injection hz with hz;subst hz;exact hle1
   ·rw[hx] at hz;injection hz with hz;subst hz;exact hle2
   ·omega
  | some x2 =>
   simp only[show 2*i+1+1≤2*i+2 by omega,if_true,Option.bind_some,QI]
   rw[Wn (by omega)]
   obtain ⟨n2,z2,hn2,hz2,hle3,hle4,hin2⟩: ∃(n2:Nat) (z2:It),(if bef x2 x1=true then 2*i+1+1 else n1)=n2∧h[n2]? =some z2∧kle z2 x1∧kle z2 x2∧(n2=n1∨n2=2*i+2):=by
    cases hbe:bef x2 x1 with
    | true=>exact ⟨2*i+2,x2,rfl,hx2,Qlo hbe,Lg.le_refl _,.inr rfl⟩
    | false=>exact ⟨n1,x1,rfl,hx1,Lg.le_refl _,Qjy hbe,.inl rfl⟩
   rw[hn2,iter,Qgx hb hi ho hz2]
   have hfin:(match h[2*i+1+1+1]? with
     | some x=>if 2*i+1+1+1≤2*i+2 then some (.inl (h,c,((if bef x z2=true then 2*i+1+1+1 else n2:Nat):Int),w64 (((2*i+1+1+1:Nat):Int)+1))) else some (.inr (h,c,(n2:Int)))
     | none=>some (.inr (h,c,(n2:Int))):Option ((List It×Int×Int×Int)⊕(List It×Int×Int)))=some (.inr (h,c,(n2:Int))):=by
    cases h[2*i+1+1+1]? with
    | none=>rfl
    | some w=>simp only[];rw[if_neg (by omega)]
   rw[hfin]
   refine ⟨n2,z2,rfl,by omega,hz2,fun j z hj hz=> ?_⟩;rcases hj with rfl | rfl | rfl
   ·rw[hy] at hz;injection hz with hz;subst hz;exact Lg.le_trans hle3 hle1
   ·rw[hx] at hz;injection hz with hz;subst hz;exact Lg.le_trans hle3 hle2
   ·rw[hx2] at hz;injection hz with hz;subst hz;exact hle4
theorem Qnu {F:Nat} (hF3:3≤F): ∀(d:Nat) (i:Nat) (n:Nat) (h:List It) (c:Int),h.length-i≤d→d<n→i<h.length→h.length<1000000000→okH h→HpD h i →
  ∃h',iter (Y0 F) n (h,c,(i:Int))=some ⟨h',c⟩∧h'.Perm h∧Hp h':=by
 intro d
 induction d with
 | zero=>intro i n h c hd _ hl;omega
 | succ d ih =>
  intro i n h c hd hn hl hb ho hh;obtain ⟨n,rfl⟩: ∃f,n=f+1:=⟨n-1,by omega⟩
  obtain ⟨m,x,h1,h2,h3,h4⟩:=Qnv (c:=c) hF3 hb hl ho;have hml:=Qt h3;have hy:h[i]? =some h[i]:=List.getElem?_eq_getElem hl
  generalize h[i]=y at hy
  by_cases hmi:m=i
  ·subst hmi;refine ⟨h,?_,.refl _,hh.stop h3 h4⟩
   rw[iter]
   simp only[Y0,oun,h1,Option.bind_some,decide_true,cond_true,QI]
  ·have hpm:=Qiu hl hml;obtain ⟨h',g1,g2,g3⟩:=ih m n (swp h i m) c (by rw[Qbu];omega) (by omega) (by rw[Qbu];exact hml) (by rw[Qbu];exact hb) (ho.perm hpm) (hh.step hml (by omega) h3 hy h4);refine ⟨h',?_,g2.trans hpm,g3⟩
   rw[iter]
   simp only[Y0,oun,h1,Option.bind_some]
   rw[show decide (((m:Nat):Int)=((i:Nat):Int))=false by simp only[decide_eq_false_iff_not];omega]
   simp only[cond_false]
   rw[Qj5 (q:=⟨h,c⟩) hl hml]
   simp only[Option.bind_some,QI]
   exact g1
theorem Ql7 {F:Nat} (hF:3≤F) (c:Int):Y4 F ⟨[],c⟩=some ⟨[],c⟩:=by
 obtain ⟨F,rfl⟩: ∃f,F=f+3:=⟨F-3,by omega⟩
 unfold Y4
 rw[iter]
 simp only[Y0,oun]
 rw[iter]
 rfl
theorem Qo4 (F:Nat) (q:Qu) (h:q.heap=[]):Zq F q=some (⟨0,⟨0,0⟩⟩,false,q):=by
 unfold Zq Jx JU
 rw[h]
 rfl
theorem QpO {F:Nat} {q:Qu} (hF:q.heap.length+3≤F) (hb:q.heap.length<1000000000) (ho:okH q.heap) (hh:Hp q.heap) (hne:q.heap≠[]) :
  ∃(x:It) (q':Qu),Zq F q=some (x.value,true,q')∧(x::q'.heap).Perm q.heap∧Hp q'.heap∧ ∀y∈q.heap,kle x y:=by
 have hpos:0<q.heap.length:=List.length_pos_iff.2 hne;have hx:q.heap[0]? =some q.heap[0]:=List.getElem?_eq_getElem hpos
 generalize q.heap[0]=x at hx
 have hmin: ∀y∈q.heap,kle x y:=fun y hy=>by
  obtain ⟨k,hk⟩:=List.getElem?_of_mem hy;exact hh.root hx k y hk
 have hx':getI q.heap 0=some x:=by simpa [getI] using hx
 have e0:w64 (((q.heap.length:Nat):Int)-1)=((q.heap.length-1:Nat):Int):=by rw[Yg (by omega) (by omega)];omega
 have hlast:q.heap.length-1<q.heap.length:=by omega
 obtain ⟨s,hs⟩: ∃s,swp q.heap 0 (q.heap.length-1)=s:=⟨_,rfl⟩
 have hsl:s.length=q.heap.length:=by rw[←hs,Qbu]
 have hsp:s.Perm q.heap:=by rw[←hs];exact Qiu hpos hlast
 have hsx:s[q.heap.length-1]? =some x:=by rw[←hs,QdM hpos hlast,if_pos rfl];exact hx
 have htake:s=s.take (q.heap.length-1)++[x]:=by
  conv=>lhs;rw[←List.take_append_drop (q.heap.length-1) s]
  congr 1
  rw[List.drop_eq_getElem_cons (by omega)]
  rw[List.getElem?_eq_getElem (by omega)] at hsx
  injection hsx with hsx
  rw[hsx,List.drop_of_length_le (by omega)]
 have hperm:(x::s.take (q.heap.length-1)).Perm q.heap:=by
  refine List.Perm.trans ?_ hsp
  conv=>rhs;rw[htake]
  exact (List.perm_append_comm (l₁:=[x]) (l₂:=s.take (q.heap.length-1)))
 have hclr: ∀z:It,WI (Qfc s ((q.heap.length-1:Nat):Int) z) 0 ((q.heap.length-1:Nat):Int)=some (s.take (q.heap.length-1)):=by
  intro z
  rw[VR (by rw[QcE];omega)]
  unfold Qfc
  rw[Int.toNat_natCast,List.take_append_of_le_length (by simp;omega),List.take_take,Nat.min_self]
 have hsub: ∃l,WI s ((q.heap.length-1:Nat):Int) ((s.length:Nat):Int)=some l:=by
  unfold WI;exact ⟨_,if_pos ⟨by omega,by omega,by omega⟩⟩
 obtain ⟨l,hl⟩:=hsub;have hsw:=Qj5 (q:=q) hpos hlast
 rw[hs] at hsw
 have main: ∃h',Y4 F ⟨s.take (q.heap.length-1),q.count⟩=some ⟨h',q.count⟩∧h'.Perm (s.take (q.heap.length-1))∧Hp h':=by
  by_cases h1:q.heap.length=1
  ·rw[show s.take (q.heap.length-1)=[] by rw[h1];rfl]
   exact ⟨[],Ql7 (by omega) _,.refl _,fun k a b _ ha=>by simp at ha⟩
  ·have htl:(s.take (q.heap.length-1)).length=q.heap.length-1:=by rw[List.length_take];omega
   have ho2:okH (s.take (q.heap.length-1)):=fun y hy=>ho y (hperm.mem_iff.1 (List.mem_cons_of_mem _ hy));obtain ⟨h',g1,g2,g3⟩:=Qnu (F:=F) (by omega) (q.heap.length) 0 F (s.take (q.heap.length-1)) q.count (by omega) (by omega) (by omega) (by omega) ho2 ⟨fun k a b hk hkp ha hb=>by
    have hk2:=Qt ha
    rw[htl] at hk2
    rw[List.getElem?_take,if_pos hk2,←hs,QdM hpos hlast,if_neg (by omega),if_neg (by omega)] at ha
    rw[List.getElem?_take,if_pos (by omega),←hs,QdM hpos hlast,if_neg (by omega),if_neg (by omega)] at hb
    exact hh k a b hk ha hb,fun _ _ _ h0=>by omega⟩
   refine ⟨h',?_,g2,g3⟩;unfold Y4
   rw[show (0:Int)=((0:Nat):Int) from rfl,g1]
   rfl
 obtain ⟨h',g1,g2,g3⟩:=main;refine ⟨x,⟨h',q.count⟩,?_,(List.Perm.cons x g2).trans hperm,g3,hmin⟩;unfold Zq Jx JU
 simp only[Option.bind_some]
 rw[show decide (((q.heap.length:Nat):Int)=0)=false by simp only[decide_eq_false_iff_not];omega]
 simp only[cond_false,hx',Option.bind_some,oun,Bool.not_true,e0]
 rw[show (0:Int)=((0:Nat):Int) from rfl,hsw]
 simp only[Option.bind_some,hl]
 rw[show ((0:Nat):Int)=(0:Int) from rfl,hclr]
 simp only[Option.bind_some,g1]
end Go.Proofs.YthpgjbbjpfiniaaGreat
namespace Go.Proofs.YthpgjbbjpfiniaaGreat
open Go.RowKit
set_option linter.unusedSimpArgs false
set_option linter.unusedVariables false
abbrev Ed:=QK
abbrev Rd_:=QM
structure OkR (r:Rd_):Prop where
 n1:1≤r.Nodes
 n2:r.Nodes≤64
 el:r.Edges.length≤512
 ed: ∀x∈r.Edges,QaE r x
theorem OkR.of {r:Rd_} (h:QcG r=0):OkR r:=let ⟨a,b,c,d⟩:=Qil h;⟨a,b,c,d⟩
def WF (l:Lg) (x:Ed):Lg:=⟨l.Secs+x.Secs,l.Meters+x.Meters⟩
theorem Qpf {l:Lg} {x:Ed} (h:1≤x.Secs):Lg.lt l (WF l x):=by unfold Lg.lt WF;simp only[];omega
theorem Qgg {a b:Lg} {x:Ed} (h:Lg.le a b):Lg.le (WF a x) (WF b x):=by unfold Lg.le WF at *;simp only[];omega
theorem Lg.lt_irrefl {a:Lg}: ¬Lg.lt a a:=by unfold Lg.lt;omega
theorem Lg.lt_of_lt_le {a b c:Lg} (h:Lg.lt a b) (h2:Lg.le b c):Lg.lt a c:=by unfold Lg.lt Lg.le at *;omega
theorem Lg.lt_of_le_lt {a b c:Lg} (h:Lg.le a b) (h2:Lg.lt b c):Lg.lt a c:=by unfold Lg.lt Lg.le at *;omega
theorem Lg.lt_of_le_ne {a b:Lg} (h:Lg.le a b) (h2:a≠b):Lg.lt a b:=by
 cases a;cases b;unfold Lg.lt Lg.le at *
 simp only[ne_eq,Ql.mk.injEq] at *
 omega
theorem Lg.antisymm {a b:Lg} (h:Lg.le a b) (h2:Lg.le b a):a=b:=by
 cases a;cases b;unfold Lg.le at *
 simp only[Ql.mk.injEq] at *
 omega
inductive Wk (r:Rd_) (s:Int):Nat→Int→Lg→Prop
 | nil:Wk r s 0 s ⟨0,0⟩
 | cons {k:Nat} {a:Int} {l:Lg} {x:Ed} (h:Wk r s k a l) (hx:x∈r.Edges) (ha:x.From=a):Wk r s (k+1) x.To (WF l x)
theorem Wk.bound {r:Rd_} {s:Int} (hr:OkR r): ∀{k:Nat} {n:Int} {l:Lg},Wk r s k n l→0≤l.Secs∧l.Secs≤k*100000∧0≤l.Meters∧l.Meters≤k*100000
 | _,_,_,.nil=>by simp
 | _,_,_,.cons h hx ha=>by
  have h1:=h.bound hr;have h2:=hr.ed _ hx;unfold QaE at h2;unfold WF
  simp only[]
  omega
theorem Wk.node {r:Rd_} {s:Int} (hr:OkR r) (hs:0≤s∧s<r.Nodes): ∀{k:Nat} {n:Int} {l:Lg},Wk r s k n l→0≤n∧n<r.Nodes
 | _,_,_,.nil=>hs
 | _,_,_,.cons h hx ha=>by
  have h2:=hr.ed _ hx;unfold QaE at h2
  omega
def lab (out:List Lg) (n:Int):Lg:=(getI out n).getD noL
theorem Qby {out:List Lg} {n:Int} (h0:0≤n) (h1:n<(out.length:Nat)):getI out n=some (lab out n):=by
 obtain ⟨x,hx⟩:=Qmy h0 h1;unfold lab
 rw[hx];rfl
theorem QeL {out:List Lg} {b n:Int} {l:Lg} (h0:0≤b) (h1:b<(out.length:Nat)) (hn:0≤n):lab (Yi out b l) n=if n=b then l else lab out n:=by
 unfold lab Yi getI
 simp only[hn,if_true]
 rw[List.getElem?_set]
 by_cases h:n=b
 ·subst h
  simp only[if_true]
  rw[if_pos (by omega)];rfl
 ·rw[if_neg h,if_neg (by omega)]
theorem Qf4 (out:List Lg) (b:Int) (l:Lg):(Yi out b l).length=out.length:=by simp[Yi]
structure Dj (r:Rd_) (s:Int) (M:Nat) (S:List Int) (W:Nat) (b:Lg) (cur:Int) (j:Nat) (out:List Lg) (h:List It):Prop where
 len:((out.length:Nat):Int)=r.Nodes
 hp:Hp h
 lenh:h.length≤M
 it: ∀y∈h,0≤y.value.node∧y.value.node<r.Nodes∧Lg.le b y.value.leg∧0≤(lab out y.value.node).Secs∧Lg.le (lab out y.value.node) y.value.leg
 nd:(h.map fun y=>(y.value.node,y.value.leg)).Nodup
 lb: ∀n,0≤n→n<r.Nodes→lab out n=noL∨ ∃k,k≤W∧Wk r s k n (lab out n)
 src:lab out s=⟨0,0⟩
 pend: ∀n,0≤n→n<r.Nodes→n∉S→lab out n≠noL→ ∃y∈h,y.value.node=n∧y.value.leg=lab out n
 sn:S.Nodup
 sr: ∀n∈S,0≤n∧n<r.Nodes
 dn: ∀n∈S,0≤(lab out n).Secs∧Lg.le (lab out n) b
 st: ∀y∈h,y.value.node∈S→Lg.lt (lab out y.value.node) y.value.leg
 bs:0≤b.Secs
 edge: ∀n∈S,∀x∈(if n=cur then r.Edges.take j else r.Edges),x.From=n→0≤(lab out x.To).Secs∧Lg.le (lab out x.To) (WF (lab out n) x)
theorem Dj.okH {r:Rd_} {s:Int} {M:Nat} {S:List Int} {W:Nat} {b:Lg} {cur:Int} {j:Nat} {out:List Lg} {h:List It} (d:Dj r s M S W b cur j out h):okH h:=fun y hy=>by
 have h1:=d.it y hy;have h2:=d.bs;unfold okI;have h3:=h1.2.2.1;unfold Lg.le at h3
 omega
theorem Qgt {l:Lg} (h:0≤l.Secs):l≠noL:=by intro e;rw[e] at h;exact absurd h (by decide)
theorem QeR {r:Rd_} {s:Int} {W:Nat} (hr:OkR r) {l:Lg} {n:Int} (h:l=noL∨ ∃k,k≤W∧Wk r s k n l) (hne:l≠noL): ∃k,k≤W∧Wk r s k n l∧0≤l.Secs:=by
 rcases h with h | ⟨k,h1,h2⟩
 ·exact absurd h hne
 ·exact ⟨k,h1,h2,(h2.bound hr).1⟩
theorem QcV {α:Type} {l:List α} {j:Nat} {x y:α} (hx:l[j]? =some x) (hy:y∈l.take (j+1)):y∈l.take j∨y=x:=by
 rw[YK hx] at hy
 rcases List.mem_append.1 hy with h | h
 ·exact .inl h
 ·exact .inr (List.mem_singleton.1 h)
theorem Dj.skip {r:Rd_} {s:Int} {M:Nat} {S:List Int} {W:Nat} {b:Lg} {cur:Int} {j:Nat} {out:List Lg} {h:List It} {x:Ed} (d:Dj r s M S W b cur j out h) (hx:r.Edges[j]? =some x)
  (hc:x.From=cur→0≤(lab out x.To).Secs∧Lg.le (lab out x.To) (WF (lab out cur) x)):Dj r s (M+1) S W b cur (j+1) out h:=by
 refine { d with lenh:=by have:=d.lenh;omega,edge:=fun n hn y hy hf=> ?_ }
 by_cases hnc:n=cur
 ·rw[if_pos hnc] at hy
  rcases QcV hx hy with h1 | h1
  ·exact d.edge n hn y (by rw[if_pos hnc];exact h1) hf
  ·subst h1
   rw[hnc]
   exact hc (by rw[hf,hnc])
 ·rw[if_neg hnc] at hy
  exact d.edge n hn y (by rw[if_neg hnc];exact hy) hf
theorem Dj.take {r:Rd_} {s:Int} {M:Nat} {S:List Int} {W:Nat} {b:Lg} {cur:Int} {j:Nat} {out:List Lg} {h h':List It} {x:Ed} {c:Int} (hr:OkR r) (hs:0≤s∧s<r.Nodes) (d:Dj r s M S W b cur j out h) (hx:r.Edges[j]? =some x)
  (hcur:lab out cur=b) (hcs:cur∈S) (hf:x.From=cur) (hk: ∃k,k+1≤W∧Wk r s k cur (lab out cur)) (hb:lab out x.To=noL∨Lg.lt (WF b x) (lab out x.To))
  (hp:h'.Perm (h++[⟨⟨x.To,WF b x⟩,c⟩])) (hh:Hp h'):Dj r s (M+1) S W b cur (j+1) (Yi out x.To (WF b x)) h':=by
 have hok:=hr.ed x (List.mem_of_getElem? hx);unfold QaE at hok;have hlen:=d.len;have hto0:0≤x.To:=by omega
 have hto1:x.To<((out.length:Nat):Int):=by omega
 have hbx:Lg.lt b (WF b x):=Qpf (by omega);have hset: ∀n,0≤n→lab (Yi out x.To (WF b x)) n=if n=x.To then WF b x else lab out n:=fun n hn=>QeL hto0 hto1 hn
 have hself:lab (Yi out x.To (WF b x)) x.To=WF b x:=by rw[hset _ hto0,if_pos rfl]
 have hbs:=d.bs;have hxs:0≤(WF b x).Secs:=by unfold WF;simp only[];omega
 have hnS:x.To∉S:=fun hm=>by
  have h1:=d.dn _ hm;rcases hb with h2 | h2
  ·rw[h2] at h1;exact absurd h1.1 (by decide)
  ·exact Lg.lt_irrefl (Lg.lt_of_lt_le (Lg.lt_of_lt_le (Lg.lt_of_le_lt h1.2 hbx) (Lg.le_of_lt h2)) (Lg.le_refl _))
 have hne: ∀n∈S,n≠x.To:=fun n hn e=>hnS (e▸hn);have hold: ∀n∈S,lab (Yi out x.To (WF b x)) n=lab out n:=fun n hn=>by rw[hset _ (d.sr n hn).1,if_neg (hne n hn)]
 have hsrc:s≠x.To:=fun e=>by
  have h1:=d.src
  rw[e] at h1
  rcases hb with h2 | h2
  ·rw[h1] at h2;cases h2
  ·rw[h1] at h2
   unfold Lg.lt WF at h2
   simp only[] at h2
   omega
 have hmem: ∀y,y∈h'↔y∈h∨y=⟨⟨x.To,WF b x⟩,c⟩:=fun y=>by rw[hp.mem_iff];simp
 have himp: ∀n,0≤n→0≤(lab out n).Secs→0≤(lab (Yi out x.To (WF b x)) n).Secs∧Lg.le (lab (Yi out x.To (WF b x)) n) (lab out n):=fun n hn h0=>by
  rw[hset n hn]
  by_cases h1:n=x.To
  ·subst h1
   rw[if_pos rfl]
   rcases hb with h2 | h2
   ·rw[h2] at h0;exact absurd h0 (by decide)
   ·exact ⟨hxs,Lg.le_of_lt h2⟩
  ·rw[if_neg h1];exact ⟨h0,Lg.le_refl _⟩
 refine { len:=by rw[Qf4];exact hlen,hp:=hh,lenh:= ?_,it:= ?_,nd:= ?_,lb:= ?_,src:= ?_,pend:= ?_,sn:=d.sn,sr:=d.sr,dn:= ?_,st:= ?_,bs:=d.bs,edge:= ?_ }
 ·rw[hp.length_eq,List.length_append,List.length_singleton];have:=d.lenh;omega
 ·intro y hy;rcases (hmem y).1 hy with h1 | h1
  ·have h2:=d.it y h1;have h3:=himp _ h2.1 h2.2.2.2.1;exact ⟨h2.1,h2.2.1,h2.2.2.1,h3.1,Lg.le_trans h3.2 h2.2.2.2.2⟩
  ·subst h1
   simp only[]
   rw[hself]
   exact ⟨hto0,by omega,Lg.le_of_lt hbx,hxs,Lg.le_refl _⟩
 ·rw[(hp.map _).nodup_iff,List.map_append,List.nodup_append]
  refine ⟨d.nd,by simp,fun p hp1 q hq=> ?_⟩
  simp only[List.map_cons,List.map_nil,List.mem_singleton] at hq
  subst hq;obtain ⟨y,hy,rfl⟩:=List.mem_map.1 hp1;intro e;injection e with e1 e2
  have h2:=d.it y hy
  rw[e1,e2] at h2
  rcases hb with h3 | h3
  ·rw[h3] at h2;exact absurd h2.2.2.2.1 (by decide)
  ·exact Lg.lt_irrefl (Lg.lt_of_lt_le h3 h2.2.2.2.2)
 ·intro n h0 h1
  rw[hset n h0]
  by_cases h2:n=x.To
  ·subst h2
   rw[if_pos rfl]
   obtain ⟨k,hk1,hk2⟩:=hk;refine .inr ⟨k+1,hk1,?_⟩
   rw[←hcur]
   exact .cons hk2 (List.mem_of_getElem? hx) hf
  ·rw[if_neg h2];exact d.lb n h0 h1
 ·rw[hset s hs.1,if_neg hsrc];exact d.src
 ·intro n h0 h1 h2 h3
  rw[hset n h0] at h3 ⊢
  by_cases h4:n=x.To
  ·rw[if_pos h4]
   exact ⟨_,(hmem _).2 (.inr rfl),h4.symm,rfl⟩
  ·rw[if_neg h4] at h3 ⊢
   obtain ⟨y,hy,h5⟩:=d.pend n h0 h1 h2 h3;exact ⟨y,(hmem y).2 (.inl hy),h5⟩
 ·intro n hn
  rw[hold n hn];exact d.dn n hn
 ·intro y hy hyS;rcases (hmem y).1 hy with h1 | h1
  ·rw[hold _ hyS];exact d.st y h1 hyS
  ·subst h1;exact absurd hyS hnS
 ·intro n hn y hy hfy;have hyE:y∈r.Edges:=by
   split at hy
   ·exact List.mem_of_mem_take hy
   ·exact hy
  have hyok:=hr.ed y hyE;unfold QaE at hyok;have h5:(y=x∧n=cur)∨y∈(if n=cur then r.Edges.take j else r.Edges):=by
   by_cases hnc:n=cur
   ·rw[if_pos hnc] at hy ⊢
    rcases QcV hx hy with h1 | h1
    ·exact .inr h1
    ·exact .inl ⟨h1,hnc⟩
   ·rw[if_neg hnc] at hy ⊢
    exact .inr hy
  rw[hold n hn]
  rcases h5 with ⟨rfl,rfl⟩ | h5
  ·rw[hself,hcur];exact ⟨hxs,Lg.le_refl _⟩
  ·have h6:=d.edge n hn y h5 hfy;have h7:=himp y.To (by omega) h6.1;exact ⟨h7.1,Lg.le_trans h7.2 h6.2⟩
end Go.Proofs.YthpgjbbjpfiniaaGreat
namespace Go.Proofs.YthpgjbbjpfiniaaGreat
open Go.RowKit
set_option linter.unusedSimpArgs false
set_option linter.unusedVariables false
variable {r:Rd_} {s:Int}
theorem Qkc {l:Lg} {x:Ed} (hr:OkR r) (hx:x∈r.Edges) {k:Nat} {n:Int} (hw:Wk r s k n l) (hk:k≤100000):Qcm l x=some (WF l x):=by
 have h1:=hw.bound hr;have h2:=hr.ed x hx;unfold QaE at h2;unfold Qcm WF
 rw[Yg (by omega) (by omega),Yg (by omega) (by omega)]
theorem QlW {F:Nat} {S:List Int} {W:Nat} {b:Lg} {cur:Int} {y:Q9} (hr:OkR r) (hs:0≤s∧s<r.Nodes) (hcs:cur∈S) (hyn:y.node=cur) (hyl:y.leg=b) (hW:W≤64) {M0:Nat} (hM:M0+600≤F) (hM2:M0≤100000) :
  ∀(d j:Nat) (out:List Lg) (q:Qu) (n:Nat),r.Edges.length-j=d→j≤r.Edges.length→d<n→lab out cur=b→(∃k,k+1≤W∧Wk r s k cur (lab out cur))→Dj r s (M0+j) S W b cur j out q.heap →
   ∃out' q',iter (JH F r y) n (out,q,(j:Int))=some (out',q')∧lab out' cur=b∧Dj r s (M0+r.Edges.length) S W b cur r.Edges.length out' q'.heap:=by
 intro d
 induction d with
 | zero =>
  intro j out q n hd hj hn hl hk hD;obtain ⟨n,rfl⟩: ∃f,n=f+1:=⟨n-1,by omega⟩
  obtain rfl:j=r.Edges.length:=by omega
  refine ⟨out,q,?_,hl,hD⟩
  rw[iter]
  simp only[JH,oun]
  rw[show decide (((r.Edges.length:Nat):Int)<((r.Edges.length:Nat):Int))=false by simp]
  rfl
 | succ d ih =>
  intro j out q n hd hj hn hl hk hD;obtain ⟨n,rfl⟩: ∃f,n=f+1:=⟨n-1,by omega⟩
  have hjl:j<r.Edges.length:=by omega
  have hx:r.Edges[j]? =some r.Edges[j]:=List.getElem?_eq_getElem hjl
  generalize r.Edges[j]=x at hx
  have hxm:=List.mem_of_getElem? hx;have hok:=hr.ed x hxm;unfold QaE at hok;have hel:=hr.el;have hlen:=hD.len;have hto:getI out x.To=some (lab out x.To):=Qby (by omega) (by omega);have step:(∃out1 q1,JH F r y (out,q,(j:Int))=some (.inl (out1,q1,((j+1:Nat):Int)))∧lab out1 cur=b∧(∃k,k+1≤W∧Wk r s k cur (lab out1 cur))∧Dj r s (M0+(j+1)) S W b cur (j+1) out1 q1.heap):=by
   simp only[JH,oun]
   rw[show decide ((j:Int)<((r.Edges.length:Nat):Int))=true by simp;omega]
   simp only[cond_true,Qs,hx,Option.bind_some,Qb0,hyn,hyl]
   rw[Wn (by omega)]
   by_cases hf:x.From=cur
   ·simp only[hf,decide_true,Bool.not_true,cond_false]
    obtain ⟨k,hk1,hk2⟩:=hk;have hk3:=hk2
    rw[hl] at hk3
    rw[Qkc hr hxm hk3 (by omega)]
    simp only[Option.bind_some,hto,QiU]
    cases hb:(decide (lab out x.To=noL)||decide (Lg.lt (WF b x) (lab out x.To))) with
    | true =>
     simp only[cond_true]
     have hb':lab out x.To=noL∨Lg.lt (WF b x) (lab out x.To):=by simpa using hb
     have hbnd:=hk3.bound hr;have hlh:=hD.lenh;obtain ⟨q1,hq1,hq2,hq3⟩:=Qmj (F:=F) (q:=q) ⟨x.To,WF b x⟩ (by omega) (by omega) hD.okH (by unfold WF;simp only[];omega) hD.hp
     rw[hq1]
     simp only[Option.bind_some]
     have hD2:=hD.take hr hs hx hl hcs hf ⟨k,hk1,hk2⟩ hb' hq2 hq3;have hne:cur≠x.To:=fun e=>by omega
     have hl2:lab (Yi out x.To (WF b x)) cur=lab out cur:=by rw[QeL (by omega) (by omega) (hD.sr cur hcs).1,if_neg hne]
     exact ⟨_,q1,rfl,by rw[hl2];exact hl,⟨k,hk1,by rw[hl2];exact hk2⟩,hD2⟩
    | false =>
     simp only[cond_false]
     refine ⟨out,q,rfl,hl,⟨k,hk1,hk2⟩,hD.skip hx fun _=> ?_⟩
     simp only[Bool.or_eq_false_iff,decide_eq_false_iff_not] at hb
     obtain ⟨k2,_,_,h5⟩:=QeR hr (hD.lb x.To (by omega) (by omega)) hb.1
     rw[hl]
     exact ⟨h5,Lg.le_of_not_lt hb.2⟩
   ·simp only[show decide (x.From=cur)=false by simpa using hf,Bool.not_false,cond_true,Option.bind_some]
    exact ⟨out,q,rfl,hl,hk,hD.skip hx fun e=>absurd e hf⟩
  obtain ⟨out1,q1,h1,h2,h3,h4⟩:=step;obtain ⟨out',q',g1,g2,g3⟩:=ih (j+1) out1 q1 n (by omega) (by omega) (by omega) h2 h3 h4;refine ⟨out',q',?_,g2,g3⟩
  rw[iter,h1]
  exact g1
theorem Dj.drop {M:Nat} {S:List Int} {W:Nat} {b:Lg} {cur:Int} {j:Nat} {out:List Lg} {h h':List It} {y:It} (d:Dj r s M S W b cur j out h) (hc:cur∉S) (hp:(y::h').Perm h) (hh:Hp h') (hmin: ∀z∈h,kle y z)
  (hst:lab out y.value.node≠y.value.leg):Dj r s M S W y.value.leg cur j out h':=by
 have hmem: ∀z,z∈h'→z∈h:=fun z hz=>hp.mem_iff.1 (List.mem_cons_of_mem _ hz);have hy:y∈h:=hp.mem_iff.1 List.mem_cons_self;have hby:=(d.it y hy).2.2.1;refine { d with hp:=hh,lenh:= ?_,it:=fun z hz=> ?_,nd:= ?_,pend:=fun n h0 h1 h2 h3=> ?_,dn:=fun n hn=>⟨(d.dn n hn).1,Lg.le_trans (d.dn n hn).2 hby⟩,st:=fun z hz=>d.st z (hmem z hz),bs:= ?_ }
 ·have:=d.lenh;have h2:=hp.length_eq;rw[List.length_cons] at h2;omega
 ·have h2:=d.it z (hmem z hz);exact ⟨h2.1,h2.2.1,hmin z (hmem z hz),h2.2.2.2⟩
 ·have h2:=((hp.map fun y=>(y.value.node,y.value.leg)).nodup_iff).2 d.nd
  rw[List.map_cons,List.nodup_cons] at h2
  exact h2.2
 ·obtain ⟨z,hz,h5,h6⟩:=d.pend n h0 h1 h2 h3;rcases List.mem_cons.1 (hp.mem_iff.2 hz) with h7 | h7
  ·subst h7;exact absurd (by rw[h5];exact h6.symm) hst
  ·exact ⟨z,h7,h5,h6⟩
 ·have:=d.bs;unfold Lg.le at hby;omega
theorem Dj.enter {M:Nat} {S:List Int} {W:Nat} {b:Lg} {out:List Lg} {h h':List It} {y:It} (hr:OkR r) (d:Dj r s M S W b (-1) 0 out h) (hp:(y::h').Perm h) (hh:Hp h') (hmin: ∀z∈h,kle y z)
  (hst:lab out y.value.node=y.value.leg):y.value.node∉S∧Dj r s (M-1) (y.value.node::S) (W+1) y.value.leg y.value.node 0 out h':=by
 have hmem: ∀z,z∈h'→z∈h:=fun z hz=>hp.mem_iff.1 (List.mem_cons_of_mem _ hz);have hy:y∈h:=hp.mem_iff.1 List.mem_cons_self;have hyi:=d.it y hy;have hby:=hyi.2.2.1;have hnS:y.value.node∉S:=fun hm=>by
  have:=d.st y hy hm
  rw[hst] at this
  exact Lg.lt_irrefl this
 have hnd:=((hp.map fun y=>(y.value.node,y.value.leg)).nodup_iff).2 d.nd
 rw[List.map_cons,List.nodup_cons] at hnd
 refine ⟨hnS,{ len:=d.len,hp:=hh,lenh:= ?_,it:=fun z hz=> ?_,nd:=hnd.2,lb:=fun n h0 h1=> ?_,src:=d.src,pend:=fun n h0 h1 h2 h3=> ?_,sn:=List.nodup_cons.2 ⟨hnS,d.sn⟩,sr:=fun n hn=> ?_,dn:=fun n hn=> ?_,st:=fun z hz hzS=> ?_,bs:= ?_,edge:=fun n hn x hx hf=> ?_ }⟩
 ·have:=d.lenh;have h2:=hp.length_eq;rw[List.length_cons] at h2;omega
 ·have h2:=d.it z (hmem z hz);exact ⟨h2.1,h2.2.1,hmin z (hmem z hz),h2.2.2.2⟩
 ·rcases d.lb n h0 h1 with h2 | ⟨k,h2,h3⟩
  ·exact .inl h2
  ·exact .inr ⟨k,by omega,h3⟩
 ·obtain ⟨z,hz,h5,h6⟩:=d.pend n h0 h1 (fun e=>h2 (List.mem_cons_of_mem _ e)) h3;rcases List.mem_cons.1 (hp.mem_iff.2 hz) with h7 | h7
  ·subst h7;exact absurd (by rw[←h5];exact List.mem_cons_self) h2
  ·exact ⟨z,h7,h5,h6⟩
 ·rcases List.mem_cons.1 hn with h1 | h1
  ·subst h1;exact ⟨hyi.1,hyi.2.1⟩
  ·exact d.sr n h1
 ·rcases List.mem_cons.1 hn with h1 | h1
  ·subst h1;exact ⟨hyi.2.2.2.1,by rw[hst];exact Lg.le_refl _⟩
  ·exact ⟨(d.dn n h1).1,Lg.le_trans (d.dn n h1).2 hby⟩
 ·rcases List.mem_cons.1 hzS with h1 | h1
  ·have h2:=(d.it z (hmem z hz)).2.2.2.2;refine Lg.lt_of_le_ne h2 fun e=>hnd.1 ?_
   rw[h1,hst] at e
   exact List.mem_map.2 ⟨z,hz,by rw[h1,←e]⟩
  ·exact d.st z (hmem z hz) h1
 ·have:=d.bs;unfold Lg.le at hby;omega
 ·rcases List.mem_cons.1 hn with h1 | h1
  ·subst h1
   rw[if_pos rfl] at hx
   simp at hx
  ·have hne:n≠y.value.node:=fun e=>hnS (e▸h1)
   rw[if_neg hne] at hx
   refine d.edge n h1 x ?_ hf
   rw[if_neg (by have:=(d.sr n h1).1;omega)]
   exact hx
theorem Dj.leave {M:Nat} {S:List Int} {W:Nat} {b:Lg} {cur:Int} {out:List Lg} {h:List It} (d:Dj r s M S W b cur r.Edges.length out h):Dj r s M S W b (-1) 0 out h:=by
 refine { d with edge:=fun n hn x hx hf=>d.edge n hn x ?_ hf }
 rw[if_neg (by have:=(d.sr n hn).1;omega)] at hx
 split
 ·rw[List.take_length];exact hx
 ·exact hx
theorem QpE {S:List Int} (hr:OkR r) (h1:S.Nodup) (h2: ∀n∈S,0≤n∧n<r.Nodes):S.length≤64:=by
 have:=QcM (m:=(List.range 64).map fun k:Nat=>(k:Int)) h1 fun n hn=>by
  have h3:=h2 n hn;have h4:=hr.n2;exact List.mem_map.2 ⟨n.toNat,List.mem_range.2 (by omega),by omega⟩
 simpa using this
theorem QkZ {F:Nat} (hF:40000≤F) (hr:OkR r) (hs:0≤s∧s<r.Nodes): ∀(m:Nat) (n:Nat) (S:List Int) (b:Lg) (out:List Lg) (q:Qu),514*(64-S.length)+q.heap.length≤m→m<n→Dj r s (1+512*S.length) S S.length b (-1) 0 out q.heap →
  ∃out',iter (JI F r) n (out,q)=some out'∧ ∃S' b',Dj r s (1+512*S'.length) S' S'.length b' (-1) 0 out' []:=by
 intro m
 induction m using Nat.strongRecOn with
 | ind m ih =>
  intro n S b out q hm hn hD;obtain ⟨n,rfl⟩: ∃f,n=f+1:=⟨n-1,by omega⟩
  have hS:=QpE hr hD.sn hD.sr;have hlh:=hD.lenh
  by_cases hq:q.heap=[]
  ·refine ⟨out,?_,S,b,by rw[←hq];exact hD⟩
   rw[iter]
   simp only[JI,oun]
   rw[Qo4 F q hq]
   rfl
  ·obtain ⟨y,q',h1,h2,h3,h4⟩:=QpO (F:=F) (q:=q) (by omega) (by omega) hD.okH hD.hp hq;have hy:y∈q.heap:=h2.mem_iff.1 List.mem_cons_self;have hyi:=hD.it y hy;have hlen:=hD.len;have hql:=h2.length_eq
   rw[List.length_cons] at hql
   have hget:getI out y.value.node=some (lab out y.value.node):=Qby hyi.1 (by omega)
   by_cases hst:lab out y.value.node=y.value.leg
   ·obtain ⟨hnS,hE⟩:=hD.enter hr h2 h3 h4 hst;have hS2:=QpE hr hE.sn hE.sr
    rw[List.length_cons] at hS2
    obtain ⟨k,hk1,hk2⟩: ∃k,k+1≤S.length+1∧Wk r s k y.value.node (lab out y.value.node):=by
     obtain ⟨k,h5,h6,_⟩:=QeR hr (hD.lb _ hyi.1 hyi.2.1) (Qgt hyi.2.2.2.1);exact ⟨k,by omega,h6⟩
    have hE':Dj r s (q'.heap.length+0) (y.value.node::S) (S.length+1) y.value.leg y.value.node 0 out q'.heap:={ hE with lenh:=Nat.le_refl _ }
    obtain ⟨out',q2,g1,g2,g3⟩:=QlW (F:=F) (y:=y.value) (M0:=q'.heap.length) hr hs List.mem_cons_self rfl rfl (by omega) (by omega) (by omega) r.Edges.length 0 out q' (((r.Edges.length:Nat):Int).toNat+1) (by omega) (by omega) (by omega) hst ⟨k,hk1,hk2⟩ hE';have hel:=hr.el;have g6:=g3.lenh;have g5:Dj r s (1+512*(y.value.node::S).length) (y.value.node::S) (y.value.node::S).length y.value.leg (-1) 0 out' q2.heap:=by
     refine { g3.leave with lenh:= ?_ }
     rw[List.length_cons]
     omega
    obtain ⟨out2,k1,k2⟩:=ih (514*(64-(y.value.node::S).length)+q2.heap.length) (by rw[List.length_cons];omega) n (y.value.node::S) y.value.leg out' q2 (Nat.le_refl _) (by rw[List.length_cons];omega) g5;refine ⟨out2,?_,k2⟩
    rw[iter]
    simp only[JI,oun,h1,Option.bind_some,Bool.not_true,cond_false,hget,hst,decide_true]
    rw[show (0:Int)=((0:Nat):Int) from rfl,g1]
    exact k1
   ·have hE:=hD.drop (by intro hm;have:=hD.sr _ hm;omega) h2 h3 h4 hst;obtain ⟨out',k1,k2⟩:=ih (514*(64-S.length)+q'.heap.length) (by omega) n S y.value.leg out q' (Nat.le_refl _) (by omega) hE;refine ⟨out',?_,k2⟩
    rw[iter]
    simp only[JI,oun,h1,Option.bind_some,Bool.not_true,cond_false,hget]
    rw[show decide (lab out y.value.node=y.value.leg)=false by simpa using hst]
    simp only[Bool.not_false,cond_true,Option.bind_some,QI]
    exact k1
structure IsL (r:Rd_) (s:Int) (out:List Lg):Prop where
 len:((out.length:Nat):Int)=r.Nodes
 lb: ∀n,0≤n→n<r.Nodes→lab out n=noL∨ ∃k,k≤out.length∧Wk r s k n (lab out n)
 best: ∀k n l,Wk r s k n l→0≤(lab out n).Secs∧Lg.le (lab out n) l
theorem Dj.legs {S:List Int} {b:Lg} {out:List Lg} {M:Nat} (hr:OkR r) (hs:0≤s∧s<r.Nodes) (d:Dj r s M S S.length b (-1) 0 out []):IsL r s out:=by
 have hlen:=d.len;have hS:S.length≤out.length:=by
  have:=QcM (m:=(List.range out.length).map fun k:Nat=>(k:Int)) d.sn fun n hn=>by
   have h3:=d.sr n hn;exact List.mem_map.2 ⟨n.toNat,List.mem_range.2 (by omega),by omega⟩
  simpa using this
 refine ⟨hlen,fun n h0 h1=> ?_,fun k n l hw=> ?_⟩
 ·rcases d.lb n h0 h1 with h2 | ⟨k,h2,h3⟩
  ·exact .inl h2
  ·exact .inr ⟨k,by omega,h3⟩
 ·have hin: ∀n,0≤n→n<r.Nodes→0≤(lab out n).Secs→n∈S:=fun n h0 h1 h2=>by
   by_cases h3:n∈S
   ·exact h3
   ·obtain ⟨y,hy,_⟩:=d.pend n h0 h1 h3 (Qgt h2);cases hy
  induction hw with
  | nil=>rw[d.src];exact ⟨Int.le_refl _,Lg.le_refl _⟩
  | cons h hx ha ih =>
   rename_i k a l x
   have hnode:=h.node hr hs;have hS:=hin a hnode.1 hnode.2 ih.1;have h2:=d.edge a hS x (by rw[if_neg (by omega)];exact hx) ha;exact ⟨h2.1,Lg.le_trans h2.2 (Qgg ih.2)⟩
theorem QjM {n:Nat} {i:Int}:lab (List.replicate n noL) i=noL:=by
 unfold lab getI
 split
 ·rw[List.getElem?_replicate];split<;>rfl
 ·rfl
theorem QjO {a b:List Lg} (h:a.length=b.length) (h2: ∀n:Nat,n<a.length→lab a n=lab b n):a=b:=by
 apply List.ext_getElem?;intro i;rcases Nat.lt_or_ge i a.length with hi | hi
 ·have h3:=h2 i hi;have h4:=Qby (out:=a) (n:=(i:Int)) (by omega) (by omega);have h5:=Qby (out:=b) (n:=(i:Int)) (by omega) (by omega)
  rw[Qs] at h4 h5
  rw[h4,h5,h3]
 ·rw[List.getElem?_eq_none hi,List.getElem?_eq_none (by omega)]
theorem IsL.unique {a b:List Lg} (hr:OkR r) (ha:IsL r s a) (hb:IsL r s b):a=b:=by
 have h1:=ha.len;have h2:=hb.len;refine QjO (by omega) fun n hn=> ?_;rcases ha.lb n (by omega) (by omega) with h3 | ⟨k,_,h3⟩<;>rcases hb.lb n (by omega) (by omega) with h4 | ⟨k',_,h4⟩
 ·rw[h3,h4]
 ·have h5:=ha.best _ _ _ h4
  rw[h3] at h5;exact absurd h5.1 (by decide)
 ·have h5:=hb.best _ _ _ h3
  rw[h4] at h5;exact absurd h5.1 (by decide)
 ·exact Lg.antisymm (ha.best _ _ _ h4).2 (hb.best _ _ _ h3).2
theorem Qjo {F:Nat} (hF:40000≤F) (hr:OkR r) (hs:0≤s∧s<r.Nodes): ∃out,Vv F r s=some out∧IsL r s out:=by
 have h1:=hr.n1;have h2:=hr.n2;have hmk:QbQ (⟨0,0⟩:Lg) r.Nodes=some (List.replicate r.Nodes.toNat ⟨0,0⟩):=by
  unfold QbQ
  rw[if_pos (by omega)]
 have hl1:iter (JG (List.replicate r.Nodes.toNat ⟨0,0⟩)) ((((List.replicate r.Nodes.toNat (⟨0,0⟩:Lg)).length:Nat):Int).toNat+1) (List.replicate r.Nodes.toNat ⟨0,0⟩,0)=some (List.replicate r.Nodes.toNat noL):=by
  have hN:r.Nodes.toNat≤64:=by omega
  generalize r.Nodes.toNat=N at *
  have:=YX (body:=JG (List.replicate N ⟨0,0⟩)) (List.replicate N (⟨0,0⟩:Lg)) (fun k=>List.replicate k noL++List.replicate (N-k) (⟨0,0⟩:Lg)) (fun m k=>(m,k)) (fun _ _=>none) (List.replicate N noL) (by simp;omega) (fun k x hx _=> ?_) (fun _=>by simp[JG,oun]) ((((List.replicate N (⟨0,0⟩:Lg)).length:Nat):Int).toNat+1) (by simp)
  ·rw[QW _ _ (fun _ _ _=>rfl)] at this
   simpa using this
  ·have hk:=Qt hx;have hk2:((k:Int)<(((List.replicate N (⟨0,0⟩:Lg)).length:Nat):Int)):=by omega
   rw[List.length_replicate] at hk
   simp only[JG,oun,hk2,decide_true,cond_true,Qcc,Option.bind_some]
   obtain ⟨z,hz⟩: ∃z,getI (List.replicate k noL++List.replicate (N-k) (⟨0,0⟩:Lg)) (k:Int)=some z:=Qmy (by omega) (by simp;omega)
   rw[hz]
   simp only[Option.bind_some,Je]
   congr 3
   unfold Yi
   rw[Int.toNat_natCast,show N-k=(N-(k+1))+1 by omega,List.replicate_succ,List.set_append_right _ _ (by simp),List.length_replicate,Nat.sub_self,List.set_cons_zero,List.replicate_succ',List.append_assoc]
   rfl
 have hlenR:((((List.replicate r.Nodes.toNat noL).length:Nat)):Int)=r.Nodes:=by simp;omega
 obtain ⟨q,hq1,hq2,hq3⟩:=Qmj (F:=F) (q:=⟨[],0⟩) ⟨s,⟨0,0⟩⟩ (by simp;omega) (by simp) (by intro y hy;cases hy) (Int.le_refl _) (by intro k a b _ ha;simp at ha);have hset: ∀n,0≤n→lab (Yi (List.replicate r.Nodes.toNat noL) s ⟨0,0⟩) n=if n=s then ⟨0,0⟩ else noL:=fun n hn=>by
  rw[QeL hs.1 (by omega) hn,QjM]
 have hmem: ∀y,y∈q.heap↔y=⟨⟨s,⟨0,0⟩⟩,0⟩:=fun y=>by rw[hq2.mem_iff];simp
 have hD:Dj r s (1+512*([]:List Int).length) [] ([]:List Int).length ⟨0,0⟩ (-1) 0 (Yi (List.replicate r.Nodes.toNat noL) s ⟨0,0⟩) q.heap:=by
  refine { len:=by rw[Qf4];exact hlenR,hp:=hq3,lenh:=by rw[hq2.length_eq];simp,it:=fun y hy=> ?_,nd:= ?_,lb:=fun n h0 h3=> ?_,src:=by rw[hset s hs.1,if_pos rfl],pend:=fun n h0 h3 h4 h5=> ?_,sn:=List.nodup_nil,sr:=(fun n hn=>by cases hn),dn:=(fun n hn=>by cases hn),st:=(fun y hy h=>by cases h),bs:=Int.le_refl _,edge:=(fun n hn=>by cases hn) }
  ·rw[(hmem y).1 hy]
   simp only[]
   rw[hset s hs.1,if_pos rfl]
   exact ⟨hs.1,hs.2,Lg.le_refl _,Int.le_refl _,Lg.le_refl _⟩
  ·rw[(hq2.map _).nodup_iff];simp
  ·rw[hset n h0]
   by_cases h4:n=s
   ·rw[if_pos h4,h4];exact .inr ⟨0,Nat.le_refl _,.nil⟩
   ·rw[if_neg h4];exact .inl rfl
  ·rw[hset n h0] at h5 ⊢
   by_cases h6:n=s
   ·rw[if_pos h6];exact ⟨_,(hmem _).2 rfl,h6.symm,rfl⟩
   ·rw[if_neg h6] at h5;exact absurd rfl h5
 obtain ⟨out,k1,S',b',k2⟩:=QkZ hF hr hs (514*64+q.heap.length) F [] ⟨0,0⟩ _ q (by simp) (by rw[hq2.length_eq];simp;omega) hD;refine ⟨out,?_,k2.legs hr hs⟩;unfold Vv
 rw[hmk]
 simp only[Option.bind_some]
 rw[hl1]
 simp only[Option.bind_some,Vg]
 rw[Qby hs.1 (by omega)]
 simp only[Option.bind_some]
 rw[hq1]
 simp only[Option.bind_some,k1]
end Go.Proofs.YthpgjbbjpfiniaaGreat
