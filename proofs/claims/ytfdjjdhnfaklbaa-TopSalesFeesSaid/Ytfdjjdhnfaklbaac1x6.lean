/- TopSalesFees: for every input the given law returns true, and its arguments read as before. No condition. -/
import Derived.Test.Ytfdjjdhnfaklbaac1x1
import Derived.Test.Ytfdjjdhnfaklbaac1x3
import Derived.Test.Ytfdjjdhnfaklbaac1x5
import Derived.Test.Ytfdjjdhnfaklbaac1x2
namespace Go.Proofs.Ytfdjjdhnfaklbaa
open Go.RowKit
set_option linter.unusedSimpArgs false
set_option linter.unusedVariables false
set_option maxHeartbeats 2000000
set_option maxRecDepth 4000
attribute [local irreducible] WP QW Ji Fn AN Upd vcR vcO VF Y1 YM J5 Wc VB ZY ZQ Vw Qb KS
variable {μ:Gh} {L:List Seg} {R:Value→Gh→List Seg→Prop}
theorem QaC {F:Nat} {costs1:(List Int)} {l1:(List Qa)} {mod1:(List Int)} {A1:Option Addr} {c1:Nat} {A2:Option Addr} {c2:Nat} {A3:Option Addr} {c3:Nat} {res1:(List Qf)} {res2:Int}
  (hl1:costs1.length≤c1∧c1≤maxLen) (hA1:Rds Qq μ L A1 costs1) (hl2:l1.length≤c2∧c2≤maxLen) (hA2:Rds Qg μ L A2 l1) (hl3:mod1.length≤c3∧c3≤maxLen) (hA3:Rds Qq μ L A3 mod1) (h:Wt F costs1 l1 mod1=some (res1,res2))
  (hR: ∀(A0:Option Addr) (c0:Nat) (ch0:Seg),Own QS 69 μ (.slice A0 res1.length c0) res1 ch0→R (.tuple #[.slice A0 res1.length c0,.int .i64 res2]) μ (ch0::L)) :
  Fn Try.prog 20 [.slice A1 costs1.length c1,.slice A2 l1.length c2,.slice A3 mod1.length c3] μ (L) R:=by
 unfold Wt at h;refine FnS Try.func20 (by kernel_rfl) E Try.ntmps20 E E ?_;refine G0 11 E (Cl E ?_);obtain ⟨_,hx1,h⟩:=Qi h;refine QcG hl1 hA1 hl2 hA2 hl3 hA3 hx1 ((Q0 7 E ?_));refine Br h 29 E E (fun hc1 h=> ?_) (fun hc1 h=> ?_)
 ·refine G2 7 [29] [] [] E ?_;cases h;exact Rt [] E E (Ug [[]] 0 (hR none 0 [] Own.nil))
 refine G2 4 [] [29] [] E (So E (Qcy (fun g1=>Q0 9 E ?_)));refine Cut h (fun f l o_ f_ μ_ l_=> ∃(m3:(List (Int×Option (List Qa)))) (es4:Array MapEntry) (cn4:Nat) (so5:Seg),m3=o_∧Qe (Qj [0,2,9] f) f_∧Qc (((g1,.map es4 cn4)::so5)::QL [] 1 l) l_∧W1 Qg 110 μ_ es4 cn4 m3 so5∧μ=μ_) ?_ ?_
 ·intro _ h3622 h;refine Lp h3622 (fun f l (j_:(List (Int×Option (List Qa)))×Int) f_ μ_ l_=>Zs j_ fun m1 v1=> ∃(es1:Array MapEntry) (cn1:Nat) (so1:Seg),Qe ((34,.int .i64 v1)::Qj [0,2,9,32,33] f) f_∧Qc (((g1,.map es1 cn1)::so1)::QL [] 1 l) l_∧W1 Qg 110 μ_ es1 cn1 m1 so1∧μ=μ_) ⟨#[],0,[],fE E,sE [some 0] 1 E,((W1.nil (r:=Qg) (e:=110))),E⟩ ?_;rintro ⟨m1,v1⟩ _ _ _ _ _ ⟨es1,cn1,so1,hF3705,hS3705,hM1,rfl⟩ hb3705 hq3705;unfold Jl at hb3705;replace hb3705:=Qo hb3705;refine Atn 1 hF3705 hS3705 E E (G0 5 E ?_);refine Br hb3705 35 E E (fun hc2 hb3705=> ?_) (fun hc2 hb3705=> ?_)
  ·refine G2 6 [35] [] [] E (Ix hb3705 hA2 E E fun x1 _ _ _ hr1 hc3 _ hb3705=> ?_);obtain rfl:=hr1;refine Q3 1 [] [] [64] (Z1 (hc3.push)) E (Al E fun g2=>Q1 2 [0] E ?_);refine Cut hb3705 (fun f l o_ f_ μ_ l_=> ∃(m2:(List (Int×Option (List Qa)))) (es3:Array MapEntry) (cn3:Nat) (so4:Seg),m2=o_∧Qe (Qj [0,2,9,32,33,34] f) f_∧Qc (((g1,.map es3 cn3)::so4)::QL [] 2 l) l_∧W1 Qg 110 μ_ es3 cn3 m2 so4∧μ=μ_) ?_ ?_
   ·intro _ h3741 hb3705;obtain ⟨_,hx3,h3741⟩:=Qi h3741;obtain ⟨_,_,ch1,so2,hl4,hp1,hO1,hM2⟩:=W1.take hM1 (g1,.map es1 cn1) hx3;refine InP hp1 1 3 E E E (Cd (WP.draw (id:=8) QbO ([(g2,.cells #[.int .i64 x1.Producer,.int .i64 x1.Material,.int .i64 x1.Grams] 110 (0,0))]::L) (Kp [0] 3 E) E (AN.run (fuel:=4) (listed':=[true,true,true,true,true,true,false,true,false,false,false]) Qh [(true,0),(true,1),(true,2),(true,3),(true,4),(true,5),(true,7)] (by kernel_rfl) (by kernel_rfl) E (YJ E (Qs E (Pt E E (Qb0 (o':=1) E E E E E E (Pt E E (Z3 E E E (Ex.mk _ (ZQ.seg 0 0 E E E) (Pt E E (Qs E (Pt E E ?_)))))))))))));refine Qb0 (o':=1) E E E E E E (Pt E E (Z3 E E E (Ex.mk _ (ZQ.seg 0 0 E E E) (Pt E E (We E E E E (LA_ (vs:=[.int .i64 x1.Producer,.int .i64 x1.Material,.int .i64 x1.Grams]) 0 0 E E E E (Qd E (QD ?_))))))));refine Wn Qh (a:=6) (b:=8) (by kernel_rfl) ?_ ?_
    ·refine FO_ E E (Zu E ?_);obtain ⟨b1,hx4⟩:=LkW.look (L:=([(g2,.cells #[.int .i64 x1.Producer,.int .i64 x1.Material,.int .i64 x1.Grams] 110 (0,0))]::ch1::((g1,.map es1 cn1)::so2)::L)) (g:=g1) hl4 (Zn.seg 2 0 rfl rfl);refine QdV E E E E E E E E (Ex.mk _ hx4 ?_);refine ⟨Kp [0] 3 E,?_⟩;refine Qd E (AN.run (fuel:=0) (listed':=[true,true,true,true,true,true,true,true,true,true,true]) Qh [(false,8),(false,9),(false,10)] (by kernel_rfl) (by kernel_rfl) E (YH E (WU (z:=[.int .i64 0,.int .i64 0,.int .i64 0]) E E E E E E E (ZR (cells':=[.int .i64 x1.Producer,.int .i64 x1.Material,.int .i64 x1.Grams]) E E E E (Wo (fun g3=> ?_))))));refine ⟨Kp [1] 4 E,?_⟩;refine Qd E (YH E (J0 E ?_));obtain ⟨l3,hz1,h3741⟩:=Qi h3741;refine Vj (r:=Qg) Qh E E E E (by decide) E E 2 E hO1 E (Own.rds (Own.lit (r:=Qg) (e:=110) (g:=g3) (xs:=[x1]) (cs:=[.int .i64 x1.Producer,.int .i64 x1.Material,.int .i64 x1.Grams]) (css:=[[.int .i64 x1.Producer,.int .i64 x1.Material,.int .i64 x1.Grams]]) E (YA.cons (E) (YA.nil)) E E) 0 E) hz1 fun A5 c5 ch2 hO2=> ?_;refine ⟨Kp [1] 4 E,?_⟩;refine Qd E (YH E (W5 E E E (Qcs Qh E E E E 3 2 E E E hM2 hO2 fun es2 cn2 so3 hM3=> ?_)));refine ⟨Kp [1] 4 E,?_⟩;refine QE (QD (AN.done0 (by kernel_rfl) ?_));cases h3741;exact Ce E ⟨_,es2,cn2,so3,rfl,fE E,sE [some 3] 4 E,(hM3),rfl⟩
    obtain ⟨l3,hz1,h3741⟩:=Qi h3741;refine FO_ E E (WU (z:=[.int .i64 0,.int .i64 0,.int .i64 0]) E E E E E E E (ZR (cells':=[.int .i64 x1.Producer,.int .i64 x1.Material,.int .i64 x1.Grams]) E E E E (Wo (fun g3=> ?_))));refine ⟨Kp [1] 4 E,?_⟩;refine Qd E (AN.run (fuel:=0) (listed':=[true,true,true,true,true,true,true,true,true,true,true]) Qh [(false,6),(false,9),(false,10)] (by kernel_rfl) (by kernel_rfl) E (YH E (Zu E ?_)));obtain ⟨b1,hx4⟩:=LkW.look (L:=([(g3,.cells #[.int .i64 x1.Producer,.int .i64 x1.Material,.int .i64 x1.Grams] 110 (0,0))]::[(g2,.cells #[.int .i64 x1.Producer,.int .i64 x1.Material,.int .i64 x1.Grams] 110 (0,0))]::ch1::((g1,.map es1 cn1)::so2)::L)) (g:=g1) hl4 (Zn.seg 3 0 rfl rfl);refine QdV E E E E E E E E (Ex.mk _ hx4 ?_);refine ⟨Kp [1] 4 E,?_⟩;refine Qd E (YH E (J0 E (Vj (r:=Qg) Qh E E E E (by decide) E E 2 E hO1 E (Own.rds (Own.lit (r:=Qg) (e:=110) (g:=g3) (xs:=[x1]) (cs:=[.int .i64 x1.Producer,.int .i64 x1.Material,.int .i64 x1.Grams]) (css:=[[.int .i64 x1.Producer,.int .i64 x1.Material,.int .i64 x1.Grams]]) E (YA.cons (E) (YA.nil)) E E) 0 E) hz1 fun A5 c5 ch2 hO2=> ?_)));refine ⟨Kp [1] 4 E,?_⟩;refine Qd E (YH E (W5 E E E (Qcs Qh E E E E 3 2 E E E hM2 hO2 fun es2 cn2 so3 hM3=> ?_)));refine ⟨Kp [1] 4 E,?_⟩;refine QE (QD (AN.done0 (by kernel_rfl) ?_));cases h3741;exact Ce E ⟨_,es2,cn2,so3,rfl,fE E,sE [some 3] 4 E,(hM3),rfl⟩
   rintro _ _ _ _ hb3705 _ ⟨m2,es3,cn3,so4,rfl,hF3741,hS3741,hM4,rfl⟩;refine Atn 1 hF3741 hS3741 E E (G0 5 E ?_);cases hb3705;exact Ce E ⟨_,rfl,es3,cn3,so4,fE E,sE [some 0] 1 E,(hM4),rfl⟩
  refine G2 2 [] [35] [] E ?_;cases hb3705;have hq_:=hq3705 _ E;subst hq_;exact Ce E ⟨_,es1,cn1,so1,rfl,fE E,sE [some 0] 1 E,(hM1),rfl⟩
 rintro _ _ _ _ h _ ⟨m3,es4,cn4,so5,rfl,hF3622,hS3622,hM5,rfl⟩;refine Atn 1 hF3622 hS3622 E E (G0 11 E ?_);refine Cut h (fun f l o_ f_ μ_ l_=> ∃(out6:(List Qf)) (A18:Option Addr) (c18:Nat) (ch16:Seg),(.inl out6)=o_∧Qe ((12,.slice A18 out6.length c18)::[]) f_∧Qc (ch16::QL [] 1 l) l_∧Own QS 69 μ_ (.slice A18 out6.length c18) out6 ch16∧μ=μ_) ?_ ?_
 ·intro _ h3796 h;refine Lp h3796 (fun f l (j_:(List (Int×Option (List Qa)))×(List Qf)×Int) f_ μ_ l_=>Zs j_ fun m4 j_=>Zs j_ fun out1 v2=> ∃(es5:Array MapEntry) (cn5:Nat) (so6:Seg) (A6:Option Addr) (c6:Nat) (ch3:Seg),Qe ((12,.slice A6 out1.length c6)::(51,.int .i64 v2)::Qj [2,9,49,50] f) f_∧Qc (((g1,.map es5 cn5)::so6)::ch3::QL [] 1 l) l_∧W1 Qg 110 μ_ es5 cn5 m4 so6∧Own QS 69 μ_ (.slice A6 out1.length c6) out1 ch3∧μ=μ_) ⟨es4,cn4,so5,none,0,[],fE E,sE [some 0,none] 1 E,(hM5),(Own.nil),E⟩ ?_;rintro ⟨m4,out1,v2⟩ _ _ _ _ _ ⟨es5,cn5,so6,A6,c6,ch3,hF3916,hS3916,hM6,hO3,rfl⟩ hb3916 hq3916;unfold Jo at hb3916;replace hb3916:=Qo hb3916;replace hb3916:=Qo hb3916;refine Atn 2 hF3916 hS3916 E E (G0 5 E ?_);refine Br hb3916 52 E E (fun hc4 hb3916=> ?_) (fun hc4 hb3916=> ?_)
  ·refine G2 3 [52] [] [] E ?_;refine Cut hb3916 (fun f l o_ f_ μ_ l_=> ∃(m5:(List (Int×Option (List Qa)))) (out5:(List Qf)) (es6:Array MapEntry) (cn6:Nat) (so8:Seg) (A17:Option Addr) (c17:Nat) (ch15:Seg),(.inl (m5,out5))=o_∧Qe ((12,.slice A17 out5.length c17)::Qj [2,9,49,50,51] f) f_∧Qc (((g1,.map es6 cn6)::so8)::ch15::QL [] 2 l) l_∧W1 Qg 110 μ_ es6 cn6 m5 so8∧Own QS 69 μ_ (.slice A17 out5.length c17) out5 ch15∧μ=μ_) ?_ ?_
   ·intro _ h3922 hb3916;refine G0 4 E (Ix h3922 hA1 E E fun _ _ _ _ hr2 hc5 _ h3922=> ?_);obtain rfl:=hr2;refine Q3 10 [] [] [64] (Z1 (hc5.push.push)) E ?_;refine Br h3922 57 E E (fun hc6 h3922=> ?_) (fun hc6 h3922=> ?_)
    ·refine G2 2 [57] [] [] E ?_;cases h3922;exact Ce E ⟨_,_,es5,cn5,so6,A6,c6,ch3,rfl,fE E,sE [some 0,some 1] 2 E,(hM6),(hO3),rfl⟩
    obtain ⟨_,hx6,h3922⟩:=Qi h3922;refine G2 3 [] [57] [] E ?_;obtain ⟨_,_,ch4,so7,hl5,hp2,hO4,hM7⟩:=W1.take hM6 (g1,.map es5 cn5) hx6;refine InP hp2 0 3 E E E (G0 3 E (Rdo E E ?_));obtain ⟨_,hx7⟩:=LkW.look (L:=(ch4::((g1,.map es5 cn5)::so7)::ch3::L)) (g:=g1) hl5 (Zn.seg 1 0 rfl rfl);refine QdV E E E E E E E E (Ex.mk _ hx7 (Q0 5 E (Cl E ?_)));obtain ⟨_,hx8,h3922⟩:=Qi h3922;refine JI E hO4 hx8 (fun ch5 hO5 hn1=> ?_)
    rw[hn1] at hO5 ⊢
    refine Q0 16 E ?_;refine Cut h3922 (fun f l o_ f_ μ_ l_=> ∃(weights3:(List Int)) (positive3:Bool) (A11:Option Addr) (c11:Nat) (ch9:Seg),(weights3,positive3)=o_∧Qe ((16,.slice A11 weights3.length c11)::(17,.bool positive3)::Qj [2,9,12,13,14,15,49,50,51] f) f_∧Qc (((g1,.map es5 cn5)::so7)::ch3::ch5::ch9::QL [] 3 l) l_∧Own Qq 3 μ_ (.slice A11 weights3.length c11) weights3 ch9∧μ=μ_) ?_ ?_
    ·intro _ h3938 h3922;refine Lp h3938 (fun f l (j_:(List Int)×Bool×Int) f_ μ_ l_=>Zs j_ fun weights1 j_=>Zs j_ fun positive1 v3=> ∃(A8:Option Addr) (c8:Nat) (ch6:Seg),Qe ((16,.slice A8 weights1.length c8)::(17,.bool positive1)::(65,.int .i64 v3)::Qj [2,9,12,13,14,15,49,50,51,63,64] f) f_∧Qc (((g1,.map es5 cn5)::so7)::ch3::ch5::ch6::QL [] 3 l) l_∧Own Qq 3 μ_ (.slice A8 weights1.length c8) weights1 ch6∧μ=μ_) ⟨none,0,[],fE E,sE [some 1,some 2,some 0,none] 3 E,(Own.nil),E⟩ ?_;rintro ⟨weights1,positive1,v3⟩ _ _ _ _ _ ⟨A8,c8,ch6,hF3967,hS3967,hO6,rfl⟩ hb3967 hq3967;unfold Jm at hb3967;replace hb3967:=Qo hb3967;replace hb3967:=Qo hb3967;refine Atn 4 hF3967 hS3967 E E (G0 5 E ?_);refine Br hb3967 66 E E (fun hc7 hb3967=> ?_) (fun hc7 hb3967=> ?_)
     ·refine G2 3 [66] [] [] E ?_;refine Cut hb3967 (fun f l o_ f_ μ_ l_=> ∃(weights2:(List Int)) (positive2:Bool) (A10:Option Addr) (c10:Nat) (ch8:Seg),(weights2,positive2)=o_∧Qe ((16,.slice A10 weights2.length c10)::(17,.bool positive2)::Qj [2,9,12,13,14,15,49,50,51,63,64,65] f) f_∧Qc (((g1,.map es5 cn5)::so7)::ch3::ch5::ch8::QL [] 4 l) l_∧Own Qq 3 μ_ (.slice A10 weights2.length c10) weights2 ch8∧μ=μ_) ?_ ?_
      ·intro _ h3970 hb3967;refine G0 3 E (IxA h3970 (Own.rds hO5 2 E) E E fun x3 _ _ _ hr3 hc8 _ h3970=> ?_);obtain rfl:=hr3;refine Q3 1 [] [] [64] (Z1 hc8) E (Al E fun _=>Q1 3 [0] E (Drk [4] 4 E [(true,0),(true,1),(true,2),(true,3),(true,4),(true,5),(true,6),(true,7),(true,8),(false,9),(false,10),(true,11)] (by kernel_rfl) (G1 6 [0,0] E (Ix h3970 hA3 E E fun x4 _ _ _ hr4 hc9 _ h3970=> ?_))));obtain rfl:=hr4;refine Q3 2 [] [] [64] (Z1 (hc9.push.push.push.push)) E (So E (WU (z:=[.int .i64 0]) E E E E E E E (ZR (cells':=[.int .i64 (w64 (x3.Grams*x4))]) E E E E (Wo (fun g5=> ?_)))));refine ⟨Kp [1,2,3,4] 6 E,?_⟩;refine Q0 0 E (So E (J0 E ?_));obtain ⟨_,hz2,h3970⟩:=Qi h3970;refine Vj (r:=Qq) Qh E E E E (by decide) E E 5 E hO6 E (Own.rds (Own.lit (r:=Qq) (e:=3) (g:=g5) (xs:=[w64 (x3.Grams*x4)]) (cs:=[.int .i64 (w64 (x3.Grams*x4))]) (css:=[[.int .i64 (w64 (x3.Grams*x4))]]) E (YA.cons (E) (YA.nil)) E E) 0 E) hz2 fun A9 c9 ch7 hO7=> ?_;refine ⟨Kp [1,2,3,4] 6 E,?_⟩;refine Q0 5 E ?_;refine Br h3970 81 E E (fun hc10 h3970=> ?_) (fun hc10 h3970=> ?_)
       ·refine G2 7 [81] [] [] E ?_;cases h3970;exact Ce E ⟨_,_,A9,c9,ch7,rfl,fE E,sE [some 2,some 3,some 4,some 5] 6 E,(hO7),rfl⟩
       refine G2 7 [] [81] [1] E ?_;cases h3970;exact Ce E ⟨_,_,A9,c9,ch7,rfl,fE E,sE [some 2,some 3,some 4,some 5] 6 E,(hO7),rfl⟩
      rintro _ _ _ _ hb3967 _ ⟨weights2,positive2,A10,c10,ch8,rfl,hF3970,hS3970,hO8,rfl⟩;replace hb3967:=Qo hb3967;refine Atn 4 hF3970 hS3970 E E (G0 4 E ?_);cases hb3967;exact Ce E ⟨_,rfl,A10,c10,ch8,fE E,sE [some 0,some 1,some 2,some 3] 4 E,(hO8),rfl⟩
     refine G2 2 [] [66] [] E ?_;cases hb3967;have hq_:=hq3967 _ E;subst hq_;exact Ce E ⟨_,_,A8,c8,ch6,rfl,fE E,sE [some 0,some 1,some 2,some 3] 4 E,(hO6),rfl⟩
    rintro _ _ _ _ h3922 _ ⟨weights3,positive3,A11,c11,ch9,rfl,hF3938,hS3938,hO9,rfl⟩;replace h3922:=Qo h3922;refine Atn 4 hF3938 hS3938 E E (G0 6 E ?_);refine Br h3922 88 E E (fun hc11 h3922=> ?_) (fun hc11 h3922=> ?_)
    ·refine G2 6 [88] [] [] E ?_;cases h3922;replace hb3916:=Yb hb3916;cases hb3916;have hq_:=hq3916 _ E;subst hq_;replace h:=Yb h;cases h;exact Rt [] E E (Ug [[]] 4 (hR none 0 [] Own.nil))
    refine G2 6 [] [88] [] E (Cl E ?_);obtain ⟨⟨_,_⟩,hx11,h3922⟩:=Qi h3922;replace h3922:=Qo h3922;refine QbF (Own.lenOk hO9) (Own.rds hO9 3 E) hx11 (fun _ _ ch10 hO10=>Q0 12 E ?_);refine Br h3922 96 E E (fun hc12 h3922=> ?_) (fun hc12 h3922=> ?_)
    ·refine G2 7 [96] [] [] E ?_;cases h3922;replace hb3916:=Yb hb3916;cases hb3916;have hq_:=hq3916 _ E;subst hq_;replace h:=Yb h;cases h;exact Rt [] E E (Ug [[]] 5 (hR none 0 [] Own.nil))
    refine G2 8 [] [96] [] E ?_;refine Cut h3922 (fun f l o_ f_ μ_ l_=> ∃(out4:(List Qf)) (A16:Option Addr) (c16:Nat) (ch14:Seg),out4=o_∧Qe ((12,.slice A16 out4.length c16)::Qj [2,9,49,50,51] f) f_∧Qc (((g1,.map es5 cn5)::so7)::ch14::QL [] 5 l) l_∧Own QS 69 μ_ (.slice A16 out4.length c16) out4 ch14∧μ=μ_) ?_ ?_
    ·intro _ h3999 h3922;refine Lp h3999 (fun f l (j_:(List Qf)×Int) f_ μ_ l_=>Zs j_ fun out2 v4=> ∃(A13:Option Addr) (c13:Nat) (ch11:Seg),Qe ((12,.slice A13 out2.length c13)::(100,.int .i64 v4)::Qj [2,9,13,20,49,50,51,98,99] f) f_∧Qc (((g1,.map es5 cn5)::so7)::ch11::QL [some 0,some 3] 5 l) l_∧Own QS 69 μ_ (.slice A13 out2.length c13) out2 ch11∧μ=μ_) ⟨A6,c6,ch3,fE E,sE [some 1,some 2,some 0,some 3] 5 E,(hO3),E⟩ ?_;rintro ⟨out2,v4⟩ _ _ _ _ _ ⟨A13,c13,ch11,hF4015,hS4015,hO11,rfl⟩ hb4015 hq4015;unfold Jn at hb4015;replace hb4015:=Qo hb4015;refine Atn 4 hF4015 hS4015 E E (G0 5 E ?_);refine Br hb4015 101 E E (fun hc13 hb4015=> ?_) (fun hc13 hb4015=> ?_)
     ·refine G2 3 [101] [] [] E ?_;refine Cut hb4015 (fun f l o_ f_ μ_ l_=> ∃(out3:(List Qf)) (A15:Option Addr) (c15:Nat) (ch13:Seg),out3=o_∧Qe ((12,.slice A15 out3.length c15)::Qj [2,9,13,20,49,50,51,98,99,100] f) f_∧Qc (((g1,.map es5 cn5)::so7)::ch13::QL [] 2 l) l_∧Own QS 69 μ_ (.slice A15 out3.length c15) out3 ch13∧μ=μ_) ?_ ?_
      ·intro _ h4017 hb4015;refine G0 4 E (IxA h4017 (Own.rds hO5 3 E) E E fun x5 _ _ _ hr5 hc14 _ h4017=> ?_);obtain rfl:=hr5;refine Q3 1 [] [] [64] (Z1 hc14) E (Al E fun g6=>Q1 7 [0] E (IxA h4017 (Own.rds hO10 3 E) E E fun _ _ _ _ hr6 hc15 _ h4017=> ?_));obtain rfl:=hr6;refine Q3 3 [] [] [64] (Z1 hc15) E ?_;refine Br h4017 109 E E (fun hc16 h4017=> ?_) (fun hc16 h4017=> ?_)
       ·refine G2 1 [109] [] [] E (Drk [2] 4 E [(true,0),(true,1),(true,2),(true,3),(true,4),(true,5),(true,6),(true,7),(true,8),(false,9),(false,10),(true,11)] (by kernel_rfl) (G1 6 [0] E (Ix h4017 (Own.rds (L:=([(g6,.cells #[.int .i64 x5.Producer,.int .i64 x5.Material,.int .i64 x5.Grams] 110 (0,0))]::((g1,.map es5 cn5)::so7)::ch10::ch5::L)) hO10 2 E) E E fun x7 _ _ _ hr7 hc17 _ h4017=> ?_)));obtain rfl:=hr7;refine Q3 2 [] [] [64] (Z1 hc17) E (So E (WU (z:=[.int .i64 0,.int .i64 0,.int .i64 0]) E E E E E E E (ZR (cells':=[.int .i64 x5.Producer,.int .i64 v2,.int .i64 x7]) E E E E (Wo (fun g7=> ?_)))));refine ⟨Kp [1,2,4,5] 6 E,?_⟩;refine Q0 0 E (So E (J0 E ?_));obtain ⟨_,hz3,h4017⟩:=Qi h4017;refine Vj (r:=QS) Qh E E E E (by decide) E E 3 E hO11 E (Own.rds (Own.lit (r:=QS) (e:=69) (g:=g7) (xs:=[(Qf.mk x5.Producer v2 x7)]) (cs:=[.int .i64 x5.Producer,.int .i64 v2,.int .i64 x7]) (css:=[[.int .i64 x5.Producer,.int .i64 v2,.int .i64 x7]]) E (YA.cons (E) (YA.nil)) E E) 0 E) hz3 fun A14 c14 ch12 hO12=> ?_;refine ⟨Kp [1,2,4,5] 6 E,?_⟩;refine Q0 3 E ?_;cases h4017;exact Ce E ⟨_,A14,c14,ch12,rfl,fE E,sE [some 2,some 3,some 4,some 5] 6 E,(hO12),rfl⟩
       refine G2 3 [] [109] [] E ?_;cases h4017;exact Ce E ⟨_,A13,c13,ch11,rfl,fE E,sE [some 1,some 2,some 3,some 4] 5 E,(hO11),rfl⟩
      rintro _ _ _ _ hb4015 _ ⟨out3,A15,c15,ch13,rfl,hF4017,hS4017,hO13,rfl⟩;refine Atn 4 hF4017 hS4017 E E (G0 4 E ?_);cases hb4015;exact Ce E ⟨_,rfl,A15,c15,ch13,fE E,sE [some 0,some 1,some 2,some 3] 4 E,(hO13),rfl⟩
     refine G2 2 [] [101] [] E ?_;cases hb4015;have hq_:=hq4015 _ E;subst hq_;exact Ce E ⟨_,A13,c13,ch11,rfl,fE E,sE [some 0,some 1] 4 E,(hO11),rfl⟩
    rintro _ _ _ _ h3922 _ ⟨out4,A16,c16,ch14,rfl,hF3999,hS3999,hO14,rfl⟩;refine G0 1 E ?_;cases h3922;exact Ce E ⟨_,_,es5,cn5,so7,A16,c16,ch14,rfl,hF3999.tr E,hS3999.tr (sE [some 0,some 1] 2 E),(hM7),(hO14),rfl⟩
   rintro _ _ _ _ hb3916 _ ⟨m5,out5,es6,cn6,so8,A17,c17,ch15,rfl,hF3922,hS3922,hM8,hO15,rfl⟩;replace hb3916:=Y9 hb3916;replace hb3916:=Qo hb3916;refine Atn 2 hF3922 hS3922 E E (G0 4 E ?_);cases hb3916;exact Ce E ⟨_,rfl,es6,cn6,so8,A17,c17,ch15,fE E,sE [some 0,some 1] 2 E,(hM8),(hO15),rfl⟩
  refine G2 2 [] [52] [] E ?_;cases hb3916;have hq_:=hq3916 _ E;subst hq_;exact Ce E ⟨_,A6,c6,ch3,rfl,fE E,sE [some 1] 2 E,(hO3),rfl⟩
 rintro _ _ _ _ h _ ⟨out6,A18,c18,ch16,rfl,hF3796,hS3796,hO16,rfl⟩;replace h:=Y9 h;refine Atn 1 hF3796 hS3796 E E (G0 3 E (Cl E ?_));obtain ⟨_,hx15,h⟩:=Qi h;refine Wa E hO16 hx15 (fun ch17 hO17 hn2=> ?_)
 rw[hn2] at hO17 ⊢
 refine Q0 7 E ?_;cases h;exact Rt [] E E (Ug [[0]] 1 (hR A18 c18 ch17 hO17))
theorem YX {F:Nat}   {res1:Bool}
   (h:Q8 F=some res1)
  (hR:R (.bool res1) μ (L)) :
  Fn Try.prog 18 [] μ (L) R:=by
 unfold Q8 at h;refine FnS Try.func18 (by kernel_rfl) E Try.ntmps18 E E ?_;refine G0 6 E (So E (WU (z:=[.int .i64 0]) E E E E E E E (ZR (cells':=[.int .i64 3]) E E E E (Wo (fun g1=>Q0 2 E (So E (WU (z:=[.int .i64 0,.int .i64 0,.int .i64 0,.int .i64 0,.int .i64 0,.int .i64 0]) E E E E E E E (ZR (cells':=[.int .i64 0,.int .i64 0,.int .i64 7,.int .i64 0,.int .i64 0,.int .i64 0]) E E E E (ZR (cells':=[.int .i64 0,.int .i64 0,.int .i64 7,.int .i64 1,.int .i64 0,.int .i64 7]) E E E E (Wo (fun g2=>Q0 0 E (So E (WU (z:=[.int .i64 0,.int .i64 0]) E E E E E E E (ZR (cells':=[.int .i64 1000,.int .i64 0]) E E E E (ZR (cells':=[.int .i64 1000,.int .i64 1000]) E E E E (Wo (fun g3=>Q0 0 E ?_)))))))))))))))));refine Cl E ?_;obtain ⟨⟨_,_⟩,hx1,h⟩:=Qi h;replace h:=Qo h;refine QaC (Qbw (c:=1) E E) (Own.rds (Own.lit (r:=Qq) (e:=3) (g:=g1) (xs:=[3]) (cs:=[.int .i64 3]) (css:=[[.int .i64 3]]) E (YA.cons (E) (YA.nil)) E E) 2 E) (Qbw (c:=2) E E) (Own.rds (Own.lit (r:=Qg) (e:=110) (g:=g2) (xs:=[(Qa.mk 0 0 7),(Qa.mk 1 0 7)]) (cs:=[.int .i64 0,.int .i64 0,.int .i64 7,.int .i64 1,.int .i64 0,.int .i64 7]) (css:=[[.int .i64 0,.int .i64 0,.int .i64 7],[.int .i64 1,.int .i64 0,.int .i64 7]]) E (YA.cons (E) (YA.cons (E) (YA.nil))) E E) 1 E) (Qbw (c:=2) E E) (Own.rds (Own.lit (r:=Qq) (e:=3) (g:=g3) (xs:=[1000,1000]) (cs:=[.int .i64 1000,.int .i64 1000]) (css:=[[.int .i64 1000],[.int .i64 1000]]) E (YA.cons (E) (YA.cons (E) (YA.nil))) E E) 0 E) hx1 (fun _ _ _ hO1=> ?_);refine Q0 7 E ?_;refine Cut h (fun f l o_ f_ μ_ l_=> ∃(v1:Bool),v1=o_∧Qe ((0,.bool v1)::[]) f_∧Qc (QL [] 4 l) l_∧μ=μ_) ?_ ?_
 ·intro _ h4039 h;refine G0 4 E ?_;refine Br h4039 14 E E (fun hc1 h4039=> ?_) (fun hc1 h4039=> ?_)
  ·refine G2 5 [14] [] [] E ?_;refine Br h4039 19 E E (fun hc2 h4039=> ?_) (fun hc2 h4039=> ?_)
   ·refine G2 1 [19] [] [] E (IxA h4039 (Own.rds hO1 0 E) E E fun _ _ _ _ hr1 hc3 _ h4039=> ?_);obtain rfl:=hr1;refine Q3 5 [19] [] [66] (Z1 hc3) E ?_;refine Br h4039 26 E E (fun hc4 h4039=> ?_) (fun hc4 h4039=> ?_)
    ·refine G2 1 [26] [] [] E (IxA h4039 (Own.rds hO1 0 E) E E fun _ _ _ _ hr2 hc5 _ h4039=> ?_);obtain rfl:=hr2;refine Q3 6 [26] [] [66] (Z1 hc5) E ?_;cases h4039;exact Ce E ⟨_,rfl,fE E,sE [] 4 E,rfl⟩
    refine G2 8 [] [26] [] E ?_;cases h4039;exact Ce E ⟨_,rfl,fE E,sE [] 4 E,rfl⟩
   refine G2 15 [] [19,26] [] E ?_;cases h4039;exact Ce E ⟨_,rfl,fE E,sE [] 4 E,rfl⟩
  refine G2 20 [] [14,19,26] [] E ?_;cases h4039;exact Ce E ⟨_,rfl,fE E,sE [] 4 E,rfl⟩
 rintro _ _ _ _ h _ ⟨v1,rfl,hF4039,hS4039,rfl⟩;refine Atn 0 hF4039 hS4039 E E ?_;cases h;exact Rt [] E E (Ug [] 0 hR)
theorem Qat  {p1:Ql}  {res1:Bool}
   (h:Jf p1=some res1)
  (hR:R (.bool res1) μ (L)) :
  Fn Try.prog 45 [.agg #[.string p1.Code,.int .i64 p1.Producer,.int .i64 p1.Deposit,.int .i64 p1.Material,.int .i64 p1.Grams]] μ (L) R:=by
 unfold Jf at h;refine FnS Try.func45 (by kernel_rfl) E Try.ntmps45 E E ?_;refine G0 2 E (Al E fun _=>Q0 3 E ?_);refine Cut h (fun f l o_ f_ μ_ l_=> ∃(v1:Bool),v1=o_∧Qe ((2,.bool v1)::[]) f_∧Qc (QL [] 1 l) l_∧μ=μ_) ?_ ?_
 ·intro _ h4072 h;refine G1 5 [0] E ?_;refine Br h4072 6 E E (fun hc1 h4072=> ?_) (fun hc1 h4072=> ?_)
  ·refine G2 5 [6] [] [0] E ?_;refine Br h4072 11 E E (fun hc2 h4072=> ?_) (fun hc2 h4072=> ?_)
   ·refine G2 5 [11] [] [0] E ?_;refine Br h4072 16 E E (fun hc3 h4072=> ?_) (fun hc3 h4072=> ?_)
    ·refine G2 5 [16] [] [0] E ?_;refine Br h4072 21 E E (fun hc4 h4072=> ?_) (fun hc4 h4072=> ?_)
     ·refine G2 5 [21] [] [0] E ?_;refine Br h4072 26 E E (fun hc5 h4072=> ?_) (fun hc5 h4072=> ?_)
      ·refine G2 6 [26] [] [0] E ?_;cases h4072;exact Ce E ⟨_,rfl,fE E,sE [] 1 E,rfl⟩
      refine G2 6 [] [26] [] E ?_;cases h4072;exact Ce E ⟨_,rfl,fE E,sE [] 1 E,rfl⟩
     refine G2 11 [] [21,26] [] E ?_;cases h4072;exact Ce E ⟨_,rfl,fE E,sE [] 1 E,rfl⟩
    refine G2 16 [] [16,21,26] [] E ?_;cases h4072;exact Ce E ⟨_,rfl,fE E,sE [] 1 E,rfl⟩
   refine G2 21 [] [11,16,21,26] [] E ?_;cases h4072;exact Ce E ⟨_,rfl,fE E,sE [] 1 E,rfl⟩
  refine G2 26 [] [6,11,16,21,26] [] E ?_;cases h4072;exact Ce E ⟨_,rfl,fE E,sE [] 1 E,rfl⟩
 rintro _ _ _ _ h _ ⟨v1,rfl,hF4072,hS4072,rfl⟩;refine Atn 0 hF4072 hS4072 E E ?_;cases h;exact Rt [] E E (Ug [] 0 hR)
theorem VR  {a1:Qa} {b1:Qa}  {res1:Int}
   (h:ZK a1 b1=some res1)
  (hR:R (.int .i64 res1) μ (L)) :
  Fn Try.prog 47 [.agg #[.int .i64 a1.Producer,.int .i64 a1.Material,.int .i64 a1.Grams],.agg #[.int .i64 b1.Producer,.int .i64 b1.Material,.int .i64 b1.Grams]] μ (L) R:=by
 unfold ZK at h;refine FnS Try.func47 (by kernel_rfl) E Try.ntmps47 E E ?_;refine G0 2 E (Al E fun _=>Q0 0 E (Al E fun _=>Q1 11 [1,0] E ?_));refine Br h 9 E E (fun hc1 h=> ?_) (fun hc1 h=> ?_)
 ·refine G2 10 [9] [] [1,0] E ?_;cases h;exact Rt [] E E (Ug [] 2 hR)
 refine G2 11 [] [9] [1,0] E ?_;cases h;exact Rt [] E E (Ug [] 2 hR)
theorem ZG {F:Nat} {data1:(List Qa)} {a1:Int} {b1:Int} {A1:Option Addr} {c1:Nat} {ch1:Seg} {n1:Nat} {res1:(List Qa)}
  (hn1:n1=data1.length) (hO1:Own Qg 110 μ (.slice A1 n1 c1) data1 ch1) (h:QI F data1 a1 b1=some res1)
  (hR: ∀(sp0:Seg),Own Qg 110 μ (.slice A1 n1 c1) res1 sp0→n1=res1.length→R (.tuple #[]) μ (sp0::L)) :
  Fn Try.prog 94 [.slice A1 n1 c1,.int .i64 a1,.int .i64 b1,.func (.func 47) #[] #[]] μ (ch1::L) R:=by
 unfold QI at h;subst hn1;have hn1:data1.length=data1.length:=rfl;refine FnS Try.func94 (by kernel_rfl) E Try.ntmps94 E E ?_;refine G0 6 E ?_;refine Cut h (fun f l o_ f_ μ_ l_=> ∃(data6:(List Qa)) (ch8:Seg),data6=o_∧Qe ([]) f_∧Qc (ch8::QL [] 1 l) l_∧data1.length=data6.length∧Own Qg 110 μ_ (.slice A1 data1.length c1) data6 ch8∧μ=μ_) ?_ ?_
 ·intro _ h4358 h;refine Lp h4358 (fun f l (j_:(List Qa)×Int) f_ μ_ l_=>Zs j_ fun data2 i1=> ∃(ch2:Seg),Qe ((8,.int .i64 i1)::Qj [0,1,2,3] f) f_∧Qc (ch2::QL [] 1 l) l_∧data1.length=data2.length∧Own Qg 110 μ_ (.slice A1 data1.length c1) data2 ch2∧μ=μ_) ⟨ch1,fE E,sE [some 0] 1 E,(hn1),(hO1),E⟩ ?_;rintro ⟨data2,i1⟩ _ _ _ _ _ ⟨ch2,hF4437,hS4437,hn2,hO2,rfl⟩ hb4437 hq4437;unfold YC at hb4437;replace hb4437:=Qo hb4437;refine Atn 1 hF4437 hS4437 E E (G0 7 E ?_);refine Br hb4437 14 E E (fun hc1 hb4437=> ?_) (fun hc1 hb4437=> ?_)
  ·refine G2 3 [14] [] [] E ?_;refine Cut hb4437 (fun f l o_ f_ μ_ l_=> ∃(data5:(List Qa)) (ch7:Seg),data5=o_∧Qe (Qj [0,1,2,3,8] f) f_∧Qc (ch7::QL [] 1 l) l_∧data1.length=data5.length∧Own Qg 110 μ_ (.slice A1 data1.length c1) data5 ch7∧μ=μ_) ?_ ?_
   ·intro _ h4439 hb4437;refine G0 6 E ?_;refine Cut h4439 (fun f l o_ f_ μ_ l_=> ∃(data4:(List Qa)) (ch6:Seg),data4=o_∧Qe (Qj [0,1,2,3,8] f) f_∧Qc (ch6::QL [] 1 l) l_∧data1.length=data4.length∧Own Qg 110 μ_ (.slice A1 data1.length c1) data4 ch6∧μ=μ_) ?_ ?_
    ·intro _ h4440 h4439;refine Lp h4440 (fun f l (j_:(List Qa)×Int) f_ μ_ l_=>Zs j_ fun data3 j1=> ∃(ch3:Seg),Qe ((9,.int .i64 j1)::Qj [0,1,2,3,8] f) f_∧Qc (ch3::QL [] 1 l) l_∧data1.length=data3.length∧Own Qg 110 μ_ (.slice A1 data1.length c1) data3 ch3∧μ=μ_) ⟨ch2,fE E,sE [some 0] 1 E,(hn2),(hO2),E⟩ ?_;rintro ⟨data3,j1⟩ _ _ _ _ _ ⟨ch3,hF4477,hS4477,hn3,hO3,rfl⟩ hb4477 hq4477;unfold YB at hb4477;replace hb4477:=Qo hb4477;refine Atn 1 hF4477 hS4477 E E (G0 2 E ?_);refine Cut hb4477 (fun f l o_ f_ μ_ l_=> ∃(v1:Bool),v1=o_∧Qe ((34,.bool v1)::Qj [0,1,2,3,8,9] f) f_∧Qc l l_∧μ=μ_) ?_ ?_
     ·intro _ h4479 hb4477;refine Dr _ Qb.refl [(true,0),(true,1),(true,2),(true,3),(true,4),(true,5),(true,6),(true,7),(true,8),(true,9),(true,10),(true,11),(true,12),(true,13),(false,14),(true,15),(true,16)] (by kernel_rfl) (G0 4 E ?_);refine Br h4479 21 E E (fun hc2 h4479=> ?_) (fun hc2 h4479=> ?_)
      ·refine G2 3 [21] [] [] E (IxN hn3 h4479 (Own.rds (L:=(ch3::L)) hO3 0 E) E E fun _ _ _ _ hr1 hc3 _ h4479=> ?_);obtain rfl:=hr1;refine Q3 4 [21] [] [64] (Z1 hc3) E (IxN hn3 h4479 (Own.rds (L:=(ch3::L)) hO3 0 E) E E fun _ _ _ _ hr2 hc4 _ h4479=> ?_);obtain rfl:=hr2;refine Q3 1 [21] [] [64] (Z1 hc4) E (Cl E ?_);obtain ⟨_,hx3,h4479⟩:=Qi h4479;refine VR  hx3 (?_);refine ⟨Qb.refl,?_⟩;refine Q2 3 [21] [] [] E ?_;cases h4479;exact Ce E ⟨_,rfl,fE E,sE [some 0] 1 E,rfl⟩
      refine G2 14 [] [21] [] E ?_;cases h4479;exact Ce E ⟨_,rfl,fE E,sE [some 0] 1 E,rfl⟩
     rintro _ _ _ _ hb4477 _ ⟨v1,rfl,hF4479,hS4479,rfl⟩;refine Atn 1 hF4479 hS4479 E E ?_;refine Br hb4477 34 E E (fun hc5 hb4477=> ?_) (fun hc5 hb4477=> ?_)
     ·refine G2 4 [34] [] [] E (Cd (WP.drawB (id:=6) (l':=List.replicate 15 true++[false,false,false]) QbO Qh _ Qb.refl 15 [] [(true,0),(true,1),(true,2),(true,3),(true,4),(true,5),(true,6),(true,7),(true,8),(true,9),(true,10),(true,11),(true,12),(true,13),(true,14)] (by kernel_rfl) (by kernel_rfl) [16,17] E (by kernel_rfl) (by kernel_rfl) (YJ E (Qs E (Pt E E (Qs E (Pt E E (Qs E (Pt E E (Qs E (Pt E E (W6 E E (Qd E ?_)))))))))))));refine YJ E (Qs E (Pt E E (Qs E (Pt E E (W6 E E (Pt E E ?_))))));obtain ⟨x3,hx4,hb4477⟩:=Qi hb4477;obtain ⟨_,_,hA3,hr3,_,hc6⟩:=Rds.getI (Own.rds (L:=(ch3::L)) hO3 0 rfl) hx4;obtain rfl:=hr3;refine Y3 E E E E E E ⟨(Qm hx4).1,Jw hn3 (Qm hx4).2.1⟩ hA3 (Pt E E (We E E E E (Ex.mk [.int .i64 x3.Producer,.int .i64 x3.Material,.int .i64 x3.Grams] ⟨rfl,hc6⟩ (Pt E E (Qs E (Pt E E (Qs E (Pt E E ?_))))))));obtain ⟨x4,hx5,hb4477⟩:=Qi hb4477;obtain ⟨_,_,hA4,hr4,_,hc7⟩:=Rds.getI (Own.rds (L:=(ch3::L)) hO3 0 rfl) hx5;obtain rfl:=hr4;refine Y3 E E E E E E ⟨(Qm hx5).1,Jw hn3 (Qm hx5).2.1⟩ hA4 (Pt E E (We E E E E (Ex.mk [.int .i64 x4.Producer,.int .i64 x4.Material,.int .i64 x4.Grams] ⟨rfl,hc7⟩ (Pt E E ?_))));obtain ⟨_,hx6,hb4477⟩:=Qi hb4477;obtain ⟨a6,_,hA5,hr5,_,_⟩:=Rds.getI (Own.rds (L:=(ch3::L)) hO3 0 rfl) hx6;obtain rfl:=hr5;refine Y3 E E E E E E ⟨(Qm hx6).1,Jw hn3 (Qm hx6).2.1⟩ hA5 (Qd E (QD (Qaf E (Qv (vs:=[.int .i64 x3.Producer,.int .i64 x3.Material,.int .i64 x3.Grams]) E E E E E E ?_))))
      rw[←Addr.add_zero' ((a6.add (j1.toNat*3)))]
      refine Own.store (μ:=μ) (r:=Qg) (x':=x3) (o:=0) (sz:=3) 0 rfl hO3 hA5 hx6 rfl rfl (by rintro _ rfl;rfl) fun ch4 hO4=> ?_;have hn4:=hn3.trans (QM data3 j1 x3).symm;refine QE (Qaf E ?_);obtain ⟨_,hx7,hb4477⟩:=Qi hb4477;obtain ⟨a7,_,hA6,hr6,_,_⟩:=Rds.getI (Own.rds (L:=(ch4::L)) hO4 0 rfl) hx7;obtain rfl:=hr6;refine Zu E (Y3 E E E E E E ⟨(Qm hx7).1,Jw hn4 (Qm hx7).2.1⟩ hA6 (Qd E (Qbu E (Qv (vs:=[.int .i64 x4.Producer,.int .i64 x4.Material,.int .i64 x4.Grams]) E E E E E E ?_))))
      rw[←Addr.add_zero' ((a7.add ((w64 (j1-1)).toNat*3)))]
      refine Own.store (μ:=μ) (r:=Qg) (x':=x4) (o:=0) (sz:=3) 0 rfl hO4 hA6 hx7 rfl rfl (by rintro _ rfl;rfl) fun ch5 hO5=> ?_;have hn5:=hn4.trans (QM (YV data3 j1 x3) (w64 (j1-1)) x4).symm;refine QE (G0 6 E ?_);cases hb4477;exact Ce E ⟨_,rfl,ch5,fE E,sE [some 0] 1 E,(hn5),(hO5),rfl⟩
     refine G2 2 [] [34] [] E ?_;cases hb4477;have hq_:=hq4477 _ E;subst hq_;exact Ce E ⟨_,ch3,rfl,fE E,sE [some 0] 1 E,(hn3),(hO3),rfl⟩
    rintro _ _ _ _ h4439 _ ⟨data4,ch6,rfl,hF4440,hS4440,hn6,hO6,rfl⟩;refine G0 1 E ?_;cases h4439;exact Ce E ⟨_,ch6,rfl,hF4440.tr E,hS4440.tr (sE [some 0] 1 E),(hn6),(hO6),rfl⟩
   rintro _ _ _ _ hb4437 _ ⟨data5,ch7,rfl,hF4439,hS4439,hn7,hO7,rfl⟩;refine Atn 1 hF4439 hS4439 E E (G0 5 E ?_);cases hb4437;exact Ce E ⟨_,rfl,ch7,fE E,sE [some 0] 1 E,(hn7),(hO7),rfl⟩
  refine G2 2 [] [14] [] E ?_;cases hb4437;have hq_:=hq4437 _ E;subst hq_;exact Ce E ⟨_,ch2,rfl,fE E,sE [some 0] 1 E,(hn2),(hO2),rfl⟩
 rintro _ _ _ _ h _ ⟨data6,ch8,rfl,hF4358,hS4358,hn8,hO8,rfl⟩;refine Atn 1 hF4358 hS4358 E E ?_;cases h;exact Rt [] E E (Ug [[0]] 1 (hR _ hO8 hn8))
theorem Z4 {F:Nat} {data1:(List Qa)} {a1:Int} {b1:Int} {limit1:Int} {A1:Option Addr} {c1:Nat} {ch1:Seg} {n1:Nat} {res1:(List Qa)}
  (hn1:n1=data1.length) (hO1:Own Qg 110 μ (.slice A1 n1 c1) data1 ch1) (h:QY F data1 a1 b1 limit1=some res1)
  (hR: ∀(sp0:Seg),Own Qg 110 μ (.slice A1 n1 c1) res1 sp0→n1=res1.length→R (.tuple #[]) μ (sp0::L)) :
  Fn Try.prog 68 [.slice A1 n1 c1,.int .i64 a1,.int .i64 b1,.int .i64 limit1,.func (.func 47) #[] #[]] μ (ch1::L) R:=by
 unfold QY at h;subst hn1;have hn1:data1.length=data1.length:=rfl;refine FnS Try.func68 (by kernel_rfl) E Try.ntmps68 E E ?_;refine G0 8 E ?_;refine Cut h (fun _ _ _ _ _ _=>False) ?_ ?_
 ·intro _ h4522 h;refine Lp h4522 (fun f l (_:Unit) f_ μ_ l_=>Qe (Qj [0,1,2,3,4,10,11] f) f_∧Qc l l_∧μ=μ_) ⟨fE E,sE [some 0] 1 E,E⟩ ?_;rintro _ _ _ _ _ _ ⟨hF4523,hS4523,rfl⟩ hb4523 hq4523;unfold QQ at hb4523;refine Atn 1 hF4523 hS4523 E E (G0 14 E ?_);refine Br hb4523 25 E E (fun hc1 hb4523=> ?_) (fun hc1 hb4523=> ?_)
  ·refine G2 7 [25] [] [] E (Cl E ?_);obtain ⟨_,hx1,hb4523⟩:=Qi hb4523;refine ZG hn1 hO1 hx1 (fun _ hO2 hn2=>Q0 1 E ?_);cases hb4523;have hq_:=hq4523 _ E;subst hq_;cases h;exact Rt [] E E (Ug [[0]] 1 (hR _ hO2 hn2))
  exact absurd hb4523 (by simp)
 exact fun _ _ _ _ _ _ hf_=>hf_.elim
theorem JH {F:Nat} {x1:(List Qa)} {A1:Option Addr} {c1:Nat} {ch1:Seg} {n1:Nat} {res1:(List Qa)}
  (hn1:n1=x1.length) (hO1:Own Qg 110 μ (.slice A1 n1 c1) x1 ch1) (h:QG F x1=some res1)
  (hR: ∀(sp0:Seg),Own Qg 110 μ (.slice A1 n1 c1) res1 sp0→n1=res1.length→R (.tuple #[]) μ (sp0::L)) :
  Fn Try.prog 46 [.slice A1 n1 c1,.func (.func 47) #[] #[]] μ (ch1::L) R:=by
 unfold QG at h;subst hn1;have hn1:x1.length=x1.length:=rfl;refine FnS Try.func46 (by kernel_rfl) E Try.ntmps46 E E ?_;refine G0 11 E (Cl E ?_);obtain ⟨_,hx1,h⟩:=Qi h;refine W7  hx1 ((Q0 1 E (Cl E ?_)));obtain ⟨_,hx2,h⟩:=Qi h;refine Z4 hn1 hO1 hx2 (fun _ hO2 hn2=>Q0 1 E ?_);cases h;exact Rt [] E E (Ug [[0]] 1 (hR _ hO2 hn2))
theorem Qas {F:Nat} {products1:(List Ql)} {l1:(List Qz)} {w1:ZC} {A1:Option Addr} {c1:Nat} {A2:Option Addr} {c2:Nat} {res1:(List Qa)} {res2:Int}
  (hl1:products1.length≤c1∧c1≤maxLen) (hA1:Rds Jc μ L A1 products1) (hl2:l1.length≤c2∧c2≤maxLen) (hA2:Rds WO μ L A2 l1) (h:Je F products1 l1 w1=some (res1,res2))
  (hR: ∀(A0:Option Addr) (c0:Nat) (ch0:Seg),Own Qg 110 μ (.slice A0 res1.length c0) res1 ch0→R (.tuple #[.slice A0 res1.length c0,.int .i64 res2]) μ (ch0::L)) :
  Fn Try.prog 19 [.slice A1 products1.length c1,.slice A2 l1.length c2,.agg #[.int .i64 w1.From,.int .i64 w1.To]] μ (L) R:=by
 unfold Je at h;refine FnS Try.func19 (by kernel_rfl) E Try.ntmps19 E E ?_;refine G0 2 E (Al E fun g1=>Q0 5 E ?_);refine Cut h (fun f l o_ f_ μ_ l_=> ∃(v1:Bool),v1=o_∧Qe ((29,.bool v1)::Qj [0,1,5] f) f_∧Qc l l_∧μ=μ_) ?_ ?_
 ·intro _ h4536 h;refine G1 5 [0] E ?_;refine Br h4536 18 E E (fun hc1 h4536=> ?_) (fun hc1 h4536=> ?_)
  ·refine G2 12 [18,25] [] [] E ?_;cases h4536;exact Ce E ⟨_,rfl,fE E,sE [some 0] 1 E,rfl⟩
  refine G2 7 [] [18] [0,0] E ?_;refine Br h4536 25 E E (fun hc2 h4536=> ?_) (fun hc2 h4536=> ?_)
  ·refine G2 5 [25] [] [] E ?_;cases h4536;exact Ce E ⟨_,rfl,fE E,sE [some 0] 1 E,rfl⟩
  refine G2 5 [] [25] [0] E ?_;cases h4536;exact Ce E ⟨_,rfl,fE E,sE [some 0] 1 E,rfl⟩
 rintro _ _ _ _ h _ ⟨v1,rfl,hF4536,hS4536,rfl⟩;refine Atn 1 hF4536 hS4536 E E ?_;refine Br h 29 E E (fun hc3 h=> ?_) (fun hc3 h=> ?_)
 ·refine G2 6 [29] [] [] E ?_;cases h;exact Rt [] E E (Ug [[]] 1 (hR none 0 [] Own.nil))
 refine G2 9 [] [29] [] E ?_;refine Br h 32 E E (fun hc4 h=> ?_) (fun hc4 h=> ?_)
 ·refine G2 6 [32] [] [] E ?_;cases h;exact Rt [] E E (Ug [[]] 1 (hR none 0 [] Own.nil))
 refine G2 4 [] [32] [] E (So E (Qcy (fun g2=>Q0 9 E ?_)));refine Cut h (fun f l o_ f_ μ_ l_=> ∃(m3:(List (Qk×Int))) (es5:Array MapEntry) (cn5:Nat),(.inl m3)=o_∧Qe (Qj [8] f) f_∧Qc ([(g2,.map es5 cn5)]::QL [] 2 l) l_∧Y2 Yk (Value.int .i64) es5 cn5 m3∧μ=μ_) ?_ ?_
 ·intro _ h4544 h;refine Lp h4544 (fun f l (j_:(List (Qk×Int))×Int) f_ μ_ l_=>Zs j_ fun m1 v2=> ∃(es1:Array MapEntry) (cn1:Nat),Qe ((36,.int .i64 v2)::Qj [0,5,8,34,35] f) f_∧Qc ([(g1,.cells #[.int .i64 w1.From,.int .i64 w1.To] 41 (0,0))]::[(g2,.map es1 cn1)]::QL [] 2 l) l_∧Y2 Yk (Value.int .i64) es1 cn1 m1∧μ=μ_) ⟨#[],0,fE E,sE [some 1,some 0] 2 E,((Y2.nil (ek:=Yk) (enc:=(Value.int .i64)))),E⟩ ?_;rintro ⟨m1,v2⟩ _ _ _ _ _ ⟨es1,cn1,hF4594,hS4594,hM1,rfl⟩ hb4594 hq4594;unfold Zb at hb4594;replace hb4594:=Qo hb4594;refine Atn 2 hF4594 hS4594 E E (G0 5 E ?_);refine Br hb4594 37 E E (fun hc5 hb4594=> ?_) (fun hc5 hb4594=> ?_)
  ·refine G2 3 [37] [] [] E ?_;refine Cut hb4594 (fun f l o_ f_ μ_ l_=> ∃(m2:(List (Qk×Int))) (es4:Array MapEntry) (cn4:Nat),(.inl m2)=o_∧Qe (Qj [0,5,8,34,35,36] f) f_∧Qc ([(g1,.cells #[.int .i64 w1.From,.int .i64 w1.To] 41 (0,0))]::[(g2,.map es4 cn4)]::QL [] 2 l) l_∧Y2 Yk (Value.int .i64) es4 cn4 m2∧μ=μ_) ?_ ?_
   ·intro _ h4600 hb4594;refine G0 3 E (Ix h4600 hA2 E E fun x1 _ _ _ hr1 hc6 _ h4600=> ?_);obtain rfl:=hr1;refine Q3 1 [] [] [64] (Z1 (hc6.push.push)) E (Al E fun g3=>Q1 4 [0] E ?_);refine Cut h4600 (fun f l o_ f_ μ_ l_=> ∃(v3:Bool),v3=o_∧Qe ((49,.bool v3)::Qj [0,5,8,10,34,35,36] f) f_∧Qc (QL [some 1,some 2,some 0] 3 l) l_∧μ=μ_) ?_ ?_
    ·intro _ h4603 h4600;refine G1 5 [0] E ?_;refine Br h4603 43 E E (fun hc7 h4603=> ?_) (fun hc7 h4603=> ?_)
     ·refine G2 7 [43] [] [] E ?_;cases h4603;exact Ce E ⟨_,rfl,fE E,sE [some 1,some 2,some 0] 3 E,rfl⟩
     refine G2 7 [] [43] [0] E ?_;cases h4603;exact Ce E ⟨_,rfl,fE E,sE [some 1,some 2,some 0] 3 E,rfl⟩
    rintro _ _ _ _ h4600 _ ⟨v3,rfl,hF4603,hS4603,rfl⟩;refine Atn 3 hF4603 hS4603 E E ?_;refine Br h4600 49 E E (fun hc8 h4600=> ?_) (fun hc8 h4600=> ?_)
    ·refine G2 6 [49] [] [] E ?_;cases h4600;replace hb4594:=Yb hb4594;cases hb4594;have hq_:=hq4594 _ E;subst hq_;replace h:=Yb h;cases h;exact Rt [] E E (Ug [[]] 3 (hR none 0 [] Own.nil))
    refine G2 7 [] [49] [2] E (Ix h4600 hA1 E E fun x2 _ _ _ hr2 hc9 _ h4600=> ?_);obtain rfl:=hr2;refine Q3 1 [] [] [64] (Z1 (hc9.push.push.push)) E (Al E fun g4=>Q1 4 [0] E ?_);refine Cut h4600 (fun f l o_ f_ μ_ l_=> ∃(v4:Bool),v4=o_∧Qe ((67,.bool v4)::Qj [0,5,8,10,11,34,35,36] f) f_∧Qc (QL [some 1,some 2,some 3,some 0] 4 l) l_∧μ=μ_) ?_ ?_
    ·intro _ h4612 h4600;refine G1 5 [3] E ?_;refine Br h4612 58 E E (fun hc10 h4612=> ?_) (fun hc10 h4612=> ?_)
     ·refine G2 10 [58,63] [] [] E ?_;cases h4612;exact Ce E ⟨_,rfl,fE E,sE [some 1,some 2,some 3,some 0] 4 E,rfl⟩
     refine G2 5 [] [58] [3] E ?_;refine Br h4612 63 E E (fun hc11 h4612=> ?_) (fun hc11 h4612=> ?_)
     ·refine G2 5 [63] [] [] E ?_;cases h4612;exact Ce E ⟨_,rfl,fE E,sE [some 1,some 2,some 3,some 0] 4 E,rfl⟩
     refine G2 1 [] [63] [0] E (Cl E ?_);obtain ⟨_,hx3,h4612⟩:=Qi h4612;refine Qat  hx3 ((Q2 3 [] [63] [] E ?_));cases h4612;exact Ce E ⟨_,rfl,fE E,sE [some 1,some 2,some 3,some 0] 4 E,rfl⟩
    rintro _ _ _ _ h4600 _ ⟨v4,rfl,hF4612,hS4612,rfl⟩;refine Atn 4 hF4612 hS4612 E E ?_;refine Br h4600 67 E E (fun hc12 h4600=> ?_) (fun hc12 h4600=> ?_)
    ·refine G2 6 [67] [] [] E ?_;cases h4600;replace hb4594:=Yb hb4594;cases hb4594;have hq_:=hq4594 _ E;subst hq_;replace h:=Yb h;cases h;exact Rt [] E E (Ug [[]] 4 (hR none 0 [] Own.nil))
    refine G2 3 [] [67] [] E ?_;refine Cut h4600 (fun f l o_ f_ μ_ l_=> ∃(v5:Bool),v5=o_∧Qe ((79,.bool v5)::Qj [0,5,8,10,11,34,35,36] f) f_∧Qc l l_∧μ=μ_) ?_ ?_
    ·intro _ h4621 h4600;refine G1 7 [0,2] E ?_;refine Br h4621 73 E E (fun hc13 h4621=> ?_) (fun hc13 h4621=> ?_)
     ·refine G2 7 [73] [] [2,0] E ?_;cases h4621;exact Ce E ⟨_,rfl,fE E,sE [some 0,some 1,some 2,some 3] 4 E,rfl⟩
     refine G2 7 [] [73] [] E ?_;cases h4621;exact Ce E ⟨_,rfl,fE E,sE [some 0,some 1,some 2,some 3] 4 E,rfl⟩
    rintro _ _ _ _ h4600 _ ⟨v5,rfl,hF4621,hS4621,rfl⟩;refine Atn 4 hF4621 hS4621 E E ?_;refine Br h4600 79 E E (fun hc14 h4600=> ?_) (fun hc14 h4600=> ?_)
    ·refine G2 1 [79] [] [] E (Cd (WP.draw (id:=15) QbO ([(g1,.cells #[.int .i64 w1.From,.int .i64 w1.To] 41 (0,0))]::[(g3,.cells #[.int .i64 x1.Product,.int .i64 x1.First,.int .i64 x1.Count,.int .i64 x1.Retailer,.int .i64 x1.At] 71 (0,0))]::[(g4,.cells #[.string x2.Code,.int .i64 x2.Producer,.int .i64 x2.Deposit,.int .i64 x2.Material,.int .i64 x2.Grams] 23 (0,0))]::L) (Kp [0,2,3] 4 E) E (AN.run (fuel:=5) (listed':=[true,true,true,true,true,true,false,true,true,true,true,true,false,false,false,false]) Qh [(true,0),(true,1),(true,2),(true,3),(true,4),(true,5),(true,7),(true,8),(true,9),(true,10),(true,11)] (by kernel_rfl) (by kernel_rfl) E (YJ E (Qs E (Pt E E (Qb0 (o':=1) E E E E E E (Pt E E ?_))))))));refine Z3 E E E (Ex.mk _ (ZQ.seg 2 0 E E E) (Pt E E (Qb0 (o':=3) E E E E E E (Pt E E (Z3 E E E (Ex.mk _ (ZQ.seg 2 0 E E E) (Pt E E (Qen E E E E (ZR (cells':=[.int .i64 x2.Producer,.int .i64 0]) E E E E (ZR (cells':=[.int .i64 x2.Producer,.int .i64 x2.Material]) E E E E (Wo (Pt E E (Qb0 (o':=2) E E E E E E ?_)))))))))))));refine Pt E E (Z3 E E E (Ex.mk _ (ZQ.seg 1 0 E E E) (Pt E E (Qb0 (o':=4) E E E E E E (Pt E E (Z3 E E E (Ex.mk _ (ZQ.seg 2 0 E E E) (Pt E E (Qg3 E E (Qd E (QD ?_)))))))))));refine Wn Qh (a:=6) (b:=13) (by kernel_rfl) ?_ ?_
     ·refine FO_ E E (Zu E (Qeo (enc:=(Value.int .i64)) (Qk.mk x2.Producer x2.Material) E (zb:=0) Qh Zv E E E E E E (Zn.seg 1 0 E E) hM1 ?_));refine ⟨Kp [0,2,3] 4 E,?_⟩;refine Qd E (AN.run (fuel:=0) (listed':=[true,true,true,true,true,true,true,true,true,true,true,true,true,true,true,true]) Qh [(true,12),(false,13),(true,14),(false,15)] (by kernel_rfl) (by kernel_rfl) E (YJ E (VY E E (Qd E (YH E (QaX E E (QdC (enc:=(Value.int .i64)) (Qk.mk x2.Producer x2.Material) E Qh Zv E E E 1 E hM1 fun u1 es2 cn2 st1 hM2=> ?_)))))));refine ⟨Kp [0,2,3] 4 E,?_⟩;refine Pt E E (Qfx E E (Qd E (YH E (VX E E E (Qcr 1 (b:=w64 (((ZJ (Qk.mk x2.Producer x2.Material) m1).getD 0)+(w64 (x1.Count*x2.Grams)))) E hM2 E fun es3 cn3 hM3=> ?_)))));refine ⟨Kp [0,2,3] 4 E,?_⟩;refine QE (QD (AN.done0 (by kernel_rfl) (G0 1 E ?_)));cases h4600;exact Ce E ⟨_,es3,cn3,rfl,fE E,sE [some 0,some 1] 4 E,(hM3),rfl⟩
     refine FO_ E E (QaX E E (QdC (enc:=(Value.int .i64)) (Qk.mk x2.Producer x2.Material) E Qh Zv E E E 1 E hM1 fun u1 es2 cn2 st1 hM2=> ?_));refine ⟨Kp [0,2,3] 4 E,?_⟩;refine Qd E (AN.run (fuel:=0) (listed':=[true,true,true,true,true,true,true,true,true,true,true,true,true,true,true,true]) Qh [(true,14),(false,6),(true,12),(false,15)] (by kernel_rfl) (by kernel_rfl) E (YJ E (Qfx E E (Qd E (YH E (Zu E (Qgx (enc:=(Value.int .i64)) (Qk.mk x2.Producer x2.Material) E (zb:=0) Qh Zv E E E E E E (Zn.seg 1 0 E E) hM2 ?_)))))));refine ⟨Kp [0,2,3] 4 E,?_⟩;refine Pt E E (VY E E (Qd E (YH E (VX E E E (Qcr 1 (b:=w64 (((ZJ (Qk.mk x2.Producer x2.Material) m1).getD 0)+(w64 (x1.Count*x2.Grams)))) E hM2 E fun es3 cn3 hM3=> ?_)))));refine ⟨Kp [0,2,3] 4 E,?_⟩;refine QE (QD (AN.done0 (by kernel_rfl) (G0 1 E ?_)));cases h4600;exact Ce E ⟨_,es3,cn3,rfl,fE E,sE [some 0,some 1] 4 E,(hM3),rfl⟩
    refine G2 3 [] [79] [] E ?_;cases h4600;exact Ce E ⟨_,es1,cn1,rfl,fE E,sE [some 0,some 1] 4 E,(hM1),rfl⟩
   rintro _ _ _ _ hb4594 _ ⟨m2,es4,cn4,rfl,hF4600,hS4600,hM4,rfl⟩;replace hb4594:=Y9 hb4594;refine Atn 2 hF4600 hS4600 E E (G0 4 E ?_);cases hb4594;exact Ce E ⟨_,rfl,es4,cn4,fE E,sE [some 0,some 1] 2 E,(hM4),rfl⟩
  refine G2 2 [] [37] [] E ?_;cases hb4594;have hq_:=hq4594 _ E;subst hq_;exact Ce E ⟨_,es1,cn1,rfl,fE E,sE [some 1] 2 E,(hM1),rfl⟩
 rintro _ _ _ _ h _ ⟨m3,es5,cn5,rfl,hF4544,hS4544,hM5,rfl⟩;replace h:=Y9 h;refine Atn 1 hF4544 hS4544 E E (G0 8 E (So E (Qgv E (Qee Qh E E 0 E fun r2=>Q0 1 E ?_))));obtain ⟨_,hg1,h⟩:=Qi h;refine Qit h (fun f l (p:List (Qk×Int)) f_ μ_ l_=> ∃(A:Option Addr) (c:Nat) (ch:Seg),Qe ((12,.slice A (List.map (fun q:Qk×Int=>(Qa.mk q.1.producer q.1.material q.2)) p).length c)::[]) f_∧Qc (ch::QL [] 2 l) l_∧Own Qg 110 μ_ (.slice A (List.map (fun q:Qk×Int=>(Qa.mk q.1.producer q.1.material q.2)) p).length c) (List.map (fun q:Qk×Int=>(Qa.mk q.1.producer q.1.material q.2)) p) ch∧μ=μ_) ?_ ?_
 ·refine Lp (Qc8 m3.length) (fun f l (n:Nat) f_ μ_ l_=> ∃(p:List (Qk×Int)) (seen:Array Nat) (A:Option Addr) (c:Nat) (ch:Seg),Qe ((97,.pointer (some ⟨r2,0,none⟩))::(12,.slice A (List.map (fun q:Qk×Int=>(Qa.mk q.1.producer q.1.material q.2)) p).length c)::[]) f_∧Qc (ch::[(g2,.map es5 cn5)]::[(r2,.mapIter (some g2) cn5 seen cn5)]::QL [] 2 l) l_∧JL Yk (Value.int .i64) es5 seen p n∧Own Qg 110 μ_ (.slice A (List.map (fun q:Qk×Int=>(Qa.mk q.1.producer q.1.material q.2)) p).length c) (List.map (fun q:Qk×Int=>(Qa.mk q.1.producer q.1.material q.2)) p) ch∧μ=μ_) ⟨[], #[],none,0,[],fE E,sE [none,some 1,some 0] 2 E,(JL.init hM5),Own.nil,E⟩ ?_;rintro n_ q_ _ _ _ _ ⟨p2,seen1,A3,c3,ch1,hF4649,hS4649,hI1,hO1,rfl⟩ hb_ hq_;refine Atn 3 hF4649 hS4649 E E ?_;cases n_ with
  | zero =>
   have hb2_:some (Sum.inr ():Nat⊕Unit)=some q_:=hb_;cases hb2_;refine G0 2 E (So E (Qft E (Qec hM5 hI1 1 2 E E (Q2 5 [] [99] [] E ?_))));exact Ce E ⟨p2,hI1.perm hM5 (WT.inj Zv) (by intro a b h;injection h),A3,c3,ch1,fE E,sE [some 0] 3 E,hO1,rfl⟩
  | succ n_ =>
   have hb2_:some (Sum.inl n_:Nat⊕Unit)=some q_:=hb_;cases hb2_;refine G0 2 E (So E (Qft E (Qed hM5 hI1 1 2 E E fun q1 b1 hI2=> ?_)))
   rw[show Yk q1.1= .agg #[.int .i64 q1.1.producer,.int .i64 q1.1.material] from rfl]
   refine Q2 8 [99] [] [] E (So E (Qgu E (Qeb hM5 hI2 1 2 E E ?_)))
   rw[show Yk q1.1= .agg #[.int .i64 q1.1.producer,.int .i64 q1.1.material] from rfl]
   refine Q0 2 E (Al E fun _=>Q1 11 [0,0,0] E (So E (WU (z:=[.int .i64 0,.int .i64 0,.int .i64 0]) E E E E E E E (ZR (cells':=[.int .i64 q1.1.producer,.int .i64 q1.1.material,.int .i64 q1.2]) E E E E (Wo (fun g6=>Q0 0 E (So E (J0 E ?_))))))));have hz1:QbQ (List.map (fun q:Qk×Int=>(Qa.mk q.1.producer q.1.material q.2)) p2) [(Qa.mk q1.1.producer q1.1.material q1.2)]=some ((List.map (fun q:Qk×Int=>(Qa.mk q.1.producer q.1.material q.2)) p2)++[(Qa.mk q1.1.producer q1.1.material q1.2)]):=QgA (by have:=hI1.len hM5;have:=Qw hg1;simp only[List.length_map,List.length_cons,List.length_nil];omega);refine Vj (r:=Qg) Qh E E E E (by decide) E E 2 E hO1 E (Own.rds (Own.lit (r:=Qg) (e:=110) (g:=g6) (xs:=[(Qa.mk q1.1.producer q1.1.material q1.2)]) (cs:=[.int .i64 q1.1.producer,.int .i64 q1.1.material,.int .i64 q1.2]) (css:=[[.int .i64 q1.1.producer,.int .i64 q1.1.material,.int .i64 q1.2]]) E (YA.cons (E) (YA.nil)) E E) 0 E) hz1 fun A4 c4 ch2 hO2=>Q0 3 E ?_;have hz_:((List.map (fun q:Qk×Int=>(Qa.mk q.1.producer q.1.material q.2)) p2)++[(Qa.mk q1.1.producer q1.1.material q1.2)])=List.map (fun q:Qk×Int=>(Qa.mk q.1.producer q.1.material q.2)) (p2++[q1]):=Qf2 (fun q:Qk×Int=>(Qa.mk q.1.producer q.1.material q.2)) p2 q1
   rw[hz_] at hO2 ⊢
   exact Ce E ⟨_,rfl,p2++[q1],seen1.push b1,A4,c4,ch2,fE E,sE [some 2,some 3,some 4] 5 E,hI2,hO2,rfl⟩
 rintro _ _ _ _ h _ ⟨A3,c3,ch1,hF4649,hS4649,hO1,rfl⟩;refine Atn 1 hF4649 hS4649 E E (G0 3 E (Cl E ?_));obtain ⟨_,hx4,h⟩:=Qi h;refine JH E hO1 hx4 (fun ch3 hO3 hn1=> ?_)
 rw[hn1] at hO3 ⊢
 refine Q0 7 E ?_;cases h;exact Rt [] E E (Ug [[0]] 1 (hR A3 c3 ch3 hO3))
theorem Vy  {s11:(List Int)} {s21:(List Int)} {A1:Option Addr} {c1:Nat} {A2:Option Addr} {c2:Nat} {res1:Bool}
  (hl1:s11.length≤c1∧c1≤maxLen) (hA1:Rds Qq μ L A1 s11) (hl2:s21.length≤c2∧c2≤maxLen) (hA2:Rds Qq μ L A2 s21) (h:ZA s11 s21=some res1)
  (hR:R (.bool res1) μ (L)) :
  Fn Try.prog 53 [.slice A1 s11.length c1,.slice A2 s21.length c2] μ (L) R:=by
 unfold ZA at h;refine FnS Try.func53 (by kernel_rfl) E Try.ntmps53 E E ?_;refine G0 13 E ?_;refine Br h 10 E E (fun hc1 h=> ?_) (fun hc1 h=> ?_)
 ·refine G2 5 [10] [] [] E ?_;cases h;exact Rt [] E E (Ug [] 0 hR)
 refine G2 9 [] [10] [] E ?_;refine Cut h (fun f l o_ f_ μ_ l_=>(.inl ())=o_∧Qe ([]) f_∧Qc l l_∧μ=μ_) ?_ ?_
 ·intro _ h4802 h;refine Lp h4802 (fun f l (v1:Int) f_ μ_ l_=>Qe ((13,.int .i64 v1)::Qj [0,1,12] f) f_∧Qc l l_∧μ=μ_) ⟨fE E,sE [] 0 E,E⟩ ?_;rintro v1 _ _ _ _ _ ⟨hF4804,hS4804,rfl⟩ hb4804 hq4804;unfold Y7 at hb4804;refine Atn 0 hF4804 hS4804 E E (G0 5 E ?_);refine Br hb4804 14 E E (fun hc2 hb4804=> ?_) (fun hc2 hb4804=> ?_)
  ·refine G2 10 [14] [] [] E (Dr _ Qb.refl [(true,0),(true,1),(true,2),(true,3),(true,4),(true,5),(true,6),(true,7),(true,8)] (by kernel_rfl) (G0 2 E (Ix hb4804 hA1 E E fun _ _ _ _ hr1 hc3 _ hb4804=> ?_)));obtain rfl:=hr1;refine Q3 3 [] [] [64] (Z1 hc3) E (Ix hb4804 hA2 E E fun _ _ _ _ hr2 hc4 _ hb4804=> ?_);obtain rfl:=hr2;refine Q3 3 [] [] [64] (Z1 hc4) E ?_;refine Br hb4804 24 E E (fun hc5 hb4804=> ?_) (fun hc5 hb4804=> ?_)
   ·refine G2 5 [24] [] [] E ?_;cases hb4804;have hq_:=hq4804 _ E;subst hq_;replace h:=Yb h;cases h;exact Rt [] E E (Ug [] 0 hR)
   refine G2 7 [] [24] [] E ?_;cases hb4804;exact Ce E ⟨_,rfl,fE E,sE [] 0 E,rfl⟩
  refine G2 2 [] [14] [] E ?_;cases hb4804;have hq_:=hq4804 _ E;subst hq_;exact Ce E ⟨rfl,fE E,sE [] 0 E,rfl⟩
 rintro _ _ _ _ h _ ⟨rfl,hF4802,hS4802,rfl⟩;replace h:=Y9 h;refine Atn 0 hF4802 hS4802 E E (G0 4 E ?_);cases h;exact Rt [] E E (Ug [] 0 hR)
theorem QbU  {costs1:(List Int)} {l1:(List Qf)} {A1:Option Addr} {c1:Nat} {A2:Option Addr} {c2:Nat} {res1:Bool}
  (hl1:costs1.length≤c1∧c1≤maxLen) (hA1:Rds Qq μ L A1 costs1) (hl2:l1.length≤c2∧c2≤maxLen) (hA2:Rds QS μ L A2 l1) (h:J4 costs1 l1=some res1)
  (hR:R (.bool res1) μ (L)) :
  Fn Try.prog 21 [.slice A1 costs1.length c1,.slice A2 l1.length c2] μ (L) R:=by
 unfold J4 at h;refine FnS Try.func21 (by kernel_rfl) E Try.ntmps21 E E ?_;refine G0 11 E ?_;refine Br h 13 E E (fun hc1 h=> ?_) (fun hc1 h=> ?_)
 ·refine G2 5 [13] [] [] E ?_;cases h;exact Rt [] E E (Ug [] 0 hR)
 refine G2 5 [] [13] [] E (Cl E ?_);obtain ⟨_,hs1,h⟩:=Qi h;refine QhC (r:=Qq) Qe1 E E hA1 hs1 fun _ _ ch1 hO1=>Q0 9 E ?_;refine Cut h (fun f l o_ f_ μ_ l_=>(.inl ())=o_∧Qe (Qj [0,1,5] f) f_∧Qc l l_∧μ=μ_) ?_ ?_
 ·intro _ h4669 h;refine Lp h4669 (fun f l (v1:Int) f_ μ_ l_=>Qe ((18,.int .i64 v1)::Qj [0,1,5,16,17] f) f_∧Qc l l_∧μ=μ_) ⟨fE E,sE [some 0] 1 E,E⟩ ?_;rintro v1 _ _ _ _ _ ⟨hF4674,hS4674,rfl⟩ hb4674 hq4674;unfold Ja at hb4674;refine Atn 1 hF4674 hS4674 E E (G0 5 E ?_);refine Br hb4674 19 E E (fun hc2 hb4674=> ?_) (fun hc2 hb4674=> ?_)
  ·refine G2 6 [19] [] [] E (Ix hb4674 hA2 E E fun _ _ _ _ hr1 hc3 _ hb4674=> ?_);obtain rfl:=hr1;refine Q3 1 [] [] [64] (Z1 (hc3.push)) E (Al E fun _=>Q1 3 [0] E ?_);refine Cut hb4674 (fun f l o_ f_ μ_ l_=> ∃(v2:Bool),v2=o_∧Qe ((41,.bool v2)::Qj [0,1,5,16,17,18] f) f_∧Qc (QL [] 1 l) l_∧μ=μ_) ?_ ?_
   ·intro _ h4677 hb4674;refine G1 5 [0] E ?_;refine Br h4677 25 E E (fun hc4 h4677=> ?_) (fun hc4 h4677=> ?_)
    ·refine G2 17 [25,32,37] [] [] E ?_;cases h4677;exact Ce E ⟨_,rfl,fE E,sE [some 1] 2 E,rfl⟩
    refine G2 7 [] [25] [0] E ?_;refine Br h4677 32 E E (fun hc5 h4677=> ?_) (fun hc5 h4677=> ?_)
    ·refine G2 10 [32,37] [] [] E ?_;cases h4677;exact Ce E ⟨_,rfl,fE E,sE [some 1] 2 E,rfl⟩
    refine G2 5 [] [32] [0] E ?_;refine Br h4677 37 E E (fun hc6 h4677=> ?_) (fun hc6 h4677=> ?_)
    ·refine G2 5 [37] [] [] E ?_;cases h4677;exact Ce E ⟨_,rfl,fE E,sE [some 1] 2 E,rfl⟩
    refine G2 5 [] [37] [0] E ?_;cases h4677;exact Ce E ⟨_,rfl,fE E,sE [some 1] 2 E,rfl⟩
   rintro _ _ _ _ hb4674 _ ⟨v2,rfl,hF4677,hS4677,rfl⟩;refine Atn 1 hF4677 hS4677 E E ?_;refine Br hb4674 41 E E (fun hc7 hb4674=> ?_) (fun hc7 hb4674=> ?_)
   ·refine G2 5 [41] [] [] E ?_;cases hb4674;have hq_:=hq4674 _ E;subst hq_;replace h:=Yb h;cases h;exact Rt [] E E (Ug [] 1 hR)
   refine G2 7 [] [41] [] E ?_;cases hb4674;exact Ce E ⟨_,rfl,fE E,sE [some 0] 1 E,rfl⟩
  refine G2 2 [] [19] [] E ?_;cases hb4674;have hq_:=hq4674 _ E;subst hq_;exact Ce E ⟨rfl,fE E,sE [some 0] 1 E,rfl⟩
 rintro _ _ _ _ h _ ⟨rfl,hF4669,hS4669,rfl⟩;replace h:=Y9 h;refine Atn 1 hF4669 hS4669 E E (G0 4 E (So E (QB E E ?_)));obtain ⟨_,hn1,h⟩:=Qi h;refine Qt (r:=Qq) (z:=0) (zc:=[.int .i64 0]) Qh E E E E E (E) E hn1 fun A4 c4 ch2 hO2=>Q0 9 E ?_;refine Cut h (fun f l o_ f_ μ_ l_=> ∃(sums2:(List Int)) (A6:Option Addr) (c6:Nat) (ch5:Seg),sums2=o_∧Qe ((8,.slice A6 sums2.length c6)::Qj [5] f) f_∧Qc (ch1::ch5::QL [] 2 l) l_∧Own Qq 3 μ_ (.slice A6 sums2.length c6) sums2 ch5∧μ=μ_) ?_ ?_
 ·intro _ h4679 h;refine Lp h4679 (fun f l (j_:(List Int)×Int) f_ μ_ l_=>Zs j_ fun sums1 v3=> ∃(A5:Option Addr) (c5:Nat) (ch3:Seg),Qe ((8,.slice A5 sums1.length c5)::(48,.int .i64 v3)::Qj [5,46,47] f) f_∧Qc (ch1::ch3::QL [] 2 l) l_∧Own Qq 3 μ_ (.slice A5 sums1.length c5) sums1 ch3∧μ=μ_) ⟨A4,c4,ch2,fE E,sE [some 1,some 0] 2 E,(hO2),E⟩ ?_;rintro ⟨sums1,v3⟩ _ _ _ _ _ ⟨A5,c5,ch3,hF4739,hS4739,hO3,rfl⟩ hb4739 hq4739;unfold Jb at hb4739;replace hb4739:=Qo hb4739;refine Atn 2 hF4739 hS4739 E E (G0 5 E ?_);refine Br hb4739 49 E E (fun hc8 hb4739=> ?_) (fun hc8 hb4739=> ?_)
  ·refine G2 6 [49] [] [] E (Ix hb4739 hA2 E E fun x2 _ _ _ hr2 hc9 _ hb4739=> ?_);obtain rfl:=hr2;refine Q3 1 [] [] [64] (Z1 (hc9.push.push)) E (Al E fun g2=>Q1 2 [0] E (Drk [2] 2 E [(true,0),(true,1),(true,2),(true,5),(true,6),(false,3),(false,4),(true,7),(false,8),(false,9)] (by kernel_rfl) ?_));obtain ⟨x3,hx3,hb4739⟩:=Qi hb4739;obtain ⟨_,_,hA5,hr3,_,hc10⟩:=Rds.getI (Own.rds (L:=([(g2,.cells #[.int .i64 x2.Producer,.int .i64 x2.Material,.int .i64 x2.Amount] 69 (0,0))]::ch1::ch3::L)) hO3 2 rfl) hx3;obtain rfl:=hr3;refine G1 5 [0,0] E (So E (Zu E (Y3 E E E E E E ⟨(Qm hx3).1,(Qm hx3).2.1⟩ hA5 ?_)));refine ⟨Kp [0,1] 3 E,?_⟩;refine Q0 0 E (So E (Zu E (Z3 E E E (Ex.mk _ (ZQ.of_cells0 hc10 E) ?_))));refine ⟨Kp [0,1] 3 E,?_⟩;obtain ⟨_,hx4,hb4739⟩:=Qi hb4739;obtain ⟨a4,_,hA6,hr4,_,_⟩:=Rds.getI (Own.rds (L:=([(g2,.cells #[.int .i64 x2.Producer,.int .i64 x2.Material,.int .i64 x2.Amount] 69 (0,0))]::ch1::ch3::L)) hO3 2 rfl) hx4;obtain rfl:=hr4;refine Q0 1 E (So E (Zu E (Y3 E E E E E E ⟨(Qm hx4).1,(Qm hx4).2.1⟩ hA6 ?_)));refine ⟨Kp [0,1] 3 E,?_⟩;refine Q0 0 E (So E (Qv (vs:=[.int .i64 (w64 (x3+x2.Amount))]) E E E E E E ?_))
   rw[←Addr.add_zero' ((a4.add (x2.Material.toNat*1)))]
   refine Own.store (μ:=μ) (r:=Qq) (x':=w64 (x3+x2.Amount)) (o:=0) (sz:=1) 2 rfl hO3 hA6 hx4 rfl rfl (by rintro _ rfl;rfl) fun ch4 hO4=> ?_
   rw[←QM sums1 x2.Material (w64 (x3+x2.Amount))] at hO4 ⊢
   refine ⟨Kp [0,1] 3 E,?_⟩;refine Q0 6 E ?_;cases hb4739;exact Ce E ⟨_,rfl,A5,c5,ch4,fE E,sE [some 1,some 2] 3 E,(hO4),rfl⟩
  refine G2 2 [] [49] [] E ?_;cases hb4739;have hq_:=hq4739 _ E;subst hq_;exact Ce E ⟨_,A5,c5,ch3,rfl,fE E,sE [some 0,some 1] 2 E,(hO3),rfl⟩
 rintro _ _ _ _ h _ ⟨sums2,A6,c6,ch5,rfl,hF4679,hS4679,hO5,rfl⟩;refine Atn 2 hF4679 hS4679 E E (G0 4 E (Cl E ?_));obtain ⟨_,hx5,h⟩:=Qi h;refine Vy (Own.lenOk hO1) (Own.rds hO1 0 E) (Own.lenOk hO5) (Own.rds hO5 1 E) hx5 ((Q0 2 E ?_));cases h;exact Rt [] E E (Ug [] 2 hR)
theorem JT {F:Nat} {products1:(List Ql)} {sales1:(List Qz)} {costs1:(List Int)} {mod1:(List Int)} {A1:Option Addr} {c1:Nat} {A2:Option Addr} {c2:Nat} {A3:Option Addr} {c3:Nat} {A4:Option Addr} {c4:Nat} {res1:Bool}
  (hl1:products1.length≤c1∧c1≤maxLen) (hA1:Rds Jc μ L A1 products1) (hl2:sales1.length≤c2∧c2≤maxLen) (hA2:Rds WO μ L A2 sales1) (hl3:costs1.length≤c3∧c3≤maxLen) (hA3:Rds Qq μ L A3 costs1) (hl4:mod1.length≤c4∧c4≤maxLen) (hA4:Rds Qq μ L A4 mod1) (h:Ye F products1 sales1 costs1 mod1=some res1)
  (hR:R (.bool res1) μ (L)) :
  Fn Try.prog 4 [.slice A1 products1.length c1,.slice A2 sales1.length c2,.slice A3 costs1.length c3,.slice A4 mod1.length c4] μ (L) R:=by
 unfold Ye at h;refine FnS Try.func4 (by kernel_rfl) E Try.ntmps4 E E ?_;refine G0 6 E ?_;refine Cut h (fun f l o_ f_ μ_ l_=> ∃(v1:Bool),v1=o_∧Qe ((36,.bool v1)::Qj [0,1,2,3] f) f_∧Qc l l_∧μ=μ_) ?_ ?_
 ·intro _ h5 h;refine G0 5 E ?_;refine Br h5 21 E E (fun hc1 h5=> ?_) (fun hc1 h5=> ?_)
  ·refine G2 16 [21,26,31] [] [] E ?_;cases h5;exact Ce E ⟨_,rfl,fE E,sE [] 0 E,rfl⟩
  refine G2 5 [] [21] [] E ?_;refine Br h5 26 E E (fun hc2 h5=> ?_) (fun hc2 h5=> ?_)
  ·refine G2 11 [26,31] [] [] E ?_;cases h5;exact Ce E ⟨_,rfl,fE E,sE [] 0 E,rfl⟩
  refine G2 1 [] [26] [] E (Cl E ?_);obtain ⟨_,hx1,h5⟩:=Qi h5;refine WA hl1 hA1 hx1 ((Q2 3 [] [26] [] E ?_));refine Br h5 31 E E (fun hc3 h5=> ?_) (fun hc3 h5=> ?_)
  ·refine G2 6 [31] [] [] E ?_;cases h5;exact Ce E ⟨_,rfl,fE E,sE [] 0 E,rfl⟩
  refine G2 2 [] [31] [] E (Cl E ?_);obtain ⟨_,hx2,h5⟩:=Qi h5;refine WC hl1 hA1 hl2 hA2 hx2 ((Q2 3 [] [31] [] E ?_));cases h5;exact Ce E ⟨_,rfl,fE E,sE [] 0 E,rfl⟩
 rintro _ _ _ _ h _ ⟨v1,rfl,hF5,hS5,rfl⟩;refine Atn 0 hF5 hS5 E E ?_;refine Br h 36 E E (fun hc4 h=> ?_) (fun hc4 h=> ?_)
 ·refine G2 3 [36] [] [] E (Cl E ?_);obtain ⟨_,hx3,h⟩:=Qi h;refine YX  hx3 ((Q0 2 E ?_));cases h;exact Rt [] E E (Ug [] 0 hR)
 refine G2 7 [] [36] [] E (Cl E ?_);obtain ⟨⟨_,_⟩,hx4,h⟩:=Qi h;replace h:=Qo h;refine Qas hl1 hA1 hl2 hA2 hx4 (fun _ _ _ hO1=>Q0 12 E ?_);refine Br h 46 E E (fun hc5 h=> ?_) (fun hc5 h=> ?_)
 ·refine G2 3 [46] [] [] E (Cl E ?_);obtain ⟨_,hx5,h⟩:=Qi h;refine YX  hx5 ((Q0 2 E ?_));cases h;exact Rt [] E E (Ug [] 1 hR)
 refine G2 7 [] [46] [] E (Cl E ?_);obtain ⟨⟨_,_⟩,hx6,h⟩:=Qi h;replace h:=Qo h;refine QaC hl3 (Rds.push hA3) (Own.lenOk hO1) (Own.rds hO1 0 E) hl4 (Rds.push hA4) hx6 (fun _ _ _ hO2=>Q0 12 E ?_);refine Br h 56 E E (fun hc6 h=> ?_) (fun hc6 h=> ?_)
 ·refine G2 3 [56] [] [] E (Cl E ?_);obtain ⟨_,hx7,h⟩:=Qi h;refine YX  hx7 ((Q0 2 E ?_));cases h;exact Rt [] E E (Ug [] 2 hR)
 refine G2 7 [] [56] [] E (Cl E ?_);obtain ⟨_,hx8,h⟩:=Qi h;refine QbU hl3 (Rds.push (Rds.push hA3)) (Own.lenOk hO2) (Own.rds hO2 0 E) hx8 ((Q0 2 E ?_));refine Br h 61 E E (fun hc7 h=> ?_) (fun hc7 h=> ?_)
 ·refine G2 5 [61] [] [] E ?_;cases h;exact Rt [] E E (Ug [] 2 hR)
 refine G2 9 [] [61] [] E ?_;refine Cut h (fun f l o_ f_ μ_ l_=>(.inl ())=o_∧Qe ([]) f_∧Qc (QL [] 2 l) l_∧μ=μ_) ?_ ?_
 ·intro _ h4805 h;refine Lp h4805 (fun f l (v2:Int) f_ μ_ l_=>Qe ((64,.int .i64 v2)::Qj [0,1,62,63] f) f_∧Qc (QL [some 0] 2 l) l_∧μ=μ_) ⟨fE E,sE [some 0] 2 E,E⟩ ?_;rintro v2 _ _ _ _ _ ⟨hF4832,hS4832,rfl⟩ hb4832 hq4832;unfold QX at hb4832;refine Atn 1 hF4832 hS4832 E E (G0 5 E ?_);refine Br hb4832 65 E E (fun hc8 hb4832=> ?_) (fun hc8 hb4832=> ?_)
  ·refine G2 3 [65] [] [] E ?_;refine Cut hb4832 (fun f l o_ f_ μ_ l_=>(.inl ())=o_∧Qe (Qj [0,1,62,63,64] f) f_∧Qc l l_∧μ=μ_) ?_ ?_
   ·intro _ h4833 hb4832;refine G0 3 E (IxA h4833 (Own.rds hO2 0 E) E E fun _ _ _ _ hr1 hc9 _ h4833=> ?_);obtain rfl:=hr1;refine Q3 1 [] [] [64] (Z1 hc9) E (Al E fun _=>Q1 13 [0] E ?_);refine Cut h4833 (fun f l o_ f_ μ_ l_=> ∃(sold3:Bool),sold3=o_∧Qe ((15,.bool sold3)::Qj [0,1,62,63,64] f) f_∧Qc (QL [] 1 l) l_∧μ=μ_) ?_ ?_
    ·intro _ h4836 h4833;refine Lp h4836 (fun f l (j_:Bool×Int) f_ μ_ l_=>Zs j_ fun sold1 v3=>Qe ((15,.bool sold1)::(70,.int .i64 v3)::Qj [0,1,14,62,63,64,68,69] f) f_∧Qc l l_∧μ=μ_) ⟨fE E,sE [some 0,some 1] 2 E,E⟩ ?_;rintro ⟨sold1,v3⟩ _ _ _ _ _ ⟨hF4849,hS4849,rfl⟩ hb4849 hq4849;unfold QK at hb4849;replace hb4849:=Qo hb4849;refine Atn 2 hF4849 hS4849 E E (G0 5 E ?_);refine Br hb4849 71 E E (fun hc10 hb4849=> ?_) (fun hc10 hb4849=> ?_)
     ·refine G2 3 [71] [] [] E ?_;refine Cut hb4849 (fun f l o_ f_ μ_ l_=> ∃(sold2:Bool),sold2=o_∧Qe ((15,.bool sold2)::Qj [0,1,14,62,63,64,68,69,70] f) f_∧Qc l l_∧μ=μ_) ?_ ?_
      ·intro _ h4853 hb4849;refine G0 3 E (Ix h4853 hA2 E E fun _ _ _ _ hr2 hc11 _ h4853=> ?_);obtain rfl:=hr2;refine Q3 1 [] [] [64] (Z1 (hc11.push.push)) E (Al E fun _=>Q1 2 [0] E (Dr _ Qb.refl [(true,0),(true,1),(true,2),(true,3),(true,4),(true,5),(true,6),(true,7),(true,8),(true,9),(true,10),(true,11),(true,12),(true,13),(true,14),(true,15),(true,16),(true,17),(true,18),(true,19),(true,20),(true,21),(true,22),(true,23)] (by kernel_rfl) (G0 2 E ?_)));refine Br h4853 75 E E (fun hc12 h4853=> ?_) (fun hc12 h4853=> ?_)
       ·refine G2 24 [75] [] [] E ?_;cases h4853;exact Ce E ⟨_,rfl,fE E,sE [some 1,some 2] 3 E,rfl⟩
       refine G2 3 [] [75] [0] E (Ix h4853 hA1 E E fun _ _ _ _ hr3 hc13 _ h4853=> ?_);obtain rfl:=hr3;refine Q3 6 [] [75] [65,1] (Z1 (hc13.push.push.push)) E ?_;refine Br h4853 85 E E (fun hc14 h4853=> ?_) (fun hc14 h4853=> ?_)
       ·refine G2 3 [85] [] [0] E (Ix h4853 hA1 E E fun _ _ _ _ hr4 hc15 _ h4853=> ?_);obtain rfl:=hr4;refine Q3 10 [85] [75] [67,1] (Z1 (hc15.push.push.push)) E ?_;cases h4853;exact Ce E ⟨_,rfl,fE E,sE [some 1,some 2] 3 E,rfl⟩
       refine G2 14 [] [75,85] [] E ?_;cases h4853;exact Ce E ⟨_,rfl,fE E,sE [some 1,some 2] 3 E,rfl⟩
      rintro _ _ _ _ hb4849 _ ⟨sold2,rfl,hF4853,hS4853,rfl⟩;refine Atn 2 hF4853 hS4853 E E (G0 4 E ?_);cases hb4849;exact Ce E ⟨_,rfl,fE E,sE [some 0,some 1] 2 E,rfl⟩
     refine G2 2 [] [71] [] E ?_;cases hb4849;have hq_:=hq4849 _ E;subst hq_;exact Ce E ⟨_,rfl,fE E,sE [some 1] 2 E,rfl⟩
    rintro _ _ _ _ h4833 _ ⟨sold3,rfl,hF4836,hS4836,rfl⟩;refine Atn 1 hF4836 hS4836 E E (G0 5 E ?_);refine Br h4833 99 E E (fun hc16 h4833=> ?_) (fun hc16 h4833=> ?_)
    ·refine G2 5 [99] [] [] E ?_;cases h4833;replace hb4832:=Yb hb4832;cases hb4832;have hq_:=hq4832 _ E;subst hq_;replace h:=Yb h;cases h;exact Rt [] E E (Ug [] 1 hR)
    refine G2 3 [] [99] [] E ?_;cases h4833;exact Ce E ⟨rfl,fE E,sE [some 0] 1 E,rfl⟩
   rintro _ _ _ _ hb4832 _ ⟨rfl,hF4833,hS4833,rfl⟩;replace hb4832:=Y9 hb4832;refine Atn 1 hF4833 hS4833 E E (G0 4 E ?_);cases hb4832;exact Ce E ⟨_,rfl,fE E,sE [some 0] 1 E,rfl⟩
  refine G2 2 [] [65] [] E ?_;cases hb4832;have hq_:=hq4832 _ E;subst hq_;exact Ce E ⟨rfl,fE E,sE [] 1 E,rfl⟩
 rintro _ _ _ _ h _ ⟨rfl,hF4805,hS4805,rfl⟩;replace h:=Y9 h;refine Atn 0 hF4805 hS4805 E E (G0 2 E (Cl E ?_));obtain ⟨_,hx13,h⟩:=Qi h;refine YX  hx13 ((Q0 2 E ?_));cases h;exact Rt [] E E (Ug [] 0 hR)
end Go.Proofs.Ytfdjjdhnfaklbaa
namespace Go.Proofs.Ytfdjjdhnfaklbaa
set_option linter.unusedSimpArgs false
set_option linter.unusedVariables false
theorem QA {α:Type} (xs:List α) (k:Nat):Qp xs (k:Int)=xs[k]? :=by simp[Qp]
theorem Qcc {α:Type} {xs:List α} {k:Nat} (h:k<xs.length):Qp xs (k:Int)=some xs[k]:=by rw[QA];simp[h]
theorem Q9 {n:Int} (h1: -9223372036854775808≤n) (h2:n≤9223372036854775807):w64 n=n:=QhT h1 h2
theorem Yo {k:Nat} (h:k<9223372036854775807):w64 ((k:Int)+1)=((k+1:Nat):Int):=by rw[Q9 (by omega) (by omega)];omega
theorem QcB {α:Type} {xs ys:List α} (h:xs.length+ys.length≤1000000):QbQ xs ys=some (xs++ys):=by simp[QbQ,h]
theorem YG {p:Prop} [Decidable p] (h:p):QP p=some ():=by simp[QP,h]
def Qg9 {τ ρ:Type} (o:Option ρ) (t:τ):τ⊕ρ:=match o with
 | none=> .inl t
 | some r=> .inr r
@[simp] theorem QhL {τ ρ:Type} (t:τ):Qg9 (none:Option ρ) t= .inl t:=rfl
@[simp] theorem QhM {τ ρ:Type} (r:ρ) (t:τ):Qg9 (some r) t= .inr r:=rfl
def Qim {σ τ ρ:Type} (f:σ→τ) (q:σ⊕ρ):τ⊕ρ:=match q with
 | .inl s=> .inl (f s)
 | .inr r=> .inr r
@[simp] theorem Qin {σ τ ρ:Type} (f:σ→τ) (s:σ):Qim f (.inl s:σ⊕ρ)= .inl (f s):=rfl
@[simp] theorem Qio {σ τ ρ:Type} (f:σ→τ) (r:ρ):Qim f (.inr r:σ⊕ρ)= .inr r:=rfl
def first {α ρ:Type} (step:α→Option ρ) (fin:ρ):List α→ρ
 | []=>fin
 | x::r=>match step x with
  | none=>first step fin r
  | some o=>o
end Go.Proofs.Ytfdjjdhnfaklbaa
namespace Go.Proofs.Ytfdjjdhnfaklbaa
set_option linter.unusedSimpArgs false
set_option linter.unusedVariables false
theorem QF {α:Type} {l:List α} {k:Nat} {x:α} (h:l[k]? =some x):k<l.length:=by
 rcases Nat.lt_or_ge k l.length with h2 | h2
 ·exact h2
 ·rw[List.getElem?_eq_none h2] at h;cases h
theorem QeA {α:Type} {l:List α} {i:Int} (h0:0≤i) (h1:i<(l.length:Nat)): ∃x,Qp l i=some x:=by
 obtain ⟨k,rfl⟩: ∃k:Nat,i=k:=⟨i.toNat,by omega⟩
 exact ⟨_,Qcc (by omega)⟩
theorem ZI {α:Type} {l:List α} {k:Nat} {x:α} (hx:l[k]? =some x):l.take (k+1)=l.take k++[x]:=by rw[List.take_add_one,hx];rfl
theorem WL {α:Type} {l:List α} {k:Nat} (h:k≤l.length):(l.take k).length=k:=by simp;omega
def QC {α:Type} (f:α→Int) (l:List α):Int:=(l.map f).sum
@[simp] theorem QhV {α:Type} (f:α→Int):QC f []=0:=rfl
@[simp] theorem Yr {α:Type} (f:α→Int) (x:α) (l:List α):QC f (x::l)=f x+QC f l:=by simp[QC]
theorem WR {α:Type} (f:α→Int): ∀(a b:List α),QC f (a++b)=QC f a+QC f b
 | [],b=>by simp
 | x::a,b=>by simp only[List.cons_append,Yr,WR f a b];omega
theorem JR {α:Type} {f:α→Int} {B:Int}: ∀{l:List α},(∀x∈l,0≤f x∧f x≤B)→0≤QC f l∧QC f l≤l.length*B
 | [],_=>by simp
 | x::l,h=>by
  have h1:=h x (by simp);have h2:=JR (l:=l) fun y hy=>h y (by simp[hy])
  rw[Yr,List.length_cons]
  have:((l.length+1:Nat):Int)*B=l.length*B+B:=by rw[Int.natCast_add,Int.add_mul];simp
  rw[this]
  omega
theorem Qag {α:Type} {f g:α→Int}: ∀{l:List α},(∀x∈l,f x≤g x)→QC f l≤QC g l
 | [],_=>by simp
 | x::l,h=>by
  have h1:=h x (by simp);have h2:=Qag (l:=l) fun y hy=>h y (by simp[hy])
  rw[Yr,Yr]
  omega
theorem Qbz {β:Type} {k:Int} {v:β} (m:List (Int×β)):YY k (Wb k v m)=some v:=by
 induction m with
 | nil=>simp[Wb,YY]
 | cons p m ih =>
  obtain ⟨a,b⟩:=p
  by_cases h:a=k
  ·simp[Wb,YY,h]
  ·simp[Wb,YY,h,ih]
theorem QcP {β:Type} {k j:Int} {v:β} (h:j≠k) (m:List (Int×β)):YY j (Wb k v m)=YY j m:=by
 induction m with
 | nil=>simp[Wb,YY];omega
 | cons p m ih =>
  obtain ⟨a,b⟩:=p
  by_cases h2:a=k
  ·subst h2;simp[Wb,YY,Ne.symm h]
  ·by_cases h3:a=j
   ·subst h3;simp[Wb,YY,h]
   ·simp[Wb,YY,h2,h3,ih]
theorem WS {α:Type}: ∀(l:List α),QC (fun _=>0) l=0
 | []=>rfl
 | x::l=>by rw[Yr,WS l];rfl
theorem VD {α:Type} [DecidableEq α]: ∀{l m:List α},l.Nodup→(∀x∈l,x∈m)→l.length≤m.length
 | [],_,_,_=>Nat.zero_le _
 | x::l,m,hn,h=>by
  rw[List.nodup_cons] at hn
  have hx:=h x (by simp);have:=VD (l:=l) (m:=m.erase x) hn.2 fun y hy=>(List.mem_erase_of_ne (fun e=>hn.1 (by rw[←e];exact hy))).2 (h y (by simp[hy]))
  rw[List.length_erase_of_mem hx] at this
  have:0<m.length:=List.length_pos_of_mem hx
  simp only[List.length_cons]
  omega
end Go.Proofs.Ytfdjjdhnfaklbaa
namespace Go.Proofs.Ytfdjjdhnfaklbaa
set_option linter.unusedSimpArgs false
set_option linter.unusedVariables false
section
variable {τ:Type} {mk:Int→Int→τ} {body:τ→Option (τ⊕Int)} {y1 y0 u v:Int}
structure KnP (y1 y0 u v q r:Int):Prop where
 q0:0≤q
 q1:q≤4294967297
 e:q*y1+r=u
 r0:0≤r
 up:u*4294967296+v<(q+1)*(y1*4294967296+y0)
structure KnE (y1 y0 u v q:Int):Prop where
 q0:0≤q
 q1:q<4294967296
 lo:q*(y1*4294967296+y0)≤u*4294967296+v
 up:u*4294967296+v<(q+1)*(y1*4294967296+y0)
structure KnH (y1 y0 u v:Int):Prop where
 y31:2147483648≤y1
 y32:y1<4294967296
 z0:0≤y0
 z1:y0<4294967296
 u0:0≤u
 u1:u<y1*4294967296+y0
 v0:0≤v
 v1:v<4294967296
theorem Qf3 (q y1 y0:Int):q*(y1*4294967296+y0)=q*y1*4294967296+q*y0:=by rw[Int.mul_add,Int.mul_assoc]
theorem Qip (q y1 y0:Int):(q+1)*(y1*4294967296+y0)=q*y1*4294967296+q*y0+y1*4294967296+y0:=by rw[Qf3,Int.add_mul q 1 y1,Int.add_mul q 1 y0,Int.one_mul,Int.one_mul];omega
theorem KnH.lt (h:KnH y1 y0 u v) {q:Int} (hl:q*(y1*4294967296+y0)≤u*4294967296+v):q<4294967296:=by
 rcases (by omega:q<4294967296∨4294967296≤q) with h1 | h1
 ·exact h1
 ·exfalso
  have a1:=Int.mul_le_mul_of_nonneg_right h1 (show 0≤y1 by have:=h.y31;omega);have a2:=Int.mul_le_mul_of_nonneg_right h1 h.z0
  rw[Qf3] at hl
  have:=h.u1;have:=h.v1
  omega
theorem KnP.init (h:KnH y1 y0 u v):KnP y1 y0 u v (u/y1) (u%y1):=by
 have p1:=h.y31;have p2:=h.z0;have p3:=h.z1;have p4:=h.u0;have p5:=h.u1;have p6:=h.v0;have p7:=h.v1;have e:u/y1*y1+u%y1=u:=by rw[Int.mul_comm];exact Int.mul_ediv_add_emod u y1
 have r0:=Int.emod_nonneg u (show y1≠0 by omega);have r1:=Int.emod_lt_of_pos u (show 0<y1 by omega);have q0:=Int.ediv_nonneg p4 (show 0≤y1 by omega);refine ⟨q0,?_,e,r0,?_⟩
 ·rcases (by omega:4294967297<(u/y1)∨(u/y1)≤4294967297) with h1 | h1
  ·exfalso
   have a1:=Int.mul_le_mul_of_nonneg_right (show 4294967298≤u/y1 by omega) (show 0≤y1 by omega)
   omega
  ·exact h1
 ·rw[Qip]
  have a2:=Int.mul_nonneg q0 p2
  omega
theorem KnP.fin (h:KnH y1 y0 u v) {q r:Int} (p:KnP y1 y0 u v q r) (hc: ¬(4294967296≤q∨4294967296*r+v<q*y0)):KnE y1 y0 u v q:=by
 have e:=p.e;refine ⟨p.q0,by omega,?_,p.up⟩
 rw[Qf3]
 omega
theorem KnP.dec (h:KnH y1 y0 u v) {q r:Int} (p:KnP y1 y0 u v q r) (hc:4294967296≤q∨4294967296*r+v<q*y0):KnP y1 y0 u v (q-1) (r+y1):=by
 have p1:=h.y31;have p2:=h.z0;have p3:=h.z1;have p4:=h.u0;have p5:=h.u1;have p6:=h.v0;have p7:=h.v1;have e:=p.e;have q0:=p.q0;have q1:=p.q1;have r0:=p.r0;have hq:1≤q:=by
  rcases (by omega:q<1∨1≤q) with h1 | h1
  ·have:q=0:=by omega
   subst this
   rw[Int.zero_mul] at hc
   omega
  ·exact h1
 refine ⟨by omega,by omega,?_,by omega,?_⟩
 ·rw[Int.sub_mul];omega
 ·rw[show q-1+1=q by omega,Qf3]
  rcases hc with hc | hc
  ·have a1:=Int.mul_le_mul_of_nonneg_right hc (show 0≤y1 by omega);have a2:=Int.mul_le_mul_of_nonneg_right hc p2
   omega
  ·omega
theorem KnP.brk (h:KnH y1 y0 u v) {q r:Int} (p:KnP y1 y0 u v q r) (hq:q≤4294967296) (hr:4294967296≤r):KnE y1 y0 u v q:=by
 have p2:=h.z0;have p3:=h.z1;have p6:=h.v0;have e:=p.e;have q0:=p.q0;have hl:q*(y1*4294967296+y0)≤u*4294967296+v:=by
  rw[Qf3]
  have a2:=Int.mul_le_mul_of_nonneg_right hq p2
  omega
 exact ⟨q0,h.lt hl,hl,p.up⟩
theorem Qg8 (h:KnH y1 y0 u v) (hb: ∀q r,0≤q→q≤4294967297→0≤r→r<4294967296→body (mk q r)=some (if 4294967296≤q∨4294967296*r+v<q*y0 then (if 4294967296≤r+y1 then .inr (q-1) else .inl (mk (q-1) (r+y1))) else .inr q)) {F:Nat} (hF:3≤F) :
  ∃q,iter body F (mk (u/y1) (u%y1))=some q∧KnE y1 y0 u v q:=by
 have p1:=h.y31;have p2:=h.y32;have r1:=Int.emod_lt_of_pos u (show 0<y1 by omega);have P0:=KnP.init h
 generalize u/y1=q at P0 ⊢
 generalize u%y1=r at P0 r1 ⊢
 obtain ⟨f,rfl⟩: ∃f,F=f+1+1+1:=⟨F-3,by omega⟩
 have r0:=P0.r0
 rw[iter,hb q r P0.q0 P0.q1 r0 (by omega),Option.bind_some]
 by_cases hc:4294967296≤q∨4294967296*r+v<q*y0
 case neg=>rw[if_neg hc];exact ⟨q,rfl,P0.fin h hc⟩
 rw[if_pos hc]
 have P1:=P0.dec h hc;have q1:=P0.q1
 by_cases hr:4294967296≤r+y1
 case pos=>rw[if_pos hr];exact ⟨q-1,rfl,P1.brk h (by omega) hr⟩
 rw[if_neg hr]
 show ∃q',iter body (f+1+1) (mk (q-1) (r+y1))=some q'∧_
 rw[iter,hb _ _ P1.q0 P1.q1 P1.r0 (by omega),Option.bind_some]
 by_cases hc2:4294967296≤q-1∨4294967296*(r+y1)+v<(q-1)*y0
 case neg=>rw[if_neg hc2];exact ⟨q-1,rfl,P1.fin h hc2⟩
 rw[if_pos hc2,if_pos (show 4294967296≤r+y1+y1 by omega)]
 exact ⟨q-1-1,rfl,(P1.dec h hc2).brk h (by omega) (by omega)⟩
end
end Go.Proofs.Ytfdjjdhnfaklbaa
namespace Go.Proofs.Ytfdjjdhnfaklbaa
set_option linter.unusedSimpArgs false
set_option linter.unusedVariables false
theorem uw (x:Int):IntKind.u64.wrap x=x%18446744073709551616:=rfl
theorem ZO {x:Int} (h0:0≤x) (h1:x<18446744073709551616):IntKind.u64.wrap x=x:=by rw[uw];omega
theorem Qis {x:Int} (h0:0≤x) (h1:x<256):IntKind.u8.wrap x=x:=by show x%256=x;omega
theorem ofU {n:Nat} (h:n<18446744073709551616):(BitVec.ofInt IntKind.u64.bits (n:Int)).toNat=n:=by
 rw[BitVec.toNat_ofInt]
 show (((n:Int)%((2^64:Nat):Int)).toNat)=n
 omega
theorem QdX {x:Int} (h0:0≤x) (h1:x<18446744073709551616):WG .u64 x 4294967295=x%4294967296:=by
 obtain ⟨n,rfl⟩: ∃n:Nat,x=n:=⟨x.toNat,by omega⟩
 unfold WG;have e1:(BitVec.ofInt IntKind.u64.bits (n:Int) &&& BitVec.ofInt IntKind.u64.bits 4294967295).toNat=n%4294967296:=by
  rw[BitVec.toNat_and,ofU (by omega),show (BitVec.ofInt IntKind.u64.bits 4294967295).toNat=2^32-1 from by decide,Nat.and_two_pow_sub_one_eq_mod]
 rw[e1,ZO (by omega) (by omega)]
 omega
theorem Qg6 {x:Int} (h0:0≤x) (h1:x<9223372036854775808):WG .i64 x 33554431=x%33554432:=by
 obtain ⟨n,rfl⟩: ∃n:Nat,x=n:=⟨x.toNat,by omega⟩
 unfold WG;have e0:(BitVec.ofInt IntKind.i64.bits (n:Int)).toNat=n:=by
  rw[BitVec.toNat_ofInt]
  show (((n:Int)%((2^64:Nat):Int)).toNat)=n
  omega
 have e1:(BitVec.ofInt IntKind.i64.bits (n:Int) &&& BitVec.ofInt IntKind.i64.bits 33554431).toNat=n%33554432:=by
  rw[BitVec.toNat_and,e0,show (BitVec.ofInt IntKind.i64.bits 33554431).toNat=2^25-1 from by decide,Nat.and_two_pow_sub_one_eq_mod]
 rw[e1]
 show w64 _=_
 rw[Q9 (by omega) (by omega)]
 omega
theorem orU {a b i:Nat} (hb:b<2^i) (h:2^i*a+b<18446744073709551616):orI .u64 ((2^i*a:Nat):Int) (b:Int)=((2^i*a+b:Nat):Int):=by
 unfold orI;have e1:(BitVec.ofInt IntKind.u64.bits ((2^i*a:Nat):Int) ||| BitVec.ofInt IntKind.u64.bits (b:Int)).toNat=2^i*a+b:=by
  rw[BitVec.toNat_or,ofU (by omega),ofU (by omega),Nat.two_pow_add_eq_or_of_lt hb]
 rw[e1,ZO (by omega) (by omega)]
structure QcZ (x:Int) (m:Nat):Prop where
 lt:x<2^m
 ge:1≤x→(2:Int)^m≤2*x
theorem QcZ.up {x:Int} {m:Nat} (k:Nat) (hx:(2:Int)^k≤x) (h:QcZ (x/2^k) m):QcZ x (m+k):=by
 have hp:(0:Int)<2^k:=Int.pow_pos (by decide);have e1:=Int.mul_ediv_add_emod x (2^k);have e2:=Int.emod_lt_of_pos x hp;have e3:=Int.emod_nonneg x (Int.ne_of_gt hp);have h1:1≤x/2^k:=Int.le_ediv_of_mul_le hp (by omega);have a1:=h.lt;have a2:=h.ge h1
 rw[Int.mul_comm] at e1
 refine ⟨?_,fun _=> ?_⟩
 ·rw[Int.pow_add]
  have:=Int.mul_le_mul_of_nonneg_right (show x/2^k+1≤2^m by omega) (Int.le_of_lt hp)
  rw[Int.add_mul] at this
  omega
 ·rw[Int.pow_add]
  have:=Int.mul_le_mul_of_nonneg_right a2 (Int.le_of_lt hp)
  rw[Int.mul_assoc] at this
  omega
def VL:ByteArray:=⟨#[0,1,2,2,3,3,3,3,4,4,4,4,4,4,4,4,5,5,5,5,5,5,5,5,5,5,5,5,5,5,5,5,6,6,6,6,6,6,6,6,6,6,6,6,6,6,6,6,6,6,6,6,6,6,6,6,6,6,6,6,6,6,6,6,7,7,7,7,7,7,7,7,7,7,7,7,7,7,7,7,7,7,7,7,7,7,7,7,7,7,7,7,7,7,7,7,7,7,7,7,7,7,7,7,7,7,7,7,7,7,7,7,7,7,7,7,7,7,7,7,7,7,7,7,7,7,7,7,8,8,8,8,8,8,8,8,8,8,8,8,8,8,8,8,8,8,8,8,8,8,8,8,8,8,8,8,8,8,8,8,8,8,8,8,8,8,8,8,8,8,8,8,8,8,8,8,8,8,8,8,8,8,8,8,8,8,8,8,8,8,8,8,8,8,8,8,8,8,8,8,8,8,8,8,8,8,8,8,8,8,8,8,8,8,8,8,8,8,8,8,8,8,8,8,8,8,8,8,8,8,8,8,8,8,8,8,8,8,8,8,8,8,8,8,8,8,8,8,8,8,8,8,8,8,8,8]⟩
theorem QgZ: ∀v:Nat,v<256→(match VK VL (v:Int) with | some m=>decide (0≤m∧m≤8∧(v:Int)<2^m.toNat∧(1≤v→2^m.toNat≤2*(v:Int))) | none=>false)=true:=by decide +kernel
section
attribute [local irreducible] VL
theorem QhS {v:Int} (h0:0≤v) (h1:v<256): ∃m:Nat,VK VL v=some (m:Int)∧m≤8∧QcZ v m:=by
 obtain ⟨n,rfl⟩: ∃n:Nat,v=n:=⟨v.toNat,by omega⟩
 have h:=QgZ n (by omega)
 split at h
 ·rename_i m hm
  obtain ⟨k0,k1,k2,k3⟩:=of_decide_eq_true h;exact ⟨m.toNat,hm.trans (congrArg some (Int.toNat_of_nonneg k0).symm),by omega,k2,fun hh=>k3 (by omega)⟩
 ·cases h
end
theorem Qfq {x:Int} (h0:0≤x) (h1:x<18446744073709551616): ∃m:Nat,Jj x=some (m:Int)∧m≤64∧QcZ x m:=by
 have last: ∀(v n:Int),0≤v→v<256→0≤n→n≤56→ ∃m:Nat,(Option.bind (VK VL (IntKind.u8.wrap v)) fun x5=>some (w64 (n+w64 x5)))=some (n+(m:Int))∧m≤8∧QcZ v m:=by
  intro v n h0 h1 h2 h3;obtain ⟨m,k1,k2,k3⟩:=QhS h0 h1;refine ⟨m,?_,k2,k3⟩
  rw[Qis h0 h1,k1,Option.bind_some,Q9 (n:=(m:Int)) (by omega) (by omega),Q9 (by omega) (by omega)]
 have s8: ∀(v n:Int),0≤v→v<65536→0≤n→n≤48→ ∃m:Nat,(Option.bind (bif (decide (256≤v)) then Option.bind (QP (0≤8∧8≤64)) fun _=>some (v/2^(8:Int).toNat,w64 (n+8)) else some (v,n)) fun j_=>oun j_ fun x4 n3=>Option.bind (VK VL (IntKind.u8.wrap x4)) fun x5=>some (w64 (n3+w64 x5)))=some (n+(m:Int))∧m≤16∧QcZ v m:=by
  intro v n h0 h1 h2 h3
  by_cases h:256≤v
  ·rw[decide_eq_true h,cond_true,YG ⟨by decide,by decide⟩,Option.bind_some,Option.bind_some]
   obtain ⟨m,k1,k2,k3⟩:=last (v/2^8) (n+8) (by omega) (by omega) (by omega) (by omega);refine ⟨m+8,?_,by omega,k3.up 8 (by omega)⟩
   show (Option.bind (VK VL (IntKind.u8.wrap (v/2^8))) fun x5=>some (w64 (w64 (n+8)+w64 x5)))=_
   rw[Q9 (n:=n+8) (by omega) (by omega),k1]
   congr 1;omega
  ·rw[decide_eq_false h,cond_false,Option.bind_some]
   obtain ⟨m,k1,k2,k3⟩:=last v n (by omega) (by omega) (by omega) (by omega);exact ⟨m,k1,by omega,k3⟩
 have s16: ∀(v n:Int),0≤v→v<4294967296→0≤n→n≤32→ ∃m:Nat,(Option.bind (bif (decide (65536≤v)) then Option.bind (QP (0≤16∧16≤64)) fun _=>some (v/2^(16:Int).toNat,w64 (n+16)) else some (v,n)) fun j_=>oun j_ fun x3 n2=>(Option.bind (bif (decide (256≤x3)) then Option.bind (QP (0≤8∧8≤64)) fun _=>some (x3/2^(8:Int).toNat,w64 (n2+8)) else some (x3,n2)) fun j_=>oun j_ fun x4 n3=>Option.bind (VK VL (IntKind.u8.wrap x4)) fun x5=>some (w64 (n3+w64 x5))))=some (n+(m:Int))∧m≤32∧QcZ v m:=by
  intro v n h0 h1 h2 h3
  by_cases h:65536≤v
  ·rw[decide_eq_true h,cond_true,YG ⟨by decide,by decide⟩,Option.bind_some,Option.bind_some]
   obtain ⟨m,k1,k2,k3⟩:=s8 (v/2^16) (n+16) (by omega) (by omega) (by omega) (by omega);refine ⟨m+16,?_,by omega,k3.up 16 (by omega)⟩
   rw[Q9 (n:=n+16) (by omega) (by omega)]
   refine Eq.trans k1 ?_
   congr 1;omega
  ·rw[decide_eq_false h,cond_false,Option.bind_some]
   obtain ⟨m,k1,k2,k3⟩:=s8 v n (by omega) (by omega) (by omega) (by omega);exact ⟨m,k1,by omega,k3⟩
 by_cases h:4294967296≤x
 ·obtain ⟨m,k1,k2,k3⟩:=s16 (x/2^32) 32 (by omega) (by omega) (by omega) (by omega);refine ⟨m+32,?_,by omega,k3.up 32 (by omega)⟩;unfold Jj
  rw[decide_eq_true h,cond_true,YG ⟨by decide,by decide⟩,Option.bind_some,Option.bind_some]
  refine Eq.trans k1 ?_
  congr 1;omega
 ·obtain ⟨m,k1,k2,k3⟩:=s16 x 0 (by omega) (by omega) (by omega) (by omega);refine ⟨m,?_,by omega,k3⟩;unfold Jj
  rw[decide_eq_false h,cond_false,Option.bind_some]
  refine Eq.trans k1 ?_
  congr 1;omega
end Go.Proofs.Ytfdjjdhnfaklbaa
namespace Go.Proofs.Ytfdjjdhnfaklbaa
set_option linter.unusedSimpArgs false
set_option linter.unusedVariables false
def kB {τ:Type} (y1 y0 v q r:Int) (mk:Int→Int→τ):Option (τ⊕Int) :=
 Option.bind (
  bif (decide (4294967296≤q)) then
   some true
  else
   some (decide ((IntKind.u64.wrap ((IntKind.u64.wrap (4294967296*r))+v))<(IntKind.u64.wrap (q*y0))))) (fun v1 =>
  bif v1 then
   bif (decide (4294967296≤(IntKind.u64.wrap (r+y1)))) then
    some (.inr (IntKind.u64.wrap (q-1)))
   else
    some (.inl (mk (IntKind.u64.wrap (q-1)) (IntKind.u64.wrap (r+y1))))
  else
   some (.inr q))
theorem Qg7 {τ:Type} {mk:Int→Int→τ} {y1 y0 u v q r:Int} (h:KnH y1 y0 u v) (q0:0≤q) (q1:q≤4294967297) (r0:0≤r) (r1:r<4294967296) :
  kB y1 y0 v q r mk=some (if 4294967296≤q∨4294967296*r+v<q*y0 then (if 4294967296≤r+y1 then .inr (q-1) else .inl (mk (q-1) (r+y1))) else .inr q):=by
 have p1:=h.y31;have p1':=h.y32;have p2:=h.z0;have p3:=h.z1;have p6:=h.v0;have p7:=h.v1;have e1:IntKind.u64.wrap (r+y1)=r+y1:=ZO (by omega) (by omega);have body: ∀(h1:1≤q),(bif (decide (4294967296≤(IntKind.u64.wrap (r+y1)))) then (some (.inr (IntKind.u64.wrap (q-1))):Option (τ⊕Int)) else some (.inl (mk (IntKind.u64.wrap (q-1)) (IntKind.u64.wrap (r+y1)))))=some (if 4294967296≤r+y1 then .inr (q-1) else .inl (mk (q-1) (r+y1))):=by
  intro h1
  rw[e1,ZO (x:=q-1) (by omega) (by omega)]
  by_cases hr:4294967296≤r+y1
  ·rw[decide_eq_true hr,cond_true,if_pos hr]
  ·rw[decide_eq_false hr,cond_false,if_neg hr]
 unfold kB
 by_cases hq:4294967296≤q
 ·rw[decide_eq_true hq,cond_true,Option.bind_some,cond_true,if_pos (Or.inl hq)]
  exact body (by omega)
 ·rw[decide_eq_false hq,cond_false,Option.bind_some]
  have a1:=Int.mul_nonneg q0 p2;have a2:=Int.mul_le_mul_of_nonneg_right (show q≤4294967295 by omega) p2
  rw[ZO (x:=4294967296*r) (by omega) (by omega),ZO (x:=4294967296*r+v) (by omega) (by omega),ZO (x:=q*y0) a1 (by omega)]
  by_cases hc:4294967296*r+v<q*y0
  ·rw[decide_eq_true hc,cond_true,if_pos (Or.inr hc)]
   refine body ?_;rcases (by omega:q=0∨1≤q) with h0 | h0
   ·subst h0;rw[Int.zero_mul] at hc;omega
   ·exact h0
  ·rw[decide_eq_false hc,cond_false,if_neg (by omega)]
theorem Qei {Y u l q1 q0:Int} (hY:9223372036854775808≤Y) (hY2:Y<18446744073709551616) (hu:0≤u) (hu2:u<Y) (hl:0≤l) (hl2:l<18446744073709551616)
  (k1:KnE (Y/4294967296) (Y%4294967296) u (l/4294967296) q1) (d:Int) (hd:d=u*4294967296+l/4294967296-q1*Y) (k0:KnE (Y/4294967296) (Y%4294967296) d (l%4294967296) q0) :
  ∃r,r=d*4294967296+l%4294967296-q0*Y∧0≤r∧r<Y∧u*18446744073709551616+l=(q1*4294967296+q0)*Y+r:=by
 have e:Y/4294967296*4294967296+Y%4294967296=Y:=by omega
 have l0:=k0.lo;have u0:=k0.up
 rw[e] at l0 u0
 rw[Int.add_mul,Int.one_mul] at u0
 refine ⟨_,rfl,by omega,by omega,?_⟩
 rw[Int.add_mul,Int.mul_right_comm q1 4294967296 Y]
 omega
theorem QhE {N y Q r S:Int} (hS:0<S) (hr:0≤r) (hr2:r<y*S) (h:N*S=Q*(y*S)+r) (hy:0<y):Q=N/y∧r/S=N%y:=by
 have h1:r=(N-Q*y)*S:=by rw[Int.sub_mul,Int.mul_assoc];omega
 have h2:r/S=N-Q*y:=by rw[h1];exact Int.mul_ediv_cancel _ (Int.ne_of_gt hS)
 have h3:0≤N-Q*y:=by rw[←h2];exact Int.ediv_nonneg hr (Int.le_of_lt hS)
 have h4:N-Q*y<y:=by rw[←h2];exact Int.ediv_lt_of_lt_mul hS hr2
 have h5:N=Q*y+(N-Q*y):=by omega
 have h6:N/y=Q:=by
  rw[h5,Int.mul_comm Q y,Int.mul_add_ediv_left _ _ (Int.ne_of_gt hy),Int.ediv_eq_zero_of_lt (by rw[Int.mul_comm];exact h3) (by rw[Int.mul_comm];exact h4)];omega
 refine ⟨h6.symm,?_⟩
 rw[h2,Int.emod_def,h6,Int.mul_comm y Q]
end Go.Proofs.Ytfdjjdhnfaklbaa
namespace Go.Proofs.Ytfdjjdhnfaklbaa
set_option linter.unusedSimpArgs false
set_option linter.unusedVariables false
theorem Qfo {F:Nat} (hF:3≤F) {hi lo y:Int} (h0:0≤hi) (h1:hi<y) (hl:0≤lo) (hl2:lo<18446744073709551616) (hy:y<18446744073709551616) :
  JD F hi lo y=some ((hi*18446744073709551616+lo)/y,(hi*18446744073709551616+lo)%y):=by
 unfold JD
 rw[decide_eq_false (show ¬y=0 by omega),cond_false,Option.bind_some,decide_eq_false (show ¬y≤hi by omega),cond_false,Option.bind_some]
 by_cases hz:hi=0
 ·subst hz
  rw[decide_eq_true rfl,cond_true,YG (show y≠0 by omega),Option.bind_some,Option.bind_some]
  have e1:Int.tdiv lo y=lo/y:=Int.tdiv_eq_ediv_of_nonneg hl;have e2:Int.tmod lo y=lo%y:=Int.tmod_eq_emod_of_nonneg hl;have a1:=Int.ediv_nonneg hl (show 0≤y by omega);have a2:=Int.ediv_le_self y hl
  rw[e1,e2,ZO a1 (by omega)]
  simp
 rw[decide_eq_false hz,cond_false]
 obtain ⟨m,hm,hm64,hL⟩:=Qfq (x:=y) (by omega) hy;obtain ⟨s,hs⟩: ∃s:Nat,s+m=64:=⟨64-m,by omega⟩
 have hr1:Y4 y=some (s:Int):=by
  unfold Y4
  rw[hm,Option.bind_some,Q9 (by omega) (by omega)]
  congr 1;omega
 rw[hr1,Option.bind_some]
 have es:IntKind.u64.wrap (s:Int)=(s:Int):=ZO (by omega) (by omega);have es2:IntKind.u64.wrap (64-(s:Int))=(m:Int):=by rw[ZO (by omega) (by omega)];omega
 have e32:(2:Int)^(32:Int).toNat=4294967296:=by decide
 simp only[es,es2,Int.toNat_natCast,e32]
 rw[YG (show (0:Int)≤(s:Int)∧(s:Int)≤64 by omega),Option.bind_some,YG (show (0:Nat)≤32∧(32:Nat)≤64 by omega),Option.bind_some,Option.bind_some,YG (show (0:Int)≤(m:Int)∧(m:Int)≤64 by omega),Option.bind_some,Option.bind_some,Option.bind_some]
 have hS:(0:Int)<2^s:=Int.pow_pos (by decide);have hT:(0:Int)<2^m:=Int.pow_pos (by decide);have hST:(2:Int)^s*2^m=18446744073709551616:=by rw[←Int.pow_add,hs];decide
 have g1:=hL.lt;have g2:=hL.ge (by omega);have hY1:9223372036854775808≤y*2^s:=by
  have:=Int.mul_le_mul_of_nonneg_left g2 (Int.le_of_lt hS)
  rw[hST] at this
  have e:(2:Int)^s*(2*y)=2*(y*2^s):=by rw[Int.mul_left_comm,Int.mul_comm ((2:Int)^s) y]
  omega
 have hY2:y*2^s<18446744073709551616:=by
  have:=Int.mul_lt_mul_of_pos_left g1 hS
  rw[hST,Int.mul_comm] at this
  exact this
 have hA0:0≤hi*2^s:=Int.mul_nonneg h0 (Int.le_of_lt hS);have hA1:hi*2^s+2^s≤y*2^s:=by
  have:=Int.mul_le_mul_of_nonneg_right (show hi+1≤y by omega) (Int.le_of_lt hS)
  rw[Int.add_mul,Int.one_mul] at this
  exact this
 have hq0:0≤lo/2^m:=Int.ediv_nonneg hl (Int.le_of_lt hT);have hq1:lo/2^m<2^s:=Int.ediv_lt_of_lt_mul hT (by rw[hST];exact hl2);have hr0:=Int.emod_nonneg lo (Int.ne_of_gt hT);have hr2:=Int.emod_lt_of_pos lo hT;have hlo:=Int.mul_ediv_add_emod lo (2^m);have eY:IntKind.u64.wrap (y*2^s)=y*2^s:=ZO (by omega) hY2;have eA:IntKind.u64.wrap (hi*2^s)=hi*2^s:=ZO hA0 (by omega);have eU:orI .u64 (hi*2^s) (lo/2^m)=hi*2^s+lo/2^m:=by
  obtain ⟨a,ha⟩: ∃a:Nat,hi=a:=⟨hi.toNat,by omega⟩
  obtain ⟨b,hb⟩: ∃b:Nat,lo/2^m=b:=⟨(lo/2^m).toNat,by omega⟩
  have hp:((2^s:Nat):Int)=(2:Int)^s:=by simp
  rw[hb]
  have hb2:b<2^s:=by rw[hb,←hp] at hq1;omega
  have ec:hi*2^s=((2^s*a:Nat):Int):=by rw[Int.natCast_mul,hp,ha,Int.mul_comm]
  rw[hb] at hq1
  rw[ec] at hA1 ⊢
  rw[orU hb2 (by rw[←hp] at hA1 hq1 hY2;omega)]
  omega
 have hlr:lo%2^m*2^s<18446744073709551616:=by
  have:=Int.mul_lt_mul_of_pos_right hr2 hS
  rw[Int.mul_comm (2^m),hST] at this
  exact this
 have hlr0:0≤lo%2^m*2^s:=Int.mul_nonneg hr0 (Int.le_of_lt hS);have elo:lo*2^s=lo/2^m*18446744073709551616+lo%2^m*2^s:=by
  have h5:lo*2^s=(2^m*(lo/2^m)+lo%2^m)*2^s:=by rw[hlo]
  rw[h5,Int.add_mul,Int.mul_right_comm,Int.mul_comm (2^m),hST,Int.mul_comm]
 have eL:IntKind.u64.wrap (lo*2^s)=lo%2^m*2^s:=by rw[uw,elo];omega
 simp only[eY,eA,eU,eL]
 have b1: ∀q r,Z7 lo y (s:Int) (q,r)=kB (y*2^s/4294967296) (y*2^s%4294967296) (lo%2^m*2^s/4294967296) q r (fun a b=>(a,b)):=by
  intro q r;unfold Z7 kB
  simp only[oun,es,Int.toNat_natCast,e32,eY,eL,QdX (show 0≤y*2^s by omega) hY2]
 have b2: ∀q r,Z8 lo y (s:Int) (r,q)=kB (y*2^s/4294967296) (y*2^s%4294967296) (lo%2^m*2^s%4294967296) q r (fun a b=>(b,a)):=by
  intro q r;unfold Z8 kB
  simp only[oun,es,Int.toNat_natCast,e32,eY,eL,QdX (show 0≤y*2^s by omega) hY2,QdX hlr0 hlr]
 rw[QdX hlr0 hlr]
 have eN:(hi*18446744073709551616+lo)*2^s=(hi*2^s+lo/2^m)*18446744073709551616+lo%2^m*2^s:=by
  rw[Int.add_mul,elo,Int.mul_right_comm,Int.add_mul];omega
 have hu2:hi*2^s+lo/2^m<y*2^s:=by omega
 have hu0:0≤hi*2^s+lo/2^m:=by omega
 generalize hi*2^s+lo/2^m=u at *
 generalize lo%2^m*2^s=l at *
 have hy0:0<y:=by omega
 have key:=fun Q r hr hr2 h=>QhE (N:=hi*18446744073709551616+lo) (y:=y) (Q:=Q) (r:=r) hS hr hr2 h hy0
 rw[eN] at key
 generalize y*2^s=Y at *
 have H1:KnH (Y/4294967296) (Y%4294967296) u (l/4294967296):=⟨by omega,by omega,by omega,by omega,hu0,by omega,by omega,by omega⟩
 rw[YG (show Y/4294967296≠0 by omega),Option.bind_some]
 have t1:IntKind.u64.wrap (Int.tdiv u (Y/4294967296))=u/(Y/4294967296):=by
  rw[Int.tdiv_eq_ediv_of_nonneg hu0]
  exact ZO (Int.ediv_nonneg hu0 (by omega)) (by have:=Int.ediv_le_self (Y/4294967296) hu0;omega)
 have dv: ∀x,0≤x→x<18446744073709551616→IntKind.u64.wrap (x-IntKind.u64.wrap (x/(Y/4294967296)*(Y/4294967296)))=x%(Y/4294967296):=by
  intro x hx hx2;have e1:=Int.mul_ediv_add_emod x (Y/4294967296);have e2:=Int.emod_nonneg x (show Y/4294967296≠0 by omega);have e3:=Int.emod_lt_of_pos x (show 0<Y/4294967296 by omega)
  rw[Int.mul_comm] at e1
  have e4:=Int.mul_nonneg (Int.ediv_nonneg hx (show 0≤Y/4294967296 by omega)) (show 0≤Y/4294967296 by omega)
  rw[ZO e4 (by omega),ZO (by omega) (by omega)]
  omega
 obtain ⟨q1,i1,k1⟩:=Qg8 (mk:=fun a b=>(a,b)) (body:=Z7 lo y (s:Int)) H1 (fun q r c1 c2 c3 c4=>by rw[b1];exact Qg7 H1 c1 c2 c3 c4) hF
 rw[t1,dv u hu0 (by omega),i1,Option.bind_some,Option.bind_some]
 have lo1:=k1.lo;have up1:=k1.up
 rw[show Y/4294967296*4294967296+Y%4294967296=Y by omega] at lo1 up1
 rw[Int.add_mul,Int.one_mul] at up1
 have ed:IntKind.u64.wrap (IntKind.u64.wrap (IntKind.u64.wrap (u*4294967296)+l/4294967296)-IntKind.u64.wrap (q1*Y))=u*4294967296+l/4294967296-q1*Y:=by
  simp only[uw];omega
 rw[ed]
 obtain ⟨d,hd⟩: ∃d,d=u*4294967296+l/4294967296-q1*Y:=⟨_,rfl⟩
 rw[←hd]
 have hd0:0≤d:=by omega
 have hd1:d<Y:=by omega
 have H2:KnH (Y/4294967296) (Y%4294967296) d (l%4294967296):=⟨by omega,by omega,by omega,by omega,hd0,by omega,by omega,by omega⟩
 have t2:IntKind.u64.wrap (Int.tdiv d (Y/4294967296))=d/(Y/4294967296):=by
  rw[Int.tdiv_eq_ediv_of_nonneg hd0]
  exact ZO (Int.ediv_nonneg hd0 (by omega)) (by have:=Int.ediv_le_self (Y/4294967296) hd0;omega)
 obtain ⟨q0,i2,k0⟩:=Qg8 (mk:=fun a b=>(b,a)) (body:=Z8 lo y (s:Int)) H2 (fun q r c1 c2 c3 c4=>by rw[b2];exact Qg7 H2 c1 c2 c3 c4) hF
 rw[t2,dv d hd0 (by omega),i2,Option.bind_some,Option.bind_some]
 obtain ⟨r,hr,r0,r1,hN⟩:=Qei hY1 hY2 hu0 hu2 hlr0 hlr k1 d hd k0;have er:IntKind.u64.wrap (IntKind.u64.wrap (IntKind.u64.wrap (d*4294967296)+l%4294967296)-IntKind.u64.wrap (q0*Y))=r:=by
  simp only[uw];omega
 have eq:IntKind.u64.wrap (IntKind.u64.wrap (q1*4294967296)+q0)=q1*4294967296+q0:=by
  have:=k1.q0;have:=k1.q1;have:=k0.q0;have:=k0.q1
  simp only[uw];omega
 rw[er,eq]
 obtain ⟨f1,f2⟩:=key (q1*4294967296+q0) r r0 r1 hN
 rw[f1,f2]
end Go.Proofs.Ytfdjjdhnfaklbaa
namespace Go.Proofs.Ytfdjjdhnfaklbaa
set_option linter.unusedSimpArgs false
set_option linter.unusedVariables false
theorem Qfr {x y:Int} (h0:0≤x) (h1:x<18446744073709551616) (h2:0≤y) (h3:y<18446744073709551616) :
  JE x y=some (x*y/18446744073709551616,x*y%18446744073709551616):=by
 unfold JE;have e32:(2:Int)^(32:Int).toNat=4294967296:=by decide
 rw[YG (show (0:Nat)≤32∧(32:Nat)≤64 by omega)]
 simp only[Option.bind_some,e32,QdX h0 h1,QdX h2 h3]
 have ex:x=x/4294967296*4294967296+x%4294967296:=by omega
 have ey:y=y/4294967296*4294967296+y%4294967296:=by omega
 have a0:0≤x/4294967296:=by omega
 have a1:x/4294967296≤4294967295:=by omega
 have b0:0≤x%4294967296:=by omega
 have b1:x%4294967296≤4294967295:=by omega
 have c0:0≤y/4294967296:=by omega
 have c1:y/4294967296≤4294967295:=by omega
 have d0:0≤y%4294967296:=by omega
 have d1:y%4294967296≤4294967295:=by omega
 have exy:x*y=(x/4294967296*4294967296+x%4294967296)*(y/4294967296*4294967296+y%4294967296):=by rw[←ex,←ey]
 generalize x/4294967296=x1 at *
 generalize x%4294967296=x0 at *
 generalize y/4294967296=y1 at *
 generalize y%4294967296=y0 at *
 have bd: ∀a b:Int,0≤a→a≤4294967295→0≤b→b≤4294967295→0≤a*b∧a*b≤18446744065119617025:=by
  intro a b a0 a1 b0 b1;refine ⟨Int.mul_nonneg a0 b0,?_⟩;have:=Int.mul_le_mul a1 b1 b0 (by omega)
  omega
 obtain ⟨p0,p1⟩:=bd x1 y1 a0 a1 c0 c1;obtain ⟨q0,q1⟩:=bd x1 y0 a0 a1 d0 d1;obtain ⟨r0,r1⟩:=bd x0 y0 b0 b1 d0 d1;obtain ⟨s0,s1⟩:=bd x0 y1 b0 b1 c0 c1;have e:(x1*4294967296+x0)*(y1*4294967296+y0)=x1*y1*18446744073709551616+x1*y0*4294967296+x0*y1*4294967296+x0*y0:=by
  rw[Int.add_mul,Int.mul_add,Int.mul_add,Int.mul_right_comm x1 4294967296 (y1*4294967296),←Int.mul_assoc x1 y1,Int.mul_assoc (x1*y1) 4294967296 4294967296,Int.mul_right_comm x1 4294967296 y0,←Int.mul_assoc x0 y1]
  omega
 rw[e] at exy
 rw[exy]
 generalize x1*y1=A at *
 generalize x1*y0=B at *
 generalize x0*y0=C at *
 generalize x0*y1=D at *
 have t0:IntKind.u64.wrap (IntKind.u64.wrap B+IntKind.u64.wrap C/4294967296)=B+C/4294967296:=by
  rw[ZO (x:=B) q0 (by omega),ZO (x:=C) r0 (by omega),ZO (by omega) (by omega)]
 rw[t0,QdX (by omega) (by omega),ZO (x:=A) p0 (by omega),ZO (x:=D) s0 (by omega)]
 simp only[uw]
 congr 2
 omega
end Go.Proofs.Ytfdjjdhnfaklbaa
namespace Go.Proofs.Ytfdjjdhnfaklbaa
set_option linter.unusedSimpArgs false
set_option linter.unusedVariables false
theorem YL {α σ τ ρ:Type} (xs:List α) (mk:σ→Int→τ) {body:τ→Option (τ⊕ρ)} (I:σ→Nat→Prop) (Q:ρ→Prop)
  (hb: ∀(k:Nat) (x:α) (s:σ),xs[k]? =some x→I s k→(∃s',body (mk s (k:Int))=some (.inl (mk s' ((k+1:Nat):Int)))∧I s' (k+1))∨ ∃o,body (mk s (k:Int))=some (.inr o)∧Q o)
  (hf: ∀s,I s xs.length→ ∃o,body (mk s (xs.length:Int))=some (.inr o)∧Q o): ∀(n:Nat) (s:σ),I s 0→xs.length<n→ ∃o,iter body n (mk s 0)=some o∧Q o:=by
 have key: ∀(r k:Nat) (s:σ) (n:Nat),k+r=xs.length→r<n→I s k→ ∃o,iter body n (mk s (k:Int))=some o∧Q o:=by
  intro r
  induction r with
  | zero =>
   intro k s n hk hn hI;obtain ⟨f,rfl⟩: ∃f,n=f+1:=⟨n-1,by omega⟩
   have hk':k=xs.length:=by omega
   subst hk';obtain ⟨o,h1,h2⟩:=hf s hI;exact ⟨o,by rw[iter,h1];rfl,h2⟩
  | succ r ih =>
   intro k s n hk hn hI;obtain ⟨f,rfl⟩: ∃f,n=f+1:=⟨n-1,by omega⟩
   rcases hb k (xs[k]'(by omega)) s (by simp) hI with ⟨s',h1,h2⟩ | ⟨o,h1,h2⟩
   ·obtain ⟨o,h3,h4⟩:=ih (k+1) s' f (by omega) (by omega) h2;refine ⟨o,?_,h4⟩
    rw[iter,h1]
    exact h3
   ·exact ⟨o,by rw[iter,h1];rfl,h2⟩
 intro n s hI hn;exact key xs.length 0 s n (by omega) hn hI
theorem VV {α:Type} (f:α→Int) {l:List α} {k:Nat} {x:α} (hx:l[k]? =some x):QC f (l.take (k+1))=QC f (l.take k)+f x:=by
 rw[ZI hx,WR];simp
theorem QbB {x:Int} (h0:0≤x) (h1:x≤1125899906842624):Qaq [x]=some true:=by
 unfold Qaq;have e1:Jp [x] 0=some (.inl 1):=by
  unfold Jp
  rw[show Qp [x] 0=some x from rfl]
  simp only[List.length_cons,List.length_nil,Option.bind_some]
  rw[decide_eq_true (by decide),cond_true,decide_eq_false (show ¬x< -1125899906842624 by omega),cond_false,decide_eq_false (show ¬1125899906842624<x by omega),Option.bind_some,cond_false]
  rfl
 have e2:Jp [x] 1=some (.inr (.inl ())):=by
  unfold Jp
  rw[decide_eq_false (by simp),cond_false]
 show (iter (Jp [x]) 2 0).bind _=_
 rw[iter,e1]
 show (iter (Jp [x]) 1 1).bind _=_
 rw[iter,e2]
 rfl
theorem Qd4 {l:List Int} (hn:l.length≤512) (hw: ∀w∈l,0≤w∧w≤1125899906842624) (hs:QC (fun w=>w) l≤1125899906842624):Qac l=some (QC (fun w=>w) l,0):=by
 have e25:(2:Int)^(25:Int).toNat=33554432:=by decide
 have hs0:=(JR (f:=fun w:Int=>w) (B:=1125899906842624) hw).1;obtain ⟨o,h1,hi,lo,rfl,h2,h3,h4,h5,h6⟩:=YL l (fun (s:Int×Int) k=>(s.1,s.2,k)) (body:=J7 l)
  (fun s k=>s.1*33554432+s.2=QC (fun w=>w) (l.take k)∧0≤s.1∧s.1≤k*33554432∧0≤s.2∧s.2≤k*33554432) (fun o=> ∃hi lo,o= .inl (hi,lo)∧hi*33554432+lo=QC (fun w=>w) l∧0≤hi∧hi≤512*33554432∧0≤lo∧lo≤512*33554432)
  (by
   intro k x s hx ⟨i1,i2,i3,i4,i5⟩;have hk:=QF hx;obtain ⟨w0,w1⟩:=hw x (List.mem_of_getElem? hx);refine .inl ⟨(s.1+x/33554432,s.2+x%33554432),?_,?_,by omega,?_,by omega,?_⟩
   ·unfold J7
    simp only[oun]
    rw[decide_eq_true (show (k:Int)<(l.length:Nat) by omega),cond_true,QA,hx,Option.bind_some,QbB w0 w1,Option.bind_some]
    rw[show (!true)=false from rfl,cond_false,YG (show (0:Nat)≤25∧(25:Nat)≤64 by omega),Option.bind_some,e25,Qg6 w0 (by omega),Q9 (by omega) (by omega),Q9 (by omega) (by omega),Q9 (by omega) (by omega)]
    congr 3
   ·rw[VV _ hx]
    show (s.1+x/33554432)*33554432+(s.2+x%33554432)=_
    rw[Int.add_mul];omega
   ·show s.1+x/33554432≤((k+1:Nat):Int)*33554432
    omega
   ·show s.2+x%33554432≤((k+1:Nat):Int)*33554432
    omega)
  (by
   intro s ⟨i1,i2,i3,i4,i5⟩;refine ⟨.inl (s.1,s.2),?_,s.1,s.2,rfl,by rw[i1,List.take_length],i2,by omega,i4,by omega⟩;unfold J7
   simp only[oun]
   rw[decide_eq_false (by omega),cond_false])
  (((l.length:Nat):Int).toNat+1) (0,0) ⟨rfl,by simp,by simp,by simp,by simp⟩ (by omega)
 unfold Qac
 rw[h1,Option.bind_some]
 simp only[Yl,oun]
 rw[YG (show (0:Nat)≤25∧(25:Nat)≤64 by omega)]
 simp only[Option.bind_some,e25]
 have hh:w64 (hi+lo/33554432)=hi+lo/33554432:=Q9 (by omega) (by omega)
 rw[hh,decide_eq_false (show ¬hi+lo/33554432< -67108864 by omega),cond_false,decide_eq_false (show ¬67108864<hi+lo/33554432 by omega)]
 simp only[Option.bind_some,oun,cond_false]
 rw[Qg6 h5 (by omega),Q9 (n:=(hi+lo/33554432)*33554432) (by omega) (by omega),show (hi+lo/33554432)*33554432+lo%33554432=QC (fun w=>w) l by omega,Q9 (by omega) (by omega)]
 unfold Wj
 rw[QbB hs0 hs]
 rfl
theorem Qek {l:List Int} (h1:1≤l.length) (hn:l.length≤512) (hw: ∀w∈l,0≤w∧w≤1125899906842624) (hs:QC (fun w=>w) l≤1125899906842624):Jg l=some (QC (fun w=>w) l,0):=by
 obtain ⟨o,e,rfl⟩:=YL l (fun (_:Unit) k=>k) (body:=Zz l) (fun _ _=>True) (fun o=>o= .inl ())
  (by
   intro k x s hx _;have hk:=QF hx;obtain ⟨w0,w1⟩:=hw x (List.mem_of_getElem? hx);refine .inl ⟨(),?_,trivial⟩;unfold Zz
   rw[decide_eq_true (show (k:Int)<(l.length:Nat) by omega),cond_true,QA,hx,Option.bind_some,decide_eq_false (show ¬x<0 by omega),cond_false,decide_eq_false (show ¬1125899906842624<x by omega),Option.bind_some,cond_false,Yo (by omega)])
  (by
   intro s _;refine ⟨_,?_,rfl⟩;unfold Zz
   rw[decide_eq_false (by omega),cond_false]) (((l.length:Nat):Int).toNat+1) () trivial (by omega)
 unfold Jg
 rw[decide_eq_false (show ¬((l.length:Nat):Int)<1 by omega),cond_false,decide_eq_false (show ¬512<((l.length:Nat):Int) by omega),Option.bind_some,cond_false,e,Option.bind_some]
 simp only[Yl]
 rw[Qd4 hn hw hs]
 rfl
end Go.Proofs.Ytfdjjdhnfaklbaa
