/- TopLeaseVend: for every input the given law returns true, and its arguments read as before. No condition. -/
import Derived.Test.Ytfdjjdhnfaklbaac2x1
import Derived.Test.Ytfdjjdhnfaklbaac2x4
import Derived.Test.Ytfdjjdhnfaklbaac2x5
import Derived.Test.Ytfdjjdhnfaklbaac2x3
import Derived.Test.Ytfdjjdhnfaklbaac2x2
namespace Go.Proofs.Ytfdjjdhnfaklbaa
open Go.RowKit
set_option linter.unusedSimpArgs false
set_option linter.unusedVariables false
set_option maxHeartbeats 2000000
set_option maxRecDepth 4000
attribute [local irreducible] WP Q5 Jz Fn AN Upd vcR vcO WT YA Yx Jg JN WI Wn Y7 WG QP KS
variable {μ:Gh} {L:List Seg} {R:Value→Gh→List Seg→Prop}
theorem JA {F:Nat} {x1:Qb} {sales1:(List Qg)} {skew1:Int} {length1:Int} {l1:(List Qt)} {A1:Option Addr} {c1:Nat} {A2:Option Addr} {c2:Nat} {res1:Bool}
  (hl1:sales1.length≤c1∧c1≤maxLen) (hA1:Rds Y6 μ L A1 sales1) (hl2:l1.length≤c2∧c2≤maxLen) (hA2:Rds Jt μ L A2 l1) (h:Q7 F x1 sales1 skew1 length1 l1=some res1)
  (hR: ∀(μ':Gh) ,μ.le μ'→R (.bool res1) μ' (L)) :
  Fn Try.prog 3 [.agg #[.string x1.Code,.int .i64 x1.Producer,.int .i64 x1.Deposit,.int .i64 x1.Material,.int .i64 x1.Grams],.slice A1 sales1.length c1,.int .i64 skew1,.int .i64 length1,.slice A2 l1.length c2] μ (L) R:=by
 unfold Q7 at h;refine FnS Try.func3 (by kernel_rfl) E Try.ntmps3 E E ?_;refine G0 2 E (Al E fun g1=>Q1 5 [0] E (So E (Jf (z:=[.string ⟨#[]⟩,.int .i64 0,.int .i64 0,.int .i64 0,.int .i64 0]) E E E E E E E (Qv (cells':=[.string x1.Code,.int .i64 x1.Producer,.int .i64 x1.Deposit,.int .i64 x1.Material,.int .i64 x1.Grams]) E E E E (Zi (fun g2=>Q0 4 E ?_))))));refine Cut h (fun f l o_ f_ μ_ l_=> ∃(v1:Bool),v1=o_∧Qi ((72,.bool v1)::Qo [1,2,3,4,5,11] f) f_∧Qd (YJ [some 1,some 0] 2 l) l_) ?_ ?_
 ·intro _ h2894 h;refine G0 2 E (Cl E ?_);obtain ⟨_,hx1,h2894⟩:=Qj h2894;refine J5 (VH (c:=1) E E) (Own.rds (Own.lit (r:=QG) (e:=23) (g:=g2) (xs:=[x1]) (cs:=[.string x1.Code,.int .i64 x1.Producer,.int .i64 x1.Deposit,.int .i64 x1.Material,.int .i64 x1.Grams]) (css:=[[.string x1.Code,.int .i64 x1.Producer,.int .i64 x1.Deposit,.int .i64 x1.Material,.int .i64 x1.Grams]]) E (QY.cons (E) (QY.nil)) E E) 0 E) hx1 ((Q0 2 E ?_));refine Br h2894 41 E E (fun hc1 h2894=> ?_) (fun hc1 h2894=> ?_)
  ·refine G2 32 [41,46,52,56,60,64,68] [] [] E ?_;cases h2894;exact Ce E ⟨_,rfl,fE E,sE [some 1,some 0] 2 E⟩
  refine G2 5 [] [41] [] E ?_;refine Br h2894 46 E E (fun hc2 h2894=> ?_) (fun hc2 h2894=> ?_)
  ·refine G2 27 [46,52,56,60,64,68] [] [] E ?_;cases h2894;exact Ce E ⟨_,rfl,fE E,sE [some 1,some 0] 2 E⟩
  refine G2 2 [] [46] [] E (Cl E ?_);obtain ⟨_,hx2,h2894⟩:=Qj h2894;refine J7 (VH (c:=1) E E) (Own.rds (Own.lit (r:=QG) (e:=23) (g:=g2) (xs:=[x1]) (cs:=[.string x1.Code,.int .i64 x1.Producer,.int .i64 x1.Deposit,.int .i64 x1.Material,.int .i64 x1.Grams]) (css:=[[.string x1.Code,.int .i64 x1.Producer,.int .i64 x1.Deposit,.int .i64 x1.Material,.int .i64 x1.Grams]]) E (QY.cons (E) (QY.nil)) E E) 0 E) hl1 (Rds.push (Rds.push hA1)) hx2 ((Q2 3 [] [46] [] E ?_));refine Br h2894 52 E E (fun hc3 h2894=> ?_) (fun hc3 h2894=> ?_)
  ·refine G2 21 [52,56,60,64,68] [] [] E ?_;cases h2894;exact Ce E ⟨_,rfl,fE E,sE [some 1,some 0] 2 E⟩
  refine G2 4 [] [52] [] E ?_;refine Br h2894 56 E E (fun hc4 h2894=> ?_) (fun hc4 h2894=> ?_)
  ·refine G2 17 [56,60,64,68] [] [] E ?_;cases h2894;exact Ce E ⟨_,rfl,fE E,sE [some 1,some 0] 2 E⟩
  refine G2 4 [] [56] [] E ?_;refine Br h2894 60 E E (fun hc5 h2894=> ?_) (fun hc5 h2894=> ?_)
  ·refine G2 13 [60,64,68] [] [] E ?_;cases h2894;exact Ce E ⟨_,rfl,fE E,sE [some 1,some 0] 2 E⟩
  refine G2 4 [] [60] [] E ?_;refine Br h2894 64 E E (fun hc6 h2894=> ?_) (fun hc6 h2894=> ?_)
  ·refine G2 9 [64,68] [] [] E ?_;cases h2894;exact Ce E ⟨_,rfl,fE E,sE [some 1,some 0] 2 E⟩
  refine G2 4 [] [64] [] E ?_;refine Br h2894 68 E E (fun hc7 h2894=> ?_) (fun hc7 h2894=> ?_)
  ·refine G2 5 [68] [] [] E ?_;cases h2894;exact Ce E ⟨_,rfl,fE E,sE [some 1,some 0] 2 E⟩
  refine G2 5 [] [68] [] E ?_;cases h2894;exact Ce E ⟨_,rfl,fE E,sE [some 1,some 0] 2 E⟩
 rintro _ _ _ _ h hm2894 ⟨v1,rfl,hF2894,hS2894⟩;replace hA1:=hA1.mono hm2894;replace hA2:=hA2.mono hm2894;refine Atn 2 hF2894 hS2894 E E ?_;refine Br h 72 E E (fun hc8 h=> ?_) (fun hc8 h=> ?_)
 ·refine G2 3 [72] [] [] E (Cl E ?_);obtain ⟨_,hx3,h⟩:=Qj h;refine ZW  hx3 (fun _ hm_1=> ?_);replace hA1:=hA1.mono hm_1;replace hA2:=hA2.mono hm_1;refine Q0 2 E ?_;cases h;exact Rt [] E E (Ug [] 2 (hR _ (hm2894.trans hm_1)))
 refine G2 6 [] [72] [] E (Cl E ?_);obtain ⟨⟨_,_⟩,hx4,h⟩:=Qj h;replace h:=Ql h;refine Vu hl1 (Rds.push (Rds.push hA1)) hx4 (fun _ _ hP1=>Q0 10 E (Cl E ?_));obtain ⟨⟨_,_⟩,hx5,h⟩:=Qj h;replace h:=Ql h;refine WV (VH (c:=1) E E) (Own.rds (Own.lit (r:=QG) (e:=23) (g:=g2) (xs:=[x1]) (cs:=[.string x1.Code,.int .i64 x1.Producer,.int .i64 x1.Deposit,.int .i64 x1.Material,.int .i64 x1.Grams]) (css:=[[.string x1.Code,.int .i64 x1.Producer,.int .i64 x1.Deposit,.int .i64 x1.Material,.int .i64 x1.Grams]]) E (QY.cons (E) (QY.nil)) E E) 2 E) hx5 (fun _ _ hP2=>Q0 10 E (Cl E ?_));obtain ⟨⟨_,_⟩,hx6,h⟩:=Qj h;replace h:=Ql h;refine WV (VH (c:=1) E E) (Own.rds (Own.lit (r:=QG) (e:=23) (g:=g2) (xs:=[x1]) (cs:=[.string x1.Code,.int .i64 x1.Producer,.int .i64 x1.Deposit,.int .i64 x1.Material,.int .i64 x1.Grams]) (css:=[[.string x1.Code,.int .i64 x1.Producer,.int .i64 x1.Deposit,.int .i64 x1.Material,.int .i64 x1.Grams]]) E (QY.cons (E) (QY.nil)) E E) 3 E) hx6 (fun _ _ hP3=> ?_);obtain ⟨q1,hm_2,h⟩:=Qj h;have hP4:=Wd.get hP3 hm_2;obtain ⟨g3,A3,c3,ch1,g4,es1,cn1,so4,A4,c4,ch2,hv1,rfl,hO1,hM1,hO2⟩:=hP4;subst hv1;refine Q0 8 E (In Qc.fl 0 9 E E E ?_);obtain ⟨q2,hm_3,h⟩:=Qj h;have hP5:=Wd.get hP2 hm_3;obtain ⟨g5,A5,c5,ch3,g6,es2,cn2,so5,A6,c6,ch4,hv2,rfl,hO3,hM2,hO4⟩:=hP5;subst hv2;refine In Qc.fl 5 13 E E E ?_;obtain ⟨q3,hm_4,h⟩:=Qj h;have hP6:=Wd.get hP1 hm_4;obtain ⟨g7,A7,c7,ch5,A8,c8,ch6,A9,c9,ch7,g8,es3,cn3,hv3,rfl,hO5,hO6,hO7,hM3⟩:=hP6;subst hv3;refine In Qf.fl 10 17 E E E ?_;refine Cut h (fun f l o_ f_ μ_ l_=> ∃(v3:Bool),v3=o_∧Qi ((113,.bool v3)::Qo [1,2,4,5,12,14,16] f) f_∧Qd (YJ [some 15,some 10,some 11,some 12,some 13,some 14,some 5,some 6,some 7,some 9,some 8,some 0,some 1,some 2,some 4,some 3] 17 l) l_) ?_ ?_
 ·intro _ h2935 h;refine G2 16 [] [94,98,102] [] E ?_;refine Br h2935 106 E E (fun hc9 h2935=> ?_) (fun hc9 h2935=> ?_)
  ·refine G2 8 [106,110] [] [] E ?_;cases h2935;exact Ce E ⟨_,rfl,fE E,sE [some 15,some 10,some 11,some 12,some 13,some 14,some 5,some 6,some 7,some 9,some 8,some 0,some 1,some 2,some 4,some 3] 17 E⟩
  refine G2 4 [] [106] [] E ?_;refine Br h2935 110 E E (fun hc10 h2935=> ?_) (fun hc10 h2935=> ?_)
  ·refine G2 4 [110] [] [] E ?_;cases h2935;exact Ce E ⟨_,rfl,fE E,sE [some 15,some 10,some 11,some 12,some 13,some 14,some 5,some 6,some 7,some 9,some 8,some 0,some 1,some 2,some 4,some 3] 17 E⟩
  refine G2 4 [] [110] [] E ?_;cases h2935;exact Ce E ⟨_,rfl,fE E,sE [some 15,some 10,some 11,some 12,some 13,some 14,some 5,some 6,some 7,some 9,some 8,some 0,some 1,some 2,some 4,some 3] 17 E⟩
 rintro _ _ μ2935 _ h hm2935 ⟨v3,rfl,hF2935,hS2935⟩;replace hA1:=hA1.mono hm2935;replace hA2:=hA2.mono hm2935;replace hO1:=hO1.mono hm2935;replace hM1:=hM1.mono hm2935;replace hO2:=hO2.mono hm2935;replace hO3:=hO3.mono hm2935;replace hM2:=hM2.mono hm2935;replace hO4:=hO4.mono hm2935;replace hO5:=hO5.mono hm2935;replace hO6:=hO6.mono hm2935;replace hO7:=hO7.mono hm2935;refine Atn 16 hF2935 hS2935 E E ?_;refine Br h 113 E E (fun hc11 h=> ?_) (fun hc11 h=> ?_)
 ·refine G2 5 [113] [] [] E (Rt [] E E (UgK (L2:=(L)) [] 16 (by kernel_rfl) ?_));cases h;exact ((hR _ (hm2894.trans hm2935)))
 have hP7:Qf μ2935 (.pointer (some ⟨g7,0,none⟩)) q3 _:=⟨g7,A7,c7,ch5,A8,c8,ch6,A9,c9,ch7,g8,es3,cn3,rfl,rfl,hO5,hO6,hO7,hM3⟩
 refine G2 17 [] [113] [] E (Gp (L2:=(((g7,Obj.cells #[.slice A7 q3.history.leases.length c7,.slice A8 q3.history.returned.length c8,.slice A9 q3.sales.length c9,.int .i64 q3.length,.int .i64 q3.now,.map (some g8)] 83 (0,0))::(ch5++(ch6++(ch7++((g8,Obj.map es3 cn3)::[])))))::[(g1,.cells #[.string x1.Code,.int .i64 x1.Producer,.int .i64 x1.Deposit,.int .i64 x1.Material,.int .i64 x1.Grams] 23 (0,0))]::[(g5,.cells #[.int .i64 q2.id,.int .i64 q2.skew,.slice A5 q2.products.length c5,.map (some g6),.slice A6 q2.log.length c6,.int .i64 q2.total] 88 (0,0))]::ch3::[(g6,.map es2 cn2)]::so5::ch4::[(g3,.cells #[.int .i64 q1.id,.int .i64 q1.skew,.slice A3 q1.products.length c3,.map (some g4),.slice A4 q1.log.length c4,.int .i64 q1.total] 88 (0,0))]::ch1::[(g4,.map es1 cn1)]::so4::ch2::L)) [[1,2,3,4,5],[0],[6],[7],[8],[9],[10],[11],[12],[13],[14],[15]] 16 12 E (by kernel_rfl) ?_);have hP8:Qc μ2935 (.pointer (some ⟨g5,0,none⟩)) q2 _:=⟨g5,A5,c5,ch3,g6,es2,cn2,so5,A6,c6,ch4,rfl,rfl,hO3,hM2,hO4⟩
 refine Gp (L2:=(((g5,Obj.cells #[.int .i64 q2.id,.int .i64 q2.skew,.slice A5 q2.products.length c5,.map (some g6),.slice A6 q2.log.length c6,.int .i64 q2.total] 88 (0,0))::(ch3++((g6,Obj.map es2 cn2)::(ch4++so5))))::((g7,Obj.cells #[.slice A7 q3.history.leases.length c7,.slice A8 q3.history.returned.length c8,.slice A9 q3.sales.length c9,.int .i64 q3.length,.int .i64 q3.now,.map (some g8)] 83 (0,0))::(ch5++(ch6++(ch7++((g8,Obj.map es3 cn3)::[])))))::[(g1,.cells #[.string x1.Code,.int .i64 x1.Producer,.int .i64 x1.Deposit,.int .i64 x1.Material,.int .i64 x1.Grams] 23 (0,0))]::[(g3,.cells #[.int .i64 q1.id,.int .i64 q1.skew,.slice A3 q1.products.length c3,.map (some g4),.slice A4 q1.log.length c4,.int .i64 q1.total] 88 (0,0))]::ch1::[(g4,.map es1 cn1)]::so4::ch2::L)) [[2,3,4,6,5],[0],[1],[7],[8],[9],[10],[11]] 12 8 E (by kernel_rfl) ?_;have hP9:Qc μ2935 (.pointer (some ⟨g3,0,none⟩)) q1 _:=⟨g3,A3,c3,ch1,g4,es1,cn1,so4,A4,c4,ch2,rfl,rfl,hO1,hM1,hO2⟩
 refine Gp (L2:=(((g3,Obj.cells #[.int .i64 q1.id,.int .i64 q1.skew,.slice A3 q1.products.length c3,.map (some g4),.slice A4 q1.log.length c4,.int .i64 q1.total] 88 (0,0))::(ch1++((g4,Obj.map es1 cn1)::(ch2++so4))))::((g5,Obj.cells #[.int .i64 q2.id,.int .i64 q2.skew,.slice A5 q2.products.length c5,.map (some g6),.slice A6 q2.log.length c6,.int .i64 q2.total] 88 (0,0))::(ch3++((g6,Obj.map es2 cn2)::(ch4++so5))))::((g7,Obj.cells #[.slice A7 q3.history.leases.length c7,.slice A8 q3.history.returned.length c8,.slice A9 q3.sales.length c9,.int .i64 q3.length,.int .i64 q3.now,.map (some g8)] 83 (0,0))::(ch5++(ch6++(ch7++((g8,Obj.map es3 cn3)::[])))))::[(g1,.cells #[.string x1.Code,.int .i64 x1.Producer,.int .i64 x1.Deposit,.int .i64 x1.Material,.int .i64 x1.Grams] 23 (0,0))]::L)) [[3,4,5,7,6],[0],[1],[2]] 8 4 E (by kernel_rfl) ?_;refine Cut h (fun f l o_ f_ μ_ l_=> ∃(q14:Qa) (q15:Qa) (paid3:(List Int)) (so26:Seg) (so27:Seg) (A18:Option Addr) (c18:Nat) (ch14:Seg),(.inl (q14,q15,paid3))=o_∧Qi ((19,.slice A18 paid3.length c18)::Qo [5,14,16] f) f_∧Qd ([(g1,.cells #[.string x1.Code,.int .i64 x1.Producer,.int .i64 x1.Deposit,.int .i64 x1.Material,.int .i64 x1.Grams] 23 (0,0))]::so26::so27::ch14::YJ [] 4 l) l_∧Qc μ_ (.pointer (some ⟨g5,0,none⟩)) q14 so26∧Qc μ_ (.pointer (some ⟨g3,0,none⟩)) q15 so27∧Own Zd 3 μ_ (.slice A18 paid3.length c18) paid3 ch14) ?_ ?_
 ·intro _ h2957 h;refine Lp h2957 (fun f l (j_:Qe×Qa×Qa×Int×(List Int)×Int) f_ μ_ l_=>VJ j_ fun q4 j_=>VJ j_ fun q5 j_=>VJ j_ fun q6 j_=>VJ j_ fun now1 j_=>VJ j_ fun paid1 v4=> ∃(so6:Seg) (so7:Seg) (so8:Seg) (A10:Option Addr) (c10:Nat) (ch8:Seg),Qi ((18,.int .i64 now1)::(19,.slice A10 paid1.length c10)::(116,.int .i64 v4)::Qo [1,2,5,12,14,16,114,115] f) f_∧Qd ([(g1,.cells #[.string x1.Code,.int .i64 x1.Producer,.int .i64 x1.Deposit,.int .i64 x1.Material,.int .i64 x1.Grams] 23 (0,0))]::so6::so7::so8::ch8::YJ [] 4 l) l_∧Qf μ_ (.pointer (some ⟨g7,0,none⟩)) q4 so6∧Qc μ_ (.pointer (some ⟨g5,0,none⟩)) q5 so7∧Qc μ_ (.pointer (some ⟨g3,0,none⟩)) q6 so8∧Own Zd 3 μ_ (.slice A10 paid1.length c10) paid1 ch8) ⟨((g7,Obj.cells #[.slice A7 q3.history.leases.length c7,.slice A8 q3.history.returned.length c8,.slice A9 q3.sales.length c9,.int .i64 q3.length,.int .i64 q3.now,.map (some g8)] 83 (0,0))::(ch5++(ch6++(ch7++((g8,Obj.map es3 cn3)::[]))))),((g5,Obj.cells #[.int .i64 q2.id,.int .i64 q2.skew,.slice A5 q2.products.length c5,.map (some g6),.slice A6 q2.log.length c6,.int .i64 q2.total] 88 (0,0))::(ch3++((g6,Obj.map es2 cn2)::(ch4++so5)))),((g3,Obj.cells #[.int .i64 q1.id,.int .i64 q1.skew,.slice A3 q1.products.length c3,.map (some g4),.slice A4 q1.log.length c4,.int .i64 q1.total] 88 (0,0))::(ch1++((g4,Obj.map es1 cn1)::(ch2++so4)))),none,0,[],fE E,sE [some 3,some 2,some 1,some 0,none] 4 E,(hP7),(hP8),(hP9),(Own.nil)⟩ ?_;rintro ⟨q4,q5,q6,now1,paid1,v4⟩ _ _ _ _ hm3127 ⟨so6,so7,so8,A10,c10,ch8,hF3127,hS3127,hP10,hP11,hP12,hO8⟩ hb3127 hq3127;unfold Qr at hb3127;replace hb3127:=Ql hb3127;replace hb3127:=Ql hb3127;replace hb3127:=Ql hb3127;replace hb3127:=Ql hb3127;replace hb3127:=Ql hb3127;replace hA1:=hA1.mono hm3127;replace hA2:=hA2.mono hm3127;refine Atn 5 hF3127 hS3127 E E (G0 5 E ?_);refine Br hb3127 117 E E (fun hc12 hb3127=> ?_) (fun hc12 hb3127=> ?_)
  ·refine G2 3 [117] [] [] E ?_;refine Cut hb3127 (fun f l o_ f_ μ_ l_=> ∃(q11:Qe) (q12:Qa) (q13:Qa) (now8:Int) (paid2:(List Int)) (so23:Seg) (so24:Seg) (so25:Seg) (A17:Option Addr) (c17:Nat) (ch13:Seg),(.inl (q11,q12,q13,now8,paid2))=o_∧Qi ((18,.int .i64 now8)::(19,.slice A17 paid2.length c17)::Qo [1,2,5,12,14,16,114,115,116] f) f_∧Qd ([(g1,.cells #[.string x1.Code,.int .i64 x1.Producer,.int .i64 x1.Deposit,.int .i64 x1.Material,.int .i64 x1.Grams] 23 (0,0))]::so23::so24::so25::ch13::YJ [] 5 l) l_∧Qf μ_ (.pointer (some ⟨g7,0,none⟩)) q11 so23∧Qc μ_ (.pointer (some ⟨g5,0,none⟩)) q12 so24∧Qc μ_ (.pointer (some ⟨g3,0,none⟩)) q13 so25∧Own Zd 3 μ_ (.slice A17 paid2.length c17) paid2 ch13) ?_ ?_
   ·intro _ h3139 hb3127;refine G0 3 E (Ix h3139 hA2 E E fun x2 _ _ _ hr1 hc13 _ h3139=> ?_);obtain rfl:=hr1;refine Q3 1 [] [] [64] (Z1 (hc13.push.push.push.push.push)) E (Al E fun g9=>Q1 25 [0,0,0] E ?_);refine Br h3139 129 E E (fun hc14 h3139=> ?_) (fun hc14 h3139=> ?_)
    ·refine G2 31 [129] [] [0,0,0] E ?_;refine Br h3139 157 E E (fun hc15 h3139=> ?_) (fun hc15 h3139=> ?_)
     ·refine G2 7 [157] [] [] E (Cl E (Fn.gp (L2:=(so6::[(g9,.cells #[.int .i64 x2.Kind,.int .i64 x2.Machine,.int .i64 x2.Serial,.int .i64 x2.Wait,.int .i64 x2.Wrong] 39 (0,0))]::[(g1,.cells #[.string x1.Code,.int .i64 x1.Producer,.int .i64 x1.Deposit,.int .i64 x1.Material,.int .i64 x1.Grams] 23 (0,0))]::so7::so8::ch8::L)) [[2],[0],[1],[3],[4],[5]] 6 6 (by kernel_rfl) ?_));obtain ⟨⟨r10,_,_⟩,hx8,h3139⟩:=Qj h3139;replace h3139:=Ql h3139;replace h3139:=Ql h3139;refine Zl hP10 hx8 (fun _ A11 c11 so9 hm_5 hl3 hA4 hP13=> ?_);replace hA1:=hA1.mono hm_5;replace hP10:=hP10.mono hm_5;replace hP11:=hP11.mono hm_5;replace hP12:=hP12.mono hm_5;replace hO8:=hO8.mono hm_5;refine Q0 3 E (Al E fun g10=>Q1 4 [0] E (Gp (L2:=([(g10,.cells #[.int .i64 r10.Block,.int .i64 r10.Machine,.int .i64 r10.Epoch,.int .i64 r10.When.From,.int .i64 r10.When.To,.slice A11 r10.Open.length c11] 43 (0,0))]::so9::[(g1,.cells #[.string x1.Code,.int .i64 x1.Producer,.int .i64 x1.Deposit,.int .i64 x1.Material,.int .i64 x1.Grams] 23 (0,0))]::so7::so8::ch8::L)) [[0],[1],[3],[4],[5],[6]] 7 6 E (by kernel_rfl) ?_));refine Cut h3139 (fun f l o_ f_ μ_ l_=> ∃(q7:Qa) (now2:Int) (v7:Bool) (so11:Seg),(q7,now2,v7)=o_∧Qi ((18,.int .i64 now2)::(174,.bool v7)::Qo [1,2,5,12,14,16,19,114,115,116] f) f_∧Qd ([(g1,.cells #[.string x1.Code,.int .i64 x1.Producer,.int .i64 x1.Deposit,.int .i64 x1.Material,.int .i64 x1.Grams] 23 (0,0))]::so9::so7::so11::YJ [] 5 l) l_∧Qc μ_ (.pointer (some ⟨g3,0,none⟩)) q7 so11) ?_ ?_
      ·intro _ h3162 h3139;refine G0 4 E ?_;refine Br h3162 169 E E (fun hc16 h3162=> ?_) (fun hc16 h3162=> ?_)
       ·refine G2 2 [169] [] [0] E (Cl E (Fn.gp (L2:=(so8::[(g10,.cells #[.int .i64 r10.Block,.int .i64 r10.Machine,.int .i64 r10.Epoch,.int .i64 r10.When.From,.int .i64 r10.When.To,.slice A11 r10.Open.length c11] 43 (0,0))]::so9::[(g1,.cells #[.string x1.Code,.int .i64 x1.Producer,.int .i64 x1.Deposit,.int .i64 x1.Material,.int .i64 x1.Grams] 23 (0,0))]::so7::ch8::L)) [[4],[0],[1],[2],[3],[5]] 6 6 (by kernel_rfl) ?_));obtain ⟨⟨_,_⟩,hx9,h3162⟩:=Qj h3162;replace h3162:=Ql h3162;refine Zz hP12 hl3 hA4 hx9 (fun _ so10 hm_6 hP14=> ?_);replace hA1:=hA1.mono hm_6;replace hP10:=hP10.mono hm_6;replace hP11:=hP11.mono hm_6;replace hP12:=hP12.mono hm_6;replace hO8:=hO8.mono hm_6;replace hP13:=hP13.mono hm_6;refine Q2 3 [169] [] [] E ?_;cases h3162;exact Ce E ⟨_,_,_,so10,rfl,fE E,sE [some 3,some 2,some 4,some 0,some 5] 6 E,(hP14)⟩
       refine G2 6 [] [169] [] E ?_;cases h3162;exact Ce E ⟨_,_,_,so8,rfl,fE E,sE [some 2,some 1,some 3,some 4,some 5] 6 E,(hP12)⟩
      rintro _ _ _ _ h3139 hm3162 ⟨q7,now2,v7,so11,rfl,hF3162,hS3162,hP15⟩;replace h3139:=Ql h3139;replace h3139:=Ql h3139;replace hA1:=hA1.mono hm3162;replace hP10:=hP10.mono hm3162;replace hP11:=hP11.mono hm3162;replace hP12:=hP12.mono hm3162;replace hO8:=hO8.mono hm3162;replace hP13:=hP13.mono hm3162;refine Atn 5 hF3162 hS3162 E E ?_;refine Br h3139 174 E E (fun hc17 h3139=> ?_) (fun hc17 h3139=> ?_)
      ·refine G2 5 [174] [] [] E ?_;cases h3139;replace hb3127:=QD hb3127;cases hb3127;have hq_:=hq3127 _ E;subst hq_;replace h:=QD h;cases h;exact Rt [] E E (Ug [] 5 (hR _ (hm2894.trans (hm2935.trans (hm3127.trans (hm_5.trans hm3162))))))
      refine G2 4 [] [174] [] E ?_;cases h3139;exact Ce E ⟨_,_,_,_,_,so9,so7,so11,A10,c10,ch8,rfl,fE E,sE [some 0,some 1,some 2,some 3,some 4] 5 E,(hP13),(hP11),(hP15),(hO8)⟩
     refine G2 6 [] [157] [] E ?_;refine Br h3139 175 E E (fun hc18 h3139=> ?_) (fun hc18 h3139=> ?_)
     ·refine G2 23 [175] [] [0,1] E (Cl E (Fn.gp (L2:=(so8::[(g9,.cells #[.int .i64 x2.Kind,.int .i64 x2.Machine,.int .i64 x2.Serial,.int .i64 x2.Wait,.int .i64 x2.Wrong] 39 (0,0))]::[(g1,.cells #[.string x1.Code,.int .i64 x1.Producer,.int .i64 x1.Deposit,.int .i64 x1.Material,.int .i64 x1.Grams] 23 (0,0))]::so6::so7::ch8::L)) [[4],[0],[1],[2],[3],[5]] 6 6 (by kernel_rfl) ?_));obtain ⟨⟨r15,_,_⟩,hx10,h3139⟩:=Qj h3139;replace h3139:=Ql h3139;replace h3139:=Ql h3139;refine Zh (x1:=(Qw.mk (max 0 (min x2.Serial 1023)) 0 x1.Grams (max 0 (w64 ((w64 (now1+(max 0 (min x2.Wait 10000))))+(max (w64 (0-skew1)) (min x2.Wrong skew1))))))) hP12 hx10 (fun so12 hP16=>Q0 3 E (Al E fun g11=>Q1 9 [0] E ?_));refine Br h3139 198 E E (fun hc19 h3139=> ?_) (fun hc19 h3139=> ?_)
      ·refine G2 5 [198] [] [] E ?_;cases h3139;replace hb3127:=QD hb3127;cases hb3127;have hq_:=hq3127 _ E;subst hq_;replace h:=QD h;cases h;exact Rt [] E E (Ug [] 7 (hR _ (hm2894.trans (hm2935.trans hm3127))))
      refine G2 8 [] [198] [0] E ?_;refine Br h3139 201 E E (fun hc20 h3139=> ?_) (fun hc20 h3139=> ?_)
      ·refine G2 5 [201] [] [] E (Cl E ?_);obtain ⟨⟨_,_⟩,hx11,h3139⟩:=Qj h3139;replace h3139:=Ql h3139;refine Z8 hl1 (Rds.push (Rds.push (Rds.push (Rds.push (Rds.push (Rds.push (Rds.push hA1))))))) hx11 ((Q0 8 E (Gp (L2:=([(g11,.cells #[.int .i64 r15.Kind,.int .i64 r15.Amount,.int .i64 r15.Err] 48 (0,0))]::so12::[(g1,.cells #[.string x1.Code,.int .i64 x1.Producer,.int .i64 x1.Deposit,.int .i64 x1.Material,.int .i64 x1.Grams] 23 (0,0))]::so6::so7::ch8::L)) [[0],[1],[3],[4],[5],[6]] 7 6 E (by kernel_rfl) ?_)));refine Cut h3139 (fun f l o_ f_ μ_ l_=> ∃(now3:Int) (v8:Bool),(now3,v8)=o_∧Qi ((18,.int .i64 now3)::(222,.bool v8)::Qo [1,2,5,12,14,16,19,24,114,115,116] f) f_∧Qd (YJ [some 2,some 3,some 4,some 1,some 5] 6 l) l_) ?_ ?_
       ·intro _ h3190 h3139;refine G0 3 E (Cl E ?_);obtain ⟨_,hx12,h3190⟩:=Qj h3190;refine Jh (Own.lenOk hO8) (Own.rds hO8 5 E) hx12 ((Q0 2 E ?_));refine Br h3190 212 E E (fun hc21 h3190=> ?_) (fun hc21 h3190=> ?_)
        ·refine G2 11 [212,216] [] [] E ?_;cases h3190;exact Ce E ⟨_,_,rfl,fE E,sE [some 2,some 3,some 4,some 1,some 5] 6 E⟩
        refine G2 4 [] [212] [] E ?_;refine Br h3190 216 E E (fun hc22 h3190=> ?_) (fun hc22 h3190=> ?_)
        ·refine G2 7 [216] [] [] E ?_;cases h3190;exact Ce E ⟨_,_,rfl,fE E,sE [some 2,some 3,some 4,some 1,some 5] 6 E⟩
        refine G2 7 [] [216] [0,2] E ?_;cases h3190;exact Ce E ⟨_,_,rfl,fE E,sE [some 2,some 3,some 4,some 1,some 5] 6 E⟩
       rintro _ _ _ _ h3139 hm3190 ⟨now3,v8,rfl,hF3190,hS3190⟩;replace h3139:=Ql h3139;replace hA1:=hA1.mono hm3190;replace hP10:=hP10.mono hm3190;replace hP11:=hP11.mono hm3190;replace hP12:=hP12.mono hm3190;replace hO8:=hO8.mono hm3190;replace hP16:=hP16.mono hm3190;refine Atn 5 hF3190 hS3190 E E ?_;refine Br h3139 222 E E (fun hc23 h3139=> ?_) (fun hc23 h3139=> ?_)
       ·refine G2 5 [222] [] [] E ?_;cases h3139;replace hb3127:=QD hb3127;cases hb3127;have hq_:=hq3127 _ E;subst hq_;replace h:=QD h;cases h;exact Rt [] E E (Ug [] 5 (hR _ (hm2894.trans (hm2935.trans (hm3127.trans hm3190)))))
       refine G2 5 [] [222] [] E (So E (Jf (z:=[.int .i64 0]) E E E E E E E (Qv (cells':=[.int .i64 (max 0 (min x2.Serial 1023))]) E E E E (Zi (fun g12=>Q0 0 E (So E (YL E ?_)))))));obtain ⟨_,hz1,h3139⟩:=Qj h3139;refine Jc (r:=Zd) QB E E E E (by decide) E E 5 E hO8 E (Own.rds (Own.lit (r:=Zd) (e:=3) (g:=g12) (xs:=[max 0 (min x2.Serial 1023)]) (cs:=[.int .i64 (max 0 (min x2.Serial 1023))]) (css:=[[.int .i64 (max 0 (min x2.Serial 1023))]]) E (QY.cons (E) (QY.nil)) E E) 0 E) hz1 fun A12 c12 ch9 hO9=>Q0 4 E ?_;cases h3139;exact Ce E ⟨_,_,_,_,_,so6,so7,so12,A12,c12,ch9,rfl,fE E,sE [some 1,some 2,some 3,some 4,some 5] 6 E,(hP10),(hP11),(hP16),(hO9)⟩
      refine G2 4 [] [201] [] E ?_;cases h3139;exact Ce E ⟨_,_,_,_,_,so6,so7,so12,A10,c10,ch8,rfl,fE E,sE [some 3,some 4,some 5,some 1,some 6] 7 E,(hP10),(hP11),(hP16),(hO8)⟩
     refine G2 5 [] [175] [] E (Cl E (Fn.gp (L2:=(so8::[(g9,.cells #[.int .i64 x2.Kind,.int .i64 x2.Machine,.int .i64 x2.Serial,.int .i64 x2.Wait,.int .i64 x2.Wrong] 39 (0,0))]::[(g1,.cells #[.string x1.Code,.int .i64 x1.Producer,.int .i64 x1.Deposit,.int .i64 x1.Material,.int .i64 x1.Grams] 23 (0,0))]::so6::so7::ch8::L)) [[4],[0],[1],[2],[3],[5]] 6 6 (by kernel_rfl) ?_));obtain ⟨⟨_,_,_,_⟩,hx13,h3139⟩:=Qj h3139;replace h3139:=Ql h3139;replace h3139:=Ql h3139;replace h3139:=Ql h3139;refine Jx hP12 hx13 (fun _ _ ch10 so13 hO10 hP17=>Q0 9 E (Gp (L2:=(ch10::so13::[(g1,.cells #[.string x1.Code,.int .i64 x1.Producer,.int .i64 x1.Deposit,.int .i64 x1.Material,.int .i64 x1.Grams] 23 (0,0))]::so6::so7::ch8::L)) [[0],[1],[3],[4],[5],[6]] 7 6 E (by kernel_rfl) ?_));refine Cut h3139 (fun f l o_ f_ μ_ l_=> ∃(q8:Qe) (now4:Int) (v9:Bool) (so15:Seg),(q8,now4,v9)=o_∧Qi ((18,.int .i64 now4)::(156,.bool v9)::Qo [1,2,5,12,14,16,19,114,115,116] f) f_∧Qd ([(g1,.cells #[.string x1.Code,.int .i64 x1.Producer,.int .i64 x1.Deposit,.int .i64 x1.Material,.int .i64 x1.Grams] 23 (0,0))]::so15::YJ [some 4,some 1,some 5] 6 l) l_∧Qf μ_ (.pointer (some ⟨g7,0,none⟩)) q8 so15) ?_ ?_
     ·intro _ h3209 h3139;refine G0 4 E ?_;refine Br h3209 148 E E (fun hc24 h3209=> ?_) (fun hc24 h3209=> ?_)
      ·refine G2 5 [148] [] [] E (Cl E (Fn.gp (L2:=(so6::ch10::so13::[(g1,.cells #[.string x1.Code,.int .i64 x1.Producer,.int .i64 x1.Deposit,.int .i64 x1.Material,.int .i64 x1.Grams] 23 (0,0))]::so7::ch8::L)) [[3],[0],[1],[2],[4],[5]] 6 6 (by kernel_rfl) ?_));obtain ⟨⟨_,_⟩,hx14,h3209⟩:=Qj h3209;replace h3209:=Ql h3209;refine Z3 hP10 (Own.lenOk hO10) (Own.rds hO10 0 E) hx14 (fun so14 hP18=>Q2 3 [148] [] [] E ?_);cases h3209;exact Ce E ⟨_,_,_,so14,rfl,fE E,sE [some 3,some 0,some 4,some 2,some 5] 6 E,(hP18)⟩
      refine G2 9 [] [148] [] E ?_;cases h3209;exact Ce E ⟨_,_,_,so6,rfl,fE E,sE [some 2,some 3,some 4,some 1,some 5] 6 E,(hP10)⟩
     rintro _ _ _ _ h3139 hm3209 ⟨q8,now4,v9,so15,rfl,hF3209,hS3209,hP19⟩;replace h3139:=Ql h3139;replace h3139:=Ql h3139;replace hA1:=hA1.mono hm3209;replace hP10:=hP10.mono hm3209;replace hP11:=hP11.mono hm3209;replace hP12:=hP12.mono hm3209;replace hO8:=hO8.mono hm3209;replace hP17:=hP17.mono hm3209;refine Atn 5 hF3209 hS3209 E E ?_;refine Br h3139 156 E E (fun hc25 h3139=> ?_) (fun hc25 h3139=> ?_)
     ·refine G2 5 [156] [] [] E ?_;cases h3139;replace hb3127:=QD hb3127;cases hb3127;have hq_:=hq3127 _ E;subst hq_;replace h:=QD h;cases h;exact Rt [] E E (Ug [] 5 (hR _ (hm2894.trans (hm2935.trans (hm3127.trans hm3209)))))
     refine G2 4 [] [156] [] E ?_;cases h3139;exact Ce E ⟨_,_,_,_,_,so15,so7,so13,A10,c10,ch8,rfl,fE E,sE [some 0,some 1,some 2,some 3,some 4] 5 E,(hP19),(hP11),(hP17),(hO8)⟩
    refine G2 27 [] [129] [0,0,0] E ?_;refine Br h3139 157 E E (fun hc26 h3139=> ?_) (fun hc26 h3139=> ?_)
    ·refine G2 7 [157] [] [] E (Cl E (Fn.gp (L2:=(so6::[(g9,.cells #[.int .i64 x2.Kind,.int .i64 x2.Machine,.int .i64 x2.Serial,.int .i64 x2.Wait,.int .i64 x2.Wrong] 39 (0,0))]::[(g1,.cells #[.string x1.Code,.int .i64 x1.Producer,.int .i64 x1.Deposit,.int .i64 x1.Material,.int .i64 x1.Grams] 23 (0,0))]::so7::so8::ch8::L)) [[2],[0],[1],[3],[4],[5]] 6 6 (by kernel_rfl) ?_));obtain ⟨⟨r27,_,_⟩,hx15,h3139⟩:=Qj h3139;replace h3139:=Ql h3139;replace h3139:=Ql h3139;refine Zl hP10 hx15 (fun _ A14 c14 so16 hm_7 hl4 hA5 hP20=> ?_);replace hA1:=hA1.mono hm_7;replace hP10:=hP10.mono hm_7;replace hP11:=hP11.mono hm_7;replace hP12:=hP12.mono hm_7;replace hO8:=hO8.mono hm_7;refine Q0 3 E (Al E fun g13=>Q1 4 [0] E (Gp (L2:=([(g13,.cells #[.int .i64 r27.Block,.int .i64 r27.Machine,.int .i64 r27.Epoch,.int .i64 r27.When.From,.int .i64 r27.When.To,.slice A14 r27.Open.length c14] 43 (0,0))]::so16::[(g1,.cells #[.string x1.Code,.int .i64 x1.Producer,.int .i64 x1.Deposit,.int .i64 x1.Material,.int .i64 x1.Grams] 23 (0,0))]::so7::so8::ch8::L)) [[0],[1],[3],[4],[5],[6]] 7 6 E (by kernel_rfl) ?_));refine Cut h3139 (fun f l o_ f_ μ_ l_=> ∃(q9:Qa) (now5:Int) (v12:Bool) (so18:Seg),(q9,now5,v12)=o_∧Qi ((18,.int .i64 now5)::(174,.bool v12)::Qo [1,2,5,12,14,16,19,114,115,116] f) f_∧Qd ([(g1,.cells #[.string x1.Code,.int .i64 x1.Producer,.int .i64 x1.Deposit,.int .i64 x1.Material,.int .i64 x1.Grams] 23 (0,0))]::so16::so18::YJ [] 4 l) l_∧Qc μ_ (.pointer (some ⟨g5,0,none⟩)) q9 so18) ?_ ?_
     ·intro _ h3237 h3139;refine G0 4 E ?_;refine Br h3237 169 E E (fun hc27 h3237=> ?_) (fun hc27 h3237=> ?_)
      ·refine G2 2 [169] [] [0] E (Cl E (Fn.gp (L2:=(so7::[(g13,.cells #[.int .i64 r27.Block,.int .i64 r27.Machine,.int .i64 r27.Epoch,.int .i64 r27.When.From,.int .i64 r27.When.To,.slice A14 r27.Open.length c14] 43 (0,0))]::so16::[(g1,.cells #[.string x1.Code,.int .i64 x1.Producer,.int .i64 x1.Deposit,.int .i64 x1.Material,.int .i64 x1.Grams] 23 (0,0))]::so8::ch8::L)) [[3],[0],[1],[2],[4],[5]] 6 6 (by kernel_rfl) ?_));obtain ⟨⟨_,_⟩,hx16,h3237⟩:=Qj h3237;replace h3237:=Ql h3237;refine Zz hP11 hl4 hA5 hx16 (fun _ so17 hm_8 hP21=> ?_);replace hA1:=hA1.mono hm_8;replace hP10:=hP10.mono hm_8;replace hP11:=hP11.mono hm_8;replace hP12:=hP12.mono hm_8;replace hO8:=hO8.mono hm_8;replace hP20:=hP20.mono hm_8;refine Q2 3 [169] [] [] E ?_;cases h3237;exact Ce E ⟨_,_,_,so17,rfl,fE E,sE [some 3,some 2,some 0,some 4,some 5] 6 E,(hP21)⟩
      refine G2 6 [] [169] [] E ?_;cases h3237;exact Ce E ⟨_,_,_,so7,rfl,fE E,sE [some 2,some 1,some 3,some 4,some 5] 6 E,(hP11)⟩
     rintro _ _ _ _ h3139 hm3237 ⟨q9,now5,v12,so18,rfl,hF3237,hS3237,hP22⟩;replace h3139:=Ql h3139;replace h3139:=Ql h3139;replace hA1:=hA1.mono hm3237;replace hP10:=hP10.mono hm3237;replace hP11:=hP11.mono hm3237;replace hP12:=hP12.mono hm3237;replace hO8:=hO8.mono hm3237;replace hP20:=hP20.mono hm3237;refine Atn 5 hF3237 hS3237 E E ?_;refine Br h3139 174 E E (fun hc28 h3139=> ?_) (fun hc28 h3139=> ?_)
     ·refine G2 5 [174] [] [] E ?_;cases h3139;replace hb3127:=QD hb3127;cases hb3127;have hq_:=hq3127 _ E;subst hq_;replace h:=QD h;cases h;exact Rt [] E E (Ug [] 5 (hR _ (hm2894.trans (hm2935.trans (hm3127.trans (hm_7.trans hm3237))))))
     refine G2 4 [] [174] [] E ?_;cases h3139;exact Ce E ⟨_,_,_,_,_,so16,so18,so8,A10,c10,ch8,rfl,fE E,sE [some 0,some 1,some 2,some 3,some 4] 5 E,(hP20),(hP22),(hP12),(hO8)⟩
    refine G2 6 [] [157] [] E ?_;refine Br h3139 175 E E (fun hc29 h3139=> ?_) (fun hc29 h3139=> ?_)
    ·refine G2 23 [175] [] [0,1] E (Cl E (Fn.gp (L2:=(so7::[(g9,.cells #[.int .i64 x2.Kind,.int .i64 x2.Machine,.int .i64 x2.Serial,.int .i64 x2.Wait,.int .i64 x2.Wrong] 39 (0,0))]::[(g1,.cells #[.string x1.Code,.int .i64 x1.Producer,.int .i64 x1.Deposit,.int .i64 x1.Material,.int .i64 x1.Grams] 23 (0,0))]::so6::so8::ch8::L)) [[3],[0],[1],[2],[4],[5]] 6 6 (by kernel_rfl) ?_));obtain ⟨⟨r32,_,_⟩,hx17,h3139⟩:=Qj h3139;replace h3139:=Ql h3139;replace h3139:=Ql h3139;refine Zh (x1:=(Qw.mk (max 0 (min x2.Serial 1023)) 0 x1.Grams (max 0 (w64 ((w64 (now1+(max 0 (min x2.Wait 10000))))+(max (w64 (0-skew1)) (min x2.Wrong skew1))))))) hP11 hx17 (fun so19 hP23=>Q0 3 E (Al E fun g14=>Q1 9 [0] E ?_));refine Br h3139 198 E E (fun hc30 h3139=> ?_) (fun hc30 h3139=> ?_)
     ·refine G2 5 [198] [] [] E ?_;cases h3139;replace hb3127:=QD hb3127;cases hb3127;have hq_:=hq3127 _ E;subst hq_;replace h:=QD h;cases h;exact Rt [] E E (Ug [] 7 (hR _ (hm2894.trans (hm2935.trans hm3127))))
     refine G2 8 [] [198] [0] E ?_;refine Br h3139 201 E E (fun hc31 h3139=> ?_) (fun hc31 h3139=> ?_)
     ·refine G2 5 [201] [] [] E (Cl E ?_);obtain ⟨⟨_,_⟩,hx18,h3139⟩:=Qj h3139;replace h3139:=Ql h3139;refine Z8 hl1 (Rds.push (Rds.push (Rds.push (Rds.push (Rds.push (Rds.push (Rds.push hA1))))))) hx18 ((Q0 8 E (Gp (L2:=([(g14,.cells #[.int .i64 r32.Kind,.int .i64 r32.Amount,.int .i64 r32.Err] 48 (0,0))]::so19::[(g1,.cells #[.string x1.Code,.int .i64 x1.Producer,.int .i64 x1.Deposit,.int .i64 x1.Material,.int .i64 x1.Grams] 23 (0,0))]::so6::so8::ch8::L)) [[0],[1],[3],[4],[5],[6]] 7 6 E (by kernel_rfl) ?_)));refine Cut h3139 (fun f l o_ f_ μ_ l_=> ∃(now6:Int) (v13:Bool),(now6,v13)=o_∧Qi ((18,.int .i64 now6)::(222,.bool v13)::Qo [1,2,5,12,14,16,19,24,114,115,116] f) f_∧Qd (YJ [some 2,some 3,some 1,some 4,some 5] 6 l) l_) ?_ ?_
      ·intro _ h3265 h3139;refine G0 3 E (Cl E ?_);obtain ⟨_,hx19,h3265⟩:=Qj h3265;refine Jh (Own.lenOk hO8) (Own.rds hO8 5 E) hx19 ((Q0 2 E ?_));refine Br h3265 212 E E (fun hc32 h3265=> ?_) (fun hc32 h3265=> ?_)
       ·refine G2 11 [212,216] [] [] E ?_;cases h3265;exact Ce E ⟨_,_,rfl,fE E,sE [some 2,some 3,some 1,some 4,some 5] 6 E⟩
       refine G2 4 [] [212] [] E ?_;refine Br h3265 216 E E (fun hc33 h3265=> ?_) (fun hc33 h3265=> ?_)
       ·refine G2 7 [216] [] [] E ?_;cases h3265;exact Ce E ⟨_,_,rfl,fE E,sE [some 2,some 3,some 1,some 4,some 5] 6 E⟩
       refine G2 7 [] [216] [0,2] E ?_;cases h3265;exact Ce E ⟨_,_,rfl,fE E,sE [some 2,some 3,some 1,some 4,some 5] 6 E⟩
      rintro _ _ _ _ h3139 hm3265 ⟨now6,v13,rfl,hF3265,hS3265⟩;replace h3139:=Ql h3139;replace hP10:=hP10.mono hm3265;replace hP11:=hP11.mono hm3265;replace hP12:=hP12.mono hm3265;replace hO8:=hO8.mono hm3265;replace hP23:=hP23.mono hm3265;refine Atn 5 hF3265 hS3265 E E ?_;refine Br h3139 222 E E (fun hc34 h3139=> ?_) (fun hc34 h3139=> ?_)
      ·refine G2 5 [222] [] [] E ?_;cases h3139;replace hb3127:=QD hb3127;cases hb3127;have hq_:=hq3127 _ E;subst hq_;replace h:=QD h;cases h;exact Rt [] E E (Ug [] 5 (hR _ (hm2894.trans (hm2935.trans (hm3127.trans hm3265)))))
      refine G2 5 [] [222] [] E (So E (Jf (z:=[.int .i64 0]) E E E E E E E (Qv (cells':=[.int .i64 (max 0 (min x2.Serial 1023))]) E E E E (Zi (fun g15=>Q0 0 E (So E (YL E ?_)))))));obtain ⟨_,hz2,h3139⟩:=Qj h3139;refine Jc (r:=Zd) QB E E E E (by decide) E E 5 E hO8 E (Own.rds (Own.lit (r:=Zd) (e:=3) (g:=g15) (xs:=[max 0 (min x2.Serial 1023)]) (cs:=[.int .i64 (max 0 (min x2.Serial 1023))]) (css:=[[.int .i64 (max 0 (min x2.Serial 1023))]]) E (QY.cons (E) (QY.nil)) E E) 0 E) hz2 fun A15 c15 ch11 hO11=>Q0 4 E ?_;cases h3139;exact Ce E ⟨_,_,_,_,_,so6,so19,so8,A15,c15,ch11,rfl,fE E,sE [some 1,some 2,some 3,some 4,some 5] 6 E,(hP10),(hP23),(hP12),(hO11)⟩
     refine G2 4 [] [201] [] E ?_;cases h3139;exact Ce E ⟨_,_,_,_,_,so6,so19,so8,A10,c10,ch8,rfl,fE E,sE [some 3,some 4,some 1,some 5,some 6] 7 E,(hP10),(hP23),(hP12),(hO8)⟩
    refine G2 5 [] [175] [] E (Cl E (Fn.gp (L2:=(so7::[(g9,.cells #[.int .i64 x2.Kind,.int .i64 x2.Machine,.int .i64 x2.Serial,.int .i64 x2.Wait,.int .i64 x2.Wrong] 39 (0,0))]::[(g1,.cells #[.string x1.Code,.int .i64 x1.Producer,.int .i64 x1.Deposit,.int .i64 x1.Material,.int .i64 x1.Grams] 23 (0,0))]::so6::so8::ch8::L)) [[3],[0],[1],[2],[4],[5]] 6 6 (by kernel_rfl) ?_));obtain ⟨⟨_,_,_,_⟩,hx20,h3139⟩:=Qj h3139;replace h3139:=Ql h3139;replace h3139:=Ql h3139;replace h3139:=Ql h3139;refine Jx hP11 hx20 (fun _ _ ch12 so20 hO12 hP24=>Q0 9 E (Gp (L2:=(ch12::so20::[(g1,.cells #[.string x1.Code,.int .i64 x1.Producer,.int .i64 x1.Deposit,.int .i64 x1.Material,.int .i64 x1.Grams] 23 (0,0))]::so6::so8::ch8::L)) [[0],[1],[3],[4],[5],[6]] 7 6 E (by kernel_rfl) ?_));refine Cut h3139 (fun f l o_ f_ μ_ l_=> ∃(q10:Qe) (now7:Int) (v14:Bool) (so22:Seg),(q10,now7,v14)=o_∧Qi ((18,.int .i64 now7)::(156,.bool v14)::Qo [1,2,5,12,14,16,19,114,115,116] f) f_∧Qd ([(g1,.cells #[.string x1.Code,.int .i64 x1.Producer,.int .i64 x1.Deposit,.int .i64 x1.Material,.int .i64 x1.Grams] 23 (0,0))]::so22::YJ [some 1,some 4,some 5] 6 l) l_∧Qf μ_ (.pointer (some ⟨g7,0,none⟩)) q10 so22) ?_ ?_
    ·intro _ h3284 h3139;refine G0 4 E ?_;refine Br h3284 148 E E (fun hc35 h3284=> ?_) (fun hc35 h3284=> ?_)
     ·refine G2 5 [148] [] [] E (Cl E (Fn.gp (L2:=(so6::ch12::so20::[(g1,.cells #[.string x1.Code,.int .i64 x1.Producer,.int .i64 x1.Deposit,.int .i64 x1.Material,.int .i64 x1.Grams] 23 (0,0))]::so8::ch8::L)) [[3],[0],[1],[2],[4],[5]] 6 6 (by kernel_rfl) ?_));obtain ⟨⟨_,_⟩,hx21,h3284⟩:=Qj h3284;replace h3284:=Ql h3284;refine Z3 hP10 (Own.lenOk hO12) (Own.rds hO12 0 E) hx21 (fun so21 hP25=>Q2 3 [148] [] [] E ?_);cases h3284;exact Ce E ⟨_,_,_,so21,rfl,fE E,sE [some 3,some 0,some 2,some 4,some 5] 6 E,(hP25)⟩
     refine G2 9 [] [148] [] E ?_;cases h3284;exact Ce E ⟨_,_,_,so6,rfl,fE E,sE [some 2,some 3,some 1,some 4,some 5] 6 E,(hP10)⟩
    rintro _ _ _ _ h3139 hm3284 ⟨q10,now7,v14,so22,rfl,hF3284,hS3284,hP26⟩;replace h3139:=Ql h3139;replace h3139:=Ql h3139;replace hP11:=hP11.mono hm3284;replace hP12:=hP12.mono hm3284;replace hO8:=hO8.mono hm3284;replace hP24:=hP24.mono hm3284;refine Atn 5 hF3284 hS3284 E E ?_;refine Br h3139 156 E E (fun hc36 h3139=> ?_) (fun hc36 h3139=> ?_)
    ·refine G2 5 [156] [] [] E ?_;cases h3139;replace hb3127:=QD hb3127;cases hb3127;have hq_:=hq3127 _ E;subst hq_;replace h:=QD h;cases h;exact Rt [] E E (Ug [] 5 (hR _ (hm2894.trans (hm2935.trans (hm3127.trans hm3284)))))
    refine G2 4 [] [156] [] E ?_;cases h3139;exact Ce E ⟨_,_,_,_,_,so22,so20,so8,A10,c10,ch8,rfl,fE E,sE [some 0,some 1,some 2,some 3,some 4] 5 E,(hP26),(hP24),(hP12),(hO8)⟩
   rintro _ _ _ _ hb3127 hm3139 ⟨q11,q12,q13,now8,paid2,so23,so24,so25,A17,c17,ch13,rfl,hF3139,hS3139,hP27,hP28,hP29,hO13⟩;replace hb3127:=YQ hb3127;replace hb3127:=Ql hb3127;replace hb3127:=Ql hb3127;replace hb3127:=Ql hb3127;replace hb3127:=Ql hb3127;replace hP11:=hP11.mono hm3139;replace hP12:=hP12.mono hm3139;replace hO8:=hO8.mono hm3139;refine Atn 5 hF3139 hS3139 E E (G0 4 E ?_);cases hb3127;exact Ce E ⟨_,rfl,so23,so24,so25,A17,c17,ch13,fE E,sE [some 0,some 1,some 2,some 3,some 4] 5 E,(hP27),(hP28),(hP29),(hO13)⟩
  refine G2 2 [] [117] [] E ?_;cases hb3127;have hq_:=hq3127 _ E;subst hq_;exact Ce E ⟨_,_,_,so7,so8,A10,c10,ch8,rfl,fE E,sE [some 0,some 2,some 3,some 4] 5 E,(hP11),(hP12),(hO8)⟩
 rintro _ _ _ _ h hm2957 ⟨q14,q15,paid3,so26,so27,A18,c18,ch14,rfl,hF2957,hS2957,hP30,hP31,_⟩;replace h:=YQ h;replace h:=Ql h;replace h:=Ql h;refine Atn 4 hF2957 hS2957 E E (G0 1 E ?_);refine Cut h (fun f l o_ f_ μ_ l_=> ∃(v16:Bool),v16=o_∧Qi ((10,.bool v16)::[]) f_∧Qd (YJ [] 4 l) l_) ?_ ?_
 ·intro _ h3309 h;refine Dr _ QP.refl [(true,0),(true,2),(true,5),(true,6),(true,7),(true,8),(true,9),(false,1),(false,3),(true,4),(true,10),(true,11),(false,12),(true,13),(true,14)] (by kernel_rfl) (G1 7 [0] E (Cl E (Fn.gp (L2:=(so26::[(g1,.cells #[.string x1.Code,.int .i64 x1.Producer,.int .i64 x1.Deposit,.int .i64 x1.Material,.int .i64 x1.Grams] 23 (0,0))]::so27::ch14::L)) [[1],[0],[2],[3]] 4 4 (by kernel_rfl) ?_)));obtain ⟨_,hx22,h3309⟩:=Qj h3309;refine Ji hP30 hx22 (?_);refine ⟨Kp [1,0,2,3] 4 E,?_⟩;refine Q0 0 E (Cl E (Fn.gp (L2:=(so27::so26::[(g1,.cells #[.string x1.Code,.int .i64 x1.Producer,.int .i64 x1.Deposit,.int .i64 x1.Material,.int .i64 x1.Grams] 23 (0,0))]::ch14::L)) [[2],[0],[1],[3]] 4 4 (by kernel_rfl) ?_));obtain ⟨_,hx23,h3309⟩:=Qj h3309;refine Ji hP31 hx23 (?_);refine ⟨Kp [2,1,0,3] 4 E,?_⟩;refine Q0 3 E ?_;refine Br h3309 239 E E (fun hc37 h3309=> ?_) (fun hc37 h3309=> ?_)
  ·refine Cl E ?_;obtain ⟨_,hx24,h3309⟩:=Qj h3309;refine ZW  hx24 (fun _ _=> ?_);refine ⟨Kp [2,1,0,3] 4 E,?_⟩;refine Q2 3 [239] [] [] E ?_;cases h3309;exact Ce E ⟨_,rfl,fE E,sE [] 4 E⟩
  refine G2 4 [] [239] [] E ?_;cases h3309;exact Ce E ⟨_,rfl,fE E,sE [] 4 E⟩
 rintro _ _ _ _ h hm3309 ⟨v16,rfl,hF3309,hS3309⟩;refine Atn 0 hF3309 hS3309 E E ?_;cases h;exact Rt [] E E (Ug [] 0 (hR _ (hm2894.trans (hm2935.trans (hm2957.trans hm3309)))))
end Go.Proofs.Ytfdjjdhnfaklbaa
namespace Go.Proofs.Ytfdjjdhnfaklbaa
set_option linter.unusedSimpArgs false
set_option linter.unusedVariables false
theorem Y2 {α σ τ ρ:Type} (xs:List α) (mk:σ→Int→τ) {body:τ→Option (τ⊕ρ)} (I:σ→Nat→Prop) (Q:ρ→Prop)
  (hb: ∀(k:Nat) (x:α) (s:σ),xs[k]? =some x→I s k→(∃s',body (mk s (k:Int))=some (.inl (mk s' ((k+1:Nat):Int)))∧I s' (k+1))∨ ∃o,body (mk s (k:Int))=some (.inr o)∧Q o)
  (hf: ∀s,I s xs.length→ ∃o,body (mk s (xs.length:Int))=some (.inr o)∧Q o): ∀(n:Nat) (s:σ),I s 0→xs.length<n→ ∃o,iter body n (mk s 0)=some o∧Q o:=by
 have key: ∀(r k:Nat) (s:σ) (n:Nat),k+r=xs.length→r<n→I s k→ ∃o,iter body n (mk s (k:Int))=some o∧Q o:=by
  intro r
  induction r with
  | zero =>
   intro k s n hk hn hI;obtain ⟨f,rfl⟩: ∃f,n=f+1:=⟨n-1,by omega⟩
   have hk':k=xs.length:=by omega
   subst hk';obtain ⟨o,h1,h2⟩:=hf s hI;exact ⟨o,by rw[iter,h1];rfl,h2⟩
  | succ r ih =>
   intro k s n hk hn hI;obtain ⟨f,rfl⟩: ∃f,n=f+1:=⟨n-1,by omega⟩
   rcases hb k (xs[k]'(by omega)) s (by simp) hI with ⟨s',h1,h2⟩ | ⟨o,h1,h2⟩
   ·obtain ⟨o,h3,h4⟩:=ih (k+1) s' f (by omega) (by omega) h2;refine ⟨o,?_,h4⟩
    rw[iter,h1]
    exact h3
   ·exact ⟨o,by rw[iter,h1];rfl,h2⟩
 intro n s hI hn;exact key xs.length 0 s n (by omega) hn hI
theorem tot {ρ:Type} {n:Nat} {body:Int→Option (Int⊕ρ)} (hn:n<9223372036854775807) (hb: ∀k:Nat,k<n→body (k:Int)=some (.inl (w64 ((k:Int)+1)))∨ ∃o,body (k:Int)=some (.inr o)) (hf: ∃o,body (n:Int)=some (.inr o)): ∃o,iter body (n+1) 0=some o:=by
 obtain ⟨o,h,_⟩:=Y2 (List.replicate n ()) (fun (_:Unit) k=>k) (body:=body) (fun _ _=>True) (fun _=>True)
  (by
   intro k x s hx _;have hk:=QZ hx
   rw[List.length_replicate] at hk
   rcases hb k hk with h | ⟨o,h⟩
   ·exact .inl ⟨(),by rw[h,YC (by omega)],trivial⟩
   ·exact .inr ⟨o,h,trivial⟩)
  (by
   intro s _;obtain ⟨o,h⟩:=hf;exact ⟨o,by rw[List.length_replicate];exact h,trivial⟩) (n+1) () trivial (by simp)
 exact ⟨o,h⟩
theorem Qfz (n:Int) (x:Qg) (p:Int): ∃r,YS n x p=some r:=by
 unfold YS
 generalize decide (x.Product<0)=b1
 generalize decide (n≤x.Product)=b2
 generalize decide (x.First<0)=b3
 generalize decide (1073741824<x.First)=b4
 generalize decide (x.Count<1)=b5
 generalize decide (1000<x.Count)=b6
 generalize decide (w64 (1073741824-w64 (x.Count-1))<x.First)=b7
 generalize decide (x.Retailer<0)=b8
 generalize decide (p≤x.Retailer)=b9
 generalize decide (x.At<0)=b10
 generalize decide (3155759999<x.At)=b11
 cases b1<;>cases b2<;>try exact ⟨_,rfl⟩
 cases b3<;>cases b4<;>cases b5<;>cases b6<;>cases b7<;>try exact ⟨_,rfl⟩
 cases b8<;>cases b9<;>cases b10<;>cases b11<;>exact ⟨_,rfl⟩
theorem Qau (x:Qg) (p:Int): ∃r,QF x p=some r:=by
 unfold QF;cases decide (x.First≤p)<;>cases decide (0<x.Count)<;>exact ⟨_,rfl⟩
theorem Wo {α:Type} {l:List α} {k:Nat} (h:k<l.length): ∃x,YN l (k:Int)=some x:=⟨_,QdZ h⟩
theorem Qd7 {ps:List Qb} {l:List Qg} (p:Int): ∃r,Yy ps l p=some r:=by
 unfold Yy
 by_cases h0:512<((l.length:Nat):Int)
 ·rw[decide_eq_true h0];exact ⟨_,rfl⟩
 rw[decide_eq_false h0,cond_false]
 obtain ⟨o1,e1⟩:=tot (n:=l.length) (body:=Yj ps l p) (by omega) (fun k hk=>by
  obtain ⟨x,hx⟩:=Wo hk;obtain ⟨r,hr⟩:=Qfz ((ps.length:Nat):Int) x p;unfold Yj
  rw[decide_eq_true (show (k:Int)<(l.length:Nat) by omega),cond_true,hx,Option.bind_some,hr,Option.bind_some]
  cases (!decide (r=0)) with
  | true=>exact .inr ⟨_,rfl⟩
  | false=>exact .inl rfl) (by unfold Yj;rw[decide_eq_false (by omega),cond_false];exact ⟨_,rfl⟩)
 rw[show (((l.length:Nat):Int).toNat+1)=l.length+1 by omega,e1,Option.bind_some]
 cases o1 with
 | inr e=>exact ⟨e,rfl⟩
 | inl u =>
  simp only[ZE]
  obtain ⟨o2,e2⟩:=tot (n:=l.length) (body:=Yl l) (by omega) (fun i hi=>by
   obtain ⟨o3,e3⟩:=tot (n:=i) (body:=Yk l (i:Int)) (by omega) (fun k hk=>by
    obtain ⟨x,hx⟩:=Wo hi;obtain ⟨y,hy⟩:=Wo (show k<l.length by omega);obtain ⟨r,hr⟩:=Qau x y.First;obtain ⟨r',hr'⟩:=Qau y x.First;unfold Yk
    rw[decide_eq_true (show (k:Int)<(i:Int) by omega),cond_true,hx,Option.bind_some,hy,Option.bind_some,hr,Option.bind_some]
    cases r with
    | true=>exact .inr ⟨_,rfl⟩
    | false =>
     rw[cond_false,Option.bind_some,Option.bind_some,hr',Option.bind_some,Option.bind_some]
     cases r' with
     | true=>exact .inr ⟨_,rfl⟩
     | false=>exact .inl rfl) (by unfold Yk;rw[decide_eq_false (by omega),cond_false];exact ⟨_,rfl⟩)
   unfold Yl
   rw[decide_eq_true (show (i:Int)<(l.length:Nat) by omega),cond_true,Int.toNat_natCast,e3,Option.bind_some]
   cases o3 with
   | inl u=>exact .inl rfl
   | inr e=>exact .inr ⟨_,rfl⟩) (by unfold Yl;rw[decide_eq_false (by omega),cond_false];exact ⟨_,rfl⟩)
  rw[e2,Option.bind_some]
  cases o2 with
  | inl u=>exact ⟨_,rfl⟩
  | inr e=>exact ⟨e,rfl⟩
theorem Vt {s:ByteArray} {k:Nat} (h:k<s.size): ∃x,JV s (k:Int)=some x:=by
 unfold JV
 rw[if_pos (by omega),Int.toNat_natCast]
 exact ⟨_,by rw[getElem?_pos s k h];rfl⟩
theorem Qaw (s:ByteArray) {n:Nat} (hn:n≤1000): ∃b,QA s (n:Int)=some b∧(b=true→s.size=n):=by
 unfold QA
 by_cases hs:((s.size:Nat):Int)=(n:Int)
 ·rw[decide_eq_true hs,show (!true)=false from rfl,cond_false]
  obtain ⟨o,e⟩:=tot (n:=n) (body:=Qu s (n:Int)) (by omega) (fun k hk=>by
   obtain ⟨x,hx⟩:=Vt (s:=s) (k:=k) (by omega);unfold Qu
   rw[decide_eq_true (show (k:Int)<(n:Int) by omega),cond_true,hx,Option.bind_some]
   cases decide (x<48) with
   | true=>exact .inr ⟨_,rfl⟩
   | false =>
    rw[cond_false,Option.bind_some,Option.bind_some]
    cases decide (57<x) with
    | true=>exact .inr ⟨_,rfl⟩
    | false=>exact .inl rfl) (by unfold Qu;rw[decide_eq_false (by omega),cond_false];exact ⟨_,rfl⟩)
  rw[Int.toNat_natCast,e,Option.bind_some]
  cases o with
  | inl u=>exact ⟨true,rfl,fun _=>by omega⟩
  | inr b=>exact ⟨b,rfl,fun _=>by omega⟩
 ·rw[decide_eq_false hs]
  exact ⟨false,rfl,fun h=>by cases h⟩
theorem QdK (s:ByteArray): ∃r,QX s=some r:=by
 unfold QX;obtain ⟨b,hb,hb2⟩:=Qaw s (n:=12) (by omega)
 rw[show (12:Int)=((12:Nat):Int) from rfl,hb,Option.bind_some]
 cases b with
 | false=>exact ⟨_,rfl⟩
 | true =>
  have hs:=hb2 rfl
  rw[show (!true)=false from rfl,cond_false]
  obtain ⟨o,h,_⟩:=Y2 (List.replicate 12 ()) (fun (s:Int) k=>(s,k)) (body:=QS s) (fun _ _=>True) (fun _=>True)
   (by
    intro k x t hx _;have hk:=QZ hx
    rw[List.length_replicate] at hk
    obtain ⟨y,hy⟩:=Vt (s:=s) (k:=k) (by omega);unfold QS
    simp only[oun]
    rw[decide_eq_true (show (k:Int)<12 by omega),cond_true,hy,Option.bind_some]
    cases decide (Int.tmod (k:Int) 2=1) with
    | true=>exact .inl ⟨_,by rw[cond_true,Option.bind_some,YC (by omega)],trivial⟩
    | false=>exact .inl ⟨_,by rw[cond_false,Option.bind_some,YC (by omega)],trivial⟩)
   (by
    intro t _;exact ⟨t,by rw[List.length_replicate];rfl,trivial⟩) 13 0 trivial (by simp)
  rw[show (((12:Nat):Int)).toNat+1=13 from rfl,h]
  exact ⟨_,rfl⟩
theorem Qcd (s:ByteArray): ∃r,QM s=some r:=by
 unfold QM;obtain ⟨b,hb,hb2⟩:=Qaw s (n:=13) (by omega)
 rw[show (13:Int)=((13:Nat):Int) from rfl,hb,Option.bind_some]
 cases b with
 | false=>exact ⟨_,rfl⟩
 | true =>
  have hs:=hb2 rfl
  rw[show (!true)=false from rfl,cond_false]
  obtain ⟨z,hz⟩: ∃z,Qca s 0 12=some z:=by
   unfold Qca
   rw[if_pos ⟨by omega,by omega,by omega⟩]
   exact ⟨_,rfl⟩
  obtain ⟨⟨d,f⟩,hd⟩:=QdK z;obtain ⟨y,hy⟩:=Vt (s:=s) (k:=12) (by omega)
  rw[hz,Option.bind_some,hd,Option.bind_some]
  simp only[oun]
  rw[show (12:Int)=((12:Nat):Int) from rfl,hy,Option.bind_some]
  cases (!decide (w64 (IntKind.u8.wrap (y-48))=d))<;>exact ⟨_,rfl⟩
theorem Qd6 {l:List Qb} (p q:Int): ∃r,QW l p q=some r:=by
 unfold QW
 by_cases h0:64<((l.length:Nat):Int)
 ·rw[decide_eq_true h0];exact ⟨_,rfl⟩
 rw[decide_eq_false h0,cond_false]
 obtain ⟨o1,e1⟩:=tot (n:=l.length) (body:=QE l p q) (by omega) (fun k hk=>by
  obtain ⟨x,hx⟩:=Wo hk;obtain ⟨r,hr⟩:=Qcd x.Code;unfold QE
  rw[decide_eq_true (show (k:Int)<(l.length:Nat) by omega),cond_true,hx,Option.bind_some,hr,Option.bind_some]
  cases (!decide (r=0)) with
  | true=>exact .inr ⟨_,rfl⟩
  | false =>
   generalize decide (x.Producer<0)=b1
   generalize decide (p≤x.Producer)=b2
   generalize decide (x.Deposit<1)=b3
   generalize decide (1000<x.Deposit)=b4
   generalize decide (x.Material<0)=b5
   generalize decide (q≤x.Material)=b6
   generalize decide (x.Grams<1)=b7
   generalize decide (10000<x.Grams)=b8
   cases b1<;>cases b2<;>try exact .inr ⟨_,rfl⟩
   cases b3<;>cases b4<;>try exact .inr ⟨_,rfl⟩
   cases b5<;>cases b6<;>try exact .inr ⟨_,rfl⟩
   cases b7<;>cases b8<;>first | exact .inl rfl | exact .inr ⟨_,rfl⟩) (by unfold QE;rw[decide_eq_false (by omega),cond_false];exact ⟨_,rfl⟩)
 rw[show (((l.length:Nat):Int).toNat+1)=l.length+1 by omega,e1,Option.bind_some]
 cases o1 with
 | inr e=>exact ⟨e,rfl⟩
 | inl u =>
  simp only[ZE]
  obtain ⟨o2,e2⟩:=tot (n:=l.length) (body:=Yi l) (by omega) (fun i hi=>by
   obtain ⟨o3,e3⟩:=tot (n:=i) (body:=Yh l (i:Int)) (by omega) (fun k hk=>by
    obtain ⟨x,hx⟩:=Wo hi;obtain ⟨y,hy⟩:=Wo (show k<l.length by omega);unfold Yh
    rw[decide_eq_true (show (k:Int)<(i:Int) by omega),cond_true,hy,Option.bind_some,hx,Option.bind_some]
    cases decide (y.Code=x.Code) with
    | true=>exact .inr ⟨_,rfl⟩
    | false=>exact .inl rfl) (by unfold Yh;rw[decide_eq_false (by omega),cond_false];exact ⟨_,rfl⟩)
   unfold Yi
   rw[decide_eq_true (show (i:Int)<(l.length:Nat) by omega),cond_true,Int.toNat_natCast,e3,Option.bind_some]
   cases o3 with
   | inl u=>exact .inl rfl
   | inr e=>exact .inr ⟨_,rfl⟩) (by unfold Yi;rw[decide_eq_false (by omega),cond_false];exact ⟨_,rfl⟩)
  rw[e2,Option.bind_some]
  cases o2 with
  | inl u=>exact ⟨_,rfl⟩
  | inr e=>exact ⟨e,rfl⟩
end Go.Proofs.Ytfdjjdhnfaklbaa
namespace Go.Proofs.Ytfdjjdhnfaklbaa
set_option linter.unusedSimpArgs false
set_option linter.unusedVariables false
theorem QeL {σ ρ τ:Type} (n:Nat) {b1:σ×Int→Option ((σ×Int)⊕ρ)} {b2:σ×Int→Option ((σ×Int)⊕τ)} {f1:σ→ρ} {f2:σ→τ}
  (hb: ∀(k:Nat) (s:σ),k<n→ ∃s',b1 (s,(k:Int))=some (.inl (s',((k+1:Nat):Int)))∧b2 (s,(k:Int))=some (.inl (s',((k+1:Nat):Int))))
  (h1: ∀s,b1 (s,(n:Int))=some (.inr (f1 s))) (h2: ∀s,b2 (s,(n:Int))=some (.inr (f2 s))) (s0:σ) :
  ∃s,iter b1 (n+1) (s0,0)=some (f1 s)∧iter b2 (n+1) (s0,0)=some (f2 s):=by
 have key: ∀(r k:Nat) (s:σ),k+r=n→ ∃t,iter b1 (r+1) (s,(k:Int))=some (f1 t)∧iter b2 (r+1) (s,(k:Int))=some (f2 t):=by
  intro r
  induction r with
  | zero =>
   intro k s hk;obtain rfl:k=n:=by omega
   exact ⟨s,by rw[iter,h1];rfl,by rw[iter,h2];rfl⟩
  | succ r ih =>
   intro k s hk;obtain ⟨s',h3,h4⟩:=hb k s (by omega);obtain ⟨t,h5,h6⟩:=ih (k+1) s' (by omega);exact ⟨t,by rw[iter,h3];exact h5,by rw[iter,h4];exact h6⟩
 exact key n 0 s0 (by omega)
theorem Qn {α β γ:Type} (a:α) (b:β) (f:α→β→γ):oun (a,b) f=f a b:=rfl
def Qel (s:ByteArray) (k:Nat):Prop:= ∃y,JV s (k:Int)=some y∧48≤y∧y≤57
theorem Qbn (s:ByteArray) {n:Nat} (hn:n≤1000): ∃b,QA s (n:Int)=some b∧(b=true↔s.size=n∧ ∀k,k<n→Qel s k):=by
 unfold QA
 by_cases hs:((s.size:Nat):Int)=(n:Int)
 case neg =>
  rw[decide_eq_false hs]
  exact ⟨false,rfl,⟨fun h=>(by cases h),fun h=>absurd (by have:=h.1;omega) hs⟩⟩
 rw[decide_eq_true hs,show (!true)=false from rfl,cond_false]
 obtain ⟨o,e,q⟩:=Y2 (List.replicate n ()) (fun (_:Unit) k=>k) (body:=Qu s (n:Int)) (fun _ k=> ∀j,j<k→Qel s j)
  (fun o=>(o= .inl ()∧ ∀k,k<n→Qel s k)∨(o= .inr false∧ ¬ ∀k,k<n→Qel s k))
  (by
   intro k x t hx hI;have hk:=QZ hx
   rw[List.length_replicate] at hk
   obtain ⟨y,hy⟩:=Vt (s:=s) (k:=k) (by omega);unfold Qu
   rw[decide_eq_true (show (k:Int)<(n:Int) by omega),cond_true,hy,Option.bind_some]
   by_cases h1:y<48
   ·rw[decide_eq_true h1]
    refine .inr ⟨_,rfl,.inr ⟨rfl,fun h=> ?_⟩⟩;obtain ⟨z,hz,h2,h3⟩:=h k hk
    rw[hy] at hz;cases hz;omega
   rw[decide_eq_false h1,cond_false,Option.bind_some,Option.bind_some]
   by_cases h2:57<y
   ·rw[decide_eq_true h2]
    refine .inr ⟨_,rfl,.inr ⟨rfl,fun h=> ?_⟩⟩;obtain ⟨z,hz,h3,h4⟩:=h k hk
    rw[hy] at hz;cases hz;omega
   rw[decide_eq_false h2,cond_false,YC (by omega)]
   refine .inl ⟨(),rfl,fun j hj=> ?_⟩
   by_cases hjk:j=k
   ·subst hjk;exact ⟨y,hy,by omega,by omega⟩
   ·exact hI j (by omega))
  (by
   intro t hI
   rw[List.length_replicate] at hI ⊢
   refine ⟨_,?_,.inl ⟨rfl,hI⟩⟩;unfold Qu
   rw[decide_eq_false (by omega),cond_false]) (n+1) () (by intro j hj;omega) (by simp)
 rw[Int.toNat_natCast,e,Option.bind_some]
 rcases q with ⟨rfl,q⟩ | ⟨rfl,q⟩
 ·exact ⟨true,rfl,⟨fun _=>⟨by omega,q⟩,fun _=>rfl⟩⟩
 ·exact ⟨false,rfl,⟨fun h=>(by cases h),fun h=>absurd h.2 q⟩⟩
theorem QeJ {s:ByteArray} {k:Nat} (hs:12≤s.size) (hk:k<12):JV (s.extract 0 12) (k:Int)=JV s (k:Int):=by
 unfold JV
 rw[if_pos (by omega),if_pos (by omega),Int.toNat_natCast,getElem?_pos s k (by omega),getElem?_pos (s.extract 0 12) k (by rw[ByteArray.size_extract];omega),ByteArray.getElem_extract]
 congr 3
 omega
theorem Qgl {y:Int} (h1:48≤y) (h2:y≤57):IntKind.u8.wrap (y-48)=y-48:=by
 obtain ⟨k,rfl⟩: ∃k:Nat,y=48+k:=⟨(y-48).toNat,by omega⟩
 have:k<10:=by omega
 rcases k with _ | _ | _ | _ | _ | _ | _ | _ | _ | _ | k<;>first | decide | omega
theorem Qfr {y:Int} (h1:48≤y) (h2:y≤57):IntKind.i32.wrap (y-48)=y-48:=by
 obtain ⟨k,rfl⟩: ∃k:Nat,y=48+k:=⟨(y-48).toNat,by omega⟩
 have:k<10:=by omega
 rcases k with _ | _ | _ | _ | _ | _ | _ | _ | _ | _ | k<;>first | decide | omega
theorem QcS {s:ByteArray} (hs:s.size=12) (hd: ∀k,k<12→Qel s k): ∃d,QX s=some (d,0)∧ZK s=some (d,0):=by
 obtain ⟨b,hb,hb2⟩:=Qbn s (n:=12) (by omega);obtain rfl:b=true:=hb2.2 ⟨hs,hd⟩;unfold QX ZK
 rw[show (12:Int)=((12:Nat):Int) from rfl,hb,Option.bind_some,hs,decide_eq_true rfl,show (!true)=false from rfl,cond_false,cond_false]
 obtain ⟨t,h1,h2⟩:=QeL 12 (b1:=QS s) (b2:=Zb s) (f1:=fun t=>t) (f2:=fun t=> .inl t)
  (by
   intro k t hk;obtain ⟨y,hy,h1,h2⟩:=hd k hk;unfold QS Zb
   simp only[oun]
   unfold QdC
   rw[decide_eq_true (show (k:Int)<12 by omega),decide_eq_true (show (k:Int)<((s.size:Nat):Int) by omega),cond_true,cond_true,hy,Option.bind_some,Option.bind_some,if_pos (by omega),Option.bind_some,
    decide_eq_false (show ¬y<48 by omega),decide_eq_false (show ¬57<y by omega),cond_false,Option.bind_some,cond_false,Qgl h1 h2,Qfr h1 h2]
   have hm:Int.tmod (k:Int) 2=0∨Int.tmod (k:Int) 2=1:=by
    rw[Int.tmod_eq_emod_of_nonneg (by omega)];omega
   rcases hm with hm | hm
   ·rw[hm,decide_eq_false (by omega),decide_eq_true rfl,cond_false,cond_true,Option.bind_some,YC (by omega),Zn (n:=y-48) (by omega) (by omega),Int.one_mul,Zn (n:=y-48) (by omega) (by omega)]
    exact ⟨_,rfl,by rw[Int.natCast_add];rfl⟩
   ·rw[hm,decide_eq_false (show ¬(1:Int)=0 by omega),decide_eq_true rfl,cond_false,cond_true,Option.bind_some,YC (by omega),Zn (n:=y-48) (by omega) (by omega),Qd0 rfl,Option.bind_some]
    exact ⟨_,rfl,by rw[Int.natCast_add];rfl⟩)
  (fun t=>rfl)
  (by
   intro t;unfold Zb
   simp only[oun]
   rw[hs,decide_eq_false (by omega),cond_false]) 0
 rw[show (((12:Nat):Int)).toNat+1=12+1 from rfl,h1,h2]
 exact ⟨_,rfl,rfl⟩
theorem QdJ {s:ByteArray} (h:QM s=some 0):Z5 s=some 0:=by
 unfold QM at h;obtain ⟨b,hb,hb2⟩:=Qbn s (n:=13) (by omega)
 rw[show (13:Int)=((13:Nat):Int) from rfl,hb,Option.bind_some] at h
 cases b with
 | false=>cases h
 | true =>
  obtain ⟨hs,hd⟩:=hb2.1 rfl;have hz:Qca s 0 12=some (s.extract 0 12):=by
   unfold Qca
   rw[if_pos ⟨by omega,by omega,by omega⟩]
   rfl
  obtain ⟨d,h1,h2⟩:=QcS (s:=s.extract 0 12) (by rw[ByteArray.size_extract];omega) (fun k hk=>by
   obtain ⟨y,hy,h1,h2⟩:=hd k (by omega);exact ⟨y,by rw[QeJ (by omega) hk];exact hy,h1,h2⟩)
  obtain ⟨y,hy,h3,h4⟩:=hd 12 (by omega);have hy':JV s 12=some y:=hy
  rw[show (!true)=false from rfl,cond_false,hz,Option.bind_some,h1,Option.bind_some] at h
  simp only[oun] at h
  rw[hy',Option.bind_some] at h
  unfold Z5
  rw[hs,decide_eq_true (show ((13:Nat):Int)=13 from rfl),show (!true)=false from rfl,cond_false,hy',Option.bind_some,Option.bind_some,decide_eq_false (show ¬y<48 by omega),decide_eq_false (show ¬57<y by omega),cond_false,Option.bind_some,cond_false,hz,Option.bind_some,h2,Option.bind_some]
  show (bif !(decide ((0:Int)=0)) then some 0 else (some y).bind fun x3=>bif !(decide (d=w64 (IntKind.u8.wrap (x3-48)))) then some 26 else some 0)=some (0:Int)
  rw[decide_eq_true (rfl:(0:Int)=0),show (!true)=false from rfl,cond_false,Option.bind_some]
  by_cases he:w64 (IntKind.u8.wrap (y-48))=d
  ·rw[decide_eq_true he.symm];rfl
  ·rw[decide_eq_false he] at h;cases h
structure PrP (x:Qb):Prop where
 c:QM x.Code=some 0
 p0:0≤x.Producer
 p1:x.Producer<32
 d0:1≤x.Deposit
 d1:x.Deposit≤1000
 m0:0≤x.Material
 m1:x.Material<16
 g0:1≤x.Grams
 g1:x.Grams≤10000
theorem Qd5 {x:Qb} (h:QW [x] 32 16=some 0):PrP x:=by
 unfold QW at h
 rw[decide_eq_false (by simp),cond_false] at h
 obtain ⟨r,hr⟩:=Qcd x.Code
 rw[show (((([x]:List Qb).length:Nat):Int).toNat+1)=1+1 from rfl,iter] at h
 obtain ⟨z,hl⟩: ∃z,QE [x] 32 16 0=z:=⟨_,rfl⟩
 rw[hl] at h
 unfold QE at hl
 rw[decide_eq_true (by simp),cond_true,show YN [x] 0=some x from rfl,Option.bind_some,hr,Option.bind_some] at hl
 by_cases h0:r=0
 case neg =>
  rw[decide_eq_false h0,show (!false)=true from rfl,cond_true] at hl
  rw[←hl] at h
  exact absurd (Option.some.inj h) h0
 rw[decide_eq_true h0,show (!true)=false from rfl,cond_false] at hl
 by_cases h1:x.Producer<0
 ·rw[decide_eq_true h1] at hl;rw[←hl] at h;cases h
 by_cases h2:32≤x.Producer
 ·rw[decide_eq_false h1,decide_eq_true h2] at hl;rw[←hl] at h;cases h
 rw[decide_eq_false h1,decide_eq_false h2,cond_false,Option.bind_some,cond_false] at hl
 by_cases h3:x.Deposit<1
 ·rw[decide_eq_true h3] at hl;rw[←hl] at h;cases h
 by_cases h4:1000<x.Deposit
 ·rw[decide_eq_false h3,decide_eq_true h4] at hl;rw[←hl] at h;cases h
 rw[decide_eq_false h3,decide_eq_false h4,cond_false,Option.bind_some,cond_false] at hl
 by_cases h5:x.Material<0
 ·rw[decide_eq_true h5] at hl;rw[←hl] at h;cases h
 by_cases h6:16≤x.Material
 ·rw[decide_eq_false h5,decide_eq_true h6] at hl;rw[←hl] at h;cases h
 rw[decide_eq_false h5,decide_eq_false h6,cond_false,Option.bind_some,cond_false] at hl
 by_cases h7:x.Grams<1
 ·rw[decide_eq_true h7] at hl;rw[←hl] at h;cases h
 by_cases h8:10000<x.Grams
 ·rw[decide_eq_false h7,decide_eq_true h8] at hl;rw[←hl] at h;cases h
 exact ⟨by rw[hr,h0],by omega,by omega,by omega,by omega,by omega,by omega,by omega,by omega⟩
theorem QdW {x:Qb} (h:PrP x):ZL x 32 16=some 0:=by
 unfold ZL
 rw[QdJ h.c,Option.bind_some,decide_eq_true rfl,show (!true)=false from rfl,cond_false]
 have:=h.p0;have:=h.p1;have:=h.d0;have:=h.d1;have:=h.m0;have:=h.m1;have:=h.g0;have:=h.g1
 rw[decide_eq_false (show ¬x.Producer<0 by omega),decide_eq_false (show ¬32≤x.Producer by omega),cond_false,Option.bind_some,cond_false,decide_eq_false (show ¬x.Deposit<1 by omega),decide_eq_false (show ¬1000<x.Deposit by omega),cond_false,Option.bind_some,cond_false,decide_eq_false (show ¬x.Material<0 by omega),decide_eq_false (show ¬16≤x.Material by omega),cond_false,Option.bind_some,cond_false,decide_eq_false (show ¬x.Grams<1 by omega),decide_eq_false (show ¬10000<x.Grams by omega),cond_false,Option.bind_some,cond_false]
theorem Qem (x:Qb):Z6 [x] x.Code=some (0,true):=by
 have h:Zv x x.Code=some true:=by
  unfold Zv
  rw[decide_eq_true rfl]
 have h2: ∀v,v=0→QT [x] x.Code v=some (.inr (.inr 0)):=by
  rintro v rfl;unfold QT
  rw[decide_eq_true (by simp),cond_true,show YN [x] 0=some x from rfl,Option.bind_some,h,Option.bind_some,cond_true]
 unfold Z6 Ye
 rw[show (((([x]:List Qb).length:Nat):Int).toNat+1)=1+1 from rfl,iter,h2 0 rfl]
 rfl
theorem QdI {x:Qb} (h:PrP x):ZJ [x] 32 16=some 0:=by
 have h1:Za [x] 32 16 0=some (.inl 1):=by
  unfold Za
  rw[decide_eq_true (by simp),cond_true,show YN [x] 0=some x from rfl,Option.bind_some,QdW h]
  rfl
 have h2:YI [x] 0=some (.inl 1):=by
  unfold YI
  rw[decide_eq_true (by simp),cond_true,show YN [x] 0=some x from rfl,Option.bind_some,Qem]
  rfl
 have h3:iter (Za [x] 32 16) (1+1) 0=some (.inl ()):=by rw[iter,h1];rfl
 have h4:iter (YI [x]) (1+1) 0=some (.inl ()):=by rw[iter,h2];rfl
 unfold ZJ
 rw[show (((([x]:List Qb).length:Nat):Int).toNat+1)=1+1 from rfl,decide_eq_false (by simp),cond_false,h3,Option.bind_some]
 show Option.bind (iter (YI [x]) (1+1) 0) _=_
 rw[h4]
 rfl
end Go.Proofs.Ytfdjjdhnfaklbaa
namespace Go.Proofs.Ytfdjjdhnfaklbaa
set_option linter.unusedSimpArgs false
set_option linter.unusedVariables false
theorem Qbg (l:List Qg) (s:Int):YE l s=Zw l s:=rfl
theorem Qen {l:List Qg} (s:Int) (hn:l.length≤1000): ∃i b,Zw l s=some (i,b):=by
 unfold Zw;obtain ⟨o,e⟩:=tot (n:=l.length) (body:=Zx l s) (by omega) (fun k hk=>by
  obtain ⟨x,hx⟩:=Wo hk;obtain ⟨r,hr⟩:=Qau x s;have hr':ZQ x s=some r:=hr;unfold Zx
  rw[decide_eq_true (show (k:Int)<(l.length:Nat) by omega),cond_true,hx,Option.bind_some,hr',Option.bind_some]
  cases r with
  | true=>exact .inr ⟨_,rfl⟩
  | false=>exact .inl rfl) (by unfold Zx;rw[decide_eq_false (by omega),cond_false];exact ⟨_,rfl⟩)
 rw[show (((l.length:Nat):Int).toNat+1)=l.length+1 by omega,e,Option.bind_some]
 cases o with
 | inl u=>exact ⟨_,_,rfl⟩
 | inr r=>exact ⟨r.1,r.2,rfl⟩
def sold (l:List Qg) (s:Int):Prop:= ∃i,Zw l s=some (i,true)
theorem WE {l:List Int} {v:Int} (hn:l.length<9223372036854775807):Ya l v=some (decide (v∈l)):=by
 unfold Ya ZD;obtain ⟨o,e,q⟩:=Y2 l (fun (_:Unit) k=>k) (body:=YF l v) (fun _ k=>v∉l.take k) (fun o=>(o= .inl ()∧v∉l)∨(∃k:Nat,o= .inr (k:Int)∧v∈l))
  (by
   intro k x t hx hI;have hk:=QZ hx;unfold YF
   rw[decide_eq_true (show (k:Int)<(l.length:Nat) by omega),cond_true,YO,hx,Option.bind_some]
   by_cases h:v=x
   ·rw[decide_eq_true h,cond_true]
    exact .inr ⟨_,rfl,.inr ⟨k,rfl,by rw[h];exact List.mem_of_getElem? hx⟩⟩
   ·rw[decide_eq_false h,cond_false,YC (by omega)]
    refine .inl ⟨(),rfl,?_⟩
    rw[JO hx]
    simp[hI,h])
  (by
   intro t hI
   rw[List.take_length] at hI
   refine ⟨_,?_,.inl ⟨rfl,hI⟩⟩;unfold YF
   rw[decide_eq_false (by omega),cond_false]) (((l.length:Nat):Int).toNat+1) () (by simp) (by omega)
 rw[e,Option.bind_some]
 rcases q with ⟨rfl,q⟩ | ⟨k,rfl,q⟩
 ·simp only[ZE]
  rw[Option.bind_some,decide_eq_false q]
  rfl
 ·simp only[ZE]
  rw[Option.bind_some,decide_eq_true q,decide_eq_true (by omega)]
structure Qbh (sales:List Qg) (ps:List Int) (b:Int) (out:List Int) (k:Nat):Prop where
 rng: ∀s∈out,b*16≤s∧s<b*16+k
 sold: ∀s∈out,sold sales s
 new: ∀s∈out,s∉ps
 inc:out.Pairwise (· < ·)
 len:out.length≤k
theorem Qfk {sales:List Qg} {ps:List Int} {b:Int} (h0:0≤b) (h1:b<64) (hs:sales.length≤1000) (hp:ps.length<9223372036854775807): ∃out,Ju sales ps b=some (out,0)∧Qbh sales ps b out 16:=by
 unfold Ju
 rw[decide_eq_false (by omega),decide_eq_false (by omega),cond_false,Option.bind_some,cond_false]
 obtain ⟨
     o,e,q⟩:=Y2 (List.replicate 16 ()) (fun (s:List Int) k=>(s,k)) (body:=Zy sales ps b) (fun s k=>Qbh sales ps b s k) (fun o=>Qbh sales ps b o 16)
  (by
   intro k x t hx hI;have hk:=QZ hx
   rw[List.length_replicate] at hk
   have hw:w64 (w64 (b*16)+(k:Int))=b*16+k:=by rw[Zn (n:=b*16) (by omega) (by omega),Zn (by omega) (by omega)]
   obtain ⟨i,r,hr⟩:=Qen (l:=sales) (b*16+k) hs;have hno:Qbh sales ps b t (k+1):=⟨fun s h=>by have:=hI.rng s h;omega,hI.sold,hI.new,hI.inc,by have:=hI.len;omega⟩
   unfold Zy
   simp only[oun]
   rw[decide_eq_true (show (k:Int)<16 by omega),cond_true,hw,hr,Option.bind_some]
   simp only[oun]
   cases r with
   | false =>
    rw[cond_false,Option.bind_some,cond_false,Option.bind_some,YC (by omega)]
    exact .inl ⟨t,rfl,hno⟩
   | true =>
    rw[cond_true,WE hp,Option.bind_some,Option.bind_some]
    by_cases hm:b*16+(k:Int)∈ps
    ·rw[decide_eq_true hm,show (!true)=false from rfl,cond_false,Option.bind_some,YC (by omega)]
     exact .inl ⟨t,rfl,hno⟩
    ·have hlen:=hI.len
     rw[decide_eq_false hm,show (!false)=true from rfl,cond_true,Wh (by simp;omega),Option.bind_some,Option.bind_some,YC (by omega)]
     refine .inl ⟨_,rfl,?_,?_,?_,?_,?_⟩
     ·intro s h;rcases List.mem_append.1 h with h | h
      ·have:=hI.rng s h;omega
      ·simp at h;omega
     ·intro s h;rcases List.mem_append.1 h with h | h
      ·exact hI.sold s h
      ·simp at h;subst h;exact ⟨i,hr⟩
     ·intro s h;rcases List.mem_append.1 h with h | h
      ·exact hI.new s h
      ·simp at h;subst h;exact hm
     ·rw[List.pairwise_append]
      refine ⟨hI.inc,by simp,fun s h y hy=> ?_⟩
      simp at hy
      have:=hI.rng s h
      omega
     ·simp;omega)
  (by
   intro t hI
   rw[List.length_replicate] at hI ⊢
   refine ⟨t,?_,hI⟩;unfold Zy
   simp only[oun]
   rw[decide_eq_false (by omega),cond_false]) ((16:Int).toNat+1) [] ⟨by simp,by simp,by simp,List.Pairwise.nil,by simp⟩ (by simp)
 rw[e,Option.bind_some]
 exact ⟨o,rfl,q⟩
def Y5 (o:Qe) (n:Nat) (l:Qh):Prop:=o.history.leases[n]? =some l∧o.history.returned[n]? =some false
theorem Qav {o:Qe} (b:Int) (hl:o.history.leases.length=o.history.returned.length) (hn:o.history.leases.length≤1000) :
  (∃(n:Nat) (l:Qh),QC o b=some ((n:Int),true)∧Y5 o n l∧l.Block=b)∨(QC o b=some (0,false)∧ ∀n l,Y5 o n l→l.Block≠b):=by
 unfold QC;obtain ⟨
     o',e,q⟩:=Y2 o.history.leases (fun (_:Unit) k=>k) (body:=QU o b) (fun _ k=> ∀n l,n<k→Y5 o n l→l.Block≠b)
  (fun o'=>(∃(n:Nat) (l:Qh),o'= .inr ((n:Int),true)∧Y5 o n l∧l.Block=b)∨(o'= .inl ()∧ ∀n l,Y5 o n l→l.Block≠b))
  (by
   intro k x t hx hI;have hk:=QZ hx;unfold QU
   rw[decide_eq_true (show (k:Int)<(o.history.leases.length:Nat) by omega),cond_true,YO,hx,Option.bind_some]
   by_cases h:x.Block=b
   case neg =>
    rw[decide_eq_false h,cond_false,Option.bind_some,cond_false,YC (by omega)]
    refine .inl ⟨(),rfl,fun n l hn ho=> ?_⟩
    by_cases hnk:n=k
    ·subst hnk;have:=ho.1
     rw[hx] at this;cases this;exact h
    ·exact hI n l (by omega) ho
   obtain ⟨r,hr⟩: ∃r,o.history.returned[k]? =some r:=⟨_,List.getElem?_eq_getElem (by omega)⟩
   rw[decide_eq_true h,cond_true,YO,hr,Option.bind_some,Option.bind_some]
   cases r with
   | false=>exact .inr ⟨_,rfl,.inl ⟨k,x,rfl,⟨hx,hr⟩,h⟩⟩
   | true =>
    rw[show (!true)=false from rfl,cond_false,YC (by omega)]
    refine .inl ⟨(),rfl,fun n l hn ho=> ?_⟩
    by_cases hnk:n=k
    ·subst hnk;have:=ho.2
     rw[hr] at this;cases this
    ·exact hI n l (by omega) ho)
  (by
   intro t hI;refine ⟨_,?_,.inr ⟨rfl,fun n l ho=>hI n l (QZ ho.1) ho⟩⟩;unfold QU
   rw[decide_eq_false (by omega),cond_false]) (((o.history.leases.length:Nat):Int).toNat+1) () (fun n l h=>by omega) (by omega)
 rw[e,Option.bind_some]
 rcases q with ⟨n,l,rfl,h1,h2⟩ | ⟨rfl,h⟩
 ·exact .inl ⟨n,l,rfl,h1,h2⟩
 ·exact .inr ⟨rfl,h⟩
theorem Qc0 {o:Qe} (b:Int) (hn:o.history.leases.length≤1000): ∃g,Yg o b=some g∧0≤g∧g≤1000:=by
 unfold Yg;obtain ⟨o',e,q⟩:=Y2 o.history.leases (fun (s:Int) k=>(s,k)) (body:=QV o b) (fun s k=>0≤s∧s≤k) (fun s=>0≤s∧s≤1000)
  (by
   intro k x t hx hI;have hk:=QZ hx;unfold QV
   simp only[oun]
   rw[decide_eq_true (show (k:Int)<(o.history.leases.length:Nat) by omega),cond_true,YO,hx,Option.bind_some,YC (by omega)]
   by_cases h:x.Block=b
   ·rw[decide_eq_true h,cond_true,Option.bind_some,Zn (by omega) (by omega)]
    exact .inl ⟨_,rfl,by omega⟩
   ·rw[decide_eq_false h,cond_false,Option.bind_some]
    exact .inl ⟨_,rfl,by omega⟩)
  (by
   intro t hI;refine ⟨t,?_,by omega⟩;unfold QV
   simp only[oun]
   rw[decide_eq_false (by omega),cond_false]) (((o.history.leases.length:Nat):Int).toNat+1) 0 (by omega) (by omega)
 rw[e,Option.bind_some]
 exact ⟨o',rfl,q⟩
theorem Qcj {b:Int} (h0:0≤b) (h1:b<64):ZV b=some true:=by
 unfold ZV
 rw[decide_eq_true h0,decide_eq_true h1];rfl
theorem QbC {t:Int} (h0:0≤t) (h1:t≤3155759999):Yw t=some true:=by
 unfold Yw
 rw[decide_eq_true h0,decide_eq_true h1];rfl
structure OfP (o:Qe) (sales:List Qg) (now:Int):Prop where
 hl:o.history.leases.length=o.history.returned.length
 hk:o.history.leases.length≤100
 sa:o.sales=sales
 sn:sales.length≤10
 l0:1≤o.length
 l1:o.length≤86400
 n0:0≤o.now
 n1:o.now≤now
 n2:now≤1000000
 pl:o.paid.length≤10000
 pr: ∀s,(Qq s o.paid).isSome=true→0≤s∧s≤1023
theorem OfP.wf {o:Qe} {sales:List Qg} {now:Int} (h:OfP o sales now):QaK o.paid=some (YW (o.paid.map Prod.fst)):=by
 unfold QaK
 rw[if_pos]
 refine ⟨by have:=h.pl;omega,fun p hp=> ?_⟩;have:=h.pr p.1 (Js.2 (List.mem_map.2 ⟨p,hp,rfl⟩));exact QgO (by omega) (by omega)
theorem Qeo {o:Qe} {sales:List Qg} {b i now:Int} (h:OfP o sales now) (b0:0≤b) (b1:b<64) (i0:0≤i) (i1:i<8) :
  (∃l e,Qy o b i now=some (l,e,o)∧e≠0) ∨
  ∃g out,(∀n l,Y5 o n l→l.Block≠b)∧Qbh sales (YW (o.paid.map Prod.fst)) b out 16∧0≤g ∧
   Qy o b i now=some (⟨b,i,g+1,⟨now,now+o.length⟩,out⟩,0,⟨⟨o.history.leases++[⟨b,i,g+1,⟨now,now+o.length⟩,out⟩],o.history.returned++[false]⟩,o.sales,o.length,now,o.paid⟩):=by
 have:=h.hk;have:=h.n0;have:=h.n1;have:=h.n2;have:=h.l0;have:=h.l1;have:=h.hl;unfold Qy
 rw[Qcj b0 b1,Option.bind_some,show (!true)=false from rfl,cond_false,decide_eq_false (show ¬i<0 by omega),cond_false,decide_eq_false (show ¬8≤i by omega),cond_false,QbC (by omega) (by omega),Option.bind_some,Option.bind_some,show (!true)=false from rfl,cond_false,decide_eq_false (show ¬now<o.now by omega),cond_false]
 rcases Qav (o:=o) b h.hl (by omega) with ⟨n,l,e,_⟩ | ⟨e,hno⟩
 ·rw[e,Option.bind_some]
  exact .inl ⟨_,_,rfl,by decide⟩
 rw[e,Option.bind_some]
 rw[Qn]
 obtain ⟨g,hg,g0,g1⟩:=Qc0 (o:=o) b (by omega);have hlen:(YW (o.paid.map Prod.fst)).length<9223372036854775807:=by rw[ZA,List.length_map];have:=h.pl;omega
 obtain ⟨out,ho,hp⟩:=Qfk (sales:=o.sales) (b:=b) b0 b1 (by rw[h.sa];have:=h.sn;omega) hlen
 rw[h.sa] at hp
 have hol:=hp.len
 rw[cond_false,decide_eq_false (show ¬512≤((o.history.leases.length:Nat):Int) by omega),cond_false,h.wf,Option.bind_some,ho,Option.bind_some]
 rw[Qn]
 rw[decide_eq_true (rfl:(0:Int)=0),show (!true)=false from rfl,cond_false,hg,Option.bind_some,Option.bind_some]
 rw[Qn]
 rw[Zn (n:=g+1) (by omega) (by omega),Zn (n:=now+o.length) (by omega) (by omega),show min (now+o.length) 3155760000=now+o.length by omega,Wh (by simp;omega),Option.bind_some,Wh (by simp;omega),Option.bind_some]
 refine .inr ⟨g,out,hno,hp,g0,?_⟩;unfold JG Wi
 simp only[]
 rw[if_pos (by omega),Option.bind_some,Option.bind_some]
theorem Qc5 {α:Type} {l:List α} {k:Nat} {x:α} (h:l.Nodup) (hx:l[k]? =some x):x∉l.take k:=by
 have h2:(l.take (k+1)).Nodup:=h.sublist (List.take_sublist _ _)
 rw[JO hx,List.nodup_append] at h2
 intro hm;exact h2.2.2 x hm x (by simp) rfl
theorem Qfq {l:Qh} {ps:List Int} (ho:l.Open.length≤1000) (hn:ps.length≤1000) (h1: ∀s∈ps,s∈l.Open) (h2:ps.Nodup):JJ l ps=some 0:=by
 unfold JJ;obtain ⟨o,e,rfl⟩:=Y2 ps (fun (s:List (Int×Bool)×Bool) k=>(s.1,s.2,k)) (body:=ZI l ps) (fun s k=>s.2=false∧ ∀y,(Qq y s.1).isSome=true→y∈ps.take k) (fun o=>o= .inl false)
  (by
   intro k x t hx hI;have hk:=QZ hx;unfold ZI
   simp only[oun]
   have hne:Qq x t.1=none:=by
    cases hm:Qq x t.1 with
    | none=>rfl
    | some v=>exact absurd (hI.2 x (by rw[hm];rfl)) (Qc5 h2 hx)
   rw[decide_eq_true (show (k:Int)<(ps.length:Nat) by omega),cond_true,YO,hx,Option.bind_some,WE (by omega),Option.bind_some,decide_eq_true (h1 x (List.mem_of_getElem? hx)),show (!true)=false from rfl,cond_false,hI.1,cond_false,Option.bind_some,hne,YC (by omega)]
   refine .inl ⟨(Q4 x true t.1,false),rfl,rfl,fun y hy=> ?_⟩
   rw[JO hx]
   by_cases hyx:y=x
   ·subst hyx;simp
   ·have hy':(Qq y (Q4 x true t.1)).isSome=true:=hy
    rw[ZB hyx] at hy'
    exact List.mem_append_left _ (hI.2 y hy'))
  (by
   intro t hI;refine ⟨_,?_,rfl⟩;unfold ZI
   simp only[oun]
   rw[decide_eq_false (by omega),cond_false,hI.1]) (((ps.length:Nat):Int).toNat+1) ([],false) ⟨rfl,fun y hy=>by simp[Qq] at hy⟩ (by omega)
 rw[e,Option.bind_some]
 rfl
def ZF (ps:List Int) (m:List (Int×Bool)):List (Int×Bool):=ps.foldl (fun m s=>Q4 s true m) m
theorem JM (y:Int): ∀(ps:List Int) (m:List (Int×Bool)),(Qq y (ZF ps m)).isSome=true↔y∈ps∨(Qq y m).isSome=true
 | [],m=>by simp[ZF]
 | x::ps,m=>by
  have ih:=JM y ps (Q4 x true m)
  show (Qq y (ZF ps (Q4 x true m))).isSome=true↔_
  rw[ih]
  by_cases h:y=x
  ·subst h;simp[YP]
  ·rw[ZB h];simp[h]
theorem QeV {β:Type} {k:Int} {v:β} (m:List (Int×β)):(Q4 k v m).length≤m.length+1:=by
 have:=congrArg List.length (VI (k:=k) (v:=v) m)
 split at this<;>simp at this<;>omega
theorem QaV: ∀(ps:List Int) (m:List (Int×Bool)),(ZF ps m).length≤m.length+ps.length
 | [],m=>by simp[ZF]
 | x::ps,m=>by
  have ih:=QaV ps (Q4 x true m);have:=QeV (k:=x) (v:=true) m
  show (ZF ps (Q4 x true m)).length≤_
  simp;omega
theorem QdQ {o:Qe} {sales:List Qg} {b now:Int} {n:Nat} {l:Qh} {ps:List Int} (h:OfP o sales now) (b0:0≤b) (b1:b<64) (ho:Y5 o n l) (hb:l.Block=b)
  (hu: ∀n' l',Y5 o n' l'→l'.Block=b→n'=n) (hol:l.Open.length≤1000) (hn:ps.length≤1000) (h1: ∀s∈ps,s∈l.Open) (h2:ps.Nodup) :
  ∃l',Q8 o b l.Epoch ps now=some (0,⟨⟨o.history.leases.set n l',o.history.returned.set n true⟩,o.sales,o.length,now,ZF ps o.paid⟩):=by
 have:=h.hk;have:=h.n0;have:=h.n1;have:=h.n2;have:=h.l0;have:=h.l1;have:=h.hl;unfold Q8
 rw[Qcj b0 b1,Option.bind_some,show (!true)=false from rfl,cond_false,QbC (by omega) (by omega),Option.bind_some,Option.bind_some,show (!true)=false from rfl,cond_false,decide_eq_false (show ¬now<o.now by omega),cond_false]
 rcases Qav (o:=o) b h.hl (by omega) with ⟨n',l',e,ho',hb'⟩ | ⟨e,hno⟩
 case inr=>exact absurd hb (hno n l ho)
 obtain rfl:n'=n:=hu n' l' ho' hb';obtain rfl:l'=l:=by have h3:=ho.1;rw[ho'.1] at h3;cases h3;rfl
 rw[e,Option.bind_some]
 rw[Qn]
 rw[show (!true)=false from rfl,cond_false,YO,ho.1,Option.bind_some,decide_eq_true rfl,show (!true)=false from rfl,Option.bind_some,cond_false,Option.bind_some,Qfq hol hn h1 h2,Option.bind_some,decide_eq_true rfl,show (!true)=false from rfl,cond_false]
 obtain ⟨o',e',rfl⟩:=Y2 ps (fun (m:List (Int×Bool)) k=>(m,k)) (body:=Yp ps) (fun m k=>m=ZF (ps.take k) o.paid) (fun m=>m=ZF ps o.paid)
  (by
   intro k x t hx hI;have hk:=QZ hx;unfold Yp
   simp only[oun]
   rw[decide_eq_true (show (k:Int)<(ps.length:Nat) by omega),cond_true,YO,hx,Option.bind_some,YC (by omega)]
   refine .inl ⟨_,rfl,?_⟩
   rw[hI,JO hx]
   simp[ZF])
  (by
   intro t hI
   rw[List.take_length] at hI
   refine ⟨t,?_,hI⟩;unfold Yp
   simp only[oun]
   rw[decide_eq_false (by omega),cond_false]) (((ps.length:Nat):Int).toNat+1) o.paid (by simp[ZF]) (by omega)
 rw[e',Option.bind_some,Option.bind_some,YO,ho.2,Option.bind_some]
 exact ⟨_,by unfold Qee;rw[Int.toNat_natCast]⟩
end Go.Proofs.Ytfdjjdhnfaklbaa
namespace Go.Proofs.Ytfdjjdhnfaklbaa
set_option linter.unusedSimpArgs false
set_option linter.unusedVariables false
theorem Qcb {s:Int} (h0:0≤s) (h1:s≤100000):ZC s=some (s/16):=by
 unfold ZC
 rw[decide_eq_false (by omega),cond_false,Int.tdiv_eq_ediv_of_nonneg h0,Zn (by omega) (by omega)]
theorem Qfh {F:Nat} (hF:64≤F) {m:Qa} {l:Qh} {sales:List Qg} {ps:List Int} (b0:0≤l.Block) (b1:l.Block<64) (e:1≤l.Epoch) (w0:0≤l.When.From) (w1:l.When.From≤l.When.To) (w2:l.When.To≤3155760000)
  (ho:Qbh sales ps l.Block l.Open 16) (hm:l.Machine=m.id) (hg:Qq l.Block m.leases=none):QQ F m l=some (0,⟨m.id,m.skew,m.products,Q4 l.Block (some ⟨l,[]⟩) m.leases,m.log,m.total⟩):=by
 have hlen:=ho.len;unfold QQ
 rw[decide_eq_false (show ¬l.Block<0 by omega),decide_eq_false (show ¬64≤l.Block by omega),decide_eq_false (show ¬l.Epoch<1 by omega),decide_eq_false (show ¬l.When.From<0 by omega),decide_eq_false (show ¬l.When.To<l.When.From by omega),decide_eq_false (show ¬3155760000<l.When.To by omega),cond_false,cond_false,cond_false,cond_false,cond_false,cond_false]
 obtain ⟨o1,e1,rfl⟩:=Y2 l.Open (fun (_:Unit) k=>k) (body:=YB m l) (fun _ _=>True) (fun o=>o= .inl ())
  (by
   intro k x t hx _;have hk:=QZ hx;have hr:=ho.rng x (List.mem_of_getElem? hx);unfold YB
   rw[decide_eq_true (show (k:Int)<(l.Open.length:Nat) by omega),cond_true,YO,hx,Option.bind_some,Qcb (by omega) (by omega),Option.bind_some,decide_eq_true (by omega),show (!true)=false from rfl,cond_false,YC (by omega)]
   exact .inl ⟨(),rfl,trivial⟩)
  (by
   intro t _;refine ⟨_,?_,rfl⟩;unfold YB
   rw[decide_eq_false (by omega),cond_false]) (((l.Open.length:Nat):Int).toNat+1) () trivial (by omega)
 rw[e1,Option.bind_some]
 simp only[ZE]
 obtain ⟨o2,e2,rfl⟩:=Y2 (List.replicate (l.Open.length-1) ()) (fun (_:Unit) k=>k+1) (body:=Ym m l) (fun _ _=>True) (fun o=>o= .inl ())
  (by
   intro k x t hx _;have hk:=QZ hx
   rw[List.length_replicate] at hk
   have h1:l.Open[k+1]? =some l.Open[k+1]:=List.getElem?_eq_getElem (by omega);have h2:l.Open[k]? =some l.Open[k]:=List.getElem?_eq_getElem (by omega);have hlt:=(List.pairwise_iff_getElem.1 ho.inc) k (k+1) (by omega) (by omega) (by omega);unfold Ym
   rw[show (k:Int)+1=((k+1:Nat):Int) by omega,decide_eq_true (show ((k+1:Nat):Int)<(l.Open.length:Nat) by omega),cond_true,YO,h1,Option.bind_some,Zn (n:=((k+1:Nat):Int)-1) (by omega) (by omega),show ((k+1:Nat):Int)-1=(k:Int) by omega,YO,h2,Option.bind_some,decide_eq_false (by omega),cond_false,YC (by omega)]
   exact .inl ⟨(),by rw[show ((k+1+1:Nat):Int)=((k+1:Nat):Int)+1 by omega],trivial⟩)
  (by
   intro t _;refine ⟨_,?_,rfl⟩
   rw[List.length_replicate]
   unfold Ym
   rw[decide_eq_false (by omega),cond_false]) F () trivial (by rw[List.length_replicate];omega)
 rw[show iter (Ym m l) F 1=some (.inl ()) from e2,Option.bind_some]
 simp only[]
 rw[decide_eq_true hm,show (!true)=false from rfl,cond_false,hg,show (none:Option (Option Yf)).isSome=false from rfl,cond_false]
 unfold Wi
 rw[if_pos (by omega),Option.bind_some]
structure MaP (x:Qb) (m:Qa) (skew:Int):Prop where
 sk:m.skew=skew
 pr:m.products=[x]
 lg:m.log.length≤100
 t0:0≤m.total
 t1:m.total≤100000
theorem QeO {x:Qb} {m:Qa} {s g t:Int} (h:m.products=[x]):YU m ⟨s,0,g,t⟩=some 0:=by
 unfold YU
 rw[h]
 rfl
theorem Qek {x:Qb} {m:Qa} {s t:Int} (hx:PrP x) (h:m.products=[x]):YG m ⟨s,0,x.Grams,t⟩=some 0:=by
 have:=hx.g0;have:=hx.g1;have hf:Z7 x x.Grams=some true:=by
  unfold Z7
  rw[decide_eq_false (by omega),cond_false,Option.bind_some,cond_false,Int.tdiv_eq_ediv_of_nonneg (by omega),show max x.Grams x.Grams-min x.Grams x.Grams=0 by omega,Zn (n:=0) (by omega) (by omega),Zn (n:=x.Grams/8) (by omega) (by omega),decide_eq_true (by omega)]
 unfold YG
 rw[h]
 show Option.bind (some x) _=_
 rw[Option.bind_some,hf,Option.bind_some]
 rfl
theorem QeI {m:Qa} (z:Qw) (hl:m.log.length≤1000):Yv m z=some 28∨(Yv m z=some 0∧ ∀c∈m.log,c.Serial≠z.Serial):=by
 unfold Yv Yc Yr;obtain ⟨o,e,q⟩:=Y2 m.log (fun (_:Unit) k=>k) (body:=QI m.log z) (fun _ k=> ∀c∈m.log.take k,c.Serial≠z.Serial)
  (fun o=>(∃k:Nat,o= .inr (k:Int))∨(o= .inl ()∧ ∀c∈m.log,c.Serial≠z.Serial))
  (by
   intro k x t hx hI;have hk:=QZ hx;unfold QI Y4
   rw[decide_eq_true (show (k:Int)<(m.log.length:Nat) by omega),cond_true,YO,hx,Option.bind_some,Option.bind_some]
   by_cases h:x.Serial=z.Serial
   ·rw[decide_eq_true h,cond_true]
    exact .inr ⟨_,rfl,.inl ⟨k,rfl⟩⟩
   ·rw[decide_eq_false h,cond_false,YC (by omega)]
    refine .inl ⟨(),rfl,fun c hc=> ?_⟩
    rw[JO hx] at hc
    rcases List.mem_append.1 hc with hc | hc
    ·exact hI c hc
    ·simp at hc;subst hc;exact h)
  (by
   intro t hI
   rw[List.take_length] at hI
   refine ⟨_,?_,.inr ⟨rfl,hI⟩⟩;unfold QI
   rw[decide_eq_false (by omega),cond_false]) (((m.log.length:Nat):Int).toNat+1) () (by simp) (by omega)
 rw[e,Option.bind_some]
 rcases q with ⟨k,rfl⟩ | ⟨rfl,q⟩
 ·left
  simp only[ZE]
  rw[Option.bind_some,Option.bind_some,decide_eq_true (by omega),cond_true]
 ·exact .inr ⟨rfl,q⟩
theorem QaR (t:Int): ∃r,Yw t=some r:=by
 unfold Yw;cases decide (0≤t)<;>exact ⟨_,rfl⟩
theorem Qdh (w:QJ): ∃r,Z4 w=some r:=by
 unfold Z4;cases decide (0≤w.From)<;>cases decide (w.From≤w.To)<;>exact ⟨_,rfl⟩
theorem Qfi (l:Qh) (s t:Int): ∃r,J2 l s t=some r:=by
 unfold J2;obtain ⟨a,ha⟩:=QaR s;obtain ⟨b,hb⟩:=Qdh l.When;obtain ⟨c,hc⟩:=QaR t
 rw[ha,hb,hc]
 cases a<;>cases b<;>cases c<;>try exact ⟨_,rfl⟩
 cases decide (l.When.From≤w64 (t-s))<;>exact ⟨_,rfl⟩
theorem QdN {x:Qb} {m:Qa} {skew s t:Int} (hx:PrP x) (h:MaP x m skew) (s0:0≤s) (s1:s≤1023) (t0:0≤t) (t1:t≤3155759999)
  (hv: ∀b v,Qq b m.leases=some v→ ∃q:Yf,v=some q∧q.lease.Open.length≤1000∧q.paid.length≤1000) :
  ∃d m',QN m ⟨s,0,x.Grams,t⟩=some (d,0,m') ∧
   (
    (d.Kind≠1∧m'.id=m.id∧m'.skew=m.skew∧m'.products=m.products∧m'.leases=m.leases∧m'.total=m.total∧(m'.log=m.log∨ ∃c,m'.log=m.log++[c])) ∨
    (
    d.Kind=1∧d.Amount=x.Deposit∧(∀c∈m.log,c.Serial≠s)∧ ∃(q:Yf) (c:Qz),Qq (s/16) m.leases=some (some q)∧s∈q.lease.Open∧c.Serial=s ∧
    m'=⟨m.id,m.skew,m.products,Q4 (s/16) (some ⟨q.lease,q.paid++[s]⟩) m.leases,m.log++[c],m.total+x.Deposit⟩)):=by
 have:=hx.g0;have:=hx.g1;have hlg:=h.lg;have:=h.t0;have:=h.t1;have:=hx.d0;have:=hx.d1;unfold QN
 simp only[]
 rw[decide_eq_false (show ¬s<0 by omega),decide_eq_false (show ¬1073741824<s by omega),decide_eq_false (show ¬x.Grams<0 by omega),decide_eq_false (show ¬1073741824<x.Grams by omega),decide_eq_false (show ¬t<0 by omega),decide_eq_false (show ¬3155759999<t by omega),cond_false,cond_false,cond_false,cond_false,cond_false,cond_false,
  QeO h.pr,Option.bind_some,decide_eq_true (rfl:(0:Int)=0),show (!true)=false from rfl,cond_false,Qek hx h.pr,Option.bind_some,decide_eq_true (rfl:(0:Int)=0),show (!true)=false from rfl,cond_false]
 rcases QeI (m:=m) ⟨s,0,x.Grams,t⟩ (by omega) with e | ⟨e,hf⟩
 ·rw[e,Option.bind_some,decide_eq_false (by decide),show (!false)=true from rfl,cond_true]
  exact ⟨_,_,rfl,.inl ⟨by decide,rfl,rfl,rfl,rfl,rfl,.inl rfl⟩⟩
 rw[e,Option.bind_some,decide_eq_true (rfl:(0:Int)=0),show (!true)=false from rfl,cond_false,Qcb s0 (by omega),Option.bind_some]
 have hap: ∀c:Qz,Vd m.log [c]=some (m.log++[c]):=fun c=>Wh (by simp;omega);have h512:decide (512≤((m.log.length:Nat):Int))=false:=decide_eq_false (by omega);cases hm:Qq (s/16) m.leases with
 | none =>
  rw[show (none:Option (Option Yf)).isSome=false from rfl,cond_false,h512,cond_false,hap,Option.bind_some]
  exact ⟨_,_,rfl,.inl ⟨by decide,rfl,rfl,rfl,rfl,rfl,.inr ⟨_,rfl⟩⟩⟩
 | some v =>
  obtain ⟨q,rfl,q1,q2⟩:=hv _ _ hm;have hg:JW (s/16) m.leases=some q:=by unfold JW;rw[hm]
  obtain ⟨r,hr⟩:=Qfi q.lease m.skew t
  rw[show (some (some q)).isSome=true from rfl,cond_true,hg,Option.bind_some,hr,Option.bind_some]
  cases r with
  | false =>
   rw[show (!false)=true from rfl,cond_true,h512,cond_false,hap,Option.bind_some]
   exact ⟨_,_,rfl,.inl ⟨by decide,rfl,rfl,rfl,rfl,rfl,.inr ⟨_,rfl⟩⟩⟩
  | true =>
   rw[show (!true)=false from rfl,cond_false,WE (by omega),Option.bind_some]
   by_cases ho:s∈q.lease.Open
   ·rw[decide_eq_true ho,show (!true)=false from rfl,cond_false,h512,cond_false,hap,Option.bind_some,Wh (by simp;omega),Option.bind_some,h.pr,show YN [x] 0=some x from rfl,Option.bind_some,Zn (n:=m.total+x.Deposit) (by omega) (by omega)]
    exact ⟨_,_,rfl,.inr ⟨rfl,rfl,hf,q,_,rfl,ho,rfl,rfl⟩⟩
   ·rw[decide_eq_false ho,show (!false)=true from rfl,cond_true]
    exact ⟨_,_,rfl,.inl ⟨by decide,rfl,rfl,rfl,rfl,rfl,.inl rfl⟩⟩
theorem QdL {m:Qa} {b:Int} (h:Qq b m.leases=none):QH m b=some (0,[],29,m):=by
 unfold QH
 rw[h]
 rfl
theorem QdM {m:Qa} {b:Int} {q:Yf} (h:Qq b m.leases=some (some q)) (hl:q.paid.length≤1000):QH m b=some (q.lease.Epoch,YW q.paid,0,⟨m.id,m.skew,m.products,ZX b m.leases,m.log,m.total⟩):=by
 have hg:JW b m.leases=some q:=by unfold JW;rw[h]
 unfold QH
 rw[h,show (some (some q)).isSome=true from rfl,cond_true,hg,Option.bind_some]
 unfold QbL
 rw[if_pos (by omega),Option.bind_some]
theorem QcP {l:List Int} {n:Int} (hl:l.length≤1000) (h:n∉l):Yu l n=some 0:=by
 unfold Yu;obtain ⟨o,e,rfl⟩:=Y2 l (fun (s:Int) k=>(s,k)) (body:=Yt l n) (fun s _=>s=0) (fun s=>s=0)
  (by
   intro k x t hx hI;have hk:=QZ hx;have hne:x≠n:=fun h2=>h (h2▸List.mem_of_getElem? hx);unfold Yt
   simp only[oun]
   rw[decide_eq_true (show (k:Int)<(l.length:Nat) by omega),cond_true,YO,hx,Option.bind_some,decide_eq_false hne,cond_false,Option.bind_some,YC (by omega)]
   exact .inl ⟨t,rfl,hI⟩)
  (by
   intro t hI;refine ⟨t,?_,hI⟩;unfold Yt
   simp only[oun]
   rw[decide_eq_false (by omega),cond_false]) (((l.length:Nat):Int).toNat+1) 0 rfl (by omega)
 rw[e,Option.bind_some]
theorem QbB {β:Type} {b c:Int} {m:List (Int×β)} (h:(m.map Prod.fst).Nodup):Qq c (ZX b m)=if c=b then none else Qq c m:=by
 induction m with
 | nil=>simp[ZX,Qq]
 | cons p r ih =>
  simp only[List.map_cons,List.nodup_cons] at h
  unfold ZX
  by_cases hp:p.1=b
  ·rw[if_pos hp]
   by_cases hc:c=b
   ·rw[if_pos hc]
    cases hm:Qq c r with
    | none=>rfl
    | some v =>
     have:=Js.1 (show (Qq c r).isSome=true by rw[hm];rfl)
     rw[hc,←hp] at this
     exact absurd this h.1
   ·rw[if_neg hc]
    show _=if p.1=c then some p.2 else Qq c r
    rw[if_neg (by omega)]
  ·rw[if_neg hp]
   show (if p.1=c then some p.2 else Qq c (ZX b r))=if c=b then none else if p.1=c then some p.2 else Qq c r
   rw[ih h.2]
   by_cases hc:c=b
   ·rw[if_pos hc,if_neg (by omega),if_pos hc]
   ·rw[if_neg hc,if_neg hc]
theorem Qc4 {β:Type} {b:Int} {m:List (Int×β)} (h:(m.map Prod.fst).Nodup):((ZX b m).map Prod.fst).Nodup:=by
 rw[V0 b m h]
 exact Qb2 _ h
end Go.Proofs.Ytfdjjdhnfaklbaa
namespace Go.Proofs.Ytfdjjdhnfaklbaa
set_option linter.unusedSimpArgs false
set_option linter.unusedVariables false
structure LeP (sales:List Qg) (o:Qe) (l:Qh):Prop where
 b0:0≤l.Block
 b1:l.Block<64
 rng: ∀s∈l.Open,l.Block*16≤s∧s<l.Block*16+16
 sold: ∀s∈l.Open,sold sales s
 new: ∀s∈l.Open,Qq s o.paid=none
 len:l.Open.length≤16
structure HeP (o:Qe) (m:Qa) (i:Int) (k:Nat) (b:Int) (q:Yf) (n:Nat):Prop where
 ma:q.lease.Machine=i
 bl:q.lease.Block=b
 op:Y5 o n q.lease
 nd:q.paid.Nodup
 le:q.paid.length≤k
 pd: ∀s∈q.paid,s∈q.lease.Open∧ ∃c∈m.log,c.Serial=s
structure QdO (x:Qb) (skew:Int) (o:Qe) (m:Qa) (i:Int) (k:Nat):Prop where
 id:m.id=i
 sk:m.skew=skew
 pr:m.products=[x]
 lg:m.log.length≤k
 t0:0≤m.total
 t1:m.total≤1000*k
 nd:(m.leases.map Prod.fst).Nodup
 he: ∀b v,Qq b m.leases=some v→ ∃q n,v=some q∧HeP o m i k b q n
def Qfg (m:Qa) (s:Int):Prop:= ∃q,Qq (s/16) m.leases=some (some q)∧s∈q.paid
structure Wb (sales:List Qg) (x:Qb) (skew:Int) (o:Qe) (m m':Qa) (i j now:Int) (paid:List Int) (k:Nat):Prop where
 hl:o.history.leases.length=o.history.returned.length
 ok:o.history.leases.length≤k
 sa:o.sales=sales
 sn:sales.length≤10
 l0:1≤o.length
 l1:o.length≤86400
 n0:0≤o.now
 n1:o.now≤now
 n2:now≤10000*k
 pl:o.paid.length≤100*k
 pr: ∀s,(Qq s o.paid).isSome=true→0≤s∧s≤1023
 un: ∀n n' l l',Y5 o n l→Y5 o n' l'→l.Block=l'.Block→n=n'
 op: ∀n l,Y5 o n l→LeP sales o l
 a:QdO x skew o m i k
 b:QdO x skew o m' j k
 pk:paid.length≤k
 pd: ∀s∈paid,(Qq s o.paid).isSome=true∨Qfg m s∨Qfg m' s
 tt:m.total+m'.total=((paid.length:Nat):Int)*x.Deposit
variable {sales:List Qg} {x:Qb} {skew:Int} {o:Qe} {m m':Qa} {i j now:Int} {paid:List Int} {k:Nat}
theorem Wb.swap (h:Wb sales x skew o m m' i j now paid k):Wb sales x skew o m' m j i now paid k :=
 ⟨h.hl,h.ok,h.sa,h.sn,h.l0,h.l1,h.n0,h.n1,h.n2,h.pl,h.pr,h.un,h.op,h.b,h.a,h.pk,fun s hs=>by
  rcases h.pd s hs with h | h | h
  ·exact .inl h
  ·exact .inr (.inr h)
  ·exact .inr (.inl h),by rw[Int.add_comm];exact h.tt⟩
theorem HeP.up {b:Int} {q:Yf} {n:Nat} (h:HeP o m i k b q n):HeP o m i (k+1) b q n:=⟨h.ma,h.bl,h.op,h.nd,by have:=h.le;omega,h.pd⟩
theorem QdO.up (h:QdO x skew o m i k):QdO x skew o m i (k+1) :=
 ⟨h.id,h.sk,h.pr,by have:=h.lg;omega,h.t0,by have:=h.t1;omega,h.nd,fun b v hv=>by
  obtain ⟨q,n,h1,h2⟩:=h.he b v hv;exact ⟨q,n,h1,h2.up⟩⟩
theorem Wb.up (h:Wb sales x skew o m m' i j now paid k) {now':Int} (h1:now≤now') (h2:now'≤now+10000):Wb sales x skew o m m' i j now' paid (k+1) :=
 ⟨h.hl,by have:=h.ok;omega,h.sa,h.sn,h.l0,h.l1,h.n0,by have:=h.n1;omega,by have:=h.n2;omega,by have:=h.pl;omega,h.pr,h.un,h.op,h.a.up,h.b.up,by have:=h.pk;omega,h.pd,h.tt⟩
theorem Wb.of (h:Wb sales x skew o m m' i j now paid k) (hk:k<60) {now':Int} (h1:now≤now') (h2:now'≤now+10000):OfP o sales now' :=
 ⟨h.hl,by have:=h.ok;omega,h.sa,h.sn,h.l0,h.l1,h.n0,by have:=h.n1;omega,by have:=h.n2;omega,by have:=h.pl;omega,h.pr⟩
theorem QaU (hl:o.history.leases.length=o.history.returned.length) {L:Qh} {sl:List Qg} {len t:Int} {pm:List (Int×Bool)} {n:Nat} {l:Qh} :
  Y5 ⟨⟨o.history.leases++[L],o.history.returned++[false]⟩,sl,len,t,pm⟩ n l↔Y5 o n l∨(n=o.history.leases.length∧l=L):=by
 constructor
 ·rintro ⟨h1,h2⟩;rcases Qcw h1 with h1 | ⟨h1,h3⟩
  ·rcases Qcw h2 with h2 | ⟨h2,_⟩
   ·exact .inl ⟨h1,h2⟩
   ·have:=QZ h1;omega
  ·exact .inr ⟨h1,h3⟩
 ·rintro (⟨h1,h2⟩ | ⟨rfl,rfl⟩)
  ·exact ⟨by show (o.history.leases++[L])[n]? =_;rw[List.getElem?_append_left (QZ h1)];exact h1,by show (o.history.returned++[false])[n]? =_;rw[List.getElem?_append_left (QZ h2)];exact h2⟩
  ·exact ⟨by show (o.history.leases++[l])[o.history.leases.length]? =_;simp,by show (o.history.returned++[false])[o.history.leases.length]? =_;rw[hl];simp⟩
theorem QaF {F:Nat} (hF:64≤F) (h:Wb sales x skew o m m' i j now paid k) (hk:k<60) {b now':Int} (b0:0≤b) (b1:b<64) (i0:0≤i) (i1:i<8) (h1:now≤now') (h2:now'≤now+10000) :
  (∃l e,Qy o b i now'=some (l,e,o)∧e≠0) ∨
  ∃l o' m2,Qy o b i now'=some (l,0,o')∧QQ F m l=some (0,m2)∧Wb sales x skew o' m2 m' i j now' paid (k+1):=by
 have hof:=h.of hk h1 h2;rcases Qeo hof b0 b1 i0 i1 with h3 | ⟨g,out,hno,hp,g0,e⟩
 ·exact .inl h3
 have hn2:=hof.n2;have hn0:=hof.n0;have hn1:=hof.n1;have hl0:=hof.l0;have hl1:=hof.l1;have hfree:Qq b m.leases=none:=by
  cases hm:Qq b m.leases with
  | none=>rfl
  | some v =>
   obtain ⟨q,n,_,hq⟩:=h.a.he b v hm;exact absurd hq.bl (hno n _ hq.op)
 right
 generalize hL:(⟨b,i,g+1,⟨now',now'+o.length⟩,out⟩:Qh)=L at e
 have hLb:L.Block=b:=by rw[←hL]
 have hLo:L.Open=out:=by rw[←hL]
 have hLm:L.Machine=i:=by rw[←hL]
 have hlend:QQ F m L=some (0,⟨m.id,m.skew,m.products,Q4 L.Block (some ⟨L,[]⟩) m.leases,m.log,m.total⟩) :=
  Qfh hF (sales:=sales) (ps:=YW (o.paid.map Prod.fst)) (by rw[hLb];exact b0) (by rw[hLb];exact b1) (by rw[←hL];show 1≤g+1;omega) (by rw[←hL];show 0≤now';omega) (by rw[←hL];show now'≤now'+o.length;omega) (by rw[←hL];show now'+o.length≤3155760000;omega) (by rw[hLb,hLo];exact hp) (by rw[hLm,h.a.id]) (by rw[hLb];exact hfree)
 refine ⟨L,_,_,e,hlend,?_⟩
 rw[hLb]
 have hmono: ∀{n l},Y5 o n l→Y5 ⟨⟨o.history.leases++[L],o.history.returned++[false]⟩,o.sales,o.length,now',o.paid⟩ n l:=fun ho=>(QaU h.hl).2 (.inl ho);have hput: ∀{c v},c≠b→Qq c m.leases=v→Qq c (Q4 b (some ⟨L,[]⟩) m.leases)=v:=fun hc hv=>by rw[ZB hc,hv]
 refine ⟨by simp[h.hl],by have:=h.ok;simp;omega,h.sa,h.sn,h.l0,h.l1,by show 0≤now';omega,by show now'≤now';omega,by have:=h.n2;omega,by have:=h.pl;show o.paid.length≤_;omega,h.pr,?_,?_,?_,?_,by have:=h.pk;omega,?_,h.tt⟩
 ·intro n n' l l' h3 h4 h5;rcases (QaU h.hl).1 h3 with h6 | ⟨h6,h8⟩<;>rcases (QaU h.hl).1 h4 with h7 | ⟨h7,h9⟩
  ·exact h.un n n' l l' h6 h7 h5
  ·exact absurd (by rw[h5,h9,hLb]) (hno n l h6)
  ·exact absurd (by rw[←h5,h8,hLb]) (hno n' l' h7)
  ·omega
 ·intro n l h3;rcases (QaU h.hl).1 h3 with h3 | ⟨h3,rfl⟩
  ·have q:=h.op n l h3;exact ⟨q.b0,q.b1,q.rng,q.sold,q.new,q.len⟩
  ·refine ⟨by rw[hLb];exact b0,by rw[hLb];exact b1,?_,?_,?_,?_⟩
   ·rw[hLo,hLb];intro s hs;have:=hp.rng s hs;omega
   ·rw[hLo];exact hp.sold
   ·rw[hLo]
    intro s hs;have h4:=hp.new s hs
    show Qq s o.paid=none
    cases hm:Qq s o.paid with
    | none=>rfl
    | some v=>exact absurd ((ZS _).mem_iff.2 (Js.1 (show (Qq s o.paid).isSome=true by rw[hm];rfl))) h4
   ·rw[hLo];exact hp.len
 ·refine ⟨h.a.id,h.a.sk,h.a.pr,by have:=h.a.lg;show m.log.length≤_;omega,h.a.t0,by have:=h.a.t1;show m.total≤_;omega,QaS h.a.nd,?_⟩;intro c v hv;have hv':Qq c (Q4 b (some ⟨L,[]⟩) m.leases)=some v:=hv
  by_cases hc:c=b
  ·rw[hc,YP] at hv'
   exact ⟨⟨L,[]⟩,o.history.leases.length,(Option.some.inj hv').symm,⟨hLm,by rw[hc];exact hLb,(QaU h.hl).2 (.inr ⟨rfl,rfl⟩),List.nodup_nil,Nat.zero_le _,fun s hs=>by cases hs⟩⟩
  ·rw[ZB hc] at hv'
   obtain ⟨q,n,h3,hq⟩:=h.a.he c v hv';exact ⟨q,n,h3,⟨hq.ma,hq.bl,hmono hq.op,hq.nd,by have:=hq.le;omega,hq.pd⟩⟩
 ·refine ⟨h.b.id,h.b.sk,h.b.pr,by have:=h.b.lg;omega,h.b.t0,by have:=h.b.t1;omega,h.b.nd,?_⟩;intro c v hv;obtain ⟨q,n,h3,hq⟩:=h.b.he c v hv;exact ⟨q,n,h3,⟨hq.ma,hq.bl,hmono hq.op,hq.nd,by have:=hq.le;omega,hq.pd⟩⟩
 ·intro s hs;rcases h.pd s hs with h3 | ⟨q,h3,h4⟩ | h3
  ·exact .inl h3
  ·refine .inr (.inl ⟨q,?_,h4⟩);have hne:s/16≠b:=by
    intro hc
    rw[hc,hfree] at h3;cases h3
   exact hput hne h3
  ·exact .inr (.inr h3)
theorem VX (hx:PrP x) (h:Wb sales x skew o m m' i j now paid k) (hk:k<60) (hij:i≠j) {s t now':Int} (s0:0≤s) (s1:s≤1023) (t0:0≤t) (t1:t≤3155759999) (h1:now≤now') (h2:now'≤now+10000) :
  ∃d m2,QN m ⟨s,0,x.Grams,t⟩=some (d,0,m2) ∧
   ((d.Kind≠1∧Wb sales x skew o m2 m' i j now' paid (k+1))∨(d.Kind=1∧d.Amount=x.Deposit∧s∉paid∧sold sales s∧Wb sales x skew o m2 m' i j now' (paid++[s]) (k+1))):=by
 have ht1:=h.a.t1;have ht0:=h.a.t0;have hlg:=h.a.lg;obtain ⟨d,m2,e,q⟩:=QdN hx (skew:=skew) (m:=m) ⟨h.a.sk,h.a.pr,by omega,ht0,by omega⟩ s0 s1 t0 t1 (fun b v hv=>by
  obtain ⟨q,n,h3,hq⟩:=h.a.he b v hv;have:=(h.op n _ hq.op).len;have:=hq.le;exact ⟨q,h3,by omega,by omega⟩)
 refine ⟨d,m2,e,?_⟩;have hu:=h.up h1 h2;rcases q with ⟨hd,e1,e2,e3,e4,e5,e6⟩ | ⟨hd,ha,hf,q,c,hm,ho,hc,rfl⟩
 ·left
  refine ⟨hd,hu.hl,hu.ok,hu.sa,hu.sn,hu.l0,hu.l1,hu.n0,hu.n1,hu.n2,hu.pl,hu.pr,hu.un,hu.op,?_,hu.b,hu.pk,?_,by rw[e5];exact hu.tt⟩
  ·refine ⟨by rw[e1];exact h.a.id,by rw[e2];exact h.a.sk,by rw[e3];exact h.a.pr,?_,by rw[e5];exact hu.a.t0,by rw[e5];exact hu.a.t1,by rw[e4];exact hu.a.nd,?_⟩
   ·rcases e6 with e6 | ⟨c,e6⟩<;>rw[e6]
    ·omega
    ·simp;omega
   ·intro b v hv
    rw[e4] at hv
    obtain ⟨q,n,h3,hq⟩:=hu.a.he b v hv;refine ⟨q,n,h3,hq.ma,hq.bl,hq.op,hq.nd,hq.le,fun y hy=> ?_⟩;obtain ⟨h4,c,h5,h6⟩:=hq.pd y hy;refine ⟨h4,c,?_,h6⟩;rcases e6 with e6 | ⟨c',e6⟩<;>rw[e6]
    ·exact h5
    ·exact List.mem_append_left _ h5
  ·intro y hy;rcases h.pd y hy with h3 | ⟨q,h3,h4⟩ | h3
   ·exact .inl h3
   ·exact .inr (.inl ⟨q,by rw[e4];exact h3,h4⟩)
   ·exact .inr (.inr h3)
 ·right
  obtain ⟨q',n,hqq,hq⟩:=h.a.he _ _ hm;cases hqq;have hle:=h.op n _ hq.op;have hsq:s∉q.paid:=fun hs=>by
   obtain ⟨_,c',h5,h6⟩:=hq.pd s hs;exact hf c' h5 h6
  have hsp:s∉paid:=by
   intro hs;rcases h.pd s hs with h3 | ⟨q2,h3,h4⟩ | ⟨q2,h3,h4⟩
   ·rw[hle.new s ho] at h3;cases h3
   ·rw[hm] at h3;cases h3;exact hsq h4
   ·obtain ⟨q3,n',hqq,hq'⟩:=h.b.he _ _ h3;cases hqq;have hn:=h.un n n' _ _ hq.op hq'.op (by rw[hq.bl,hq'.bl]);subst hn;have h5:=hq.op.1
    rw[hq'.op.1] at h5
    have h6:=Option.some.inj h5;exact hij (by rw[←hq.ma,←hq'.ma,h6])
  have hd0:=hx.d0;have hd1:=hx.d1;refine ⟨hd,ha,hsp,hle.sold s ho,hu.hl,hu.ok,hu.sa,hu.sn,hu.l0,hu.l1,hu.n0,hu.n1,hu.n2,hu.pl,hu.pr,hu.un,hu.op,?_,hu.b,by have:=h.pk;simp;omega,?_,?_⟩
  ·refine ⟨h.a.id,h.a.sk,h.a.pr,by simp;omega,by show 0≤m.total+x.Deposit;omega,by show m.total+x.Deposit≤_;omega,QaS h.a.nd,?_⟩;intro b v hv;have hv':Qq b (Q4 (s/16) (some ⟨q.lease,q.paid++[s]⟩) m.leases)=some v:=hv
   by_cases hb:b=s/16
   ·rw[hb,YP] at hv'
    refine ⟨⟨q.lease,q.paid++[s]⟩,n,(Option.some.inj hv').symm,hq.ma,by rw[hb];exact hq.bl,hq.op,?_,?_,?_⟩
    ·show (q.paid++[s]).Nodup
     rw[List.nodup_append]
     exact ⟨hq.nd,by simp,fun y hy z hz hyz=>by simp at hz;subst hz;subst hyz;exact hsq hy⟩
    ·show (q.paid++[s]).length≤_
     have:=hq.le;simp;omega
    ·intro y hy;rcases List.mem_append.1 hy with hy | hy
     ·obtain ⟨h4,c',h5,h6⟩:=hq.pd y hy;exact ⟨h4,c',List.mem_append_left _ h5,h6⟩
     ·simp at hy;subst hy
      exact ⟨ho,c,by simp,hc⟩
   ·rw[ZB hb] at hv'
    obtain ⟨q2,n2,h3,hq2⟩:=hu.a.he b v hv';refine ⟨q2,n2,h3,hq2.ma,hq2.bl,hq2.op,hq2.nd,hq2.le,fun y hy=> ?_⟩;obtain ⟨h4,c',h5,h6⟩:=hq2.pd y hy;exact ⟨h4,c',List.mem_append_left _ h5,h6⟩
  ·have hnew: ∀y,Qfg m y→Qfg ⟨m.id,m.skew,m.products,Q4 (s/16) (some ⟨q.lease,q.paid++[s]⟩) m.leases,m.log++[c],m.total+x.Deposit⟩ y:=by
    rintro y ⟨q2,h3,h4⟩
    by_cases hb:y/16=s/16
    ·rw[hb,hm] at h3;cases h3
     exact ⟨⟨q.lease,q.paid++[s]⟩,by show Qq (y/16) (Q4 (s/16) _ _)=_;rw[hb,YP],List.mem_append_left _ h4⟩
    ·exact ⟨q2,by show Qq (y/16) (Q4 (s/16) _ _)=_;rw[ZB hb,h3],h4⟩
   intro y hy;rcases List.mem_append.1 hy with hy | hy
   ·rcases h.pd y hy with h3 | h3 | h3
    ·exact .inl h3
    ·exact .inr (.inl (hnew y h3))
    ·exact .inr (.inr h3)
   ·simp at hy;subst hy
    exact .inr (.inl ⟨⟨q.lease,q.paid++[y]⟩,YP _,by simp⟩)
  ·have:=h.tt
   show m.total+x.Deposit+m'.total=(((paid++[s]).length:Nat):Int)*x.Deposit
   rw[List.length_append,Int.natCast_add,Int.add_mul,←this]
   simp
   omega
theorem Qf7 {n:Nat} {L:Qh} {sl:List Qg} {len t:Int} {pm:List (Int×Bool)} {n2:Nat} {l:Qh} (hn:n<o.history.returned.length) :
  Y5 ⟨⟨o.history.leases.set n L,o.history.returned.set n true⟩,sl,len,t,pm⟩ n2 l↔n2≠n∧Y5 o n2 l:=by
 by_cases h:n2=n
 ·subst h
  constructor
  ·rintro ⟨_,h2⟩;have h3:(o.history.returned.set n2 true)[n2]? =some false:=h2
   rw[List.getElem?_set_self hn] at h3;cases h3
  ·rintro ⟨h1,_⟩;exact absurd rfl h1
 ·have e1:(o.history.leases.set n L)[n2]? =o.history.leases[n2]? :=List.getElem?_set_ne (fun h2=>h h2.symm);have e2:(o.history.returned.set n true)[n2]? =o.history.returned[n2]? :=List.getElem?_set_ne (fun h2=>h h2.symm)
  constructor
  ·rintro ⟨h1,h2⟩;exact ⟨h,by rw[←e1];exact h1,by rw[←e2];exact h2⟩
  ·rintro ⟨_,h1,h2⟩;exact ⟨e1.trans h1,e2.trans h2⟩
theorem Qbu (h:Wb sales x skew o m m' i j now paid k) (hk:k<60) (hij:i≠j) {b now':Int} (b0:0≤b) (b1:b<64) (h1:now≤now') (h2:now'≤now+10000) :
  QH m b=some (0,[],29,m) ∨
  ∃ep done m2 o',QH m b=some (ep,done,0,m2)∧Q8 o b ep done now'=some (0,o')∧Wb sales x skew o' m2 m' i j now' paid (k+1):=by
 cases hm:Qq b m.leases with
 | none=>exact .inl (QdL hm)
 | some v =>
  right
  obtain ⟨q,n,rfl,hq⟩:=h.a.he b v hm;have hof:=h.of hk h1 h2;have hle:=h.op n _ hq.op;have hql:=hq.le;have hlen:=hle.len;have hperm:=ZS q.paid;obtain ⟨l',e⟩:=QdQ (ps:=YW q.paid) hof b0 b1 hq.op hq.bl (fun n' l' ho hb=>h.un n' n l' q.lease ho hq.op (by rw[hb,hq.bl])) (by omega) (by rw[ZA];omega) (fun s hs=>(hq.pd s (hperm.mem_iff.1 hs)).1) (hperm.nodup_iff.2 hq.nd);refine ⟨_,_,_,_,QdM hm (by omega),e,?_⟩;have hn:n<o.history.returned.length:=QZ hq.op.2;have hcl: ∀{n2 l},Y5 ⟨⟨o.history.leases.set n l',o.history.returned.set n true⟩,o.sales,o.length,now',ZF (YW q.paid) o.paid⟩ n2 l↔n2≠n∧Y5 o n2 l:=Qf7 hn;have hpl:=QaV (YW q.paid) o.paid
  rw[ZA] at hpl
  refine ⟨by simp[h.hl],by have:=h.ok;simp;omega,h.sa,h.sn,h.l0,h.l1,by have:=hof.n0;have:=hof.n1;show 0≤now';omega,by show now'≤now';omega,by have:=h.n2;omega,by have:=h.pl;show (ZF (YW q.paid) o.paid).length≤_;omega,?_,?_,?_,?_,?_,by have:=h.pk;omega,?_,h.tt⟩
  ·intro s hs;rcases (JM s _ _).1 hs with hs | hs
   ·have:=hle.rng s (hq.pd s (hperm.mem_iff.1 hs)).1;have:=hle.b0;have:=hle.b1
    omega
   ·exact h.pr s hs
  ·intro n1 n2 l1 l2 h3 h4 h5;exact h.un n1 n2 l1 l2 (hcl.1 h3).2 (hcl.1 h4).2 h5
  ·intro n2 l2 h3;obtain ⟨h4,h5⟩:=hcl.1 h3;have q2:=h.op n2 l2 h5;refine ⟨q2.b0,q2.b1,q2.rng,q2.sold,fun s hs=> ?_,q2.len⟩
   show Qq s (ZF (YW q.paid) o.paid)=none
   cases hg:Qq s (ZF (YW q.paid) o.paid) with
   | none=>rfl
   | some v =>
    rcases (JM s _ _).1 (show (Qq s (ZF (YW q.paid) o.paid)).isSome=true by rw[hg];rfl) with h6 | h6
    ·have r1:=hle.rng s (hq.pd s (hperm.mem_iff.1 h6)).1;have r2:=q2.rng s hs;exact absurd (h.un n2 n l2 q.lease h5 hq.op (by omega)) h4
    ·rw[q2.new s hs] at h6;cases h6
  ·refine ⟨h.a.id,h.a.sk,h.a.pr,by have:=h.a.lg;show m.log.length≤_;omega,h.a.t0,by have:=h.a.t1;show m.total≤_;omega,Qc4 h.a.nd,?_⟩;intro c v hv;have hv':Qq c (ZX b m.leases)=some v:=hv
   rw[QbB h.a.nd] at hv'
   by_cases hc:c=b
   ·rw[if_pos hc] at hv';cases hv'
   rw[if_neg hc] at hv'
   obtain ⟨q2,n2,h3,hq2⟩:=h.a.he c v hv';refine ⟨q2,n2,h3,hq2.ma,hq2.bl,hcl.2 ⟨fun hn2=> ?_,hq2.op⟩,hq2.nd,by have:=hq2.le;omega,hq2.pd⟩;subst hn2;have h5:=hq.op.1
   rw[hq2.op.1] at h5
   have h6:=Option.some.inj h5;exact hc (by rw[←hq2.bl,←hq.bl,h6])
  ·refine ⟨h.b.id,h.b.sk,h.b.pr,by have:=h.b.lg;omega,h.b.t0,by have:=h.b.t1;omega,h.b.nd,?_⟩;intro c v hv;obtain ⟨q2,n2,h3,hq2⟩:=h.b.he c v hv;refine ⟨q2,n2,h3,hq2.ma,hq2.bl,hcl.2 ⟨fun hn2=> ?_,hq2.op⟩,hq2.nd,by have:=hq2.le;omega,hq2.pd⟩;subst hn2;have h5:=hq.op.1
   rw[hq2.op.1] at h5
   have h6:=Option.some.inj h5;exact hij (by rw[←hq.ma,←hq2.ma,h6])
  ·intro s hs;rcases h.pd s hs with h3 | ⟨q2,h3,h4⟩ | h3
   ·exact .inl ((JM s _ _).2 (.inr h3))
   ·by_cases hb:s/16=b
    ·rw[hb,hm] at h3;cases h3
     exact .inl ((JM s _ _).2 (.inl (hperm.mem_iff.2 h4)))
    ·refine .inr (.inl ⟨q2,?_,h4⟩)
     show Qq (s/16) (ZX b m.leases)=_
     rw[QbB h.a.nd,if_neg hb,h3]
   ·exact .inr (.inr h3)
end Go.Proofs.Ytfdjjdhnfaklbaa
namespace Go.Proofs.Ytfdjjdhnfaklbaa
theorem QbQ:Yz 64=some true:=by decide +kernel
end Go.Proofs.Ytfdjjdhnfaklbaa
