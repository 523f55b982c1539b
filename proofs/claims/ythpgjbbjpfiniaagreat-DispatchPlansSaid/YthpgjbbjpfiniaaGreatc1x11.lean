/- DispatchPlans: for every input the given law returns true, and its arguments read as before. No condition. -/
import Derived.Test.YthpgjbbjpfiniaaGreatc1x1
import Derived.Test.YthpgjbbjpfiniaaGreatc1x3
import Derived.Test.YthpgjbbjpfiniaaGreatc1x6
import Derived.Test.YthpgjbbjpfiniaaGreatc1x10
import Derived.Test.YthpgjbbjpfiniaaGreatc1x8
import Derived.Test.YthpgjbbjpfiniaaGreatc1x9
import Derived.Test.YthpgjbbjpfiniaaGreatc1x2
namespace Go.Proofs.YthpgjbbjpfiniaaGreat
open Go.RowKit
set_option linter.unusedSimpArgs false
set_option linter.unusedVariables false
set_option maxHeartbeats 2000000
set_option maxRecDepth 4000
attribute [local irreducible] WP Zp Qas Fn AN Upd vcR vcO QbS Jh Jj Qau QaR QbN Qao Wm Qcb QM KS
variable {μ:Gh} {L:List Seg} {R:Value→Gh→List Seg→Prop}
theorem Qex  {x1:Qk} {v1:Int} {A1:Option Addr} {c1:Nat} {A2:Option Addr} {c2:Nat} {res1:Qa}
  (hl1:x1.Tours.length≤c1∧c1≤maxLen) (hA1:Qz Qw μ A1 x1.Tours) (hl2:x1.Left.length≤c2∧c2≤maxLen) (hA2:Qz QP μ A2 x1.Left) (h:Vt x1 v1=some res1)
  (hR: ∀(A0_1:Option Addr) (c0_1:Nat),(res1.Stops.length≤c0_1∧c0_1≤maxLen)→Qz QP μ A0_1 res1.Stops→R (.agg #[.int .i64 res1.Vehicle,.slice A0_1 res1.Stops.length c0_1]) μ (L)) :
  Fn Tryz.prog 24 [.agg #[.slice A1 x1.Tours.length c1,.slice A2 x1.Left.length c2],.int .i64 v1] μ (L) R:=by
 unfold Vt at h;refine FnS Tryz.func24 (by kernel_rfl) E Tryz.ntmps24 E E ?_;refine G0 2 E (Al E fun _=>Q0 0 E (Al E fun _=>Q1 9 [1] E ?_));refine Cut h (fun f l o_ f_ μ_ l_=>(.inl ())=o_∧Ql (Qq [1,4] f) f_∧Qe (QI [some 0] 2 l) l_∧μ=μ_) ?_ ?_
 ·intro _ h37532 h;refine Lp h37532 (fun f l (v2:Int) f_ μ_ l_=>Ql ((10,.int .i64 v2)::Qq [1,4,8,9] f) f_∧Qe (QI [some 0] 2 l) l_∧μ=μ_) ⟨fE E,sE [some 0] 2 E,E⟩ ?_;rintro v2 _ _ _ _ _ ⟨hF37543,hS37543,rfl⟩ hb37543 hq37543;unfold QbO at hb37543;refine Atn 1 hF37543 hS37543 E E (G0 5 E ?_);refine Br hb37543 11 E E (fun hc1 hb37543=> ?_) (fun hc1 hb37543=> ?_)
  ·refine G2 6 [11] [] [] E (Ix hb37543 (Qz.rds hA1 L) E E fun _ _ _ _ hr1 hc2 _ hb37543=> ?_);obtain ⟨A3,c3,rfl,hl3,hA4⟩:=hr1;refine Q3 1 [] [] [64] (Z1 (hc2.push)) E (Al E fun _=>Q1 9 [0,0] E ?_);refine Br hb37543 17 E E (fun hc3 hb37543=> ?_) (fun hc3 hb37543=> ?_)
   ·refine G2 6 [17] [] [0,1] E ?_;cases hb37543;have hq_:=hq37543 _ E;subst hq_;replace h:=Yn h;cases h;exact Rt [1] E E (Ug [] 2 (hR A3 c3 hl3 hA4))
   refine G2 7 [] [17] [] E ?_;cases hb37543;exact Ce E ⟨_,rfl,fE E,sE [some 1] 2 E,rfl⟩
  refine G2 2 [] [11] [] E ?_;cases hb37543;have hq_:=hq37543 _ E;subst hq_;exact Ce E ⟨rfl,fE E,sE [some 0] 1 E,rfl⟩
 rintro _ _ _ _ h _ ⟨rfl,hF37532,hS37532,rfl⟩;replace h:=YB h;refine Atn 1 hF37532 hS37532 E E (G1 6 [0] E ?_);cases h;exact Rt [0] E E (Ug [] 1 (hR none 0 ⟨Nat.le_refl _,Nat.zero_le _⟩ Qz.nil))
end Go.Proofs.YthpgjbbjpfiniaaGreat
namespace Go.Proofs.YthpgjbbjpfiniaaGreat
open Go.RowKit
set_option linter.unusedSimpArgs false
set_option linter.unusedVariables false
set_option maxHeartbeats 2000000
set_option maxRecDepth 4000
attribute [local irreducible] WP Zp Qas Fn AN Upd vcR vcO QbS Jh Jj Qau QaR QbN Qao Wm Qcb QM KS
variable {μ:Gh} {L:List Seg} {R:Value→Gh→List Seg→Prop}
theorem QaF  {left1:Int} {cost1:Int} {otherLeft1:Int} {otherCost1:Int}  {res1:Bool}
   (h:YZ left1 cost1 otherLeft1 otherCost1=some res1)
  (hR:R (.bool res1) μ (L)) :
  Fn Tryz.prog 29 [.int .i64 left1,.int .i64 cost1,.int .i64 otherLeft1,.int .i64 otherCost1] μ (L) R:=by
 unfold YZ at h;refine FnS Tryz.func29 (by kernel_rfl) E Tryz.ntmps29 E E ?_;refine G0 5 E ?_;refine Cut h (fun f l o_ f_ μ_ l_=> ∃(v1:Bool),v1=o_∧Ql ((8,.bool v1)::[]) f_∧Qe l l_∧μ=μ_) ?_ ?_
 ·intro _ h38078 h;refine G0 5 E ?_;refine Br h38078 12 E E (fun hc1 h38078=> ?_) (fun hc1 h38078=> ?_)
  ·refine G2 11 [12] [] [] E ?_;cases h38078;exact Ce E ⟨_,rfl,fE E,sE [] 0 E,rfl⟩
  refine G2 4 [] [12] [] E ?_;refine Br h38078 16 E E (fun hc2 h38078=> ?_) (fun hc2 h38078=> ?_)
  ·refine G2 7 [16] [12] [] E ?_;cases h38078;exact Ce E ⟨_,rfl,fE E,sE [] 0 E,rfl⟩
  refine G2 7 [] [12,16] [] E ?_;cases h38078;exact Ce E ⟨_,rfl,fE E,sE [] 0 E,rfl⟩
 rintro _ _ _ _ h _ ⟨v1,rfl,hF38078,hS38078,rfl⟩;refine Atn 0 hF38078 hS38078 E E ?_;cases h;exact Rt [] E E (Ug [] 0 hR)
end Go.Proofs.YthpgjbbjpfiniaaGreat
namespace Go.Proofs.YthpgjbbjpfiniaaGreat
open Go.RowKit
set_option linter.unusedSimpArgs false
set_option linter.unusedVariables false
set_option maxHeartbeats 2000000
set_option maxRecDepth 4000
attribute [local irreducible] WP Zp Qas Fn AN Upd vcR vcO QbS Jh Jj Qau QaR QbN Qao Wm Qcb QM KS
variable {μ:Gh} {L:List Seg} {R:Value→Gh→List Seg→Prop}
theorem VQ {F:Nat} {p1:Qh} {t1:Qa} {d1:Int} {A1:Option Addr} {c1:Nat} {A2:Option Addr} {c2:Nat} {A3:Option Addr} {c3:Nat} {A4:Option Addr} {c4:Nat} {res1:Qa} {res2:Int}
  (hl1:p1.Road.Edges.length≤c1∧c1≤maxLen) (hA1:Qz QN μ A1 p1.Road.Edges) (hl2:p1.Vehicles.length≤c2∧c2≤maxLen) (hA2:Qz QF μ A2 p1.Vehicles) (hl3:p1.Demands.length≤c3∧c3≤maxLen) (hA3:Qz QK μ A3 p1.Demands) (hl4:t1.Stops.length≤c4∧c4≤maxLen) (hA4:Qz QP μ A4 t1.Stops) (h:YP F p1 t1 d1=some (res1,res2))
  (hR: ∀(μ':Gh) (A0_1:Option Addr) (c0_1:Nat),μ.le μ'→(res1.Stops.length≤c0_1∧c0_1≤maxLen)→Qz QP μ' A0_1 res1.Stops→R (.tuple #[.agg #[.int .i64 res1.Vehicle,.slice A0_1 res1.Stops.length c0_1],.int .i64 res2]) μ' (L)) :
  Fn Tryz.prog 57 [.agg #[.int .i64 p1.Road.Nodes,.slice A1 p1.Road.Edges.length c1,.slice A2 p1.Vehicles.length c2,.slice A3 p1.Demands.length c3,.int .i64 p1.Unload,.int .i64 p1.UnloadSecs],.agg #[.int .i64 t1.Vehicle,.slice A4 t1.Stops.length c4],.int .i64 d1] μ (L) R:=by
 unfold YP at h;refine FnS Tryz.func57 (by kernel_rfl) E Tryz.ntmps57 E E ?_;refine G0 2 E (Al E fun _=>Q0 0 E (Al E fun _=>Q0 0 E (Al E fun _=>Q1 7 [2,1] E (Cl E ?_))));obtain ⟨⟨_,_⟩,hx1,h⟩:=Qj h;replace h:=Qp h;refine QcA hl1 hA1 hl2 hA2 hl3 hA3 hl4 hA4 hx1 (fun _ _ _ _ hm_1 hO1=> ?_);refine Q0 12 E ?_;refine Br h 18 E E (fun hc1 h=> ?_) (fun hc1 h=> ?_)
 ·refine G2 8 [18] [] [1] E ?_;cases h;exact Rt [1] E E (Ug [] 4 (hR _ none 0 hm_1 ⟨Nat.le_refl _,Nat.zero_le _⟩ Qz.nil))
 refine G2 9 [] [18] [] E ?_;refine Br h 23 E E (fun hc2 h=> ?_) (fun hc2 h=> ?_)
 ·refine G2 7 [23] [] [1] E ?_;cases h;exact Rt [1] E E (Ug [] 4 (hR _ none 0 hm_1 ⟨Nat.le_refl _,Nat.zero_le _⟩ Qz.nil))
 refine G2 5 [] [23] [] E (IxA h (Own.rds hO1 0 E) E E fun _ _ _ _ hr1 hc3 _ h=> ?_);obtain ⟨A6,c6,rfl,hl5,hA6⟩:=hr1;refine Q3 4 [] [] [64,1] (Z1 hc3) E ?_;cases h;exact Rt [1] E E (Ug [] 4 (hR _ A6 c6 hm_1 hl5 hA6))
theorem QaT  {p1:Qh} {x1:Qk} {A1:Option Addr} {c1:Nat} {A2:Option Addr} {c2:Nat} {A3:Option Addr} {c3:Nat} {A4:Option Addr} {c4:Nat} {A5:Option Addr} {c5:Nat} {res1:Int} {res2:Int}
  (hl1:p1.Road.Edges.length≤c1∧c1≤maxLen) (hA1:Qz QN μ A1 p1.Road.Edges) (hl2:p1.Vehicles.length≤c2∧c2≤maxLen) (hA2:Qz QF μ A2 p1.Vehicles) (hl3:p1.Demands.length≤c3∧c3≤maxLen) (hA3:Qz QK μ A3 p1.Demands) (hl4:x1.Tours.length≤c4∧c4≤maxLen) (hA4:Qz Qw μ A4 x1.Tours) (hl5:x1.Left.length≤c5∧c5≤maxLen) (hA5:Qz QP μ A5 x1.Left) (h:Yi p1 x1=some (res1,res2))
  (hR:R (.tuple #[.int .i64 res1,.int .i64 res2]) μ (L)) :
  Fn Tryz.prog 43 [.agg #[.int .i64 p1.Road.Nodes,.slice A1 p1.Road.Edges.length c1,.slice A2 p1.Vehicles.length c2,.slice A3 p1.Demands.length c3,.int .i64 p1.Unload,.int .i64 p1.UnloadSecs],.agg #[.slice A4 x1.Tours.length c4,.slice A5 x1.Left.length c5]] μ (L) R:=by
 unfold Yi at h;refine FnS Tryz.func43 (by kernel_rfl) E Tryz.ntmps43 E E ?_;refine G0 2 E (Al E fun _=>Q0 0 E (Al E fun _=>Q1 8 [1,0] E (Cl E ?_)));obtain ⟨_,hx1,h⟩:=Qj h;refine Qac hl1 hA1 hl2 hA2 hl3 hA3 hl4 hA4 hl5 hA5 hx1 ((Q0 7 E ?_));refine Br h 16 E E (fun hc1 h=> ?_) (fun hc1 h=> ?_)
 ·refine G2 7 [16] [] [] E ?_;cases h;exact Rt [] E E (Ug [] 2 hR)
 refine G2 14 [] [16] [0] E ?_;refine Cut h (fun f l o_ f_ μ_ l_=> ∃(sum2:Int),sum2=o_∧Ql ((7,.int .i64 sum2)::[]) f_∧Qe (QI [] 2 l) l_∧μ=μ_) ?_ ?_
 ·intro _ h37455 h;refine Lp h37455 (fun f l (j_:Int×Int) f_ μ_ l_=>Yt j_ fun sum1 v1=>Ql ((7,.int .i64 sum1)::(21,.int .i64 v1)::Qq [2,19,20] f) f_∧Qe (QI [] 1 l) l_∧μ=μ_) ⟨fE E,sE [some 1] 2 E,E⟩ ?_;rintro ⟨sum1,v1⟩ _ _ _ _ _ ⟨hF37465,hS37465,rfl⟩ hb37465 hq37465;unfold Jx at hb37465;replace hb37465:=Qp hb37465;refine Atn 1 hF37465 hS37465 E E (G0 5 E ?_);refine Br hb37465 22 E E (fun hc2 hb37465=> ?_) (fun hc2 hb37465=> ?_)
  ·refine G2 6 [22] [] [] E (Ix hb37465 (Qz.rds hA4 L) E E fun _ _ _ _ hr1 hc3 _ hb37465=> ?_);obtain ⟨_,_,rfl,hl6,hA7⟩:=hr1;refine Q3 1 [] [] [64] (Z1 (hc3.push)) E (Al E fun _=>Q1 6 [0,1,0] E (Cl E ?_));obtain ⟨⟨_,_⟩,hx3,hb37465⟩:=Qj hb37465;replace hb37465:=Qp hb37465;refine WU hl1 hA1 hl2 hA2 hl3 hA3 hl6 hA7 hx3 ((Q0 17 E ?_));cases hb37465;exact Ce E ⟨_,rfl,fE E,sE [some 1] 2 E,rfl⟩
  refine G2 2 [] [22] [] E ?_;cases hb37465;have hq_:=hq37465 _ E;subst hq_;exact Ce E ⟨_,rfl,fE E,sE [] 1 E,rfl⟩
 rintro _ _ _ _ h _ ⟨sum2,rfl,hF37455,hS37455,rfl⟩;refine Atn 0 hF37455 hS37455 E E (G0 6 E ?_);cases h;exact Rt [] E E (Ug [] 0 hR)
theorem QcD  {stops1:(List Int)} {d1:Int} {A1:Option Addr} {c1:Nat} {res1:(List Int)}
  (hl1:stops1.length≤c1∧c1≤maxLen) (hA1:Rds QP μ L A1 stops1) (h:JN stops1 d1=some res1)
  (hR: ∀(A0:Option Addr) (c0:Nat) (ch0:Seg),Own QP 3 μ (.slice A0 res1.length c0) res1 ch0→R (.slice A0 res1.length c0) μ (ch0::L)) :
  Fn Tryz.prog 66 [.slice A1 stops1.length c1,.int .i64 d1] μ (L) R:=by
 unfold JN at h;refine FnS Tryz.func66 (by kernel_rfl) E Tryz.ntmps66 E E ?_;refine G0 15 E ?_;refine Cut h (fun f l o_ f_ μ_ l_=> ∃(out3:(List Int)) (A5:Option Addr) (c5:Nat) (ch4:Seg),out3=o_∧Ql ((5,.slice A5 out3.length c5)::[]) f_∧Qe (ch4::l) l_∧Own QP 3 μ_ (.slice A5 out3.length c5) out3 ch4∧μ=μ_) ?_ ?_
 ·intro _ h37563 h;refine Lp h37563 (fun f l (j_:(List Int)×Int) f_ μ_ l_=>Yt j_ fun out1 v1=> ∃(A2:Option Addr) (c2:Nat) (ch1:Seg),Ql ((5,.slice A2 out1.length c2)::(10,.int .i64 v1)::Qq [1,8,9] f) f_∧Qe (ch1::l) l_∧Own QP 3 μ_ (.slice A2 out1.length c2) out1 ch1∧μ=μ_) ⟨none,0,[],fE E,sE [none] 0 E,(Own.nil),E⟩ ?_;rintro ⟨out1,v1⟩ _ _ _ _ _ ⟨A2,c2,ch1,hF37570,hS37570,hO1,rfl⟩ hb37570 hq37570;unfold Z5 at hb37570;replace hb37570:=Qp hb37570;refine Atn 1 hF37570 hS37570 E E (G0 5 E ?_);refine Br hb37570 11 E E (fun hc1 hb37570=> ?_) (fun hc1 hb37570=> ?_)
  ·refine G2 3 [11] [] [] E ?_;refine Cut hb37570 (fun f l o_ f_ μ_ l_=> ∃(out2:(List Int)) (A4:Option Addr) (c4:Nat) (ch3:Seg),out2=o_∧Ql ((5,.slice A4 out2.length c4)::Qq [1,8,9,10] f) f_∧Qe (ch3::QI [] 1 l) l_∧Own QP 3 μ_ (.slice A4 out2.length c4) out2 ch3∧μ=μ_) ?_ ?_
   ·intro _ h37573 hb37570;refine G0 3 E (Ix h37573 hA1 E E fun x1 _ _ _ hr1 hc2 _ h37573=> ?_);obtain rfl:=hr1;refine Q3 9 [] [] [64] (Z1 (hc2.push)) E ?_;refine Br h37573 16 E E (fun hc3 h37573=> ?_) (fun hc3 h37573=> ?_)
    ·refine G2 4 [16] [] [] E (So E (YW (z:=[.int .i64 0]) E E E E E E E (QZ (cells':=[.int .i64 x1]) E E E E (YH (fun g1=>Q0 0 E (So E (Yf E ?_)))))));obtain ⟨_,hz1,h37573⟩:=Qj h37573;refine Yh (r:=QP) QB E E E E (by decide) E E 1 E hO1 E (Own.rds (Own.lit (r:=QP) (e:=3) (g:=g1) (xs:=[x1]) (cs:=[.int .i64 x1]) (css:=[[.int .i64 x1]]) E (All2.cons (E) (All2.nil)) E E) 0 E) hz1 fun A3 c3 ch2 hO2=>Q0 3 E ?_;cases h37573;exact Ce E ⟨_,A3,c3,ch2,rfl,fE E,sE [some 1] 2 E,(hO2),rfl⟩
    refine G2 3 [] [16] [] E ?_;cases h37573;exact Ce E ⟨_,A2,c2,ch1,rfl,fE E,sE [some 0] 1 E,(hO1),rfl⟩
   rintro _ _ _ _ hb37570 _ ⟨out2,A4,c4,ch3,rfl,hF37573,hS37573,hO3,rfl⟩;refine Atn 1 hF37573 hS37573 E E (G0 4 E ?_);cases hb37570;exact Ce E ⟨_,rfl,A4,c4,ch3,fE E,sE [some 0] 1 E,(hO3),rfl⟩
  refine G2 2 [] [11] [] E ?_;cases hb37570;have hq_:=hq37570 _ E;subst hq_;exact Ce E ⟨_,A2,c2,ch1,rfl,fE E,sE [some 0] 1 E,(hO1),rfl⟩
 rintro _ _ _ _ h _ ⟨out3,A5,c5,ch4,rfl,hF37563,hS37563,hO4,rfl⟩;refine Atn 1 hF37563 hS37563 E E (G0 5 E ?_);cases h;exact Rt [] E E (Ug [[0]] 1 (hR A5 c5 ch4 hO4))
theorem Qc6  {t1:Qa} {A1:Option Addr} {c1:Nat} {res1:Bool}
  (hl1:t1.Stops.length≤c1∧c1≤maxLen) (hA1:Qz QP μ A1 t1.Stops) (h:J9 t1=some res1)
  (hR:R (.bool res1) μ (L)) :
  Fn Tryz.prog 67 [.agg #[.int .i64 t1.Vehicle,.slice A1 t1.Stops.length c1]] μ (L) R:=by
 unfold J9 at h;refine FnS Tryz.func67 (by kernel_rfl) E Tryz.ntmps67 E E ?_;refine G0 2 E (Al E fun _=>Q1 10 [0] E ?_);refine Cut h (fun f l o_ f_ μ_ l_=>(.inl ())=o_∧Ql ([]) f_∧Qe (QI [] 1 l) l_∧μ=μ_) ?_ ?_
 ·intro _ h37628 h;refine Lp h37628 (fun f l (v1:Int) f_ μ_ l_=>Ql ((8,.int .i64 v1)::Qq [6,7] f) f_∧Qe (QI [] 1 l) l_∧μ=μ_) ⟨fE E,sE [] 1 E,E⟩ ?_;rintro v1 _ _ _ _ _ ⟨hF37631,hS37631,rfl⟩ hb37631 hq37631;unfold Wj at hb37631;refine Atn 0 hF37631 hS37631 E E (G0 5 E ?_);refine Br hb37631 9 E E (fun hc1 hb37631=> ?_) (fun hc1 hb37631=> ?_)
  ·refine G2 6 [9] [] [] E (Ix hb37631 (Qz.rds hA1 L) E E fun _ _ _ _ hr1 hc2 _ hb37631=> ?_);obtain rfl:=hr1;refine Q3 8 [] [] [64] (Z1 hc2) E ?_;refine Br hb37631 13 E E (fun hc3 hb37631=> ?_) (fun hc3 hb37631=> ?_)
   ·refine G2 5 [13] [] [] E ?_;cases hb37631;have hq_:=hq37631 _ E;subst hq_;replace h:=Yn h;cases h;exact Rt [] E E (Ug [] 0 hR)
   refine G2 7 [] [13] [] E ?_;cases hb37631;exact Ce E ⟨_,rfl,fE E,sE [] 0 E,rfl⟩
  refine G2 2 [] [9] [] E ?_;cases hb37631;have hq_:=hq37631 _ E;subst hq_;exact Ce E ⟨rfl,fE E,sE [] 0 E,rfl⟩
 rintro _ _ _ _ h _ ⟨rfl,hF37628,hS37628,rfl⟩;replace h:=YB h;refine Atn 0 hF37628 hS37628 E E (G0 4 E ?_);cases h;exact Rt [] E E (Ug [] 0 hR)
theorem QdW {F:Nat} {p1:Qh} {x1:Qk} {d1:Int} {v1:Int} {A1:Option Addr} {c1:Nat} {A2:Option Addr} {c2:Nat} {A3:Option Addr} {c3:Nat} {A4:Option Addr} {c4:Nat} {A5:Option Addr} {c5:Nat} {res1:Qk} {res2:Bool}
  (hl1:p1.Road.Edges.length≤c1∧c1≤maxLen) (hA1:Qz QN μ A1 p1.Road.Edges) (hl2:p1.Vehicles.length≤c2∧c2≤maxLen) (hA2:Qz QF μ A2 p1.Vehicles) (hl3:p1.Demands.length≤c3∧c3≤maxLen) (hA3:Qz QK μ A3 p1.Demands) (hl4:x1.Tours.length≤c4∧c4≤maxLen) (hA4:Qz Qw μ A4 x1.Tours) (hl5:x1.Left.length≤c5∧c5≤maxLen) (hA5:Qz QP μ A5 x1.Left) (h:JX F p1 x1 d1 v1=some (res1,res2))
  (hR: ∀(μ':Gh) (A0_0:Option Addr) (c0_0:Nat) (A0_1:Option Addr) (c0_1:Nat),μ.le μ'→(res1.Tours.length≤c0_0∧c0_0≤maxLen)→Qz Qw μ' A0_0 res1.Tours→(res1.Left.length≤c0_1∧c0_1≤maxLen)→Qz QP μ' A0_1 res1.Left→R (.tuple #[.agg #[.slice A0_0 res1.Tours.length c0_0,.slice A0_1 res1.Left.length c0_1],.bool res2]) μ' (L)) :
  Fn Tryz.prog 44 [.agg #[.int .i64 p1.Road.Nodes,.slice A1 p1.Road.Edges.length c1,.slice A2 p1.Vehicles.length c2,.slice A3 p1.Demands.length c3,.int .i64 p1.Unload,.int .i64 p1.UnloadSecs],.agg #[.slice A4 x1.Tours.length c4,.slice A5 x1.Left.length c5],.int .i64 d1,.int .i64 v1] μ (L) R:=by
 unfold JX at h;refine FnS Tryz.func44 (by kernel_rfl) E Tryz.ntmps44 E E ?_;refine G0 2 E (Al E fun g1=>Q0 0 E (Al E fun g2=>Q0 0 E (Al E fun g3=>Q0 5 E (Al E fun g4=>Q1 10 [0,3] E ?_))));refine Cut h (fun f l o_ f_ μ_ l_=> ∃(f5:(List Qa)) (A13:Option Addr) (c13:Nat) (ch5:Seg),(.inl f5)=o_∧Ql (Qq [2,4,5,8,10] f) f_∧Qe ([(g1,.cells #[.int .i64 p1.Road.Nodes,.slice A1 p1.Road.Edges.length c1,.slice A2 p1.Vehicles.length c2,.slice A3 p1.Demands.length c3,.int .i64 p1.Unload,.int .i64 p1.UnloadSecs] 28 (0,0))]::[(g2,.cells #[.slice A4 x1.Tours.length c4,.slice A5 x1.Left.length c5] 33 (0,0))]::[(g3,.cells #[.slice none 0 0,.slice none 0 0] 33 (0,0))]::[(g4,.cells #[.slice A13 f5.length c13,.slice none 0 0] 33 (0,0))]::ch5::QI [] 4 l) l_∧Own Qw 51 μ_ (.slice A13 f5.length c13) f5 ch5) ?_ ?_
 ·intro _ h37830 h;refine Lp h37830 (fun f l (j_:(List Qa)×Int) f_ μ_ l_=>Yt j_ fun f1 v2=> ∃(A6:Option Addr) (c6:Nat) (ch1:Seg),Ql ((20,.int .i64 v2)::Qq [2,3,4,5,8,10,19] f) f_∧Qe ([(g1,.cells #[.int .i64 p1.Road.Nodes,.slice A1 p1.Road.Edges.length c1,.slice A2 p1.Vehicles.length c2,.slice A3 p1.Demands.length c3,.int .i64 p1.Unload,.int .i64 p1.UnloadSecs] 28 (0,0))]::[(g2,.cells #[.slice A4 x1.Tours.length c4,.slice A5 x1.Left.length c5] 33 (0,0))]::[(g3,.cells #[.slice none 0 0,.slice none 0 0] 33 (0,0))]::[(g4,.cells #[.slice A6 f1.length c6,.slice none 0 0] 33 (0,0))]::ch1::QI [] 4 l) l_∧Own Qw 51 μ_ (.slice A6 f1.length c6) f1 ch1) ⟨none,0,[],fE E,sE [some 3,some 2,some 1,some 0,none] 4 E,(Own.nil)⟩ ?_;rintro ⟨f1,v2⟩ _ _ _ _ hm37908 ⟨A6,c6,ch1,hF37908,hS37908,hO1⟩ hb37908 hq37908;unfold Zl at hb37908;replace hb37908:=Qp hb37908;replace hA1:=hA1.mono hm37908;replace hA2:=hA2.mono hm37908;replace hA3:=hA3.mono hm37908;replace hA4:=hA4.mono hm37908;replace hA5:=hA5.mono hm37908;refine Atn 5 hF37908 hS37908 E E (G0 5 E ?_);refine Br hb37908 21 E E (fun hc1 hb37908=> ?_) (fun hc1 hb37908=> ?_)
  ·refine G2 3 [21] [] [] E ?_;refine Cut hb37908 (fun f l o_ f_ μ_ l_=> ∃(f4:(List Qa)) (A12:Option Addr) (c12:Nat) (ch4:Seg),(.inl f4)=o_∧Ql (Qq [2,3,4,5,8,10,19,20] f) f_∧Qe ([(g1,.cells #[.int .i64 p1.Road.Nodes,.slice A1 p1.Road.Edges.length c1,.slice A2 p1.Vehicles.length c2,.slice A3 p1.Demands.length c3,.int .i64 p1.Unload,.int .i64 p1.UnloadSecs] 28 (0,0))]::[(g2,.cells #[.slice A4 x1.Tours.length c4,.slice A5 x1.Left.length c5] 33 (0,0))]::[(g3,.cells #[.slice none 0 0,.slice none 0 0] 33 (0,0))]::[(g4,.cells #[.slice A12 f4.length c12,.slice none 0 0] 33 (0,0))]::ch4::QI [] 5 l) l_∧Own Qw 51 μ_ (.slice A12 f4.length c12) f4 ch4) ?_ ?_
   ·intro _ h37923 hb37908;refine G1 11 [1] E (Cl E ?_);obtain ⟨_,hx1,h37923⟩:=Qj h37923;refine Qex hl4 hA4 hl5 hA5 hx1 (fun _ _ hl6 hA6=>Q0 2 E (Cl E ?_));obtain ⟨_,hx2,h37923⟩:=Qj h37923;refine QcD hl6 (Qz.rds hA6 _) hx2 (fun A8 c8 _ hO2=>Q0 1 E (Al E fun g5=>Q1 9 [0] E ?_));have hl7:=Own.lenOk hO2;refine KS.upd E (Upd.frzOwn 1 E hO2 fun _ hm_1 hA7=>Upd.done ?_);replace hA1:=hA1.mono hm_1;replace hA2:=hA2.mono hm_1;replace hA3:=hA3.mono hm_1;replace hA5:=hA5.mono hm_1;replace hO1:=hO1.mono hm_1;refine Cut h37923 (fun f l o_ f_ μ_ l_=> ∃(f2:Int) (f3:(List Int)) (A10:Option Addr) (c10:Nat),(.inl (f2,f3))=o_∧Ql (Qq [2,3,4,5,8,10,12,19,20] f) f_∧Qe ([(g1,.cells #[.int .i64 p1.Road.Nodes,.slice A1 p1.Road.Edges.length c1,.slice A2 p1.Vehicles.length c2,.slice A3 p1.Demands.length c3,.int .i64 p1.Unload,.int .i64 p1.UnloadSecs] 28 (0,0))]::[(g2,.cells #[.slice A4 x1.Tours.length c4,.slice A5 x1.Left.length c5] 33 (0,0))]::[(g3,.cells #[.slice none 0 0,.slice none 0 0] 33 (0,0))]::[(g4,.cells #[.slice A6 f1.length c6,.slice none 0 0] 33 (0,0))]::ch1::[(g5,.cells #[.int .i64 f2,.slice A10 f3.length c10] 51 (0,0))]::QI [] 7 l) l_∧(f3.length≤c10∧c10≤maxLen)∧Qz QP μ_ A10 f3) ?_ ?_
    ·intro _ h37953 h37923;refine Br h37953 33 E E (fun hc2 h37953=> ?_) (fun hc2 h37953=> ?_)
     ·refine G2 6 [33] [] [2,0] E (Cl E ?_);obtain ⟨⟨_,_⟩,hx3,h37953⟩:=Qj h37953;replace h37953:=Qp h37953;refine VQ hl1 hA1 hl2 hA2 hl3 hA3 hl7 hA7 hx3 (fun _ A9 c9 hm_2 hl8 hA8=> ?_);replace hA5:=hA5.mono hm_2;replace hO1:=hO1.mono hm_2;replace hA7:=hA7.mono hm_2;refine Q0 3 E (Al E fun _=>Q1 9 [0] E ?_);refine Br h37953 42 E E (fun hc3 h37953=> ?_) (fun hc3 h37953=> ?_)
      ·refine G2 7 [42] [] [5] E ?_;cases h37953;replace h37923:=Yn h37923;cases h37923;replace hb37908:=Yn hb37908;cases hb37908;have hq_:=hq37908 _ E;subst hq_;replace h:=Yn h;cases h;exact Rt [5] E E (Ug [] 8 (hR _ none 0 none 0 (hm37908.trans (hm_1.trans hm_2)) ⟨Nat.le_refl _,Nat.zero_le _⟩ Qz.nil ⟨Nat.le_refl _,Nat.zero_le _⟩ Qz.nil))
      refine G2 6 [] [42] [0,1] E ?_;cases h37953;exact Ce E ⟨_,_,A9,c9,rfl,fE E,sE [some 3,some 4,some 5,some 6,some 7,some 1] 8 E,(hl8),(hA8)⟩
     refine G2 2 [] [33] [] E ?_;cases h37953;exact Ce E ⟨_,_,A8,c8,rfl,fE E,sE [some 2,some 3,some 4,some 5,some 6,some 0] 7 E,(hl7),(hA7)⟩
    rintro _ _ _ _ h37923 hm37953 ⟨f2,f3,A10,c10,rfl,hF37953,hS37953,hl9,hA9⟩;replace h37923:=YB h37923;replace h37923:=Qp h37923;replace hA5:=hA5.mono hm37953;replace hO1:=hO1.mono hm37953;refine Atn 6 hF37953 hS37953 E E (G1 3 [5] E (Cl E ?_));obtain ⟨_,hx4,h37923⟩:=Qj h37923;refine Qc6 hl9 hA9 hx4 ((Q0 1 E ?_));refine Br h37923 46 E E (fun hc4 h37923=> ?_) (fun hc4 h37923=> ?_)
    ·refine G2 5 [46] [] [3,5] E (So E (YW (z:=[.int .i64 0,.slice none 0 0]) E E E E E E E (QZ (cells':=[.int .i64 f2,.slice A10 f3.length c10]) E E E E (YH (fun g7=>Q0 0 E (So E (Yf E ?_)))))));obtain ⟨_,hz1,h37923⟩:=Qj h37923;refine Yh (r:=Qw) QB E E E E (by decide) E E 5 E hO1 E (Own.rds (Own.lit (r:=Qw) (e:=51) (g:=g7) (xs:=[(Qa.mk f2 f3)]) (cs:=[.int .i64 f2,.slice A10 f3.length c10]) (css:=[[.int .i64 f2,.slice A10 f3.length c10]]) E (All2.cons (⟨A10,c10,E,hl9,hA9⟩) (All2.nil)) E E) 0 E) hz1 fun A11 c11 ch3 hO3=>Q1 4 [4] E ?_;cases h37923;exact Ce E ⟨_,A11,c11,ch3,rfl,fE E,sE [some 1,some 2,some 3,some 4,some 5] 7 E,(hO3)⟩
    refine G2 3 [] [46] [] E ?_;cases h37923;exact Ce E ⟨_,A6,c6,ch1,rfl,fE E,sE [some 0,some 1,some 2,some 3,some 4] 6 E,(hO1)⟩
   rintro _ _ _ _ hb37908 hm37923 ⟨f4,A12,c12,ch4,rfl,hF37923,hS37923,hO4⟩;replace hb37908:=YB hb37908;replace hA5:=hA5.mono hm37923;replace hO1:=hO1.mono hm37923;refine Atn 5 hF37923 hS37923 E E (G0 4 E ?_);cases hb37908;exact Ce E ⟨_,rfl,A12,c12,ch4,fE E,sE [some 0,some 1,some 2,some 3,some 4] 5 E,(hO4)⟩
  refine G2 2 [] [21] [] E ?_;cases hb37908;have hq_:=hq37908 _ E;subst hq_;exact Ce E ⟨_,A6,c6,ch1,rfl,fE E,sE [some 0,some 1,some 2,some 3,some 4] 5 E,(hO1)⟩
 rintro _ _ _ _ h hm37830 ⟨f5,A13,c13,ch5,rfl,hF37830,hS37830,hO5⟩;replace h:=YB h;replace hA5:=hA5.mono hm37830;refine Atn 5 hF37830 hS37830 E E (G1 8 [0] E ?_);refine Cut h (fun f l o_ f_ μ_ l_=> ∃(f8:(List Int)) (A17:Option Addr) (c17:Nat) (ch9:Seg),f8=o_∧Ql (Qq [8,10] f) f_∧Qe ([(g3,.cells #[.slice none 0 0,.slice none 0 0] 33 (0,0))]::[(g4,.cells #[.slice A13 f5.length c13,.slice A17 f8.length c17] 33 (0,0))]::ch5::ch9::QI [] 5 l) l_∧Own QP 3 μ_ (.slice A17 f8.length c17) f8 ch9) ?_ ?_
 ·intro _ h37995 h;refine Lp h37995 (fun f l (j_:(List Int)×Int) f_ μ_ l_=>Yt j_ fun f6 v5=> ∃(A14:Option Addr) (c14:Nat) (ch6:Seg),Ql ((57,.int .i64 v5)::Qq [2,5,8,10,56] f) f_∧Qe ([(g2,.cells #[.slice A4 x1.Tours.length c4,.slice A5 x1.Left.length c5] 33 (0,0))]::[(g3,.cells #[.slice none 0 0,.slice none 0 0] 33 (0,0))]::[(g4,.cells #[.slice A13 f5.length c13,.slice A14 f6.length c14] 33 (0,0))]::ch5::ch6::QI [] 5 l) l_∧Own QP 3 μ_ (.slice A14 f6.length c14) f6 ch6) ⟨none,0,[],fE E,sE [some 1,some 2,some 3,some 4,none] 5 E,(Own.nil)⟩ ?_;rintro ⟨f6,v5⟩ _ _ _ _ hm38026 ⟨A14,c14,ch6,hF38026,hS38026,hO6⟩ hb38026 hq38026;unfold ZW at hb38026;replace hb38026:=Qp hb38026;replace hA5:=hA5.mono hm38026;replace hO5:=hO5.mono hm38026;refine Atn 5 hF38026 hS38026 E E (G0 5 E ?_);refine Br hb38026 58 E E (fun hc5 hb38026=> ?_) (fun hc5 hb38026=> ?_)
  ·refine G2 3 [58] [] [] E ?_;refine Cut hb38026 (fun f l o_ f_ μ_ l_=> ∃(f7:(List Int)) (A16:Option Addr) (c16:Nat) (ch8:Seg),f7=o_∧Ql (Qq [2,5,8,10,56,57] f) f_∧Qe ([(g2,.cells #[.slice A4 x1.Tours.length c4,.slice A5 x1.Left.length c5] 33 (0,0))]::[(g3,.cells #[.slice none 0 0,.slice none 0 0] 33 (0,0))]::[(g4,.cells #[.slice A13 f5.length c13,.slice A16 f7.length c16] 33 (0,0))]::ch5::ch8::QI [] 5 l) l_∧Own QP 3 μ_ (.slice A16 f7.length c16) f7 ch8) ?_ ?_
   ·intro _ h38039 hb38026;refine G0 7 E ?_;refine Cut h38039 (fun f l o_ f_ μ_ l_=> ∃(v6:Bool),v6=o_∧Ql ((68,.bool v6)::Qq [2,5,8,10,15,56,57] f) f_∧Qe l l_) ?_ ?_
    ·intro _ h38040 h38039;refine G0 5 E ?_;refine Br h38040 63 E E (fun hc6 h38040=> ?_) (fun hc6 h38040=> ?_)
     ·refine G2 3 [63] [] [0] E (Cl E ?_);obtain ⟨_,hx5,h38040⟩:=Qj h38040;refine Qea hl5 (Qz.rds hA5 _) hx5 ((Q2 2 [63] [] [] E ?_));cases h38040;exact Ce E ⟨_,rfl,fE E,sE [some 0,some 1,some 2,some 3,some 4] 5 E⟩
     refine G2 6 [] [63] [] E ?_;cases h38040;exact Ce E ⟨_,rfl,fE E,sE [some 0,some 1,some 2,some 3,some 4] 5 E⟩
    rintro _ _ _ _ h38039 hm38040 ⟨v6,rfl,hF38040,hS38040⟩;replace hO5:=hO5.mono hm38040;replace hO6:=hO6.mono hm38040;refine Atn 5 hF38040 hS38040 E E ?_;refine Br h38039 68 E E (fun hc7 h38039=> ?_) (fun hc7 h38039=> ?_)
    ·refine G2 5 [68] [] [2] E (So E (YW (z:=[.int .i64 0]) E E E E E E E (QZ (cells':=[.int .i64 v5]) E E E E (YH (fun g8=>Q0 0 E (So E (Yf E ?_)))))));obtain ⟨_,hz2,h38039⟩:=Qj h38039;refine Yh (r:=QP) QB E E E E (by decide) E E 5 E hO6 E (Own.rds (Own.lit (r:=QP) (e:=3) (g:=g8) (xs:=[v5]) (cs:=[.int .i64 v5]) (css:=[[.int .i64 v5]]) E (All2.cons (E) (All2.nil)) E E) 0 E) hz2 fun A15 c15 ch7 hO7=>Q1 4 [3] E ?_;cases h38039;exact Ce E ⟨_,A15,c15,ch7,rfl,fE E,sE [some 1,some 2,some 3,some 4,some 5] 6 E,(hO7)⟩
    refine G2 3 [] [68] [] E ?_;cases h38039;exact Ce E ⟨_,A14,c14,ch6,rfl,fE E,sE [some 0,some 1,some 2,some 3,some 4] 5 E,(hO6)⟩
   rintro _ _ _ _ hb38026 hm38039 ⟨f7,A16,c16,ch8,rfl,hF38039,hS38039,hO8⟩;replace hO5:=hO5.mono hm38039;replace hO6:=hO6.mono hm38039;refine Atn 5 hF38039 hS38039 E E (G0 4 E ?_);cases hb38026;exact Ce E ⟨_,rfl,A16,c16,ch8,fE E,sE [some 0,some 1,some 2,some 3,some 4] 5 E,(hO8)⟩
  refine G2 2 [] [58] [] E ?_;cases hb38026;have hq_:=hq38026 _ E;subst hq_;exact Ce E ⟨_,A14,c14,ch6,rfl,fE E,sE [some 1,some 2,some 3,some 4] 5 E,(hO6)⟩
 rintro _ _ _ _ h hm37995 ⟨f8,A17,c17,ch9,rfl,hF37995,hS37995,hO9⟩;replace hO5:=hO5.mono hm37995;refine Atn 4 hF37995 hS37995 E E (G1 6 [1,0] E ?_);cases h;refine Rt [0] E E ?_;have hl10:=Own.lenOk hO5;refine Upd.frzOwn 2 E hO5 fun _ hm_3 hA10=> ?_;replace hO9:=hO9.mono hm_3;have hl11:=Own.lenOk hO9;refine Upd.frzOwn 3 E hO9 fun _ hm_4 hA11=> ?_;replace hA10:=hA10.mono hm_4;exact (Ug [] 4 (hR _ A13 c13 A17 c17 (hm37830.trans (hm37995.trans (hm_3.trans hm_4))) hl10 hA10 hl11 hA11))
theorem Qdo {F:Nat} {p1:Qh} {x1:Qk} {A1:Option Addr} {c1:Nat} {A2:Option Addr} {c2:Nat} {A3:Option Addr} {c3:Nat} {A4:Option Addr} {c4:Nat} {A5:Option Addr} {c5:Nat} {res1:(List Qk)} {res2:Int}
  (hl1:p1.Road.Edges.length≤c1∧c1≤maxLen) (hA1:Qz QN μ A1 p1.Road.Edges) (hl2:p1.Vehicles.length≤c2∧c2≤maxLen) (hA2:Qz QF μ A2 p1.Vehicles) (hl3:p1.Demands.length≤c3∧c3≤maxLen) (hA3:Qz QK μ A3 p1.Demands) (hl4:x1.Tours.length≤c4∧c4≤maxLen) (hA4:Qz Qw μ A4 x1.Tours) (hl5:x1.Left.length≤c5∧c5≤maxLen) (hA5:Qz QP μ A5 x1.Left) (h:Jy F p1 x1=some (res1,res2))
  (hR: ∀(μ':Gh) (A0:Option Addr) (c0:Nat) (ch0:Seg),μ.le μ'→Own ZI 33 μ' (.slice A0 res1.length c0) res1 ch0→R (.tuple #[.slice A0 res1.length c0,.int .i64 res2]) μ' (ch0::L)) :
  Fn Tryz.prog 17 [.agg #[.int .i64 p1.Road.Nodes,.slice A1 p1.Road.Edges.length c1,.slice A2 p1.Vehicles.length c2,.slice A3 p1.Demands.length c3,.int .i64 p1.Unload,.int .i64 p1.UnloadSecs],.agg #[.slice A4 x1.Tours.length c4,.slice A5 x1.Left.length c5]] μ (L) R:=by
 unfold Jy at h;refine FnS Tryz.func17 (by kernel_rfl) E Tryz.ntmps17 E E ?_;refine G0 2 E (Al E fun g1=>Q0 0 E (Al E fun g2=>Q1 8 [1,0] E (Cl E ?_)));obtain ⟨_,hx1,h⟩:=Qj h;refine Qac hl1 hA1 hl2 hA2 hl3 hA3 hl4 hA4 hl5 hA5 hx1 ((Q0 7 E ?_));refine Br h 24 E E (fun hc1 h=> ?_) (fun hc1 h=> ?_)
 ·refine G2 7 [24] [] [] E ?_;cases h;exact Rt [] E E (Ug [[]] 2 (hR _ none 0 [] (Gh.le.refl _) Own.nil))
 refine G2 6 [] [24] [1,0] E (Cl E ?_);obtain ⟨⟨_,_⟩,hx2,h⟩:=Qj h;replace h:=Qp h;refine QaT hl1 hA1 hl2 hA2 hl3 hA3 hl4 hA4 hl5 hA5 hx2 ((Q1 22 [1] E ?_));refine Cut h (fun f l o_ f_ μ_ l_=> ∃(out6:(List Qk)) (A28:Option Addr) (c26:Nat) (ch17:Seg),out6=o_∧Ql ((9,.slice A28 out6.length c26)::[]) f_∧Qe (ch17::QI [] 2 l) l_∧Own ZI 33 μ_ (.slice A28 out6.length c26) out6 ch17) ?_ ?_
 ·intro _ h38587 h;refine Lp h38587 (fun f l (j_:(List Qk)×(List Int)×Int) f_ μ_ l_=>Yt j_ fun out1 j_=>Yt j_ fun costs1 v1=> ∃(A6:Option Addr) (c6:Nat) (ch1:Seg) (A7:Option Addr) (c7:Nat) (ch2:Seg),Ql ((9,.slice A6 out1.length c6)::(10,.slice A7 costs1.length c7)::(35,.int .i64 v1)::Qq [2,3,7,34] f) f_∧Qe ([(g1,.cells #[.int .i64 p1.Road.Nodes,.slice A1 p1.Road.Edges.length c1,.slice A2 p1.Vehicles.length c2,.slice A3 p1.Demands.length c3,.int .i64 p1.Unload,.int .i64 p1.UnloadSecs] 28 (0,0))]::[(g2,.cells #[.slice A4 x1.Tours.length c4,.slice A5 x1.Left.length c5] 33 (0,0))]::ch1::ch2::QI [] 2 l) l_∧Own ZI 33 μ_ (.slice A6 out1.length c6) out1 ch1∧Own QP 3 μ_ (.slice A7 costs1.length c7) costs1 ch2) ⟨none,0,[],none,0,[],fE E,sE [some 1,some 0,none,none] 2 E,(Own.nil),(Own.nil)⟩ ?_;rintro ⟨out1,costs1,v1⟩ _ _ _ _ hm38857 ⟨A6,c6,ch1,A7,c7,ch2,hF38857,hS38857,hO1,hO2⟩ hb38857 hq38857;unfold Y7 at hb38857;replace hb38857:=Qp hb38857;replace hb38857:=Qp hb38857;replace hA1:=hA1.mono hm38857;replace hA2:=hA2.mono hm38857;replace hA3:=hA3.mono hm38857;replace hA4:=hA4.mono hm38857;replace hA5:=hA5.mono hm38857;refine Atn 4 hF38857 hS38857 E E (G0 5 E ?_);refine Br hb38857 36 E E (fun hc2 hb38857=> ?_) (fun hc2 hb38857=> ?_)
  ·refine G2 3 [36] [] [] E ?_;refine Cut hb38857 (fun f l o_ f_ μ_ l_=> ∃(out5:(List Qk)) (costs5:(List Int)) (A26:Option Addr) (c24:Nat) (ch15:Seg) (A27:Option Addr) (c25:Nat) (ch16:Seg),(out5,costs5)=o_∧Ql ((9,.slice A26 out5.length c24)::(10,.slice A27 costs5.length c25)::Qq [2,3,7,34,35] f) f_∧Qe ([(g1,.cells #[.int .i64 p1.Road.Nodes,.slice A1 p1.Road.Edges.length c1,.slice A2 p1.Vehicles.length c2,.slice A3 p1.Demands.length c3,.int .i64 p1.Unload,.int .i64 p1.UnloadSecs] 28 (0,0))]::[(g2,.cells #[.slice A4 x1.Tours.length c4,.slice A5 x1.Left.length c5] 33 (0,0))]::ch15::ch16::QI [] 4 l) l_∧Own ZI 33 μ_ (.slice A26 out5.length c24) out5 ch15∧Own QP 3 μ_ (.slice A27 costs5.length c25) costs5 ch16) ?_ ?_
   ·intro _ h38868 hb38857;refine G1 13 [0] E ?_;refine Cut h38868 (fun f l o_ f_ μ_ l_=> ∃(out4:(List Qk)) (costs4:(List Int)) (A24:Option Addr) (c22:Nat) (ch13:Seg) (A25:Option Addr) (c23:Nat) (ch14:Seg),(out4,costs4)=o_∧Ql ((9,.slice A24 out4.length c22)::(10,.slice A25 costs4.length c23)::Qq [2,3,7,34,35] f) f_∧Qe ([(g1,.cells #[.int .i64 p1.Road.Nodes,.slice A1 p1.Road.Edges.length c1,.slice A2 p1.Vehicles.length c2,.slice A3 p1.Demands.length c3,.int .i64 p1.Unload,.int .i64 p1.UnloadSecs] 28 (0,0))]::[(g2,.cells #[.slice A4 x1.Tours.length c4,.slice A5 x1.Left.length c5] 33 (0,0))]::ch13::ch14::QI [] 4 l) l_∧Own ZI 33 μ_ (.slice A24 out4.length c22) out4 ch13∧Own QP 3 μ_ (.slice A25 costs4.length c23) costs4 ch14) ?_ ?_
    ·intro _ h38869 h38868;refine Lp h38869 (fun f l (j_:(List Qk)×(List Int)×Int) f_ μ_ l_=>Yt j_ fun out2 j_=>Yt j_ fun costs2 v2=> ∃(A8:Option Addr) (c8:Nat) (ch3:Seg) (A9:Option Addr) (c9:Nat) (ch4:Seg),Ql ((9,.slice A8 out2.length c8)::(10,.slice A9 costs2.length c9)::(41,.int .i64 v2)::Qq [2,3,7,11,34,35,40] f) f_∧Qe ([(g1,.cells #[.int .i64 p1.Road.Nodes,.slice A1 p1.Road.Edges.length c1,.slice A2 p1.Vehicles.length c2,.slice A3 p1.Demands.length c3,.int .i64 p1.Unload,.int .i64 p1.UnloadSecs] 28 (0,0))]::[(g2,.cells #[.slice A4 x1.Tours.length c4,.slice A5 x1.Left.length c5] 33 (0,0))]::ch3::ch4::QI [] 4 l) l_∧Own ZI 33 μ_ (.slice A8 out2.length c8) out2 ch3∧Own QP 3 μ_ (.slice A9 costs2.length c9) costs2 ch4) ⟨A6,c6,ch1,A7,c7,ch2,fE E,sE [some 0,some 1,some 2,some 3] 4 E,(hO1),(hO2)⟩ ?_;rintro ⟨out2,costs2,v2⟩ _ _ _ _ hm38980 ⟨A8,c8,ch3,A9,c9,ch4,hF38980,hS38980,hO3,hO4⟩ hb38980 hq38980;unfold YK at hb38980;replace hb38980:=Qp hb38980;replace hb38980:=Qp hb38980;replace hA1:=hA1.mono hm38980;replace hA2:=hA2.mono hm38980;replace hA3:=hA3.mono hm38980;replace hA4:=hA4.mono hm38980;replace hA5:=hA5.mono hm38980;replace hO1:=hO1.mono hm38980;refine Atn 4 hF38980 hS38980 E E (G0 5 E ?_);refine Br hb38980 42 E E (fun hc3 hb38980=> ?_) (fun hc3 hb38980=> ?_)
     ·refine G2 3 [42] [] [] E ?_;refine Cut hb38980 (fun f l o_ f_ μ_ l_=> ∃(out3:(List Qk)) (costs3:(List Int)) (A22:Option Addr) (c20:Nat) (ch11:Seg) (A23:Option Addr) (c21:Nat) (ch12:Seg),(out3,costs3)=o_∧Ql ((9,.slice A22 out3.length c20)::(10,.slice A23 costs3.length c21)::Qq [2,3,7,11,34,35,40,41] f) f_∧Qe ([(g1,.cells #[.int .i64 p1.Road.Nodes,.slice A1 p1.Road.Edges.length c1,.slice A2 p1.Vehicles.length c2,.slice A3 p1.Demands.length c3,.int .i64 p1.Unload,.int .i64 p1.UnloadSecs] 28 (0,0))]::[(g2,.cells #[.slice A4 x1.Tours.length c4,.slice A5 x1.Left.length c5] 33 (0,0))]::ch11::ch12::QI [] 4 l) l_∧Own ZI 33 μ_ (.slice A22 out3.length c20) out3 ch11∧Own QP 3 μ_ (.slice A23 costs3.length c21) costs3 ch12) ?_ ?_
      ·intro _ h38989 hb38980;refine G1 12 [0,1] E (Cl E ?_);obtain ⟨⟨r4,_⟩,hx3,h38989⟩:=Qj h38989;replace h38989:=Qp h38989;refine QdW hl1 hA1 hl2 hA2 hl3 hA3 hl4 hA4 hl5 hA5 hx3 (fun _ A10 c10 A11 c11 hm_1 hl6 hA6 hl7 hA7=> ?_);replace hA1:=hA1.mono hm_1;replace hA2:=hA2.mono hm_1;replace hA3:=hA3.mono hm_1;replace hO1:=hO1.mono hm_1;replace hO3:=hO3.mono hm_1;replace hO4:=hO4.mono hm_1;refine Q0 3 E (Al E fun g3=>Q1 7 [0,1,0] E (Cl E ?_));obtain ⟨⟨r6,_⟩,hx4,h38989⟩:=Qj h38989;replace h38989:=Qp h38989;refine QaT hl1 hA1 hl2 hA2 hl3 hA3 hl6 hA6 hl7 hA7 hx4 ((Q0 8 E ?_));refine Cut h38989 (fun f l o_ f_ μ_ l_=> ∃(v4:Bool),v4=o_∧Ql ((75,.bool v4)::Qq [2,3,7,9,10,11,13,15,34,35,40,41] f) f_∧Qe (QI [some 1,some 2,some 3,some 4,some 0] 5 l) l_) ?_ ?_
       ·intro _ h38996 h38989;refine G0 4 E ?_;refine Br h38996 60 E E (fun hc4 h38996=> ?_) (fun hc4 h38996=> ?_)
        ·refine G2 16 [60,64] [] [] E ?_;cases h38996;exact Ce E ⟨_,rfl,fE E,sE [some 1,some 2,some 3,some 4,some 0] 5 E⟩
        refine G2 4 [] [60] [] E ?_;refine Br h38996 64 E E (fun hc5 h38996=> ?_) (fun hc5 h38996=> ?_)
        ·refine G2 12 [64] [] [] E ?_;cases h38996;exact Ce E ⟨_,rfl,fE E,sE [some 1,some 2,some 3,some 4,some 0] 5 E⟩
        refine G2 8 [] [64] [0,2] E (Cl E ?_);obtain ⟨_,hx5,h38996⟩:=Qj h38996;refine QaF  hx5 ((Q2 3 [] [64] [] E ?_));cases h38996;exact Ce E ⟨_,rfl,fE E,sE [some 1,some 2,some 3,some 4,some 0] 5 E⟩
       rintro _ _ _ _ h38989 hm38996 ⟨v4,rfl,hF38996,hS38996⟩;replace hO1:=hO1.mono hm38996;replace hO3:=hO3.mono hm38996;replace hO4:=hO4.mono hm38996;replace hA6:=hA6.mono hm38996;replace hA7:=hA7.mono hm38996;refine Atn 5 hF38996 hS38996 E E ?_;refine Br h38989 75 E E (fun hc6 h38989=> ?_) (fun hc6 h38989=> ?_)
       ·refine G2 2 [75] [] [] E ?_;cases h38989;exact Ce E ⟨_,_,A8,c8,ch3,A9,c9,ch4,rfl,fE E,sE [some 0,some 1,some 2,some 3] 5 E,(hO3),(hO4)⟩
       refine G2 9 [] [75] [] E ?_;refine Cut h38989 (fun f l o_ f_ μ_ l_=> ∃(f_at2:Int),f_at2=o_∧Ql ((17,.int .i64 f_at2)::Qq [2,3,7,9,10,11,13,15,34,35,40,41] f) f_∧Qe l l_) ?_ ?_
       ·intro _ h39003 h38989;refine Lp h39003 (fun f l (f_at1:Int) f_ μ_ l_=>Ql ((17,.int .i64 f_at1)::Qq [2,3,7,9,10,11,13,15,34,35,40,41] f) f_∧Qe l l_) ⟨fE E,sE [some 0,some 1,some 2,some 3,some 4] 5 E⟩ ?_;rintro f_at1 _ _ _ _ hm39033 ⟨hF39033,hS39033⟩ hb39033 hq39033;unfold Y2 at hb39033;replace hO1:=hO1.mono hm39033;replace hO3:=hO3.mono hm39033;replace hO4:=hO4.mono hm39033;replace hA6:=hA6.mono hm39033;replace hA7:=hA7.mono hm39033;refine Atn 5 hF39033 hS39033 E E (G0 2 E ?_);refine Cut hb39033 (fun f l o_ f_ μ_ l_=> ∃(v5:Bool),v5=o_∧Ql ((98,.bool v5)::Qq [2,3,7,9,10,11,13,15,17,34,35,40,41] f) f_∧Qe l l_) ?_ ?_
        ·intro _ h39047 hb39033;refine Dr _ QM.refl [(true,0),(true,1),(true,2),(true,3),(true,4),(true,5),(true,6),(true,7),(true,8),(true,9),(true,10),(true,11),(true,12),(true,13),(true,14),(true,15),(true,16),(true,17),(true,18),(false,19),(true,20)] (by kernel_rfl) (G0 3 E ?_);refine Br h39047 80 E E (fun hc7 h39047=> ?_) (fun hc7 h39047=> ?_)
         ·refine G2 7 [80] [] [4] E (Ix h39047 (Own.rds (L:=([(g1,.cells #[.int .i64 p1.Road.Nodes,.slice A1 p1.Road.Edges.length c1,.slice A2 p1.Vehicles.length c2,.slice A3 p1.Demands.length c3,.int .i64 p1.Unload,.int .i64 p1.UnloadSecs] 28 (0,0))]::[(g2,.cells #[.slice A4 x1.Tours.length c4,.slice A5 x1.Left.length c5] 33 (0,0))]::ch3::ch4::[(g3,.cells #[.slice A10 r4.Tours.length c10,.slice A11 r4.Left.length c11] 33 (0,0))]::L)) hO3 2 E) E E fun _ _ _ _ hr1 hc8 _ h39047=> ?_);obtain ⟨_,_,_,_,rfl,_,_,_,_⟩:=hr1;refine Q3 6 [80] [] [65] (Z1 hc8) E (Ix h39047 (Own.rds (L:=([(g1,.cells #[.int .i64 p1.Road.Nodes,.slice A1 p1.Road.Edges.length c1,.slice A2 p1.Vehicles.length c2,.slice A3 p1.Demands.length c3,.int .i64 p1.Unload,.int .i64 p1.UnloadSecs] 28 (0,0))]::[(g2,.cells #[.slice A4 x1.Tours.length c4,.slice A5 x1.Left.length c5] 33 (0,0))]::ch3::ch4::[(g3,.cells #[.slice A10 r4.Tours.length c10,.slice A11 r4.Left.length c11] 33 (0,0))]::L)) hO4 3 E) E E fun _ _ _ _ hr2 hc9 _ h39047=> ?_);obtain rfl:=hr2;refine Q3 1 [80] [] [64] (Z1 hc9) E (Cl E ?_);obtain ⟨_,hx8,h39047⟩:=Qj h39047;refine QaF  hx8 (?_);refine ⟨QM.refl,?_⟩;refine Q2 2 [80] [] [] E ?_;cases h39047;exact Ce E ⟨_,rfl,fE E,sE [some 0,some 1,some 2,some 3,some 4] 5 E⟩
         refine G2 19 [] [80] [] E ?_;cases h39047;exact Ce E ⟨_,rfl,fE E,sE [some 0,some 1,some 2,some 3,some 4] 5 E⟩
        rintro _ _ _ _ hb39033 hm39047 ⟨v5,rfl,hF39047,hS39047⟩;replace hO1:=hO1.mono hm39047;replace hO3:=hO3.mono hm39047;replace hO4:=hO4.mono hm39047;replace hA6:=hA6.mono hm39047;replace hA7:=hA7.mono hm39047;refine Atn 5 hF39047 hS39047 E E ?_;refine Br hb39033 98 E E (fun hc10 hb39033=> ?_) (fun hc10 hb39033=> ?_)
        ·refine G2 9 [98] [] [] E ?_;cases hb39033;exact Ce E ⟨_,rfl,fE E,sE [some 0,some 1,some 2,some 3,some 4] 5 E⟩
        refine G2 2 [] [98] [] E ?_;cases hb39033;have hq_:=hq39033 _ E;subst hq_;exact Ce E ⟨_,rfl,fE E,sE [some 0,some 1,some 2,some 3,some 4] 5 E⟩
       rintro _ _ _ _ h38989 hm39003 ⟨f_at2,rfl,hF39003,hS39003⟩;replace hO1:=hO1.mono hm39003;replace hO3:=hO3.mono hm39003;replace hO4:=hO4.mono hm39003;replace hA6:=hA6.mono hm39003;replace hA7:=hA7.mono hm39003;refine Atn 5 hF39003 hS39003 E E (G0 2 E (So E (YW (z:=[]) E E E E E E E (YH (fun g4=> ?_)))));obtain ⟨_,hs1,h38989⟩:=Qj h38989;refine Q0 2 E (Rdo E E (Qa9 E E E E E E (Own.lenOk hO3).1 hs1 ?_));have hA12:=Rds.pre (Own.rds (L:=([(g4,.cells #[] 33 (0,0))]::[(g1,.cells #[.int .i64 p1.Road.Nodes,.slice A1 p1.Road.Edges.length c1,.slice A2 p1.Vehicles.length c2,.slice A3 p1.Demands.length c3,.int .i64 p1.Unload,.int .i64 p1.UnloadSecs] 28 (0,0))]::[(g2,.cells #[.slice A4 x1.Tours.length c4,.slice A5 x1.Left.length c5] 33 (0,0))]::ch3::ch4::[(g3,.cells #[.slice A10 r4.Tours.length c10,.slice A11 r4.Left.length c11] 33 (0,0))]::L)) hO3 3 E) hs1;have hl10:=Qcv (Own.lenOk hO3) hs1;refine Q0 0 E (So E (Yf E ?_));obtain ⟨_,hz1,h38989⟩:=Qj h38989;refine Yh (r:=ZI) QB E E E E (by decide) E E 0 E (Own.empty (r:=ZI) (e:=33) (g:=g4)) E hA12 hz1 fun _ _ _ hO5=>Q1 6 [5] E (So E (YW (z:=[.slice none 0 0,.slice none 0 0]) E E E E E E E (QZ (cells':=[.slice A10 r4.Tours.length c10,.slice A11 r4.Left.length c11]) E E E E (YH (fun g5=>Q0 0 E (So E (Yf E ?_)))))));obtain ⟨_,hz2,h38989⟩:=Qj h38989;refine Yh (r:=ZI) QB E E E E (by decide) E E 1 E hO5 E (Own.rds (Own.lit (r:=ZI) (e:=33) (g:=g5) (xs:=[r4]) (cs:=[.slice A10 r4.Tours.length c10,.slice A11 r4.Left.length c11]) (css:=[[.slice A10 r4.Tours.length c10,.slice A11 r4.Left.length c11]]) E (All2.cons (⟨A10,c10,A11,c11,E,hl6,hA6,hl7,hA7⟩) (All2.nil)) E E) 0 E) hz2 fun _ _ ch6 hO6=> ?_;obtain ⟨_,hs2,h38989⟩:=Qj h38989;refine Q0 7 E (Rdo E E (QcH (r:=ZI) E E E E E E E (Own.lenOk hO3).1 hs2 fun _ hAe1=> ?_));have hA13:=Rds.sub (Own.rds (L:=([(g5,.cells #[.slice A10 r4.Tours.length c10,.slice A11 r4.Left.length c11] 33 (0,0))]::ch6::[(g1,.cells #[.int .i64 p1.Road.Nodes,.slice A1 p1.Road.Edges.length c1,.slice A2 p1.Vehicles.length c2,.slice A3 p1.Demands.length c3,.int .i64 p1.Unload,.int .i64 p1.UnloadSecs] 28 (0,0))]::[(g2,.cells #[.slice A4 x1.Tours.length c4,.slice A5 x1.Left.length c5] 33 (0,0))]::ch3::ch4::[(g3,.cells #[.slice A10 r4.Tours.length c10,.slice A11 r4.Left.length c11] 33 (0,0))]::L)) hO3 4 E) (Own.lenOk hO3).1 hs2 hAe1;have hl11:=Qel (Own.lenOk hO3) hs2;refine Q0 0 E (So E (Yf E ?_));obtain ⟨_,hz3,h38989⟩:=Qj h38989;refine Yh (r:=ZI) QB E E E E (by decide) E E 1 E hO6 E hA13 hz3 fun A17 c16 ch7 hO7=>Q0 4 E (So E (YW (z:=[]) E E E E E E E (YH (fun g6=> ?_))));obtain ⟨_,hs3,h38989⟩:=Qj h38989;refine Q0 2 E (Rdo E E (Qa9 E E E E E E (Own.lenOk hO4).1 hs3 ?_));have hA14:=Rds.pre (Own.rds (L:=([(g6,.cells #[] 3 (0,0))]::[(g5,.cells #[.slice A10 r4.Tours.length c10,.slice A11 r4.Left.length c11] 33 (0,0))]::ch7::[(g1,.cells #[.int .i64 p1.Road.Nodes,.slice A1 p1.Road.Edges.length c1,.slice A2 p1.Vehicles.length c2,.slice A3 p1.Demands.length c3,.int .i64 p1.Unload,.int .i64 p1.UnloadSecs] 28 (0,0))]::[(g2,.cells #[.slice A4 x1.Tours.length c4,.slice A5 x1.Left.length c5] 33 (0,0))]::ch3::ch4::[(g3,.cells #[.slice A10 r4.Tours.length c10,.slice A11 r4.Left.length c11] 33 (0,0))]::L)) hO4 6 E) hs3;have hl12:=Qcv (Own.lenOk hO4) hs3;refine Q0 0 E (So E (Yf E ?_));obtain ⟨_,hz4,h38989⟩:=Qj h38989;refine Yh (r:=QP) QB E E E E (by decide) E E 0 E (Own.empty (r:=QP) (e:=3) (g:=g6)) E hA14 hz4 fun _ _ _ hO8=>Q0 6 E (So E (YW (z:=[.int .i64 0]) E E E E E E E (QZ (cells':=[.int .i64 r6]) E E E E (YH (fun g7=>Q0 0 E (So E (Yf E ?_)))))));obtain ⟨_,hz5,h38989⟩:=Qj h38989;refine Yh (r:=QP) QB E E E E (by decide) E E 1 E hO8 E (Own.rds (Own.lit (r:=QP) (e:=3) (g:=g7) (xs:=[r6]) (cs:=[.int .i64 r6]) (css:=[[.int .i64 r6]]) E (All2.cons (E) (All2.nil)) E E) 0 E) hz5 fun _ _ ch9 hO9=> ?_;obtain ⟨_,hs4,h38989⟩:=Qj h38989;refine Q0 6 E (Rdo E E (QcH (r:=QP) E E E E E E E (Own.lenOk hO4).1 hs4 fun _ hAe2=> ?_))
       have hA15:=Rds.sub (Own.rds (L:=([(g7,.cells #[.int .i64 r6] 3 (0,0))]::ch9::[(g5,.cells #[.slice A10 r4.Tours.length c10,.slice A11 r4.Left.length c11] 33 (0,0))]::ch7::[(g1,.cells #[.int .i64 p1.Road.Nodes,.slice A1 p1.Road.Edges.length c1,.slice A2 p1.Vehicles.length c2,.slice A3 p1.Demands.length c3,.int .i64 p1.Unload,.int .i64 p1.UnloadSecs] 28 (0,0))]::[(g2,.cells #[.slice A4 x1.Tours.length c4,.slice A5 x1.Left.length c5] 33 (0,0))]::ch3::ch4::[(g3,.cells #[.slice A10 r4.Tours.length c10,.slice A11 r4.Left.length c11] 33 (0,0))]::L)) hO4 7 E) (Own.lenOk hO4).1 hs4 hAe2;have hl13:=Qel (Own.lenOk hO4) hs4;refine Q0 0 E (So E (Yf E ?_));obtain ⟨_,hz6,h38989⟩:=Qj h38989;refine Yh (r:=QP) QB E E E E (by decide) E E 1 E hO9 E hA15 hz6 fun A21 c19 ch10 hO10=>Q0 3 E ?_;cases h38989;exact Ce E ⟨_,_,A17,c16,ch7,A21,c19,ch10,rfl,fE E,sE [some 4,some 5,some 3,some 1] 9 E,(hO7),(hO10)⟩
      rintro _ _ _ _ hb38980 hm38989 ⟨out3,costs3,A22,c20,ch11,A23,c21,ch12,rfl,hF38989,hS38989,hO11,hO12⟩;replace hb38980:=Qp hb38980;replace hO1:=hO1.mono hm38989;replace hO3:=hO3.mono hm38989;replace hO4:=hO4.mono hm38989;refine Atn 4 hF38989 hS38989 E E (G0 4 E ?_);cases hb38980;exact Ce E ⟨_,rfl,A22,c20,ch11,A23,c21,ch12,fE E,sE [some 0,some 1,some 2,some 3] 4 E,(hO11),(hO12)⟩
     refine G2 2 [] [42] [] E ?_;cases hb38980;have hq_:=hq38980 _ E;subst hq_;exact Ce E ⟨_,_,A8,c8,ch3,A9,c9,ch4,rfl,fE E,sE [some 0,some 1,some 2,some 3] 4 E,(hO3),(hO4)⟩
    rintro _ _ _ _ h38868 hm38869 ⟨out4,costs4,A24,c22,ch13,A25,c23,ch14,rfl,hF38869,hS38869,hO13,hO14⟩;replace h38868:=Qp h38868;replace hO1:=hO1.mono hm38869;refine G0 1 E ?_;cases h38868;exact Ce E ⟨_,_,A24,c22,ch13,A25,c23,ch14,rfl,hF38869.tr E,hS38869.tr (sE [some 0,some 1,some 2,some 3] 4 E),(hO13),(hO14)⟩
   rintro _ _ _ _ hb38857 hm38868 ⟨out5,costs5,A26,c24,ch15,A27,c25,ch16,rfl,hF38868,hS38868,hO15,hO16⟩;replace hb38857:=Qp hb38857;replace hO1:=hO1.mono hm38868;refine Atn 4 hF38868 hS38868 E E (G0 4 E ?_);cases hb38857;exact Ce E ⟨_,rfl,A26,c24,ch15,A27,c25,ch16,fE E,sE [some 0,some 1,some 2,some 3] 4 E,(hO15),(hO16)⟩
  refine G2 2 [] [36] [] E ?_;cases hb38857;have hq_:=hq38857 _ E;subst hq_;exact Ce E ⟨_,A6,c6,ch1,rfl,fE E,sE [some 2] 4 E,(hO1)⟩
 rintro _ _ _ _ h hm38587 ⟨out6,A28,c26,ch17,rfl,hF38587,hS38587,hO17⟩;refine Atn 1 hF38587 hS38587 E E (G0 6 E ?_);cases h;exact Rt [] E E (Ug [[0]] 1 (hR _ A28 c26 ch17 hm38587 hO17))
end Go.Proofs.YthpgjbbjpfiniaaGreat
namespace Go.Proofs.YthpgjbbjpfiniaaGreat
open Go.RowKit
set_option linter.unusedSimpArgs false
set_option linter.unusedVariables false
set_option maxHeartbeats 2000000
set_option maxRecDepth 4000
attribute [local irreducible] WP Zp Qas Fn AN Upd vcR vcO QbS Jh Jj Qau QaR QbN Qao Wm Qcb QM KS
variable {μ:Gh} {L:List Seg} {R:Value→Gh→List Seg→Prop}
theorem Qdt {F:Nat} {p1:Qh} {A1:Option Addr} {c1:Nat} {A2:Option Addr} {c2:Nat} {A3:Option Addr} {c3:Nat} {res1:Qk} {res2:Int}
  (hl1:p1.Road.Edges.length≤c1∧c1≤maxLen) (hA1:Qz QN μ A1 p1.Road.Edges) (hl2:p1.Vehicles.length≤c2∧c2≤maxLen) (hA2:Qz QF μ A2 p1.Vehicles) (hl3:p1.Demands.length≤c3∧c3≤maxLen) (hA3:Qz QK μ A3 p1.Demands) (h:Js F p1=some (res1,res2))
  (hR: ∀(μ':Gh) (A0_0:Option Addr) (c0_0:Nat) (A0_1:Option Addr) (c0_1:Nat),μ.le μ'→(res1.Tours.length≤c0_0∧c0_0≤maxLen)→Qz Qw μ' A0_0 res1.Tours→(res1.Left.length≤c0_1∧c0_1≤maxLen)→Qz QP μ' A0_1 res1.Left→R (.tuple #[.agg #[.slice A0_0 res1.Tours.length c0_0,.slice A0_1 res1.Left.length c0_1],.int .i64 res2]) μ' (L)) :
  Fn Tryz.prog 36 [.agg #[.int .i64 p1.Road.Nodes,.slice A1 p1.Road.Edges.length c1,.slice A2 p1.Vehicles.length c2,.slice A3 p1.Demands.length c3,.int .i64 p1.Unload,.int .i64 p1.UnloadSecs]] μ (L) R:=by
 unfold Js at h;refine FnS Tryz.func36 (by kernel_rfl) E Tryz.ntmps36 E E ?_;refine G0 2 E (Al E fun g1=>Q0 0 E (Al E fun g2=>Q1 5 [1] E (Cl E ?_)));obtain ⟨_,hx1,h⟩:=Qj h;refine Wy hl1 hA1 hl2 hA2 hl3 hA3 hx1 ((Q0 8 E ?_));refine Br h 23 E E (fun hc1 h=> ?_) (fun hc1 h=> ?_)
 ·refine G2 8 [23] [] [0] E ?_;cases h;exact Rt [0] E E (Ug [] 2 (hR _ none 0 none 0 (Gh.le.refl _) ⟨Nat.le_refl _,Nat.zero_le _⟩ Qz.nil ⟨Nat.le_refl _,Nat.zero_le _⟩ Qz.nil))
 refine G2 11 [] [23] [] E ?_;refine Cut h (fun f l o_ f_ μ_ l_=> ∃(tours2:(List Qa)) (A6:Option Addr) (c6:Nat) (ch3:Seg),tours2=o_∧Ql ((5,.slice A6 tours2.length c6)::Qq [1,2] f) f_∧Qe ([(g1,.cells #[.int .i64 p1.Road.Nodes,.slice A1 p1.Road.Edges.length c1,.slice A2 p1.Vehicles.length c2,.slice A3 p1.Demands.length c3,.int .i64 p1.Unload,.int .i64 p1.UnloadSecs] 28 (0,0))]::[(g2,.cells #[.slice none 0 0,.slice none 0 0] 33 (0,0))]::ch3::QI [] 2 l) l_∧Own Qw 51 μ_ (.slice A6 tours2.length c6) tours2 ch3) ?_ ?_
 ·intro _ h36518 h;refine Lp h36518 (fun f l (j_:(List Qa)×Int) f_ μ_ l_=>Yt j_ fun tours1 v1=> ∃(A4:Option Addr) (c4:Nat) (ch1:Seg),Ql ((5,.slice A4 tours1.length c4)::(6,.int .i64 v1)::Qq [1,2] f) f_∧Qe ([(g1,.cells #[.int .i64 p1.Road.Nodes,.slice A1 p1.Road.Edges.length c1,.slice A2 p1.Vehicles.length c2,.slice A3 p1.Demands.length c3,.int .i64 p1.Unload,.int .i64 p1.UnloadSecs] 28 (0,0))]::[(g2,.cells #[.slice none 0 0,.slice none 0 0] 33 (0,0))]::ch1::QI [] 2 l) l_∧Own Qw 51 μ_ (.slice A4 tours1.length c4) tours1 ch1) ⟨none,0,[],fE E,sE [some 1,some 0,none] 2 E,(Own.nil)⟩ ?_;rintro ⟨tours1,v1⟩ _ _ _ _ hm36531 ⟨A4,c4,ch1,hF36531,hS36531,hO1⟩ hb36531 hq36531;unfold ZO at hb36531;replace hb36531:=Qp hb36531;replace hA1:=hA1.mono hm36531;replace hA2:=hA2.mono hm36531;replace hA3:=hA3.mono hm36531;refine Atn 3 hF36531 hS36531 E E (G1 9 [0] E ?_);refine Br hb36531 30 E E (fun hc2 hb36531=> ?_) (fun hc2 hb36531=> ?_)
  ·refine G2 8 [30] [] [] E (So E (YW (z:=[.int .i64 0,.slice none 0 0]) E E E E E E E (QZ (cells':=[.int .i64 v1,.slice none 0 0]) E E E E (YH (fun g3=>Q0 0 E (So E (Yf E ?_)))))));obtain ⟨_,hz1,hb36531⟩:=Qj hb36531;refine Yh (r:=Qw) QB E E E E (by decide) E E 3 E hO1 E (Own.rds (Own.lit (r:=Qw) (e:=51) (g:=g3) (xs:=[(Qa.mk v1 [])]) (cs:=[.int .i64 v1,.slice none 0 0]) (css:=[[.int .i64 v1,.slice none 0 0]]) E (All2.cons (⟨none,0,E,⟨Nat.le_refl _,Nat.zero_le _⟩,Qz.nil⟩) (All2.nil)) E E) 0 E) hz1 fun A5 c5 ch2 hO2=>Q0 8 E ?_;cases hb36531;exact Ce E ⟨_,rfl,A5,c5,ch2,fE E,sE [some 1,some 2,some 3] 4 E,(hO2)⟩
  refine G2 2 [] [30] [] E ?_;cases hb36531;have hq_:=hq36531 _ E;subst hq_;exact Ce E ⟨_,A4,c4,ch1,rfl,fE E,sE [some 0,some 1,some 2] 3 E,(hO1)⟩
 rintro _ _ _ _ h hm36518 ⟨tours2,A6,c6,ch3,rfl,hF36518,hS36518,hO3⟩;replace hA1:=hA1.mono hm36518;replace hA2:=hA2.mono hm36518;replace hA3:=hA3.mono hm36518;refine Atn 3 hF36518 hS36518 E E (G0 2 E (Al E fun g4=>Q0 6 E ?_));refine Cut h (fun f l o_ f_ μ_ l_=> ∃(tours5:(List Qa)) (f11:(List Int)) (A21:Option Addr) (c21:Nat) (ch10:Seg) (A22:Option Addr) (c22:Nat) (ch11:Seg),(tours5,f11)=o_∧Ql ((5,.slice A21 tours5.length c21)::Qq [2,7] f) f_∧Qe ([(g2,.cells #[.slice none 0 0,.slice none 0 0] 33 (0,0))]::ch10::[(g4,.cells #[.slice none 0 0,.slice A22 f11.length c22] 33 (0,0))]::ch11::QI [] 4 l) l_∧Own Qw 51 μ_ (.slice A21 tours5.length c21) tours5 ch10∧Own QP 3 μ_ (.slice A22 f11.length c22) f11 ch11) ?_ ?_
 ·intro _ h36552 h;refine Lp h36552 (fun f l (j_:(List Qa)×(List Int)×Int) f_ μ_ l_=>Yt j_ fun tours3 j_=>Yt j_ fun f1 d1=> ∃(A7:Option Addr) (c7:Nat) (ch4:Seg) (A8:Option Addr) (c8:Nat) (ch5:Seg),Ql ((5,.slice A7 tours3.length c7)::(8,.int .i64 d1)::Qq [1,2,7] f) f_∧Qe ([(g1,.cells #[.int .i64 p1.Road.Nodes,.slice A1 p1.Road.Edges.length c1,.slice A2 p1.Vehicles.length c2,.slice A3 p1.Demands.length c3,.int .i64 p1.Unload,.int .i64 p1.UnloadSecs] 28 (0,0))]::[(g2,.cells #[.slice none 0 0,.slice none 0 0] 33 (0,0))]::ch4::[(g4,.cells #[.slice none 0 0,.slice A8 f1.length c8] 33 (0,0))]::ch5::QI [] 4 l) l_∧Own Qw 51 μ_ (.slice A7 tours3.length c7) tours3 ch4∧Own QP 3 μ_ (.slice A8 f1.length c8) f1 ch5) ⟨A6,c6,ch3,none,0,[],fE E,sE [some 1,some 2,some 3,some 0,none] 4 E,(hO3),(Own.nil)⟩ ?_;rintro ⟨tours3,f1,d1⟩ _ _ _ _ hm36789 ⟨A7,c7,ch4,A8,c8,ch5,hF36789,hS36789,hO4,hO5⟩ hb36789 hq36789;unfold Y6 at hb36789;replace hb36789:=Qp hb36789;replace hb36789:=Qp hb36789;replace hA1:=hA1.mono hm36789;replace hA2:=hA2.mono hm36789;replace hA3:=hA3.mono hm36789;refine Atn 5 hF36789 hS36789 E E (G1 9 [0] E ?_);refine Br hb36789 42 E E (fun hc3 hb36789=> ?_) (fun hc3 hb36789=> ?_)
  ·refine G2 3 [42] [] [] E ?_;refine Cut hb36789 (fun f l o_ f_ μ_ l_=> ∃(tours4:(List Qa)) (f10:(List Int)) (A19:Option Addr) (c19:Nat) (ch8:Seg) (A20:Option Addr) (c20:Nat) (ch9:Seg),(tours4,f10)=o_∧Ql ((5,.slice A19 tours4.length c19)::Qq [1,2,7,8] f) f_∧Qe ([(g1,.cells #[.int .i64 p1.Road.Nodes,.slice A1 p1.Road.Edges.length c1,.slice A2 p1.Vehicles.length c2,.slice A3 p1.Demands.length c3,.int .i64 p1.Unload,.int .i64 p1.UnloadSecs] 28 (0,0))]::[(g2,.cells #[.slice none 0 0,.slice none 0 0] 33 (0,0))]::ch8::[(g4,.cells #[.slice none 0 0,.slice A20 f10.length c20] 33 (0,0))]::ch9::QI [] 5 l) l_∧Own Qw 51 μ_ (.slice A19 tours4.length c19) tours4 ch8∧Own QP 3 μ_ (.slice A20 f10.length c20) f10 ch9) ?_ ?_
   ·intro _ h36802 hb36789;refine G0 11 E (Al E fun g5=>Q0 6 E ?_);refine Cut h36802 (fun f l o_ f_ μ_ l_=> ∃(f_at3:Int) (f8:Int) (f9:(List Int)) (A15:Option Addr) (c15:Nat),(f_at3,f8,f9)=o_∧Ql ((9,.int .i64 f_at3)::Qq [1,2,5,7,8,11] f) f_∧Qe ([(g1,.cells #[.int .i64 p1.Road.Nodes,.slice A1 p1.Road.Edges.length c1,.slice A2 p1.Vehicles.length c2,.slice A3 p1.Demands.length c3,.int .i64 p1.Unload,.int .i64 p1.UnloadSecs] 28 (0,0))]::[(g2,.cells #[.slice none 0 0,.slice none 0 0] 33 (0,0))]::ch4::[(g4,.cells #[.slice none 0 0,.slice A8 f1.length c8] 33 (0,0))]::ch5::[(g5,.cells #[.int .i64 f8,.slice A15 f9.length c15] 51 (0,0))]::QI [] 6 l) l_∧(f9.length≤c15∧c15≤maxLen)∧Qz QP μ_ A15 f9) ?_ ?_
    ·intro _ h36805 h36802;refine Lp h36805 (fun f l (j_:Int×Int×Int×(List Int)×Int) f_ μ_ l_=>Yt j_ fun f_at1 j_=>Yt j_ fun least1 j_=>Yt j_ fun f2 j_=>Yt j_ fun f3 v2=> ∃(A9:Option Addr) (c9:Nat),Ql ((9,.int .i64 f_at1)::(10,.int .i64 least1)::(12,.int .i64 v2)::Qq [1,2,5,7,8,11] f) f_∧Qe ([(g1,.cells #[.int .i64 p1.Road.Nodes,.slice A1 p1.Road.Edges.length c1,.slice A2 p1.Vehicles.length c2,.slice A3 p1.Demands.length c3,.int .i64 p1.Unload,.int .i64 p1.UnloadSecs] 28 (0,0))]::[(g2,.cells #[.slice none 0 0,.slice none 0 0] 33 (0,0))]::ch4::[(g4,.cells #[.slice none 0 0,.slice A8 f1.length c8] 33 (0,0))]::ch5::[(g5,.cells #[.int .i64 f2,.slice A9 f3.length c9] 51 (0,0))]::QI [] 6 l) l_∧(f3.length≤c9∧c9≤maxLen)∧Qz QP μ_ A9 f3) ⟨none,0,fE E,sE [some 1,some 2,some 3,some 4,some 5,some 0] 6 E,(⟨Nat.le_refl _,Nat.zero_le _⟩),(Qz.nil)⟩ ?_;rintro ⟨f_at1,least1,f2,f3,v2⟩ _ _ _ _ hm36914 ⟨A9,c9,hF36914,hS36914,hl4,hA4⟩ hb36914 hq36914;unfold Yu at hb36914;replace hb36914:=Qp hb36914;replace hb36914:=Qp hb36914;replace hb36914:=Qp hb36914;replace hb36914:=Qp hb36914;replace hA1:=hA1.mono hm36914;replace hA2:=hA2.mono hm36914;replace hA3:=hA3.mono hm36914;replace hO4:=hO4.mono hm36914;replace hO5:=hO5.mono hm36914;refine Atn 6 hF36914 hS36914 E E (G0 8 E ?_);refine Br hb36914 48 E E (fun hc4 hb36914=> ?_) (fun hc4 hb36914=> ?_)
     ·refine G2 3 [48] [] [] E ?_;refine Cut hb36914 (fun f l o_ f_ μ_ l_=> ∃(f_at2:Int) (least2:Int) (f6:Int) (f7:(List Int)) (A14:Option Addr) (c14:Nat),(f_at2,least2,f6,f7)=o_∧Ql ((9,.int .i64 f_at2)::(10,.int .i64 least2)::Qq [1,2,5,7,8,11,12] f) f_∧Qe ([(g1,.cells #[.int .i64 p1.Road.Nodes,.slice A1 p1.Road.Edges.length c1,.slice A2 p1.Vehicles.length c2,.slice A3 p1.Demands.length c3,.int .i64 p1.Unload,.int .i64 p1.UnloadSecs] 28 (0,0))]::[(g2,.cells #[.slice none 0 0,.slice none 0 0] 33 (0,0))]::ch4::[(g4,.cells #[.slice none 0 0,.slice A8 f1.length c8] 33 (0,0))]::ch5::[(g5,.cells #[.int .i64 f6,.slice A14 f7.length c14] 51 (0,0))]::QI [] 6 l) l_∧(f7.length≤c14∧c14≤maxLen)∧Qz QP μ_ A14 f7) ?_ ?_
      ·intro _ h36929 hb36914;refine G0 2 E ?_;refine Cut h36929 (fun f l o_ f_ μ_ l_=> ∃(f4:Int) (f5:(List Int)) (e1:Int) (g7:Nat) (A12:Option Addr) (c12:Nat),(f4,f5,e1)=o_∧Ql ((13,.pointer (some ⟨g7,0,none⟩))::(14,.int .i64 e1)::Qq [1,2,5,7,8,9,10,11,12] f) f_∧Qe ([(g1,.cells #[.int .i64 p1.Road.Nodes,.slice A1 p1.Road.Edges.length c1,.slice A2 p1.Vehicles.length c2,.slice A3 p1.Demands.length c3,.int .i64 p1.Unload,.int .i64 p1.UnloadSecs] 28 (0,0))]::[(g2,.cells #[.slice none 0 0,.slice none 0 0] 33 (0,0))]::ch4::[(g4,.cells #[.slice none 0 0,.slice A8 f1.length c8] 33 (0,0))]::ch5::[(g5,.cells #[.int .i64 f2,.slice A9 f3.length c9] 51 (0,0))]::[(g7,.cells #[.int .i64 f4,.slice A12 f5.length c12] 51 (0,0))]::QI [] 6 l) l_∧(f5.length≤c12∧c12≤maxLen)∧Qz QP μ_ A12 f5) ?_ ?_
       ·intro _ h36949 h36929;refine Cd (WP.draw (id:=19) Qc7 _ QM.refl E (AN.run (fuel:=7) (listed':=[true,true,true,true,true,true,false,false,false,false,false,false,false]) QB [(true,0),(true,1),(true,2),(true,3),(true,4),(true,5)] (by kernel_rfl) (by kernel_rfl) E (VC E (QC E E E E (LA_ (vs:=[.int .i64 p1.Road.Nodes,.slice A1 p1.Road.Edges.length c1,.slice A2 p1.Vehicles.length c2,.slice A3 p1.Demands.length c3,.int .i64 p1.Unload,.int .i64 p1.UnloadSecs]) 0 0 E E E E (Pt E E (QL E (Pt E E (QL E (Pt E E ?_))))))))));obtain ⟨x1,hx2,h36949⟩:=Qj h36949;obtain ⟨_,_,hA5,hr1,_,hc5⟩:=Rds.getI (Own.rds (L:=([(g1,.cells #[.int .i64 p1.Road.Nodes,.slice A1 p1.Road.Edges.length c1,.slice A2 p1.Vehicles.length c2,.slice A3 p1.Demands.length c3,.int .i64 p1.Unload,.int .i64 p1.UnloadSecs] 28 (0,0))]::[(g2,.cells #[.slice none 0 0,.slice none 0 0] 33 (0,0))]::ch4::[(g4,.cells #[.slice none 0 0,.slice A8 f1.length c8] 33 (0,0))]::ch5::[(g5,.cells #[.int .i64 f2,.slice A9 f3.length c9] 51 (0,0))]::L)) hO4 2 rfl) hx2;obtain ⟨A10,c10,rfl,hl5,hA6⟩:=hr1;refine QJ E E E E E E ⟨(Qd hx2).1,(Qd hx2).2.1⟩ hA5 (Pt E E (QC E E E E (Ex.mk [.int .i64 x1.Vehicle,.slice A10 x1.Stops.length c10] ⟨rfl,hc5⟩ (Pt E E (QL E (Qf E (QU ?_)))))));refine Ws QB (a:=6) (b:=10) (by kernel_rfl) ?_ ?_
        ·refine FO_ E E (Qaj (all:=[.agg #[.int .i64 p1.Road.Nodes,.slice A1 p1.Road.Edges.length c1,.slice A2 p1.Vehicles.length c2,.slice A3 p1.Demands.length c3,.int .i64 p1.Unload,.int .i64 p1.UnloadSecs],.agg #[.int .i64 x1.Vehicle,.slice A10 x1.Stops.length c10],.int .i64 d1]) E E E ?_);obtain ⟨⟨r2,r3⟩,hx3,h36949⟩:=Qj h36949;replace h36949:=Qp h36949;refine VQ hl1 hA1 hl2 hA2 hl3 hA3 hl5 hA6 hx3 (fun v3 A11 c11 hm_1 hl6 hA7=> ?_);replace hA1:=hA1.mono hm_1;replace hA2:=hA2.mono hm_1;replace hA3:=hA3.mono hm_1;replace hO4:=hO4.mono hm_1;replace hO5:=hO5.mono hm_1;replace hA4:=hA4.mono hm_1;replace hA6:=hA6.mono hm_1;refine ⟨QM.refl,?_⟩;refine Qf E (AN.run (fuel:=0) (listed':=[true,true,true,true,true,true,true,true,true,true,true,true,true]) QB [(true,7),(true,8),(true,9),(false,10),(false,11),(true,12)] (by kernel_rfl) (by kernel_rfl) E (VC E (QL E (Pt E E (Qc9 E E (Pt E E (Qc9 E E (Qf E (QA E (VP (cs:= #[.int .i64 0,.slice none 0 0]) E E (fun g6=> ?_)))))))))));refine ⟨QM.more (QM.refl),?_⟩;refine Qf E (QA E (Qs (vs:=[.int .i64 r2.Vehicle,.slice A11 r2.Stops.length c11]) E E E E E E (ST_ (L':=([(g6,.cells #[.int .i64 r2.Vehicle,.slice A11 r2.Stops.length c11] 51 (0,0))]::[(g1,.cells #[.int .i64 p1.Road.Nodes,.slice A1 p1.Road.Edges.length c1,.slice A2 p1.Vehicles.length c2,.slice A3 p1.Demands.length c3,.int .i64 p1.Unload,.int .i64 p1.UnloadSecs] 28 (0,0))]::[(g2,.cells #[.slice none 0 0,.slice none 0 0] 33 (0,0))]::ch4::[(g4,.cells #[.slice none 0 0,.slice A8 f1.length c8] 33 (0,0))]::ch5::[(g5,.cells #[.int .i64 f2,.slice A9 f3.length c9] 51 (0,0))]::L)) 0 0 E E E E ?_)));refine ⟨QM.more (QM.refl),?_⟩;refine QH (VC E (Qbm E (Qf E (QU (AN.done0 (by kernel_rfl) ?_)))));cases h36949;exact Ce E ⟨_,_,_,g6,A11,c11,rfl,fE E,sE [some 1,some 2,some 3,some 4,some 5,some 6,some 0] 7 E,(hl6),(hA7)⟩
        obtain ⟨⟨r2,r3⟩,hx3,h36949⟩:=Qj h36949;replace h36949:=Qp h36949;refine FO_ E E (VP (cs:= #[.int .i64 0,.slice none 0 0]) E E (fun g6=> ?_));refine ⟨QM.more (QM.refl),?_⟩;refine Qf E (AN.run (fuel:=0) (listed':=[true,true,true,true,true,true,true,true,true,true,true,true,true]) QB [(false,6),(true,7),(true,8),(true,9),(false,11),(true,12)] (by kernel_rfl) (by kernel_rfl) E (QA E (Qaj (all:=[.agg #[.int .i64 p1.Road.Nodes,.slice A1 p1.Road.Edges.length c1,.slice A2 p1.Vehicles.length c2,.slice A3 p1.Demands.length c3,.int .i64 p1.Unload,.int .i64 p1.UnloadSecs],.agg #[.int .i64 x1.Vehicle,.slice A10 x1.Stops.length c10],.int .i64 d1]) E E E (VQ hl1 hA1 hl2 hA2 hl3 hA3 hl5 hA6 hx3 (fun v3 A11 c11 hm_1 hl6 hA7=> ?_)))));replace hA1:=hA1.mono hm_1;replace hA2:=hA2.mono hm_1;replace hA3:=hA3.mono hm_1;replace hO4:=hO4.mono hm_1;replace hO5:=hO5.mono hm_1;replace hA4:=hA4.mono hm_1;refine ⟨QM.more (QM.refl),?_⟩;refine Pt E E (QL E (Pt E E (Qc9 E E (Pt E E (Qc9 E E (Qf E (QA E (Qs (vs:=[.int .i64 r2.Vehicle,.slice A11 r2.Stops.length c11]) E E E E E E (ST_ (L':=([(g6,.cells #[.int .i64 r2.Vehicle,.slice A11 r2.Stops.length c11] 51 (0,0))]::[(g1,.cells #[.int .i64 p1.Road.Nodes,.slice A1 p1.Road.Edges.length c1,.slice A2 p1.Vehicles.length c2,.slice A3 p1.Demands.length c3,.int .i64 p1.Unload,.int .i64 p1.UnloadSecs] 28 (0,0))]::[(g2,.cells #[.slice none 0 0,.slice none 0 0] 33 (0,0))]::ch4::[(g4,.cells #[.slice none 0 0,.slice A8 f1.length c8] 33 (0,0))]::ch5::[(g5,.cells #[.int .i64 f2,.slice A9 f3.length c9] 51 (0,0))]::L)) 0 0 E E E E ?_)))))))));refine ⟨QM.more (QM.refl),?_⟩;refine QH (VC E (Qbm E (Qf E (QU (AN.done0 (by kernel_rfl) ?_)))));cases h36949;exact Ce E ⟨_,_,_,g6,A11,c11,rfl,fE E,sE [some 1,some 2,some 3,some 4,some 5,some 6,some 0] 7 E,(hl6),(hA7)⟩
       rintro _ _ _ _ h36929 hm36949 ⟨f4,f5,e1,g7,A12,c12,rfl,hF36949,hS36949,hl7,hA8⟩;replace h36929:=Qp h36929;replace h36929:=Qp h36929;replace hA1:=hA1.mono hm36949;replace hA2:=hA2.mono hm36949;replace hA3:=hA3.mono hm36949;replace hO4:=hO4.mono hm36949;replace hO5:=hO5.mono hm36949;replace hA4:=hA4.mono hm36949;refine Atn 7 hF36949 hS36949 E E (G0 6 E ?_);refine Br h36929 62 E E (fun hc6 h36929=> ?_) (fun hc6 h36929=> ?_)
       ·refine G2 2 [62] [] [] E ?_;cases h36929;exact Ce E ⟨_,_,_,_,A9,c9,rfl,fE E,sE [some 0,some 1,some 2,some 3,some 4,some 5] 7 E,(hl4),(hA4)⟩
       refine G2 6 [] [62] [0,6] E (Cl E ?_);obtain ⟨⟨_,_⟩,hx4,h36929⟩:=Qj h36929;replace h36929:=Qp h36929;refine WU hl1 hA1 hl2 hA2 hl3 hA3 hl7 hA8 hx4 ((Q0 7 E (Dr _ QM.refl [(true,0),(true,1),(true,2),(true,3),(true,4),(false,5),(true,6),(true,7),(true,8),(true,9),(true,10)] (by kernel_rfl) (G1 3 [0] E (Ix h36929 (Own.rds (L:=([(g1,.cells #[.int .i64 p1.Road.Nodes,.slice A1 p1.Road.Edges.length c1,.slice A2 p1.Vehicles.length c2,.slice A3 p1.Demands.length c3,.int .i64 p1.Unload,.int .i64 p1.UnloadSecs] 28 (0,0))]::[(g2,.cells #[.slice none 0 0,.slice none 0 0] 33 (0,0))]::ch4::[(g4,.cells #[.slice none 0 0,.slice A8 f1.length c8] 33 (0,0))]::ch5::[(g5,.cells #[.int .i64 f2,.slice A9 f3.length c9] 51 (0,0))]::[(g7,.cells #[.int .i64 f4,.slice A12 f5.length c12] 51 (0,0))]::L)) hO4 2 E) E E fun _ _ _ _ hr2 hc7 _ h36929=> ?_)))));obtain ⟨_,_,rfl,hl8,hA10⟩:=hr2;refine Q3 1 [] [] [64] (Z1 hc7) E (Cl E ?_);obtain ⟨⟨_,_⟩,hx6,h36929⟩:=Qj h36929;replace h36929:=Qp h36929;refine WU hl1 hA1 hl2 hA2 hl3 hA3 hl8 hA10 hx6 (?_);refine ⟨QM.refl,?_⟩;refine Q0 7 E ?_;refine Cut h36929 (fun f l o_ f_ μ_ l_=> ∃(v4:Bool),v4=o_∧Ql ((86,.bool v4)::Qq [1,2,5,7,8,9,10,11,12,13,15,17] f) f_∧Qe l l_) ?_ ?_
       ·intro _ h37003 h36929;refine G0 4 E ?_;refine Br h37003 80 E E (fun hc8 h37003=> ?_) (fun hc8 h37003=> ?_)
        ·refine G2 7 [80] [] [] E ?_;cases h37003;exact Ce E ⟨_,rfl,fE E,sE [some 0,some 1,some 2,some 3,some 4,some 5,some 6] 7 E⟩
        refine G2 7 [] [80] [] E ?_;cases h37003;exact Ce E ⟨_,rfl,fE E,sE [some 0,some 1,some 2,some 3,some 4,some 5,some 6] 7 E⟩
       rintro _ _ _ _ h36929 hm37003 ⟨v4,rfl,hF37003,hS37003⟩;replace hO4:=hO4.mono hm37003;replace hO5:=hO5.mono hm37003;replace hA4:=hA4.mono hm37003;replace hA8:=hA8.mono hm37003;refine Atn 7 hF37003 hS37003 E E ?_;refine Br h36929 86 E E (fun hc9 h36929=> ?_) (fun hc9 h36929=> ?_)
       ·refine G2 18 [86] [] [6,5] E ?_;cases h36929;exact Ce E ⟨_,_,_,_,A12,c12,rfl,fE E,sE [some 0,some 1,some 2,some 3,some 4,some 5] 7 E,(hl7),(hA8)⟩
       refine G2 3 [] [86] [] E ?_;cases h36929;exact Ce E ⟨_,_,_,_,A9,c9,rfl,fE E,sE [some 0,some 1,some 2,some 3,some 4,some 5] 7 E,(hl4),(hA4)⟩
      rintro _ _ _ _ hb36914 hm36929 ⟨f_at2,least2,f6,f7,A14,c14,rfl,hF36929,hS36929,hl9,hA11⟩;replace hb36914:=Qp hb36914;replace hb36914:=Qp hb36914;replace hb36914:=Qp hb36914;replace hO4:=hO4.mono hm36929;replace hO5:=hO5.mono hm36929;replace hA4:=hA4.mono hm36929;refine Atn 6 hF36929 hS36929 E E (G0 5 E ?_);cases hb36914;exact Ce E ⟨_,rfl,A14,c14,fE E,sE [some 0,some 1,some 2,some 3,some 4,some 5] 6 E,(hl9),(hA11)⟩
     refine G2 2 [] [48] [] E ?_;cases hb36914;have hq_:=hq36914 _ E;subst hq_;exact Ce E ⟨_,_,_,A9,c9,rfl,fE E,sE [some 0,some 1,some 2,some 3,some 4,some 5] 6 E,(hl4),(hA4)⟩
    rintro _ _ μ36805 _ h36802 hm36805 ⟨f_at3,f8,f9,A15,c15,rfl,hF36805,hS36805,hl10,hA12⟩;replace h36802:=Qp h36802;replace h36802:=Qp h36802;replace hO4:=hO4.mono hm36805;replace hO5:=hO5.mono hm36805;refine Atn 6 hF36805 hS36805 E E (G0 5 E ?_);refine Br h36802 93 E E (fun hc10 h36802=> ?_) (fun hc10 h36802=> ?_)
    ·refine G2 5 [93] [] [3] E (So E (YW (z:=[.int .i64 0]) E E E E E E E (QZ (cells':=[.int .i64 d1]) E E E E (YH (fun g8=>Q0 0 E (So E (Yf E ?_)))))));obtain ⟨_,hz2,h36802⟩:=Qj h36802;refine Yh (r:=QP) QB E E E E (by decide) E E 5 E hO5 E (Own.rds (Own.lit (r:=QP) (e:=3) (g:=g8) (xs:=[d1]) (cs:=[.int .i64 d1]) (css:=[[.int .i64 d1]]) E (All2.cons (E) (All2.nil)) E E) 0 E) hz2 fun A16 c16 ch6 hO6=>Q1 4 [4] E ?_;cases h36802;exact Ce E ⟨_,_,A7,c7,ch4,A16,c16,ch6,rfl,fE E,sE [some 1,some 2,some 3,some 4,some 5] 7 E,(hO4),(hO6)⟩
    refine G2 5 [] [93] [5] E (IxA h36802 (Own.rds hO4 2 E) E E fun _ a3 _ hx7 hr3 _ hA13 h36802=> ?_);obtain ⟨_,_,rfl,_,_⟩:=hr3;refine Q0 0 E (So E (Qs (vs:=[.int .i64 f8,.slice A15 f9.length c15]) E E E E E E ?_))
    rw[←Addr.add_zero' ((a3.add (f_at3.toNat*2)))]
    refine Own.store (μ:=μ36805) (r:=Qw) (x':=(Qa.mk f8 f9)) (o:=0) (sz:=2) 2 rfl hO4 hA13 hx7 rfl rfl (by rintro _ ⟨A18,c18,rfl,hl12,hA15⟩;exact ⟨A15,c15,rfl,hl10,hA12⟩) fun ch7 hO7=> ?_
    rw[←Qn tours3 f_at3 (Qa.mk f8 f9)] at hO7 ⊢
    refine Q0 2 E ?_;cases h36802;exact Ce E ⟨_,_,A7,c7,ch7,A8,c8,ch5,rfl,fE E,sE [some 0,some 1,some 2,some 3,some 4] 6 E,(hO7),(hO5)⟩
   rintro _ _ _ _ hb36789 hm36802 ⟨tours4,f10,A19,c19,ch8,A20,c20,ch9,rfl,hF36802,hS36802,hO8,hO9⟩;replace hb36789:=Qp hb36789;replace hO4:=hO4.mono hm36802;replace hO5:=hO5.mono hm36802;refine Atn 5 hF36802 hS36802 E E (G0 5 E ?_);cases hb36789;exact Ce E ⟨_,rfl,A19,c19,ch8,A20,c20,ch9,fE E,sE [some 0,some 1,some 2,some 3,some 4] 5 E,(hO8),(hO9)⟩
  refine G2 2 [] [42] [] E ?_;cases hb36789;have hq_:=hq36789 _ E;subst hq_;exact Ce E ⟨_,_,A7,c7,ch4,A8,c8,ch5,rfl,fE E,sE [some 1,some 2,some 3,some 4] 5 E,(hO4),(hO5)⟩
 rintro _ _ _ _ h hm36552 ⟨tours5,f11,A21,c21,ch10,A22,c22,ch11,rfl,hF36552,hS36552,hO10,hO11⟩;replace h:=Qp h;refine Atn 4 hF36552 hS36552 E E (G0 5 E ?_);refine Cut h (fun f l o_ f_ μ_ l_=> ∃(f14:(List Qa)) (A28:Option Addr) (c28:Nat) (ch15:Seg),f14=o_∧Ql (Qq [2,7] f) f_∧Qe ([(g2,.cells #[.slice none 0 0,.slice none 0 0] 33 (0,0))]::[(g4,.cells #[.slice A28 f14.length c28,.slice A22 f11.length c22] 33 (0,0))]::ch15::QI [] 3 l) l_∧Own Qw 51 μ_ (.slice A28 f14.length c28) f14 ch15) ?_ ?_
 ·intro _ h37057 h;refine Lp h37057 (fun f l (j_:(List Qa)×Int) f_ μ_ l_=>Yt j_ fun f12 v5=> ∃(A23:Option Addr) (c23:Nat) (ch12:Seg),Ql ((19,.int .i64 v5)::Qq [2,5,7] f) f_∧Qe ([(g2,.cells #[.slice none 0 0,.slice none 0 0] 33 (0,0))]::ch10::[(g4,.cells #[.slice A23 f12.length c23,.slice A22 f11.length c22] 33 (0,0))]::ch12::QI [] 3 l) l_∧Own Qw 51 μ_ (.slice A23 f12.length c23) f12 ch12) ⟨none,0,[],fE E,sE [some 0,some 1,some 2,none,some 3] 4 E,(Own.nil)⟩ ?_;rintro ⟨f12,v5⟩ _ _ _ _ hm37111 ⟨A23,c23,ch12,hF37111,hS37111,hO12⟩ hb37111 hq37111;unfold ZN at hb37111;replace hb37111:=Qp hb37111;replace hO10:=hO10.mono hm37111;replace hO11:=hO11.mono hm37111;refine Atn 5 hF37111 hS37111 E E (G0 8 E ?_);refine Br hb37111 107 E E (fun hc12 hb37111=> ?_) (fun hc12 hb37111=> ?_)
  ·refine G2 3 [107] [] [] E ?_;refine Cut hb37111 (fun f l o_ f_ μ_ l_=> ∃(f13:(List Qa)) (A27:Option Addr) (c27:Nat) (ch14:Seg),f13=o_∧Ql (Qq [2,5,7,19] f) f_∧Qe ([(g2,.cells #[.slice none 0 0,.slice none 0 0] 33 (0,0))]::ch10::[(g4,.cells #[.slice A27 f13.length c27,.slice A22 f11.length c22] 33 (0,0))]::ch14::QI [] 4 l) l_∧Own Qw 51 μ_ (.slice A27 f13.length c27) f13 ch14) ?_ ?_
   ·intro _ h37120 hb37111;refine G0 5 E (IxA h37120 (Own.rds hO10 1 E) E E fun _ _ _ _ hr4 hc13 _ h37120=> ?_);obtain ⟨_,_,rfl,_,_⟩:=hr4;refine Q3 5 [] [] [65] (Z1 hc13) E ?_;refine Br h37120 116 E E (fun hc14 h37120=> ?_) (fun hc14 h37120=> ?_)
    ·refine G2 1 [116] [] [] E (Cd (WP.drawB (id:=34) (l':=List.replicate 9 true++[false]) Qc7 QB ([(g2,.cells #[.slice none 0 0,.slice none 0 0] 33 (0,0))]::ch10::[(g4,.cells #[.slice A23 f12.length c23,.slice A22 f11.length c22] 33 (0,0))]::ch11::L) (Kp [0,1,2,4] 5 E) 9 [] [(true,0),(true,1),(true,2),(true,3),(true,4),(true,5),(false,6),(false,7),(true,8)] (by kernel_rfl) (by kernel_rfl) E (by kernel_rfl) (by kernel_rfl) (VC E (Wu (o':=0) E E E E E E (Pt E E (JI E E E (Ex.mk _ (Wm.seg 2 0 E E E) (Pt E E (QL E (Pt E E (QL E (Pt E E ?_))))))))))));obtain ⟨x5,hx9,h37120⟩:=Qj h37120;obtain ⟨_,_,hA18,hr5,_,hc15⟩:=Rds.getI (Own.rds (L:=([(g2,.cells #[.slice none 0 0,.slice none 0 0] 33 (0,0))]::ch10::[(g4,.cells #[.slice A23 f12.length c23,.slice A22 f11.length c22] 33 (0,0))]::ch11::L)) hO10 1 rfl) hx9;obtain ⟨A25,c25,rfl,hl14,hA19⟩:=hr5;refine QJ E E E E E E ⟨(Qd hx9).1,(Qd hx9).2.1⟩ hA18 (Pt E E (QC E E E E (Ex.mk [.int .i64 x5.Vehicle,.slice A25 x5.Stops.length c25] ⟨rfl,hc15⟩ (Qf E (QA E (YW (z:=[.int .i64 0,.slice none 0 0]) E E E E E E E (QZ (cells':=[.int .i64 x5.Vehicle,.slice A25 x5.Stops.length c25]) E E E E (YH (fun g9=> ?_)))))))));refine ⟨Kp [1,2,3,5] 6 E,?_⟩;refine Qf E (QA E (Yf E ?_));obtain ⟨l3,hz3,h37120⟩:=Qj h37120;refine Yh (r:=Qw) QB E E E E (by decide) E E 4 E hO12 E (Own.rds (Own.lit (r:=Qw) (e:=51) (g:=g9) (xs:=[x5]) (cs:=[.int .i64 x5.Vehicle,.slice A25 x5.Stops.length c25]) (css:=[[.int .i64 x5.Vehicle,.slice A25 x5.Stops.length c25]]) E (All2.cons (⟨A25,c25,E,hl14,hA19⟩) (All2.nil)) E E) 0 E) hz3 fun A26 c26 ch13 hO13=> ?_;refine ⟨Kp [1,2,3,5] 6 E,?_⟩;refine Pt E E (Wu (o':=0) E E E E E E (Qf E (QU (Qk1 E (Qs (vs:=[.slice A26 l3.length c26]) E E E E E E (ST_ (L':=([(g9,.cells #[.int .i64 x5.Vehicle,.slice A25 x5.Stops.length c25] 51 (0,0))]::[(g2,.cells #[.slice none 0 0,.slice none 0 0] 33 (0,0))]::ch10::[(g4,.cells #[.slice A26 l3.length c26,.slice A22 f11.length c22] 33 (0,0))]::ch13::ch11::L)) 3 0 E E E E (QH (G0 1 E ?_))))))));cases h37120;exact Ce E ⟨_,A26,c26,ch13,rfl,fE E,sE [some 1,some 2,some 3,some 4,some 5] 6 E,(hO13)⟩
    refine G2 3 [] [116] [] E ?_;cases h37120;exact Ce E ⟨_,A23,c23,ch12,rfl,fE E,sE [some 0,some 1,some 2,some 3,some 4] 5 E,(hO12)⟩
   rintro _ _ _ _ hb37111 hm37120 ⟨f13,A27,c27,ch14,rfl,hF37120,hS37120,hO14⟩;replace hO11:=hO11.mono hm37120;replace hO12:=hO12.mono hm37120;refine Atn 5 hF37120 hS37120 E E (G0 5 E ?_);cases hb37111;exact Ce E ⟨_,rfl,A27,c27,ch14,fE E,sE [some 0,some 1,some 2,some 3,some 4] 5 E,(hO14)⟩
  refine G2 2 [] [107] [] E ?_;cases hb37111;have hq_:=hq37111 _ E;subst hq_;exact Ce E ⟨_,A23,c23,ch12,rfl,fE E,sE [some 0,some 2,some 3,some 4] 5 E,(hO12)⟩
 rintro _ _ _ _ h hm37057 ⟨f14,A28,c28,ch15,rfl,hF37057,hS37057,hO15⟩;replace hO11:=hO11.mono hm37057;refine Atn 4 hF37057 hS37057 E E (G1 6 [1,0] E ?_);cases h;refine Rt [0] E E ?_;have hl15:=Own.lenOk hO15;refine Upd.frzOwn 2 E hO15 fun _ hm_2 hA20=> ?_;replace hO11:=hO11.mono hm_2;have hl16:=Own.lenOk hO11;refine Upd.frzOwn 3 E hO11 fun _ hm_3 hA21=> ?_;replace hA20:=hA20.mono hm_3;exact (Ug [] 4 (hR _ A28 c28 A22 c22 (hm36518.trans (hm36552.trans (hm37057.trans (hm_2.trans hm_3)))) hl15 hA20 hl16 hA21))
theorem QdU {F:Nat} {p1:Qh} {A1:Option Addr} {c1:Nat} {A2:Option Addr} {c2:Nat} {A3:Option Addr} {c3:Nat} {res1:Qk} {res2:Int}
  (hl1:p1.Road.Edges.length≤c1∧c1≤maxLen) (hA1:Qz QN μ A1 p1.Road.Edges) (hl2:p1.Vehicles.length≤c2∧c2≤maxLen) (hA2:Qz QF μ A2 p1.Vehicles) (hl3:p1.Demands.length≤c3∧c3≤maxLen) (hA3:Qz QK μ A3 p1.Demands) (h:Z8 F p1=some (res1,res2))
  (hR: ∀(μ':Gh) (A0_0:Option Addr) (c0_0:Nat) (A0_1:Option Addr) (c0_1:Nat),μ.le μ'→(res1.Tours.length≤c0_0∧c0_0≤maxLen)→Qz Qw μ' A0_0 res1.Tours→(res1.Left.length≤c0_1∧c0_1≤maxLen)→Qz QP μ' A0_1 res1.Left→R (.tuple #[.agg #[.slice A0_0 res1.Tours.length c0_0,.slice A0_1 res1.Left.length c0_1],.int .i64 res2]) μ' (L)) :
  Fn Tryz.prog 14 [.agg #[.int .i64 p1.Road.Nodes,.slice A1 p1.Road.Edges.length c1,.slice A2 p1.Vehicles.length c2,.slice A3 p1.Demands.length c3,.int .i64 p1.Unload,.int .i64 p1.UnloadSecs]] μ (L) R:=by
 unfold Z8 at h;refine FnS Tryz.func14 (by kernel_rfl) E Tryz.ntmps14 E E ?_;refine G0 2 E (Al E fun g1=>Q0 0 E (Al E fun g2=>Q1 5 [1] E (Cl E ?_)));obtain ⟨⟨_,_⟩,hx1,h⟩:=Qj h;replace h:=Qp h;refine Qdt hl1 hA1 hl2 hA2 hl3 hA3 hx1 (fun _ A4 c4 A5 c5 hm_1 hl4 hA4 hl5 hA5=> ?_);replace hA1:=hA1.mono hm_1;replace hA2:=hA2.mono hm_1;replace hA3:=hA3.mono hm_1;refine Q0 3 E (Al E fun g3=>Q1 9 [0] E ?_);refine Br h 14 E E (fun hc1 h=> ?_) (fun hc1 h=> ?_)
 ·refine G2 8 [14] [] [1] E ?_;cases h;exact Rt [1] E E (Ug [] 3 (hR _ none 0 none 0 hm_1 ⟨Nat.le_refl _,Nat.zero_le _⟩ Qz.nil ⟨Nat.le_refl _,Nat.zero_le _⟩ Qz.nil))
 refine G2 2 [] [14] [] E ?_;refine Cut h (fun _ _ _ _ _ _=>False) ?_ ?_
 ·intro _ h39159 h;refine Lp h39159 (fun f l (j_:(List Qa)×(List Int)) f_ μ_ l_=>Yt j_ fun f1 f2=> ∃(A6:Option Addr) (c6:Nat) (A7:Option Addr) (c7:Nat),Ql (Qq [1,2,4] f) f_∧Qe ([(g1,.cells #[.int .i64 p1.Road.Nodes,.slice A1 p1.Road.Edges.length c1,.slice A2 p1.Vehicles.length c2,.slice A3 p1.Demands.length c3,.int .i64 p1.Unload,.int .i64 p1.UnloadSecs] 28 (0,0))]::[(g2,.cells #[.slice none 0 0,.slice none 0 0] 33 (0,0))]::[(g3,.cells #[.slice A6 f1.length c6,.slice A7 f2.length c7] 33 (0,0))]::QI [] 3 l) l_∧(f1.length≤c6∧c6≤maxLen)∧Qz Qw μ_ A6 f1∧(f2.length≤c7∧c7≤maxLen)∧Qz QP μ_ A7 f2) ⟨A4,c4,A5,c5,fE E,sE [some 2,some 1,some 0] 3 E,(hl4),(hA4),(hl5),(hA5)⟩ ?_;rintro ⟨f1,f2⟩ _ _ _ _ hm39182 ⟨A6,c6,A7,c7,hF39182,hS39182,hl6,hA6,hl7,hA7⟩ hb39182 hq39182;unfold JQ at hb39182;replace hb39182:=Qp hb39182;replace hA1:=hA1.mono hm39182;replace hA2:=hA2.mono hm39182;replace hA3:=hA3.mono hm39182;refine Atn 3 hF39182 hS39182 E E (G1 5 [0,2] E (Cl E ?_));obtain ⟨⟨_,_⟩,hx2,hb39182⟩:=Qj hb39182;replace hb39182:=Qp hb39182;refine Qdo hl1 hA1 hl2 hA2 hl3 hA3 hl6 hA6 hl7 hA7 hx2 (fun _ _ _ _ hm_2 hO1=> ?_);replace hA6:=hA6.mono hm_2;replace hA7:=hA7.mono hm_2;refine Q0 8 E ?_;refine Cut hb39182 (fun f l o_ f_ μ_ l_=> ∃(v3:Bool),v3=o_∧Ql ((29,.bool v3)::Qq [1,2,4,6,7] f) f_∧Qe (QI [some 1,some 2,some 3,some 0] 4 l) l_) ?_ ?_
  ·intro _ h39197 hb39182;refine G0 4 E ?_;refine Br h39197 25 E E (fun hc2 h39197=> ?_) (fun hc2 h39197=> ?_)
   ·refine G2 5 [25] [] [] E ?_;cases h39197;exact Ce E ⟨_,rfl,fE E,sE [some 1,some 2,some 3,some 0] 4 E⟩
   refine G2 5 [] [25] [] E ?_;cases h39197;exact Ce E ⟨_,rfl,fE E,sE [some 1,some 2,some 3,some 0] 4 E⟩
  rintro _ _ _ _ hb39182 hm39197 ⟨v3,rfl,hF39197,hS39197⟩;replace hA6:=hA6.mono hm39197;replace hA7:=hA7.mono hm39197;replace hO1:=hO1.mono hm39197;refine Atn 4 hF39197 hS39197 E E ?_;refine Br hb39182 29 E E (fun hc3 hb39182=> ?_) (fun hc3 hb39182=> ?_)
  ·refine G2 8 [29] [] [2,1] E ?_;cases hb39182;have hq_:=hq39182 _ E;subst hq_;cases h;exact Rt [1] E E (Ug [] 4 (hR _ A6 c6 A7 c7 (hm_1.trans (hm39182.trans (hm_2.trans hm39197))) hl6 hA6 hl7 hA7))
  refine G2 4 [] [29] [] E (IxA hb39182 (Own.rds hO1 3 E) E E fun _ _ _ _ hr1 hc4 _ hb39182=> ?_);obtain ⟨A9,c9,A10,c10,rfl,hl8,hA9,hl9,hA10⟩:=hr1;refine Q3 4 [] [] [64,2] (Z1 hc4) E ?_;cases hb39182;exact Ce E ⟨_,rfl,A9,c9,A10,c10,fE E,sE [some 0,some 1,some 2] 4 E,(hl8),(hA9),(hl9),(hA10)⟩
 exact fun _ _ _ _ _ _ hf_=>hf_.elim
theorem Qbp {F:Nat} {p1:Qh} {A1:Option Addr} {c1:Nat} {A2:Option Addr} {c2:Nat} {A3:Option Addr} {c3:Nat} {res1:Bool}
  (hl1:p1.Road.Edges.length≤c1∧c1≤maxLen) (hA1:Qz QN μ A1 p1.Road.Edges) (hl2:p1.Vehicles.length≤c2∧c2≤maxLen) (hA2:Qz QF μ A2 p1.Vehicles) (hl3:p1.Demands.length≤c3∧c3≤maxLen) (hA3:Qz QK μ A3 p1.Demands) (h:Zq F p1=some res1)
  (hR: ∀(μ':Gh) ,μ.le μ'→R (.bool res1) μ' (L)) :
  Fn Tryz.prog 3 [.agg #[.int .i64 p1.Road.Nodes,.slice A1 p1.Road.Edges.length c1,.slice A2 p1.Vehicles.length c2,.slice A3 p1.Demands.length c3,.int .i64 p1.Unload,.int .i64 p1.UnloadSecs]] μ (L) R:=by
 unfold Zq at h;refine FnS Tryz.func3 (by kernel_rfl) E Tryz.ntmps3 E E ?_;refine G0 2 E (Al E fun _=>Q1 7 [0] E (Cl E ?_));obtain ⟨_,hx1,h⟩:=Qj h;refine Qdq hl1 hA1 hl2 hA2 hl3 hA3 ⟨Nat.le_refl _,Nat.zero_le _⟩ Qz.nil ⟨Nat.le_refl _,Nat.zero_le _⟩ Qz.nil hx1 ((Q0 1 E ?_));refine Br h 9 E E (fun hc1 h=> ?_) (fun hc1 h=> ?_)
 ·refine G2 3 [9] [] [] E (Cl E ?_);obtain ⟨_,hx2,h⟩:=Qj h;refine Qa1  hx2 (fun _ hm_1=> ?_);replace hA1:=hA1.mono hm_1;replace hA2:=hA2.mono hm_1;replace hA3:=hA3.mono hm_1;refine Q0 2 E ?_;cases h;exact Rt [] E E (Ug [] 1 (hR _ hm_1))
 refine G2 5 [] [9] [0] E (Cl E ?_);obtain ⟨⟨_,_⟩,hx3,h⟩:=Qj h;replace h:=Qp h;refine QbC hl1 hA1 hl2 hA2 hl3 hA3 hx3 (fun _ _ _ _ _ hm_2 hl4 hA4 hl5 hA5=> ?_);replace hA1:=hA1.mono hm_2;replace hA2:=hA2.mono hm_2;replace hA3:=hA3.mono hm_2;refine Q0 3 E (Al E fun _=>Q1 6 [0,1] E (Cl E ?_));obtain ⟨⟨_,_⟩,hx4,h⟩:=Qj h;replace h:=Qp h;refine QdU hl1 hA1 hl2 hA2 hl3 hA3 hx4 (fun _ _ _ _ _ hm_3 hl6 hA6 hl7 hA7=> ?_);replace hA4:=hA4.mono hm_3;replace hA5:=hA5.mono hm_3;refine Q0 3 E (Al E fun _=>Q1 4 [0] E ?_);refine Cut h (fun f l o_ f_ μ_ l_=> ∃(v5:Bool),v5=o_∧Ql ((2,.bool v5)::[]) f_∧Qe (QI [] 3 l) l_) ?_ ?_
 ·intro _ h39233 h;refine G1 3 [1,0] E (Cl E ?_);obtain ⟨_,hx5,h39233⟩:=Qj h39233;refine WW hl4 hA4 hl5 hA5 hl6 hA6 hl7 hA7 hx5 ((Q0 1 E ?_));refine Br h39233 24 E E (fun hc2 h39233=> ?_) (fun hc2 h39233=> ?_)
  ·refine G2 5 [24] [] [] E ?_;refine Br h39233 29 E E (fun hc3 h39233=> ?_) (fun hc3 h39233=> ?_)
   ·refine Cl E ?_;obtain ⟨_,hx6,h39233⟩:=Qj h39233;refine Qa1  hx6 (fun _ _=> ?_);refine Q2 3 [29] [] [] E ?_;cases h39233;exact Ce E ⟨_,rfl,fE E,sE [] 3 E⟩
   refine G2 4 [] [29] [] E ?_;cases h39233;exact Ce E ⟨_,rfl,fE E,sE [] 3 E⟩
  refine G2 9 [] [24,29] [] E ?_;cases h39233;exact Ce E ⟨_,rfl,fE E,sE [] 3 E⟩
 rintro _ _ _ _ h hm39233 ⟨v5,rfl,hF39233,hS39233⟩;refine Atn 0 hF39233 hS39233 E E ?_;cases h;exact Rt [] E E (Ug [] 0 (hR _ (hm_2.trans (hm_3.trans hm39233))))
end Go.Proofs.YthpgjbbjpfiniaaGreat
namespace Go.Proofs.YthpgjbbjpfiniaaGreat
set_option linter.unusedSimpArgs false
set_option linter.unusedVariables false
theorem Qf8 {τ ρ:Type} {body:τ→Option (τ⊕ρ)} (I:Nat→τ→ρ→Prop)
  (h: ∀n t o,I n t o→(∃t' n',body t=some (.inl t')∧n'<n∧I n' t' o)∨body t=some (.inr o)): ∀(fuel n:Nat) (t:τ) (o:ρ),I n t o→n<fuel→iter body fuel t=some o
 | 0,_,_,_,_,hm=>by omega
 | f+1,n,t,o,hI,hm=>by
  rcases h n t o hI with ⟨t',n',h1,h2,h3⟩ | h1
  ·simp only[iter,h1,Option.bind_some,QR]
   exact Qf8 I h f n' t' o h3 (by omega)
  ·simp only[iter,h1,Option.bind_some,QR]
theorem Qgq {σ ρ:Type} {body:σ→Option (σ⊕ρ)}: ∀{n m:Nat} {s:σ} {r:ρ},iter body n s=some r→n≤m→iter body m s=some r
 | 0,_,_,_,h,_=>by cases h
 | n+1,0,_,_,_,hm=>by omega
 | n+1,m+1,s,r,h,hm=>by
  simp only[iter] at h ⊢
  cases hb:body s with
  | none=>rw[hb] at h;cases h
  | some q =>
   rw[hb] at h
   cases q with
   | inl s'=>exact Qgq (n:=n) (m:=m) h (by omega)
   | inr r'=>exact h
theorem QD {α:Type} (xs:List α) (k:Nat):getI xs (k:Int)=xs[k]? :=by simp[getI]
theorem Qnw {α:Type} {xs:List α} {k:Nat} (h:k<xs.length):getI xs (k:Int)=some xs[k]:=by rw[QD];simp[h]
theorem Yr {n:Int} (h1: -9223372036854775808≤n) (h2:n≤9223372036854775807):w64 n=n:=Qp6 h1 h2
theorem Wz {k:Nat} (h:k<9223372036854775807):w64 ((k:Int)+1)=((k+1:Nat):Int):=by rw[Yr (by omega) (by omega)];omega
theorem Yv {α:Type} {xs ys:List α} (h:xs.length+ys.length≤1000000):Jf xs ys=some (xs++ys):=by simp[Jf,h]
theorem QaS {p:Prop} [Decidable p] (h:p):WR p=some ():=by simp[WR,h]
def each {α σ ρ:Type} (step:σ→α→σ⊕ρ) (fin:σ→ρ):List α→σ→ρ
 | [],s=>fin s
 | x::r,s=>match step s x with
  | .inl s'=>each step fin r s'
  | .inr o=>o
def Jp {τ ρ:Type} (o:Option ρ) (t:τ):τ⊕ρ:=match o with
 | none=> .inl t
 | some r=> .inr r
@[simp] theorem QpR {τ ρ:Type} (t:τ):Jp (none:Option ρ) t= .inl t:=rfl
@[simp] theorem QpO {τ ρ:Type} (r:ρ) (t:τ):Jp (some r) t= .inr r:=rfl
def Qp4 {σ τ ρ:Type} (f:σ→τ) (q:σ⊕ρ):τ⊕ρ:=match q with
 | .inl s=> .inl (f s)
 | .inr r=> .inr r
@[simp] theorem Qq0 {σ τ ρ:Type} (f:σ→τ) (s:σ):Qp4 f (.inl s:σ⊕ρ)= .inl (f s):=rfl
@[simp] theorem QqN {σ τ ρ:Type} (f:σ→τ) (r:ρ):Qp4 f (.inr r:σ⊕ρ)= .inr r:=rfl
theorem Qi0 {α σ τ ρ:Type} (xs:List α) (mk:σ→Int→τ) {body:τ→Option (τ⊕ρ)} (step:σ→α→σ⊕ρ) (fin:σ→ρ) (I:σ→Nat→Prop) (hn:xs.length<9223372036854775807)
  (hb: ∀(k:Nat) (x:α) (s:σ),xs[k]? =some x→I s k→body (mk s (k:Int))=some (Qp4 (fun s'=>mk s' (w64 ((k:Int)+1))) (step s x))∧ ∀s',step s x= .inl s'→I s' (k+1))
  (hf: ∀s,I s xs.length→body (mk s (xs.length:Int))=some (.inr (fin s))): ∀(n:Nat) (s:σ),I s 0→xs.length<n→iter body n (mk s 0)=some (each step fin xs s):=by
 intro n s hs hlt;refine Qf8 (fun m t o=> ∃(s:σ) (k:Nat),t=mk s k∧m=xs.length-k∧k≤xs.length∧I s k∧each step fin (xs.drop k) s=o) ?_ n xs.length (mk s 0) _ ⟨s,0,rfl,by simp,Nat.zero_le _,hs,by simp⟩ hlt;rintro m _ o ⟨s,k,rfl,rfl,hk,hI,ho⟩;rcases Nat.lt_or_ge k xs.length with hlt | hge
 ·obtain ⟨h1,h2⟩:=hb k xs[k] s (by simp[hlt]) hI
  rw[List.drop_eq_getElem_cons hlt,each] at ho
  cases hs:step s xs[k] with
  | inl s' =>
   rw[hs] at h1 ho
   exact .inl ⟨_,xs.length-(k+1),h1,by omega,s',k+1,by rw[Wz (by omega)],rfl,hlt,h2 s' hs,ho⟩
  | inr o' =>
   rw[hs] at h1 ho
   exact .inr (by rw[h1];exact congrArg (fun z=>some (Sum.inr z)) ho)
 ·obtain rfl:k=xs.length:=by omega
  rw[List.drop_length] at ho
  exact .inr (by rw[hf s hI];exact congrArg (fun z=>some (Sum.inr z)) ho)
def first {α ρ:Type} (step:α→Option ρ) (fin:ρ):List α→ρ
 | []=>fin
 | x::r=>match step x with
  | none=>first step fin r
  | some o=>o
theorem QdQ {α ρ:Type} (xs:List α) {body:Int→Option (Int⊕ρ)} (step:α→Option ρ) (fin:ρ) (hn:xs.length<9223372036854775807)
  (hb: ∀(k:Nat) (x:α),xs[k]? =some x→body (k:Int)=some (Jp (step x) (w64 ((k:Int)+1))))
  (hf:body (xs.length:Int)=some (.inr fin)): ∀(n:Nat),xs.length<n→iter body n 0=some (first step fin xs):=by
 intro n hlt;have:=Qi0 xs (fun (_:Unit) k=>k) (body:=body) (fun _ x=>Jp (step x) ()) (fun _=>fin) (fun _ _=>True) hn
  (fun k x s hx _=>⟨by rw[hb k x hx];cases step x<;>rfl,fun _ _=>trivial⟩) (fun _ _=>hf) n () trivial hlt
 rw[this]
 congr 1
 clear this hb hf hlt hn
 induction xs with
 | nil=>rfl
 | cons x r ih =>
  simp only[each,first]
  cases step x<;>simp[ih]
end Go.Proofs.YthpgjbbjpfiniaaGreat
namespace Go.Proofs.YthpgjbbjpfiniaaGreat
set_option linter.unusedSimpArgs false
set_option linter.unusedVariables false
theorem QE {α:Type} {l:List α} {k:Nat} {x:α} (h:l[k]? =some x):k<l.length:=by
 rcases Nat.lt_or_ge k l.length with h2 | h2
 ·exact h2
 ·rw[List.getElem?_eq_none h2] at h;cases h
theorem QmQ {α:Type} {l:List α} {i:Int} (h0:0≤i) (h1:i<(l.length:Nat)): ∃x,getI l i=some x:=by
 obtain ⟨k,rfl⟩: ∃k:Nat,i=k:=⟨i.toNat,by omega⟩
 exact ⟨_,Qnw (by omega)⟩
def YT {α ρ:Type} (step:Nat→α→Option ρ) (fin:ρ):Nat→List α→ρ
 | _,[]=>fin
 | k,x::r=>match step k x with
  | none=>YT step fin (k+1) r
  | some o=>o
theorem YY {α ρ:Type} (xs:List α) {body:Int→Option (Int⊕ρ)} (step:Nat→α→Option ρ) (fin:ρ) (hn:xs.length<9223372036854775807)
  (hb: ∀(k:Nat) (x:α),xs[k]? =some x→body (k:Int)=some (Jp (step k x) (w64 ((k:Int)+1))))
  (hf:body (xs.length:Int)=some (.inr fin)): ∀(n:Nat),xs.length<n→iter body n 0=some (YT step fin 0 xs):=by
 intro n hlt;refine Qf8 (fun m t o=> ∃k:Nat,t=(k:Int)∧m=xs.length-k∧k≤xs.length∧YT step fin k (xs.drop k)=o) ?_ n xs.length 0 _ ⟨0,rfl,by simp,Nat.zero_le _,by simp⟩ hlt;rintro m _ o ⟨k,rfl,rfl,hk,ho⟩;rcases Nat.lt_or_ge k xs.length with hlt | hge
 ·have h1:=hb k xs[k] (by simp[hlt])
  rw[List.drop_eq_getElem_cons hlt,YT] at ho
  cases hs:step k xs[k] with
  | none =>
   rw[hs] at h1 ho
   exact .inl ⟨_,xs.length-(k+1),h1,by omega,k+1,by rw[Wz (by omega)],rfl,hlt,ho⟩
  | some r =>
   rw[hs] at h1 ho
   exact .inr (by rw[h1];exact congrArg (fun z=>some (Sum.inr z)) ho)
 ·obtain rfl:k=xs.length:=by omega
  rw[List.drop_length] at ho
  exact .inr (by rw[hf];exact congrArg (fun z=>some (Sum.inr z)) ho)
theorem Ya {α ρ:Type} {step:Nat→α→Option ρ} {fin:ρ}: ∀(l:List α) (k:Nat),(∀(i:Nat) (x:α),l[i]? =some x→step (k+i) x=none)→YT step fin k l=fin
 | [],_,_=>rfl
 | x::l,k,h=>by
  have h0:=h 0 x rfl
  rw[Nat.add_zero] at h0
  simp only[YT,h0]
  exact Ya l (k+1) fun i y hy=>by
   have:=h (i+1) y (by simpa using hy)
   rwa [show k+(i+1)=k+1+i by omega] at this
theorem Zb {α σ τ ρ:Type} (xs:List α) (st:Nat→σ) (mk:σ→Int→τ) {body:τ→Option (τ⊕ρ)} (step:Nat→α→Option ρ) (fin:ρ) (hn:xs.length<9223372036854775807)
  (hb: ∀(k:Nat) (x:α),xs[k]? =some x→(∀(j:Nat) (y:α),j<k→xs[j]? =some y→step j y=none)→body (mk (st k) (k:Int))=some (Jp (step k x) (mk (st (k+1)) (w64 ((k:Int)+1)))))
  (hf:(∀(j:Nat) (y:α),xs[j]? =some y→step j y=none)→body (mk (st xs.length) (xs.length:Int))=some (.inr fin)): ∀(n:Nat),xs.length<n→iter body n (mk (st 0) 0)=some (YT step fin 0 xs):=by
 intro n hlt;refine Qf8 (fun m t o=> ∃k:Nat,t=mk (st k) (k:Int)∧m=xs.length-k∧k≤xs.length∧(∀(j:Nat) (y:α),j<k→xs[j]? =some y→step j y=none)∧YT step fin k (xs.drop k)=o) ?_ n xs.length _ _ ⟨0,rfl,by simp,Nat.zero_le _,fun j y hj=>absurd hj (Nat.not_lt_zero _),by simp⟩ hlt;rintro m _ o ⟨k,rfl,rfl,hk,hno,ho⟩;rcases Nat.lt_or_ge k xs.length with hlt | hge
 ·have h1:=hb k xs[k] (by simp[hlt]) hno
  rw[List.drop_eq_getElem_cons hlt,YT] at ho
  cases hs:step k xs[k] with
  | none =>
   rw[hs] at h1 ho
   refine .inl ⟨_,xs.length-(k+1),h1,by omega,k+1,by rw[Wz (by omega)],rfl,hlt,fun j y hj hy=> ?_,ho⟩;rcases Nat.lt_or_ge j k with h | h
   ·exact hno j y h hy
   ·obtain rfl:j=k:=by omega
    rw[List.getElem?_eq_getElem hlt] at hy
    injection hy with hy;rw[←hy];exact hs
  | some r =>
   rw[hs] at h1 ho
   exact .inr (by rw[h1];exact congrArg (fun z=>some (Sum.inr z)) ho)
 ·obtain rfl:k=xs.length:=by omega
  rw[List.drop_length] at ho
  exact .inr (by rw[hf fun j y hy=>hno j y (QE hy) hy];exact congrArg (fun z=>some (Sum.inr z)) ho)
theorem YU {α:Type} {l:List α} {k:Nat} {x:α} (hx:l[k]? =some x):l.take (k+1)=l.take k++[x]:=by rw[List.take_add_one,hx];rfl
theorem Yx {α:Type} {l:List α} {k:Nat} (h:k≤l.length):(l.take k).length=k:=by simp;omega
def QaA {α:Type} (f:α→Int) (l:List α):Int:=(l.map f).sum
@[simp] theorem Qqz {α:Type} (f:α→Int):QaA f []=0:=rfl
@[simp] theorem QhT {α:Type} (f:α→Int) (x:α) (l:List α):QaA f (x::l)=f x+QaA f l:=by simp[QaA]
theorem Qb9 {α:Type} (f:α→Int): ∀(a b:List α),QaA f (a++b)=QaA f a+QaA f b
 | [],b=>by simp
 | x::a,b=>by simp only[List.cons_append,QhT,Qb9 f a b];omega
theorem QgV {α:Type} {f:α→Int} {B:Int}: ∀{l:List α},(∀x∈l,0≤f x∧f x≤B)→0≤QaA f l∧QaA f l≤l.length*B
 | [],_=>by simp
 | x::l,h=>by
  have h1:=h x (by simp);have h2:=QgV (l:=l) fun y hy=>h y (by simp[hy])
  rw[QhT,List.length_cons]
  have:((l.length+1:Nat):Int)*B=l.length*B+B:=by rw[Int.natCast_add,Int.add_mul];simp
  rw[this]
  omega
theorem QhP {β:Type} {k:Int} {v:β} (m:List (Int×β)):QaP k (Qdp k v m)=some v:=by
 induction m with
 | nil=>simp[Qdp,QaP]
 | cons p m ih =>
  obtain ⟨a,b⟩:=p
  by_cases h:a=k
  ·simp[Qdp,QaP,h]
  ·simp[Qdp,QaP,h,ih]
theorem QjD {β:Type} {k j:Int} {v:β} (h:j≠k) (m:List (Int×β)):QaP j (Qdp k v m)=QaP j m:=by
 induction m with
 | nil=>simp[Qdp,QaP];omega
 | cons p m ih =>
  obtain ⟨a,b⟩:=p
  by_cases h2:a=k
  ·subst h2;simp[Qdp,QaP,Ne.symm h]
  ·by_cases h3:a=j
   ·subst h3;simp[Qdp,QaP,h]
   ·simp[Qdp,QaP,h2,h3,ih]
theorem Qca {α ρ:Type} {step:Nat→α→Option ρ} {fin:ρ}: ∀(l:List α) (k:Nat),
  ((∀(i:Nat) (x:α),l[i]? =some x→step (k+i) x=none)∧YT step fin k l=fin) ∨
  (∃(i:Nat) (x:α) (o:ρ),l[i]? =some x∧step (k+i) x=some o∧YT step fin k l=o∧ ∀(j:Nat) (y:α),j<i→l[j]? =some y→step (k+j) y=none)
 | [],k=> .inl ⟨fun i x h=>by simp at h,rfl⟩
 | x::l,k=>by
  cases hs:step k x with
  | some o=>exact .inr ⟨0,x,o,rfl,hs,by simp[YT,hs],fun j y hj=>absurd hj (Nat.not_lt_zero _)⟩
  | none =>
   have hf:YT step fin k (x::l)=YT step fin (k+1) l:=by simp[YT,hs]
   rw[hf]
   rcases Qca (step:=step) (fin:=fin) l (k+1) with ⟨h1,h2⟩ | ⟨i,y,o,h1,h2,h3,h4⟩
   ·refine .inl ⟨fun i y hy=> ?_,h2⟩;cases i with
    | zero=>simp at hy;subst hy;simpa using hs
    | succ i=>have:=h1 i y (by simpa using hy);rwa [show k+1+i=k+(i+1) by omega] at this
   ·refine .inr ⟨i+1,y,o,by simpa using h1,by rwa [show k+1+i=k+(i+1) by omega] at h2,h3,fun j z hj hz=> ?_⟩;cases j with
    | zero=>simp at hz;subst hz;simpa using hs
    | succ j=>have:=h4 j z (by omega) (by simpa using hz);rwa [show k+1+j=k+(j+1) by omega] at this
theorem QcW {α:Type} [DecidableEq α]: ∀{l m:List α},l.Nodup→(∀x∈l,x∈m)→l.length≤m.length
 | [],_,_,_=>Nat.zero_le _
 | x::l,m,hn,h=>by
  rw[List.nodup_cons] at hn
  have hx:=h x (by simp);have:=QcW (l:=l) (m:=m.erase x) hn.2 fun y hy=>(List.mem_erase_of_ne (fun e=>hn.1 (by rw[←e];exact hy))).2 (h y (by simp[hy]))
  rw[List.length_erase_of_mem hx] at this
  have:0<m.length:=List.length_pos_of_mem hx
  simp only[List.length_cons]
  omega
end Go.Proofs.YthpgjbbjpfiniaaGreat
namespace Go.Proofs.YthpgjbbjpfiniaaGreat
open Go.RowKit
set_option linter.unusedSimpArgs false
set_option linter.unusedVariables false
theorem Zt (a b:Bool):(bif a then some true else some b)=some (a||b):=by cases a<;>rfl
theorem QnB (a b:Bool):(bif a then some b else some false)=some (a&&b):=by cases a<;>rfl
def QaL (r:QX) (x:QT):Prop:=0≤x.From∧x.From<r.Nodes∧0≤x.To∧x.To<r.Nodes∧x.From≠x.To∧1≤x.Meters∧x.Meters≤100000∧1≤x.Secs∧x.Secs≤100000
def Qdg (r:QX) (x:QT):Option (Unit⊕Int) :=
 bif (decide (x.From<0)||(decide (r.Nodes≤x.From)||(decide (x.To<0)||decide (r.Nodes≤x.To)))) then some (.inr 7)
 else bif (decide (x.From=x.To)||(decide (x.Meters<1)||(decide (100000<x.Meters)||(decide (x.Secs<1)||decide (100000<x.Secs))))) then some (.inr 1) else none
theorem Qmd {r:QX} {x:QT} (h:Qdg r x=none):QaL r x:=by
 unfold Qdg at h
 simp only[cond_eq_ite,Bool.or_eq_true,decide_eq_true_eq] at h
 split at h
 ·cases h
 ·split at h
  ·cases h
  ·unfold QaL;omega
theorem Qlj {r:QX} {x:QT} {o:Unit⊕Int} (h:Qdg r x=some o): ∃e,o= .inr e∧e≠0:=by
 unfold Qdg at h
 simp only[cond_eq_ite] at h
 split at h
 ·injection h with h;exact ⟨7,h.symm,by decide⟩
 ·split at h
  ·injection h with h;exact ⟨1,h.symm,by decide⟩
  ·cases h
theorem QhJ (r:QX) (hn:r.Edges.length≤600) (n:Nat) (h:r.Edges.length<n):iter (Y3 r) n 0=some (YT (fun _ x=>Qdg r x) (.inl ()) 0 r.Edges):=by
 refine YY r.Edges (fun _ x=>Qdg r x) (.inl ()) (by omega) (fun k x hx=> ?_) (by simp[Y3]) n h;have hk:=QE hx;have hk2:((k:Int)<(r.Edges.length:Nat)):=by omega
 simp only[Y3,hk2,decide_true,cond_true,QD,hx,Option.bind_some,Zt,Qdg]
 generalize (decide (x.From<0)||_)=a
 generalize (decide (x.From=x.To)||_)=b
 cases a<;>cases b<;>rfl
theorem QlQ (r:QX) (hn:r.Edges.length≤600):Qbi r=some ⟨r.Nodes,r.Edges.map fun x=>⟨x.From,x.To⟩⟩:=by
 unfold Qbi;have:=Zb (body:=VT r) r.Edges (fun k=>(r.Edges.take k).map fun x=>(⟨x.From,x.To⟩:Jc)) (fun m k=>(m,k)) (fun _ _=>none) (r.Edges.map fun x=>(⟨x.From,x.To⟩:Jc)) (by omega) (fun k x hx _=> ?_) (fun _=>by simp[VT,oun]) (((r.Edges.length:Nat):Int).toNat+1) (by simp)
 ·rw[show ((r.Edges.take 0).map fun x=>(⟨x.From,x.To⟩:Jc))=[] by simp] at this
  rw[this,Ya _ _ (fun _ _ _=>rfl)]
  rfl
 ·have hk:=QE hx;have hk2:((k:Int)<(r.Edges.length:Nat)):=by omega
  simp only[VT,oun,hk2,decide_true,cond_true,QD,hx,Option.bind_some]
  rw[Yv (by simp;omega)]
  simp[YU hx,Jp]
theorem QoL (r:QX) (hn:r.Edges.length≤512) (h1:1≤r.Nodes) (h2:r.Nodes≤64) (ho: ∀x∈r.Edges,QaL r x):QbL ⟨r.Nodes,r.Edges.map fun x=>⟨x.From,x.To⟩⟩=some 0:=by
 unfold QbL;have:=YY (body:=Qak ⟨r.Nodes,r.Edges.map fun x=>⟨x.From,x.To⟩⟩) (r.Edges.map fun x=>(⟨x.From,x.To⟩:Jc)) (fun _ _=>none) (.inl ():Unit⊕Int) (by simp;omega) (fun k x hx=> ?_) (by simp[Qak]) ((((r.Edges.map fun x=>(⟨x.From,x.To⟩:Jc)).length:Nat):Int).toNat+1) (by simp)
 ·rw[Ya _ _ (fun _ _ _=>rfl)] at this
  simp only[Zt,Option.bind_some]
  rw[show (decide (r.Nodes<0)||decide (64<r.Nodes))=false by simp;omega]
  simp only[cond_false]
  rw[show decide ((512:Int)<(((r.Edges.map fun x=>(⟨x.From,x.To⟩:Jc)).length:Nat):Int))=false by simp;omega]
  simp only[cond_false,this,Option.bind_some,QR]
 ·have hk:=QE hx;have hk2:((k:Int)<((r.Edges.map fun x=>(⟨x.From,x.To⟩:Jc)).length:Nat)):=by omega
  obtain ⟨y,hy,rfl⟩: ∃y,r.Edges[k]? =some y∧(⟨y.From,y.To⟩:Jc)=x:=by
   rw[List.getElem?_map] at hx
   cases hq:r.Edges[k]? with
   | none=>rw[hq] at hx;cases hx
   | some y=>rw[hq] at hx;injection hx with hx;exact ⟨y,rfl,hx⟩
  have hok:=ho y (List.mem_of_getElem? hy)
  simp only[Qak,hk2,decide_true,cond_true,QD,hx,Option.bind_some,Zt]
  unfold QaL at hok
  rw[show (decide (y.From<0)||(decide (r.Nodes≤y.From)||(decide (y.To<0)||decide (r.Nodes≤y.To))))=false by simp;omega]
  rfl
def QcJ (r:QX):Int:=bif (decide (r.Nodes<1)||decide (64<r.Nodes)) then 1 else bif decide ((512:Int)<(r.Edges.length:Nat)) then 8 else
 match YT (fun _ x=>Qdg r x) (.inl ()) 0 r.Edges with | .inl _=>0 | .inr e=>e
theorem Qad (r:QX) (hn:r.Edges.length≤600):JB r=some (QcJ r):=by
 unfold JB QcJ
 simp only[Zt,Option.bind_some]
 rw[QhJ r hn _ (by simp)]
 generalize (decide (r.Nodes<1)||_)=a
 generalize decide ((512:Int)<(r.Edges.length:Nat))=b
 generalize YT (fun _ x=>Qdg r x) (.inl ()) 0 r.Edges=o
 cases a<;>cases b<;>cases o<;>rfl
theorem Qhr {r:QX} (h:QcJ r=0):1≤r.Nodes∧r.Nodes≤64∧r.Edges.length≤512∧ ∀x∈r.Edges,QaL r x:=by
 unfold QcJ at h
 simp only[cond_eq_ite,Bool.or_eq_true,decide_eq_true_eq] at h
 split at h
 ·cases h
 ·split at h
  ·cases h
  ·refine ⟨by omega,by omega,by omega,fun x hx=> ?_⟩;obtain ⟨i,hi⟩:=List.getElem?_of_mem hx;rcases Qca (step:=fun _ x=>Qdg r x) (fin:=(.inl ():Unit⊕Int)) r.Edges 0 with ⟨h1,_⟩ | ⟨j,y,o,h1,h2,h3,_⟩
   ·exact Qmd (h1 i x hi)
   ·rw[h3] at h
    obtain ⟨e,rfl,he⟩:=Qlj h2;exact absurd h he
theorem Qe6 (r:QX) (hn:r.Edges.length≤600):QaN r=some (QcJ r):=by
 by_cases hz:QcJ r=0
 ·obtain ⟨h1,h2,h3,h4⟩:=Qhr hz;unfold QaN
  rw[hz]
  have e1:QbK r=Y3 r:=rfl
  rw[e1,QhJ r hn _ (by simp)]
  simp only[Zt,Option.bind_some]
  rw[show (decide (r.Nodes<1)||decide (64<r.Nodes))=false by simp;omega]
  simp only[cond_false]
  rw[show decide ((512:Int)<(r.Edges.length:Nat))=false by simp;omega]
  simp only[cond_false]
  have:YT (fun _ x=>Qdg r x) (.inl ():Unit⊕Int) 0 r.Edges= .inl ():=by
   refine Ya _ _ fun i x hx=> ?_;have:=h4 x (List.mem_of_getElem? hx);unfold QaL at this;unfold Qdg
   rw[show (decide (x.From<0)||(decide (r.Nodes≤x.From)||(decide (x.To<0)||decide (r.Nodes≤x.To))))=false by simp;omega,show (decide (x.From=x.To)||(decide (x.Meters<1)||(decide (100000<x.Meters)||(decide (x.Secs<1)||decide (100000<x.Secs)))))=false by simp;omega]
   rfl
  rw[this]
  simp only[QR,QlQ r hn,Option.bind_some,QoL r h3 h1 h2 h4]
 ·have h:=Qad r hn;unfold QaN;have e1:QbK r=Y3 r:=rfl
  rw[e1,QhJ r hn _ (by simp)]
  unfold QcJ at hz ⊢
  simp only[Zt,Option.bind_some]
  generalize (decide (r.Nodes<1)||_)=a at *
  generalize decide ((512:Int)<(r.Edges.length:Nat))=b at *
  generalize YT (fun _ x=>Qdg r x) (.inl ()) 0 r.Edges=o at *
  cases a<;>cases b<;>cases o<;>first | rfl | exact absurd rfl hz
end Go.Proofs.YthpgjbbjpfiniaaGreat
