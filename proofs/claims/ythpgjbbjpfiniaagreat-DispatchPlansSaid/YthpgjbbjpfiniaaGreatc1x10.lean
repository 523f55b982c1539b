/- DispatchPlans: for every input the given law returns true, and its arguments read as before. No condition. -/
import Derived.Test.YthpgjbbjpfiniaaGreatc1x1
import Derived.Test.YthpgjbbjpfiniaaGreatc1x3
import Derived.Test.YthpgjbbjpfiniaaGreatc1x6
import Derived.Test.YthpgjbbjpfiniaaGreatc1x9
import Derived.Test.YthpgjbbjpfiniaaGreatc1x8
import Derived.Test.YthpgjbbjpfiniaaGreatc1x2
namespace Go.Proofs.YthpgjbbjpfiniaaGreat
open Go.RowKit
set_option linter.unusedSimpArgs false
set_option linter.unusedVariables false
set_option maxHeartbeats 2000000
set_option maxRecDepth 4000
attribute [local irreducible] WP Zw Qau Fn AN Upd vcR vcO Qb1 Jk Jf QaA Qa3 QbY QaJ Wo Qcl Qz KS
variable {μ:Gh} {L:List Seg} {R:Value→Gh→List Seg→Prop}
theorem QeI  {x1:Qf} {v1:Int} {A1:Option Addr} {c1:Nat} {A2:Option Addr} {c2:Nat} {res1:Qa}
  (hl1:x1.Tours.length≤c1∧c1≤maxLen) (hA1:Qr Qp μ A1 x1.Tours) (hl2:x1.Left.length≤c2∧c2≤maxLen) (hA2:Qr QG μ A2 x1.Left) (h:Vx x1 v1=some res1)
  (hR: ∀(A0_1:Option Addr) (c0_1:Nat),(res1.Stops.length≤c0_1∧c0_1≤maxLen)→Qr QG μ A0_1 res1.Stops→R (.agg #[.int .i64 res1.Vehicle,.slice A0_1 res1.Stops.length c0_1]) μ (L)) :
  Fn Tryz.prog 24 [.agg #[.slice A1 x1.Tours.length c1,.slice A2 x1.Left.length c2],.int .i64 v1] μ (L) R:=by
 unfold Vx at h;refine FnS Tryz.func24 (by kernel_rfl) E Tryz.ntmps24 E E ?_;refine G0 2 E (Al E fun _=>Q0 0 E (Al E fun _=>Q1 9 [1] E ?_));refine Cut h (fun f l o_ f_ μ_ l_=>(.inl ())=o_∧Qg (Qk [1,4] f) f_∧Qd (QC [some 0] 2 l) l_∧μ=μ_) ?_ ?_
 ·intro _ h24224 h;refine Lp h24224 (fun f l (v2:Int) f_ μ_ l_=>Qg ((10,.int .i64 v2)::Qk [1,4,8,9] f) f_∧Qd (QC [some 0] 2 l) l_∧μ=μ_) ⟨fE E,sE [some 0] 2 E,E⟩ ?_;rintro v2 _ _ _ _ _ ⟨hF24235,hS24235,rfl⟩ hb24235 hq24235;unfold QbQ at hb24235;refine Atn 1 hF24235 hS24235 E E (G0 5 E ?_);refine Br hb24235 11 E E (fun hc1 hb24235=> ?_) (fun hc1 hb24235=> ?_)
  ·refine G2 6 [11] [] [] E (Ix hb24235 (Qr.rds hA1 L) E E fun _ _ _ _ hr1 hc2 _ hb24235=> ?_);obtain ⟨A3,c3,rfl,hl3,hA4⟩:=hr1;refine Q3 1 [] [] [64] (Z1 (hc2.push)) E (Al E fun _=>Q1 9 [0,0] E ?_);refine Br hb24235 17 E E (fun hc3 hb24235=> ?_) (fun hc3 hb24235=> ?_)
   ·refine G2 6 [17] [] [0,1] E ?_;cases hb24235;have hq_:=hq24235 _ E;subst hq_;replace h:=Ye h;cases h;exact Rt [1] E E (Ug [] 2 (hR A3 c3 hl3 hA4))
   refine G2 7 [] [17] [] E ?_;cases hb24235;exact Ce E ⟨_,rfl,fE E,sE [some 1] 2 E,rfl⟩
  refine G2 2 [] [11] [] E ?_;cases hb24235;have hq_:=hq24235 _ E;subst hq_;exact Ce E ⟨rfl,fE E,sE [some 0] 1 E,rfl⟩
 rintro _ _ _ _ h _ ⟨rfl,hF24224,hS24224,rfl⟩;replace h:=Ys h;refine Atn 1 hF24224 hS24224 E E (G1 6 [0] E ?_);cases h;exact Rt [0] E E (Ug [] 1 (hR none 0 ⟨Nat.le_refl _,Nat.zero_le _⟩ Qr.nil))
end Go.Proofs.YthpgjbbjpfiniaaGreat
namespace Go.Proofs.YthpgjbbjpfiniaaGreat
open Go.RowKit
set_option linter.unusedSimpArgs false
set_option linter.unusedVariables false
set_option maxHeartbeats 2000000
set_option maxRecDepth 4000
attribute [local irreducible] WP Zw Qau Fn AN Upd vcR vcO Qb1 Jk Jf QaA Qa3 QbY QaJ Wo Qcl Qz KS
variable {μ:Gh} {L:List Seg} {R:Value→Gh→List Seg→Prop}
theorem QaC  {left1:Int} {cost1:Int} {otherLeft1:Int} {otherCost1:Int}  {res1:Bool}
   (h:YS left1 cost1 otherLeft1 otherCost1=some res1)
  (hR:R (.bool res1) μ (L)) :
  Fn Tryz.prog 29 [.int .i64 left1,.int .i64 cost1,.int .i64 otherLeft1,.int .i64 otherCost1] μ (L) R:=by
 unfold YS at h;refine FnS Tryz.func29 (by kernel_rfl) E Tryz.ntmps29 E E ?_;refine G0 5 E ?_;refine Cut h (fun f l o_ f_ μ_ l_=> ∃(v1:Bool),v1=o_∧Qg ((8,.bool v1)::[]) f_∧Qd l l_∧μ=μ_) ?_ ?_
 ·intro _ h24770 h;refine G0 5 E ?_;refine Br h24770 12 E E (fun hc1 h24770=> ?_) (fun hc1 h24770=> ?_)
  ·refine G2 11 [12] [] [] E ?_;cases h24770;exact Ce E ⟨_,rfl,fE E,sE [] 0 E,rfl⟩
  refine G2 4 [] [12] [] E ?_;refine Br h24770 16 E E (fun hc2 h24770=> ?_) (fun hc2 h24770=> ?_)
  ·refine G2 7 [16] [12] [] E ?_;cases h24770;exact Ce E ⟨_,rfl,fE E,sE [] 0 E,rfl⟩
  refine G2 7 [] [12,16] [] E ?_;cases h24770;exact Ce E ⟨_,rfl,fE E,sE [] 0 E,rfl⟩
 rintro _ _ _ _ h _ ⟨v1,rfl,hF24770,hS24770,rfl⟩;refine Atn 0 hF24770 hS24770 E E ?_;cases h;exact Rt [] E E (Ug [] 0 hR)
end Go.Proofs.YthpgjbbjpfiniaaGreat
namespace Go.Proofs.YthpgjbbjpfiniaaGreat
open Go.RowKit
set_option linter.unusedSimpArgs false
set_option linter.unusedVariables false
set_option maxHeartbeats 2000000
set_option maxRecDepth 4000
attribute [local irreducible] WP Zw Qau Fn AN Upd vcR vcO Qb1 Jk Jf QaA Qa3 QbY QaJ Wo Qcl Qz KS
variable {μ:Gh} {L:List Seg} {R:Value→Gh→List Seg→Prop}
theorem VO {F:Nat} {p1:Qe} {t1:Qa} {d1:Int} {A1:Option Addr} {c1:Nat} {A2:Option Addr} {c2:Nat} {A3:Option Addr} {c3:Nat} {A4:Option Addr} {c4:Nat} {res1:Qa} {res2:Int}
  (hl1:p1.Road.Edges.length≤c1∧c1≤maxLen) (hA1:Qr QE μ A1 p1.Road.Edges) (hl2:p1.Vehicles.length≤c2∧c2≤maxLen) (hA2:Qr Qw μ A2 p1.Vehicles) (hl3:p1.Demands.length≤c3∧c3≤maxLen) (hA3:Qr QA μ A3 p1.Demands) (hl4:t1.Stops.length≤c4∧c4≤maxLen) (hA4:Qr QG μ A4 t1.Stops) (h:YG F p1 t1 d1=some (res1,res2))
  (hR: ∀(μ':Gh) (A0_1:Option Addr) (c0_1:Nat),μ.le μ'→(res1.Stops.length≤c0_1∧c0_1≤maxLen)→Qr QG μ' A0_1 res1.Stops→R (.tuple #[.agg #[.int .i64 res1.Vehicle,.slice A0_1 res1.Stops.length c0_1],.int .i64 res2]) μ' (L)) :
  Fn Tryz.prog 57 [.agg #[.int .i64 p1.Road.Nodes,.slice A1 p1.Road.Edges.length c1,.slice A2 p1.Vehicles.length c2,.slice A3 p1.Demands.length c3,.int .i64 p1.Unload,.int .i64 p1.UnloadSecs],.agg #[.int .i64 t1.Vehicle,.slice A4 t1.Stops.length c4],.int .i64 d1] μ (L) R:=by
 unfold YG at h;refine FnS Tryz.func57 (by kernel_rfl) E Tryz.ntmps57 E E ?_;refine G0 2 E (Al E fun _=>Q0 0 E (Al E fun _=>Q0 0 E (Al E fun _=>Q1 7 [2,1] E (Cl E ?_))));obtain ⟨⟨_,_⟩,hx1,h⟩:=Qh h;replace h:=Qj h;refine QcC hl1 hA1 hl2 hA2 hl3 hA3 hl4 hA4 hx1 (fun _ _ _ _ hm_1 hO1=> ?_);refine Q0 12 E ?_;refine Br h 18 E E (fun hc1 h=> ?_) (fun hc1 h=> ?_)
 ·refine G2 8 [18] [] [1] E ?_;cases h;exact Rt [1] E E (Ug [] 4 (hR _ none 0 hm_1 ⟨Nat.le_refl _,Nat.zero_le _⟩ Qr.nil))
 refine G2 9 [] [18] [] E ?_;refine Br h 23 E E (fun hc2 h=> ?_) (fun hc2 h=> ?_)
 ·refine G2 7 [23] [] [1] E ?_;cases h;exact Rt [1] E E (Ug [] 4 (hR _ none 0 hm_1 ⟨Nat.le_refl _,Nat.zero_le _⟩ Qr.nil))
 refine G2 5 [] [23] [] E (IxA h (Own.rds hO1 0 E) E E fun _ _ _ _ hr1 hc3 _ h=> ?_);obtain ⟨A6,c6,rfl,hl5,hA6⟩:=hr1;refine Q3 4 [] [] [64,1] (Z1 hc3) E ?_;cases h;exact Rt [1] E E (Ug [] 4 (hR _ A6 c6 hm_1 hl5 hA6))
theorem QaZ  {p1:Qe} {x1:Qf} {A1:Option Addr} {c1:Nat} {A2:Option Addr} {c2:Nat} {A3:Option Addr} {c3:Nat} {A4:Option Addr} {c4:Nat} {A5:Option Addr} {c5:Nat} {res1:Int} {res2:Int}
  (hl1:p1.Road.Edges.length≤c1∧c1≤maxLen) (hA1:Qr QE μ A1 p1.Road.Edges) (hl2:p1.Vehicles.length≤c2∧c2≤maxLen) (hA2:Qr Qw μ A2 p1.Vehicles) (hl3:p1.Demands.length≤c3∧c3≤maxLen) (hA3:Qr QA μ A3 p1.Demands) (hl4:x1.Tours.length≤c4∧c4≤maxLen) (hA4:Qr Qp μ A4 x1.Tours) (hl5:x1.Left.length≤c5∧c5≤maxLen) (hA5:Qr QG μ A5 x1.Left) (h:Ya p1 x1=some (res1,res2))
  (hR:R (.tuple #[.int .i64 res1,.int .i64 res2]) μ (L)) :
  Fn Tryz.prog 43 [.agg #[.int .i64 p1.Road.Nodes,.slice A1 p1.Road.Edges.length c1,.slice A2 p1.Vehicles.length c2,.slice A3 p1.Demands.length c3,.int .i64 p1.Unload,.int .i64 p1.UnloadSecs],.agg #[.slice A4 x1.Tours.length c4,.slice A5 x1.Left.length c5]] μ (L) R:=by
 unfold Ya at h;refine FnS Tryz.func43 (by kernel_rfl) E Tryz.ntmps43 E E ?_;refine G0 2 E (Al E fun _=>Q0 0 E (Al E fun _=>Q1 8 [1,0] E (Cl E ?_)));obtain ⟨_,hx1,h⟩:=Qh h;refine Qaj hl1 hA1 hl2 hA2 hl3 hA3 hl4 hA4 hl5 hA5 hx1 ((Q0 7 E ?_));refine Br h 16 E E (fun hc1 h=> ?_) (fun hc1 h=> ?_)
 ·refine G2 7 [16] [] [] E ?_;cases h;exact Rt [] E E (Ug [] 2 hR)
 refine G2 14 [] [16] [0] E ?_;refine Cut h (fun f l o_ f_ μ_ l_=> ∃(sum2:Int),sum2=o_∧Qg ((7,.int .i64 sum2)::[]) f_∧Qd (QC [] 2 l) l_∧μ=μ_) ?_ ?_
 ·intro _ h24147 h;refine Lp h24147 (fun f l (j_:Int×Int) f_ μ_ l_=>Yk j_ fun sum1 v1=>Qg ((7,.int .i64 sum1)::(21,.int .i64 v1)::Qk [2,19,20] f) f_∧Qd (QC [] 1 l) l_∧μ=μ_) ⟨fE E,sE [some 1] 2 E,E⟩ ?_;rintro ⟨sum1,v1⟩ _ _ _ _ _ ⟨hF24157,hS24157,rfl⟩ hb24157 hq24157;unfold Jw at hb24157;replace hb24157:=Qj hb24157;refine Atn 1 hF24157 hS24157 E E (G0 5 E ?_);refine Br hb24157 22 E E (fun hc2 hb24157=> ?_) (fun hc2 hb24157=> ?_)
  ·refine G2 6 [22] [] [] E (Ix hb24157 (Qr.rds hA4 L) E E fun _ _ _ _ hr1 hc3 _ hb24157=> ?_);obtain ⟨_,_,rfl,hl6,hA7⟩:=hr1;refine Q3 1 [] [] [64] (Z1 (hc3.push)) E (Al E fun _=>Q1 6 [0,1,0] E (Cl E ?_));obtain ⟨⟨_,_⟩,hx3,hb24157⟩:=Qh hb24157;replace hb24157:=Qj hb24157;refine WR hl1 hA1 hl2 hA2 hl3 hA3 hl6 hA7 hx3 ((Q0 17 E ?_));cases hb24157;exact Ce E ⟨_,rfl,fE E,sE [some 1] 2 E,rfl⟩
  refine G2 2 [] [22] [] E ?_;cases hb24157;have hq_:=hq24157 _ E;subst hq_;exact Ce E ⟨_,rfl,fE E,sE [] 1 E,rfl⟩
 rintro _ _ _ _ h _ ⟨sum2,rfl,hF24147,hS24147,rfl⟩;refine Atn 0 hF24147 hS24147 E E (G0 6 E ?_);cases h;exact Rt [] E E (Ug [] 0 hR)
theorem QcD  {stops1:(List Int)} {d1:Int} {A1:Option Addr} {c1:Nat} {res1:(List Int)}
  (hl1:stops1.length≤c1∧c1≤maxLen) (hA1:Rds QG μ L A1 stops1) (h:JM stops1 d1=some res1)
  (hR: ∀(A0:Option Addr) (c0:Nat) (ch0:Seg),Own QG 3 μ (.slice A0 res1.length c0) res1 ch0→R (.slice A0 res1.length c0) μ (ch0::L)) :
  Fn Tryz.prog 66 [.slice A1 stops1.length c1,.int .i64 d1] μ (L) R:=by
 unfold JM at h;refine FnS Tryz.func66 (by kernel_rfl) E Tryz.ntmps66 E E ?_;refine G0 15 E ?_;refine Cut h (fun f l o_ f_ μ_ l_=> ∃(out3:(List Int)) (A5:Option Addr) (c5:Nat) (ch4:Seg),out3=o_∧Qg ((5,.slice A5 out3.length c5)::[]) f_∧Qd (ch4::l) l_∧Own QG 3 μ_ (.slice A5 out3.length c5) out3 ch4∧μ=μ_) ?_ ?_
 ·intro _ h24255 h;refine Lp h24255 (fun f l (j_:(List Int)×Int) f_ μ_ l_=>Yk j_ fun out1 v1=> ∃(A2:Option Addr) (c2:Nat) (ch1:Seg),Qg ((5,.slice A2 out1.length c2)::(10,.int .i64 v1)::Qk [1,8,9] f) f_∧Qd (ch1::l) l_∧Own QG 3 μ_ (.slice A2 out1.length c2) out1 ch1∧μ=μ_) ⟨none,0,[],fE E,sE [none] 0 E,(Own.nil),E⟩ ?_;rintro ⟨out1,v1⟩ _ _ _ _ _ ⟨A2,c2,ch1,hF24262,hS24262,hO1,rfl⟩ hb24262 hq24262;unfold ZZ at hb24262;replace hb24262:=Qj hb24262;refine Atn 1 hF24262 hS24262 E E (G0 5 E ?_);refine Br hb24262 11 E E (fun hc1 hb24262=> ?_) (fun hc1 hb24262=> ?_)
  ·refine G2 3 [11] [] [] E ?_;refine Cut hb24262 (fun f l o_ f_ μ_ l_=> ∃(out2:(List Int)) (A4:Option Addr) (c4:Nat) (ch3:Seg),out2=o_∧Qg ((5,.slice A4 out2.length c4)::Qk [1,8,9,10] f) f_∧Qd (ch3::QC [] 1 l) l_∧Own QG 3 μ_ (.slice A4 out2.length c4) out2 ch3∧μ=μ_) ?_ ?_
   ·intro _ h24265 hb24262;refine G0 3 E (Ix h24265 hA1 E E fun x1 _ _ _ hr1 hc2 _ h24265=> ?_);obtain rfl:=hr1;refine Q3 9 [] [] [64] (Z1 (hc2.push)) E ?_;refine Br h24265 16 E E (fun hc3 h24265=> ?_) (fun hc3 h24265=> ?_)
    ·refine G2 4 [16] [] [] E (So E (YP (z:=[.int .i64 0]) E E E E E E E (QP (cells':=[.int .i64 x1]) E E E E (Yx (fun g1=>Q0 0 E (So E (Q6 E ?_)))))));obtain ⟨_,hz1,h24265⟩:=Qh h24265;refine Q8 (r:=QG) QQ E E E E (by decide) E E 1 E hO1 E (Own.rds (Own.lit (r:=QG) (e:=3) (g:=g1) (xs:=[x1]) (cs:=[.int .i64 x1]) (css:=[[.int .i64 x1]]) E (All2.cons (E) (All2.nil)) E E) 0 E) hz1 fun A3 c3 ch2 hO2=>Q0 3 E ?_;cases h24265;exact Ce E ⟨_,A3,c3,ch2,rfl,fE E,sE [some 1] 2 E,(hO2),rfl⟩
    refine G2 3 [] [16] [] E ?_;cases h24265;exact Ce E ⟨_,A2,c2,ch1,rfl,fE E,sE [some 0] 1 E,(hO1),rfl⟩
   rintro _ _ _ _ hb24262 _ ⟨out2,A4,c4,ch3,rfl,hF24265,hS24265,hO3,rfl⟩;refine Atn 1 hF24265 hS24265 E E (G0 4 E ?_);cases hb24262;exact Ce E ⟨_,rfl,A4,c4,ch3,fE E,sE [some 0] 1 E,(hO3),rfl⟩
  refine G2 2 [] [11] [] E ?_;cases hb24262;have hq_:=hq24262 _ E;subst hq_;exact Ce E ⟨_,A2,c2,ch1,rfl,fE E,sE [some 0] 1 E,(hO1),rfl⟩
 rintro _ _ _ _ h _ ⟨out3,A5,c5,ch4,rfl,hF24255,hS24255,hO4,rfl⟩;refine Atn 1 hF24255 hS24255 E E (G0 5 E ?_);cases h;exact Rt [] E E (Ug [[0]] 1 (hR A5 c5 ch4 hO4))
theorem Qc1  {t1:Qa} {A1:Option Addr} {c1:Nat} {res1:Bool}
  (hl1:t1.Stops.length≤c1∧c1≤maxLen) (hA1:Qr QG μ A1 t1.Stops) (h:J4 t1=some res1)
  (hR:R (.bool res1) μ (L)) :
  Fn Tryz.prog 67 [.agg #[.int .i64 t1.Vehicle,.slice A1 t1.Stops.length c1]] μ (L) R:=by
 unfold J4 at h;refine FnS Tryz.func67 (by kernel_rfl) E Tryz.ntmps67 E E ?_;refine G0 2 E (Al E fun _=>Q1 10 [0] E ?_);refine Cut h (fun f l o_ f_ μ_ l_=>(.inl ())=o_∧Qg ([]) f_∧Qd (QC [] 1 l) l_∧μ=μ_) ?_ ?_
 ·intro _ h24320 h;refine Lp h24320 (fun f l (v1:Int) f_ μ_ l_=>Qg ((8,.int .i64 v1)::Qk [6,7] f) f_∧Qd (QC [] 1 l) l_∧μ=μ_) ⟨fE E,sE [] 1 E,E⟩ ?_;rintro v1 _ _ _ _ _ ⟨hF24323,hS24323,rfl⟩ hb24323 hq24323;unfold Wf at hb24323;refine Atn 0 hF24323 hS24323 E E (G0 5 E ?_);refine Br hb24323 9 E E (fun hc1 hb24323=> ?_) (fun hc1 hb24323=> ?_)
  ·refine G2 6 [9] [] [] E (Ix hb24323 (Qr.rds hA1 L) E E fun _ _ _ _ hr1 hc2 _ hb24323=> ?_);obtain rfl:=hr1;refine Q3 8 [] [] [64] (Z1 hc2) E ?_;refine Br hb24323 13 E E (fun hc3 hb24323=> ?_) (fun hc3 hb24323=> ?_)
   ·refine G2 5 [13] [] [] E ?_;cases hb24323;have hq_:=hq24323 _ E;subst hq_;replace h:=Ye h;cases h;exact Rt [] E E (Ug [] 0 hR)
   refine G2 7 [] [13] [] E ?_;cases hb24323;exact Ce E ⟨_,rfl,fE E,sE [] 0 E,rfl⟩
  refine G2 2 [] [9] [] E ?_;cases hb24323;have hq_:=hq24323 _ E;subst hq_;exact Ce E ⟨rfl,fE E,sE [] 0 E,rfl⟩
 rintro _ _ _ _ h _ ⟨rfl,hF24320,hS24320,rfl⟩;replace h:=Ys h;refine Atn 0 hF24320 hS24320 E E (G0 4 E ?_);cases h;exact Rt [] E E (Ug [] 0 hR)
theorem QdV {F:Nat} {p1:Qe} {x1:Qf} {d1:Int} {v1:Int} {A1:Option Addr} {c1:Nat} {A2:Option Addr} {c2:Nat} {A3:Option Addr} {c3:Nat} {A4:Option Addr} {c4:Nat} {A5:Option Addr} {c5:Nat} {res1:Qf} {res2:Bool}
  (hl1:p1.Road.Edges.length≤c1∧c1≤maxLen) (hA1:Qr QE μ A1 p1.Road.Edges) (hl2:p1.Vehicles.length≤c2∧c2≤maxLen) (hA2:Qr Qw μ A2 p1.Vehicles) (hl3:p1.Demands.length≤c3∧c3≤maxLen) (hA3:Qr QA μ A3 p1.Demands) (hl4:x1.Tours.length≤c4∧c4≤maxLen) (hA4:Qr Qp μ A4 x1.Tours) (hl5:x1.Left.length≤c5∧c5≤maxLen) (hA5:Qr QG μ A5 x1.Left) (h:JR F p1 x1 d1 v1=some (res1,res2))
  (hR: ∀(μ':Gh) (A0_0:Option Addr) (c0_0:Nat) (A0_1:Option Addr) (c0_1:Nat),μ.le μ'→(res1.Tours.length≤c0_0∧c0_0≤maxLen)→Qr Qp μ' A0_0 res1.Tours→(res1.Left.length≤c0_1∧c0_1≤maxLen)→Qr QG μ' A0_1 res1.Left→R (.tuple #[.agg #[.slice A0_0 res1.Tours.length c0_0,.slice A0_1 res1.Left.length c0_1],.bool res2]) μ' (L)) :
  Fn Tryz.prog 44 [.agg #[.int .i64 p1.Road.Nodes,.slice A1 p1.Road.Edges.length c1,.slice A2 p1.Vehicles.length c2,.slice A3 p1.Demands.length c3,.int .i64 p1.Unload,.int .i64 p1.UnloadSecs],.agg #[.slice A4 x1.Tours.length c4,.slice A5 x1.Left.length c5],.int .i64 d1,.int .i64 v1] μ (L) R:=by
 unfold JR at h;refine FnS Tryz.func44 (by kernel_rfl) E Tryz.ntmps44 E E ?_;refine G0 2 E (Al E fun g1=>Q0 0 E (Al E fun g2=>Q0 0 E (Al E fun g3=>Q0 5 E (Al E fun g4=>Q1 10 [0,3] E ?_))));refine Cut h (fun f l o_ f_ μ_ l_=> ∃(f5:(List Qa)) (A13:Option Addr) (c13:Nat) (ch5:Seg),(.inl f5)=o_∧Qg (Qk [2,4,5,8,10] f) f_∧Qd ([(g1,.cells #[.int .i64 p1.Road.Nodes,.slice A1 p1.Road.Edges.length c1,.slice A2 p1.Vehicles.length c2,.slice A3 p1.Demands.length c3,.int .i64 p1.Unload,.int .i64 p1.UnloadSecs] 28 (0,0))]::[(g2,.cells #[.slice A4 x1.Tours.length c4,.slice A5 x1.Left.length c5] 33 (0,0))]::[(g3,.cells #[.slice none 0 0,.slice none 0 0] 33 (0,0))]::[(g4,.cells #[.slice A13 f5.length c13,.slice none 0 0] 33 (0,0))]::ch5::QC [] 4 l) l_∧Own Qp 51 μ_ (.slice A13 f5.length c13) f5 ch5) ?_ ?_
 ·intro _ h24522 h;refine Lp h24522 (fun f l (j_:(List Qa)×Int) f_ μ_ l_=>Yk j_ fun f1 v2=> ∃(A6:Option Addr) (c6:Nat) (ch1:Seg),Qg ((20,.int .i64 v2)::Qk [2,3,4,5,8,10,19] f) f_∧Qd ([(g1,.cells #[.int .i64 p1.Road.Nodes,.slice A1 p1.Road.Edges.length c1,.slice A2 p1.Vehicles.length c2,.slice A3 p1.Demands.length c3,.int .i64 p1.Unload,.int .i64 p1.UnloadSecs] 28 (0,0))]::[(g2,.cells #[.slice A4 x1.Tours.length c4,.slice A5 x1.Left.length c5] 33 (0,0))]::[(g3,.cells #[.slice none 0 0,.slice none 0 0] 33 (0,0))]::[(g4,.cells #[.slice A6 f1.length c6,.slice none 0 0] 33 (0,0))]::ch1::QC [] 4 l) l_∧Own Qp 51 μ_ (.slice A6 f1.length c6) f1 ch1) ⟨none,0,[],fE E,sE [some 3,some 2,some 1,some 0,none] 4 E,(Own.nil)⟩ ?_;rintro ⟨f1,v2⟩ _ _ _ _ hm24600 ⟨A6,c6,ch1,hF24600,hS24600,hO1⟩ hb24600 hq24600;unfold Zd at hb24600;replace hb24600:=Qj hb24600;replace hA1:=hA1.mono hm24600;replace hA2:=hA2.mono hm24600;replace hA3:=hA3.mono hm24600;replace hA4:=hA4.mono hm24600;replace hA5:=hA5.mono hm24600;refine Atn 5 hF24600 hS24600 E E (G0 5 E ?_);refine Br hb24600 21 E E (fun hc1 hb24600=> ?_) (fun hc1 hb24600=> ?_)
  ·refine G2 3 [21] [] [] E ?_;refine Cut hb24600 (fun f l o_ f_ μ_ l_=> ∃(f4:(List Qa)) (A12:Option Addr) (c12:Nat) (ch4:Seg),(.inl f4)=o_∧Qg (Qk [2,3,4,5,8,10,19,20] f) f_∧Qd ([(g1,.cells #[.int .i64 p1.Road.Nodes,.slice A1 p1.Road.Edges.length c1,.slice A2 p1.Vehicles.length c2,.slice A3 p1.Demands.length c3,.int .i64 p1.Unload,.int .i64 p1.UnloadSecs] 28 (0,0))]::[(g2,.cells #[.slice A4 x1.Tours.length c4,.slice A5 x1.Left.length c5] 33 (0,0))]::[(g3,.cells #[.slice none 0 0,.slice none 0 0] 33 (0,0))]::[(g4,.cells #[.slice A12 f4.length c12,.slice none 0 0] 33 (0,0))]::ch4::QC [] 5 l) l_∧Own Qp 51 μ_ (.slice A12 f4.length c12) f4 ch4) ?_ ?_
   ·intro _ h24615 hb24600;refine G1 11 [1] E (Cl E ?_);obtain ⟨_,hx1,h24615⟩:=Qh h24615;refine QeI hl4 hA4 hl5 hA5 hx1 (fun _ _ hl6 hA6=>Q0 2 E (Cl E ?_));obtain ⟨_,hx2,h24615⟩:=Qh h24615;refine QcD hl6 (Qr.rds hA6 _) hx2 (fun A8 c8 _ hO2=>Q0 1 E (Al E fun g5=>Q1 9 [0] E ?_));have hl7:=Own.lenOk hO2;refine KS.upd E (Upd.frzOwn 1 E hO2 fun _ hm_1 hA7=>Upd.done ?_);replace hA1:=hA1.mono hm_1;replace hA2:=hA2.mono hm_1;replace hA3:=hA3.mono hm_1;replace hA5:=hA5.mono hm_1;replace hO1:=hO1.mono hm_1;refine Cut h24615 (fun f l o_ f_ μ_ l_=> ∃(f2:Int) (f3:(List Int)) (A10:Option Addr) (c10:Nat),(.inl (f2,f3))=o_∧Qg (Qk [2,3,4,5,8,10,12,19,20] f) f_∧Qd ([(g1,.cells #[.int .i64 p1.Road.Nodes,.slice A1 p1.Road.Edges.length c1,.slice A2 p1.Vehicles.length c2,.slice A3 p1.Demands.length c3,.int .i64 p1.Unload,.int .i64 p1.UnloadSecs] 28 (0,0))]::[(g2,.cells #[.slice A4 x1.Tours.length c4,.slice A5 x1.Left.length c5] 33 (0,0))]::[(g3,.cells #[.slice none 0 0,.slice none 0 0] 33 (0,0))]::[(g4,.cells #[.slice A6 f1.length c6,.slice none 0 0] 33 (0,0))]::ch1::[(g5,.cells #[.int .i64 f2,.slice A10 f3.length c10] 51 (0,0))]::QC [] 7 l) l_∧(f3.length≤c10∧c10≤maxLen)∧Qr QG μ_ A10 f3) ?_ ?_
    ·intro _ h24645 h24615;refine Br h24645 33 E E (fun hc2 h24645=> ?_) (fun hc2 h24645=> ?_)
     ·refine G2 6 [33] [] [2,0] E (Cl E ?_);obtain ⟨⟨_,_⟩,hx3,h24645⟩:=Qh h24645;replace h24645:=Qj h24645;refine VO hl1 hA1 hl2 hA2 hl3 hA3 hl7 hA7 hx3 (fun _ A9 c9 hm_2 hl8 hA8=> ?_);replace hA5:=hA5.mono hm_2;replace hO1:=hO1.mono hm_2;replace hA7:=hA7.mono hm_2;refine Q0 3 E (Al E fun _=>Q1 9 [0] E ?_);refine Br h24645 42 E E (fun hc3 h24645=> ?_) (fun hc3 h24645=> ?_)
      ·refine G2 7 [42] [] [5] E ?_;cases h24645;replace h24615:=Ye h24615;cases h24615;replace hb24600:=Ye hb24600;cases hb24600;have hq_:=hq24600 _ E;subst hq_;replace h:=Ye h;cases h;exact Rt [5] E E (Ug [] 8 (hR _ none 0 none 0 (hm24600.trans (hm_1.trans hm_2)) ⟨Nat.le_refl _,Nat.zero_le _⟩ Qr.nil ⟨Nat.le_refl _,Nat.zero_le _⟩ Qr.nil))
      refine G2 6 [] [42] [0,1] E ?_;cases h24645;exact Ce E ⟨_,_,A9,c9,rfl,fE E,sE [some 3,some 4,some 5,some 6,some 7,some 1] 8 E,(hl8),(hA8)⟩
     refine G2 2 [] [33] [] E ?_;cases h24645;exact Ce E ⟨_,_,A8,c8,rfl,fE E,sE [some 2,some 3,some 4,some 5,some 6,some 0] 7 E,(hl7),(hA7)⟩
    rintro _ _ _ _ h24615 hm24645 ⟨f2,f3,A10,c10,rfl,hF24645,hS24645,hl9,hA9⟩;replace h24615:=Ys h24615;replace h24615:=Qj h24615;replace hA5:=hA5.mono hm24645;replace hO1:=hO1.mono hm24645;refine Atn 6 hF24645 hS24645 E E (G1 3 [5] E (Cl E ?_));obtain ⟨_,hx4,h24615⟩:=Qh h24615;refine Qc1 hl9 hA9 hx4 ((Q0 1 E ?_));refine Br h24615 46 E E (fun hc4 h24615=> ?_) (fun hc4 h24615=> ?_)
    ·refine G2 5 [46] [] [3,5] E (So E (YP (z:=[.int .i64 0,.slice none 0 0]) E E E E E E E (QP (cells':=[.int .i64 f2,.slice A10 f3.length c10]) E E E E (Yx (fun g7=>Q0 0 E (So E (Q6 E ?_)))))));obtain ⟨_,hz1,h24615⟩:=Qh h24615;refine Q8 (r:=Qp) QQ E E E E (by decide) E E 5 E hO1 E (Own.rds (Own.lit (r:=Qp) (e:=51) (g:=g7) (xs:=[(Qa.mk f2 f3)]) (cs:=[.int .i64 f2,.slice A10 f3.length c10]) (css:=[[.int .i64 f2,.slice A10 f3.length c10]]) E (All2.cons (⟨A10,c10,E,hl9,hA9⟩) (All2.nil)) E E) 0 E) hz1 fun A11 c11 ch3 hO3=>Q1 4 [4] E ?_;cases h24615;exact Ce E ⟨_,A11,c11,ch3,rfl,fE E,sE [some 1,some 2,some 3,some 4,some 5] 7 E,(hO3)⟩
    refine G2 3 [] [46] [] E ?_;cases h24615;exact Ce E ⟨_,A6,c6,ch1,rfl,fE E,sE [some 0,some 1,some 2,some 3,some 4] 6 E,(hO1)⟩
   rintro _ _ _ _ hb24600 hm24615 ⟨f4,A12,c12,ch4,rfl,hF24615,hS24615,hO4⟩;replace hb24600:=Ys hb24600;replace hA5:=hA5.mono hm24615;replace hO1:=hO1.mono hm24615;refine Atn 5 hF24615 hS24615 E E (G0 4 E ?_);cases hb24600;exact Ce E ⟨_,rfl,A12,c12,ch4,fE E,sE [some 0,some 1,some 2,some 3,some 4] 5 E,(hO4)⟩
  refine G2 2 [] [21] [] E ?_;cases hb24600;have hq_:=hq24600 _ E;subst hq_;exact Ce E ⟨_,A6,c6,ch1,rfl,fE E,sE [some 0,some 1,some 2,some 3,some 4] 5 E,(hO1)⟩
 rintro _ _ _ _ h hm24522 ⟨f5,A13,c13,ch5,rfl,hF24522,hS24522,hO5⟩;replace h:=Ys h;replace hA5:=hA5.mono hm24522;refine Atn 5 hF24522 hS24522 E E (G1 8 [0] E ?_);refine Cut h (fun f l o_ f_ μ_ l_=> ∃(f8:(List Int)) (A17:Option Addr) (c17:Nat) (ch9:Seg),f8=o_∧Qg (Qk [8,10] f) f_∧Qd ([(g3,.cells #[.slice none 0 0,.slice none 0 0] 33 (0,0))]::[(g4,.cells #[.slice A13 f5.length c13,.slice A17 f8.length c17] 33 (0,0))]::ch5::ch9::QC [] 5 l) l_∧Own QG 3 μ_ (.slice A17 f8.length c17) f8 ch9) ?_ ?_
 ·intro _ h24687 h;refine Lp h24687 (fun f l (j_:(List Int)×Int) f_ μ_ l_=>Yk j_ fun f6 v5=> ∃(A14:Option Addr) (c14:Nat) (ch6:Seg),Qg ((57,.int .i64 v5)::Qk [2,5,8,10,56] f) f_∧Qd ([(g2,.cells #[.slice A4 x1.Tours.length c4,.slice A5 x1.Left.length c5] 33 (0,0))]::[(g3,.cells #[.slice none 0 0,.slice none 0 0] 33 (0,0))]::[(g4,.cells #[.slice A13 f5.length c13,.slice A14 f6.length c14] 33 (0,0))]::ch5::ch6::QC [] 5 l) l_∧Own QG 3 μ_ (.slice A14 f6.length c14) f6 ch6) ⟨none,0,[],fE E,sE [some 1,some 2,some 3,some 4,none] 5 E,(Own.nil)⟩ ?_;rintro ⟨f6,v5⟩ _ _ _ _ hm24718 ⟨A14,c14,ch6,hF24718,hS24718,hO6⟩ hb24718 hq24718;unfold ZV at hb24718;replace hb24718:=Qj hb24718;replace hA5:=hA5.mono hm24718;replace hO5:=hO5.mono hm24718;refine Atn 5 hF24718 hS24718 E E (G0 5 E ?_);refine Br hb24718 58 E E (fun hc5 hb24718=> ?_) (fun hc5 hb24718=> ?_)
  ·refine G2 3 [58] [] [] E ?_;refine Cut hb24718 (fun f l o_ f_ μ_ l_=> ∃(f7:(List Int)) (A16:Option Addr) (c16:Nat) (ch8:Seg),f7=o_∧Qg (Qk [2,5,8,10,56,57] f) f_∧Qd ([(g2,.cells #[.slice A4 x1.Tours.length c4,.slice A5 x1.Left.length c5] 33 (0,0))]::[(g3,.cells #[.slice none 0 0,.slice none 0 0] 33 (0,0))]::[(g4,.cells #[.slice A13 f5.length c13,.slice A16 f7.length c16] 33 (0,0))]::ch5::ch8::QC [] 5 l) l_∧Own QG 3 μ_ (.slice A16 f7.length c16) f7 ch8) ?_ ?_
   ·intro _ h24731 hb24718;refine G0 7 E ?_;refine Cut h24731 (fun f l o_ f_ μ_ l_=> ∃(v6:Bool),v6=o_∧Qg ((68,.bool v6)::Qk [2,5,8,10,15,56,57] f) f_∧Qd l l_) ?_ ?_
    ·intro _ h24732 h24731;refine G0 5 E ?_;refine Br h24732 63 E E (fun hc6 h24732=> ?_) (fun hc6 h24732=> ?_)
     ·refine G2 3 [63] [] [0] E (Cl E ?_);obtain ⟨_,hx5,h24732⟩:=Qh h24732;refine Qec hl5 (Qr.rds hA5 _) hx5 ((Q2 2 [63] [] [] E ?_));cases h24732;exact Ce E ⟨_,rfl,fE E,sE [some 0,some 1,some 2,some 3,some 4] 5 E⟩
     refine G2 6 [] [63] [] E ?_;cases h24732;exact Ce E ⟨_,rfl,fE E,sE [some 0,some 1,some 2,some 3,some 4] 5 E⟩
    rintro _ _ _ _ h24731 hm24732 ⟨v6,rfl,hF24732,hS24732⟩;replace hO5:=hO5.mono hm24732;replace hO6:=hO6.mono hm24732;refine Atn 5 hF24732 hS24732 E E ?_;refine Br h24731 68 E E (fun hc7 h24731=> ?_) (fun hc7 h24731=> ?_)
    ·refine G2 5 [68] [] [2] E (So E (YP (z:=[.int .i64 0]) E E E E E E E (QP (cells':=[.int .i64 v5]) E E E E (Yx (fun g8=>Q0 0 E (So E (Q6 E ?_)))))));obtain ⟨_,hz2,h24731⟩:=Qh h24731;refine Q8 (r:=QG) QQ E E E E (by decide) E E 5 E hO6 E (Own.rds (Own.lit (r:=QG) (e:=3) (g:=g8) (xs:=[v5]) (cs:=[.int .i64 v5]) (css:=[[.int .i64 v5]]) E (All2.cons (E) (All2.nil)) E E) 0 E) hz2 fun A15 c15 ch7 hO7=>Q1 4 [3] E ?_;cases h24731;exact Ce E ⟨_,A15,c15,ch7,rfl,fE E,sE [some 1,some 2,some 3,some 4,some 5] 6 E,(hO7)⟩
    refine G2 3 [] [68] [] E ?_;cases h24731;exact Ce E ⟨_,A14,c14,ch6,rfl,fE E,sE [some 0,some 1,some 2,some 3,some 4] 5 E,(hO6)⟩
   rintro _ _ _ _ hb24718 hm24731 ⟨f7,A16,c16,ch8,rfl,hF24731,hS24731,hO8⟩;replace hO5:=hO5.mono hm24731;replace hO6:=hO6.mono hm24731;refine Atn 5 hF24731 hS24731 E E (G0 4 E ?_);cases hb24718;exact Ce E ⟨_,rfl,A16,c16,ch8,fE E,sE [some 0,some 1,some 2,some 3,some 4] 5 E,(hO8)⟩
  refine G2 2 [] [58] [] E ?_;cases hb24718;have hq_:=hq24718 _ E;subst hq_;exact Ce E ⟨_,A14,c14,ch6,rfl,fE E,sE [some 1,some 2,some 3,some 4] 5 E,(hO6)⟩
 rintro _ _ _ _ h hm24687 ⟨f8,A17,c17,ch9,rfl,hF24687,hS24687,hO9⟩;replace hO5:=hO5.mono hm24687;refine Atn 4 hF24687 hS24687 E E (G1 6 [1,0] E ?_);cases h;refine Rt [0] E E ?_;have hl10:=Own.lenOk hO5;refine Upd.frzOwn 2 E hO5 fun _ hm_3 hA10=> ?_;replace hO9:=hO9.mono hm_3;have hl11:=Own.lenOk hO9;refine Upd.frzOwn 3 E hO9 fun _ hm_4 hA11=> ?_;replace hA10:=hA10.mono hm_4;exact (Ug [] 4 (hR _ A13 c13 A17 c17 (hm24522.trans (hm24687.trans (hm_3.trans hm_4))) hl10 hA10 hl11 hA11))
theorem Qdt {F:Nat} {p1:Qe} {x1:Qf} {A1:Option Addr} {c1:Nat} {A2:Option Addr} {c2:Nat} {A3:Option Addr} {c3:Nat} {A4:Option Addr} {c4:Nat} {A5:Option Addr} {c5:Nat} {res1:(List Qf)} {res2:Int}
  (hl1:p1.Road.Edges.length≤c1∧c1≤maxLen) (hA1:Qr QE μ A1 p1.Road.Edges) (hl2:p1.Vehicles.length≤c2∧c2≤maxLen) (hA2:Qr Qw μ A2 p1.Vehicles) (hl3:p1.Demands.length≤c3∧c3≤maxLen) (hA3:Qr QA μ A3 p1.Demands) (hl4:x1.Tours.length≤c4∧c4≤maxLen) (hA4:Qr Qp μ A4 x1.Tours) (hl5:x1.Left.length≤c5∧c5≤maxLen) (hA5:Qr QG μ A5 x1.Left) (h:Jz F p1 x1=some (res1,res2))
  (hR: ∀(μ':Gh) (A0:Option Addr) (c0:Nat) (ch0:Seg),μ.le μ'→Own ZC 33 μ' (.slice A0 res1.length c0) res1 ch0→R (.tuple #[.slice A0 res1.length c0,.int .i64 res2]) μ' (ch0::L)) :
  Fn Tryz.prog 17 [.agg #[.int .i64 p1.Road.Nodes,.slice A1 p1.Road.Edges.length c1,.slice A2 p1.Vehicles.length c2,.slice A3 p1.Demands.length c3,.int .i64 p1.Unload,.int .i64 p1.UnloadSecs],.agg #[.slice A4 x1.Tours.length c4,.slice A5 x1.Left.length c5]] μ (L) R:=by
 unfold Jz at h;refine FnS Tryz.func17 (by kernel_rfl) E Tryz.ntmps17 E E ?_;refine G0 2 E (Al E fun g1=>Q0 0 E (Al E fun g2=>Q1 8 [1,0] E (Cl E ?_)));obtain ⟨_,hx1,h⟩:=Qh h;refine Qaj hl1 hA1 hl2 hA2 hl3 hA3 hl4 hA4 hl5 hA5 hx1 ((Q0 7 E ?_));refine Br h 24 E E (fun hc1 h=> ?_) (fun hc1 h=> ?_)
 ·refine G2 7 [24] [] [] E ?_;cases h;exact Rt [] E E (Ug [[]] 2 (hR _ none 0 [] (Gh.le.refl _) Own.nil))
 refine G2 6 [] [24] [1,0] E (Cl E ?_);obtain ⟨⟨_,_⟩,hx2,h⟩:=Qh h;replace h:=Qj h;refine QaZ hl1 hA1 hl2 hA2 hl3 hA3 hl4 hA4 hl5 hA5 hx2 ((Q1 22 [1] E ?_));refine Cut h (fun f l o_ f_ μ_ l_=> ∃(out6:(List Qf)) (A28:Option Addr) (c26:Nat) (ch17:Seg),out6=o_∧Qg ((9,.slice A28 out6.length c26)::[]) f_∧Qd (ch17::QC [] 2 l) l_∧Own ZC 33 μ_ (.slice A28 out6.length c26) out6 ch17) ?_ ?_
 ·intro _ h25279 h;refine Lp h25279 (fun f l (j_:(List Qf)×(List Int)×Int) f_ μ_ l_=>Yk j_ fun out1 j_=>Yk j_ fun costs1 v1=> ∃(A6:Option Addr) (c6:Nat) (ch1:Seg) (A7:Option Addr) (c7:Nat) (ch2:Seg),Qg ((9,.slice A6 out1.length c6)::(10,.slice A7 costs1.length c7)::(35,.int .i64 v1)::Qk [2,3,7,34] f) f_∧Qd ([(g1,.cells #[.int .i64 p1.Road.Nodes,.slice A1 p1.Road.Edges.length c1,.slice A2 p1.Vehicles.length c2,.slice A3 p1.Demands.length c3,.int .i64 p1.Unload,.int .i64 p1.UnloadSecs] 28 (0,0))]::[(g2,.cells #[.slice A4 x1.Tours.length c4,.slice A5 x1.Left.length c5] 33 (0,0))]::ch1::ch2::QC [] 2 l) l_∧Own ZC 33 μ_ (.slice A6 out1.length c6) out1 ch1∧Own QG 3 μ_ (.slice A7 costs1.length c7) costs1 ch2) ⟨none,0,[],none,0,[],fE E,sE [some 1,some 0,none,none] 2 E,(Own.nil),(Own.nil)⟩ ?_;rintro ⟨out1,costs1,v1⟩ _ _ _ _ hm25549 ⟨A6,c6,ch1,A7,c7,ch2,hF25549,hS25549,hO1,hO2⟩ hb25549 hq25549;unfold YZ at hb25549;replace hb25549:=Qj hb25549;replace hb25549:=Qj hb25549;replace hA1:=hA1.mono hm25549;replace hA2:=hA2.mono hm25549;replace hA3:=hA3.mono hm25549;replace hA4:=hA4.mono hm25549;replace hA5:=hA5.mono hm25549;refine Atn 4 hF25549 hS25549 E E (G0 5 E ?_);refine Br hb25549 36 E E (fun hc2 hb25549=> ?_) (fun hc2 hb25549=> ?_)
  ·refine G2 3 [36] [] [] E ?_;refine Cut hb25549 (fun f l o_ f_ μ_ l_=> ∃(out5:(List Qf)) (costs5:(List Int)) (A26:Option Addr) (c24:Nat) (ch15:Seg) (A27:Option Addr) (c25:Nat) (ch16:Seg),(out5,costs5)=o_∧Qg ((9,.slice A26 out5.length c24)::(10,.slice A27 costs5.length c25)::Qk [2,3,7,34,35] f) f_∧Qd ([(g1,.cells #[.int .i64 p1.Road.Nodes,.slice A1 p1.Road.Edges.length c1,.slice A2 p1.Vehicles.length c2,.slice A3 p1.Demands.length c3,.int .i64 p1.Unload,.int .i64 p1.UnloadSecs] 28 (0,0))]::[(g2,.cells #[.slice A4 x1.Tours.length c4,.slice A5 x1.Left.length c5] 33 (0,0))]::ch15::ch16::QC [] 4 l) l_∧Own ZC 33 μ_ (.slice A26 out5.length c24) out5 ch15∧Own QG 3 μ_ (.slice A27 costs5.length c25) costs5 ch16) ?_ ?_
   ·intro _ h25560 hb25549;refine G1 13 [0] E ?_;refine Cut h25560 (fun f l o_ f_ μ_ l_=> ∃(out4:(List Qf)) (costs4:(List Int)) (A24:Option Addr) (c22:Nat) (ch13:Seg) (A25:Option Addr) (c23:Nat) (ch14:Seg),(out4,costs4)=o_∧Qg ((9,.slice A24 out4.length c22)::(10,.slice A25 costs4.length c23)::Qk [2,3,7,34,35] f) f_∧Qd ([(g1,.cells #[.int .i64 p1.Road.Nodes,.slice A1 p1.Road.Edges.length c1,.slice A2 p1.Vehicles.length c2,.slice A3 p1.Demands.length c3,.int .i64 p1.Unload,.int .i64 p1.UnloadSecs] 28 (0,0))]::[(g2,.cells #[.slice A4 x1.Tours.length c4,.slice A5 x1.Left.length c5] 33 (0,0))]::ch13::ch14::QC [] 4 l) l_∧Own ZC 33 μ_ (.slice A24 out4.length c22) out4 ch13∧Own QG 3 μ_ (.slice A25 costs4.length c23) costs4 ch14) ?_ ?_
    ·intro _ h25561 h25560;refine Lp h25561 (fun f l (j_:(List Qf)×(List Int)×Int) f_ μ_ l_=>Yk j_ fun out2 j_=>Yk j_ fun costs2 v2=> ∃(A8:Option Addr) (c8:Nat) (ch3:Seg) (A9:Option Addr) (c9:Nat) (ch4:Seg),Qg ((9,.slice A8 out2.length c8)::(10,.slice A9 costs2.length c9)::(41,.int .i64 v2)::Qk [2,3,7,11,34,35,40] f) f_∧Qd ([(g1,.cells #[.int .i64 p1.Road.Nodes,.slice A1 p1.Road.Edges.length c1,.slice A2 p1.Vehicles.length c2,.slice A3 p1.Demands.length c3,.int .i64 p1.Unload,.int .i64 p1.UnloadSecs] 28 (0,0))]::[(g2,.cells #[.slice A4 x1.Tours.length c4,.slice A5 x1.Left.length c5] 33 (0,0))]::ch3::ch4::QC [] 4 l) l_∧Own ZC 33 μ_ (.slice A8 out2.length c8) out2 ch3∧Own QG 3 μ_ (.slice A9 costs2.length c9) costs2 ch4) ⟨A6,c6,ch1,A7,c7,ch2,fE E,sE [some 0,some 1,some 2,some 3] 4 E,(hO1),(hO2)⟩ ?_;rintro ⟨out2,costs2,v2⟩ _ _ _ _ hm25672 ⟨A8,c8,ch3,A9,c9,ch4,hF25672,hS25672,hO3,hO4⟩ hb25672 hq25672;unfold YE at hb25672;replace hb25672:=Qj hb25672;replace hb25672:=Qj hb25672;replace hA1:=hA1.mono hm25672;replace hA2:=hA2.mono hm25672;replace hA3:=hA3.mono hm25672;replace hA4:=hA4.mono hm25672;replace hA5:=hA5.mono hm25672;replace hO1:=hO1.mono hm25672;refine Atn 4 hF25672 hS25672 E E (G0 5 E ?_);refine Br hb25672 42 E E (fun hc3 hb25672=> ?_) (fun hc3 hb25672=> ?_)
     ·refine G2 3 [42] [] [] E ?_;refine Cut hb25672 (fun f l o_ f_ μ_ l_=> ∃(out3:(List Qf)) (costs3:(List Int)) (A22:Option Addr) (c20:Nat) (ch11:Seg) (A23:Option Addr) (c21:Nat) (ch12:Seg),(out3,costs3)=o_∧Qg ((9,.slice A22 out3.length c20)::(10,.slice A23 costs3.length c21)::Qk [2,3,7,11,34,35,40,41] f) f_∧Qd ([(g1,.cells #[.int .i64 p1.Road.Nodes,.slice A1 p1.Road.Edges.length c1,.slice A2 p1.Vehicles.length c2,.slice A3 p1.Demands.length c3,.int .i64 p1.Unload,.int .i64 p1.UnloadSecs] 28 (0,0))]::[(g2,.cells #[.slice A4 x1.Tours.length c4,.slice A5 x1.Left.length c5] 33 (0,0))]::ch11::ch12::QC [] 4 l) l_∧Own ZC 33 μ_ (.slice A22 out3.length c20) out3 ch11∧Own QG 3 μ_ (.slice A23 costs3.length c21) costs3 ch12) ?_ ?_
      ·intro _ h25681 hb25672;refine G1 12 [0,1] E (Cl E ?_);obtain ⟨⟨r4,_⟩,hx3,h25681⟩:=Qh h25681;replace h25681:=Qj h25681;refine QdV hl1 hA1 hl2 hA2 hl3 hA3 hl4 hA4 hl5 hA5 hx3 (fun _ A10 c10 A11 c11 hm_1 hl6 hA6 hl7 hA7=> ?_);replace hA1:=hA1.mono hm_1;replace hA2:=hA2.mono hm_1;replace hA3:=hA3.mono hm_1;replace hO1:=hO1.mono hm_1;replace hO3:=hO3.mono hm_1;replace hO4:=hO4.mono hm_1;refine Q0 3 E (Al E fun g3=>Q1 7 [0,1,0] E (Cl E ?_));obtain ⟨⟨r6,_⟩,hx4,h25681⟩:=Qh h25681;replace h25681:=Qj h25681;refine QaZ hl1 hA1 hl2 hA2 hl3 hA3 hl6 hA6 hl7 hA7 hx4 ((Q0 8 E ?_));refine Cut h25681 (fun f l o_ f_ μ_ l_=> ∃(v4:Bool),v4=o_∧Qg ((75,.bool v4)::Qk [2,3,7,9,10,11,13,15,34,35,40,41] f) f_∧Qd (QC [some 1,some 2,some 3,some 4,some 0] 5 l) l_) ?_ ?_
       ·intro _ h25688 h25681;refine G0 4 E ?_;refine Br h25688 60 E E (fun hc4 h25688=> ?_) (fun hc4 h25688=> ?_)
        ·refine G2 16 [60,64] [] [] E ?_;cases h25688;exact Ce E ⟨_,rfl,fE E,sE [some 1,some 2,some 3,some 4,some 0] 5 E⟩
        refine G2 4 [] [60] [] E ?_;refine Br h25688 64 E E (fun hc5 h25688=> ?_) (fun hc5 h25688=> ?_)
        ·refine G2 12 [64] [] [] E ?_;cases h25688;exact Ce E ⟨_,rfl,fE E,sE [some 1,some 2,some 3,some 4,some 0] 5 E⟩
        refine G2 8 [] [64] [0,2] E (Cl E ?_);obtain ⟨_,hx5,h25688⟩:=Qh h25688;refine QaC  hx5 ((Q2 3 [] [64] [] E ?_));cases h25688;exact Ce E ⟨_,rfl,fE E,sE [some 1,some 2,some 3,some 4,some 0] 5 E⟩
       rintro _ _ _ _ h25681 hm25688 ⟨v4,rfl,hF25688,hS25688⟩;replace hO1:=hO1.mono hm25688;replace hO3:=hO3.mono hm25688;replace hO4:=hO4.mono hm25688;replace hA6:=hA6.mono hm25688;replace hA7:=hA7.mono hm25688;refine Atn 5 hF25688 hS25688 E E ?_;refine Br h25681 75 E E (fun hc6 h25681=> ?_) (fun hc6 h25681=> ?_)
       ·refine G2 2 [75] [] [] E ?_;cases h25681;exact Ce E ⟨_,_,A8,c8,ch3,A9,c9,ch4,rfl,fE E,sE [some 0,some 1,some 2,some 3] 5 E,(hO3),(hO4)⟩
       refine G2 9 [] [75] [] E ?_;refine Cut h25681 (fun f l o_ f_ μ_ l_=> ∃(f_at2:Int),f_at2=o_∧Qg ((17,.int .i64 f_at2)::Qk [2,3,7,9,10,11,13,15,34,35,40,41] f) f_∧Qd l l_) ?_ ?_
       ·intro _ h25695 h25681;refine Lp h25695 (fun f l (f_at1:Int) f_ μ_ l_=>Qg ((17,.int .i64 f_at1)::Qk [2,3,7,9,10,11,13,15,34,35,40,41] f) f_∧Qd l l_) ⟨fE E,sE [some 0,some 1,some 2,some 3,some 4] 5 E⟩ ?_;rintro f_at1 _ _ _ _ hm25725 ⟨hF25725,hS25725⟩ hb25725 hq25725;unfold YY at hb25725;replace hO1:=hO1.mono hm25725;replace hO3:=hO3.mono hm25725;replace hO4:=hO4.mono hm25725;replace hA6:=hA6.mono hm25725;replace hA7:=hA7.mono hm25725;refine Atn 5 hF25725 hS25725 E E (G0 2 E ?_);refine Cut hb25725 (fun f l o_ f_ μ_ l_=> ∃(v5:Bool),v5=o_∧Qg ((98,.bool v5)::Qk [2,3,7,9,10,11,13,15,17,34,35,40,41] f) f_∧Qd l l_) ?_ ?_
        ·intro _ h25739 hb25725;refine Dr _ Qz.refl [(true,0),(true,1),(true,2),(true,3),(true,4),(true,5),(true,6),(true,7),(true,8),(true,9),(true,10),(true,11),(true,12),(true,13),(true,14),(true,15),(true,16),(true,17),(true,18),(false,19),(true,20)] (by kernel_rfl) (G0 3 E ?_);refine Br h25739 80 E E (fun hc7 h25739=> ?_) (fun hc7 h25739=> ?_)
         ·refine G2 7 [80] [] [4] E (Ix h25739 (Own.rds (L:=([(g1,.cells #[.int .i64 p1.Road.Nodes,.slice A1 p1.Road.Edges.length c1,.slice A2 p1.Vehicles.length c2,.slice A3 p1.Demands.length c3,.int .i64 p1.Unload,.int .i64 p1.UnloadSecs] 28 (0,0))]::[(g2,.cells #[.slice A4 x1.Tours.length c4,.slice A5 x1.Left.length c5] 33 (0,0))]::ch3::ch4::[(g3,.cells #[.slice A10 r4.Tours.length c10,.slice A11 r4.Left.length c11] 33 (0,0))]::L)) hO3 2 E) E E fun _ _ _ _ hr1 hc8 _ h25739=> ?_);obtain ⟨_,_,_,_,rfl,_,_,_,_⟩:=hr1;refine Q3 6 [80] [] [65] (Z1 hc8) E (Ix h25739 (Own.rds (L:=([(g1,.cells #[.int .i64 p1.Road.Nodes,.slice A1 p1.Road.Edges.length c1,.slice A2 p1.Vehicles.length c2,.slice A3 p1.Demands.length c3,.int .i64 p1.Unload,.int .i64 p1.UnloadSecs] 28 (0,0))]::[(g2,.cells #[.slice A4 x1.Tours.length c4,.slice A5 x1.Left.length c5] 33 (0,0))]::ch3::ch4::[(g3,.cells #[.slice A10 r4.Tours.length c10,.slice A11 r4.Left.length c11] 33 (0,0))]::L)) hO4 3 E) E E fun _ _ _ _ hr2 hc9 _ h25739=> ?_);obtain rfl:=hr2;refine Q3 1 [80] [] [64] (Z1 hc9) E (Cl E ?_);obtain ⟨_,hx8,h25739⟩:=Qh h25739;refine QaC  hx8 (?_);refine ⟨Qz.refl,?_⟩;refine Q2 2 [80] [] [] E ?_;cases h25739;exact Ce E ⟨_,rfl,fE E,sE [some 0,some 1,some 2,some 3,some 4] 5 E⟩
         refine G2 19 [] [80] [] E ?_;cases h25739;exact Ce E ⟨_,rfl,fE E,sE [some 0,some 1,some 2,some 3,some 4] 5 E⟩
        rintro _ _ _ _ hb25725 hm25739 ⟨v5,rfl,hF25739,hS25739⟩;replace hO1:=hO1.mono hm25739;replace hO3:=hO3.mono hm25739;replace hO4:=hO4.mono hm25739;replace hA6:=hA6.mono hm25739;replace hA7:=hA7.mono hm25739;refine Atn 5 hF25739 hS25739 E E ?_;refine Br hb25725 98 E E (fun hc10 hb25725=> ?_) (fun hc10 hb25725=> ?_)
        ·refine G2 9 [98] [] [] E ?_;cases hb25725;exact Ce E ⟨_,rfl,fE E,sE [some 0,some 1,some 2,some 3,some 4] 5 E⟩
        refine G2 2 [] [98] [] E ?_;cases hb25725;have hq_:=hq25725 _ E;subst hq_;exact Ce E ⟨_,rfl,fE E,sE [some 0,some 1,some 2,some 3,some 4] 5 E⟩
       rintro _ _ _ _ h25681 hm25695 ⟨f_at2,rfl,hF25695,hS25695⟩;replace hO1:=hO1.mono hm25695;replace hO3:=hO3.mono hm25695;replace hO4:=hO4.mono hm25695;replace hA6:=hA6.mono hm25695;replace hA7:=hA7.mono hm25695;refine Atn 5 hF25695 hS25695 E E (G0 2 E (So E (YP (z:=[]) E E E E E E E (Yx (fun g4=> ?_)))));obtain ⟨_,hs1,h25681⟩:=Qh h25681;refine Q0 2 E (Rdo E E (Qa9 E E E E E E (Own.lenOk hO3).1 hs1 ?_));have hA12:=Rds.pre (Own.rds (L:=([(g4,.cells #[] 33 (0,0))]::[(g1,.cells #[.int .i64 p1.Road.Nodes,.slice A1 p1.Road.Edges.length c1,.slice A2 p1.Vehicles.length c2,.slice A3 p1.Demands.length c3,.int .i64 p1.Unload,.int .i64 p1.UnloadSecs] 28 (0,0))]::[(g2,.cells #[.slice A4 x1.Tours.length c4,.slice A5 x1.Left.length c5] 33 (0,0))]::ch3::ch4::[(g3,.cells #[.slice A10 r4.Tours.length c10,.slice A11 r4.Left.length c11] 33 (0,0))]::L)) hO3 3 E) hs1;have hl10:=Qcr (Own.lenOk hO3) hs1;refine Q0 0 E (So E (Q6 E ?_));obtain ⟨_,hz1,h25681⟩:=Qh h25681;refine Q8 (r:=ZC) QQ E E E E (by decide) E E 0 E (Own.empty (r:=ZC) (e:=33) (g:=g4)) E hA12 hz1 fun _ _ _ hO5=>Q1 6 [5] E (So E (YP (z:=[.slice none 0 0,.slice none 0 0]) E E E E E E E (QP (cells':=[.slice A10 r4.Tours.length c10,.slice A11 r4.Left.length c11]) E E E E (Yx (fun g5=>Q0 0 E (So E (Q6 E ?_)))))));obtain ⟨_,hz2,h25681⟩:=Qh h25681;refine Q8 (r:=ZC) QQ E E E E (by decide) E E 1 E hO5 E (Own.rds (Own.lit (r:=ZC) (e:=33) (g:=g5) (xs:=[r4]) (cs:=[.slice A10 r4.Tours.length c10,.slice A11 r4.Left.length c11]) (css:=[[.slice A10 r4.Tours.length c10,.slice A11 r4.Left.length c11]]) E (All2.cons (⟨A10,c10,A11,c11,E,hl6,hA6,hl7,hA7⟩) (All2.nil)) E E) 0 E) hz2 fun _ _ ch6 hO6=> ?_;obtain ⟨_,hs2,h25681⟩:=Qh h25681;refine Q0 7 E (Rdo E E (QcH (r:=ZC) E E E E E E E (Own.lenOk hO3).1 hs2 fun _ hAe1=> ?_));have hA13:=Rds.sub (Own.rds (L:=([(g5,.cells #[.slice A10 r4.Tours.length c10,.slice A11 r4.Left.length c11] 33 (0,0))]::ch6::[(g1,.cells #[.int .i64 p1.Road.Nodes,.slice A1 p1.Road.Edges.length c1,.slice A2 p1.Vehicles.length c2,.slice A3 p1.Demands.length c3,.int .i64 p1.Unload,.int .i64 p1.UnloadSecs] 28 (0,0))]::[(g2,.cells #[.slice A4 x1.Tours.length c4,.slice A5 x1.Left.length c5] 33 (0,0))]::ch3::ch4::[(g3,.cells #[.slice A10 r4.Tours.length c10,.slice A11 r4.Left.length c11] 33 (0,0))]::L)) hO3 4 E) (Own.lenOk hO3).1 hs2 hAe1;have hl11:=QeP (Own.lenOk hO3) hs2;refine Q0 0 E (So E (Q6 E ?_));obtain ⟨_,hz3,h25681⟩:=Qh h25681;refine Q8 (r:=ZC) QQ E E E E (by decide) E E 1 E hO6 E hA13 hz3 fun A17 c16 ch7 hO7=>Q0 4 E (So E (YP (z:=[]) E E E E E E E (Yx (fun g6=> ?_))));obtain ⟨_,hs3,h25681⟩:=Qh h25681;refine Q0 2 E (Rdo E E (Qa9 E E E E E E (Own.lenOk hO4).1 hs3 ?_));have hA14:=Rds.pre (Own.rds (L:=([(g6,.cells #[] 3 (0,0))]::[(g5,.cells #[.slice A10 r4.Tours.length c10,.slice A11 r4.Left.length c11] 33 (0,0))]::ch7::[(g1,.cells #[.int .i64 p1.Road.Nodes,.slice A1 p1.Road.Edges.length c1,.slice A2 p1.Vehicles.length c2,.slice A3 p1.Demands.length c3,.int .i64 p1.Unload,.int .i64 p1.UnloadSecs] 28 (0,0))]::[(g2,.cells #[.slice A4 x1.Tours.length c4,.slice A5 x1.Left.length c5] 33 (0,0))]::ch3::ch4::[(g3,.cells #[.slice A10 r4.Tours.length c10,.slice A11 r4.Left.length c11] 33 (0,0))]::L)) hO4 6 E) hs3;have hl12:=Qcr (Own.lenOk hO4) hs3;refine Q0 0 E (So E (Q6 E ?_));obtain ⟨_,hz4,h25681⟩:=Qh h25681;refine Q8 (r:=QG) QQ E E E E (by decide) E E 0 E (Own.empty (r:=QG) (e:=3) (g:=g6)) E hA14 hz4 fun _ _ _ hO8=>Q0 6 E (So E (YP (z:=[.int .i64 0]) E E E E E E E (QP (cells':=[.int .i64 r6]) E E E E (Yx (fun g7=>Q0 0 E (So E (Q6 E ?_)))))));obtain ⟨_,hz5,h25681⟩:=Qh h25681;refine Q8 (r:=QG) QQ E E E E (by decide) E E 1 E hO8 E (Own.rds (Own.lit (r:=QG) (e:=3) (g:=g7) (xs:=[r6]) (cs:=[.int .i64 r6]) (css:=[[.int .i64 r6]]) E (All2.cons (E) (All2.nil)) E E) 0 E) hz5 fun _ _ ch9 hO9=> ?_;obtain ⟨_,hs4,h25681⟩:=Qh h25681;refine Q0 6 E (Rdo E E (QcH (r:=QG) E E E E E E E (Own.lenOk hO4).1 hs4 fun _ hAe2=> ?_))
       have hA15:=Rds.sub (Own.rds (L:=([(g7,.cells #[.int .i64 r6] 3 (0,0))]::ch9::[(g5,.cells #[.slice A10 r4.Tours.length c10,.slice A11 r4.Left.length c11] 33 (0,0))]::ch7::[(g1,.cells #[.int .i64 p1.Road.Nodes,.slice A1 p1.Road.Edges.length c1,.slice A2 p1.Vehicles.length c2,.slice A3 p1.Demands.length c3,.int .i64 p1.Unload,.int .i64 p1.UnloadSecs] 28 (0,0))]::[(g2,.cells #[.slice A4 x1.Tours.length c4,.slice A5 x1.Left.length c5] 33 (0,0))]::ch3::ch4::[(g3,.cells #[.slice A10 r4.Tours.length c10,.slice A11 r4.Left.length c11] 33 (0,0))]::L)) hO4 7 E) (Own.lenOk hO4).1 hs4 hAe2;have hl13:=QeP (Own.lenOk hO4) hs4;refine Q0 0 E (So E (Q6 E ?_));obtain ⟨_,hz6,h25681⟩:=Qh h25681;refine Q8 (r:=QG) QQ E E E E (by decide) E E 1 E hO9 E hA15 hz6 fun A21 c19 ch10 hO10=>Q0 3 E ?_;cases h25681;exact Ce E ⟨_,_,A17,c16,ch7,A21,c19,ch10,rfl,fE E,sE [some 4,some 5,some 3,some 1] 9 E,(hO7),(hO10)⟩
      rintro _ _ _ _ hb25672 hm25681 ⟨out3,costs3,A22,c20,ch11,A23,c21,ch12,rfl,hF25681,hS25681,hO11,hO12⟩;replace hb25672:=Qj hb25672;replace hO1:=hO1.mono hm25681;replace hO3:=hO3.mono hm25681;replace hO4:=hO4.mono hm25681;refine Atn 4 hF25681 hS25681 E E (G0 4 E ?_);cases hb25672;exact Ce E ⟨_,rfl,A22,c20,ch11,A23,c21,ch12,fE E,sE [some 0,some 1,some 2,some 3] 4 E,(hO11),(hO12)⟩
     refine G2 2 [] [42] [] E ?_;cases hb25672;have hq_:=hq25672 _ E;subst hq_;exact Ce E ⟨_,_,A8,c8,ch3,A9,c9,ch4,rfl,fE E,sE [some 0,some 1,some 2,some 3] 4 E,(hO3),(hO4)⟩
    rintro _ _ _ _ h25560 hm25561 ⟨out4,costs4,A24,c22,ch13,A25,c23,ch14,rfl,hF25561,hS25561,hO13,hO14⟩;replace h25560:=Qj h25560;replace hO1:=hO1.mono hm25561;refine G0 1 E ?_;cases h25560;exact Ce E ⟨_,_,A24,c22,ch13,A25,c23,ch14,rfl,hF25561.tr E,hS25561.tr (sE [some 0,some 1,some 2,some 3] 4 E),(hO13),(hO14)⟩
   rintro _ _ _ _ hb25549 hm25560 ⟨out5,costs5,A26,c24,ch15,A27,c25,ch16,rfl,hF25560,hS25560,hO15,hO16⟩;replace hb25549:=Qj hb25549;replace hO1:=hO1.mono hm25560;refine Atn 4 hF25560 hS25560 E E (G0 4 E ?_);cases hb25549;exact Ce E ⟨_,rfl,A26,c24,ch15,A27,c25,ch16,fE E,sE [some 0,some 1,some 2,some 3] 4 E,(hO15),(hO16)⟩
  refine G2 2 [] [36] [] E ?_;cases hb25549;have hq_:=hq25549 _ E;subst hq_;exact Ce E ⟨_,A6,c6,ch1,rfl,fE E,sE [some 2] 4 E,(hO1)⟩
 rintro _ _ _ _ h hm25279 ⟨out6,A28,c26,ch17,rfl,hF25279,hS25279,hO17⟩;refine Atn 1 hF25279 hS25279 E E (G0 6 E ?_);cases h;exact Rt [] E E (Ug [[0]] 1 (hR _ A28 c26 ch17 hm25279 hO17))
end Go.Proofs.YthpgjbbjpfiniaaGreat
namespace Go.Proofs.YthpgjbbjpfiniaaGreat
open Go.RowKit
set_option linter.unusedSimpArgs false
set_option linter.unusedVariables false
set_option maxHeartbeats 2000000
set_option maxRecDepth 4000
attribute [local irreducible] WP Zw Qau Fn AN Upd vcR vcO Qb1 Jk Jf QaA Qa3 QbY QaJ Wo Qcl Qz KS
variable {μ:Gh} {L:List Seg} {R:Value→Gh→List Seg→Prop}
theorem Qdr {F:Nat} {p1:Qe} {A1:Option Addr} {c1:Nat} {A2:Option Addr} {c2:Nat} {A3:Option Addr} {c3:Nat} {res1:Qf} {res2:Int}
  (hl1:p1.Road.Edges.length≤c1∧c1≤maxLen) (hA1:Qr QE μ A1 p1.Road.Edges) (hl2:p1.Vehicles.length≤c2∧c2≤maxLen) (hA2:Qr Qw μ A2 p1.Vehicles) (hl3:p1.Demands.length≤c3∧c3≤maxLen) (hA3:Qr QA μ A3 p1.Demands) (h:Jx F p1=some (res1,res2))
  (hR: ∀(μ':Gh) (A0_0:Option Addr) (c0_0:Nat) (A0_1:Option Addr) (c0_1:Nat),μ.le μ'→(res1.Tours.length≤c0_0∧c0_0≤maxLen)→Qr Qp μ' A0_0 res1.Tours→(res1.Left.length≤c0_1∧c0_1≤maxLen)→Qr QG μ' A0_1 res1.Left→R (.tuple #[.agg #[.slice A0_0 res1.Tours.length c0_0,.slice A0_1 res1.Left.length c0_1],.int .i64 res2]) μ' (L)) :
  Fn Tryz.prog 36 [.agg #[.int .i64 p1.Road.Nodes,.slice A1 p1.Road.Edges.length c1,.slice A2 p1.Vehicles.length c2,.slice A3 p1.Demands.length c3,.int .i64 p1.Unload,.int .i64 p1.UnloadSecs]] μ (L) R:=by
 unfold Jx at h;refine FnS Tryz.func36 (by kernel_rfl) E Tryz.ntmps36 E E ?_;refine G0 2 E (Al E fun g1=>Q0 0 E (Al E fun g2=>Q1 5 [1] E (Cl E ?_)));obtain ⟨_,hx1,h⟩:=Qh h;refine Wt hl1 hA1 hl2 hA2 hl3 hA3 hx1 ((Q0 8 E ?_));refine Br h 23 E E (fun hc1 h=> ?_) (fun hc1 h=> ?_)
 ·refine G2 8 [23] [] [0] E ?_;cases h;exact Rt [0] E E (Ug [] 2 (hR _ none 0 none 0 (Gh.le.refl _) ⟨Nat.le_refl _,Nat.zero_le _⟩ Qr.nil ⟨Nat.le_refl _,Nat.zero_le _⟩ Qr.nil))
 refine G2 11 [] [23] [] E ?_;refine Cut h (fun f l o_ f_ μ_ l_=> ∃(tours2:(List Qa)) (A6:Option Addr) (c6:Nat) (ch3:Seg),tours2=o_∧Qg ((5,.slice A6 tours2.length c6)::Qk [1,2] f) f_∧Qd ([(g1,.cells #[.int .i64 p1.Road.Nodes,.slice A1 p1.Road.Edges.length c1,.slice A2 p1.Vehicles.length c2,.slice A3 p1.Demands.length c3,.int .i64 p1.Unload,.int .i64 p1.UnloadSecs] 28 (0,0))]::[(g2,.cells #[.slice none 0 0,.slice none 0 0] 33 (0,0))]::ch3::QC [] 2 l) l_∧Own Qp 51 μ_ (.slice A6 tours2.length c6) tours2 ch3) ?_ ?_
 ·intro _ h23178 h;refine Lp h23178 (fun f l (j_:(List Qa)×Int) f_ μ_ l_=>Yk j_ fun tours1 v1=> ∃(A4:Option Addr) (c4:Nat) (ch1:Seg),Qg ((5,.slice A4 tours1.length c4)::(6,.int .i64 v1)::Qk [1,2] f) f_∧Qd ([(g1,.cells #[.int .i64 p1.Road.Nodes,.slice A1 p1.Road.Edges.length c1,.slice A2 p1.Vehicles.length c2,.slice A3 p1.Demands.length c3,.int .i64 p1.Unload,.int .i64 p1.UnloadSecs] 28 (0,0))]::[(g2,.cells #[.slice none 0 0,.slice none 0 0] 33 (0,0))]::ch1::QC [] 2 l) l_∧Own Qp 51 μ_ (.slice A4 tours1.length c4) tours1 ch1) ⟨none,0,[],fE E,sE [some 1,some 0,none] 2 E,(Own.nil)⟩ ?_;rintro ⟨tours1,v1⟩ _ _ _ _ hm23191 ⟨A4,c4,ch1,hF23191,hS23191,hO1⟩ hb23191 hq23191;unfold ZI at hb23191;replace hb23191:=Qj hb23191;replace hA1:=hA1.mono hm23191;replace hA2:=hA2.mono hm23191;replace hA3:=hA3.mono hm23191;refine Atn 3 hF23191 hS23191 E E (G1 9 [0] E ?_);refine Br hb23191 30 E E (fun hc2 hb23191=> ?_) (fun hc2 hb23191=> ?_)
  ·refine G2 8 [30] [] [] E (So E (YP (z:=[.int .i64 0,.slice none 0 0]) E E E E E E E (QP (cells':=[.int .i64 v1,.slice none 0 0]) E E E E (Yx (fun g3=>Q0 0 E (So E (Q6 E ?_)))))));obtain ⟨_,hz1,hb23191⟩:=Qh hb23191;refine Q8 (r:=Qp) QQ E E E E (by decide) E E 3 E hO1 E (Own.rds (Own.lit (r:=Qp) (e:=51) (g:=g3) (xs:=[(Qa.mk v1 [])]) (cs:=[.int .i64 v1,.slice none 0 0]) (css:=[[.int .i64 v1,.slice none 0 0]]) E (All2.cons (⟨none,0,E,⟨Nat.le_refl _,Nat.zero_le _⟩,Qr.nil⟩) (All2.nil)) E E) 0 E) hz1 fun A5 c5 ch2 hO2=>Q0 8 E ?_;cases hb23191;exact Ce E ⟨_,rfl,A5,c5,ch2,fE E,sE [some 1,some 2,some 3] 4 E,(hO2)⟩
  refine G2 2 [] [30] [] E ?_;cases hb23191;have hq_:=hq23191 _ E;subst hq_;exact Ce E ⟨_,A4,c4,ch1,rfl,fE E,sE [some 0,some 1,some 2] 3 E,(hO1)⟩
 rintro _ _ _ _ h hm23178 ⟨tours2,A6,c6,ch3,rfl,hF23178,hS23178,hO3⟩;replace hA1:=hA1.mono hm23178;replace hA2:=hA2.mono hm23178;replace hA3:=hA3.mono hm23178;refine Atn 3 hF23178 hS23178 E E (G0 2 E (Al E fun g4=>Q0 6 E ?_));refine Cut h (fun f l o_ f_ μ_ l_=> ∃(tours5:(List Qa)) (f11:(List Int)) (A21:Option Addr) (c21:Nat) (ch10:Seg) (A22:Option Addr) (c22:Nat) (ch11:Seg),(tours5,f11)=o_∧Qg ((5,.slice A21 tours5.length c21)::Qk [2,7] f) f_∧Qd ([(g2,.cells #[.slice none 0 0,.slice none 0 0] 33 (0,0))]::ch10::[(g4,.cells #[.slice none 0 0,.slice A22 f11.length c22] 33 (0,0))]::ch11::QC [] 4 l) l_∧Own Qp 51 μ_ (.slice A21 tours5.length c21) tours5 ch10∧Own QG 3 μ_ (.slice A22 f11.length c22) f11 ch11) ?_ ?_
 ·intro _ h23212 h;refine Lp h23212 (fun f l (j_:(List Qa)×(List Int)×Int) f_ μ_ l_=>Yk j_ fun tours3 j_=>Yk j_ fun f1 d1=> ∃(A7:Option Addr) (c7:Nat) (ch4:Seg) (A8:Option Addr) (c8:Nat) (ch5:Seg),Qg ((5,.slice A7 tours3.length c7)::(8,.int .i64 d1)::Qk [1,2,7] f) f_∧Qd ([(g1,.cells #[.int .i64 p1.Road.Nodes,.slice A1 p1.Road.Edges.length c1,.slice A2 p1.Vehicles.length c2,.slice A3 p1.Demands.length c3,.int .i64 p1.Unload,.int .i64 p1.UnloadSecs] 28 (0,0))]::[(g2,.cells #[.slice none 0 0,.slice none 0 0] 33 (0,0))]::ch4::[(g4,.cells #[.slice none 0 0,.slice A8 f1.length c8] 33 (0,0))]::ch5::QC [] 4 l) l_∧Own Qp 51 μ_ (.slice A7 tours3.length c7) tours3 ch4∧Own QG 3 μ_ (.slice A8 f1.length c8) f1 ch5) ⟨A6,c6,ch3,none,0,[],fE E,sE [some 1,some 2,some 3,some 0,none] 4 E,(hO3),(Own.nil)⟩ ?_;rintro ⟨tours3,f1,d1⟩ _ _ _ _ hm23465 ⟨A7,c7,ch4,A8,c8,ch5,hF23465,hS23465,hO4,hO5⟩ hb23465 hq23465;unfold YX at hb23465;replace hb23465:=Qj hb23465;replace hb23465:=Qj hb23465;replace hA1:=hA1.mono hm23465;replace hA2:=hA2.mono hm23465;replace hA3:=hA3.mono hm23465;refine Atn 5 hF23465 hS23465 E E (G1 9 [0] E ?_);refine Br hb23465 42 E E (fun hc3 hb23465=> ?_) (fun hc3 hb23465=> ?_)
  ·refine G2 3 [42] [] [] E ?_;refine Cut hb23465 (fun f l o_ f_ μ_ l_=> ∃(tours4:(List Qa)) (f10:(List Int)) (A19:Option Addr) (c19:Nat) (ch8:Seg) (A20:Option Addr) (c20:Nat) (ch9:Seg),(tours4,f10)=o_∧Qg ((5,.slice A19 tours4.length c19)::Qk [1,2,7,8] f) f_∧Qd ([(g1,.cells #[.int .i64 p1.Road.Nodes,.slice A1 p1.Road.Edges.length c1,.slice A2 p1.Vehicles.length c2,.slice A3 p1.Demands.length c3,.int .i64 p1.Unload,.int .i64 p1.UnloadSecs] 28 (0,0))]::[(g2,.cells #[.slice none 0 0,.slice none 0 0] 33 (0,0))]::ch8::[(g4,.cells #[.slice none 0 0,.slice A20 f10.length c20] 33 (0,0))]::ch9::QC [] 5 l) l_∧Own Qp 51 μ_ (.slice A19 tours4.length c19) tours4 ch8∧Own QG 3 μ_ (.slice A20 f10.length c20) f10 ch9) ?_ ?_
   ·intro _ h23478 hb23465;refine G0 11 E (Al E fun g5=>Q0 6 E ?_);refine Cut h23478 (fun f l o_ f_ μ_ l_=> ∃(f_at3:Int) (f8:Int) (f9:(List Int)) (A15:Option Addr) (c15:Nat),(f_at3,f8,f9)=o_∧Qg ((9,.int .i64 f_at3)::Qk [1,2,5,7,8,11] f) f_∧Qd ([(g1,.cells #[.int .i64 p1.Road.Nodes,.slice A1 p1.Road.Edges.length c1,.slice A2 p1.Vehicles.length c2,.slice A3 p1.Demands.length c3,.int .i64 p1.Unload,.int .i64 p1.UnloadSecs] 28 (0,0))]::[(g2,.cells #[.slice none 0 0,.slice none 0 0] 33 (0,0))]::ch4::[(g4,.cells #[.slice none 0 0,.slice A8 f1.length c8] 33 (0,0))]::ch5::[(g5,.cells #[.int .i64 f8,.slice A15 f9.length c15] 51 (0,0))]::QC [] 6 l) l_∧(f9.length≤c15∧c15≤maxLen)∧Qr QG μ_ A15 f9) ?_ ?_
    ·intro _ h23481 h23478;refine Lp h23481 (fun f l (j_:Int×Int×Int×(List Int)×Int) f_ μ_ l_=>Yk j_ fun f_at1 j_=>Yk j_ fun least1 j_=>Yk j_ fun f2 j_=>Yk j_ fun f3 v2=> ∃(A9:Option Addr) (c9:Nat),Qg ((9,.int .i64 f_at1)::(10,.int .i64 least1)::(12,.int .i64 v2)::Qk [1,2,5,7,8,11] f) f_∧Qd ([(g1,.cells #[.int .i64 p1.Road.Nodes,.slice A1 p1.Road.Edges.length c1,.slice A2 p1.Vehicles.length c2,.slice A3 p1.Demands.length c3,.int .i64 p1.Unload,.int .i64 p1.UnloadSecs] 28 (0,0))]::[(g2,.cells #[.slice none 0 0,.slice none 0 0] 33 (0,0))]::ch4::[(g4,.cells #[.slice none 0 0,.slice A8 f1.length c8] 33 (0,0))]::ch5::[(g5,.cells #[.int .i64 f2,.slice A9 f3.length c9] 51 (0,0))]::QC [] 6 l) l_∧(f3.length≤c9∧c9≤maxLen)∧Qr QG μ_ A9 f3) ⟨none,0,fE E,sE [some 1,some 2,some 3,some 4,some 5,some 0] 6 E,(⟨Nat.le_refl _,Nat.zero_le _⟩),(Qr.nil)⟩ ?_;rintro ⟨f_at1,least1,f2,f3,v2⟩ _ _ _ _ hm23598 ⟨A9,c9,hF23598,hS23598,hl4,hA4⟩ hb23598 hq23598;unfold Yp at hb23598;replace hb23598:=Qj hb23598;replace hb23598:=Qj hb23598;replace hb23598:=Qj hb23598;replace hb23598:=Qj hb23598;replace hA1:=hA1.mono hm23598;replace hA2:=hA2.mono hm23598;replace hA3:=hA3.mono hm23598;replace hO4:=hO4.mono hm23598;replace hO5:=hO5.mono hm23598;refine Atn 6 hF23598 hS23598 E E (G0 8 E ?_);refine Br hb23598 48 E E (fun hc4 hb23598=> ?_) (fun hc4 hb23598=> ?_)
     ·refine G2 3 [48] [] [] E ?_;refine Cut hb23598 (fun f l o_ f_ μ_ l_=> ∃(f_at2:Int) (least2:Int) (f6:Int) (f7:(List Int)) (A14:Option Addr) (c14:Nat),(f_at2,least2,f6,f7)=o_∧Qg ((9,.int .i64 f_at2)::(10,.int .i64 least2)::Qk [1,2,5,7,8,11,12] f) f_∧Qd ([(g1,.cells #[.int .i64 p1.Road.Nodes,.slice A1 p1.Road.Edges.length c1,.slice A2 p1.Vehicles.length c2,.slice A3 p1.Demands.length c3,.int .i64 p1.Unload,.int .i64 p1.UnloadSecs] 28 (0,0))]::[(g2,.cells #[.slice none 0 0,.slice none 0 0] 33 (0,0))]::ch4::[(g4,.cells #[.slice none 0 0,.slice A8 f1.length c8] 33 (0,0))]::ch5::[(g5,.cells #[.int .i64 f6,.slice A14 f7.length c14] 51 (0,0))]::QC [] 6 l) l_∧(f7.length≤c14∧c14≤maxLen)∧Qr QG μ_ A14 f7) ?_ ?_
      ·intro _ h23613 hb23598;refine G0 2 E ?_;refine Cut h23613 (fun f l o_ f_ μ_ l_=> ∃(f4:Int) (f5:(List Int)) (e1:Int) (g7:Nat) (A12:Option Addr) (c12:Nat),(f4,f5,e1)=o_∧Qg ((13,.pointer (some ⟨g7,0,none⟩))::(14,.int .i64 e1)::Qk [1,2,5,7,8,9,10,11,12] f) f_∧Qd ([(g1,.cells #[.int .i64 p1.Road.Nodes,.slice A1 p1.Road.Edges.length c1,.slice A2 p1.Vehicles.length c2,.slice A3 p1.Demands.length c3,.int .i64 p1.Unload,.int .i64 p1.UnloadSecs] 28 (0,0))]::[(g2,.cells #[.slice none 0 0,.slice none 0 0] 33 (0,0))]::ch4::[(g4,.cells #[.slice none 0 0,.slice A8 f1.length c8] 33 (0,0))]::ch5::[(g5,.cells #[.int .i64 f2,.slice A9 f3.length c9] 51 (0,0))]::[(g7,.cells #[.int .i64 f4,.slice A12 f5.length c12] 51 (0,0))]::QC [] 6 l) l_∧(f5.length≤c12∧c12≤maxLen)∧Qr QG μ_ A12 f5) ?_ ?_
       ·intro _ h23637 h23613;refine Cd (WP.draw (id:=19) QdA _ Qz.refl E (AN.run (fuel:=7) (listed':=[true,true,true,true,true,true,false,false,false,false,false,false,false]) QQ [(true,0),(true,1),(true,2),(true,3),(true,4),(true,5)] (by kernel_rfl) (by kernel_rfl) E (Vj E (ZK E E E E (LA_ (vs:=[.int .i64 p1.Road.Nodes,.slice A1 p1.Road.Edges.length c1,.slice A2 p1.Vehicles.length c2,.slice A3 p1.Demands.length c3,.int .i64 p1.Unload,.int .i64 p1.UnloadSecs]) 0 0 E E E E (Pt E E (QB E (Pt E E (QB E (Pt E E ?_))))))))));obtain ⟨x1,hx2,h23637⟩:=Qh h23637;obtain ⟨_,_,hA5,hr1,_,hc5⟩:=Rds.getI (Own.rds (L:=([(g1,.cells #[.int .i64 p1.Road.Nodes,.slice A1 p1.Road.Edges.length c1,.slice A2 p1.Vehicles.length c2,.slice A3 p1.Demands.length c3,.int .i64 p1.Unload,.int .i64 p1.UnloadSecs] 28 (0,0))]::[(g2,.cells #[.slice none 0 0,.slice none 0 0] 33 (0,0))]::ch4::[(g4,.cells #[.slice none 0 0,.slice A8 f1.length c8] 33 (0,0))]::ch5::[(g5,.cells #[.int .i64 f2,.slice A9 f3.length c9] 51 (0,0))]::L)) hO4 2 rfl) hx2;obtain ⟨A10,c10,rfl,hl5,hA6⟩:=hr1;refine Ji E E E E E E ⟨(QD hx2).1,(QD hx2).2.1⟩ hA5 (Pt E E (ZK E E E E (Ex.mk [.int .i64 x1.Vehicle,.slice A10 x1.Stops.length c10] ⟨rfl,hc5⟩ (Pt E E (QB E (QI E (Z0 ?_)))))));refine Qlk QQ (a:=6) (b:=10) (by kernel_rfl) ?_ ?_
        ·refine FO_ E E (Qaa (all:=[.agg #[.int .i64 p1.Road.Nodes,.slice A1 p1.Road.Edges.length c1,.slice A2 p1.Vehicles.length c2,.slice A3 p1.Demands.length c3,.int .i64 p1.Unload,.int .i64 p1.UnloadSecs],.agg #[.int .i64 x1.Vehicle,.slice A10 x1.Stops.length c10],.int .i64 d1]) E E E ?_);obtain ⟨⟨r2,r3⟩,hx3,h23637⟩:=Qh h23637;replace h23637:=Qj h23637;refine VO hl1 hA1 hl2 hA2 hl3 hA3 hl5 hA6 hx3 (fun v3 A11 c11 hm_1 hl6 hA7=> ?_);replace hA1:=hA1.mono hm_1;replace hA2:=hA2.mono hm_1;replace hA3:=hA3.mono hm_1;replace hO4:=hO4.mono hm_1;replace hO5:=hO5.mono hm_1;replace hA4:=hA4.mono hm_1;replace hA6:=hA6.mono hm_1;refine ⟨Qz.refl,?_⟩;refine QI E (AN.run (fuel:=0) (listed':=[true,true,true,true,true,true,true,true,true,true,true,true,true]) QQ [(true,7),(true,8),(true,9),(false,10),(false,11),(true,12)] (by kernel_rfl) (by kernel_rfl) E (Vj E (QB E (Pt E E (Qc8 E E (Pt E E (Qc8 E E (QI E (Qac E (VJ (cs:= #[.int .i64 0,.slice none 0 0]) E E (fun g6=> ?_)))))))))));refine ⟨Qz.more (Qz.refl),?_⟩;refine QI E (Qac E (QV (vs:=[.int .i64 r2.Vehicle,.slice A11 r2.Stops.length c11]) E E E E E E (ST_ (L':=([(g6,.cells #[.int .i64 r2.Vehicle,.slice A11 r2.Stops.length c11] 51 (0,0))]::[(g1,.cells #[.int .i64 p1.Road.Nodes,.slice A1 p1.Road.Edges.length c1,.slice A2 p1.Vehicles.length c2,.slice A3 p1.Demands.length c3,.int .i64 p1.Unload,.int .i64 p1.UnloadSecs] 28 (0,0))]::[(g2,.cells #[.slice none 0 0,.slice none 0 0] 33 (0,0))]::ch4::[(g4,.cells #[.slice none 0 0,.slice A8 f1.length c8] 33 (0,0))]::ch5::[(g5,.cells #[.int .i64 f2,.slice A9 f3.length c9] 51 (0,0))]::L)) 0 0 E E E E ?_)));refine ⟨Qz.more (Qz.refl),?_⟩;refine Zh (Vj E (Qa8 E (QI E (Z0 (AN.done0 (by kernel_rfl) ?_)))));cases h23637;exact Ce E ⟨_,_,_,g6,A11,c11,rfl,fE E,sE [some 1,some 2,some 3,some 4,some 5,some 6,some 0] 7 E,(hl6),(hA7)⟩
        obtain ⟨⟨r2,r3⟩,hx3,h23637⟩:=Qh h23637;replace h23637:=Qj h23637;refine FO_ E E (VJ (cs:= #[.int .i64 0,.slice none 0 0]) E E (fun g6=> ?_));refine ⟨Qz.more (Qz.refl),?_⟩;refine QI E (AN.run (fuel:=0) (listed':=[true,true,true,true,true,true,true,true,true,true,true,true,true]) QQ [(false,6),(true,7),(true,8),(true,9),(false,11),(true,12)] (by kernel_rfl) (by kernel_rfl) E (Qac E (Qaa (all:=[.agg #[.int .i64 p1.Road.Nodes,.slice A1 p1.Road.Edges.length c1,.slice A2 p1.Vehicles.length c2,.slice A3 p1.Demands.length c3,.int .i64 p1.Unload,.int .i64 p1.UnloadSecs],.agg #[.int .i64 x1.Vehicle,.slice A10 x1.Stops.length c10],.int .i64 d1]) E E E (VO hl1 hA1 hl2 hA2 hl3 hA3 hl5 hA6 hx3 (fun v3 A11 c11 hm_1 hl6 hA7=> ?_)))));replace hA1:=hA1.mono hm_1;replace hA2:=hA2.mono hm_1;replace hA3:=hA3.mono hm_1;replace hO4:=hO4.mono hm_1;replace hO5:=hO5.mono hm_1;replace hA4:=hA4.mono hm_1;refine ⟨Qz.more (Qz.refl),?_⟩;refine Pt E E (QB E (Pt E E (Qc8 E E (Pt E E (Qc8 E E (QI E (Qac E (QV (vs:=[.int .i64 r2.Vehicle,.slice A11 r2.Stops.length c11]) E E E E E E (ST_ (L':=([(g6,.cells #[.int .i64 r2.Vehicle,.slice A11 r2.Stops.length c11] 51 (0,0))]::[(g1,.cells #[.int .i64 p1.Road.Nodes,.slice A1 p1.Road.Edges.length c1,.slice A2 p1.Vehicles.length c2,.slice A3 p1.Demands.length c3,.int .i64 p1.Unload,.int .i64 p1.UnloadSecs] 28 (0,0))]::[(g2,.cells #[.slice none 0 0,.slice none 0 0] 33 (0,0))]::ch4::[(g4,.cells #[.slice none 0 0,.slice A8 f1.length c8] 33 (0,0))]::ch5::[(g5,.cells #[.int .i64 f2,.slice A9 f3.length c9] 51 (0,0))]::L)) 0 0 E E E E ?_)))))))));refine ⟨Qz.more (Qz.refl),?_⟩;refine Zh (Vj E (Qa8 E (QI E (Z0 (AN.done0 (by kernel_rfl) ?_)))));cases h23637;exact Ce E ⟨_,_,_,g6,A11,c11,rfl,fE E,sE [some 1,some 2,some 3,some 4,some 5,some 6,some 0] 7 E,(hl6),(hA7)⟩
       rintro _ _ _ _ h23613 hm23637 ⟨f4,f5,e1,g7,A12,c12,rfl,hF23637,hS23637,hl7,hA8⟩;replace h23613:=Qj h23613;replace h23613:=Qj h23613;replace hA1:=hA1.mono hm23637;replace hA2:=hA2.mono hm23637;replace hA3:=hA3.mono hm23637;replace hO4:=hO4.mono hm23637;replace hO5:=hO5.mono hm23637;replace hA4:=hA4.mono hm23637;refine Atn 7 hF23637 hS23637 E E (G0 6 E ?_);refine Br h23613 62 E E (fun hc6 h23613=> ?_) (fun hc6 h23613=> ?_)
       ·refine G2 2 [62] [] [] E ?_;cases h23613;exact Ce E ⟨_,_,_,_,A9,c9,rfl,fE E,sE [some 0,some 1,some 2,some 3,some 4,some 5] 7 E,(hl4),(hA4)⟩
       refine G2 6 [] [62] [0,6] E (Cl E ?_);obtain ⟨⟨_,_⟩,hx4,h23613⟩:=Qh h23613;replace h23613:=Qj h23613;refine WR hl1 hA1 hl2 hA2 hl3 hA3 hl7 hA8 hx4 ((Q0 7 E (Dr _ Qz.refl [(true,0),(true,1),(true,2),(true,3),(true,4),(false,5),(true,6),(true,7),(true,8),(true,9),(true,10)] (by kernel_rfl) (G1 3 [0] E (Ix h23613 (Own.rds (L:=([(g1,.cells #[.int .i64 p1.Road.Nodes,.slice A1 p1.Road.Edges.length c1,.slice A2 p1.Vehicles.length c2,.slice A3 p1.Demands.length c3,.int .i64 p1.Unload,.int .i64 p1.UnloadSecs] 28 (0,0))]::[(g2,.cells #[.slice none 0 0,.slice none 0 0] 33 (0,0))]::ch4::[(g4,.cells #[.slice none 0 0,.slice A8 f1.length c8] 33 (0,0))]::ch5::[(g5,.cells #[.int .i64 f2,.slice A9 f3.length c9] 51 (0,0))]::[(g7,.cells #[.int .i64 f4,.slice A12 f5.length c12] 51 (0,0))]::L)) hO4 2 E) E E fun _ _ _ _ hr2 hc7 _ h23613=> ?_)))));obtain ⟨_,_,rfl,hl8,hA10⟩:=hr2;refine Q3 1 [] [] [64] (Z1 hc7) E (Cl E ?_);obtain ⟨⟨_,_⟩,hx6,h23613⟩:=Qh h23613;replace h23613:=Qj h23613;refine WR hl1 hA1 hl2 hA2 hl3 hA3 hl8 hA10 hx6 (?_);refine ⟨Qz.refl,?_⟩;refine Q0 7 E ?_;refine Cut h23613 (fun f l o_ f_ μ_ l_=> ∃(v4:Bool),v4=o_∧Qg ((86,.bool v4)::Qk [1,2,5,7,8,9,10,11,12,13,15,17] f) f_∧Qd l l_) ?_ ?_
       ·intro _ h23695 h23613;refine G0 4 E ?_;refine Br h23695 80 E E (fun hc8 h23695=> ?_) (fun hc8 h23695=> ?_)
        ·refine G2 7 [80] [] [] E ?_;cases h23695;exact Ce E ⟨_,rfl,fE E,sE [some 0,some 1,some 2,some 3,some 4,some 5,some 6] 7 E⟩
        refine G2 7 [] [80] [] E ?_;cases h23695;exact Ce E ⟨_,rfl,fE E,sE [some 0,some 1,some 2,some 3,some 4,some 5,some 6] 7 E⟩
       rintro _ _ _ _ h23613 hm23695 ⟨v4,rfl,hF23695,hS23695⟩;replace hO4:=hO4.mono hm23695;replace hO5:=hO5.mono hm23695;replace hA4:=hA4.mono hm23695;replace hA8:=hA8.mono hm23695;refine Atn 7 hF23695 hS23695 E E ?_;refine Br h23613 86 E E (fun hc9 h23613=> ?_) (fun hc9 h23613=> ?_)
       ·refine G2 18 [86] [] [6,5] E ?_;cases h23613;exact Ce E ⟨_,_,_,_,A12,c12,rfl,fE E,sE [some 0,some 1,some 2,some 3,some 4,some 5] 7 E,(hl7),(hA8)⟩
       refine G2 3 [] [86] [] E ?_;cases h23613;exact Ce E ⟨_,_,_,_,A9,c9,rfl,fE E,sE [some 0,some 1,some 2,some 3,some 4,some 5] 7 E,(hl4),(hA4)⟩
      rintro _ _ _ _ hb23598 hm23613 ⟨f_at2,least2,f6,f7,A14,c14,rfl,hF23613,hS23613,hl9,hA11⟩;replace hb23598:=Qj hb23598;replace hb23598:=Qj hb23598;replace hb23598:=Qj hb23598;replace hO4:=hO4.mono hm23613;replace hO5:=hO5.mono hm23613;replace hA4:=hA4.mono hm23613;refine Atn 6 hF23613 hS23613 E E (G0 5 E ?_);cases hb23598;exact Ce E ⟨_,rfl,A14,c14,fE E,sE [some 0,some 1,some 2,some 3,some 4,some 5] 6 E,(hl9),(hA11)⟩
     refine G2 2 [] [48] [] E ?_;cases hb23598;have hq_:=hq23598 _ E;subst hq_;exact Ce E ⟨_,_,_,A9,c9,rfl,fE E,sE [some 0,some 1,some 2,some 3,some 4,some 5] 6 E,(hl4),(hA4)⟩
    rintro _ _ μ23481 _ h23478 hm23481 ⟨f_at3,f8,f9,A15,c15,rfl,hF23481,hS23481,hl10,hA12⟩;replace h23478:=Qj h23478;replace h23478:=Qj h23478;replace hO4:=hO4.mono hm23481;replace hO5:=hO5.mono hm23481;refine Atn 6 hF23481 hS23481 E E (G0 5 E ?_);refine Br h23478 93 E E (fun hc10 h23478=> ?_) (fun hc10 h23478=> ?_)
    ·refine G2 5 [93] [] [3] E (So E (YP (z:=[.int .i64 0]) E E E E E E E (QP (cells':=[.int .i64 d1]) E E E E (Yx (fun g8=>Q0 0 E (So E (Q6 E ?_)))))));obtain ⟨_,hz2,h23478⟩:=Qh h23478;refine Q8 (r:=QG) QQ E E E E (by decide) E E 5 E hO5 E (Own.rds (Own.lit (r:=QG) (e:=3) (g:=g8) (xs:=[d1]) (cs:=[.int .i64 d1]) (css:=[[.int .i64 d1]]) E (All2.cons (E) (All2.nil)) E E) 0 E) hz2 fun A16 c16 ch6 hO6=>Q1 4 [4] E ?_;cases h23478;exact Ce E ⟨_,_,A7,c7,ch4,A16,c16,ch6,rfl,fE E,sE [some 1,some 2,some 3,some 4,some 5] 7 E,(hO4),(hO6)⟩
    refine G2 5 [] [93] [5] E (IxA h23478 (Own.rds hO4 2 E) E E fun _ a3 _ hx7 hr3 _ hA13 h23478=> ?_);obtain ⟨_,_,rfl,_,_⟩:=hr3;refine Q0 0 E (So E (QV (vs:=[.int .i64 f8,.slice A15 f9.length c15]) E E E E E E ?_))
    rw[←Addr.add_zero' ((a3.add (f_at3.toNat*2)))]
    refine Own.store (μ:=μ23481) (r:=Qp) (x':=(Qa.mk f8 f9)) (o:=0) (sz:=2) 2 rfl hO4 hA13 hx7 rfl rfl (by rintro _ ⟨A18,c18,rfl,hl12,hA15⟩;exact ⟨A15,c15,rfl,hl10,hA12⟩) fun ch7 hO7=> ?_
    rw[←QW tours3 f_at3 (Qa.mk f8 f9)] at hO7 ⊢
    refine Q0 2 E ?_;cases h23478;exact Ce E ⟨_,_,A7,c7,ch7,A8,c8,ch5,rfl,fE E,sE [some 0,some 1,some 2,some 3,some 4] 6 E,(hO7),(hO5)⟩
   rintro _ _ _ _ hb23465 hm23478 ⟨tours4,f10,A19,c19,ch8,A20,c20,ch9,rfl,hF23478,hS23478,hO8,hO9⟩;replace hb23465:=Qj hb23465;replace hO4:=hO4.mono hm23478;replace hO5:=hO5.mono hm23478;refine Atn 5 hF23478 hS23478 E E (G0 5 E ?_);cases hb23465;exact Ce E ⟨_,rfl,A19,c19,ch8,A20,c20,ch9,fE E,sE [some 0,some 1,some 2,some 3,some 4] 5 E,(hO8),(hO9)⟩
  refine G2 2 [] [42] [] E ?_;cases hb23465;have hq_:=hq23465 _ E;subst hq_;exact Ce E ⟨_,_,A7,c7,ch4,A8,c8,ch5,rfl,fE E,sE [some 1,some 2,some 3,some 4] 5 E,(hO4),(hO5)⟩
 rintro _ _ _ _ h hm23212 ⟨tours5,f11,A21,c21,ch10,A22,c22,ch11,rfl,hF23212,hS23212,hO10,hO11⟩;replace h:=Qj h;refine Atn 4 hF23212 hS23212 E E (G0 5 E ?_);refine Cut h (fun f l o_ f_ μ_ l_=> ∃(f14:(List Qa)) (A28:Option Addr) (c28:Nat) (ch15:Seg),f14=o_∧Qg (Qk [2,7] f) f_∧Qd ([(g2,.cells #[.slice none 0 0,.slice none 0 0] 33 (0,0))]::[(g4,.cells #[.slice A28 f14.length c28,.slice A22 f11.length c22] 33 (0,0))]::ch15::QC [] 3 l) l_∧Own Qp 51 μ_ (.slice A28 f14.length c28) f14 ch15) ?_ ?_
 ·intro _ h23749 h;refine Lp h23749 (fun f l (j_:(List Qa)×Int) f_ μ_ l_=>Yk j_ fun f12 v5=> ∃(A23:Option Addr) (c23:Nat) (ch12:Seg),Qg ((19,.int .i64 v5)::Qk [2,5,7] f) f_∧Qd ([(g2,.cells #[.slice none 0 0,.slice none 0 0] 33 (0,0))]::ch10::[(g4,.cells #[.slice A23 f12.length c23,.slice A22 f11.length c22] 33 (0,0))]::ch12::QC [] 3 l) l_∧Own Qp 51 μ_ (.slice A23 f12.length c23) f12 ch12) ⟨none,0,[],fE E,sE [some 0,some 1,some 2,none,some 3] 4 E,(Own.nil)⟩ ?_;rintro ⟨f12,v5⟩ _ _ _ _ hm23803 ⟨A23,c23,ch12,hF23803,hS23803,hO12⟩ hb23803 hq23803;unfold ZJ at hb23803;replace hb23803:=Qj hb23803;replace hO10:=hO10.mono hm23803;replace hO11:=hO11.mono hm23803;refine Atn 5 hF23803 hS23803 E E (G0 8 E ?_);refine Br hb23803 107 E E (fun hc12 hb23803=> ?_) (fun hc12 hb23803=> ?_)
  ·refine G2 3 [107] [] [] E ?_;refine Cut hb23803 (fun f l o_ f_ μ_ l_=> ∃(f13:(List Qa)) (A27:Option Addr) (c27:Nat) (ch14:Seg),f13=o_∧Qg (Qk [2,5,7,19] f) f_∧Qd ([(g2,.cells #[.slice none 0 0,.slice none 0 0] 33 (0,0))]::ch10::[(g4,.cells #[.slice A27 f13.length c27,.slice A22 f11.length c22] 33 (0,0))]::ch14::QC [] 4 l) l_∧Own Qp 51 μ_ (.slice A27 f13.length c27) f13 ch14) ?_ ?_
   ·intro _ h23812 hb23803;refine G0 5 E (IxA h23812 (Own.rds hO10 1 E) E E fun _ _ _ _ hr4 hc13 _ h23812=> ?_);obtain ⟨_,_,rfl,_,_⟩:=hr4;refine Q3 5 [] [] [65] (Z1 hc13) E ?_;refine Br h23812 116 E E (fun hc14 h23812=> ?_) (fun hc14 h23812=> ?_)
    ·refine G2 1 [116] [] [] E (Cd (WP.drawB (id:=34) (l':=List.replicate 9 true++[false]) QdA QQ ([(g2,.cells #[.slice none 0 0,.slice none 0 0] 33 (0,0))]::ch10::[(g4,.cells #[.slice A23 f12.length c23,.slice A22 f11.length c22] 33 (0,0))]::ch11::L) (Kp [0,1,2,4] 5 E) 9 [] [(true,0),(true,1),(true,2),(true,3),(true,4),(true,5),(false,6),(false,7),(true,8)] (by kernel_rfl) (by kernel_rfl) [] E (by kernel_rfl) (by kernel_rfl) (Vj E (Wp (o':=0) E E E E E E (Pt E E (JD E E E (Ex.mk _ (Wo.seg 2 0 E E E) (Pt E E (QB E (Pt E E (QB E (Pt E E ?_))))))))))));obtain ⟨x5,hx9,h23812⟩:=Qh h23812;obtain ⟨_,_,hA18,hr5,_,hc15⟩:=Rds.getI (Own.rds (L:=([(g2,.cells #[.slice none 0 0,.slice none 0 0] 33 (0,0))]::ch10::[(g4,.cells #[.slice A23 f12.length c23,.slice A22 f11.length c22] 33 (0,0))]::ch11::L)) hO10 1 rfl) hx9;obtain ⟨A25,c25,rfl,hl14,hA19⟩:=hr5;refine Ji E E E E E E ⟨(QD hx9).1,(QD hx9).2.1⟩ hA18 (Pt E E (ZK E E E E (Ex.mk [.int .i64 x5.Vehicle,.slice A25 x5.Stops.length c25] ⟨rfl,hc15⟩ (QI E (Qac E (YP (z:=[.int .i64 0,.slice none 0 0]) E E E E E E E (QP (cells':=[.int .i64 x5.Vehicle,.slice A25 x5.Stops.length c25]) E E E E (Yx (fun g9=> ?_)))))))));refine ⟨Kp [1,2,3,5] 6 E,?_⟩;refine QI E (Qac E (Q6 E ?_));obtain ⟨l3,hz3,h23812⟩:=Qh h23812;refine Q8 (r:=Qp) QQ E E E E (by decide) E E 4 E hO12 E (Own.rds (Own.lit (r:=Qp) (e:=51) (g:=g9) (xs:=[x5]) (cs:=[.int .i64 x5.Vehicle,.slice A25 x5.Stops.length c25]) (css:=[[.int .i64 x5.Vehicle,.slice A25 x5.Stops.length c25]]) E (All2.cons (⟨A25,c25,E,hl14,hA19⟩) (All2.nil)) E E) 0 E) hz3 fun A26 c26 ch13 hO13=> ?_;refine ⟨Kp [1,2,3,5] 6 E,?_⟩;refine Pt E E (Wp (o':=0) E E E E E E (QI E (Z0 (QcN E (QV (vs:=[.slice A26 l3.length c26]) E E E E E E (ST_ (L':=([(g9,.cells #[.int .i64 x5.Vehicle,.slice A25 x5.Stops.length c25] 51 (0,0))]::[(g2,.cells #[.slice none 0 0,.slice none 0 0] 33 (0,0))]::ch10::[(g4,.cells #[.slice A26 l3.length c26,.slice A22 f11.length c22] 33 (0,0))]::ch13::ch11::L)) 3 0 E E E E (Zh (G0 1 E ?_))))))));cases h23812;exact Ce E ⟨_,A26,c26,ch13,rfl,fE E,sE [some 1,some 2,some 3,some 4,some 5] 6 E,(hO13)⟩
    refine G2 3 [] [116] [] E ?_;cases h23812;exact Ce E ⟨_,A23,c23,ch12,rfl,fE E,sE [some 0,some 1,some 2,some 3,some 4] 5 E,(hO12)⟩
   rintro _ _ _ _ hb23803 hm23812 ⟨f13,A27,c27,ch14,rfl,hF23812,hS23812,hO14⟩;replace hO11:=hO11.mono hm23812;replace hO12:=hO12.mono hm23812;refine Atn 5 hF23812 hS23812 E E (G0 5 E ?_);cases hb23803;exact Ce E ⟨_,rfl,A27,c27,ch14,fE E,sE [some 0,some 1,some 2,some 3,some 4] 5 E,(hO14)⟩
  refine G2 2 [] [107] [] E ?_;cases hb23803;have hq_:=hq23803 _ E;subst hq_;exact Ce E ⟨_,A23,c23,ch12,rfl,fE E,sE [some 0,some 2,some 3,some 4] 5 E,(hO12)⟩
 rintro _ _ _ _ h hm23749 ⟨f14,A28,c28,ch15,rfl,hF23749,hS23749,hO15⟩;replace hO11:=hO11.mono hm23749;refine Atn 4 hF23749 hS23749 E E (G1 6 [1,0] E ?_);cases h;refine Rt [0] E E ?_;have hl15:=Own.lenOk hO15;refine Upd.frzOwn 2 E hO15 fun _ hm_2 hA20=> ?_;replace hO11:=hO11.mono hm_2;have hl16:=Own.lenOk hO11;refine Upd.frzOwn 3 E hO11 fun _ hm_3 hA21=> ?_;replace hA20:=hA20.mono hm_3;exact (Ug [] 4 (hR _ A28 c28 A22 c22 (hm23178.trans (hm23212.trans (hm23749.trans (hm_2.trans hm_3)))) hl15 hA20 hl16 hA21))
theorem QdU {F:Nat} {p1:Qe} {A1:Option Addr} {c1:Nat} {A2:Option Addr} {c2:Nat} {A3:Option Addr} {c3:Nat} {res1:Qf} {res2:Int}
  (hl1:p1.Road.Edges.length≤c1∧c1≤maxLen) (hA1:Qr QE μ A1 p1.Road.Edges) (hl2:p1.Vehicles.length≤c2∧c2≤maxLen) (hA2:Qr Qw μ A2 p1.Vehicles) (hl3:p1.Demands.length≤c3∧c3≤maxLen) (hA3:Qr QA μ A3 p1.Demands) (h:Z4 F p1=some (res1,res2))
  (hR: ∀(μ':Gh) (A0_0:Option Addr) (c0_0:Nat) (A0_1:Option Addr) (c0_1:Nat),μ.le μ'→(res1.Tours.length≤c0_0∧c0_0≤maxLen)→Qr Qp μ' A0_0 res1.Tours→(res1.Left.length≤c0_1∧c0_1≤maxLen)→Qr QG μ' A0_1 res1.Left→R (.tuple #[.agg #[.slice A0_0 res1.Tours.length c0_0,.slice A0_1 res1.Left.length c0_1],.int .i64 res2]) μ' (L)) :
  Fn Tryz.prog 14 [.agg #[.int .i64 p1.Road.Nodes,.slice A1 p1.Road.Edges.length c1,.slice A2 p1.Vehicles.length c2,.slice A3 p1.Demands.length c3,.int .i64 p1.Unload,.int .i64 p1.UnloadSecs]] μ (L) R:=by
 unfold Z4 at h;refine FnS Tryz.func14 (by kernel_rfl) E Tryz.ntmps14 E E ?_;refine G0 2 E (Al E fun g1=>Q0 0 E (Al E fun g2=>Q1 5 [1] E (Cl E ?_)));obtain ⟨⟨_,_⟩,hx1,h⟩:=Qh h;replace h:=Qj h;refine Qdr hl1 hA1 hl2 hA2 hl3 hA3 hx1 (fun _ A4 c4 A5 c5 hm_1 hl4 hA4 hl5 hA5=> ?_);replace hA1:=hA1.mono hm_1;replace hA2:=hA2.mono hm_1;replace hA3:=hA3.mono hm_1;refine Q0 3 E (Al E fun g3=>Q1 9 [0] E ?_);refine Br h 14 E E (fun hc1 h=> ?_) (fun hc1 h=> ?_)
 ·refine G2 8 [14] [] [1] E ?_;cases h;exact Rt [1] E E (Ug [] 3 (hR _ none 0 none 0 hm_1 ⟨Nat.le_refl _,Nat.zero_le _⟩ Qr.nil ⟨Nat.le_refl _,Nat.zero_le _⟩ Qr.nil))
 refine G2 2 [] [14] [] E ?_;refine Cut h (fun _ _ _ _ _ _=>False) ?_ ?_
 ·intro _ h25851 h;refine Lp h25851 (fun f l (j_:(List Qa)×(List Int)) f_ μ_ l_=>Yk j_ fun f1 f2=> ∃(A6:Option Addr) (c6:Nat) (A7:Option Addr) (c7:Nat),Qg (Qk [1,2,4] f) f_∧Qd ([(g1,.cells #[.int .i64 p1.Road.Nodes,.slice A1 p1.Road.Edges.length c1,.slice A2 p1.Vehicles.length c2,.slice A3 p1.Demands.length c3,.int .i64 p1.Unload,.int .i64 p1.UnloadSecs] 28 (0,0))]::[(g2,.cells #[.slice none 0 0,.slice none 0 0] 33 (0,0))]::[(g3,.cells #[.slice A6 f1.length c6,.slice A7 f2.length c7] 33 (0,0))]::QC [] 3 l) l_∧(f1.length≤c6∧c6≤maxLen)∧Qr Qp μ_ A6 f1∧(f2.length≤c7∧c7≤maxLen)∧Qr QG μ_ A7 f2) ⟨A4,c4,A5,c5,fE E,sE [some 2,some 1,some 0] 3 E,(hl4),(hA4),(hl5),(hA5)⟩ ?_;rintro ⟨f1,f2⟩ _ _ _ _ hm25874 ⟨A6,c6,A7,c7,hF25874,hS25874,hl6,hA6,hl7,hA7⟩ hb25874 hq25874;unfold JL at hb25874;replace hb25874:=Qj hb25874;replace hA1:=hA1.mono hm25874;replace hA2:=hA2.mono hm25874;replace hA3:=hA3.mono hm25874;refine Atn 3 hF25874 hS25874 E E (G1 5 [0,2] E (Cl E ?_));obtain ⟨⟨_,_⟩,hx2,hb25874⟩:=Qh hb25874;replace hb25874:=Qj hb25874;refine Qdt hl1 hA1 hl2 hA2 hl3 hA3 hl6 hA6 hl7 hA7 hx2 (fun _ _ _ _ hm_2 hO1=> ?_);replace hA6:=hA6.mono hm_2;replace hA7:=hA7.mono hm_2;refine Q0 8 E ?_;refine Cut hb25874 (fun f l o_ f_ μ_ l_=> ∃(v3:Bool),v3=o_∧Qg ((29,.bool v3)::Qk [1,2,4,6,7] f) f_∧Qd (QC [some 1,some 2,some 3,some 0] 4 l) l_) ?_ ?_
  ·intro _ h25889 hb25874;refine G0 4 E ?_;refine Br h25889 25 E E (fun hc2 h25889=> ?_) (fun hc2 h25889=> ?_)
   ·refine G2 5 [25] [] [] E ?_;cases h25889;exact Ce E ⟨_,rfl,fE E,sE [some 1,some 2,some 3,some 0] 4 E⟩
   refine G2 5 [] [25] [] E ?_;cases h25889;exact Ce E ⟨_,rfl,fE E,sE [some 1,some 2,some 3,some 0] 4 E⟩
  rintro _ _ _ _ hb25874 hm25889 ⟨v3,rfl,hF25889,hS25889⟩;replace hA6:=hA6.mono hm25889;replace hA7:=hA7.mono hm25889;replace hO1:=hO1.mono hm25889;refine Atn 4 hF25889 hS25889 E E ?_;refine Br hb25874 29 E E (fun hc3 hb25874=> ?_) (fun hc3 hb25874=> ?_)
  ·refine G2 8 [29] [] [2,1] E ?_;cases hb25874;have hq_:=hq25874 _ E;subst hq_;cases h;exact Rt [1] E E (Ug [] 4 (hR _ A6 c6 A7 c7 (hm_1.trans (hm25874.trans (hm_2.trans hm25889))) hl6 hA6 hl7 hA7))
  refine G2 4 [] [29] [] E (IxA hb25874 (Own.rds hO1 3 E) E E fun _ _ _ _ hr1 hc4 _ hb25874=> ?_);obtain ⟨A9,c9,A10,c10,rfl,hl8,hA9,hl9,hA10⟩:=hr1;refine Q3 4 [] [] [64,2] (Z1 hc4) E ?_;cases hb25874;exact Ce E ⟨_,rfl,A9,c9,A10,c10,fE E,sE [some 0,some 1,some 2] 4 E,(hl8),(hA9),(hl9),(hA10)⟩
 exact fun _ _ _ _ _ _ hf_=>hf_.elim
theorem Qbq {F:Nat} {p1:Qe} {A1:Option Addr} {c1:Nat} {A2:Option Addr} {c2:Nat} {A3:Option Addr} {c3:Nat} {res1:Bool}
  (hl1:p1.Road.Edges.length≤c1∧c1≤maxLen) (hA1:Qr QE μ A1 p1.Road.Edges) (hl2:p1.Vehicles.length≤c2∧c2≤maxLen) (hA2:Qr Qw μ A2 p1.Vehicles) (hl3:p1.Demands.length≤c3∧c3≤maxLen) (hA3:Qr QA μ A3 p1.Demands) (h:Zi F p1=some res1)
  (hR: ∀(μ':Gh) ,μ.le μ'→R (.bool res1) μ' (L)) :
  Fn Tryz.prog 3 [.agg #[.int .i64 p1.Road.Nodes,.slice A1 p1.Road.Edges.length c1,.slice A2 p1.Vehicles.length c2,.slice A3 p1.Demands.length c3,.int .i64 p1.Unload,.int .i64 p1.UnloadSecs]] μ (L) R:=by
 unfold Zi at h;refine FnS Tryz.func3 (by kernel_rfl) E Tryz.ntmps3 E E ?_;refine G0 2 E (Al E fun _=>Q1 7 [0] E (Cl E ?_));obtain ⟨_,hx1,h⟩:=Qh h;refine Qds hl1 hA1 hl2 hA2 hl3 hA3 ⟨Nat.le_refl _,Nat.zero_le _⟩ Qr.nil ⟨Nat.le_refl _,Nat.zero_le _⟩ Qr.nil hx1 ((Q0 1 E ?_));refine Br h 9 E E (fun hc1 h=> ?_) (fun hc1 h=> ?_)
 ·refine G2 3 [9] [] [] E (Cl E ?_);obtain ⟨_,hx2,h⟩:=Qh h;refine QaW  hx2 (fun _ hm_1=> ?_);replace hA1:=hA1.mono hm_1;replace hA2:=hA2.mono hm_1;replace hA3:=hA3.mono hm_1;refine Q0 2 E ?_;cases h;exact Rt [] E E (Ug [] 1 (hR _ hm_1))
 refine G2 5 [] [9] [0] E (Cl E ?_);obtain ⟨⟨_,_⟩,hx3,h⟩:=Qh h;replace h:=Qj h;refine QbA hl1 hA1 hl2 hA2 hl3 hA3 hx3 (fun _ _ _ _ _ hm_2 hl4 hA4 hl5 hA5=> ?_);replace hA1:=hA1.mono hm_2;replace hA2:=hA2.mono hm_2;replace hA3:=hA3.mono hm_2;refine Q0 3 E (Al E fun _=>Q1 6 [0,1] E (Cl E ?_));obtain ⟨⟨_,_⟩,hx4,h⟩:=Qh h;replace h:=Qj h;refine QdU hl1 hA1 hl2 hA2 hl3 hA3 hx4 (fun _ _ _ _ _ hm_3 hl6 hA6 hl7 hA7=> ?_);replace hA4:=hA4.mono hm_3;replace hA5:=hA5.mono hm_3;refine Q0 3 E (Al E fun _=>Q1 4 [0] E ?_);refine Cut h (fun f l o_ f_ μ_ l_=> ∃(v5:Bool),v5=o_∧Qg ((2,.bool v5)::[]) f_∧Qd (QC [] 3 l) l_) ?_ ?_
 ·intro _ h25925 h;refine G1 3 [1,0] E (Cl E ?_);obtain ⟨_,hx5,h25925⟩:=Qh h25925;refine WS hl4 hA4 hl5 hA5 hl6 hA6 hl7 hA7 hx5 ((Q0 1 E ?_));refine Br h25925 24 E E (fun hc2 h25925=> ?_) (fun hc2 h25925=> ?_)
  ·refine G2 5 [24] [] [] E ?_;refine Br h25925 29 E E (fun hc3 h25925=> ?_) (fun hc3 h25925=> ?_)
   ·refine Cl E ?_;obtain ⟨_,hx6,h25925⟩:=Qh h25925;refine QaW  hx6 (fun _ _=> ?_);refine Q2 3 [29] [] [] E ?_;cases h25925;exact Ce E ⟨_,rfl,fE E,sE [] 3 E⟩
   refine G2 4 [] [29] [] E ?_;cases h25925;exact Ce E ⟨_,rfl,fE E,sE [] 3 E⟩
  refine G2 9 [] [24,29] [] E ?_;cases h25925;exact Ce E ⟨_,rfl,fE E,sE [] 3 E⟩
 rintro _ _ _ _ h hm25925 ⟨v5,rfl,hF25925,hS25925⟩;refine Atn 0 hF25925 hS25925 E E ?_;cases h;exact Rt [] E E (Ug [] 0 (hR _ (hm_2.trans (hm_3.trans hm25925))))
end Go.Proofs.YthpgjbbjpfiniaaGreat
namespace Go.Proofs.YthpgjbbjpfiniaaGreat
set_option linter.unusedSimpArgs false
set_option linter.unusedVariables false
theorem Qf2 {τ ρ:Type} {body:τ→Option (τ⊕ρ)} (I:Nat→τ→ρ→Prop)
  (h: ∀n t o,I n t o→(∃t' n',body t=some (.inl t')∧n'<n∧I n' t' o)∨body t=some (.inr o)): ∀(fuel n:Nat) (t:τ) (o:ρ),I n t o→n<fuel→iter body fuel t=some o
 | 0,_,_,_,_,hm=>by omega
 | f+1,n,t,o,hI,hm=>by
  rcases h n t o hI with ⟨t',n',h1,h2,h3⟩ | h1
  ·simp only[iter,h1,Option.bind_some,QJ]
   exact Qf2 I h f n' t' o h3 (by omega)
  ·simp only[iter,h1,Option.bind_some,QJ]
theorem QgA {σ ρ:Type} {body:σ→Option (σ⊕ρ)}: ∀{n m:Nat} {s:σ} {r:ρ},iter body n s=some r→n≤m→iter body m s=some r
 | 0,_,_,_,h,_=>by cases h
 | n+1,0,_,_,_,hm=>by omega
 | n+1,m+1,s,r,h,hm=>by
  simp only[iter] at h ⊢
  cases hb:body s with
  | none=>rw[hb] at h;cases h
  | some q =>
   rw[hb] at h
   cases q with
   | inl s'=>exact QgA (n:=n) (m:=m) h (by omega)
   | inr r'=>exact h
theorem Qt {α:Type} (xs:List α) (k:Nat):getI xs (k:Int)=xs[k]? :=by simp[getI]
theorem Qnf {α:Type} {xs:List α} {k:Nat} (h:k<xs.length):getI xs (k:Int)=some xs[k]:=by rw[Qt];simp[h]
theorem Yi {n:Int} (h1: -9223372036854775808≤n) (h2:n≤9223372036854775807):w64 n=n:=QqF h1 h2
theorem Wv {k:Nat} (h:k<9223372036854775807):w64 ((k:Int)+1)=((k+1:Nat):Int):=by rw[Yi (by omega) (by omega)];omega
theorem Ym {α:Type} {xs ys:List α} (h:xs.length+ys.length≤1000000):Ja xs ys=some (xs++ys):=by simp[Ja,h]
theorem QaT {p:Prop} [Decidable p] (h:p):WO p=some ():=by simp[WO,h]
def each {α σ ρ:Type} (step:σ→α→σ⊕ρ) (fin:σ→ρ):List α→σ→ρ
 | [],s=>fin s
 | x::r,s=>match step s x with
  | .inl s'=>each step fin r s'
  | .inr o=>o
def Jp {τ ρ:Type} (o:Option ρ) (t:τ):τ⊕ρ:=match o with
 | none=> .inl t
 | some r=> .inr r
@[simp] theorem QqA {τ ρ:Type} (t:τ):Jp (none:Option ρ) t= .inl t:=rfl
@[simp] theorem QqB {τ ρ:Type} (r:ρ) (t:τ):Jp (some r) t= .inr r:=rfl
def Qqr {σ τ ρ:Type} (f:σ→τ) (q:σ⊕ρ):τ⊕ρ:=match q with
 | .inl s=> .inl (f s)
 | .inr r=> .inr r
@[simp] theorem Qrc {σ τ ρ:Type} (f:σ→τ) (s:σ):Qqr f (.inl s:σ⊕ρ)= .inl (f s):=rfl
@[simp] theorem Qrd {σ τ ρ:Type} (f:σ→τ) (r:ρ):Qqr f (.inr r:σ⊕ρ)= .inr r:=rfl
theorem Qjf {α σ τ ρ:Type} (xs:List α) (mk:σ→Int→τ) {body:τ→Option (τ⊕ρ)} (step:σ→α→σ⊕ρ) (fin:σ→ρ) (I:σ→Nat→Prop) (hn:xs.length<9223372036854775807)
  (hb: ∀(k:Nat) (x:α) (s:σ),xs[k]? =some x→I s k→body (mk s (k:Int))=some (Qqr (fun s'=>mk s' (w64 ((k:Int)+1))) (step s x))∧ ∀s',step s x= .inl s'→I s' (k+1))
  (hf: ∀s,I s xs.length→body (mk s (xs.length:Int))=some (.inr (fin s))): ∀(n:Nat) (s:σ),I s 0→xs.length<n→iter body n (mk s 0)=some (each step fin xs s):=by
 intro n s hs hlt;refine Qf2 (fun m t o=> ∃(s:σ) (k:Nat),t=mk s k∧m=xs.length-k∧k≤xs.length∧I s k∧each step fin (xs.drop k) s=o) ?_ n xs.length (mk s 0) _ ⟨s,0,rfl,by simp,Nat.zero_le _,hs,by simp⟩ hlt;rintro m _ o ⟨s,k,rfl,rfl,hk,hI,ho⟩;rcases Nat.lt_or_ge k xs.length with hlt | hge
 ·obtain ⟨h1,h2⟩:=hb k xs[k] s (by simp[hlt]) hI
  rw[List.drop_eq_getElem_cons hlt,each] at ho
  cases hs:step s xs[k] with
  | inl s' =>
   rw[hs] at h1 ho
   exact .inl ⟨_,xs.length-(k+1),h1,by omega,s',k+1,by rw[Wv (by omega)],rfl,hlt,h2 s' hs,ho⟩
  | inr o' =>
   rw[hs] at h1 ho
   exact .inr (by rw[h1];exact congrArg (fun z=>some (Sum.inr z)) ho)
 ·obtain rfl:k=xs.length:=by omega
  rw[List.drop_length] at ho
  exact .inr (by rw[hf s hI];exact congrArg (fun z=>some (Sum.inr z)) ho)
def first {α ρ:Type} (step:α→Option ρ) (fin:ρ):List α→ρ
 | []=>fin
 | x::r=>match step x with
  | none=>first step fin r
  | some o=>o
theorem QdK {α ρ:Type} (xs:List α) {body:Int→Option (Int⊕ρ)} (step:α→Option ρ) (fin:ρ) (hn:xs.length<9223372036854775807)
  (hb: ∀(k:Nat) (x:α),xs[k]? =some x→body (k:Int)=some (Jp (step x) (w64 ((k:Int)+1))))
  (hf:body (xs.length:Int)=some (.inr fin)): ∀(n:Nat),xs.length<n→iter body n 0=some (first step fin xs):=by
 intro n hlt;have:=Qjf xs (fun (_:Unit) k=>k) (body:=body) (fun _ x=>Jp (step x) ()) (fun _=>fin) (fun _ _=>True) hn
  (fun k x s hx _=>⟨by rw[hb k x hx];cases step x<;>rfl,fun _ _=>trivial⟩) (fun _ _=>hf) n () trivial hlt
 rw[this]
 congr 1
 clear this hb hf hlt hn
 induction xs with
 | nil=>rfl
 | cons x r ih =>
  simp only[each,first]
  cases step x<;>simp[ih]
end Go.Proofs.YthpgjbbjpfiniaaGreat
namespace Go.Proofs.YthpgjbbjpfiniaaGreat
set_option linter.unusedSimpArgs false
set_option linter.unusedVariables false
theorem Qv {α:Type} {l:List α} {k:Nat} {x:α} (h:l[k]? =some x):k<l.length:=by
 rcases Nat.lt_or_ge k l.length with h2 | h2
 ·exact h2
 ·rw[List.getElem?_eq_none h2] at h;cases h
theorem QmD {α:Type} {l:List α} {i:Int} (h0:0≤i) (h1:i<(l.length:Nat)): ∃x,getI l i=some x:=by
 obtain ⟨k,rfl⟩: ∃k:Nat,i=k:=⟨i.toNat,by omega⟩
 exact ⟨_,Qnf (by omega)⟩
def YL {α ρ:Type} (step:Nat→α→Option ρ) (fin:ρ):Nat→List α→ρ
 | _,[]=>fin
 | k,x::r=>match step k x with
  | none=>YL step fin (k+1) r
  | some o=>o
theorem YQ {α ρ:Type} (xs:List α) {body:Int→Option (Int⊕ρ)} (step:Nat→α→Option ρ) (fin:ρ) (hn:xs.length<9223372036854775807)
  (hb: ∀(k:Nat) (x:α),xs[k]? =some x→body (k:Int)=some (Jp (step k x) (w64 ((k:Int)+1))))
  (hf:body (xs.length:Int)=some (.inr fin)): ∀(n:Nat),xs.length<n→iter body n 0=some (YL step fin 0 xs):=by
 intro n hlt;refine Qf2 (fun m t o=> ∃k:Nat,t=(k:Int)∧m=xs.length-k∧k≤xs.length∧YL step fin k (xs.drop k)=o) ?_ n xs.length 0 _ ⟨0,rfl,by simp,Nat.zero_le _,by simp⟩ hlt;rintro m _ o ⟨k,rfl,rfl,hk,ho⟩;rcases Nat.lt_or_ge k xs.length with hlt | hge
 ·have h1:=hb k xs[k] (by simp[hlt])
  rw[List.drop_eq_getElem_cons hlt,YL] at ho
  cases hs:step k xs[k] with
  | none =>
   rw[hs] at h1 ho
   exact .inl ⟨_,xs.length-(k+1),h1,by omega,k+1,by rw[Wv (by omega)],rfl,hlt,ho⟩
  | some r =>
   rw[hs] at h1 ho
   exact .inr (by rw[h1];exact congrArg (fun z=>some (Sum.inr z)) ho)
 ·obtain rfl:k=xs.length:=by omega
  rw[List.drop_length] at ho
  exact .inr (by rw[hf];exact congrArg (fun z=>some (Sum.inr z)) ho)
theorem QY {α ρ:Type} {step:Nat→α→Option ρ} {fin:ρ}: ∀(l:List α) (k:Nat),(∀(i:Nat) (x:α),l[i]? =some x→step (k+i) x=none)→YL step fin k l=fin
 | [],_,_=>rfl
 | x::l,k,h=>by
  have h0:=h 0 x rfl
  rw[Nat.add_zero] at h0
  simp only[YL,h0]
  exact QY l (k+1) fun i y hy=>by
   have:=h (i+1) y (by simpa using hy)
   rwa [show k+(i+1)=k+1+i by omega] at this
theorem Y3 {α σ τ ρ:Type} (xs:List α) (st:Nat→σ) (mk:σ→Int→τ) {body:τ→Option (τ⊕ρ)} (step:Nat→α→Option ρ) (fin:ρ) (hn:xs.length<9223372036854775807)
  (hb: ∀(k:Nat) (x:α),xs[k]? =some x→(∀(j:Nat) (y:α),j<k→xs[j]? =some y→step j y=none)→body (mk (st k) (k:Int))=some (Jp (step k x) (mk (st (k+1)) (w64 ((k:Int)+1)))))
  (hf:(∀(j:Nat) (y:α),xs[j]? =some y→step j y=none)→body (mk (st xs.length) (xs.length:Int))=some (.inr fin)): ∀(n:Nat),xs.length<n→iter body n (mk (st 0) 0)=some (YL step fin 0 xs):=by
 intro n hlt;refine Qf2 (fun m t o=> ∃k:Nat,t=mk (st k) (k:Int)∧m=xs.length-k∧k≤xs.length∧(∀(j:Nat) (y:α),j<k→xs[j]? =some y→step j y=none)∧YL step fin k (xs.drop k)=o) ?_ n xs.length _ _ ⟨0,rfl,by simp,Nat.zero_le _,fun j y hj=>absurd hj (Nat.not_lt_zero _),by simp⟩ hlt;rintro m _ o ⟨k,rfl,rfl,hk,hno,ho⟩;rcases Nat.lt_or_ge k xs.length with hlt | hge
 ·have h1:=hb k xs[k] (by simp[hlt]) hno
  rw[List.drop_eq_getElem_cons hlt,YL] at ho
  cases hs:step k xs[k] with
  | none =>
   rw[hs] at h1 ho
   refine .inl ⟨_,xs.length-(k+1),h1,by omega,k+1,by rw[Wv (by omega)],rfl,hlt,fun j y hj hy=> ?_,ho⟩;rcases Nat.lt_or_ge j k with h | h
   ·exact hno j y h hy
   ·obtain rfl:j=k:=by omega
    rw[List.getElem?_eq_getElem hlt] at hy
    injection hy with hy;rw[←hy];exact hs
  | some r =>
   rw[hs] at h1 ho
   exact .inr (by rw[h1];exact congrArg (fun z=>some (Sum.inr z)) ho)
 ·obtain rfl:k=xs.length:=by omega
  rw[List.drop_length] at ho
  exact .inr (by rw[hf fun j y hy=>hno j y (Qv hy) hy];exact congrArg (fun z=>some (Sum.inr z)) ho)
theorem YN {α:Type} {l:List α} {k:Nat} {x:α} (hx:l[k]? =some x):l.take (k+1)=l.take k++[x]:=by rw[List.take_add_one,hx];rfl
theorem Yn {α:Type} {l:List α} {k:Nat} (h:k≤l.length):(l.take k).length=k:=by simp;omega
def QaF {α:Type} (f:α→Int) (l:List α):Int:=(l.map f).sum
@[simp] theorem QqH {α:Type} (f:α→Int):QaF f []=0:=rfl
@[simp] theorem QiB {α:Type} (f:α→Int) (x:α) (l:List α):QaF f (x::l)=f x+QaF f l:=by simp[QaF]
theorem Qcc {α:Type} (f:α→Int): ∀(a b:List α),QaF f (a++b)=QaF f a+QaF f b
 | [],b=>by simp
 | x::a,b=>by simp only[List.cons_append,QiB,Qcc f a b];omega
theorem Qg1 {α:Type} {f:α→Int} {B:Int}: ∀{l:List α},(∀x∈l,0≤f x∧f x≤B)→0≤QaF f l∧QaF f l≤l.length*B
 | [],_=>by simp
 | x::l,h=>by
  have h1:=h x (by simp);have h2:=Qg1 (l:=l) fun y hy=>h y (by simp[hy])
  rw[QiB,List.length_cons]
  have:((l.length+1:Nat):Int)*B=l.length*B+B:=by rw[Int.natCast_add,Int.add_mul];simp
  rw[this]
  omega
theorem Qii {β:Type} {k:Int} {v:β} (m:List (Int×β)):QaL k (Qdj k v m)=some v:=by
 induction m with
 | nil=>simp[Qdj,QaL]
 | cons p m ih =>
  obtain ⟨a,b⟩:=p
  by_cases h:a=k
  ·simp[Qdj,QaL,h]
  ·simp[Qdj,QaL,h,ih]
theorem QjY {β:Type} {k j:Int} {v:β} (h:j≠k) (m:List (Int×β)):QaL j (Qdj k v m)=QaL j m:=by
 induction m with
 | nil=>simp[Qdj,QaL];omega
 | cons p m ih =>
  obtain ⟨a,b⟩:=p
  by_cases h2:a=k
  ·subst h2;simp[Qdj,QaL,Ne.symm h]
  ·by_cases h3:a=j
   ·subst h3;simp[Qdj,QaL,h]
   ·simp[Qdj,QaL,h2,h3,ih]
theorem Qb6 {α ρ:Type} {step:Nat→α→Option ρ} {fin:ρ}: ∀(l:List α) (k:Nat),
  ((∀(i:Nat) (x:α),l[i]? =some x→step (k+i) x=none)∧YL step fin k l=fin) ∨
  (∃(i:Nat) (x:α) (o:ρ),l[i]? =some x∧step (k+i) x=some o∧YL step fin k l=o∧ ∀(j:Nat) (y:α),j<i→l[j]? =some y→step (k+j) y=none)
 | [],k=> .inl ⟨fun i x h=>by simp at h,rfl⟩
 | x::l,k=>by
  cases hs:step k x with
  | some o=>exact .inr ⟨0,x,o,rfl,hs,by simp[YL,hs],fun j y hj=>absurd hj (Nat.not_lt_zero _)⟩
  | none =>
   have hf:YL step fin k (x::l)=YL step fin (k+1) l:=by simp[YL,hs]
   rw[hf]
   rcases Qb6 (step:=step) (fin:=fin) l (k+1) with ⟨h1,h2⟩ | ⟨i,y,o,h1,h2,h3,h4⟩
   ·refine .inl ⟨fun i y hy=> ?_,h2⟩;cases i with
    | zero=>simp at hy;subst hy;simpa using hs
    | succ i=>have:=h1 i y (by simpa using hy);rwa [show k+1+i=k+(i+1) by omega] at this
   ·refine .inr ⟨i+1,y,o,by simpa using h1,by rwa [show k+1+i=k+(i+1) by omega] at h2,h3,fun j z hj hz=> ?_⟩;cases j with
    | zero=>simp at hz;subst hz;simpa using hs
    | succ j=>have:=h4 j z (by omega) (by simpa using hz);rwa [show k+1+j=k+(j+1) by omega] at this
theorem QcW {α:Type} [DecidableEq α]: ∀{l m:List α},l.Nodup→(∀x∈l,x∈m)→l.length≤m.length
 | [],_,_,_=>Nat.zero_le _
 | x::l,m,hn,h=>by
  rw[List.nodup_cons] at hn
  have hx:=h x (by simp);have:=QcW (l:=l) (m:=m.erase x) hn.2 fun y hy=>(List.mem_erase_of_ne (fun e=>hn.1 (by rw[←e];exact hy))).2 (h y (by simp[hy]))
  rw[List.length_erase_of_mem hx] at this
  have:0<m.length:=List.length_pos_of_mem hx
  simp only[List.length_cons]
  omega
end Go.Proofs.YthpgjbbjpfiniaaGreat
namespace Go.Proofs.YthpgjbbjpfiniaaGreat
open Go.RowKit
set_option linter.unusedSimpArgs false
set_option linter.unusedVariables false
theorem Zl (a b:Bool):(bif a then some true else some b)=some (a||b):=by cases a<;>rfl
theorem QnS (a b:Bool):(bif a then some b else some false)=some (a&&b):=by cases a<;>rfl
def QaM (r:QN) (x:QL):Prop:=0≤x.From∧x.From<r.Nodes∧0≤x.To∧x.To<r.Nodes∧x.From≠x.To∧1≤x.Meters∧x.Meters≤100000∧1≤x.Secs∧x.Secs≤100000
def Qdf (r:QN) (x:QL):Option (Unit⊕Int) :=
 bif (decide (x.From<0)||(decide (r.Nodes≤x.From)||(decide (x.To<0)||decide (r.Nodes≤x.To)))) then some (.inr 7)
 else bif (decide (x.From=x.To)||(decide (x.Meters<1)||(decide (100000<x.Meters)||(decide (x.Secs<1)||decide (100000<x.Secs))))) then some (.inr 1) else none
theorem QlC {r:QN} {x:QL} (h:Qdf r x=none):QaM r x:=by
 unfold Qdf at h
 simp only[cond_eq_ite,Bool.or_eq_true,decide_eq_true_eq] at h
 split at h
 ·cases h
 ·split at h
  ·cases h
  ·unfold QaM;omega
theorem QlD {r:QN} {x:QL} {o:Unit⊕Int} (h:Qdf r x=some o): ∃e,o= .inr e∧e≠0:=by
 unfold Qdf at h
 simp only[cond_eq_ite] at h
 split at h
 ·injection h with h;exact ⟨7,h.symm,by decide⟩
 ·split at h
  ·injection h with h;exact ⟨1,h.symm,by decide⟩
  ·cases h
theorem Qio (r:QN) (hn:r.Edges.length≤600) (n:Nat) (h:r.Edges.length<n):iter (YU r) n 0=some (YL (fun _ x=>Qdf r x) (.inl ()) 0 r.Edges):=by
 refine YQ r.Edges (fun _ x=>Qdf r x) (.inl ()) (by omega) (fun k x hx=> ?_) (by simp[YU]) n h;have hk:=Qv hx;have hk2:((k:Int)<(r.Edges.length:Nat)):=by omega
 simp only[YU,hk2,decide_true,cond_true,Qt,hx,Option.bind_some,Zl,Qdf]
 generalize (decide (x.From<0)||_)=a
 generalize (decide (x.From=x.To)||_)=b
 cases a<;>cases b<;>rfl
theorem QlN (r:QN) (hn:r.Edges.length≤600):Qbm r=some ⟨r.Nodes,r.Edges.map fun x=>⟨x.From,x.To⟩⟩:=by
 unfold Qbm;have:=Y3 (body:=VU r) r.Edges (fun k=>(r.Edges.take k).map fun x=>(⟨x.From,x.To⟩:Z7)) (fun m k=>(m,k)) (fun _ _=>none) (r.Edges.map fun x=>(⟨x.From,x.To⟩:Z7)) (by omega) (fun k x hx _=> ?_) (fun _=>by simp[VU,oun]) (((r.Edges.length:Nat):Int).toNat+1) (by simp)
 ·rw[show ((r.Edges.take 0).map fun x=>(⟨x.From,x.To⟩:Z7))=[] by simp] at this
  rw[this,QY _ _ (fun _ _ _=>rfl)]
  rfl
 ·have hk:=Qv hx;have hk2:((k:Int)<(r.Edges.length:Nat)):=by omega
  simp only[VU,oun,hk2,decide_true,cond_true,Qt,hx,Option.bind_some]
  rw[Ym (by simp;omega)]
  simp[YN hx,Jp]
theorem Qoa (r:QN) (hn:r.Edges.length≤512) (h1:1≤r.Nodes) (h2:r.Nodes≤64) (ho: ∀x∈r.Edges,QaM r x):QbN ⟨r.Nodes,r.Edges.map fun x=>⟨x.From,x.To⟩⟩=some 0:=by
 unfold QbN;have:=YQ (body:=Qaf ⟨r.Nodes,r.Edges.map fun x=>⟨x.From,x.To⟩⟩) (r.Edges.map fun x=>(⟨x.From,x.To⟩:Z7)) (fun _ _=>none) (.inl ():Unit⊕Int) (by simp;omega) (fun k x hx=> ?_) (by simp[Qaf]) ((((r.Edges.map fun x=>(⟨x.From,x.To⟩:Z7)).length:Nat):Int).toNat+1) (by simp)
 ·rw[QY _ _ (fun _ _ _=>rfl)] at this
  simp only[Zl,Option.bind_some]
  rw[show (decide (r.Nodes<0)||decide (64<r.Nodes))=false by simp;omega]
  simp only[cond_false]
  rw[show decide ((512:Int)<(((r.Edges.map fun x=>(⟨x.From,x.To⟩:Z7)).length:Nat):Int))=false by simp;omega]
  simp only[cond_false,this,Option.bind_some,QJ]
 ·have hk:=Qv hx;have hk2:((k:Int)<((r.Edges.map fun x=>(⟨x.From,x.To⟩:Z7)).length:Nat)):=by omega
  obtain ⟨y,hy,rfl⟩: ∃y,r.Edges[k]? =some y∧(⟨y.From,y.To⟩:Z7)=x:=by
   rw[List.getElem?_map] at hx
   cases hq:r.Edges[k]? with
   | none=>rw[hq] at hx;cases hx
   | some y=>rw[hq] at hx;injection hx with hx;exact ⟨y,rfl,hx⟩
  have hok:=ho y (List.mem_of_getElem? hy)
  simp only[Qaf,hk2,decide_true,cond_true,Qt,hx,Option.bind_some,Zl]
  unfold QaM at hok
  rw[show (decide (y.From<0)||(decide (r.Nodes≤y.From)||(decide (y.To<0)||decide (r.Nodes≤y.To))))=false by simp;omega]
  rfl
def QcQ (r:QN):Int:=bif (decide (r.Nodes<1)||decide (64<r.Nodes)) then 1 else bif decide ((512:Int)<(r.Edges.length:Nat)) then 8 else
 match YL (fun _ x=>Qdf r x) (.inl ()) 0 r.Edges with | .inl _=>0 | .inr e=>e
theorem Qak (r:QN) (hn:r.Edges.length≤600):Jr r=some (QcQ r):=by
 unfold Jr QcQ
 simp only[Zl,Option.bind_some]
 rw[Qio r hn _ (by simp)]
 generalize (decide (r.Nodes<1)||_)=a
 generalize decide ((512:Int)<(r.Edges.length:Nat))=b
 generalize YL (fun _ x=>Qdf r x) (.inl ()) 0 r.Edges=o
 cases a<;>cases b<;>cases o<;>rfl
theorem Qit {r:QN} (h:QcQ r=0):1≤r.Nodes∧r.Nodes≤64∧r.Edges.length≤512∧ ∀x∈r.Edges,QaM r x:=by
 unfold QcQ at h
 simp only[cond_eq_ite,Bool.or_eq_true,decide_eq_true_eq] at h
 split at h
 ·cases h
 ·split at h
  ·cases h
  ·refine ⟨by omega,by omega,by omega,fun x hx=> ?_⟩;obtain ⟨i,hi⟩:=List.getElem?_of_mem hx;rcases Qb6 (step:=fun _ x=>Qdf r x) (fin:=(.inl ():Unit⊕Int)) r.Edges 0 with ⟨h1,_⟩ | ⟨j,y,o,h1,h2,h3,_⟩
   ·exact QlC (h1 i x hi)
   ·rw[h3] at h
    obtain ⟨e,rfl,he⟩:=QlD h2;exact absurd h he
theorem Qfa (r:QN) (hn:r.Edges.length≤600):QaN r=some (QcQ r):=by
 by_cases hz:QcQ r=0
 ·obtain ⟨h1,h2,h3,h4⟩:=Qit hz;unfold QaN
  rw[hz]
  have e1:QbK r=YU r:=rfl
  rw[e1,Qio r hn _ (by simp)]
  simp only[Zl,Option.bind_some]
  rw[show (decide (r.Nodes<1)||decide (64<r.Nodes))=false by simp;omega]
  simp only[cond_false]
  rw[show decide ((512:Int)<(r.Edges.length:Nat))=false by simp;omega]
  simp only[cond_false]
  have:YL (fun _ x=>Qdf r x) (.inl ():Unit⊕Int) 0 r.Edges= .inl ():=by
   refine QY _ _ fun i x hx=> ?_;have:=h4 x (List.mem_of_getElem? hx);unfold QaM at this;unfold Qdf
   rw[show (decide (x.From<0)||(decide (r.Nodes≤x.From)||(decide (x.To<0)||decide (r.Nodes≤x.To))))=false by simp;omega,show (decide (x.From=x.To)||(decide (x.Meters<1)||(decide (100000<x.Meters)||(decide (x.Secs<1)||decide (100000<x.Secs)))))=false by simp;omega]
   rfl
  rw[this]
  simp only[QJ,QlN r hn,Option.bind_some,Qoa r h3 h1 h2 h4]
 ·have h:=Qak r hn;unfold QaN;have e1:QbK r=YU r:=rfl
  rw[e1,Qio r hn _ (by simp)]
  unfold QcQ at hz ⊢
  simp only[Zl,Option.bind_some]
  generalize (decide (r.Nodes<1)||_)=a at *
  generalize decide ((512:Int)<(r.Edges.length:Nat))=b at *
  generalize YL (fun _ x=>Qdf r x) (.inl ()) 0 r.Edges=o at *
  cases a<;>cases b<;>cases o<;>first | rfl | exact absurd rfl hz
end Go.Proofs.YthpgjbbjpfiniaaGreat
