/- DispatchMoves: for every input the given law returns true, and its arguments read as before. No condition. -/
import Derived.Test.YthpgjbbjpfiniaaGreatc2x1
import Derived.Test.YthpgjbbjpfiniaaGreatc2x3
import Derived.Test.YthpgjbbjpfiniaaGreatc2x6
import Derived.Test.YthpgjbbjpfiniaaGreatc2x8
import Derived.Test.YthpgjbbjpfiniaaGreatc2x9
import Derived.Test.YthpgjbbjpfiniaaGreatc2x2
namespace Go.Proofs.YthpgjbbjpfiniaaGreat
open Go.RowKit
set_option linter.unusedSimpArgs false
set_option linter.unusedVariables false
set_option maxHeartbeats 2000000
set_option maxRecDepth 4000
attribute [local irreducible] WP Zw Qap Fn AN Upd vcR vcO QbY Jf Jb Qaw QaZ QbU QaF Wr Qck Qz KS
variable {μ:Gh} {L:List Seg} {R:Value→Gh→List Seg→Prop}
theorem Qay  {left1:Int} {cost1:Int} {otherLeft1:Int} {otherCost1:Int}  {res1:Bool}
   (h:YS left1 cost1 otherLeft1 otherCost1=some res1)
  (hR:R (.bool res1) μ (L)) :
  Fn Tryz.prog 29 [.int .i64 left1,.int .i64 cost1,.int .i64 otherLeft1,.int .i64 otherCost1] μ (L) R:=by
 unfold YS at h;refine FnS Tryz.func29 (by kernel_rfl) E Tryz.ntmps29 E E ?_;refine G0 5 E ?_;refine Cut h (fun f l o_ f_ μ_ l_=> ∃(v1:Bool),v1=o_∧Qg ((8,.bool v1)::[]) f_∧Qd l l_∧μ=μ_) ?_ ?_
 ·intro _ h24770 h;refine G0 5 E ?_;refine Br h24770 12 E E (fun hc1 h24770=> ?_) (fun hc1 h24770=> ?_)
  ·refine G2 11 [12] [] [] E ?_;cases h24770;exact Ce E ⟨_,rfl,fE E,sE [] 0 E,rfl⟩
  refine G2 4 [] [12] [] E ?_;refine Br h24770 16 E E (fun hc2 h24770=> ?_) (fun hc2 h24770=> ?_)
  ·refine G2 7 [16] [12] [] E ?_;cases h24770;exact Ce E ⟨_,rfl,fE E,sE [] 0 E,rfl⟩
  refine G2 7 [] [12,16] [] E ?_;cases h24770;exact Ce E ⟨_,rfl,fE E,sE [] 0 E,rfl⟩
 rintro _ _ _ _ h _ ⟨v1,rfl,hF24770,hS24770,rfl⟩;refine Atn 0 hF24770 hS24770 E E ?_;cases h;exact Rt [] E E (Ug [] 0 hR)
end Go.Proofs.YthpgjbbjpfiniaaGreat
namespace Go.Proofs.YthpgjbbjpfiniaaGreat
open Go.RowKit
set_option linter.unusedSimpArgs false
set_option linter.unusedVariables false
set_option maxHeartbeats 2000000
set_option maxRecDepth 4000
attribute [local irreducible] WP Zw Qap Fn AN Upd vcR vcO QbY Jf Jb Qaw QaZ QbU QaF Wr Qck Qz KS
variable {μ:Gh} {L:List Seg} {R:Value→Gh→List Seg→Prop}
theorem QdP {F:Nat} {p1:Qe} {t1:Qa} {d1:Int} {A1:Option Addr} {c1:Nat} {A2:Option Addr} {c2:Nat} {A3:Option Addr} {c3:Nat} {A4:Option Addr} {c4:Nat} {res1:Qa} {res2:Int}
  (hl1:p1.Road.Edges.length≤c1∧c1≤maxLen) (hA1:Qq QE μ A1 p1.Road.Edges) (hl2:p1.Vehicles.length≤c2∧c2≤maxLen) (hA2:Qq Qy μ A2 p1.Vehicles) (hl3:p1.Demands.length≤c3∧c3≤maxLen) (hA3:Qq QA μ A3 p1.Demands) (hl4:t1.Stops.length≤c4∧c4≤maxLen) (hA4:Qq QH μ A4 t1.Stops) (h:YG F p1 t1 d1=some (res1,res2))
  (hR: ∀(μ':Gh) (A0_1:Option Addr) (c0_1:Nat),μ.le μ'→(res1.Stops.length≤c0_1∧c0_1≤maxLen)→Qq QH μ' A0_1 res1.Stops→R (.tuple #[.agg #[.int .i64 res1.Vehicle,.slice A0_1 res1.Stops.length c0_1],.int .i64 res2]) μ' (L)) :
  Fn Tryz.prog 57 [.agg #[.int .i64 p1.Road.Nodes,.slice A1 p1.Road.Edges.length c1,.slice A2 p1.Vehicles.length c2,.slice A3 p1.Demands.length c3,.int .i64 p1.Unload,.int .i64 p1.UnloadSecs],.agg #[.int .i64 t1.Vehicle,.slice A4 t1.Stops.length c4],.int .i64 d1] μ (L) R:=by
 unfold YG at h;refine FnS Tryz.func57 (by kernel_rfl) E Tryz.ntmps57 E E ?_;refine G0 2 E (Al E fun _=>Q0 0 E (Al E fun _=>Q0 0 E (Al E fun _=>Q1 7 [2,1] E (Cl E ?_))));obtain ⟨⟨_,_⟩,hx1,h⟩:=Qi h;replace h:=Qj h;refine QcC hl1 hA1 hl2 hA2 hl3 hA3 hl4 hA4 hx1 (fun _ _ _ _ hm_1 hO1=> ?_);refine Q0 12 E ?_;refine Br h 18 E E (fun hc1 h=> ?_) (fun hc1 h=> ?_)
 ·refine G2 8 [18] [] [1] E ?_;cases h;exact Rt [1] E E (Ug [] 4 (hR _ none 0 hm_1 ⟨Nat.le_refl _,Nat.zero_le _⟩ Qq.nil))
 refine G2 9 [] [18] [] E ?_;refine Br h 23 E E (fun hc2 h=> ?_) (fun hc2 h=> ?_)
 ·refine G2 7 [23] [] [1] E ?_;cases h;exact Rt [1] E E (Ug [] 4 (hR _ none 0 hm_1 ⟨Nat.le_refl _,Nat.zero_le _⟩ Qq.nil))
 refine G2 5 [] [23] [] E (IxA h (Own.rds hO1 0 E) E E fun _ _ _ _ hr1 hc3 _ h=> ?_);obtain ⟨A6,c6,rfl,hl5,hA6⟩:=hr1;refine Q3 4 [] [] [64,1] (Z1 hc3) E ?_;cases h;exact Rt [1] E E (Ug [] 4 (hR _ A6 c6 hm_1 hl5 hA6))
theorem QaV  {p1:Qe} {x1:Qf} {A1:Option Addr} {c1:Nat} {A2:Option Addr} {c2:Nat} {A3:Option Addr} {c3:Nat} {A4:Option Addr} {c4:Nat} {A5:Option Addr} {c5:Nat} {res1:Int} {res2:Int}
  (hl1:p1.Road.Edges.length≤c1∧c1≤maxLen) (hA1:Qq QE μ A1 p1.Road.Edges) (hl2:p1.Vehicles.length≤c2∧c2≤maxLen) (hA2:Qq Qy μ A2 p1.Vehicles) (hl3:p1.Demands.length≤c3∧c3≤maxLen) (hA3:Qq QA μ A3 p1.Demands) (hl4:x1.Tours.length≤c4∧c4≤maxLen) (hA4:Qq Qs μ A4 x1.Tours) (hl5:x1.Left.length≤c5∧c5≤maxLen) (hA5:Qq QH μ A5 x1.Left) (h:Q9 p1 x1=some (res1,res2))
  (hR:R (.tuple #[.int .i64 res1,.int .i64 res2]) μ (L)) :
  Fn Tryz.prog 43 [.agg #[.int .i64 p1.Road.Nodes,.slice A1 p1.Road.Edges.length c1,.slice A2 p1.Vehicles.length c2,.slice A3 p1.Demands.length c3,.int .i64 p1.Unload,.int .i64 p1.UnloadSecs],.agg #[.slice A4 x1.Tours.length c4,.slice A5 x1.Left.length c5]] μ (L) R:=by
 unfold Q9 at h;refine FnS Tryz.func43 (by kernel_rfl) E Tryz.ntmps43 E E ?_;refine G0 2 E (Al E fun _=>Q0 0 E (Al E fun _=>Q1 8 [1,0] E (Cl E ?_)));obtain ⟨_,hx1,h⟩:=Qi h;refine Qab hl1 hA1 hl2 hA2 hl3 hA3 hl4 hA4 hl5 hA5 hx1 ((Q0 7 E ?_));refine Br h 16 E E (fun hc1 h=> ?_) (fun hc1 h=> ?_)
 ·refine G2 7 [16] [] [] E ?_;cases h;exact Rt [] E E (Ug [] 2 hR)
 refine G2 14 [] [16] [0] E ?_;refine Cut h (fun f l o_ f_ μ_ l_=> ∃(sum2:Int),sum2=o_∧Qg ((7,.int .i64 sum2)::[]) f_∧Qd (QB [] 2 l) l_∧μ=μ_) ?_ ?_
 ·intro _ h24147 h;refine Lp h24147 (fun f l (j_:Int×Int) f_ μ_ l_=>Yx j_ fun sum1 v1=>Qg ((7,.int .i64 sum1)::(21,.int .i64 v1)::Qk [2,19,20] f) f_∧Qd (QB [] 1 l) l_∧μ=μ_) ⟨fE E,sE [some 1] 2 E,E⟩ ?_;rintro ⟨sum1,v1⟩ _ _ _ _ _ ⟨hF24157,hS24157,rfl⟩ hb24157 hq24157;unfold Jq at hb24157;replace hb24157:=Qj hb24157;refine Atn 1 hF24157 hS24157 E E (G0 5 E ?_);refine Br hb24157 22 E E (fun hc2 hb24157=> ?_) (fun hc2 hb24157=> ?_)
  ·refine G2 6 [22] [] [] E (Ix hb24157 (Qq.rds hA4 L) E E fun _ _ _ _ hr1 hc3 _ hb24157=> ?_);obtain ⟨_,_,rfl,hl6,hA7⟩:=hr1;refine Q3 1 [] [] [64] (Z1 (hc3.push)) E (Al E fun _=>Q1 6 [0,1,0] E (Cl E ?_));obtain ⟨⟨_,_⟩,hx3,hb24157⟩:=Qi hb24157;replace hb24157:=Qj hb24157;refine Qbh hl1 hA1 hl2 hA2 hl3 hA3 hl6 hA7 hx3 ((Q0 17 E ?_));cases hb24157;exact Ce E ⟨_,rfl,fE E,sE [some 1] 2 E,rfl⟩
  refine G2 2 [] [22] [] E ?_;cases hb24157;have hq_:=hq24157 _ E;subst hq_;exact Ce E ⟨_,rfl,fE E,sE [] 1 E,rfl⟩
 rintro _ _ _ _ h _ ⟨sum2,rfl,hF24147,hS24147,rfl⟩;refine Atn 0 hF24147 hS24147 E E (G0 6 E ?_);cases h;exact Rt [] E E (Ug [] 0 hR)
theorem QcD  {stops1:(List Int)} {d1:Int} {A1:Option Addr} {c1:Nat} {res1:(List Int)}
  (hl1:stops1.length≤c1∧c1≤maxLen) (hA1:Rds QH μ L A1 stops1) (h:JF stops1 d1=some res1)
  (hR: ∀(A0:Option Addr) (c0:Nat) (ch0:Seg),Own QH 3 μ (.slice A0 res1.length c0) res1 ch0→R (.slice A0 res1.length c0) μ (ch0::L)) :
  Fn Tryz.prog 66 [.slice A1 stops1.length c1,.int .i64 d1] μ (L) R:=by
 unfold JF at h;refine FnS Tryz.func66 (by kernel_rfl) E Tryz.ntmps66 E E ?_;refine G0 15 E ?_;refine Cut h (fun f l o_ f_ μ_ l_=> ∃(out3:(List Int)) (A5:Option Addr) (c5:Nat) (ch4:Seg),out3=o_∧Qg ((5,.slice A5 out3.length c5)::[]) f_∧Qd (ch4::l) l_∧Own QH 3 μ_ (.slice A5 out3.length c5) out3 ch4∧μ=μ_) ?_ ?_
 ·intro _ h24255 h;refine Lp h24255 (fun f l (j_:(List Int)×Int) f_ μ_ l_=>Yx j_ fun out1 v1=> ∃(A2:Option Addr) (c2:Nat) (ch1:Seg),Qg ((5,.slice A2 out1.length c2)::(10,.int .i64 v1)::Qk [1,8,9] f) f_∧Qd (ch1::l) l_∧Own QH 3 μ_ (.slice A2 out1.length c2) out1 ch1∧μ=μ_) ⟨none,0,[],fE E,sE [none] 0 E,(Own.nil),E⟩ ?_;rintro ⟨out1,v1⟩ _ _ _ _ _ ⟨A2,c2,ch1,hF24262,hS24262,hO1,rfl⟩ hb24262 hq24262;unfold ZY at hb24262;replace hb24262:=Qj hb24262;refine Atn 1 hF24262 hS24262 E E (G0 5 E ?_);refine Br hb24262 11 E E (fun hc1 hb24262=> ?_) (fun hc1 hb24262=> ?_)
  ·refine G2 3 [11] [] [] E ?_;refine Cut hb24262 (fun f l o_ f_ μ_ l_=> ∃(out2:(List Int)) (A4:Option Addr) (c4:Nat) (ch3:Seg),out2=o_∧Qg ((5,.slice A4 out2.length c4)::Qk [1,8,9,10] f) f_∧Qd (ch3::QB [] 1 l) l_∧Own QH 3 μ_ (.slice A4 out2.length c4) out2 ch3∧μ=μ_) ?_ ?_
   ·intro _ h24265 hb24262;refine G0 3 E (Ix h24265 hA1 E E fun x1 _ _ _ hr1 hc2 _ h24265=> ?_);obtain rfl:=hr1;refine Q3 9 [] [] [64] (Z1 (hc2.push)) E ?_;refine Br h24265 16 E E (fun hc3 h24265=> ?_) (fun hc3 h24265=> ?_)
    ·refine G2 4 [16] [] [] E (So E (Y0 (z:=[.int .i64 0]) E E E E E E E (QR (cells':=[.int .i64 x1]) E E E E (YA (fun g1=>Q0 0 E (So E (Q7 E ?_)))))));obtain ⟨_,hz1,h24265⟩:=Qi h24265;refine Yd (r:=QH) QT E E E E (by decide) E E 1 E hO1 E (Own.rds (Own.lit (r:=QH) (e:=3) (g:=g1) (xs:=[x1]) (cs:=[.int .i64 x1]) (css:=[[.int .i64 x1]]) E (All2.cons (E) (All2.nil)) E E) 0 E) hz1 fun A3 c3 ch2 hO2=>Q0 3 E ?_;cases h24265;exact Ce E ⟨_,A3,c3,ch2,rfl,fE E,sE [some 1] 2 E,(hO2),rfl⟩
    refine G2 3 [] [16] [] E ?_;cases h24265;exact Ce E ⟨_,A2,c2,ch1,rfl,fE E,sE [some 0] 1 E,(hO1),rfl⟩
   rintro _ _ _ _ hb24262 _ ⟨out2,A4,c4,ch3,rfl,hF24265,hS24265,hO3,rfl⟩;refine Atn 1 hF24265 hS24265 E E (G0 4 E ?_);cases hb24262;exact Ce E ⟨_,rfl,A4,c4,ch3,fE E,sE [some 0] 1 E,(hO3),rfl⟩
  refine G2 2 [] [11] [] E ?_;cases hb24262;have hq_:=hq24262 _ E;subst hq_;exact Ce E ⟨_,A2,c2,ch1,rfl,fE E,sE [some 0] 1 E,(hO1),rfl⟩
 rintro _ _ _ _ h _ ⟨out3,A5,c5,ch4,rfl,hF24255,hS24255,hO4,rfl⟩;refine Atn 1 hF24255 hS24255 E E (G0 5 E ?_);cases h;exact Rt [] E E (Ug [[0]] 1 (hR A5 c5 ch4 hO4))
theorem QcY  {t1:Qa} {A1:Option Addr} {c1:Nat} {res1:Bool}
  (hl1:t1.Stops.length≤c1∧c1≤maxLen) (hA1:Qq QH μ A1 t1.Stops) (h:J1 t1=some res1)
  (hR:R (.bool res1) μ (L)) :
  Fn Tryz.prog 67 [.agg #[.int .i64 t1.Vehicle,.slice A1 t1.Stops.length c1]] μ (L) R:=by
 unfold J1 at h;refine FnS Tryz.func67 (by kernel_rfl) E Tryz.ntmps67 E E ?_;refine G0 2 E (Al E fun _=>Q1 10 [0] E ?_);refine Cut h (fun f l o_ f_ μ_ l_=>(.inl ())=o_∧Qg ([]) f_∧Qd (QB [] 1 l) l_∧μ=μ_) ?_ ?_
 ·intro _ h24320 h;refine Lp h24320 (fun f l (v1:Int) f_ μ_ l_=>Qg ((8,.int .i64 v1)::Qk [6,7] f) f_∧Qd (QB [] 1 l) l_∧μ=μ_) ⟨fE E,sE [] 1 E,E⟩ ?_;rintro v1 _ _ _ _ _ ⟨hF24323,hS24323,rfl⟩ hb24323 hq24323;unfold Wc at hb24323;refine Atn 0 hF24323 hS24323 E E (G0 5 E ?_);refine Br hb24323 9 E E (fun hc1 hb24323=> ?_) (fun hc1 hb24323=> ?_)
  ·refine G2 6 [9] [] [] E (Ix hb24323 (Qq.rds hA1 L) E E fun _ _ _ _ hr1 hc2 _ hb24323=> ?_);obtain rfl:=hr1;refine Q3 8 [] [] [64] (Z1 hc2) E ?_;refine Br hb24323 13 E E (fun hc3 hb24323=> ?_) (fun hc3 hb24323=> ?_)
   ·refine G2 5 [13] [] [] E ?_;cases hb24323;have hq_:=hq24323 _ E;subst hq_;replace h:=Yc h;cases h;exact Rt [] E E (Ug [] 0 hR)
   refine G2 7 [] [13] [] E ?_;cases hb24323;exact Ce E ⟨_,rfl,fE E,sE [] 0 E,rfl⟩
  refine G2 2 [] [9] [] E ?_;cases hb24323;have hq_:=hq24323 _ E;subst hq_;exact Ce E ⟨rfl,fE E,sE [] 0 E,rfl⟩
 rintro _ _ _ _ h _ ⟨rfl,hF24320,hS24320,rfl⟩;replace h:=Yr h;refine Atn 0 hF24320 hS24320 E E (G0 4 E ?_);cases h;exact Rt [] E E (Ug [] 0 hR)
theorem QdR {F:Nat} {p1:Qe} {x1:Qf} {d1:Int} {v1:Int} {A1:Option Addr} {c1:Nat} {A2:Option Addr} {c2:Nat} {A3:Option Addr} {c3:Nat} {A4:Option Addr} {c4:Nat} {A5:Option Addr} {c5:Nat} {res1:Qf} {res2:Bool}
  (hl1:p1.Road.Edges.length≤c1∧c1≤maxLen) (hA1:Qq QE μ A1 p1.Road.Edges) (hl2:p1.Vehicles.length≤c2∧c2≤maxLen) (hA2:Qq Qy μ A2 p1.Vehicles) (hl3:p1.Demands.length≤c3∧c3≤maxLen) (hA3:Qq QA μ A3 p1.Demands) (hl4:x1.Tours.length≤c4∧c4≤maxLen) (hA4:Qq Qs μ A4 x1.Tours) (hl5:x1.Left.length≤c5∧c5≤maxLen) (hA5:Qq QH μ A5 x1.Left) (h:JK F p1 x1 d1 v1=some (res1,res2))
  (hR: ∀(μ':Gh) (A0_0:Option Addr) (c0_0:Nat) (A0_1:Option Addr) (c0_1:Nat),μ.le μ'→(res1.Tours.length≤c0_0∧c0_0≤maxLen)→Qq Qs μ' A0_0 res1.Tours→(res1.Left.length≤c0_1∧c0_1≤maxLen)→Qq QH μ' A0_1 res1.Left→R (.tuple #[.agg #[.slice A0_0 res1.Tours.length c0_0,.slice A0_1 res1.Left.length c0_1],.bool res2]) μ' (L)) :
  Fn Tryz.prog 44 [.agg #[.int .i64 p1.Road.Nodes,.slice A1 p1.Road.Edges.length c1,.slice A2 p1.Vehicles.length c2,.slice A3 p1.Demands.length c3,.int .i64 p1.Unload,.int .i64 p1.UnloadSecs],.agg #[.slice A4 x1.Tours.length c4,.slice A5 x1.Left.length c5],.int .i64 d1,.int .i64 v1] μ (L) R:=by
 unfold JK at h;refine FnS Tryz.func44 (by kernel_rfl) E Tryz.ntmps44 E E ?_;refine G0 2 E (Al E fun g1=>Q0 0 E (Al E fun g2=>Q0 0 E (Al E fun g3=>Q0 5 E (Al E fun g4=>Q1 10 [0,3] E ?_))));refine Cut h (fun f l o_ f_ μ_ l_=> ∃(f5:(List Qa)) (A13:Option Addr) (c13:Nat) (ch5:Seg),(.inl f5)=o_∧Qg (Qk [2,4,5,8,10] f) f_∧Qd ([(g1,.cells #[.int .i64 p1.Road.Nodes,.slice A1 p1.Road.Edges.length c1,.slice A2 p1.Vehicles.length c2,.slice A3 p1.Demands.length c3,.int .i64 p1.Unload,.int .i64 p1.UnloadSecs] 28 (0,0))]::[(g2,.cells #[.slice A4 x1.Tours.length c4,.slice A5 x1.Left.length c5] 33 (0,0))]::[(g3,.cells #[.slice none 0 0,.slice none 0 0] 33 (0,0))]::[(g4,.cells #[.slice A13 f5.length c13,.slice none 0 0] 33 (0,0))]::ch5::QB [] 4 l) l_∧Own Qs 51 μ_ (.slice A13 f5.length c13) f5 ch5) ?_ ?_
 ·intro _ h24522 h;refine Lp h24522 (fun f l (j_:(List Qa)×Int) f_ μ_ l_=>Yx j_ fun f1 v2=> ∃(A6:Option Addr) (c6:Nat) (ch1:Seg),Qg ((20,.int .i64 v2)::Qk [2,3,4,5,8,10,19] f) f_∧Qd ([(g1,.cells #[.int .i64 p1.Road.Nodes,.slice A1 p1.Road.Edges.length c1,.slice A2 p1.Vehicles.length c2,.slice A3 p1.Demands.length c3,.int .i64 p1.Unload,.int .i64 p1.UnloadSecs] 28 (0,0))]::[(g2,.cells #[.slice A4 x1.Tours.length c4,.slice A5 x1.Left.length c5] 33 (0,0))]::[(g3,.cells #[.slice none 0 0,.slice none 0 0] 33 (0,0))]::[(g4,.cells #[.slice A6 f1.length c6,.slice none 0 0] 33 (0,0))]::ch1::QB [] 4 l) l_∧Own Qs 51 μ_ (.slice A6 f1.length c6) f1 ch1) ⟨none,0,[],fE E,sE [some 3,some 2,some 1,some 0,none] 4 E,(Own.nil)⟩ ?_;rintro ⟨f1,v2⟩ _ _ _ _ hm24600 ⟨A6,c6,ch1,hF24600,hS24600,hO1⟩ hb24600 hq24600;unfold Ze at hb24600;replace hb24600:=Qj hb24600;replace hA1:=hA1.mono hm24600;replace hA2:=hA2.mono hm24600;replace hA3:=hA3.mono hm24600;replace hA4:=hA4.mono hm24600;replace hA5:=hA5.mono hm24600;refine Atn 5 hF24600 hS24600 E E (G0 5 E ?_);refine Br hb24600 21 E E (fun hc1 hb24600=> ?_) (fun hc1 hb24600=> ?_)
  ·refine G2 3 [21] [] [] E ?_;refine Cut hb24600 (fun f l o_ f_ μ_ l_=> ∃(f4:(List Qa)) (A12:Option Addr) (c12:Nat) (ch4:Seg),(.inl f4)=o_∧Qg (Qk [2,3,4,5,8,10,19,20] f) f_∧Qd ([(g1,.cells #[.int .i64 p1.Road.Nodes,.slice A1 p1.Road.Edges.length c1,.slice A2 p1.Vehicles.length c2,.slice A3 p1.Demands.length c3,.int .i64 p1.Unload,.int .i64 p1.UnloadSecs] 28 (0,0))]::[(g2,.cells #[.slice A4 x1.Tours.length c4,.slice A5 x1.Left.length c5] 33 (0,0))]::[(g3,.cells #[.slice none 0 0,.slice none 0 0] 33 (0,0))]::[(g4,.cells #[.slice A12 f4.length c12,.slice none 0 0] 33 (0,0))]::ch4::QB [] 5 l) l_∧Own Qs 51 μ_ (.slice A12 f4.length c12) f4 ch4) ?_ ?_
   ·intro _ h24615 hb24600;refine G1 11 [1] E (Cl E ?_);obtain ⟨_,hx1,h24615⟩:=Qi h24615;refine QeG hl4 hA4 hl5 hA5 hx1 (fun _ _ hl6 hA6=>Q0 2 E (Cl E ?_));obtain ⟨_,hx2,h24615⟩:=Qi h24615;refine QcD hl6 (Qq.rds hA6 _) hx2 (fun A8 c8 _ hO2=>Q0 1 E (Al E fun g5=>Q1 9 [0] E ?_));have hl7:=Own.lenOk hO2;refine KS.upd E (Upd.frzOwn 1 E hO2 fun _ hm_1 hA7=>Upd.done ?_);replace hA1:=hA1.mono hm_1;replace hA2:=hA2.mono hm_1;replace hA3:=hA3.mono hm_1;replace hA5:=hA5.mono hm_1;replace hO1:=hO1.mono hm_1;refine Cut h24615 (fun f l o_ f_ μ_ l_=> ∃(f2:Int) (f3:(List Int)) (A10:Option Addr) (c10:Nat),(.inl (f2,f3))=o_∧Qg (Qk [2,3,4,5,8,10,12,19,20] f) f_∧Qd ([(g1,.cells #[.int .i64 p1.Road.Nodes,.slice A1 p1.Road.Edges.length c1,.slice A2 p1.Vehicles.length c2,.slice A3 p1.Demands.length c3,.int .i64 p1.Unload,.int .i64 p1.UnloadSecs] 28 (0,0))]::[(g2,.cells #[.slice A4 x1.Tours.length c4,.slice A5 x1.Left.length c5] 33 (0,0))]::[(g3,.cells #[.slice none 0 0,.slice none 0 0] 33 (0,0))]::[(g4,.cells #[.slice A6 f1.length c6,.slice none 0 0] 33 (0,0))]::ch1::[(g5,.cells #[.int .i64 f2,.slice A10 f3.length c10] 51 (0,0))]::QB [] 7 l) l_∧(f3.length≤c10∧c10≤maxLen)∧Qq QH μ_ A10 f3) ?_ ?_
    ·intro _ h24645 h24615;refine Br h24645 33 E E (fun hc2 h24645=> ?_) (fun hc2 h24645=> ?_)
     ·refine G2 6 [33] [] [2,0] E (Cl E ?_);obtain ⟨⟨_,_⟩,hx3,h24645⟩:=Qi h24645;replace h24645:=Qj h24645;refine QdP hl1 hA1 hl2 hA2 hl3 hA3 hl7 hA7 hx3 (fun _ A9 c9 hm_2 hl8 hA8=> ?_);replace hA5:=hA5.mono hm_2;replace hO1:=hO1.mono hm_2;replace hA7:=hA7.mono hm_2;refine Q0 3 E (Al E fun _=>Q1 9 [0] E ?_);refine Br h24645 42 E E (fun hc3 h24645=> ?_) (fun hc3 h24645=> ?_)
      ·refine G2 7 [42] [] [5] E ?_;cases h24645;replace h24615:=Yc h24615;cases h24615;replace hb24600:=Yc hb24600;cases hb24600;have hq_:=hq24600 _ E;subst hq_;replace h:=Yc h;cases h;exact Rt [5] E E (Ug [] 8 (hR _ none 0 none 0 (hm24600.trans (hm_1.trans hm_2)) ⟨Nat.le_refl _,Nat.zero_le _⟩ Qq.nil ⟨Nat.le_refl _,Nat.zero_le _⟩ Qq.nil))
      refine G2 6 [] [42] [0,1] E ?_;cases h24645;exact Ce E ⟨_,_,A9,c9,rfl,fE E,sE [some 3,some 4,some 5,some 6,some 7,some 1] 8 E,(hl8),(hA8)⟩
     refine G2 2 [] [33] [] E ?_;cases h24645;exact Ce E ⟨_,_,A8,c8,rfl,fE E,sE [some 2,some 3,some 4,some 5,some 6,some 0] 7 E,(hl7),(hA7)⟩
    rintro _ _ _ _ h24615 hm24645 ⟨f2,f3,A10,c10,rfl,hF24645,hS24645,hl9,hA9⟩;replace h24615:=Yr h24615;replace h24615:=Qj h24615;replace hA5:=hA5.mono hm24645;replace hO1:=hO1.mono hm24645;refine Atn 6 hF24645 hS24645 E E (G1 3 [5] E (Cl E ?_));obtain ⟨_,hx4,h24615⟩:=Qi h24615;refine QcY hl9 hA9 hx4 ((Q0 1 E ?_));refine Br h24615 46 E E (fun hc4 h24615=> ?_) (fun hc4 h24615=> ?_)
    ·refine G2 5 [46] [] [3,5] E (So E (Y0 (z:=[.int .i64 0,.slice none 0 0]) E E E E E E E (QR (cells':=[.int .i64 f2,.slice A10 f3.length c10]) E E E E (YA (fun g7=>Q0 0 E (So E (Q7 E ?_)))))));obtain ⟨_,hz1,h24615⟩:=Qi h24615;refine Yd (r:=Qs) QT E E E E (by decide) E E 5 E hO1 E (Own.rds (Own.lit (r:=Qs) (e:=51) (g:=g7) (xs:=[(Qa.mk f2 f3)]) (cs:=[.int .i64 f2,.slice A10 f3.length c10]) (css:=[[.int .i64 f2,.slice A10 f3.length c10]]) E (All2.cons (⟨A10,c10,E,hl9,hA9⟩) (All2.nil)) E E) 0 E) hz1 fun A11 c11 ch3 hO3=>Q1 4 [4] E ?_;cases h24615;exact Ce E ⟨_,A11,c11,ch3,rfl,fE E,sE [some 1,some 2,some 3,some 4,some 5] 7 E,(hO3)⟩
    refine G2 3 [] [46] [] E ?_;cases h24615;exact Ce E ⟨_,A6,c6,ch1,rfl,fE E,sE [some 0,some 1,some 2,some 3,some 4] 6 E,(hO1)⟩
   rintro _ _ _ _ hb24600 hm24615 ⟨f4,A12,c12,ch4,rfl,hF24615,hS24615,hO4⟩;replace hb24600:=Yr hb24600;replace hA5:=hA5.mono hm24615;replace hO1:=hO1.mono hm24615;refine Atn 5 hF24615 hS24615 E E (G0 4 E ?_);cases hb24600;exact Ce E ⟨_,rfl,A12,c12,ch4,fE E,sE [some 0,some 1,some 2,some 3,some 4] 5 E,(hO4)⟩
  refine G2 2 [] [21] [] E ?_;cases hb24600;have hq_:=hq24600 _ E;subst hq_;exact Ce E ⟨_,A6,c6,ch1,rfl,fE E,sE [some 0,some 1,some 2,some 3,some 4] 5 E,(hO1)⟩
 rintro _ _ _ _ h hm24522 ⟨f5,A13,c13,ch5,rfl,hF24522,hS24522,hO5⟩;replace h:=Yr h;replace hA5:=hA5.mono hm24522;refine Atn 5 hF24522 hS24522 E E (G1 8 [0] E ?_);refine Cut h (fun f l o_ f_ μ_ l_=> ∃(f8:(List Int)) (A17:Option Addr) (c17:Nat) (ch9:Seg),f8=o_∧Qg (Qk [8,10] f) f_∧Qd ([(g3,.cells #[.slice none 0 0,.slice none 0 0] 33 (0,0))]::[(g4,.cells #[.slice A13 f5.length c13,.slice A17 f8.length c17] 33 (0,0))]::ch5::ch9::QB [] 5 l) l_∧Own QH 3 μ_ (.slice A17 f8.length c17) f8 ch9) ?_ ?_
 ·intro _ h24687 h;refine Lp h24687 (fun f l (j_:(List Int)×Int) f_ μ_ l_=>Yx j_ fun f6 v5=> ∃(A14:Option Addr) (c14:Nat) (ch6:Seg),Qg ((57,.int .i64 v5)::Qk [2,5,8,10,56] f) f_∧Qd ([(g2,.cells #[.slice A4 x1.Tours.length c4,.slice A5 x1.Left.length c5] 33 (0,0))]::[(g3,.cells #[.slice none 0 0,.slice none 0 0] 33 (0,0))]::[(g4,.cells #[.slice A13 f5.length c13,.slice A14 f6.length c14] 33 (0,0))]::ch5::ch6::QB [] 5 l) l_∧Own QH 3 μ_ (.slice A14 f6.length c14) f6 ch6) ⟨none,0,[],fE E,sE [some 1,some 2,some 3,some 4,none] 5 E,(Own.nil)⟩ ?_;rintro ⟨f6,v5⟩ _ _ _ _ hm24718 ⟨A14,c14,ch6,hF24718,hS24718,hO6⟩ hb24718 hq24718;unfold ZU at hb24718;replace hb24718:=Qj hb24718;replace hA5:=hA5.mono hm24718;replace hO5:=hO5.mono hm24718;refine Atn 5 hF24718 hS24718 E E (G0 5 E ?_);refine Br hb24718 58 E E (fun hc5 hb24718=> ?_) (fun hc5 hb24718=> ?_)
  ·refine G2 3 [58] [] [] E ?_;refine Cut hb24718 (fun f l o_ f_ μ_ l_=> ∃(f7:(List Int)) (A16:Option Addr) (c16:Nat) (ch8:Seg),f7=o_∧Qg (Qk [2,5,8,10,56,57] f) f_∧Qd ([(g2,.cells #[.slice A4 x1.Tours.length c4,.slice A5 x1.Left.length c5] 33 (0,0))]::[(g3,.cells #[.slice none 0 0,.slice none 0 0] 33 (0,0))]::[(g4,.cells #[.slice A13 f5.length c13,.slice A16 f7.length c16] 33 (0,0))]::ch5::ch8::QB [] 5 l) l_∧Own QH 3 μ_ (.slice A16 f7.length c16) f7 ch8) ?_ ?_
   ·intro _ h24731 hb24718;refine G0 7 E ?_;refine Cut h24731 (fun f l o_ f_ μ_ l_=> ∃(v6:Bool),v6=o_∧Qg ((68,.bool v6)::Qk [2,5,8,10,15,56,57] f) f_∧Qd l l_) ?_ ?_
    ·intro _ h24732 h24731;refine G0 5 E ?_;refine Br h24732 63 E E (fun hc6 h24732=> ?_) (fun hc6 h24732=> ?_)
     ·refine G2 3 [63] [] [0] E (Cl E ?_);obtain ⟨_,hx5,h24732⟩:=Qi h24732;refine Qd8 hl5 (Qq.rds hA5 _) hx5 ((Q2 2 [63] [] [] E ?_));cases h24732;exact Ce E ⟨_,rfl,fE E,sE [some 0,some 1,some 2,some 3,some 4] 5 E⟩
     refine G2 6 [] [63] [] E ?_;cases h24732;exact Ce E ⟨_,rfl,fE E,sE [some 0,some 1,some 2,some 3,some 4] 5 E⟩
    rintro _ _ _ _ h24731 hm24732 ⟨v6,rfl,hF24732,hS24732⟩;replace hO5:=hO5.mono hm24732;replace hO6:=hO6.mono hm24732;refine Atn 5 hF24732 hS24732 E E ?_;refine Br h24731 68 E E (fun hc7 h24731=> ?_) (fun hc7 h24731=> ?_)
    ·refine G2 5 [68] [] [2] E (So E (Y0 (z:=[.int .i64 0]) E E E E E E E (QR (cells':=[.int .i64 v5]) E E E E (YA (fun g8=>Q0 0 E (So E (Q7 E ?_)))))));obtain ⟨_,hz2,h24731⟩:=Qi h24731;refine Yd (r:=QH) QT E E E E (by decide) E E 5 E hO6 E (Own.rds (Own.lit (r:=QH) (e:=3) (g:=g8) (xs:=[v5]) (cs:=[.int .i64 v5]) (css:=[[.int .i64 v5]]) E (All2.cons (E) (All2.nil)) E E) 0 E) hz2 fun A15 c15 ch7 hO7=>Q1 4 [3] E ?_;cases h24731;exact Ce E ⟨_,A15,c15,ch7,rfl,fE E,sE [some 1,some 2,some 3,some 4,some 5] 6 E,(hO7)⟩
    refine G2 3 [] [68] [] E ?_;cases h24731;exact Ce E ⟨_,A14,c14,ch6,rfl,fE E,sE [some 0,some 1,some 2,some 3,some 4] 5 E,(hO6)⟩
   rintro _ _ _ _ hb24718 hm24731 ⟨f7,A16,c16,ch8,rfl,hF24731,hS24731,hO8⟩;replace hO5:=hO5.mono hm24731;replace hO6:=hO6.mono hm24731;refine Atn 5 hF24731 hS24731 E E (G0 4 E ?_);cases hb24718;exact Ce E ⟨_,rfl,A16,c16,ch8,fE E,sE [some 0,some 1,some 2,some 3,some 4] 5 E,(hO8)⟩
  refine G2 2 [] [58] [] E ?_;cases hb24718;have hq_:=hq24718 _ E;subst hq_;exact Ce E ⟨_,A14,c14,ch6,rfl,fE E,sE [some 1,some 2,some 3,some 4] 5 E,(hO6)⟩
 rintro _ _ _ _ h hm24687 ⟨f8,A17,c17,ch9,rfl,hF24687,hS24687,hO9⟩;replace hO5:=hO5.mono hm24687;refine Atn 4 hF24687 hS24687 E E (G1 6 [1,0] E ?_);cases h;refine Rt [0] E E ?_;have hl10:=Own.lenOk hO5;refine Upd.frzOwn 2 E hO5 fun _ hm_3 hA10=> ?_;replace hO9:=hO9.mono hm_3;have hl11:=Own.lenOk hO9;refine Upd.frzOwn 3 E hO9 fun _ hm_4 hA11=> ?_;replace hA10:=hA10.mono hm_4;exact (Ug [] 4 (hR _ A13 c13 A17 c17 (hm24522.trans (hm24687.trans (hm_3.trans hm_4))) hl10 hA10 hl11 hA11))
theorem Qdr {F:Nat} {p1:Qe} {x1:Qf} {A1:Option Addr} {c1:Nat} {A2:Option Addr} {c2:Nat} {A3:Option Addr} {c3:Nat} {A4:Option Addr} {c4:Nat} {A5:Option Addr} {c5:Nat} {res1:(List Qf)} {res2:Int}
  (hl1:p1.Road.Edges.length≤c1∧c1≤maxLen) (hA1:Qq QE μ A1 p1.Road.Edges) (hl2:p1.Vehicles.length≤c2∧c2≤maxLen) (hA2:Qq Qy μ A2 p1.Vehicles) (hl3:p1.Demands.length≤c3∧c3≤maxLen) (hA3:Qq QA μ A3 p1.Demands) (hl4:x1.Tours.length≤c4∧c4≤maxLen) (hA4:Qq Qs μ A4 x1.Tours) (hl5:x1.Left.length≤c5∧c5≤maxLen) (hA5:Qq QH μ A5 x1.Left) (h:ZM F p1 x1=some (res1,res2))
  (hR: ∀(μ':Gh) (A0:Option Addr) (c0:Nat) (ch0:Seg),μ.le μ'→Own Zc 33 μ' (.slice A0 res1.length c0) res1 ch0→R (.tuple #[.slice A0 res1.length c0,.int .i64 res2]) μ' (ch0::L)) :
  Fn Tryz.prog 17 [.agg #[.int .i64 p1.Road.Nodes,.slice A1 p1.Road.Edges.length c1,.slice A2 p1.Vehicles.length c2,.slice A3 p1.Demands.length c3,.int .i64 p1.Unload,.int .i64 p1.UnloadSecs],.agg #[.slice A4 x1.Tours.length c4,.slice A5 x1.Left.length c5]] μ (L) R:=by
 unfold ZM at h;refine FnS Tryz.func17 (by kernel_rfl) E Tryz.ntmps17 E E ?_;refine G0 2 E (Al E fun g1=>Q0 0 E (Al E fun g2=>Q1 8 [1,0] E (Cl E ?_)));obtain ⟨_,hx1,h⟩:=Qi h;refine Qab hl1 hA1 hl2 hA2 hl3 hA3 hl4 hA4 hl5 hA5 hx1 ((Q0 7 E ?_));refine Br h 24 E E (fun hc1 h=> ?_) (fun hc1 h=> ?_)
 ·refine G2 7 [24] [] [] E ?_;cases h;exact Rt [] E E (Ug [[]] 2 (hR _ none 0 [] (Gh.le.refl _) Own.nil))
 refine G2 6 [] [24] [1,0] E (Cl E ?_);obtain ⟨⟨_,_⟩,hx2,h⟩:=Qi h;replace h:=Qj h;refine QaV hl1 hA1 hl2 hA2 hl3 hA3 hl4 hA4 hl5 hA5 hx2 ((Q1 22 [1] E ?_));refine Cut h (fun f l o_ f_ μ_ l_=> ∃(out6:(List Qf)) (A28:Option Addr) (c26:Nat) (ch17:Seg),out6=o_∧Qg ((9,.slice A28 out6.length c26)::[]) f_∧Qd (ch17::QB [] 2 l) l_∧Own Zc 33 μ_ (.slice A28 out6.length c26) out6 ch17) ?_ ?_
 ·intro _ h25279 h;refine Lp h25279 (fun f l (j_:(List Qf)×(List Int)×Int) f_ μ_ l_=>Yx j_ fun out1 j_=>Yx j_ fun costs1 v1=> ∃(A6:Option Addr) (c6:Nat) (ch1:Seg) (A7:Option Addr) (c7:Nat) (ch2:Seg),Qg ((9,.slice A6 out1.length c6)::(10,.slice A7 costs1.length c7)::(35,.int .i64 v1)::Qk [2,3,7,34] f) f_∧Qd ([(g1,.cells #[.int .i64 p1.Road.Nodes,.slice A1 p1.Road.Edges.length c1,.slice A2 p1.Vehicles.length c2,.slice A3 p1.Demands.length c3,.int .i64 p1.Unload,.int .i64 p1.UnloadSecs] 28 (0,0))]::[(g2,.cells #[.slice A4 x1.Tours.length c4,.slice A5 x1.Left.length c5] 33 (0,0))]::ch1::ch2::QB [] 2 l) l_∧Own Zc 33 μ_ (.slice A6 out1.length c6) out1 ch1∧Own QH 3 μ_ (.slice A7 costs1.length c7) costs1 ch2) ⟨none,0,[],none,0,[],fE E,sE [some 1,some 0,none,none] 2 E,(Own.nil),(Own.nil)⟩ ?_;rintro ⟨out1,costs1,v1⟩ _ _ _ _ hm25549 ⟨A6,c6,ch1,A7,c7,ch2,hF25549,hS25549,hO1,hO2⟩ hb25549 hq25549;unfold YX at hb25549;replace hb25549:=Qj hb25549;replace hb25549:=Qj hb25549;replace hA1:=hA1.mono hm25549;replace hA2:=hA2.mono hm25549;replace hA3:=hA3.mono hm25549;replace hA4:=hA4.mono hm25549;replace hA5:=hA5.mono hm25549;refine Atn 4 hF25549 hS25549 E E (G0 5 E ?_);refine Br hb25549 36 E E (fun hc2 hb25549=> ?_) (fun hc2 hb25549=> ?_)
  ·refine G2 3 [36] [] [] E ?_;refine Cut hb25549 (fun f l o_ f_ μ_ l_=> ∃(out5:(List Qf)) (costs5:(List Int)) (A26:Option Addr) (c24:Nat) (ch15:Seg) (A27:Option Addr) (c25:Nat) (ch16:Seg),(out5,costs5)=o_∧Qg ((9,.slice A26 out5.length c24)::(10,.slice A27 costs5.length c25)::Qk [2,3,7,34,35] f) f_∧Qd ([(g1,.cells #[.int .i64 p1.Road.Nodes,.slice A1 p1.Road.Edges.length c1,.slice A2 p1.Vehicles.length c2,.slice A3 p1.Demands.length c3,.int .i64 p1.Unload,.int .i64 p1.UnloadSecs] 28 (0,0))]::[(g2,.cells #[.slice A4 x1.Tours.length c4,.slice A5 x1.Left.length c5] 33 (0,0))]::ch15::ch16::QB [] 4 l) l_∧Own Zc 33 μ_ (.slice A26 out5.length c24) out5 ch15∧Own QH 3 μ_ (.slice A27 costs5.length c25) costs5 ch16) ?_ ?_
   ·intro _ h25560 hb25549;refine G1 13 [0] E ?_;refine Cut h25560 (fun f l o_ f_ μ_ l_=> ∃(out4:(List Qf)) (costs4:(List Int)) (A24:Option Addr) (c22:Nat) (ch13:Seg) (A25:Option Addr) (c23:Nat) (ch14:Seg),(out4,costs4)=o_∧Qg ((9,.slice A24 out4.length c22)::(10,.slice A25 costs4.length c23)::Qk [2,3,7,34,35] f) f_∧Qd ([(g1,.cells #[.int .i64 p1.Road.Nodes,.slice A1 p1.Road.Edges.length c1,.slice A2 p1.Vehicles.length c2,.slice A3 p1.Demands.length c3,.int .i64 p1.Unload,.int .i64 p1.UnloadSecs] 28 (0,0))]::[(g2,.cells #[.slice A4 x1.Tours.length c4,.slice A5 x1.Left.length c5] 33 (0,0))]::ch13::ch14::QB [] 4 l) l_∧Own Zc 33 μ_ (.slice A24 out4.length c22) out4 ch13∧Own QH 3 μ_ (.slice A25 costs4.length c23) costs4 ch14) ?_ ?_
    ·intro _ h25561 h25560;refine Lp h25561 (fun f l (j_:(List Qf)×(List Int)×Int) f_ μ_ l_=>Yx j_ fun out2 j_=>Yx j_ fun costs2 v2=> ∃(A8:Option Addr) (c8:Nat) (ch3:Seg) (A9:Option Addr) (c9:Nat) (ch4:Seg),Qg ((9,.slice A8 out2.length c8)::(10,.slice A9 costs2.length c9)::(41,.int .i64 v2)::Qk [2,3,7,11,34,35,40] f) f_∧Qd ([(g1,.cells #[.int .i64 p1.Road.Nodes,.slice A1 p1.Road.Edges.length c1,.slice A2 p1.Vehicles.length c2,.slice A3 p1.Demands.length c3,.int .i64 p1.Unload,.int .i64 p1.UnloadSecs] 28 (0,0))]::[(g2,.cells #[.slice A4 x1.Tours.length c4,.slice A5 x1.Left.length c5] 33 (0,0))]::ch3::ch4::QB [] 4 l) l_∧Own Zc 33 μ_ (.slice A8 out2.length c8) out2 ch3∧Own QH 3 μ_ (.slice A9 costs2.length c9) costs2 ch4) ⟨A6,c6,ch1,A7,c7,ch2,fE E,sE [some 0,some 1,some 2,some 3] 4 E,(hO1),(hO2)⟩ ?_;rintro ⟨out2,costs2,v2⟩ _ _ _ _ hm25672 ⟨A8,c8,ch3,A9,c9,ch4,hF25672,hS25672,hO3,hO4⟩ hb25672 hq25672;unfold YE at hb25672;replace hb25672:=Qj hb25672;replace hb25672:=Qj hb25672;replace hA1:=hA1.mono hm25672;replace hA2:=hA2.mono hm25672;replace hA3:=hA3.mono hm25672;replace hA4:=hA4.mono hm25672;replace hA5:=hA5.mono hm25672;replace hO1:=hO1.mono hm25672;refine Atn 4 hF25672 hS25672 E E (G0 5 E ?_);refine Br hb25672 42 E E (fun hc3 hb25672=> ?_) (fun hc3 hb25672=> ?_)
     ·refine G2 3 [42] [] [] E ?_;refine Cut hb25672 (fun f l o_ f_ μ_ l_=> ∃(out3:(List Qf)) (costs3:(List Int)) (A22:Option Addr) (c20:Nat) (ch11:Seg) (A23:Option Addr) (c21:Nat) (ch12:Seg),(out3,costs3)=o_∧Qg ((9,.slice A22 out3.length c20)::(10,.slice A23 costs3.length c21)::Qk [2,3,7,11,34,35,40,41] f) f_∧Qd ([(g1,.cells #[.int .i64 p1.Road.Nodes,.slice A1 p1.Road.Edges.length c1,.slice A2 p1.Vehicles.length c2,.slice A3 p1.Demands.length c3,.int .i64 p1.Unload,.int .i64 p1.UnloadSecs] 28 (0,0))]::[(g2,.cells #[.slice A4 x1.Tours.length c4,.slice A5 x1.Left.length c5] 33 (0,0))]::ch11::ch12::QB [] 4 l) l_∧Own Zc 33 μ_ (.slice A22 out3.length c20) out3 ch11∧Own QH 3 μ_ (.slice A23 costs3.length c21) costs3 ch12) ?_ ?_
      ·intro _ h25681 hb25672;refine G1 12 [0,1] E (Cl E ?_);obtain ⟨⟨r4,_⟩,hx3,h25681⟩:=Qi h25681;replace h25681:=Qj h25681;refine QdR hl1 hA1 hl2 hA2 hl3 hA3 hl4 hA4 hl5 hA5 hx3 (fun _ A10 c10 A11 c11 hm_1 hl6 hA6 hl7 hA7=> ?_);replace hA1:=hA1.mono hm_1;replace hA2:=hA2.mono hm_1;replace hA3:=hA3.mono hm_1;replace hO1:=hO1.mono hm_1;replace hO3:=hO3.mono hm_1;replace hO4:=hO4.mono hm_1;refine Q0 3 E (Al E fun g3=>Q1 7 [0,1,0] E (Cl E ?_));obtain ⟨⟨r6,_⟩,hx4,h25681⟩:=Qi h25681;replace h25681:=Qj h25681;refine QaV hl1 hA1 hl2 hA2 hl3 hA3 hl6 hA6 hl7 hA7 hx4 ((Q0 8 E ?_));refine Cut h25681 (fun f l o_ f_ μ_ l_=> ∃(v4:Bool),v4=o_∧Qg ((75,.bool v4)::Qk [2,3,7,9,10,11,13,15,34,35,40,41] f) f_∧Qd (QB [some 1,some 2,some 3,some 4,some 0] 5 l) l_) ?_ ?_
       ·intro _ h25688 h25681;refine G0 4 E ?_;refine Br h25688 60 E E (fun hc4 h25688=> ?_) (fun hc4 h25688=> ?_)
        ·refine G2 16 [60,64] [] [] E ?_;cases h25688;exact Ce E ⟨_,rfl,fE E,sE [some 1,some 2,some 3,some 4,some 0] 5 E⟩
        refine G2 4 [] [60] [] E ?_;refine Br h25688 64 E E (fun hc5 h25688=> ?_) (fun hc5 h25688=> ?_)
        ·refine G2 12 [64] [] [] E ?_;cases h25688;exact Ce E ⟨_,rfl,fE E,sE [some 1,some 2,some 3,some 4,some 0] 5 E⟩
        refine G2 8 [] [64] [0,2] E (Cl E ?_);obtain ⟨_,hx5,h25688⟩:=Qi h25688;refine Qay  hx5 ((Q2 3 [] [64] [] E ?_));cases h25688;exact Ce E ⟨_,rfl,fE E,sE [some 1,some 2,some 3,some 4,some 0] 5 E⟩
       rintro _ _ _ _ h25681 hm25688 ⟨v4,rfl,hF25688,hS25688⟩;replace hO1:=hO1.mono hm25688;replace hO3:=hO3.mono hm25688;replace hO4:=hO4.mono hm25688;replace hA6:=hA6.mono hm25688;replace hA7:=hA7.mono hm25688;refine Atn 5 hF25688 hS25688 E E ?_;refine Br h25681 75 E E (fun hc6 h25681=> ?_) (fun hc6 h25681=> ?_)
       ·refine G2 2 [75] [] [] E ?_;cases h25681;exact Ce E ⟨_,_,A8,c8,ch3,A9,c9,ch4,rfl,fE E,sE [some 0,some 1,some 2,some 3] 5 E,(hO3),(hO4)⟩
       refine G2 9 [] [75] [] E ?_;refine Cut h25681 (fun f l o_ f_ μ_ l_=> ∃(f_at2:Int),f_at2=o_∧Qg ((17,.int .i64 f_at2)::Qk [2,3,7,9,10,11,13,15,34,35,40,41] f) f_∧Qd l l_) ?_ ?_
       ·intro _ h25695 h25681;refine Lp h25695 (fun f l (f_at1:Int) f_ μ_ l_=>Qg ((17,.int .i64 f_at1)::Qk [2,3,7,9,10,11,13,15,34,35,40,41] f) f_∧Qd l l_) ⟨fE E,sE [some 0,some 1,some 2,some 3,some 4] 5 E⟩ ?_;rintro f_at1 _ _ _ _ hm25725 ⟨hF25725,hS25725⟩ hb25725 hq25725;unfold YW at hb25725;replace hO1:=hO1.mono hm25725;replace hO3:=hO3.mono hm25725;replace hO4:=hO4.mono hm25725;replace hA6:=hA6.mono hm25725;replace hA7:=hA7.mono hm25725;refine Atn 5 hF25725 hS25725 E E (G0 2 E ?_);refine Cut hb25725 (fun f l o_ f_ μ_ l_=> ∃(v5:Bool),v5=o_∧Qg ((98,.bool v5)::Qk [2,3,7,9,10,11,13,15,17,34,35,40,41] f) f_∧Qd l l_) ?_ ?_
        ·intro _ h25739 hb25725;refine Dr _ Qz.refl [(true,0),(true,1),(true,2),(true,3),(true,4),(true,5),(true,6),(true,7),(true,8),(true,9),(true,10),(true,11),(true,12),(true,13),(true,14),(true,15),(true,16),(true,17),(true,18),(false,19),(true,20)] (by kernel_rfl) (G0 3 E ?_);refine Br h25739 80 E E (fun hc7 h25739=> ?_) (fun hc7 h25739=> ?_)
         ·refine G2 7 [80] [] [4] E (Ix h25739 (Own.rds (L:=([(g1,.cells #[.int .i64 p1.Road.Nodes,.slice A1 p1.Road.Edges.length c1,.slice A2 p1.Vehicles.length c2,.slice A3 p1.Demands.length c3,.int .i64 p1.Unload,.int .i64 p1.UnloadSecs] 28 (0,0))]::[(g2,.cells #[.slice A4 x1.Tours.length c4,.slice A5 x1.Left.length c5] 33 (0,0))]::ch3::ch4::[(g3,.cells #[.slice A10 r4.Tours.length c10,.slice A11 r4.Left.length c11] 33 (0,0))]::L)) hO3 2 E) E E fun _ _ _ _ hr1 hc8 _ h25739=> ?_);obtain ⟨_,_,_,_,rfl,_,_,_,_⟩:=hr1;refine Q3 6 [80] [] [65] (Z1 hc8) E (Ix h25739 (Own.rds (L:=([(g1,.cells #[.int .i64 p1.Road.Nodes,.slice A1 p1.Road.Edges.length c1,.slice A2 p1.Vehicles.length c2,.slice A3 p1.Demands.length c3,.int .i64 p1.Unload,.int .i64 p1.UnloadSecs] 28 (0,0))]::[(g2,.cells #[.slice A4 x1.Tours.length c4,.slice A5 x1.Left.length c5] 33 (0,0))]::ch3::ch4::[(g3,.cells #[.slice A10 r4.Tours.length c10,.slice A11 r4.Left.length c11] 33 (0,0))]::L)) hO4 3 E) E E fun _ _ _ _ hr2 hc9 _ h25739=> ?_);obtain rfl:=hr2;refine Q3 1 [80] [] [64] (Z1 hc9) E (Cl E ?_);obtain ⟨_,hx8,h25739⟩:=Qi h25739;refine Qay  hx8 (?_);refine ⟨Qz.refl,?_⟩;refine Q2 2 [80] [] [] E ?_;cases h25739;exact Ce E ⟨_,rfl,fE E,sE [some 0,some 1,some 2,some 3,some 4] 5 E⟩
         refine G2 19 [] [80] [] E ?_;cases h25739;exact Ce E ⟨_,rfl,fE E,sE [some 0,some 1,some 2,some 3,some 4] 5 E⟩
        rintro _ _ _ _ hb25725 hm25739 ⟨v5,rfl,hF25739,hS25739⟩;replace hO1:=hO1.mono hm25739;replace hO3:=hO3.mono hm25739;replace hO4:=hO4.mono hm25739;replace hA6:=hA6.mono hm25739;replace hA7:=hA7.mono hm25739;refine Atn 5 hF25739 hS25739 E E ?_;refine Br hb25725 98 E E (fun hc10 hb25725=> ?_) (fun hc10 hb25725=> ?_)
        ·refine G2 9 [98] [] [] E ?_;cases hb25725;exact Ce E ⟨_,rfl,fE E,sE [some 0,some 1,some 2,some 3,some 4] 5 E⟩
        refine G2 2 [] [98] [] E ?_;cases hb25725;have hq_:=hq25725 _ E;subst hq_;exact Ce E ⟨_,rfl,fE E,sE [some 0,some 1,some 2,some 3,some 4] 5 E⟩
       rintro _ _ _ _ h25681 hm25695 ⟨f_at2,rfl,hF25695,hS25695⟩;replace hO1:=hO1.mono hm25695;replace hO3:=hO3.mono hm25695;replace hO4:=hO4.mono hm25695;replace hA6:=hA6.mono hm25695;replace hA7:=hA7.mono hm25695;refine Atn 5 hF25695 hS25695 E E (G0 2 E (So E (Y0 (z:=[]) E E E E E E E (YA (fun g4=> ?_)))));obtain ⟨_,hs1,h25681⟩:=Qi h25681;refine Q0 2 E (Rdo E E (Qa5 E E E E E E (Own.lenOk hO3).1 hs1 ?_));have hA12:=Rds.pre (Own.rds (L:=([(g4,.cells #[] 33 (0,0))]::[(g1,.cells #[.int .i64 p1.Road.Nodes,.slice A1 p1.Road.Edges.length c1,.slice A2 p1.Vehicles.length c2,.slice A3 p1.Demands.length c3,.int .i64 p1.Unload,.int .i64 p1.UnloadSecs] 28 (0,0))]::[(g2,.cells #[.slice A4 x1.Tours.length c4,.slice A5 x1.Left.length c5] 33 (0,0))]::ch3::ch4::[(g3,.cells #[.slice A10 r4.Tours.length c10,.slice A11 r4.Left.length c11] 33 (0,0))]::L)) hO3 3 E) hs1;have hl10:=Qcr (Own.lenOk hO3) hs1;refine Q0 0 E (So E (Q7 E ?_));obtain ⟨_,hz1,h25681⟩:=Qi h25681;refine Yd (r:=Zc) QT E E E E (by decide) E E 0 E (Own.empty (r:=Zc) (e:=33) (g:=g4)) E hA12 hz1 fun _ _ _ hO5=>Q1 6 [5] E (So E (Y0 (z:=[.slice none 0 0,.slice none 0 0]) E E E E E E E (QR (cells':=[.slice A10 r4.Tours.length c10,.slice A11 r4.Left.length c11]) E E E E (YA (fun g5=>Q0 0 E (So E (Q7 E ?_)))))));obtain ⟨_,hz2,h25681⟩:=Qi h25681;refine Yd (r:=Zc) QT E E E E (by decide) E E 1 E hO5 E (Own.rds (Own.lit (r:=Zc) (e:=33) (g:=g5) (xs:=[r4]) (cs:=[.slice A10 r4.Tours.length c10,.slice A11 r4.Left.length c11]) (css:=[[.slice A10 r4.Tours.length c10,.slice A11 r4.Left.length c11]]) E (All2.cons (⟨A10,c10,A11,c11,E,hl6,hA6,hl7,hA7⟩) (All2.nil)) E E) 0 E) hz2 fun _ _ ch6 hO6=> ?_;obtain ⟨_,hs2,h25681⟩:=Qi h25681;refine Q0 7 E (Rdo E E (QcH (r:=Zc) E E E E E E E (Own.lenOk hO3).1 hs2 fun _ hAe1=> ?_));have hA13:=Rds.sub (Own.rds (L:=([(g5,.cells #[.slice A10 r4.Tours.length c10,.slice A11 r4.Left.length c11] 33 (0,0))]::ch6::[(g1,.cells #[.int .i64 p1.Road.Nodes,.slice A1 p1.Road.Edges.length c1,.slice A2 p1.Vehicles.length c2,.slice A3 p1.Demands.length c3,.int .i64 p1.Unload,.int .i64 p1.UnloadSecs] 28 (0,0))]::[(g2,.cells #[.slice A4 x1.Tours.length c4,.slice A5 x1.Left.length c5] 33 (0,0))]::ch3::ch4::[(g3,.cells #[.slice A10 r4.Tours.length c10,.slice A11 r4.Left.length c11] 33 (0,0))]::L)) hO3 4 E) (Own.lenOk hO3).1 hs2 hAe1;have hl11:=QeN (Own.lenOk hO3) hs2;refine Q0 0 E (So E (Q7 E ?_));obtain ⟨_,hz3,h25681⟩:=Qi h25681;refine Yd (r:=Zc) QT E E E E (by decide) E E 1 E hO6 E hA13 hz3 fun A17 c16 ch7 hO7=>Q0 4 E (So E (Y0 (z:=[]) E E E E E E E (YA (fun g6=> ?_))));obtain ⟨_,hs3,h25681⟩:=Qi h25681;refine Q0 2 E (Rdo E E (Qa5 E E E E E E (Own.lenOk hO4).1 hs3 ?_));have hA14:=Rds.pre (Own.rds (L:=([(g6,.cells #[] 3 (0,0))]::[(g5,.cells #[.slice A10 r4.Tours.length c10,.slice A11 r4.Left.length c11] 33 (0,0))]::ch7::[(g1,.cells #[.int .i64 p1.Road.Nodes,.slice A1 p1.Road.Edges.length c1,.slice A2 p1.Vehicles.length c2,.slice A3 p1.Demands.length c3,.int .i64 p1.Unload,.int .i64 p1.UnloadSecs] 28 (0,0))]::[(g2,.cells #[.slice A4 x1.Tours.length c4,.slice A5 x1.Left.length c5] 33 (0,0))]::ch3::ch4::[(g3,.cells #[.slice A10 r4.Tours.length c10,.slice A11 r4.Left.length c11] 33 (0,0))]::L)) hO4 6 E) hs3;have hl12:=Qcr (Own.lenOk hO4) hs3;refine Q0 0 E (So E (Q7 E ?_));obtain ⟨_,hz4,h25681⟩:=Qi h25681;refine Yd (r:=QH) QT E E E E (by decide) E E 0 E (Own.empty (r:=QH) (e:=3) (g:=g6)) E hA14 hz4 fun _ _ _ hO8=>Q0 6 E (So E (Y0 (z:=[.int .i64 0]) E E E E E E E (QR (cells':=[.int .i64 r6]) E E E E (YA (fun g7=>Q0 0 E (So E (Q7 E ?_)))))));obtain ⟨_,hz5,h25681⟩:=Qi h25681;refine Yd (r:=QH) QT E E E E (by decide) E E 1 E hO8 E (Own.rds (Own.lit (r:=QH) (e:=3) (g:=g7) (xs:=[r6]) (cs:=[.int .i64 r6]) (css:=[[.int .i64 r6]]) E (All2.cons (E) (All2.nil)) E E) 0 E) hz5 fun _ _ ch9 hO9=> ?_;obtain ⟨_,hs4,h25681⟩:=Qi h25681;refine Q0 6 E (Rdo E E (QcH (r:=QH) E E E E E E E (Own.lenOk hO4).1 hs4 fun _ hAe2=> ?_))
       have hA15:=Rds.sub (Own.rds (L:=([(g7,.cells #[.int .i64 r6] 3 (0,0))]::ch9::[(g5,.cells #[.slice A10 r4.Tours.length c10,.slice A11 r4.Left.length c11] 33 (0,0))]::ch7::[(g1,.cells #[.int .i64 p1.Road.Nodes,.slice A1 p1.Road.Edges.length c1,.slice A2 p1.Vehicles.length c2,.slice A3 p1.Demands.length c3,.int .i64 p1.Unload,.int .i64 p1.UnloadSecs] 28 (0,0))]::[(g2,.cells #[.slice A4 x1.Tours.length c4,.slice A5 x1.Left.length c5] 33 (0,0))]::ch3::ch4::[(g3,.cells #[.slice A10 r4.Tours.length c10,.slice A11 r4.Left.length c11] 33 (0,0))]::L)) hO4 7 E) (Own.lenOk hO4).1 hs4 hAe2;have hl13:=QeN (Own.lenOk hO4) hs4;refine Q0 0 E (So E (Q7 E ?_));obtain ⟨_,hz6,h25681⟩:=Qi h25681;refine Yd (r:=QH) QT E E E E (by decide) E E 1 E hO9 E hA15 hz6 fun A21 c19 ch10 hO10=>Q0 3 E ?_;cases h25681;exact Ce E ⟨_,_,A17,c16,ch7,A21,c19,ch10,rfl,fE E,sE [some 4,some 5,some 3,some 1] 9 E,(hO7),(hO10)⟩
      rintro _ _ _ _ hb25672 hm25681 ⟨out3,costs3,A22,c20,ch11,A23,c21,ch12,rfl,hF25681,hS25681,hO11,hO12⟩;replace hb25672:=Qj hb25672;replace hO1:=hO1.mono hm25681;replace hO3:=hO3.mono hm25681;replace hO4:=hO4.mono hm25681;refine Atn 4 hF25681 hS25681 E E (G0 4 E ?_);cases hb25672;exact Ce E ⟨_,rfl,A22,c20,ch11,A23,c21,ch12,fE E,sE [some 0,some 1,some 2,some 3] 4 E,(hO11),(hO12)⟩
     refine G2 2 [] [42] [] E ?_;cases hb25672;have hq_:=hq25672 _ E;subst hq_;exact Ce E ⟨_,_,A8,c8,ch3,A9,c9,ch4,rfl,fE E,sE [some 0,some 1,some 2,some 3] 4 E,(hO3),(hO4)⟩
    rintro _ _ _ _ h25560 hm25561 ⟨out4,costs4,A24,c22,ch13,A25,c23,ch14,rfl,hF25561,hS25561,hO13,hO14⟩;replace h25560:=Qj h25560;replace hO1:=hO1.mono hm25561;refine G0 1 E ?_;cases h25560;exact Ce E ⟨_,_,A24,c22,ch13,A25,c23,ch14,rfl,hF25561.tr E,hS25561.tr (sE [some 0,some 1,some 2,some 3] 4 E),(hO13),(hO14)⟩
   rintro _ _ _ _ hb25549 hm25560 ⟨out5,costs5,A26,c24,ch15,A27,c25,ch16,rfl,hF25560,hS25560,hO15,hO16⟩;replace hb25549:=Qj hb25549;replace hO1:=hO1.mono hm25560;refine Atn 4 hF25560 hS25560 E E (G0 4 E ?_);cases hb25549;exact Ce E ⟨_,rfl,A26,c24,ch15,A27,c25,ch16,fE E,sE [some 0,some 1,some 2,some 3] 4 E,(hO15),(hO16)⟩
  refine G2 2 [] [36] [] E ?_;cases hb25549;have hq_:=hq25549 _ E;subst hq_;exact Ce E ⟨_,A6,c6,ch1,rfl,fE E,sE [some 2] 4 E,(hO1)⟩
 rintro _ _ _ _ h hm25279 ⟨out6,A28,c26,ch17,rfl,hF25279,hS25279,hO17⟩;refine Atn 1 hF25279 hS25279 E E (G0 6 E ?_);cases h;exact Rt [] E E (Ug [[0]] 1 (hR _ A28 c26 ch17 hm25279 hO17))
end Go.Proofs.YthpgjbbjpfiniaaGreat
namespace Go.Proofs.YthpgjbbjpfiniaaGreat
open Go.RowKit
set_option linter.unusedSimpArgs false
set_option linter.unusedVariables false
set_option maxHeartbeats 2000000
set_option maxRecDepth 4000
attribute [local irreducible] WP Zw Qap Fn AN Upd vcR vcO QbY Jf Jb Qaw QaZ QbU QaF Wr Qck Qz KS
variable {μ:Gh} {L:List Seg} {R:Value→Gh→List Seg→Prop}
theorem Qbo {F:Nat} {p1:Qe} {x1:Qf} {A1:Option Addr} {c1:Nat} {A2:Option Addr} {c2:Nat} {A3:Option Addr} {c3:Nat} {A4:Option Addr} {c4:Nat} {A5:Option Addr} {c5:Nat} {res1:Bool}
  (hl1:p1.Road.Edges.length≤c1∧c1≤maxLen) (hA1:Qq QE μ A1 p1.Road.Edges) (hl2:p1.Vehicles.length≤c2∧c2≤maxLen) (hA2:Qq Qy μ A2 p1.Vehicles) (hl3:p1.Demands.length≤c3∧c3≤maxLen) (hA3:Qq QA μ A3 p1.Demands) (hl4:x1.Tours.length≤c4∧c4≤maxLen) (hA4:Qq Qs μ A4 x1.Tours) (hl5:x1.Left.length≤c5∧c5≤maxLen) (hA5:Qq QH μ A5 x1.Left) (h:Zk F p1 x1=some res1)
  (hR: ∀(μ':Gh) ,μ.le μ'→R (.bool res1) μ' (L)) :
  Fn Tryz.prog 4 [.agg #[.int .i64 p1.Road.Nodes,.slice A1 p1.Road.Edges.length c1,.slice A2 p1.Vehicles.length c2,.slice A3 p1.Demands.length c3,.int .i64 p1.Unload,.int .i64 p1.UnloadSecs],.agg #[.slice A4 x1.Tours.length c4,.slice A5 x1.Left.length c5]] μ (L) R:=by
 unfold Zk at h;refine FnS Tryz.func4 (by kernel_rfl) E Tryz.ntmps4 E E ?_;refine G0 2 E (Al E fun _=>Q0 0 E (Al E fun _=>Q1 7 [1,0] E (Cl E ?_)));obtain ⟨_,hx1,h⟩:=Qi h;refine Qdq hl1 hA1 hl2 hA2 hl3 hA3 hl4 hA4 hl5 hA5 hx1 ((Q0 1 E ?_));refine Br h 12 E E (fun hc1 h=> ?_) (fun hc1 h=> ?_)
 ·refine G2 3 [12] [] [] E (Cl E ?_);obtain ⟨_,hx2,h⟩:=Qi h;refine QaS  hx2 (fun _ hm_1=> ?_);replace hA1:=hA1.mono hm_1;replace hA2:=hA2.mono hm_1;replace hA3:=hA3.mono hm_1;replace hA4:=hA4.mono hm_1;replace hA5:=hA5.mono hm_1;refine Q0 2 E ?_;cases h;exact Rt [] E E (Ug [] 2 (hR _ hm_1))
 refine G2 6 [] [12] [1,0] E (Cl E ?_);obtain ⟨⟨_,_⟩,hx3,h⟩:=Qi h;replace h:=Qj h;refine Qba hl1 hA1 hl2 hA2 hl3 hA3 hl4 hA4 hl5 hA5 hx3 (fun _ _ _ ch1 hm_2 hO1=> ?_);replace hA1:=hA1.mono hm_2;replace hA2:=hA2.mono hm_2;replace hA3:=hA3.mono hm_2;replace hA4:=hA4.mono hm_2;replace hA5:=hA5.mono hm_2;refine Q1 10 [2,1] E (Cl E ?_);obtain ⟨⟨_,_⟩,hx4,h⟩:=Qi h;replace h:=Qj h;refine Qdr hl1 hA1 hl2 hA2 hl3 hA3 hl4 hA4 hl5 hA5 hx4 (fun _ _ _ ch2 hm_3 hO2=> ?_);replace hO1:=hO1.mono hm_3;refine Q0 8 E ?_;refine Cut h (fun f l o_ f_ μ_ l_=> ∃(v4:Bool),v4=o_∧Qg ((35,.bool v4)::Qk [5,7] f) f_∧Qd (QB [some 1,some 0] 4 l) l_) ?_ ?_
 ·intro _ h25996 h;refine G0 5 E ?_;refine Br h25996 29 E E (fun hc2 h25996=> ?_) (fun hc2 h25996=> ?_)
  ·refine G2 7 [29] [] [] E ?_;cases h25996;exact Ce E ⟨_,rfl,fE E,sE [some 1,some 0] 4 E⟩
  refine G2 7 [] [29] [] E ?_;cases h25996;exact Ce E ⟨_,rfl,fE E,sE [some 1,some 0] 4 E⟩
 rintro _ _ _ _ h hm25996 ⟨v4,rfl,hF25996,hS25996⟩;replace hO1:=hO1.mono hm25996;replace hO2:=hO2.mono hm25996;refine Atn 2 hF25996 hS25996 E E ?_;refine Br h 35 E E (fun hc3 h=> ?_) (fun hc3 h=> ?_)
 ·refine G2 5 [35] [] [] E ?_;cases h;exact Rt [] E E (Ug [] 2 (hR _ (hm_2.trans (hm_3.trans hm25996))))
 refine G2 9 [] [35] [] E ?_;refine Cut h (fun f l o_ f_ μ_ l_=>(.inl ())=o_∧Qg ([]) f_∧Qd (QB [] 2 l) l_) ?_ ?_
 ·intro _ h25997 h;refine Lp h25997 (fun f l (v5:Int) f_ μ_ l_=>Qg ((38,.int .i64 v5)::Qk [5,7,37] f) f_∧Qd l l_) ⟨fE E,sE [some 0,some 1] 2 E⟩ ?_;rintro v5 _ _ _ _ hm26023 ⟨hF26023,hS26023⟩ hb26023 hq26023;unfold ZH at hb26023;replace hO1:=hO1.mono hm26023;replace hO2:=hO2.mono hm26023;refine Atn 2 hF26023 hS26023 E E (G0 5 E ?_);refine Br hb26023 39 E E (fun hc4 hb26023=> ?_) (fun hc4 hb26023=> ?_)
  ·refine G2 10 [39] [] [] E (Dr _ Qz.refl [(true,0),(true,1),(true,2),(true,3),(true,4),(true,5),(true,6),(true,7),(false,8),(true,9)] (by kernel_rfl) (G0 2 E (Ix hb26023 (Own.rds (L:=(ch1::ch2::L)) hO1 0 E) E E fun _ _ _ _ hr1 hc5 _ hb26023=> ?_)));obtain ⟨_,_,_,_,rfl,hl6,hA7,hl7,hA8⟩:=hr1;refine Q3 3 [] [] [64] (Z1 hc5) E (Ix hb26023 (Own.rds (L:=(ch1::ch2::L)) hO2 1 E) E E fun _ _ _ _ hr2 hc6 _ hb26023=> ?_);obtain ⟨_,_,_,_,rfl,hl8,hA10,hl9,hA11⟩:=hr2;refine Q3 1 [] [] [64] (Z1 hc6) E (Cl E ?_);obtain ⟨_,hx7,hb26023⟩:=Qi hb26023;refine WM hl6 hA7 hl7 hA8 hl8 hA10 hl9 hA11 hx7 (?_);refine ⟨Qz.refl,?_⟩;refine Q0 2 E ?_;refine Br hb26023 50 E E (fun hc7 hb26023=> ?_) (fun hc7 hb26023=> ?_)
   ·refine G2 5 [50] [] [] E ?_;cases hb26023;have hq_:=hq26023 _ E;subst hq_;replace h:=Yc h;cases h;exact Rt [] E E (Ug [] 2 (hR _ (hm_2.trans (hm_3.trans (hm25996.trans hm26023)))))
   refine G2 7 [] [50] [] E ?_;cases hb26023;exact Ce E ⟨_,rfl,fE E,sE [some 0,some 1] 2 E⟩
  refine G2 2 [] [39] [] E ?_;cases hb26023;have hq_:=hq26023 _ E;subst hq_;exact Ce E ⟨rfl,fE E,sE [] 2 E⟩
 rintro _ _ _ _ h hm25997 ⟨rfl,hF25997,hS25997⟩;replace h:=Yr h;refine Atn 0 hF25997 hS25997 E E (G0 2 E (Cl E ?_));obtain ⟨_,hx8,h⟩:=Qi h;refine QaS  hx8 (fun _ hm_4=> ?_);refine Q0 2 E ?_;cases h;exact Rt [] E E (Ug [] 0 (hR _ (hm_2.trans (hm_3.trans (hm25996.trans (hm25997.trans hm_4))))))
end Go.Proofs.YthpgjbbjpfiniaaGreat
namespace Go.Proofs.YthpgjbbjpfiniaaGreat
set_option linter.unusedSimpArgs false
set_option linter.unusedVariables false
theorem Qf0 {τ ρ:Type} {body:τ→Option (τ⊕ρ)} (I:Nat→τ→ρ→Prop)
  (h: ∀n t o,I n t o→(∃t' n',body t=some (.inl t')∧n'<n∧I n' t' o)∨body t=some (.inr o)): ∀(fuel n:Nat) (t:τ) (o:ρ),I n t o→n<fuel→iter body fuel t=some o
 | 0,_,_,_,_,hm=>by omega
 | f+1,n,t,o,hI,hm=>by
  rcases h n t o hI with ⟨t',n',h1,h2,h3⟩ | h1
  ·simp only[iter,h1,Option.bind_some,QI]
   exact Qf0 I h f n' t' o h3 (by omega)
  ·simp only[iter,h1,Option.bind_some,QI]
theorem Qgy {σ ρ:Type} {body:σ→Option (σ⊕ρ)}: ∀{n m:Nat} {s:σ} {r:ρ},iter body n s=some r→n≤m→iter body m s=some r
 | 0,_,_,_,h,_=>by cases h
 | n+1,0,_,_,_,hm=>by omega
 | n+1,m+1,s,r,h,hm=>by
  simp only[iter] at h ⊢
  cases hb:body s with
  | none=>rw[hb] at h;cases h
  | some q =>
   rw[hb] at h
   cases q with
   | inl s'=>exact Qgy (n:=n) (m:=m) h (by omega)
   | inr r'=>exact h
theorem Qt {α:Type} (xs:List α) (k:Nat):getI xs (k:Int)=xs[k]? :=by simp[getI]
theorem Qni {α:Type} {xs:List α} {k:Nat} (h:k<xs.length):getI xs (k:Int)=some xs[k]:=by rw[Qt];simp[h]
theorem Yj {n:Int} (h1: -9223372036854775808≤n) (h2:n≤9223372036854775807):w64 n=n:=QqG h1 h2
theorem Wq {k:Nat} (h:k<9223372036854775807):w64 ((k:Int)+1)=((k+1:Nat):Int):=by rw[Yj (by omega) (by omega)];omega
theorem Ym {α:Type} {xs ys:List α} (h:xs.length+ys.length≤1000000):Z7 xs ys=some (xs++ys):=by simp[Z7,h]
theorem QaQ {p:Prop} [Decidable p] (h:p):WK p=some ():=by simp[WK,h]
def each {α σ ρ:Type} (step:σ→α→σ⊕ρ) (fin:σ→ρ):List α→σ→ρ
 | [],s=>fin s
 | x::r,s=>match step s x with
  | .inl s'=>each step fin r s'
  | .inr o=>o
def Jj {τ ρ:Type} (o:Option ρ) (t:τ):τ⊕ρ:=match o with
 | none=> .inl t
 | some r=> .inr r
@[simp] theorem QqB {τ ρ:Type} (t:τ):Jj (none:Option ρ) t= .inl t:=rfl
@[simp] theorem QqC {τ ρ:Type} (r:ρ) (t:τ):Jj (some r) t= .inr r:=rfl
def Qqs {σ τ ρ:Type} (f:σ→τ) (q:σ⊕ρ):τ⊕ρ:=match q with
 | .inl s=> .inl (f s)
 | .inr r=> .inr r
@[simp] theorem Qrd {σ τ ρ:Type} (f:σ→τ) (s:σ):Qqs f (.inl s:σ⊕ρ)= .inl (f s):=rfl
@[simp] theorem Qre {σ τ ρ:Type} (f:σ→τ) (r:ρ):Qqs f (.inr r:σ⊕ρ)= .inr r:=rfl
theorem Qje {α σ τ ρ:Type} (xs:List α) (mk:σ→Int→τ) {body:τ→Option (τ⊕ρ)} (step:σ→α→σ⊕ρ) (fin:σ→ρ) (I:σ→Nat→Prop) (hn:xs.length<9223372036854775807)
  (hb: ∀(k:Nat) (x:α) (s:σ),xs[k]? =some x→I s k→body (mk s (k:Int))=some (Qqs (fun s'=>mk s' (w64 ((k:Int)+1))) (step s x))∧ ∀s',step s x= .inl s'→I s' (k+1))
  (hf: ∀s,I s xs.length→body (mk s (xs.length:Int))=some (.inr (fin s))): ∀(n:Nat) (s:σ),I s 0→xs.length<n→iter body n (mk s 0)=some (each step fin xs s):=by
 intro n s hs hlt;refine Qf0 (fun m t o=> ∃(s:σ) (k:Nat),t=mk s k∧m=xs.length-k∧k≤xs.length∧I s k∧each step fin (xs.drop k) s=o) ?_ n xs.length (mk s 0) _ ⟨s,0,rfl,by simp,Nat.zero_le _,hs,by simp⟩ hlt;rintro m _ o ⟨s,k,rfl,rfl,hk,hI,ho⟩;rcases Nat.lt_or_ge k xs.length with hlt | hge
 ·obtain ⟨h1,h2⟩:=hb k xs[k] s (by simp[hlt]) hI
  rw[List.drop_eq_getElem_cons hlt,each] at ho
  cases hs:step s xs[k] with
  | inl s' =>
   rw[hs] at h1 ho
   exact .inl ⟨_,xs.length-(k+1),h1,by omega,s',k+1,by rw[Wq (by omega)],rfl,hlt,h2 s' hs,ho⟩
  | inr o' =>
   rw[hs] at h1 ho
   exact .inr (by rw[h1];exact congrArg (fun z=>some (Sum.inr z)) ho)
 ·obtain rfl:k=xs.length:=by omega
  rw[List.drop_length] at ho
  exact .inr (by rw[hf s hI];exact congrArg (fun z=>some (Sum.inr z)) ho)
def first {α ρ:Type} (step:α→Option ρ) (fin:ρ):List α→ρ
 | []=>fin
 | x::r=>match step x with
  | none=>first step fin r
  | some o=>o
theorem Qcp {α ρ:Type} (xs:List α) {body:Int→Option (Int⊕ρ)} (step:α→Option ρ) (fin:ρ) (hn:xs.length<9223372036854775807)
  (hb: ∀(k:Nat) (x:α),xs[k]? =some x→body (k:Int)=some (Jj (step x) (w64 ((k:Int)+1))))
  (hf:body (xs.length:Int)=some (.inr fin)): ∀(n:Nat),xs.length<n→iter body n 0=some (first step fin xs):=by
 intro n hlt;have:=Qje xs (fun (_:Unit) k=>k) (body:=body) (fun _ x=>Jj (step x) ()) (fun _=>fin) (fun _ _=>True) hn
  (fun k x s hx _=>⟨by rw[hb k x hx];cases step x<;>rfl,fun _ _=>trivial⟩) (fun _ _=>hf) n () trivial hlt
 rw[this]
 congr 1
 clear this hb hf hlt hn
 induction xs with
 | nil=>rfl
 | cons x r ih =>
  simp only[each,first]
  cases step x<;>simp[ih]
end Go.Proofs.YthpgjbbjpfiniaaGreat
namespace Go.Proofs.YthpgjbbjpfiniaaGreat
set_option linter.unusedSimpArgs false
set_option linter.unusedVariables false
theorem Qv {α:Type} {l:List α} {k:Nat} {x:α} (h:l[k]? =some x):k<l.length:=by
 rcases Nat.lt_or_ge k l.length with h2 | h2
 ·exact h2
 ·rw[List.getElem?_eq_none h2] at h;cases h
theorem QmF {α:Type} {l:List α} {i:Int} (h0:0≤i) (h1:i<(l.length:Nat)): ∃x,getI l i=some x:=by
 obtain ⟨k,rfl⟩: ∃k:Nat,i=k:=⟨i.toNat,by omega⟩
 exact ⟨_,Qni (by omega)⟩
def YM {α ρ:Type} (step:Nat→α→Option ρ) (fin:ρ):Nat→List α→ρ
 | _,[]=>fin
 | k,x::r=>match step k x with
  | none=>YM step fin (k+1) r
  | some o=>o
theorem YQ {α ρ:Type} (xs:List α) {body:Int→Option (Int⊕ρ)} (step:Nat→α→Option ρ) (fin:ρ) (hn:xs.length<9223372036854775807)
  (hb: ∀(k:Nat) (x:α),xs[k]? =some x→body (k:Int)=some (Jj (step k x) (w64 ((k:Int)+1))))
  (hf:body (xs.length:Int)=some (.inr fin)): ∀(n:Nat),xs.length<n→iter body n 0=some (YM step fin 0 xs):=by
 intro n hlt;refine Qf0 (fun m t o=> ∃k:Nat,t=(k:Int)∧m=xs.length-k∧k≤xs.length∧YM step fin k (xs.drop k)=o) ?_ n xs.length 0 _ ⟨0,rfl,by simp,Nat.zero_le _,by simp⟩ hlt;rintro m _ o ⟨k,rfl,rfl,hk,ho⟩;rcases Nat.lt_or_ge k xs.length with hlt | hge
 ·have h1:=hb k xs[k] (by simp[hlt])
  rw[List.drop_eq_getElem_cons hlt,YM] at ho
  cases hs:step k xs[k] with
  | none =>
   rw[hs] at h1 ho
   exact .inl ⟨_,xs.length-(k+1),h1,by omega,k+1,by rw[Wq (by omega)],rfl,hlt,ho⟩
  | some r =>
   rw[hs] at h1 ho
   exact .inr (by rw[h1];exact congrArg (fun z=>some (Sum.inr z)) ho)
 ·obtain rfl:k=xs.length:=by omega
  rw[List.drop_length] at ho
  exact .inr (by rw[hf];exact congrArg (fun z=>some (Sum.inr z)) ho)
theorem QW {α ρ:Type} {step:Nat→α→Option ρ} {fin:ρ}: ∀(l:List α) (k:Nat),(∀(i:Nat) (x:α),l[i]? =some x→step (k+i) x=none)→YM step fin k l=fin
 | [],_,_=>rfl
 | x::l,k,h=>by
  have h0:=h 0 x rfl
  rw[Nat.add_zero] at h0
  simp only[YM,h0]
  exact QW l (k+1) fun i y hy=>by
   have:=h (i+1) y (by simpa using hy)
   rwa [show k+(i+1)=k+1+i by omega] at this
theorem Y2 {α σ τ ρ:Type} (xs:List α) (st:Nat→σ) (mk:σ→Int→τ) {body:τ→Option (τ⊕ρ)} (step:Nat→α→Option ρ) (fin:ρ) (hn:xs.length<9223372036854775807)
  (hb: ∀(k:Nat) (x:α),xs[k]? =some x→(∀(j:Nat) (y:α),j<k→xs[j]? =some y→step j y=none)→body (mk (st k) (k:Int))=some (Jj (step k x) (mk (st (k+1)) (w64 ((k:Int)+1)))))
  (hf:(∀(j:Nat) (y:α),xs[j]? =some y→step j y=none)→body (mk (st xs.length) (xs.length:Int))=some (.inr fin)): ∀(n:Nat),xs.length<n→iter body n (mk (st 0) 0)=some (YM step fin 0 xs):=by
 intro n hlt;refine Qf0 (fun m t o=> ∃k:Nat,t=mk (st k) (k:Int)∧m=xs.length-k∧k≤xs.length∧(∀(j:Nat) (y:α),j<k→xs[j]? =some y→step j y=none)∧YM step fin k (xs.drop k)=o) ?_ n xs.length _ _ ⟨0,rfl,by simp,Nat.zero_le _,fun j y hj=>absurd hj (Nat.not_lt_zero _),by simp⟩ hlt;rintro m _ o ⟨k,rfl,rfl,hk,hno,ho⟩;rcases Nat.lt_or_ge k xs.length with hlt | hge
 ·have h1:=hb k xs[k] (by simp[hlt]) hno
  rw[List.drop_eq_getElem_cons hlt,YM] at ho
  cases hs:step k xs[k] with
  | none =>
   rw[hs] at h1 ho
   refine .inl ⟨_,xs.length-(k+1),h1,by omega,k+1,by rw[Wq (by omega)],rfl,hlt,fun j y hj hy=> ?_,ho⟩;rcases Nat.lt_or_ge j k with h | h
   ·exact hno j y h hy
   ·obtain rfl:j=k:=by omega
    rw[List.getElem?_eq_getElem hlt] at hy
    injection hy with hy;rw[←hy];exact hs
  | some r =>
   rw[hs] at h1 ho
   exact .inr (by rw[h1];exact congrArg (fun z=>some (Sum.inr z)) ho)
 ·obtain rfl:k=xs.length:=by omega
  rw[List.drop_length] at ho
  exact .inr (by rw[hf fun j y hy=>hno j y (Qv hy) hy];exact congrArg (fun z=>some (Sum.inr z)) ho)
theorem YO {α:Type} {l:List α} {k:Nat} {x:α} (hx:l[k]? =some x):l.take (k+1)=l.take k++[x]:=by rw[List.take_add_one,hx];rfl
theorem Yn {α:Type} {l:List α} {k:Nat} (h:k≤l.length):(l.take k).length=k:=by simp;omega
def QaB {α:Type} (f:α→Int) (l:List α):Int:=(l.map f).sum
@[simp] theorem QqI {α:Type} (f:α→Int):QaB f []=0:=rfl
@[simp] theorem Qiz {α:Type} (f:α→Int) (x:α) (l:List α):QaB f (x::l)=f x+QaB f l:=by simp[QaB]
theorem Qb9 {α:Type} (f:α→Int): ∀(a b:List α),QaB f (a++b)=QaB f a+QaB f b
 | [],b=>by simp
 | x::a,b=>by simp only[List.cons_append,Qiz,Qb9 f a b];omega
theorem QgY {α:Type} {f:α→Int} {B:Int}: ∀{l:List α},(∀x∈l,0≤f x∧f x≤B)→0≤QaB f l∧QaB f l≤l.length*B
 | [],_=>by simp
 | x::l,h=>by
  have h1:=h x (by simp);have h2:=QgY (l:=l) fun y hy=>h y (by simp[hy])
  rw[Qiz,List.length_cons]
  have:((l.length+1:Nat):Int)*B=l.length*B+B:=by rw[Int.natCast_add,Int.add_mul];simp
  rw[this]
  omega
theorem Qig {β:Type} {k:Int} {v:β} (m:List (Int×β)):QaH k (Qdh k v m)=some v:=by
 induction m with
 | nil=>simp[Qdh,QaH]
 | cons p m ih =>
  obtain ⟨a,b⟩:=p
  by_cases h:a=k
  ·simp[Qdh,QaH,h]
  ·simp[Qdh,QaH,h,ih]
theorem QjY {β:Type} {k j:Int} {v:β} (h:j≠k) (m:List (Int×β)):QaH j (Qdh k v m)=QaH j m:=by
 induction m with
 | nil=>simp[Qdh,QaH];omega
 | cons p m ih =>
  obtain ⟨a,b⟩:=p
  by_cases h2:a=k
  ·subst h2;simp[Qdh,QaH,Ne.symm h]
  ·by_cases h3:a=j
   ·subst h3;simp[Qdh,QaH,h]
   ·simp[Qdh,QaH,h2,h3,ih]
theorem Qb3 {α ρ:Type} {step:Nat→α→Option ρ} {fin:ρ}: ∀(l:List α) (k:Nat),
  ((∀(i:Nat) (x:α),l[i]? =some x→step (k+i) x=none)∧YM step fin k l=fin) ∨
  (∃(i:Nat) (x:α) (o:ρ),l[i]? =some x∧step (k+i) x=some o∧YM step fin k l=o∧ ∀(j:Nat) (y:α),j<i→l[j]? =some y→step (k+j) y=none)
 | [],k=> .inl ⟨fun i x h=>by simp at h,rfl⟩
 | x::l,k=>by
  cases hs:step k x with
  | some o=>exact .inr ⟨0,x,o,rfl,hs,by simp[YM,hs],fun j y hj=>absurd hj (Nat.not_lt_zero _)⟩
  | none =>
   have hf:YM step fin k (x::l)=YM step fin (k+1) l:=by simp[YM,hs]
   rw[hf]
   rcases Qb3 (step:=step) (fin:=fin) l (k+1) with ⟨h1,h2⟩ | ⟨i,y,o,h1,h2,h3,h4⟩
   ·refine .inl ⟨fun i y hy=> ?_,h2⟩;cases i with
    | zero=>simp at hy;subst hy;simpa using hs
    | succ i=>have:=h1 i y (by simpa using hy);rwa [show k+1+i=k+(i+1) by omega] at this
   ·refine .inr ⟨i+1,y,o,by simpa using h1,by rwa [show k+1+i=k+(i+1) by omega] at h2,h3,fun j z hj hz=> ?_⟩;cases j with
    | zero=>simp at hz;subst hz;simpa using hs
    | succ j=>have:=h4 j z (by omega) (by simpa using hz);rwa [show k+1+j=k+(j+1) by omega] at this
theorem QcT {α:Type} [DecidableEq α]: ∀{l m:List α},l.Nodup→(∀x∈l,x∈m)→l.length≤m.length
 | [],_,_,_=>Nat.zero_le _
 | x::l,m,hn,h=>by
  rw[List.nodup_cons] at hn
  have hx:=h x (by simp);have:=QcT (l:=l) (m:=m.erase x) hn.2 fun y hy=>(List.mem_erase_of_ne (fun e=>hn.1 (by rw[←e];exact hy))).2 (h y (by simp[hy]))
  rw[List.length_erase_of_mem hx] at this
  have:0<m.length:=List.length_pos_of_mem hx
  simp only[List.length_cons]
  omega
end Go.Proofs.YthpgjbbjpfiniaaGreat
namespace Go.Proofs.YthpgjbbjpfiniaaGreat
open Go.RowKit
set_option linter.unusedSimpArgs false
set_option linter.unusedVariables false
theorem Zn (a b:Bool):(bif a then some true else some b)=some (a||b):=by cases a<;>rfl
theorem QnU (a b:Bool):(bif a then some b else some false)=some (a&&b):=by cases a<;>rfl
def QaI (r:QN) (x:QK):Prop:=0≤x.From∧x.From<r.Nodes∧0≤x.To∧x.To<r.Nodes∧x.From≠x.To∧1≤x.Meters∧x.Meters≤100000∧1≤x.Secs∧x.Secs≤100000
def Qdc (r:QN) (x:QK):Option (Unit⊕Int) :=
 bif (decide (x.From<0)||(decide (r.Nodes≤x.From)||(decide (x.To<0)||decide (r.Nodes≤x.To)))) then some (.inr 7)
 else bif (decide (x.From=x.To)||(decide (x.Meters<1)||(decide (100000<x.Meters)||(decide (x.Secs<1)||decide (100000<x.Secs))))) then some (.inr 1) else none
theorem QlD {r:QN} {x:QK} (h:Qdc r x=none):QaI r x:=by
 unfold Qdc at h
 simp only[cond_eq_ite,Bool.or_eq_true,decide_eq_true_eq] at h
 split at h
 ·cases h
 ·split at h
  ·cases h
  ·unfold QaI;omega
theorem QlE {r:QN} {x:QK} {o:Unit⊕Int} (h:Qdc r x=some o): ∃e,o= .inr e∧e≠0:=by
 unfold Qdc at h
 simp only[cond_eq_ite] at h
 split at h
 ·injection h with h;exact ⟨7,h.symm,by decide⟩
 ·split at h
  ·injection h with h;exact ⟨1,h.symm,by decide⟩
  ·cases h
theorem Qim (r:QN) (hn:r.Edges.length≤600) (n:Nat) (h:r.Edges.length<n):iter (YT r) n 0=some (YM (fun _ x=>Qdc r x) (.inl ()) 0 r.Edges):=by
 refine YQ r.Edges (fun _ x=>Qdc r x) (.inl ()) (by omega) (fun k x hx=> ?_) (by simp[YT]) n h;have hk:=Qv hx;have hk2:((k:Int)<(r.Edges.length:Nat)):=by omega
 simp only[YT,hk2,decide_true,cond_true,Qt,hx,Option.bind_some,Zn,Qdc]
 generalize (decide (x.From<0)||_)=a
 generalize (decide (x.From=x.To)||_)=b
 cases a<;>cases b<;>rfl
theorem QlP (r:QN) (hn:r.Edges.length≤600):Qbk r=some ⟨r.Nodes,r.Edges.map fun x=>⟨x.From,x.To⟩⟩:=by
 unfold Qbk;have:=Y2 (body:=VP r) r.Edges (fun k=>(r.Edges.take k).map fun x=>(⟨x.From,x.To⟩:Z4)) (fun m k=>(m,k)) (fun _ _=>none) (r.Edges.map fun x=>(⟨x.From,x.To⟩:Z4)) (by omega) (fun k x hx _=> ?_) (fun _=>by simp[VP,oun]) (((r.Edges.length:Nat):Int).toNat+1) (by simp)
 ·rw[show ((r.Edges.take 0).map fun x=>(⟨x.From,x.To⟩:Z4))=[] by simp] at this
  rw[this,QW _ _ (fun _ _ _=>rfl)]
  rfl
 ·have hk:=Qv hx;have hk2:((k:Int)<(r.Edges.length:Nat)):=by omega
  simp only[VP,oun,hk2,decide_true,cond_true,Qt,hx,Option.bind_some]
  rw[Ym (by simp;omega)]
  simp[YO hx,Jj]
theorem Qoc (r:QN) (hn:r.Edges.length≤512) (h1:1≤r.Nodes) (h2:r.Nodes≤64) (ho: ∀x∈r.Edges,QaI r x):QbI ⟨r.Nodes,r.Edges.map fun x=>⟨x.From,x.To⟩⟩=some 0:=by
 unfold QbI;have:=YQ (body:=V7 ⟨r.Nodes,r.Edges.map fun x=>⟨x.From,x.To⟩⟩) (r.Edges.map fun x=>(⟨x.From,x.To⟩:Z4)) (fun _ _=>none) (.inl ():Unit⊕Int) (by simp;omega) (fun k x hx=> ?_) (by simp[V7]) ((((r.Edges.map fun x=>(⟨x.From,x.To⟩:Z4)).length:Nat):Int).toNat+1) (by simp)
 ·rw[QW _ _ (fun _ _ _=>rfl)] at this
  simp only[Zn,Option.bind_some]
  rw[show (decide (r.Nodes<0)||decide (64<r.Nodes))=false by simp;omega]
  simp only[cond_false]
  rw[show decide ((512:Int)<(((r.Edges.map fun x=>(⟨x.From,x.To⟩:Z4)).length:Nat):Int))=false by simp;omega]
  simp only[cond_false,this,Option.bind_some,QI]
 ·have hk:=Qv hx;have hk2:((k:Int)<((r.Edges.map fun x=>(⟨x.From,x.To⟩:Z4)).length:Nat)):=by omega
  obtain ⟨y,hy,rfl⟩: ∃y,r.Edges[k]? =some y∧(⟨y.From,y.To⟩:Z4)=x:=by
   rw[List.getElem?_map] at hx
   cases hq:r.Edges[k]? with
   | none=>rw[hq] at hx;cases hx
   | some y=>rw[hq] at hx;injection hx with hx;exact ⟨y,rfl,hx⟩
  have hok:=ho y (List.mem_of_getElem? hy)
  simp only[V7,hk2,decide_true,cond_true,Qt,hx,Option.bind_some,Zn]
  unfold QaI at hok
  rw[show (decide (y.From<0)||(decide (r.Nodes≤y.From)||(decide (y.To<0)||decide (r.Nodes≤y.To))))=false by simp;omega]
  rfl
def QcN (r:QN):Int:=bif (decide (r.Nodes<1)||decide (64<r.Nodes)) then 1 else bif decide ((512:Int)<(r.Edges.length:Nat)) then 8 else
 match YM (fun _ x=>Qdc r x) (.inl ()) 0 r.Edges with | .inl _=>0 | .inr e=>e
theorem Qad (r:QN) (hn:r.Edges.length≤600):Jl r=some (QcN r):=by
 unfold Jl QcN
 simp only[Zn,Option.bind_some]
 rw[Qim r hn _ (by simp)]
 generalize (decide (r.Nodes<1)||_)=a
 generalize decide ((512:Int)<(r.Edges.length:Nat))=b
 generalize YM (fun _ x=>Qdc r x) (.inl ()) 0 r.Edges=o
 cases a<;>cases b<;>cases o<;>rfl
theorem Qir {r:QN} (h:QcN r=0):1≤r.Nodes∧r.Nodes≤64∧r.Edges.length≤512∧ ∀x∈r.Edges,QaI r x:=by
 unfold QcN at h
 simp only[cond_eq_ite,Bool.or_eq_true,decide_eq_true_eq] at h
 split at h
 ·cases h
 ·split at h
  ·cases h
  ·refine ⟨by omega,by omega,by omega,fun x hx=> ?_⟩;obtain ⟨i,hi⟩:=List.getElem?_of_mem hx;rcases Qb3 (step:=fun _ x=>Qdc r x) (fin:=(.inl ():Unit⊕Int)) r.Edges 0 with ⟨h1,_⟩ | ⟨j,y,o,h1,h2,h3,_⟩
   ·exact QlD (h1 i x hi)
   ·rw[h3] at h
    obtain ⟨e,rfl,he⟩:=QlE h2;exact absurd h he
theorem Qe8 (r:QN) (hn:r.Edges.length≤600):QaJ r=some (QcN r):=by
 by_cases hz:QcN r=0
 ·obtain ⟨h1,h2,h3,h4⟩:=Qir hz;unfold QaJ
  rw[hz]
  have e1:QbF r=YT r:=rfl
  rw[e1,Qim r hn _ (by simp)]
  simp only[Zn,Option.bind_some]
  rw[show (decide (r.Nodes<1)||decide (64<r.Nodes))=false by simp;omega]
  simp only[cond_false]
  rw[show decide ((512:Int)<(r.Edges.length:Nat))=false by simp;omega]
  simp only[cond_false]
  have:YM (fun _ x=>Qdc r x) (.inl ():Unit⊕Int) 0 r.Edges= .inl ():=by
   refine QW _ _ fun i x hx=> ?_;have:=h4 x (List.mem_of_getElem? hx);unfold QaI at this;unfold Qdc
   rw[show (decide (x.From<0)||(decide (r.Nodes≤x.From)||(decide (x.To<0)||decide (r.Nodes≤x.To))))=false by simp;omega,show (decide (x.From=x.To)||(decide (x.Meters<1)||(decide (100000<x.Meters)||(decide (x.Secs<1)||decide (100000<x.Secs)))))=false by simp;omega]
   rfl
  rw[this]
  simp only[QI,QlP r hn,Option.bind_some,Qoc r h3 h1 h2 h4]
 ·have h:=Qad r hn;unfold QaJ;have e1:QbF r=YT r:=rfl
  rw[e1,Qim r hn _ (by simp)]
  unfold QcN at hz ⊢
  simp only[Zn,Option.bind_some]
  generalize (decide (r.Nodes<1)||_)=a at *
  generalize decide ((512:Int)<(r.Edges.length:Nat))=b at *
  generalize YM (fun _ x=>Qdc r x) (.inl ()) 0 r.Edges=o at *
  cases a<;>cases b<;>cases o<;>first | rfl | exact absurd rfl hz
end Go.Proofs.YthpgjbbjpfiniaaGreat
namespace Go.Proofs.YthpgjbbjpfiniaaGreat
open Go.RowKit
set_option linter.unusedSimpArgs false
set_option linter.unusedVariables false
theorem Qjh (c:Int):Qaf c=YR c:=by
 unfold Qaf YR
 generalize decide (97≤c)=a
 generalize decide (c≤122)=b
 generalize decide (65≤c)=d
 generalize decide (c≤90)=e
 cases a<;>cases b<;>cases d<;>cases e<;>rfl
theorem Qer (c:Int): ∃b,YR c=some b:=by
 unfold YR
 generalize decide (97≤c)=a
 generalize decide (c≤122)=b
 generalize decide (65≤c)=d
 generalize decide (c≤90)=e
 cases a<;>cases b<;>cases d<;>cases e<;>exact ⟨_,rfl⟩
theorem Qkh (s:ByteArray):Qbd s=QZ s:=by
 funext i
 simp only[Qbd,QZ,Qjh]
theorem QjQ {s:ByteArray} {k:Nat} (h:k<s.size): ∃b,QiQ s (k:Int)=some b:=by
 unfold QiQ
 rw[if_pos (by omega)]
 simp[h]
theorem Qls (s:ByteArray) (hs:s.size≤32): ∀(m k:Nat),k+m=s.size→ ∃o,iter (QZ s) (m+1) (k:Int)=some o
 | 0,k,h=>by
  refine ⟨.inl (),?_⟩
  simp only[iter,QZ]
  rw[show decide ((k:Int)<((s.size:Nat):Int))=false by simp;omega]
  rfl
 | m+1,k,h=>by
  obtain ⟨b,hb⟩:=QjQ (s:=s) (k:=k) (by omega);obtain ⟨q,hq⟩:=Qer b;obtain ⟨o,ho⟩:=Qls s hs m (k+1) (by omega);have hbody:(∃z,QZ s (k:Int)=some (.inr z))∨QZ s (k:Int)=some (.inl ((k+1:Nat):Int)):=by
   simp only[QZ]
   rw[show decide ((k:Int)<((s.size:Nat):Int))=true by simp;omega]
   simp only[cond_true,hb,Option.bind_some,hq,Wq (show k<9223372036854775807 by omega)]
   generalize decide (b<48)=c1
   generalize decide (b=45)=c2
   generalize decide (b=95)=c3
   generalize decide (b=46)=c4
   generalize decide (57<b)=c5
   cases q<;>cases c1<;>cases c2<;>cases c3<;>cases c4<;>cases c5<;>first | exact .inr rfl | exact .inl ⟨_,rfl⟩
  rcases hbody with ⟨z,hz⟩ | hz
  ·exact ⟨z,by rw[iter,hz];rfl⟩
  ·exact ⟨o,by rw[iter,hz];exact ho⟩
theorem QnR {F:Nat} (hF:33≤F) (s:ByteArray):QbJ F s=ZK s:=by
 unfold QbJ ZK
 simp only[Qjh,Qkh]
 by_cases h1:((s.size:Nat):Int)<1
 ·simp only[h1,decide_true,cond_true,Option.bind_some]
 ·by_cases h2:(32:Int)<((s.size:Nat):Int)
  ·simp only[h1,h2,decide_true,decide_false,cond_true,cond_false,Option.bind_some]
  ·obtain ⟨b,hb⟩:=QjQ (s:=s) (k:=0) (by omega);obtain ⟨q,hq⟩:=Qer b;have hb':QiQ s 0=some b:=hb
   simp only[h1,h2,decide_false,cond_false,hb',Option.bind_some,hq]
   cases q with
   | false=>rfl
   | true =>
    simp only[Bool.not_true,cond_false]
    obtain ⟨o,ho⟩:=Qls s (by omega) (s.size-1) 1 (by omega)
    rw[show ((1:Nat):Int)=1 from rfl] at ho
    rw[Qgy ho (by omega)]
    have e2:iter (QZ s) (((s.size:Nat):Int).toNat+1) 0=some o:=by
     rw[iter]
     have:QZ s 0=some (.inl 1):=by
      simp only[QZ]
      rw[show decide ((0:Int)<((s.size:Nat):Int))=true by simp;omega]
      simp only[cond_true,hb',Option.bind_some,hq,Bool.not_true,cond_false]
      rfl
     rw[this]
     exact Qgy ho (by simp;omega)
    rw[e2]
theorem QkC {F:Nat} (hF:33≤F) (v:Qp) (n m:Int):QaD F v n m=Yg v n m:=by
 unfold QaD Yg
 rw[QnR hF]
theorem Qkm {α ρ:Type} (p:α→Bool) (o fin:ρ): ∀(l:List α) (k:Nat),YM (fun _ y=>bif p y then some o else none) fin k l=bif l.any p then o else fin
 | [],_=>rfl
 | x::l,k=>by
  simp only[YM,List.any_cons]
  cases p x
  ·simpa using Qkm p o fin l (k+1)
  ·rfl
theorem Qkn {α:Type} (p:α→Bool): ∀(l:List α) (k:Nat),(YM (fun (k:Nat) y=>bif p y then some (.inr (k:Int)) else none) (.inl ():Unit⊕Int) k l= .inl ()∧l.any p=false) ∨
  ∃j:Nat,YM (fun (k:Nat) y=>bif p y then some (.inr (k:Int)) else none) (.inl ():Unit⊕Int) k l= .inr (j:Int)∧l.any p=true
 | [],_=> .inl ⟨rfl,rfl⟩
 | x::l,k=>by
  simp only[YM,List.any_cons]
  cases p x
  ·simpa using Qkn p l (k+1)
  ·exact .inr ⟨k,rfl,rfl⟩
def QeL {α β:Type} [DecidableEq β] (f:α→β) (l:List α) (k:Nat) (x:α):Option (Unit⊕Int):=bif (l.take k).any (fun y=>decide (f x=f y)) then some (.inr 6) else none
theorem Qqu {α β:Type} [DecidableEq β] (f:α→β) (l:List α) (hn:l.length<1000000) {b2:Int→Int→Option (Int⊕(Unit⊕Int))} {b3:Int→Option (Int⊕(Unit⊕Int))}
  (h2: ∀(i k:Nat) (x y:α),l[i]? =some x→l[k]? =some y→k<i→b2 i k=some (bif decide (f x=f y) then .inr (.inr 6) else .inl (w64 ((k:Int)+1))))
  (h2f: ∀i:Nat,b2 i i=some (.inr (.inl ())))
  (h3: ∀i:Nat,i<l.length→b3 i=Option.bind (Option.bind (iter (b2 i) ((i:Int).toNat+1) 0) (fun o_=>QI o_ (fun _=>some (.inl ())) (fun rv=>some (.inr rv)))) (fun o_=>QI o_ (fun _:Unit=>some (.inl (w64 ((i:Int)+1)))) (fun rv=>some (.inr (.inr rv)))))
  (h3f:b3 (l.length:Nat)=some (.inr (.inl ()))):iter b3 (((l.length:Nat):Int).toNat+1) 0=some (YM (QeL f l) (.inl ()) 0 l):=by
 refine YQ l (QeL f l) (.inl ()) (by omega) (fun i x hx=> ?_) h3f _ (by simp);have hi:=Qv hx
 rw[h3 i hi]
 have:=YQ (body:=b2 i) (l.take i) (fun _ y=>bif decide (f x=f y) then some (.inr 6) else none) (.inl ():Unit⊕Int) (by simp;omega) (fun k y hy=> ?_) (by rw[Yn (Nat.le_of_lt hi)];exact h2f i) ((i:Int).toNat+1) (by rw[Yn (Nat.le_of_lt hi)];omega)
 ·rw[this,Qkm]
  unfold QeL
  generalize (l.take i).any _=b
  cases b<;>rfl
 ·have hk:=Qv hy
  rw[Yn (Nat.le_of_lt hi)] at hk
  rw[List.getElem?_take,if_pos hk] at hy
  rw[h2 i k x y hx hy hk]
  cases decide (f x=f y)<;>rfl
def QoY (l:List Qp):List (ByteArray×Bool):=l.foldl (fun m x=>QiT x.ID true m) []
theorem Qju {β:Type} (k j:ByteArray) (v:β): ∀(m:List (ByteArray×β)),QdU j (QiT k v m)=if k=j then some v else QdU j m
 | []=>by simp[QiT,QdU]
 | p::m=>by
  simp only[QiT]
  by_cases h:p.1=k
  ·subst h
   by_cases h2:p.1=j<;>simp[QdU,h2]
  ·by_cases h2:p.1=j
   ·have: ¬k=j:=fun e=>h (by rw[h2,e])
    rw[if_neg h,if_neg this]
    simp[QdU,h2]
   ·simp[QdU,h,h2,Qju k j v m]
theorem Qnx (l:List Qp) (id:ByteArray): ∀(m:List (ByteArray×Bool)),(QdU id (l.foldl (fun m x=>QiT x.ID true m) m)).getD false=(l.any (fun y=>decide (id=y.ID))||(QdU id m).getD false):=by
 induction l with
 | nil=>intro m;simp
 | cons x l ih =>
  intro m
  rw[List.foldl_cons,ih,List.any_cons,Qju]
  by_cases h:x.ID=id
  ·simp[h]
  ·have: ¬id=x.ID:=fun e=>h e.symm
   simp[h,this]
theorem QiF (l:List Qp) (hn:l.length≤16):iter (W3 l) (((l.length:Nat):Int).toNat+1) ([],0)=some (YM (QeL (·.ID) l) (.inl ()) 0 l):=by
 refine Y2 (body:=W3 l) l (fun k=>QoY (l.take k)) (fun m k=>(m,k)) (QeL (·.ID) l) (.inl ()) (by omega) (fun k x hx _=> ?_) (fun _=>by simp[W3,oun]) _ (by simp);have hk:=Qv hx;have hk2:((k:Int)<(l.length:Nat)):=by omega
 simp only[W3,oun,hk2,decide_true,cond_true,Qt,hx,Option.bind_some]
 rw[QoY,Qnx,YO hx]
 simp only[QdU,Option.getD_none,Bool.or_false,QeL,QoY,List.foldl_append,List.foldl_cons,List.foldl_nil]
 generalize (l.take k).any _=b
 cases b<;>rfl
theorem Qdw {F:Nat} (hF:33≤F) (l:List Qp) (n m:Int):VV F l n m=Yv l n m:=by
 unfold VV Yv;have e1:W2 F l n m=Q4 l n m:=by
  funext i
  simp only[W2,Q4,QkC hF]
 rw[e1]
 by_cases h:(16:Int)<((l.length:Nat):Int)
 ·simp only[h,decide_true,cond_true]
 ·have e3:=Qqu (·.ID) l (by omega) (b2:=Jm l) (b3:=Jn l) (fun i k x y hx hy hk=>by
    have:((k:Int)<(i:Int)):=by omega
    simp only[Jm,this,decide_true,cond_true,Qt,hx,hy,Option.bind_some]
    cases decide (x.ID=y.ID)<;>rfl) (fun i=>by simp[Jm]) (fun i hi=>by
    have:((i:Int)<((l.length:Nat):Int)):=by omega
    simp only[Jn,this,decide_true,cond_true]) (by simp[Jn])
  rw[e3,QiF l (by omega)]
theorem QnG (n a b:Int):Vr n a b=some (decide (a≤n)&&decide (n≤b)):=by
 unfold Vr
 rw[QnU]
 rfl
theorem QjJ (l:List Qw) (n m:Int):QaE l n m=Q8 l n m:=by
 funext i
 simp only[QaE,Q8]
 cases decide (i<((l.length:Nat):Int)) with
 | false=>rfl
 | true =>
  simp only[cond_true]
  cases getI l i with
  | none=>rfl
  | some x =>
   simp only[Option.bind_some,Qdz,QnG,Zn,Bool.not_and]
   have e1:(!decide (0≤x.Container)|| !decide (x.Container≤255))=(decide (x.Container<0)||decide (256≤x.Container)):=by
    rw[Bool.eq_iff_iff];simp;omega
   have e2:(!decide (0≤x.Grams)|| !decide (x.Grams≤1073741824))=(decide (x.Grams<0)||decide (1073741824<x.Grams)):=by
    rw[Bool.eq_iff_iff];simp
   have e3:(!decide (0≤x.Service)|| !decide (x.Service≤3600))=(decide (x.Service<0)||decide (3600<x.Service)):=by
    rw[Bool.eq_iff_iff];simp
   rw[e1,e2,e3]
   have key: ∀(a b c d:Bool),(bif a||b then some true else some (c||d))=some (a||(b||(c||d))):=by intro a b c d;cases a<;>cases b<;>rfl
   simp only[Zn,Bool.or_assoc]
   generalize (decide (x.Container<0)||_)=a
   generalize (decide (x.Grams<0)||_)=b
   cases a<;>cases b<;>rfl
theorem Qha (L:List Qw) (hn:L.length≤32) (x:Qw):YY L x=some (L.any fun y=>decide (x.Container=y.Container)):=by
 unfold YY Ju;have:=YQ (body:=YZ L x) L (fun k y=>bif decide (x.Container=y.Container) then some (.inr (k:Int)) else none) (.inl ():Unit⊕Int) (by omega) (fun k y hy=> ?_) (by simp[YZ]) (((L.length:Nat):Int).toNat+1) (by simp)
 ·rw[this]
  rcases Qkn (fun y:Qw=>decide (x.Container=y.Container)) L 0 with ⟨h1,h2⟩ | ⟨j,h1,h2⟩
  ·rw[h1,h2];rfl
  ·rw[h1,h2]
   simp only[Option.bind_some,QI]
   simp
 ·have hk:=Qv hy;have hk2:((k:Int)<(L.length:Nat)):=by omega
  simp only[YZ,hk2,decide_true,cond_true,Qt,hy,Option.bind_some,Qa9]
  rw[show decide (y.Container=x.Container)=decide (x.Container=y.Container) by rw[Bool.eq_iff_iff];simp[eq_comm]]
  cases decide (x.Container=y.Container)<;>rfl
theorem VT {α:Type} {l:List α} {k:Nat} (h:k≤l.length):WO l 0 (k:Int)=some (l.take k):=by
 unfold WO
 rw[if_pos ⟨by omega,by omega,by omega⟩]
 simp
theorem Qg8 (l:List Qw) (n m:Int):Qa8 l n m=Yw l n m:=by
 unfold Qa8 Yw
 rw[QjJ]
 by_cases h:(32:Int)<((l.length:Nat):Int)
 ·simp only[h,decide_true,cond_true]
 ·have e3:=Qqu (·.Container) l (by omega) (b2:=YB l) (b3:=YC l) (fun i k x y hx hy hk=>by
    have:((k:Int)<(i:Int)):=by omega
    simp only[YB,this,decide_true,cond_true,Qt,hx,hy,Option.bind_some]
    cases decide (x.Container=y.Container)<;>rfl) (fun i=>by simp[YB]) (fun i hi=>by
    have:((i:Int)<((l.length:Nat):Int)):=by omega
    simp only[YC,this,decide_true,cond_true]) (by simp[YC])
  have e4:iter (VN l) (((l.length:Nat):Int).toNat+1) 0=some (YM (QeL (·.Container) l) (.inl ()) 0 l):=by
   refine YQ l (QeL (·.Container) l) (.inl ()) (by omega) (fun k x hx=> ?_) (by simp[VN]) _ (by simp);have hk:=Qv hx;have hk2:((k:Int)<(l.length:Nat)):=by omega
   simp only[VN,hk2,decide_true,cond_true,Qt,hx,Option.bind_some,VT (Nat.le_of_lt hk),QeL]
   rw[Qha _ (by simp;omega)]
   simp only[Option.bind_some]
   generalize (l.take k).any _=b
   cases b<;>rfl
  rw[e3,e4]
theorem ZO {F:Nat} (hF:33≤F) (p:Qe) (hn:p.Road.Edges.length≤600):VK F p=Qo p:=by
 unfold VK Qo
 rw[Qe8 _ hn,Qad _ hn]
 simp only[Qdw hF,Qg8]
theorem Qbx {ρ:Type} {body:Int→Option (Int⊕ρ)} {N:Nat} (hN:N<1000000) (hb: ∀k:Nat,k<N→(∃r,body k=some (.inr r))∨body k=some (.inl ((k+1:Nat):Int))) (hf: ∃r,body (N:Nat)=some (.inr r)) :
  ∀(m k:Nat),k+m=N→ ∃o,iter body (m+1) (k:Int)=some o
 | 0,k,h=>by
  obtain ⟨r,hr⟩:=hf;obtain rfl:k=N:=by omega
  exact ⟨r,by rw[iter,hr];rfl⟩
 | m+1,k,h=>by
  rcases hb k (by omega) with ⟨r,hr⟩ | hr
  ·exact ⟨r,by rw[iter,hr];rfl⟩
  ·obtain ⟨o,ho⟩:=Qbx hN hb hf m (k+1) (by omega);exact ⟨o,by rw[iter,hr];exact ho⟩
theorem Qlm (p:Qe):(∃b,Jo p=some b)∧(Jo p=some false→p.Road.Edges.length≤600∧p.Vehicles.length≤30∧p.Demands.length≤60):=by
 unfold Jo
 simp only[Zn,Option.bind_some]
 by_cases h:(decide ((600:Int)<((p.Road.Edges.length:Nat):Int))||(decide ((30:Int)<((p.Vehicles.length:Nat):Int))||decide ((60:Int)<((p.Demands.length:Nat):Int))))=true
 ·rw[h]
  exact ⟨⟨true,rfl⟩,fun e=>by cases e⟩
 ·rw[Bool.not_eq_true] at h
  rw[h]
  simp only[Bool.or_eq_false_iff,decide_eq_false_iff_not] at h
  obtain ⟨o,ho⟩:=Qbx (body:=Jp p) (N:=p.Vehicles.length) (by omega) (fun k hk=>by
   obtain ⟨x,hx⟩: ∃x,p.Vehicles[k]? =some x:=⟨_,List.getElem?_eq_getElem hk⟩
   have hk2:((k:Int)<((p.Vehicles.length:Nat):Int)):=by omega
   simp only[Jp,hk2,decide_true,cond_true,Qt,hx,Option.bind_some,Wq (show k<9223372036854775807 by omega)]
   cases decide ((200:Int)<((x.ID.size:Nat):Int)) with
   | true=>exact .inl ⟨_,rfl⟩
   | false=>exact .inr rfl) ⟨_,by simp[Jp];rfl⟩ p.Vehicles.length 0 (by omega)
  refine ⟨?_,fun _=>by omega⟩
  simp only[cond_false]
  rw[show (((p.Vehicles.length:Nat):Int).toNat+1)=p.Vehicles.length+1 by simp,show (0:Int)=((0:Nat):Int) from rfl,ho]
  cases o with
  | inl u=>exact ⟨false,rfl⟩
  | inr b=>exact ⟨b,rfl⟩
theorem QhL (l:List Qw) (n m:Int) (hn:l.length≤32): ∃o,iter (Q8 l n m) (((l.length:Nat):Int).toNat+1) 0=some o:=by
 obtain ⟨o,ho⟩:=Qbx (body:=Q8 l n m) (N:=l.length) (by omega) (fun k hk=>by
   obtain ⟨x,hx⟩: ∃x,l[k]? =some x:=⟨_,List.getElem?_eq_getElem hk⟩
   have hk2:((k:Int)<((l.length:Nat):Int)):=by omega
   simp only[Q8,hk2,decide_true,cond_true,Qt,hx,Option.bind_some,Zn,Wq (show k<9223372036854775807 by omega)]
   generalize (decide (x.Container<0)||_)=a
   generalize (decide (x.Grams<0)||_)=b
   cases a<;>cases b<;>first | exact .inr rfl | exact .inl ⟨_,rfl⟩) ⟨_,by simp[Q8];rfl⟩ l.length 0 (by omega)
 exact ⟨o,by simpa using ho⟩
theorem Qf4 (v:Qp) (n:Int): ∃e,Yg v n 16=some e:=by
 unfold Yg;have hv: ∃b,ZK v.ID=some b:=by
  unfold ZK
  by_cases h1:((v.ID.size:Nat):Int)<1
  ·exact ⟨false,by simp only[h1,decide_true,cond_true,Option.bind_some]⟩
  ·by_cases h2:(32:Int)<((v.ID.size:Nat):Int)
   ·exact ⟨false,by simp only[h1,h2,decide_true,decide_false,cond_true,cond_false,Option.bind_some]⟩
   ·obtain ⟨b,hb⟩:=QjQ (s:=v.ID) (k:=0) (by omega);obtain ⟨q,hq⟩:=Qer b;have hb':QiQ v.ID 0=some b:=hb;obtain ⟨o,ho⟩:=Qls v.ID (by omega) v.ID.size 0 (by omega)
    simp only[h1,h2,decide_false,cond_false,hb',Option.bind_some,hq]
    rw[show (((v.ID.size:Nat):Int).toNat+1)=v.ID.size+1 by simp,show (0:Int)=((0:Nat):Int) from rfl,ho]
    cases q<;>cases o<;>exact ⟨_,rfl⟩
 obtain ⟨b,hb⟩:=hv
 rw[hb]
 simp only[Option.bind_some,Zn,QaQ (show (0:Int)≤16∧(16:Int)≤64 by decide)]
 generalize (decide (v.Depot<0)||_)=c1
 generalize (decide (v.Shift.From<0)||_)=c2
 generalize (decide (v.Grams<1)||_)=c3
 generalize (decide (v.Kinds<1)||_)=c4
 cases b<;>cases c1<;>cases c2<;>cases c3<;>cases c4<;>exact ⟨_,rfl⟩
theorem Ql0 (l:List Qp) (n:Int): ∃e,Yv l n 16=some e:=by
 by_cases h:(16:Int)<((l.length:Nat):Int)
 ·unfold Yv
  simp only[Zn,Option.bind_some,h,decide_true,cond_true]
  generalize (decide (n<1)||_)=a
  generalize decide (((l.length:Nat):Int)=0)=b
  cases a<;>cases b<;>exact ⟨_,rfl⟩
 ·obtain ⟨o,ho⟩:=Qbx (body:=Q4 l n 16) (N:=l.length) (by omega) (fun k hk=>by
   obtain ⟨x,hx⟩: ∃x,l[k]? =some x:=⟨_,List.getElem?_eq_getElem hk⟩
   obtain ⟨e,he⟩:=Qf4 x n;have hk2:((k:Int)<((l.length:Nat):Int)):=by omega
   simp only[Q4,hk2,decide_true,cond_true,Qt,hx,Option.bind_some,he,Wq (show k<9223372036854775807 by omega)]
   cases decide (e=0)<;>first | exact .inr rfl | exact .inl ⟨_,rfl⟩) ⟨_,by simp[Q4];rfl⟩ l.length 0 (by omega)
  have h2:=Qdw (F:=33) (Nat.le_refl _) l n 16
  rw[←h2]
  unfold VV;have e1:W2 33 l n 16=Q4 l n 16:=by
   funext i
   simp only[W2,Q4,QkC (F:=33) (Nat.le_refl _)]
  rw[e1,QiF l (by omega),show (((l.length:Nat):Int).toNat+1)=l.length+1 by simp,show (0:Int)=((0:Nat):Int) from rfl,ho]
  simp only[Zn,Option.bind_some,h,decide_false,cond_false]
  generalize (decide (n<1)||_)=a
  generalize decide (((l.length:Nat):Int)=((0:Nat):Int))=b
  generalize YM (QeL (·.ID) l) (.inl ()) 0 l=q
  cases a<;>cases b<;>cases o<;>cases q<;>exact ⟨_,rfl⟩
theorem Ql3 (p:Qe) (hn:p.Road.Edges.length≤600): ∃e,Qo p=some e:=by
 unfold Qo
 rw[Qad _ hn]
 obtain ⟨e2,he2⟩:=Ql0 p.Vehicles p.Road.Nodes;have he3: ∃e,Yw p.Demands p.Road.Nodes 16=some e:=by
  by_cases h:(32:Int)<((p.Demands.length:Nat):Int)
  ·exact ⟨8,by unfold Yw;simp only[h,decide_true,cond_true]⟩
  ·obtain ⟨o,ho⟩:=QhL p.Demands p.Road.Nodes 16 (by omega);unfold Yw;have e3:=Qqu (·.Container) p.Demands (by omega) (b2:=YB p.Demands) (b3:=YC p.Demands) (fun i k x y hx hy hk=>by
    have:((k:Int)<(i:Int)):=by omega
    simp only[YB,this,decide_true,cond_true,Qt,hx,hy,Option.bind_some]
    cases decide (x.Container=y.Container)<;>rfl) (fun i=>by simp[YB]) (fun i hi=>by
    have:((i:Int)<((p.Demands.length:Nat):Int)):=by omega
    simp only[YC,this,decide_true,cond_true]) (by simp[YC])
   rw[ho,e3]
   simp only[h,decide_false,cond_false,Option.bind_some]
   generalize YM (QeL (·.Container) p.Demands) (.inl ()) 0 p.Demands=q
   cases o<;>cases q<;>exact ⟨_,rfl⟩
 obtain ⟨e3,he3⟩:=he3
 simp only[he2,he3,Option.bind_some,Zn]
 generalize decide (QcN p.Road=0)=a
 generalize decide (e2=0)=b
 generalize decide (e3=0)=c
 generalize (decide (p.Unload<0)||_)=d
 generalize (decide (p.UnloadSecs<0)||_)=f
 cases a<;>cases b<;>cases c<;>cases d<;>cases f<;>exact ⟨_,rfl⟩
end Go.Proofs.YthpgjbbjpfiniaaGreat
namespace Go.Proofs.YthpgjbbjpfiniaaGreat
open Go.RowKit
set_option linter.unusedSimpArgs false
set_option linter.unusedVariables false
abbrev It:=QS
abbrev Qu:=Qh
abbrev Lg:=Ql
def Lg.lt (a b:Lg):Prop:=a.Secs<b.Secs∨(a.Secs=b.Secs∧a.Meters<b.Meters)
def Lg.le (a b:Lg):Prop:=a.Secs<b.Secs∨(a.Secs=b.Secs∧a.Meters≤b.Meters)
instance (a b:Lg):Decidable (Lg.lt a b):=by unfold Lg.lt;infer_instance
instance (a b:Lg):Decidable (Lg.le a b):=by unfold Lg.le;infer_instance
theorem Lg.le_of_not_lt {a b:Lg} (h: ¬Lg.lt a b):Lg.le b a:=by unfold Lg.lt at h;unfold Lg.le;omega
theorem Lg.le_of_lt {a b:Lg} (h:Lg.lt a b):Lg.le a b:=by unfold Lg.lt at h;unfold Lg.le;omega
theorem Lg.le_refl (a:Lg):Lg.le a a:=by unfold Lg.le;omega
theorem Lg.le_trans {a b c:Lg} (h:Lg.le a b) (h2:Lg.le b c):Lg.le a c:=by unfold Lg.le at *;omega
abbrev noL:Lg:=⟨-1,0⟩
theorem Qi0 (a b:Lg):QaW a b=some (decide (b=noL)||decide (Lg.lt a b)):=by
 unfold QaW Qch
 simp only[Option.bind_some]
 by_cases h:b=noL
 ·simp[h]
 ·by_cases h1:a.Secs<b.Secs
  ·simp[h,h1,Lg.lt]
  ·by_cases h2:a.Secs=b.Secs
   ·simp[h,h1,h2,Lg.lt]
   ·simp[h,h1,h2,Lg.lt]
def okI (x:It):Prop:=0≤x.value.leg.Secs
theorem QmI {a b:Yb} (hb:0≤b.leg.Secs):VS a b=some (decide (Lg.lt a.leg b.leg)):=by
 unfold VS
 rw[Qi0]
 have hn:b.leg≠noL:=by intro e;rw[e] at hb;exact absurd hb (by decide)
 by_cases h:a.leg=b.leg
 ·rw[h]
  simp[Lg.lt]
 ·simp[h,hn]
def bef (x y:It):Bool:=decide (Lg.lt x.value.leg y.value.leg)||(decide (x.n<y.n)&& !decide (Lg.lt y.value.leg x.value.leg))
theorem Qlv {x y:It} (h:bef x y=true):Lg.le x.value.leg y.value.leg:=by
 simp only[bef,Bool.or_eq_true,Bool.and_eq_true,decide_eq_true_eq,Bool.not_eq_true',decide_eq_false_iff_not] at h
 rcases h with h | ⟨_,h⟩
 ·exact Lg.le_of_lt h
 ·exact Lg.le_of_not_lt h
theorem QjF {x y:It} (h:bef x y=false):Lg.le y.value.leg x.value.leg:=by
 simp only[bef,Bool.or_eq_false_iff,decide_eq_false_iff_not] at h
 exact Lg.le_of_not_lt h.1
theorem QiZ {q:Qu} {i k:Nat} {x y:It} (hx:q.heap[i]? =some x) (hy:q.heap[k]? =some y) (h1:okI x) (h2:okI y):Zq q i k=some (bef x y):=by
 unfold Zq
 simp only[Qt,hx,hy,Option.bind_some,oun]
 rw[QmI (a:=⟨x.value.node,⟨x.value.leg.Secs,x.value.leg.Meters⟩⟩) (b:=⟨y.value.node,⟨y.value.leg.Secs,y.value.leg.Meters⟩⟩) h2,QmI (a:=⟨y.value.node,⟨y.value.leg.Secs,y.value.leg.Meters⟩⟩) (b:=⟨x.value.node,⟨x.value.leg.Secs,x.value.leg.Meters⟩⟩) h1]
 simp only[Option.bind_some]
 unfold bef;cases decide (Lg.lt x.value.leg y.value.leg)<;>cases decide (x.n<y.n)<;>rfl
def swp (h:List It) (i k:Nat):List It:=match h[i]?,h[k]? with
 | some x,some y=>(h.set i y).set k x
 | _,_=>h
theorem Qkc {q:Qu} {i k:Nat} (hi:i<q.heap.length) (hk:k<q.heap.length):Zb q i k=some ⟨swp q.heap i k,q.count⟩:=by
 unfold Zb swp
 simp only[Qt,List.getElem?_eq_getElem hi,List.getElem?_eq_getElem hk,Option.bind_some,Yl,Int.toNat_natCast]
 rw[List.getElem?_eq_getElem (by simpa using hk)]
 rfl
theorem QbB (h:List It) (i k:Nat):(swp h i k).length=h.length:=by unfold swp;split<;>simp
theorem QiA {h:List It} {i k:Nat} (hi:i<h.length) (hk:k<h.length):(swp h i k).Perm h:=by
 unfold swp
 simp only[List.getElem?_eq_getElem hi,List.getElem?_eq_getElem hk]
 exact List.set_set_perm hi hk
theorem QdV {h:List It} {i k:Nat} (hi:i<h.length) (hk:k<h.length) (j:Nat):(swp h i k)[j]? =if j=k then h[i]? else if j=i then h[k]? else h[j]? :=by
 unfold swp
 simp only[List.getElem?_eq_getElem hi,List.getElem?_eq_getElem hk]
 rw[List.getElem?_set,List.getElem?_set]
 simp only[List.length_set]
 by_cases h1:k=j
 ·subst h1;simp[hk]
 ·have h1': ¬j=k:=fun e=>h1 e.symm
  by_cases h2:i=j
  ·subst h2;simp[h1,h1',hi]
  ·have h2': ¬j=i:=fun e=>h2 e.symm
   simp[h1,h2,h1',h2']
end Go.Proofs.YthpgjbbjpfiniaaGreat
