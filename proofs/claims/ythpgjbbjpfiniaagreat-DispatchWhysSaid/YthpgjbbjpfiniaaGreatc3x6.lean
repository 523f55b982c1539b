/- DispatchWhys: for every input the given law returns true, and its arguments read as before. No condition. -/
import Derived.Laws.StructEq
import Derived.Test.YthpgjbbjpfiniaaGreatc3x1
import Derived.Test.YthpgjbbjpfiniaaGreatc3x3
import Derived.Test.YthpgjbbjpfiniaaGreatc3x4
import Derived.Test.YthpgjbbjpfiniaaGreatc3x2
import Derived.Test.YthpgjbbjpfiniaaGreatc3x5
namespace Go.Proofs.YthpgjbbjpfiniaaGreat
open Go.RowKit
set_option linter.unusedSimpArgs false
set_option linter.unusedVariables false
set_option maxHeartbeats 2000000
set_option maxRecDepth 4000
attribute [local irreducible] WP Zt Qap Fn AN Upd vcR vcO Qcq Jp Z8 QaL Qbc Qci Qa5 Ws Qct Qz KS
theorem Qfo (a b:QH):W2 Tryz.prog (do eqGuard .neq 56 (.tmp 0) (.tmp 0) (.agg #[.int .i64 a.Vehicle,.int .i64 a.Err]) (.agg #[.int .i64 b.Vehicle,.int .i64 b.Err]);binOp .neq 56 (.agg #[.int .i64 a.Vehicle,.int .i64 a.Err]) (.agg #[.int .i64 b.Vehicle,.int .i64 b.Err])) (.bool (!(decide (a=b)))):=by
 obtain ⟨x0,x1⟩:=a;obtain ⟨y0,y1⟩:=b;intro w
 rw[Sem.run_bind,run_eqGuard_agg w _ _ _ _ _ _ (by kernel_rfl),Result.andThen_ok]
 simp only[binOp,Op.equal,Op.maxDepth,Sem.run_bind]
 rw[run_equalIn_struct w 9999 _ _ _ (by kernel_rfl) (by kernel_rfl)]
 by_cases h0:x0=y0
 case neg=>simp[Program.fieldsOf,Tryz.underlying56,go_sem,h0]
 by_cases h1:x1=y1
 case neg=>simp[Program.fieldsOf,Tryz.underlying56,go_sem,h0,h1]
 simp[Program.fieldsOf,Tryz.underlying56,go_sem,h0,h1]
theorem Qg5 (a b:Ql):W2 Tryz.prog (do eqGuard .eql 137 (.tmp 0) (.tmp 0) (.agg #[.int .i64 a.Secs,.int .i64 a.Meters]) (.agg #[.int .i64 b.Secs,.int .i64 b.Meters]);binOp .eql 137 (.agg #[.int .i64 a.Secs,.int .i64 a.Meters]) (.agg #[.int .i64 b.Secs,.int .i64 b.Meters])) (.bool (decide (a=b))):=by
 obtain ⟨x0,x1⟩:=a;obtain ⟨y0,y1⟩:=b;intro w
 rw[Sem.run_bind,run_eqGuard_agg w _ _ _ _ _ _ (by kernel_rfl),Result.andThen_ok]
 simp only[binOp,Op.equal,Op.maxDepth,Sem.run_bind]
 rw[run_equalIn_struct w 9999 _ _ _ (by kernel_rfl) (by kernel_rfl)]
 by_cases h0:x0=y0
 case neg=>simp[Program.fieldsOf,Tryz.underlying137,go_sem,h0]
 by_cases h1:x1=y1
 case neg=>simp[Program.fieldsOf,Tryz.underlying137,go_sem,h0,h1]
 simp[Program.fieldsOf,Tryz.underlying137,go_sem,h0,h1]
theorem QdU (a b:Ql):W2 Tryz.prog (do eqGuard .neq 137 (.tmp 0) (.tmp 0) (.agg #[.int .i64 a.Secs,.int .i64 a.Meters]) (.agg #[.int .i64 b.Secs,.int .i64 b.Meters]);binOp .neq 137 (.agg #[.int .i64 a.Secs,.int .i64 a.Meters]) (.agg #[.int .i64 b.Secs,.int .i64 b.Meters])) (.bool (!(decide (a=b)))):=by
 obtain ⟨x0,x1⟩:=a;obtain ⟨y0,y1⟩:=b;intro w
 rw[Sem.run_bind,run_eqGuard_agg w _ _ _ _ _ _ (by kernel_rfl),Result.andThen_ok]
 simp only[binOp,Op.equal,Op.maxDepth,Sem.run_bind]
 rw[run_equalIn_struct w 9999 _ _ _ (by kernel_rfl) (by kernel_rfl)]
 by_cases h0:x0=y0
 case neg=>simp[Program.fieldsOf,Tryz.underlying137,go_sem,h0]
 by_cases h1:x1=y1
 case neg=>simp[Program.fieldsOf,Tryz.underlying137,go_sem,h0,h1]
 simp[Program.fieldsOf,Tryz.underlying137,go_sem,h0,h1]
variable {μ:Gh} {L:List Seg} {R:Value→Gh→List Seg→Prop}
theorem Qde  {p1:Qe} {A1:Option Addr} {c1:Nat} {A2:Option Addr} {c2:Nat} {A3:Option Addr} {c3:Nat} {res1:Bool}
  (hl1:p1.Road.Edges.length≤c1∧c1≤maxLen) (hA1:Qr QF μ A1 p1.Road.Edges) (hl2:p1.Vehicles.length≤c2∧c2≤maxLen) (hA2:Qr Qy μ A2 p1.Vehicles) (hl3:p1.Demands.length≤c3∧c3≤maxLen) (hA3:Qr QB μ A3 p1.Demands) (h:Jj p1=some res1)
  (hR:R (.bool res1) μ (L)) :
  Fn Tryz.prog 33 [.agg #[.int .i64 p1.Road.Nodes,.slice A1 p1.Road.Edges.length c1,.slice A2 p1.Vehicles.length c2,.slice A3 p1.Demands.length c3,.int .i64 p1.Unload,.int .i64 p1.UnloadSecs]] μ (L) R:=by
 unfold Jj at h;refine FnS Tryz.func33 (by kernel_rfl) E Tryz.ntmps33 E E ?_;refine G0 2 E (Al E fun _=>Q0 4 E ?_);refine Cut h (fun f l o_ f_ μ_ l_=> ∃(v1:Bool),v1=o_∧Qh ((21,.bool v1)::Qk [1] f) f_∧Qd l l_∧μ=μ_) ?_ ?_
 ·intro _ h19 h;refine G1 7 [0] E ?_;refine Br h19 10 E E (fun hc1 h19=> ?_) (fun hc1 h19=> ?_)
  ·refine G2 12 [10,16] [] [] E ?_;cases h19;exact Ce E ⟨_,rfl,fE E,sE [some 0] 1 E,rfl⟩
  refine G2 6 [] [10] [0] E ?_;refine Br h19 16 E E (fun hc2 h19=> ?_) (fun hc2 h19=> ?_)
  ·refine G2 6 [16] [] [] E ?_;cases h19;exact Ce E ⟨_,rfl,fE E,sE [some 0] 1 E,rfl⟩
  refine G2 6 [] [16] [0] E ?_;cases h19;exact Ce E ⟨_,rfl,fE E,sE [some 0] 1 E,rfl⟩
 rintro _ _ _ _ h _ ⟨v1,rfl,hF19,hS19,rfl⟩;refine Atn 1 hF19 hS19 E E ?_;refine Br h 21 E E (fun hc3 h=> ?_) (fun hc3 h=> ?_)
 ·refine G2 5 [21] [] [] E ?_;cases h;exact Rt [] E E (Ug [] 1 hR)
 refine G2 10 [] [21] [0] E ?_;refine Cut h (fun f l o_ f_ μ_ l_=>(.inl ())=o_∧Qh ([]) f_∧Qd (QC [] 1 l) l_∧μ=μ_) ?_ ?_
 ·intro _ h22 h;refine Lp h22 (fun f l (v2:Int) f_ μ_ l_=>Qh ((25,.int .i64 v2)::Qk [23,24] f) f_∧Qd (QC [] 1 l) l_∧μ=μ_) ⟨fE E,sE [] 1 E,E⟩ ?_;rintro v2 _ _ _ _ _ ⟨hF27,hS27,rfl⟩ hb27 hq27;unfold Jk at hb27;refine Atn 0 hF27 hS27 E E (G0 5 E ?_);refine Br hb27 26 E E (fun hc4 hb27=> ?_) (fun hc4 hb27=> ?_)
  ·refine G2 6 [26] [] [] E (Ix hb27 (Qr.rds hA2 L) E E fun _ _ _ _ hr1 hc5 _ hb27=> ?_);obtain rfl:=hr1;refine Q3 1 [] [] [64] (Z1 hc5) E (Al E fun _=>Q1 9 [0,0] E ?_);refine Br hb27 32 E E (fun hc6 hb27=> ?_) (fun hc6 hb27=> ?_)
   ·refine G2 5 [32] [] [] E ?_;cases hb27;have hq_:=hq27 _ E;subst hq_;replace h:=Ye h;cases h;exact Rt [] E E (Ug [] 1 hR)
   refine G2 7 [] [32] [] E ?_;cases hb27;exact Ce E ⟨_,rfl,fE E,sE [] 1 E,rfl⟩
  refine G2 2 [] [26] [] E ?_;cases hb27;have hq_:=hq27 _ E;subst hq_;exact Ce E ⟨rfl,fE E,sE [] 0 E,rfl⟩
 rintro _ _ _ _ h _ ⟨rfl,hF22,hS22,rfl⟩;replace h:=YB h;refine Atn 0 hF22 hS22 E E (G0 4 E ?_);cases h;exact Rt [] E E (Ug [] 0 hR)
theorem QbZ  {x1:Qf} {A1:Option Addr} {c1:Nat} {A2:Option Addr} {c2:Nat} {res1:Bool}
  (hl1:x1.Tours.length≤c1∧c1≤maxLen) (hA1:Qr Qv μ A1 x1.Tours) (hl2:x1.Left.length≤c2∧c2≤maxLen) (hA2:Qr QS μ A2 x1.Left) (h:Zg x1=some res1)
  (hR:R (.bool res1) μ (L)) :
  Fn Tryz.prog 34 [.agg #[.slice A1 x1.Tours.length c1,.slice A2 x1.Left.length c2]] μ (L) R:=by
 unfold Zg at h;refine FnS Tryz.func34 (by kernel_rfl) E Tryz.ntmps34 E E ?_;refine G0 2 E (Al E fun _=>Q0 4 E ?_);refine Cut h (fun f l o_ f_ μ_ l_=> ∃(v1:Bool),v1=o_∧Qh ((14,.bool v1)::Qk [1] f) f_∧Qd l l_∧μ=μ_) ?_ ?_
 ·intro _ h34 h;refine G1 6 [0] E ?_;refine Br h34 9 E E (fun hc1 h34=> ?_) (fun hc1 h34=> ?_)
  ·refine G2 6 [9] [] [] E ?_;cases h34;exact Ce E ⟨_,rfl,fE E,sE [some 0] 1 E,rfl⟩
  refine G2 6 [] [9] [0] E ?_;cases h34;exact Ce E ⟨_,rfl,fE E,sE [some 0] 1 E,rfl⟩
 rintro _ _ _ _ h _ ⟨v1,rfl,hF34,hS34,rfl⟩;refine Atn 1 hF34 hS34 E E ?_;refine Br h 14 E E (fun hc2 h=> ?_) (fun hc2 h=> ?_)
 ·refine G2 5 [14] [] [] E ?_;cases h;exact Rt [] E E (Ug [] 1 hR)
 refine G2 10 [] [14] [0] E ?_;refine Cut h (fun f l o_ f_ μ_ l_=>(.inl ())=o_∧Qh ([]) f_∧Qd (QC [] 1 l) l_∧μ=μ_) ?_ ?_
 ·intro _ h37 h;refine Lp h37 (fun f l (v2:Int) f_ μ_ l_=>Qh ((18,.int .i64 v2)::Qk [16,17] f) f_∧Qd (QC [] 1 l) l_∧μ=μ_) ⟨fE E,sE [] 1 E,E⟩ ?_;rintro v2 _ _ _ _ _ ⟨hF44,hS44,rfl⟩ hb44 hq44;unfold Zw at hb44;refine Atn 0 hF44 hS44 E E (G0 5 E ?_);refine Br hb44 19 E E (fun hc3 hb44=> ?_) (fun hc3 hb44=> ?_)
  ·refine G2 6 [19] [] [] E (Ix hb44 (Qr.rds hA1 L) E E fun _ _ _ _ hr1 hc4 _ hb44=> ?_);obtain ⟨_,_,rfl,_,_⟩:=hr1;refine Q3 1 [] [] [64] (Z1 hc4) E (Al E fun _=>Q1 9 [0,0] E ?_);refine Br hb44 25 E E (fun hc5 hb44=> ?_) (fun hc5 hb44=> ?_)
   ·refine G2 5 [25] [] [] E ?_;cases hb44;have hq_:=hq44 _ E;subst hq_;replace h:=Ye h;cases h;exact Rt [] E E (Ug [] 1 hR)
   refine G2 7 [] [25] [] E ?_;cases hb44;exact Ce E ⟨_,rfl,fE E,sE [] 1 E,rfl⟩
  refine G2 2 [] [19] [] E ?_;cases hb44;have hq_:=hq44 _ E;subst hq_;exact Ce E ⟨rfl,fE E,sE [] 0 E,rfl⟩
 rintro _ _ _ _ h _ ⟨rfl,hF37,hS37,rfl⟩;replace h:=YB h;refine Atn 0 hF37 hS37 E E (G0 4 E ?_);cases h;exact Rt [] E E (Ug [] 0 hR)
theorem Qdh  {p1:Qe} {x1:Qf} {A1:Option Addr} {c1:Nat} {A2:Option Addr} {c2:Nat} {A3:Option Addr} {c3:Nat} {A4:Option Addr} {c4:Nat} {A5:Option Addr} {c5:Nat} {res1:Bool}
  (hl1:p1.Road.Edges.length≤c1∧c1≤maxLen) (hA1:Qr QF μ A1 p1.Road.Edges) (hl2:p1.Vehicles.length≤c2∧c2≤maxLen) (hA2:Qr Qy μ A2 p1.Vehicles) (hl3:p1.Demands.length≤c3∧c3≤maxLen) (hA3:Qr QB μ A3 p1.Demands) (hl4:x1.Tours.length≤c4∧c4≤maxLen) (hA4:Qr Qv μ A4 x1.Tours) (hl5:x1.Left.length≤c5∧c5≤maxLen) (hA5:Qr QS μ A5 x1.Left) (h:YY p1 x1=some res1)
  (hR:R (.bool res1) μ (L)) :
  Fn Tryz.prog 11 [.agg #[.int .i64 p1.Road.Nodes,.slice A1 p1.Road.Edges.length c1,.slice A2 p1.Vehicles.length c2,.slice A3 p1.Demands.length c3,.int .i64 p1.Unload,.int .i64 p1.UnloadSecs],.agg #[.slice A4 x1.Tours.length c4,.slice A5 x1.Left.length c5]] μ (L) R:=by
 unfold YY at h;refine FnS Tryz.func11 (by kernel_rfl) E Tryz.ntmps11 E E ?_;refine G0 2 E (Al E fun _=>Q0 0 E (Al E fun _=>Q0 4 E ?_));refine Cut h (fun f l o_ f_ μ_ l_=> ∃(v1:Bool),v1=o_∧Qh ((37,.bool v1)::Qk [3] f) f_∧Qd (QC [some 0] 2 l) l_∧μ=μ_) ?_ ?_
 ·intro _ h14 h;refine G1 2 [1] E (Cl E ?_);obtain ⟨_,hx1,h14⟩:=Qi h14;refine Qde hl1 hA1 hl2 hA2 hl3 hA3 hx1 ((Q0 1 E ?_));refine Br h14 9 E E (fun hc1 h14=> ?_) (fun hc1 h14=> ?_)
  ·refine G2 29 [9,13,20,26,32] [] [] E ?_;cases h14;exact Ce E ⟨_,rfl,fE E,sE [some 0] 2 E,rfl⟩
  refine G2 1 [] [9] [0] E (Cl E ?_);obtain ⟨_,hx2,h14⟩:=Qi h14;refine QbZ hl4 hA4 hl5 hA5 hx2 ((Q2 2 [] [9] [] E ?_));refine Br h14 13 E E (fun hc2 h14=> ?_) (fun hc2 h14=> ?_)
  ·refine G2 25 [13,20,26,32] [] [] E ?_;cases h14;exact Ce E ⟨_,rfl,fE E,sE [some 0] 2 E,rfl⟩
  refine G2 7 [] [13] [1] E ?_;refine Br h14 20 E E (fun hc3 h14=> ?_) (fun hc3 h14=> ?_)
  ·refine G2 18 [20,26,32] [] [] E ?_;cases h14;exact Ce E ⟨_,rfl,fE E,sE [some 0] 2 E,rfl⟩
  refine G2 6 [] [20] [1] E ?_;refine Br h14 26 E E (fun hc4 h14=> ?_) (fun hc4 h14=> ?_)
  ·refine G2 12 [26,32] [] [] E ?_;cases h14;exact Ce E ⟨_,rfl,fE E,sE [some 0] 2 E,rfl⟩
  refine G2 6 [] [26] [1] E ?_;refine Br h14 32 E E (fun hc5 h14=> ?_) (fun hc5 h14=> ?_)
  ·refine G2 6 [32] [] [] E ?_;cases h14;exact Ce E ⟨_,rfl,fE E,sE [some 0] 2 E,rfl⟩
  refine G2 6 [] [32] [0] E ?_;cases h14;exact Ce E ⟨_,rfl,fE E,sE [some 0] 2 E,rfl⟩
 rintro _ _ _ _ h _ ⟨v1,rfl,hF14,hS14,rfl⟩;refine Atn 1 hF14 hS14 E E ?_;refine Br h 37 E E (fun hc6 h=> ?_) (fun hc6 h=> ?_)
 ·refine G2 5 [37] [] [] E ?_;cases h;exact Rt [] E E (Ug [] 1 hR)
 refine G2 10 [] [37] [0] E ?_;refine Cut h (fun f l o_ f_ μ_ l_=>(.inl ())=o_∧Qh ([]) f_∧Qd (QC [] 1 l) l_∧μ=μ_) ?_ ?_
 ·intro _ h52 h;refine Lp h52 (fun f l (v2:Int) f_ μ_ l_=>Qh ((41,.int .i64 v2)::Qk [39,40] f) f_∧Qd (QC [] 1 l) l_∧μ=μ_) ⟨fE E,sE [] 1 E,E⟩ ?_;rintro v2 _ _ _ _ _ ⟨hF59,hS59,rfl⟩ hb59 hq59;unfold Jn at hb59;refine Atn 0 hF59 hS59 E E (G0 5 E ?_);refine Br hb59 42 E E (fun hc7 hb59=> ?_) (fun hc7 hb59=> ?_)
  ·refine G2 6 [42] [] [] E (Ix hb59 (Qr.rds hA4 L) E E fun _ _ _ _ hr1 hc8 _ hb59=> ?_);obtain ⟨_,_,rfl,_,_⟩:=hr1;refine Q3 1 [] [] [64] (Z1 hc8) E (Al E fun _=>Q1 9 [0,0] E ?_);refine Br hb59 48 E E (fun hc9 hb59=> ?_) (fun hc9 hb59=> ?_)
   ·refine G2 5 [48] [] [] E ?_;cases hb59;have hq_:=hq59 _ E;subst hq_;replace h:=Ye h;cases h;exact Rt [] E E (Ug [] 1 hR)
   refine G2 7 [] [48] [] E ?_;cases hb59;exact Ce E ⟨_,rfl,fE E,sE [] 1 E,rfl⟩
  refine G2 2 [] [42] [] E ?_;cases hb59;have hq_:=hq59 _ E;subst hq_;exact Ce E ⟨rfl,fE E,sE [] 0 E,rfl⟩
 rintro _ _ _ _ h _ ⟨rfl,hF52,hS52,rfl⟩;replace h:=YB h;refine Atn 0 hF52 hS52 E E (G0 4 E ?_);cases h;exact Rt [] E E (Ug [] 0 hR)
theorem Qhc  {r1:QM} {A1:Option Addr} {c1:Nat} {res1:QaJ}
  (hl1:r1.Edges.length≤c1∧c1≤maxLen) (hA1:Qr QF μ A1 r1.Edges) (h:Qbd r1=some res1)
  (hR: ∀(μ':Gh) (A0_1:Option Addr) (c0_1:Nat),μ.le μ'→(res1.Arcs.length≤c0_1∧c0_1≤maxLen)→Qr Qca μ' A0_1 res1.Arcs→R (.agg #[.int .i64 res1.Nodes,.slice A0_1 res1.Arcs.length c0_1]) μ' (L)) :
  Fn Tryz.prog 73 [.agg #[.int .i64 r1.Nodes,.slice A1 r1.Edges.length c1]] μ (L) R:=by
 unfold Qbd at h;refine FnS Tryz.func73 (by kernel_rfl) E Tryz.ntmps73 E E ?_;refine G0 2 E (Al E fun _=>Q0 0 E (Al E fun g2=>Q1 6 [1] E (Al E fun g3=>Q1 10 [0,2] E ?_)));refine Cut h (fun f l o_ f_ μ_ l_=> ∃(f2:(List ZW)) (A4:Option Addr) (c4:Nat) (ch3:Seg),f2=o_∧Qh (Qk [2,3] f) f_∧Qd ([(g2,.cells #[.int .i64 0,.slice none 0 0] 119 (0,0))]::[(g3,.cells #[.int .i64 r1.Nodes,.slice A4 f2.length c4] 119 (0,0))]::ch3::QC [] 3 l) l_∧Own Qca 148 μ_ (.slice A4 f2.length c4) f2 ch3) ?_ ?_
 ·intro _ h197 h;refine Lp h197 (fun f l (j_:(List ZW)×Int) f_ μ_ l_=>YG j_ fun f1 v1=> ∃(A2:Option Addr) (c2:Nat) (ch1:Seg),Qh ((12,.int .i64 v1)::Qk [2,3,10,11] f) f_∧Qd ([(g2,.cells #[.int .i64 0,.slice none 0 0] 119 (0,0))]::[(g3,.cells #[.int .i64 r1.Nodes,.slice A2 f1.length c2] 119 (0,0))]::ch1::QC [] 3 l) l_∧Own Qca 148 μ_ (.slice A2 f1.length c2) f1 ch1) ⟨none,0,[],fE E,sE [some 1,some 0,none] 3 E,(Own.nil)⟩ ?_;rintro ⟨f1,v1⟩ _ _ _ _ hm212 ⟨A2,c2,ch1,hF212,hS212,hO1⟩ hb212 hq212;unfold VN at hb212;replace hb212:=Qj hb212;replace hA1:=hA1.mono hm212;refine Atn 3 hF212 hS212 E E (G0 5 E ?_);refine Br hb212 13 E E (fun hc1 hb212=> ?_) (fun hc1 hb212=> ?_)
  ·refine G2 6 [13] [] [] E (Ix hb212 (Qr.rds hA1 L) E E fun x1 _ _ _ hr1 hc2 _ hb212=> ?_);obtain rfl:=hr1;refine Q3 1 [] [] [64] (Z1 (hc2.push.push.push)) E (Al E fun _=>Q1 10 [0,2,0,0] E (So E (Zs (z:=[.int .i64 0,.int .i64 0]) E E E E E E E (QR (cells':=[.int .i64 x1.From,.int .i64 x1.To]) E E E E (YM (fun g5=>Q0 0 E (So E (Yo E ?_))))))));obtain ⟨_,hz1,hb212⟩:=Qi hb212;refine Yu (r:=Qca) QU E E E E (by decide) E E 4 E hO1 E (Own.rds (Own.lit (r:=Qca) (e:=148) (g:=g5) (xs:=[(ZW.mk x1.From x1.To)]) (cs:=[.int .i64 x1.From,.int .i64 x1.To]) (css:=[[.int .i64 x1.From,.int .i64 x1.To]]) E (All2.cons (E) (All2.nil)) E E) 0 E) hz1 fun A3 c3 ch2 hO2=>Q1 8 [3] E ?_;cases hb212;exact Ce E ⟨_,rfl,A3,c3,ch2,fE E,sE [some 2,some 3,some 4] 5 E,(hO2)⟩
  refine G2 2 [] [13] [] E ?_;cases hb212;have hq_:=hq212 _ E;subst hq_;exact Ce E ⟨_,A2,c2,ch1,rfl,fE E,sE [some 0,some 1,some 2] 3 E,(hO1)⟩
 rintro _ _ _ _ h hm197 ⟨f2,A4,c4,ch3,rfl,hF197,hS197,hO3⟩;refine Atn 3 hF197 hS197 E E (G1 5 [1,0] E ?_);cases h;refine Rt [0] E E ?_;have hl2:=Own.lenOk hO3;refine Upd.frzOwn 2 E hO3 fun _ hm_1 hA3=> ?_;exact (Ug [] 3 (hR _ A4 c4 (hm197.trans hm_1) hl2 hA3))
theorem Qh1  {g1:QaJ} {A1:Option Addr} {c1:Nat} {res1:Int}
  (hl1:g1.Arcs.length≤c1∧c1≤maxLen) (hA1:Qr Qca μ A1 g1.Arcs) (h:QbC g1=some res1)
  (hR:R (.int .i64 res1) μ (L)) :
  Fn Tryz.prog 72 [.agg #[.int .i64 g1.Nodes,.slice A1 g1.Arcs.length c1]] μ (L) R:=by
 unfold QbC at h;refine FnS Tryz.func72 (by kernel_rfl) E Tryz.ntmps72 E E ?_;refine G0 2 E (Al E fun _=>Q0 4 E ?_);refine Cut h (fun f l o_ f_ μ_ l_=> ∃(v1:Bool),v1=o_∧Qh ((12,.bool v1)::Qk [1] f) f_∧Qd l l_∧μ=μ_) ?_ ?_
 ·intro _ h240 h;refine G1 5 [0] E ?_;refine Br h240 8 E E (fun hc1 h240=> ?_) (fun hc1 h240=> ?_)
  ·refine G2 5 [8] [] [] E ?_;cases h240;exact Ce E ⟨_,rfl,fE E,sE [some 0] 1 E,rfl⟩
  refine G2 5 [] [8] [0] E ?_;cases h240;exact Ce E ⟨_,rfl,fE E,sE [some 0] 1 E,rfl⟩
 rintro _ _ _ _ h _ ⟨v1,rfl,hF240,hS240,rfl⟩;refine Atn 1 hF240 hS240 E E ?_;refine Br h 12 E E (fun hc2 h=> ?_) (fun hc2 h=> ?_)
 ·refine G2 5 [12] [] [] E ?_;cases h;exact Rt [] E E (Ug [] 1 hR)
 refine G2 10 [] [12] [0] E ?_;refine Br h 16 E E (fun hc3 h=> ?_) (fun hc3 h=> ?_)
 ·refine G2 5 [16] [] [] E ?_;cases h;exact Rt [] E E (Ug [] 1 hR)
 refine G2 10 [] [16] [0] E ?_;refine Cut h (fun f l o_ f_ μ_ l_=>(.inl ())=o_∧Qh ([]) f_∧Qd (QC [] 1 l) l_∧μ=μ_) ?_ ?_
 ·intro _ h243 h;refine Lp h243 (fun f l (v2:Int) f_ μ_ l_=>Qh ((20,.int .i64 v2)::Qk [1,18,19] f) f_∧Qd l l_∧μ=μ_) ⟨fE E,sE [some 0] 1 E,E⟩ ?_;rintro v2 _ _ _ _ _ ⟨hF253,hS253,rfl⟩ hb253 hq253;unfold V7 at hb253;refine Atn 1 hF253 hS253 E E (G0 5 E ?_);refine Br hb253 21 E E (fun hc4 hb253=> ?_) (fun hc4 hb253=> ?_)
  ·refine G2 6 [21] [] [] E (Ix hb253 (Qr.rds hA1 L) E E fun _ _ _ _ hr1 hc5 _ hb253=> ?_);obtain rfl:=hr1;refine Q3 1 [] [] [64] (Z1 (hc5.push)) E (Al E fun _=>Q1 3 [0] E ?_);refine Cut hb253 (fun f l o_ f_ μ_ l_=> ∃(v3:Bool),v3=o_∧Qh ((45,.bool v3)::Qk [1,18,19,20] f) f_∧Qd (QC [] 1 l) l_∧μ=μ_) ?_ ?_
   ·intro _ h259 hb253;refine G1 5 [0] E ?_;refine Br h259 27 E E (fun hc6 h259=> ?_) (fun hc6 h259=> ?_)
    ·refine G2 19 [27,34,39] [] [] E ?_;cases h259;exact Ce E ⟨_,rfl,fE E,sE [some 1] 2 E,rfl⟩
    refine G2 7 [] [27] [0,1] E ?_;refine Br h259 34 E E (fun hc7 h259=> ?_) (fun hc7 h259=> ?_)
    ·refine G2 12 [34,39] [] [] E ?_;cases h259;exact Ce E ⟨_,rfl,fE E,sE [some 1] 2 E,rfl⟩
    refine G2 5 [] [34] [0] E ?_;refine Br h259 39 E E (fun hc8 h259=> ?_) (fun hc8 h259=> ?_)
    ·refine G2 7 [39] [] [] E ?_;cases h259;exact Ce E ⟨_,rfl,fE E,sE [some 1] 2 E,rfl⟩
    refine G2 7 [] [39] [0,1] E ?_;cases h259;exact Ce E ⟨_,rfl,fE E,sE [some 1] 2 E,rfl⟩
   rintro _ _ _ _ hb253 _ ⟨v3,rfl,hF259,hS259,rfl⟩;refine Atn 1 hF259 hS259 E E ?_;refine Br hb253 45 E E (fun hc9 hb253=> ?_) (fun hc9 hb253=> ?_)
   ·refine G2 5 [45] [] [] E ?_;cases hb253;have hq_:=hq253 _ E;subst hq_;replace h:=Ye h;cases h;exact Rt [] E E (Ug [] 1 hR)
   refine G2 7 [] [45] [] E ?_;cases hb253;exact Ce E ⟨_,rfl,fE E,sE [some 0] 1 E,rfl⟩
  refine G2 2 [] [21] [] E ?_;cases hb253;have hq_:=hq253 _ E;subst hq_;exact Ce E ⟨rfl,fE E,sE [] 1 E,rfl⟩
 rintro _ _ _ _ h _ ⟨rfl,hF243,hS243,rfl⟩;replace h:=YB h;refine Atn 0 hF243 hS243 E E (G0 4 E ?_);cases h;exact Rt [] E E (Ug [] 0 hR)
theorem Qe1  {r1:QM} {A1:Option Addr} {c1:Nat} {res1:Int}
  (hl1:r1.Edges.length≤c1∧c1≤maxLen) (hA1:Qr QF μ A1 r1.Edges) (h:QaF r1=some res1)
  (hR: ∀(μ':Gh) ,μ.le μ'→R (.int .i64 res1) μ' (L)) :
  Fn Tryz.prog 49 [.agg #[.int .i64 r1.Nodes,.slice A1 r1.Edges.length c1]] μ (L) R:=by
 unfold QaF at h;refine FnS Tryz.func49 (by kernel_rfl) E Tryz.ntmps49 E E ?_;refine G0 2 E (Al E fun _=>Q0 4 E ?_);refine Cut h (fun f l o_ f_ μ_ l_=> ∃(v1:Bool),v1=o_∧Qh ((12,.bool v1)::Qk [1] f) f_∧Qd l l_) ?_ ?_
 ·intro _ h264 h;refine G1 5 [0] E ?_;refine Br h264 8 E E (fun hc1 h264=> ?_) (fun hc1 h264=> ?_)
  ·refine G2 5 [8] [] [] E ?_;cases h264;exact Ce E ⟨_,rfl,fE E,sE [some 0] 1 E⟩
  refine G2 5 [] [8] [0] E ?_;cases h264;exact Ce E ⟨_,rfl,fE E,sE [some 0] 1 E⟩
 rintro _ _ _ _ h hm264 ⟨v1,rfl,hF264,hS264⟩;replace hA1:=hA1.mono hm264;refine Atn 1 hF264 hS264 E E ?_;refine Br h 12 E E (fun hc2 h=> ?_) (fun hc2 h=> ?_)
 ·refine G2 5 [12] [] [] E ?_;cases h;exact Rt [] E E (Ug [] 1 (hR _ hm264))
 refine G2 10 [] [12] [0] E ?_;refine Br h 16 E E (fun hc3 h=> ?_) (fun hc3 h=> ?_)
 ·refine G2 5 [16] [] [] E ?_;cases h;exact Rt [] E E (Ug [] 1 (hR _ hm264))
 refine G2 10 [] [16] [0] E ?_;refine Cut h (fun f l o_ f_ μ_ l_=>(.inl ())=o_∧Qh (Qk [1] f) f_∧Qd l l_) ?_ ?_
 ·intro _ h267 h;refine Lp h267 (fun f l (v2:Int) f_ μ_ l_=>Qh ((20,.int .i64 v2)::Qk [1,18,19] f) f_∧Qd l l_) ⟨fE E,sE [some 0] 1 E⟩ ?_;rintro v2 _ _ _ _ hm282 ⟨hF282,hS282⟩ hb282 hq282;unfold Qbz at hb282;replace hA1:=hA1.mono hm282;refine Atn 1 hF282 hS282 E E (G0 5 E ?_);refine Br hb282 21 E E (fun hc4 hb282=> ?_) (fun hc4 hb282=> ?_)
  ·refine G2 6 [21] [] [] E (Ix hb282 (Qr.rds hA1 L) E E fun _ _ _ _ hr1 hc5 _ hb282=> ?_);obtain rfl:=hr1;refine Q3 1 [] [] [64] (Z1 (hc5.push)) E (Al E fun _=>Q1 4 [0] E ?_);refine Cut hb282 (fun f l o_ f_ μ_ l_=> ∃(v3:Bool),v3=o_∧Qh ((45,.bool v3)::Qk [1,4,18,19,20] f) f_∧Qd (QC [some 1,some 0] 2 l) l_) ?_ ?_
   ·intro _ h288 hb282;refine G1 5 [0] E ?_;refine Br h288 27 E E (fun hc6 h288=> ?_) (fun hc6 h288=> ?_)
    ·refine G2 19 [27,34,39] [] [] E ?_;cases h288;exact Ce E ⟨_,rfl,fE E,sE [some 1,some 0] 2 E⟩
    refine G2 7 [] [27] [0,1] E ?_;refine Br h288 34 E E (fun hc7 h288=> ?_) (fun hc7 h288=> ?_)
    ·refine G2 12 [34,39] [] [] E ?_;cases h288;exact Ce E ⟨_,rfl,fE E,sE [some 1,some 0] 2 E⟩
    refine G2 5 [] [34] [0] E ?_;refine Br h288 39 E E (fun hc8 h288=> ?_) (fun hc8 h288=> ?_)
    ·refine G2 7 [39] [] [] E ?_;cases h288;exact Ce E ⟨_,rfl,fE E,sE [some 1,some 0] 2 E⟩
    refine G2 7 [] [39] [0,1] E ?_;cases h288;exact Ce E ⟨_,rfl,fE E,sE [some 1,some 0] 2 E⟩
   rintro _ _ _ _ hb282 hm288 ⟨v3,rfl,hF288,hS288⟩;replace hA1:=hA1.mono hm288;refine Atn 2 hF288 hS288 E E ?_;refine Br hb282 45 E E (fun hc9 hb282=> ?_) (fun hc9 hb282=> ?_)
   ·refine G2 5 [45] [] [] E ?_;cases hb282;have hq_:=hq282 _ E;subst hq_;replace h:=Ye h;cases h;exact Rt [] E E (Ug [] 2 (hR _ (hm264.trans (hm282.trans hm288))))
   refine G2 3 [] [45] [] E ?_;refine Cut hb282 (fun f l o_ f_ μ_ l_=> ∃(v4:Bool),v4=o_∧Qh ((70,.bool v4)::Qk [1,18,19,20] f) f_∧Qd (QC [some 0] 2 l) l_) ?_ ?_
   ·intro _ h293 hb282;refine G1 7 [1,1] E ?_;refine Br h293 51 E E (fun hc10 h293=> ?_) (fun hc10 h293=> ?_)
    ·refine G2 20 [51,56,61,66] [] [] E ?_;cases h293;exact Ce E ⟨_,rfl,fE E,sE [some 0] 2 E⟩
    refine G2 5 [] [51] [1] E ?_;refine Br h293 56 E E (fun hc11 h293=> ?_) (fun hc11 h293=> ?_)
    ·refine G2 15 [56,61,66] [] [] E ?_;cases h293;exact Ce E ⟨_,rfl,fE E,sE [some 0] 2 E⟩
    refine G2 5 [] [56] [1] E ?_;refine Br h293 61 E E (fun hc12 h293=> ?_) (fun hc12 h293=> ?_)
    ·refine G2 10 [61,66] [] [] E ?_;cases h293;exact Ce E ⟨_,rfl,fE E,sE [some 0] 2 E⟩
    refine G2 5 [] [61] [1] E ?_;refine Br h293 66 E E (fun hc13 h293=> ?_) (fun hc13 h293=> ?_)
    ·refine G2 5 [66] [] [] E ?_;cases h293;exact Ce E ⟨_,rfl,fE E,sE [some 0] 2 E⟩
    refine G2 5 [] [66] [1] E ?_;cases h293;exact Ce E ⟨_,rfl,fE E,sE [some 0] 2 E⟩
   rintro _ _ _ _ hb282 hm293 ⟨v4,rfl,hF293,hS293⟩;replace hA1:=hA1.mono hm293;refine Atn 1 hF293 hS293 E E ?_;refine Br hb282 70 E E (fun hc14 hb282=> ?_) (fun hc14 hb282=> ?_)
   ·refine G2 5 [70] [] [] E ?_;cases hb282;have hq_:=hq282 _ E;subst hq_;replace h:=Ye h;cases h;exact Rt [] E E (Ug [] 1 (hR _ (hm264.trans (hm282.trans (hm288.trans hm293)))))
   refine G2 7 [] [70] [] E ?_;cases hb282;exact Ce E ⟨_,rfl,fE E,sE [some 0] 1 E⟩
  refine G2 2 [] [21] [] E ?_;cases hb282;have hq_:=hq282 _ E;subst hq_;exact Ce E ⟨rfl,fE E,sE [some 0] 1 E⟩
 rintro _ _ _ _ h hm267 ⟨rfl,hF267,hS267⟩;replace h:=YB h;replace hA1:=hA1.mono hm267;refine Atn 1 hF267 hS267 E E (G1 3 [0] E (Cl E ?_));obtain ⟨_,hx2,h⟩:=Qi h;refine Qhc hl1 hA1 hx2 (fun _ _ _ hm_1 hl2 hA3=> ?_);refine Q0 0 E (Cl E ?_);obtain ⟨_,hx3,h⟩:=Qi h;refine Qh1 hl2 hA3 hx3 ((Q0 2 E ?_));cases h;exact Rt [] E E (Ug [] 1 (hR _ (hm264.trans (hm267.trans hm_1))))
theorem QdR  {c1:Int}  {res1:Bool}
   (h:Qae c1=some res1)
  (hR:R (.bool res1) μ (L)) :
  Fn Tryz.prog 121 [.int .u8 c1] μ (L) R:=by
 unfold Qae at h;refine FnS Tryz.func121 (by kernel_rfl) E Tryz.ntmps121 E E ?_;refine G0 5 E ?_;refine Cut h (fun f l o_ f_ μ_ l_=> ∃(v1:Bool),v1=o_∧Qh ((2,.bool v1)::[]) f_∧Qd l l_∧μ=μ_) ?_ ?_
 ·intro _ h307 h;refine G0 4 E ?_;refine Br h307 5 E E (fun hc1 h307=> ?_) (fun hc1 h307=> ?_)
  ·refine G2 4 [5] [] [] E ?_;refine Br h307 9 E E (fun hc2 h307=> ?_) (fun hc2 h307=> ?_)
   ·refine G2 9 [9] [] [] E ?_;cases h307;exact Ce E ⟨_,rfl,fE E,sE [] 0 E,rfl⟩
   refine G2 3 [] [9] [] E ?_;refine Br h307 12 E E (fun hc3 h307=> ?_) (fun hc3 h307=> ?_)
   ·refine G2 6 [12] [9] [] E ?_;cases h307;exact Ce E ⟨_,rfl,fE E,sE [] 0 E,rfl⟩
   refine G2 6 [] [9,12] [] E ?_;cases h307;exact Ce E ⟨_,rfl,fE E,sE [] 0 E,rfl⟩
  refine G2 7 [] [5,9] [] E ?_;refine Br h307 12 E E (fun hc4 h307=> ?_) (fun hc4 h307=> ?_)
  ·refine G2 6 [12] [9] [] E ?_;cases h307;exact Ce E ⟨_,rfl,fE E,sE [] 0 E,rfl⟩
  refine G2 6 [] [9,12] [] E ?_;cases h307;exact Ce E ⟨_,rfl,fE E,sE [] 0 E,rfl⟩
 rintro _ _ _ _ h _ ⟨v1,rfl,hF307,hS307,rfl⟩;refine Atn 0 hF307 hS307 E E ?_;cases h;exact Rt [] E E (Ug [] 0 hR)
theorem Qh3 {F:Nat} {s1:ByteArray}  {res1:Bool}
   (h:QbD F s1=some res1)
  (hR:R (.bool res1) μ (L)) :
  Fn Tryz.prog 102 [.string s1] μ (L) R:=by
 unfold QbD at h;refine FnS Tryz.func102 (by kernel_rfl) E Tryz.ntmps102 E E ?_;refine G0 6 E ?_;refine Cut h (fun f l o_ f_ μ_ l_=> ∃(v1:Bool),v1=o_∧Qh ((18,.bool v1)::Qk [0] f) f_∧Qd l l_∧μ=μ_) ?_ ?_
 ·intro _ h306 h;refine G0 5 E ?_;refine Br h306 8 E E (fun hc1 h306=> ?_) (fun hc1 h306=> ?_)
  ·refine G2 11 [8,13] [] [] E ?_;cases h306;exact Ce E ⟨_,rfl,fE E,sE [] 0 E,rfl⟩
  refine G2 5 [] [8] [] E ?_;refine Br h306 13 E E (fun hc2 h306=> ?_) (fun hc2 h306=> ?_)
  ·refine G2 6 [13] [] [] E ?_;cases h306;exact Ce E ⟨_,rfl,fE E,sE [] 0 E,rfl⟩
  obtain ⟨_,hb1,h306⟩:=Qi h306;refine G2 1 [] [13] [] E (Rdo E E (Qjw QU E E E E hb1 (Q0 0 E (Cl E ?_))));obtain ⟨_,hx1,h306⟩:=Qi h306;refine QdR  hx1 ((Q2 3 [] [13] [] E ?_));cases h306;exact Ce E ⟨_,rfl,fE E,sE [] 0 E,rfl⟩
 rintro _ _ _ _ h _ ⟨v1,rfl,hF306,hS306,rfl⟩;refine Atn 0 hF306 hS306 E E ?_;refine Br h 18 E E (fun hc3 h=> ?_) (fun hc3 h=> ?_)
 ·refine G2 5 [18] [] [] E ?_;cases h;exact Rt [] E E (Ug [] 0 hR)
 refine G2 7 [] [18] [] E ?_;refine Cut h (fun f l o_ f_ μ_ l_=>(.inl ())=o_∧Qh ([]) f_∧Qd l l_∧μ=μ_) ?_ ?_
 ·intro _ h308 h;refine Lp h308 (fun f l (i1:Int) f_ μ_ l_=>Qh ((3,.int .i64 i1)::Qk [0] f) f_∧Qd l l_∧μ=μ_) ⟨fE E,sE [] 0 E,E⟩ ?_;rintro i1 _ _ _ _ _ ⟨hF311,hS311,rfl⟩ hb311 hq311;unfold Qa6 at hb311;refine Atn 0 hF311 hS311 E E (G0 8 E ?_);refine Br hb311 22 E E (fun hc4 hb311=> ?_) (fun hc4 hb311=> ?_)
  ·obtain ⟨
       _,hb2,hb311⟩:=Qi hb311
   refine G2 8 [22] [] [] E (Rdo E E (Qjw QU E E E E hb2 (Q0 3 E ?_)));refine Cut hb311 (fun f l o_ f_ μ_ l_=> ∃(v2:Bool),v2=o_∧Qh ((50,.bool v2)::Qk [0,3] f) f_∧Qd l l_∧μ=μ_) ?_ ?_
   ·intro _ h312 hb311;refine G0 2 E (Cl E ?_);obtain ⟨_,hx2,h312⟩:=Qi h312;refine QdR  hx2 ((Q0 2 E ?_));refine Br h312 31 E E (fun hc5 h312=> ?_) (fun hc5 h312=> ?_)
    ·refine G2 3 [31] [] [] E ?_;refine Br h312 34 E E (fun hc6 h312=> ?_) (fun hc6 h312=> ?_)
     ·refine G2 9 [31,34,39] [] [] E ?_;refine Br h312 43 E E (fun hc7 h312=> ?_) (fun hc7 h312=> ?_)
      ·refine G2 4 [43] [] [] E ?_;refine Br h312 47 E E (fun hc8 h312=> ?_) (fun hc8 h312=> ?_)
       ·refine G2 4 [47] [] [] E ?_;cases h312;exact Ce E ⟨_,rfl,fE E,sE [] 0 E,rfl⟩
       refine G2 4 [] [47] [] E ?_;cases h312;exact Ce E ⟨_,rfl,fE E,sE [] 0 E,rfl⟩
      refine G2 8 [] [43,47] [] E ?_;cases h312;exact Ce E ⟨_,rfl,fE E,sE [] 0 E,rfl⟩
     refine G2 5 [31] [34] [] E ?_;refine Br h312 39 E E (fun hc9 h312=> ?_) (fun hc9 h312=> ?_)
     ·refine G2 4 [39] [] [] E ?_;refine Br h312 43 E E (fun hc10 h312=> ?_) (fun hc10 h312=> ?_)
      ·refine G2 4 [43] [] [] E ?_;refine Br h312 47 E E (fun hc11 h312=> ?_) (fun hc11 h312=> ?_)
       ·refine G2 4 [47] [] [] E ?_;cases h312;exact Ce E ⟨_,rfl,fE E,sE [] 0 E,rfl⟩
       refine G2 4 [] [47] [] E ?_;cases h312;exact Ce E ⟨_,rfl,fE E,sE [] 0 E,rfl⟩
      refine G2 8 [] [43,47] [] E ?_;cases h312;exact Ce E ⟨_,rfl,fE E,sE [] 0 E,rfl⟩
     refine G2 12 [] [39,43,47] [] E ?_;cases h312;exact Ce E ⟨_,rfl,fE E,sE [] 0 E,rfl⟩
    refine G2 20 [] [31,39,43,47] [] E ?_;cases h312;exact Ce E ⟨_,rfl,fE E,sE [] 0 E,rfl⟩
   rintro _ _ _ _ hb311 _ ⟨v2,rfl,hF312,hS312,rfl⟩;refine Atn 0 hF312 hS312 E E ?_;refine Br hb311 50 E E (fun hc12 hb311=> ?_) (fun hc12 hb311=> ?_)
   ·refine G2 5 [50] [] [] E ?_;cases hb311;have hq_:=hq311 _ E;subst hq_;replace h:=Ye h;cases h;exact Rt [] E E (Ug [] 0 hR)
   refine G2 8 [] [50] [] E ?_;cases hb311;exact Ce E ⟨_,rfl,fE E,sE [] 0 E,rfl⟩
  refine G2 2 [] [22] [] E ?_;cases hb311;have hq_:=hq311 _ E;subst hq_;exact Ce E ⟨rfl,fE E,sE [] 0 E,rfl⟩
 rintro _ _ _ _ h _ ⟨rfl,hF308,hS308,rfl⟩;replace h:=YB h;refine Atn 0 hF308 hS308 E E (G0 4 E ?_);cases h;exact Rt [] E E (Ug [] 0 hR)
theorem QgB {F:Nat} {v1:Qp} {nodes1:Int} {materials1:Int}  {res1:Int}
   (h:QaA F v1 nodes1 materials1=some res1)
  (hR:R (.int .i64 res1) μ (L)) :
  Fn Tryz.prog 74 [.agg #[.string v1.ID,.int .i64 v1.Depot,.int .i64 v1.Shift.From,.int .i64 v1.Shift.To,.int .i64 v1.Grams,.int .i64 v1.Kinds],.int .i64 nodes1,.int .i64 materials1] μ (L) R:=by
 unfold QaA at h;refine FnS Tryz.func74 (by kernel_rfl) E Tryz.ntmps74 E E ?_;refine G0 2 E (Al E fun _=>Q1 8 [0] E (Cl E ?_));obtain ⟨_,hx1,h⟩:=Qi h;refine Qh3  hx1 ((Q0 3 E ?_));refine Br h 7 E E (fun hc1 h=> ?_) (fun hc1 h=> ?_)
 ·refine G2 5 [7] [] [] E ?_;cases h;exact Rt [] E E (Ug [] 1 hR)
 refine G2 2 [] [7] [] E ?_;refine Cut h (fun f l o_ f_ μ_ l_=> ∃(v2:Bool),v2=o_∧Qh ((12,.bool v2)::Qk [2,3] f) f_∧Qd l l_∧μ=μ_) ?_ ?_
 ·intro _ h313 h;refine G1 5 [0] E ?_;refine Br h313 16 E E (fun hc2 h313=> ?_) (fun hc2 h313=> ?_)
  ·refine G2 7 [16] [] [] E ?_;cases h313;exact Ce E ⟨_,rfl,fE E,sE [some 0] 1 E,rfl⟩
  refine G2 7 [] [16] [0] E ?_;cases h313;exact Ce E ⟨_,rfl,fE E,sE [some 0] 1 E,rfl⟩
 rintro _ _ _ _ h _ ⟨v2,rfl,hF313,hS313,rfl⟩;refine Atn 1 hF313 hS313 E E ?_;refine Br h 12 E E (fun hc3 h=> ?_) (fun hc3 h=> ?_)
 ·refine G2 5 [12] [] [] E ?_;cases h;exact Rt [] E E (Ug [] 1 hR)
 refine G2 2 [] [12] [] E ?_;refine Cut h (fun f l o_ f_ μ_ l_=> ∃(v3:Bool),v3=o_∧Qh ((22,.bool v3)::Qk [2,3] f) f_∧Qd l l_∧μ=μ_) ?_ ?_
 ·intro _ h316 h;refine G1 6 [0] E ?_;refine Br h316 27 E E (fun hc4 h316=> ?_) (fun hc4 h316=> ?_)
  ·refine G2 16 [27,36] [] [] E ?_;cases h316;exact Ce E ⟨_,rfl,fE E,sE [some 0] 1 E,rfl⟩
  refine G2 9 [] [27] [0,0] E ?_;refine Br h316 36 E E (fun hc5 h316=> ?_) (fun hc5 h316=> ?_)
  ·refine G2 7 [36] [] [] E ?_;cases h316;exact Ce E ⟨_,rfl,fE E,sE [some 0] 1 E,rfl⟩
  refine G2 7 [] [36] [0] E ?_;cases h316;exact Ce E ⟨_,rfl,fE E,sE [some 0] 1 E,rfl⟩
 rintro _ _ _ _ h _ ⟨v3,rfl,hF316,hS316,rfl⟩;refine Atn 1 hF316 hS316 E E ?_;refine Br h 22 E E (fun hc6 h=> ?_) (fun hc6 h=> ?_)
 ·refine G2 5 [22] [] [] E ?_;cases h;exact Rt [] E E (Ug [] 1 hR)
 refine G2 2 [] [22] [] E ?_;refine Cut h (fun f l o_ f_ μ_ l_=> ∃(v4:Bool),v4=o_∧Qh ((42,.bool v4)::Qk [2,3] f) f_∧Qd l l_∧μ=μ_) ?_ ?_
 ·intro _ h319 h;refine G1 5 [0] E ?_;refine Br h319 46 E E (fun hc7 h319=> ?_) (fun hc7 h319=> ?_)
  ·refine G2 6 [46] [] [] E ?_;cases h319;exact Ce E ⟨_,rfl,fE E,sE [some 0] 1 E,rfl⟩
  refine G2 6 [] [46] [0] E ?_;cases h319;exact Ce E ⟨_,rfl,fE E,sE [some 0] 1 E,rfl⟩
 rintro _ _ _ _ h _ ⟨v4,rfl,hF319,hS319,rfl⟩;refine Atn 1 hF319 hS319 E E ?_;refine Br h 42 E E (fun hc8 h=> ?_) (fun hc8 h=> ?_)
 ·refine G2 5 [42] [] [] E ?_;cases h;exact Rt [] E E (Ug [] 1 hR)
 refine G2 2 [] [42] [] E ?_;refine Cut h (fun f l o_ f_ μ_ l_=> ∃(v5:Bool),v5=o_∧Qh ((51,.bool v5)::[]) f_∧Qd (QC [] 1 l) l_∧μ=μ_) ?_ ?_
 ·intro _ h322 h;refine Dr _ Qz.refl [(true,0),(true,1),(true,2),(true,3),(true,4),(true,5),(true,6),(true,7),(true,8),(true,9),(true,10)] (by kernel_rfl) (G1 4 [0] E ?_);refine Br h322 55 E E (fun hc9 h322=> ?_) (fun hc9 h322=> ?_)
  ·refine G2 8 [55] [] [] E ?_;cases h322;exact Ce E ⟨_,rfl,fE E,sE [] 1 E,rfl⟩
  refine G2 3 [] [55] [0] E (Rdo E E ?_);obtain ⟨_,hg1,h322⟩:=Qi h322;refine QnI E E E (JJ hg1) (Q2 4 [] [55] [] E ?_);cases h322;exact Ce E ⟨_,rfl,fE E,sE [] 1 E,rfl⟩
 rintro _ _ _ _ h _ ⟨v5,rfl,hF322,hS322,rfl⟩;refine Atn 0 hF322 hS322 E E ?_;refine Br h 51 E E (fun hc10 h=> ?_) (fun hc10 h=> ?_)
 ·refine G2 5 [51] [] [] E ?_;cases h;exact Rt [] E E (Ug [] 0 hR)
 refine G2 7 [] [51] [] E ?_;cases h;exact Rt [] E E (Ug [] 0 hR)
theorem QgA {F:Nat} {l1:(List Qp)} {nodes1:Int} {materials1:Int} {A1:Option Addr} {c1:Nat} {res1:Int}
  (hl1:l1.length≤c1∧c1≤maxLen) (hA1:Rds Qy μ L A1 l1) (h:VT F l1 nodes1 materials1=some res1)
  (hR:R (.int .i64 res1) μ (L)) :
  Fn Tryz.prog 50 [.slice A1 l1.length c1,.int .i64 nodes1,.int .i64 materials1] μ (L) R:=by
 unfold VT at h;refine FnS Tryz.func50 (by kernel_rfl) E Tryz.ntmps50 E E ?_;refine G0 6 E ?_;refine Cut h (fun f l o_ f_ μ_ l_=> ∃(v1:Bool),v1=o_∧Qh ((26,.bool v1)::Qk [0,1,2] f) f_∧Qd l l_∧μ=μ_) ?_ ?_
 ·intro _ h300 h;refine G0 4 E ?_;refine Br h300 15 E E (fun hc1 h300=> ?_) (fun hc1 h300=> ?_)
  ·refine G2 12 [15,19,23] [] [] E ?_;cases h300;exact Ce E ⟨_,rfl,fE E,sE [] 0 E,rfl⟩
  refine G2 4 [] [15] [] E ?_;refine Br h300 19 E E (fun hc2 h300=> ?_) (fun hc2 h300=> ?_)
  ·refine G2 8 [19,23] [] [] E ?_;cases h300;exact Ce E ⟨_,rfl,fE E,sE [] 0 E,rfl⟩
  refine G2 4 [] [19] [] E ?_;refine Br h300 23 E E (fun hc3 h300=> ?_) (fun hc3 h300=> ?_)
  ·refine G2 4 [23] [] [] E ?_;cases h300;exact Ce E ⟨_,rfl,fE E,sE [] 0 E,rfl⟩
  refine G2 4 [] [23] [] E ?_;cases h300;exact Ce E ⟨_,rfl,fE E,sE [] 0 E,rfl⟩
 rintro _ _ _ _ h _ ⟨v1,rfl,hF300,hS300,rfl⟩;refine Atn 0 hF300 hS300 E E ?_;refine Br h 26 E E (fun hc4 h=> ?_) (fun hc4 h=> ?_)
 ·refine G2 5 [26] [] [] E ?_;cases h;exact Rt [] E E (Ug [] 0 hR)
 refine G2 9 [] [26] [] E ?_;refine Br h 29 E E (fun hc5 h=> ?_) (fun hc5 h=> ?_)
 ·refine G2 5 [29] [] [] E ?_;cases h;exact Rt [] E E (Ug [] 0 hR)
 refine G2 9 [] [29] [] E ?_;refine Br h 32 E E (fun hc6 h=> ?_) (fun hc6 h=> ?_)
 ·refine G2 5 [32] [] [] E ?_;cases h;exact Rt [] E E (Ug [] 0 hR)
 refine G2 9 [] [32] [] E ?_;refine Cut h (fun f l o_ f_ μ_ l_=>(.inl ())=o_∧Qh (Qk [0] f) f_∧Qd l l_∧μ=μ_) ?_ ?_
 ·intro _ h301 h;refine Lp h301 (fun f l (v2:Int) f_ μ_ l_=>Qh ((35,.int .i64 v2)::Qk [0,1,2,33,34] f) f_∧Qd l l_∧μ=μ_) ⟨fE E,sE [] 0 E,E⟩ ?_;rintro v2 _ _ _ _ _ ⟨hF323,hS323,rfl⟩ hb323 hq323;unfold WW at hb323;refine Atn 0 hF323 hS323 E E (G0 5 E ?_);refine Br hb323 36 E E (fun hc7 hb323=> ?_) (fun hc7 hb323=> ?_)
  ·refine G2 6 [36] [] [] E (Ix hb323 hA1 E E fun _ _ _ _ hr1 hc8 _ hb323=> ?_);obtain rfl:=hr1;refine Q3 1 [] [] [64] (Z1 hc8) E (Al E fun _=>Q1 7 [0,0] E (Cl E ?_));obtain ⟨_,hx2,hb323⟩:=Qi hb323;refine QgB  hx2 ((Q0 7 E ?_));refine Br hb323 44 E E (fun hc9 hb323=> ?_) (fun hc9 hb323=> ?_)
   ·refine G2 6 [44] [] [] E ?_;cases hb323;have hq_:=hq323 _ E;subst hq_;replace h:=Ye h;cases h;exact Rt [] E E (Ug [] 1 hR)
   refine G2 7 [] [44] [] E ?_;cases hb323;exact Ce E ⟨_,rfl,fE E,sE [] 1 E,rfl⟩
  refine G2 2 [] [36] [] E ?_;cases hb323;have hq_:=hq323 _ E;subst hq_;exact Ce E ⟨rfl,fE E,sE [] 0 E,rfl⟩
 rintro _ _ _ _ h _ ⟨rfl,hF301,hS301,rfl⟩;replace h:=YB h;refine Atn 0 hF301 hS301 E E (G0 2 E (So E (Qmi (fun g2=>Q0 9 E ?_))));refine Cut h (fun f l o_ f_ μ_ l_=>(.inl ())=o_∧Qh ([]) f_∧Qd (QC [] 1 l) l_∧μ=μ_) ?_ ?_
 ·intro _ h327 h;refine Lp h327 (fun f l (j_:(List (ByteArray×Bool))×Int) f_ μ_ l_=>YG j_ fun m1 v3=> ∃(es1:Array MapEntry) (cn1:Nat),Qh ((50,.int .i64 v3)::Qk [10,48,49] f) f_∧Qd ([(g2,.map es1 cn1)]::QC [] 1 l) l_∧Qfz Value.bool es1 cn1 m1∧μ=μ_) ⟨#[],0,fE E,sE [some 0] 1 E,((Qfz.nil (enc:=Value.bool))),E⟩ ?_;rintro ⟨m1,v3⟩ _ _ _ _ _ ⟨es1,cn1,hF332,hS332,hM1,rfl⟩ hb332 hq332;unfold WX at hb332;replace hb332:=Qj hb332;refine Atn 1 hF332 hS332 E E (G0 5 E ?_);refine Br hb332 51 E E (fun hc10 hb332=> ?_) (fun hc10 hb332=> ?_)
  ·refine G2 6 [51] [] [] E (Ix hb332 hA1 E E fun _ _ _ _ hr2 hc11 _ hb332=> ?_);obtain rfl:=hr2;refine Q3 1 [] [] [64] (Z1 (hc11.push)) E (Al E fun _=>Q1 8 [0,0] E (Rdo E E (Qo5 (zb:=false) QU E E E E E E E E (Qam.seg 1 0 E E) hM1 (Q0 1 E ?_))));refine Br hb332 57 E E (fun hc12 hb332=> ?_) (fun hc12 hb332=> ?_)
   ·refine G2 5 [57] [] [] E ?_;cases hb332;have hq_:=hq332 _ E;subst hq_;replace h:=Ye h;cases h;exact Rt [] E E (Ug [] 2 hR)
   refine G2 6 [] [57] [0] E (So E (QgE E E E (Ql5 QU E E E E 1 (b:=true) E hM1 E fun es2 cn2 hM2=>Q0 6 E ?_)));cases hb332;exact Ce E ⟨_,rfl,es2,cn2,fE E,sE [some 1] 2 E,(hM2),rfl⟩
  refine G2 2 [] [51] [] E ?_;cases hb332;have hq_:=hq332 _ E;subst hq_;exact Ce E ⟨rfl,fE E,sE [] 1 E,rfl⟩
 rintro _ _ _ _ h _ ⟨rfl,hF327,hS327,rfl⟩;replace h:=YB h;refine Atn 0 hF327 hS327 E E (G0 4 E ?_);cases h;exact Rt [] E E (Ug [] 0 hR)
theorem Qbn  {n1:Int} {low1:Int} {high1:Int}  {res1:Bool}
   (h:Vl n1 low1 high1=some res1)
  (hR:R (.bool res1) μ (L)) :
  Fn Tryz.prog 103 [.int .i64 n1,.int .i64 low1,.int .i64 high1] μ (L) R:=by
 unfold Vl at h;refine FnS Tryz.func103 (by kernel_rfl) E Tryz.ntmps103 E E ?_;refine G0 5 E ?_;refine Cut h (fun f l o_ f_ μ_ l_=> ∃(v1:Bool),v1=o_∧Qh ((6,.bool v1)::[]) f_∧Qd l l_∧μ=μ_) ?_ ?_
 ·intro _ h345 h;refine G0 5 E ?_;refine Br h345 10 E E (fun hc1 h345=> ?_) (fun hc1 h345=> ?_)
  ·refine G2 6 [10] [] [] E ?_;cases h345;exact Ce E ⟨_,rfl,fE E,sE [] 0 E,rfl⟩
  refine G2 6 [] [10] [] E ?_;cases h345;exact Ce E ⟨_,rfl,fE E,sE [] 0 E,rfl⟩
 rintro _ _ _ _ h _ ⟨v1,rfl,hF345,hS345,rfl⟩;refine Atn 0 hF345 hS345 E E ?_;cases h;exact Rt [] E E (Ug [] 0 hR)
theorem QiG  {x1:Qw} {nodes1:Int} {materials1:Int}  {res1:Int}
   (h:Qdp x1 nodes1 materials1=some res1)
  (hR:R (.int .i64 res1) μ (L)) :
  Fn Tryz.prog 75 [.agg #[.int .i64 x1.Container,.int .i64 x1.Node,.int .i64 x1.Kind,.int .i64 x1.Grams,.int .i64 x1.When.From,.int .i64 x1.When.To,.int .i64 x1.Service],.int .i64 nodes1,.int .i64 materials1] μ (L) R:=by
 unfold Qdp at h;refine FnS Tryz.func75 (by kernel_rfl) E Tryz.ntmps75 E E ?_;refine G0 2 E (Al E fun _=>Q0 5 E ?_);refine Cut h (fun f l o_ f_ μ_ l_=> ∃(v1:Bool),v1=o_∧Qh ((7,.bool v1)::Qk [3] f) f_∧Qd l l_∧μ=μ_) ?_ ?_
 ·intro _ h344 h;refine G1 3 [0] E (Cl E ?_);obtain ⟨_,hx1,h344⟩:=Qi h344;refine Qbn  hx1 ((Q0 2 E ?_));refine Br h344 12 E E (fun hc1 h344=> ?_) (fun hc1 h344=> ?_)
  ·refine G2 23 [12,17,23,28] [] [] E ?_;cases h344;exact Ce E ⟨_,rfl,fE E,sE [some 0] 1 E,rfl⟩
  refine G2 5 [] [12] [0] E ?_;refine Br h344 17 E E (fun hc2 h344=> ?_) (fun hc2 h344=> ?_)
  ·refine G2 18 [17,23,28] [] [] E ?_;cases h344;exact Ce E ⟨_,rfl,fE E,sE [some 0] 1 E,rfl⟩
  refine G2 6 [] [17] [0] E ?_;refine Br h344 23 E E (fun hc3 h344=> ?_) (fun hc3 h344=> ?_)
  ·refine G2 12 [23,28] [] [] E ?_;cases h344;exact Ce E ⟨_,rfl,fE E,sE [some 0] 1 E,rfl⟩
  refine G2 5 [] [23] [0] E ?_;refine Br h344 28 E E (fun hc4 h344=> ?_) (fun hc4 h344=> ?_)
  ·refine G2 7 [28] [] [] E ?_;cases h344;exact Ce E ⟨_,rfl,fE E,sE [some 0] 1 E,rfl⟩
  refine G2 7 [] [28] [0] E ?_;cases h344;exact Ce E ⟨_,rfl,fE E,sE [some 0] 1 E,rfl⟩
 rintro _ _ _ _ h _ ⟨v1,rfl,hF344,hS344,rfl⟩;refine Atn 1 hF344 hS344 E E ?_;refine Br h 7 E E (fun hc5 h=> ?_) (fun hc5 h=> ?_)
 ·refine G2 5 [7] [] [] E ?_;cases h;exact Rt [] E E (Ug [] 1 hR)
 refine G2 2 [] [7] [] E ?_;refine Cut h (fun f l o_ f_ μ_ l_=> ∃(v2:Bool),v2=o_∧Qh ((34,.bool v2)::[]) f_∧Qd (QC [] 1 l) l_∧μ=μ_) ?_ ?_
 ·intro _ h348 h;refine G1 3 [0] E (Cl E ?_);obtain ⟨_,hx2,h348⟩:=Qi h348;refine Qbn  hx2 ((Q0 2 E ?_));refine Br h348 39 E E (fun hc6 h348=> ?_) (fun hc6 h348=> ?_)
  ·refine G2 28 [39,45,54,60] [] [] E ?_;cases h348;exact Ce E ⟨_,rfl,fE E,sE [] 1 E,rfl⟩
  refine G2 6 [] [39] [0] E ?_;refine Br h348 45 E E (fun hc7 h348=> ?_) (fun hc7 h348=> ?_)
  ·refine G2 22 [45,54,60] [] [] E ?_;cases h348;exact Ce E ⟨_,rfl,fE E,sE [] 1 E,rfl⟩
  refine G2 9 [] [45] [0,0] E ?_;refine Br h348 54 E E (fun hc8 h348=> ?_) (fun hc8 h348=> ?_)
  ·refine G2 13 [54,60] [] [] E ?_;cases h348;exact Ce E ⟨_,rfl,fE E,sE [] 1 E,rfl⟩
  refine G2 6 [] [54] [0] E ?_;refine Br h348 60 E E (fun hc9 h348=> ?_) (fun hc9 h348=> ?_)
  ·refine G2 7 [60] [] [] E ?_;cases h348;exact Ce E ⟨_,rfl,fE E,sE [] 1 E,rfl⟩
  refine G2 2 [] [60] [0] E (Cl E ?_);obtain ⟨_,hx3,h348⟩:=Qi h348;refine Qbn  hx3 ((Q2 4 [] [60] [] E ?_));cases h348;exact Ce E ⟨_,rfl,fE E,sE [] 1 E,rfl⟩
 rintro _ _ _ _ h _ ⟨v2,rfl,hF348,hS348,rfl⟩;refine Atn 0 hF348 hS348 E E ?_;refine Br h 34 E E (fun hc10 h=> ?_) (fun hc10 h=> ?_)
 ·refine G2 5 [34] [] [] E ?_;cases h;exact Rt [] E E (Ug [] 0 hR)
 refine G2 7 [] [34] [] E ?_;cases h;exact Rt [] E E (Ug [] 0 hR)
theorem QfK  {y1:Qw} {b1:Qw} {g1:Nat} {res1:Bool}
   (h:Qa2 y1 b1=some res1)
  (hR:R (.bool res1) μ ([(g1,.cells #[.int .i64 b1.Container,.int .i64 b1.Node,.int .i64 b1.Kind,.int .i64 b1.Grams,.int .i64 b1.When.From,.int .i64 b1.When.To,.int .i64 b1.Service] 63 (0,0))]::L)) :
  Fn Tryz.prog 77 [.agg #[.int .i64 y1.Container,.int .i64 y1.Node,.int .i64 y1.Kind,.int .i64 y1.Grams,.int .i64 y1.When.From,.int .i64 y1.When.To,.int .i64 y1.Service],.pointer (some ⟨g1,0,none⟩)] μ ([(g1,.cells #[.int .i64 b1.Container,.int .i64 b1.Node,.int .i64 b1.Kind,.int .i64 b1.Grams,.int .i64 b1.When.From,.int .i64 b1.When.To,.int .i64 b1.Service] 63 (0,0))]::L) R:=by
 unfold Qa2 at h;refine FnS Tryz.func77 (by kernel_rfl) E Tryz.ntmps77 E E ?_;refine G0 2 E (Al E fun _=>Q1 11 [0,1] E ?_);cases h;exact Rt [] E E (Ug [[1]] 2 hR)
theorem Qbs  {s1:(List Qw)} {b1:Qw} {A1:Option Addr} {c1:Nat} {g1:Nat} {res1:Int}
  (hl1:s1.length≤c1∧c1≤maxLen) (hA1:Rds QB μ L A1 s1) (h:Jo s1 b1=some res1)
  (hR:R (.int .i64 res1) μ ([(g1,.cells #[.int .i64 b1.Container,.int .i64 b1.Node,.int .i64 b1.Kind,.int .i64 b1.Grams,.int .i64 b1.When.From,.int .i64 b1.When.To,.int .i64 b1.Service] 63 (0,0))]::L)) :
  Fn Tryz.prog 104 [.slice A1 s1.length c1,.func (.func 77) #[] #[.pointer (some ⟨g1,0,none⟩)]] μ ([(g1,.cells #[.int .i64 b1.Container,.int .i64 b1.Node,.int .i64 b1.Kind,.int .i64 b1.Grams,.int .i64 b1.When.From,.int .i64 b1.When.To,.int .i64 b1.Service] 63 (0,0))]::L) R:=by
 unfold Jo at h;refine FnS Tryz.func104 (by kernel_rfl) E Tryz.ntmps104 E E ?_;refine G0 11 E ?_;refine Cut h (fun f l o_ f_ μ_ l_=>(.inl ())=o_∧Qh ([]) f_∧Qd l l_∧μ=μ_) ?_ ?_
 ·intro _ h361 h;refine Lp h361 (fun f l (v1:Int) f_ μ_ l_=>Qh ((8,.int .i64 v1)::Qk [0,1,7] f) f_∧Qd l l_∧μ=μ_) ⟨fE E,sE [some 0] 1 E,E⟩ ?_;rintro v1 _ _ _ _ _ ⟨hF369,hS369,rfl⟩ hb369 hq369;unfold YV at hb369;refine Atn 1 hF369 hS369 E E (G0 5 E ?_);refine Br hb369 9 E E (fun hc1 hb369=> ?_) (fun hc1 hb369=> ?_)
  ·refine G2 14 [9] [] [] E (Ix hb369 hA1 E E fun _ _ _ _ hr1 hc2 _ hb369=> ?_);obtain rfl:=hr1;refine Q3 1 [] [] [64] (Z1 (hc2.push)) E (Cl E ?_);obtain ⟨_,hx2,hb369⟩:=Qi hb369;refine QfK  hx2 ((Q0 1 E ?_));refine Br hb369 16 E E (fun hc3 hb369=> ?_) (fun hc3 hb369=> ?_)
   ·refine G2 6 [16] [] [] E ?_;cases hb369;have hq_:=hq369 _ E;subst hq_;replace h:=Ye h;cases h;exact Rt [] E E (Ug [[0]] 1 hR)
   refine G2 7 [] [16] [] E ?_;cases hb369;exact Ce E ⟨_,rfl,fE E,sE [some 0] 1 E,rfl⟩
  refine G2 2 [] [9] [] E ?_;cases hb369;have hq_:=hq369 _ E;subst hq_;exact Ce E ⟨rfl,fE E,sE [some 0] 1 E,rfl⟩
 rintro _ _ _ _ h _ ⟨rfl,hF361,hS361,rfl⟩;replace h:=YB h;refine Atn 1 hF361 hS361 E E (G0 4 E ?_);cases h;exact Rt [] E E (Ug [[0]] 1 hR)
theorem QaT  {s1:(List Qw)} {b1:Qw} {A1:Option Addr} {c1:Nat} {g1:Nat} {res1:Bool}
  (hl1:s1.length≤c1∧c1≤maxLen) (hA1:Rds QB μ L A1 s1) (h:YU s1 b1=some res1)
  (hR:R (.bool res1) μ ([(g1,.cells #[.int .i64 b1.Container,.int .i64 b1.Node,.int .i64 b1.Kind,.int .i64 b1.Grams,.int .i64 b1.When.From,.int .i64 b1.When.To,.int .i64 b1.Service] 63 (0,0))]::L)) :
  Fn Tryz.prog 76 [.slice A1 s1.length c1,.func (.func 77) #[] #[.pointer (some ⟨g1,0,none⟩)]] μ ([(g1,.cells #[.int .i64 b1.Container,.int .i64 b1.Node,.int .i64 b1.Kind,.int .i64 b1.Grams,.int .i64 b1.When.From,.int .i64 b1.When.To,.int .i64 b1.Service] 63 (0,0))]::L) R:=by
 unfold YU at h;refine FnS Tryz.func76 (by kernel_rfl) E Tryz.ntmps76 E E ?_;refine G0 8 E (Cl E ?_);obtain ⟨_,hx1,h⟩:=Qi h;refine Qbs hl1 hA1 hx1 ((Q0 3 E ?_));cases h;exact Rt [] E E (Ug [[0]] 1 hR)
theorem Qg3  {l1:(List Qw)} {nodes1:Int} {materials1:Int} {A1:Option Addr} {c1:Nat} {res1:Int}
  (hl1:l1.length≤c1∧c1≤maxLen) (hA1:Rds QB μ L A1 l1) (h:Qa1 l1 nodes1 materials1=some res1)
  (hR:R (.int .i64 res1) μ (L)) :
  Fn Tryz.prog 51 [.slice A1 l1.length c1,.int .i64 nodes1,.int .i64 materials1] μ (L) R:=by
 unfold Qa1 at h;refine FnS Tryz.func51 (by kernel_rfl) E Tryz.ntmps51 E E ?_;refine G0 11 E ?_;refine Br h 14 E E (fun hc1 h=> ?_) (fun hc1 h=> ?_)
 ·refine G2 5 [14] [] [] E ?_;cases h;exact Rt [] E E (Ug [] 0 hR)
 refine G2 9 [] [14] [] E ?_;refine Cut h (fun f l o_ f_ μ_ l_=>(.inl ())=o_∧Qh (Qk [0] f) f_∧Qd l l_∧μ=μ_) ?_ ?_
 ·intro _ h339 h;refine Lp h339 (fun f l (v1:Int) f_ μ_ l_=>Qh ((17,.int .i64 v1)::Qk [0,1,2,15,16] f) f_∧Qd l l_∧μ=μ_) ⟨fE E,sE [] 0 E,E⟩ ?_;rintro v1 _ _ _ _ _ ⟨hF349,hS349,rfl⟩ hb349 hq349;unfold QaB at hb349;refine Atn 0 hF349 hS349 E E (G0 5 E ?_);refine Br hb349 18 E E (fun hc2 hb349=> ?_) (fun hc2 hb349=> ?_)
  ·refine G2 6 [18] [] [] E (Ix hb349 hA1 E E fun _ _ _ _ hr1 hc3 _ hb349=> ?_);obtain rfl:=hr1;refine Q3 1 [] [] [64] (Z1 hc3) E (Al E fun _=>Q1 7 [0,0] E (Cl E ?_));obtain ⟨_,hx2,hb349⟩:=Qi hb349;refine QiG  hx2 ((Q0 7 E ?_));refine Br hb349 26 E E (fun hc4 hb349=> ?_) (fun hc4 hb349=> ?_)
   ·refine G2 6 [26] [] [] E ?_;cases hb349;have hq_:=hq349 _ E;subst hq_;replace h:=Ye h;cases h;exact Rt [] E E (Ug [] 1 hR)
   refine G2 7 [] [26] [] E ?_;cases hb349;exact Ce E ⟨_,rfl,fE E,sE [] 1 E,rfl⟩
  refine G2 2 [] [18] [] E ?_;cases hb349;have hq_:=hq349 _ E;subst hq_;exact Ce E ⟨rfl,fE E,sE [] 0 E,rfl⟩
 rintro _ _ _ _ h _ ⟨rfl,hF339,hS339,rfl⟩;replace h:=YB h;refine Atn 0 hF339 hS339 E E (G0 7 E ?_);refine Cut h (fun f l o_ f_ μ_ l_=>(.inl ())=o_∧Qh ([]) f_∧Qd l l_∧μ=μ_) ?_ ?_
 ·intro _ h352 h;refine Lp h352 (fun f l (v2:Int) f_ μ_ l_=>Qh ((31,.int .i64 v2)::Qk [0,29,30] f) f_∧Qd l l_∧μ=μ_) ⟨fE E,sE [] 0 E,E⟩ ?_;rintro v2 _ _ _ _ _ ⟨hF378,hS378,rfl⟩ hb378 hq378;unfold VL at hb378;refine Atn 0 hF378 hS378 E E (G0 5 E ?_);refine Br hb378 32 E E (fun hc5 hb378=> ?_) (fun hc5 hb378=> ?_)
  ·refine G2 7 [32] [] [] E (Ix hb378 hA1 E E fun _ _ _ _ hr2 hc6 _ hb378=> ?_);obtain rfl:=hr2;refine Q3 1 [] [] [64] (Z1 hc6) E (Al E fun _=> ?_);obtain ⟨_,hs1,hb378⟩:=Qi hb378;refine Q1 7 [0] E (Rdo E E (QbU E E E E E E hl1.1 hs1 ?_));have hA4:=Rds.pre hA1 hs1;have hl2:=QdC hl1 hs1;refine Q0 1 E (Cl E ?_);obtain ⟨_,hx4,hb378⟩:=Qi hb378;refine QaT hl2 hA4 hx4 ((Q0 1 E ?_));refine Br hb378 40 E E (fun hc7 hb378=> ?_) (fun hc7 hb378=> ?_)
   ·refine G2 5 [40] [] [] E ?_;cases hb378;have hq_:=hq378 _ E;subst hq_;replace h:=Ye h;cases h;exact Rt [] E E (Ug [] 1 hR)
   refine G2 7 [] [40] [] E ?_;cases hb378;exact Ce E ⟨_,rfl,fE E,sE [] 1 E,rfl⟩
  refine G2 2 [] [32] [] E ?_;cases hb378;have hq_:=hq378 _ E;subst hq_;exact Ce E ⟨rfl,fE E,sE [] 0 E,rfl⟩
 rintro _ _ _ _ h _ ⟨rfl,hF352,hS352,rfl⟩;replace h:=YB h;refine Atn 0 hF352 hS352 E E (G0 4 E ?_);cases h;exact Rt [] E E (Ug [] 0 hR)
theorem Qaz {F:Nat} {p1:Qe} {A1:Option Addr} {c1:Nat} {A2:Option Addr} {c2:Nat} {A3:Option Addr} {c3:Nat} {res1:Int}
  (hl1:p1.Road.Edges.length≤c1∧c1≤maxLen) (hA1:Qr QF μ A1 p1.Road.Edges) (hl2:p1.Vehicles.length≤c2∧c2≤maxLen) (hA2:Qr Qy μ A2 p1.Vehicles) (hl3:p1.Demands.length≤c3∧c3≤maxLen) (hA3:Qr QB μ A3 p1.Demands) (h:VI F p1=some res1)
  (hR: ∀(μ':Gh) ,μ.le μ'→R (.int .i64 res1) μ' (L)) :
  Fn Tryz.prog 21 [.agg #[.int .i64 p1.Road.Nodes,.slice A1 p1.Road.Edges.length c1,.slice A2 p1.Vehicles.length c2,.slice A3 p1.Demands.length c3,.int .i64 p1.Unload,.int .i64 p1.UnloadSecs]] μ (L) R:=by
 unfold VI at h;refine FnS Tryz.func21 (by kernel_rfl) E Tryz.ntmps21 E E ?_;refine G0 2 E (Al E fun _=>Q1 7 [0] E (Cl E ?_));obtain ⟨_,hx1,h⟩:=Qi h;refine Qe1 hl1 hA1 hx1 (fun _ hm_1=> ?_);replace hA2:=hA2.mono hm_1;replace hA3:=hA3.mono hm_1;refine Q0 7 E ?_;refine Br h 10 E E (fun hc1 h=> ?_) (fun hc1 h=> ?_)
 ·refine G2 6 [10] [] [] E ?_;cases h;exact Rt [] E E (Ug [] 1 (hR _ hm_1))
 refine G2 10 [] [10] [0,0] E (Cl E ?_);obtain ⟨_,hx2,h⟩:=Qi h;refine QgA hl2 (Qr.rds hA2 _) hx2 ((Q0 7 E ?_));refine Br h 19 E E (fun hc2 h=> ?_) (fun hc2 h=> ?_)
 ·refine G2 6 [19] [] [] E ?_;cases h;exact Rt [] E E (Ug [] 1 (hR _ hm_1))
 refine G2 10 [] [19] [0,0] E (Cl E ?_);obtain ⟨_,hx3,h⟩:=Qi h;refine Qg3 hl3 (Qr.rds hA3 _) hx3 ((Q0 7 E ?_));refine Br h 28 E E (fun hc3 h=> ?_) (fun hc3 h=> ?_)
 ·refine G2 6 [28] [] [] E ?_;cases h;exact Rt [] E E (Ug [] 1 (hR _ hm_1))
 refine G2 5 [] [28] [] E ?_;refine Cut h (fun f l o_ f_ μ_ l_=> ∃(v2:Bool),v2=o_∧Qh ((30,.bool v2)::Qk [1] f) f_∧Qd l l_) ?_ ?_
 ·intro _ h391 h;refine G1 5 [0] E ?_;refine Br h391 34 E E (fun hc4 h391=> ?_) (fun hc4 h391=> ?_)
  ·refine G2 9 [34] [] [] E ?_;cases h391;exact Ce E ⟨_,rfl,fE E,sE [some 0] 1 E⟩
  refine G2 9 [] [34] [0,0] E ?_;cases h391;exact Ce E ⟨_,rfl,fE E,sE [some 0] 1 E⟩
 rintro _ _ _ _ h hm391 ⟨v2,rfl,hF391,hS391⟩;refine Atn 1 hF391 hS391 E E ?_;refine Br h 30 E E (fun hc5 h=> ?_) (fun hc5 h=> ?_)
 ·refine G2 5 [30] [] [] E ?_;cases h;exact Rt [] E E (Ug [] 1 (hR _ (hm_1.trans hm391)))
 refine G2 2 [] [30] [] E ?_;refine Cut h (fun f l o_ f_ μ_ l_=> ∃(v3:Bool),v3=o_∧Qh ((42,.bool v3)::[]) f_∧Qd (QC [] 1 l) l_) ?_ ?_
 ·intro _ h394 h;refine G1 5 [0] E ?_;refine Br h394 46 E E (fun hc6 h394=> ?_) (fun hc6 h394=> ?_)
  ·refine G2 6 [46] [] [] E ?_;cases h394;exact Ce E ⟨_,rfl,fE E,sE [] 1 E⟩
  refine G2 6 [] [46] [0] E ?_;cases h394;exact Ce E ⟨_,rfl,fE E,sE [] 1 E⟩
 rintro _ _ _ _ h hm394 ⟨v3,rfl,hF394,hS394⟩;refine Atn 0 hF394 hS394 E E ?_;refine Br h 42 E E (fun hc7 h=> ?_) (fun hc7 h=> ?_)
 ·refine G2 5 [42] [] [] E ?_;cases h;exact Rt [] E E (Ug [] 0 (hR _ (hm_1.trans (hm391.trans hm394))))
 refine G2 7 [] [42] [] E ?_;cases h;exact Rt [] E E (Ug [] 0 (hR _ (hm_1.trans (hm391.trans hm394))))
theorem QeY  {s1:(List Int)} {v1:Int} {A1:Option Addr} {c1:Nat} {res1:Int}
  (hl1:s1.length≤c1∧c1≤maxLen) (hA1:Rds QS μ L A1 s1) (h:Qag s1 v1=some res1)
  (hR:R (.int .i64 res1) μ (L)) :
  Fn Tryz.prog 68 [.slice A1 s1.length c1,.int .i64 v1] μ (L) R:=by
 unfold Qag at h;refine FnS Tryz.func68 (by kernel_rfl) E Tryz.ntmps68 E E ?_;refine G0 11 E ?_;refine Cut h (fun f l o_ f_ μ_ l_=>(.inl ())=o_∧Qh ([]) f_∧Qd l l_∧μ=μ_) ?_ ?_
 ·intro _ h488 h;refine Lp h488 (fun f l (v2:Int) f_ μ_ l_=>Qh ((8,.int .i64 v2)::Qk [0,1,7] f) f_∧Qd l l_∧μ=μ_) ⟨fE E,sE [] 0 E,E⟩ ?_;rintro v2 _ _ _ _ _ ⟨hF490,hS490,rfl⟩ hb490 hq490;unfold Wx at hb490;refine Atn 0 hF490 hS490 E E (G0 5 E ?_);refine Br hb490 9 E E (fun hc1 hb490=> ?_) (fun hc1 hb490=> ?_)
  ·refine G2 14 [9] [] [] E (Ix hb490 hA1 E E fun _ _ _ _ hr1 hc2 _ hb490=> ?_);obtain rfl:=hr1;refine Q3 3 [] [] [64] (Z1 hc2) E ?_;refine Br hb490 16 E E (fun hc3 hb490=> ?_) (fun hc3 hb490=> ?_)
   ·refine G2 6 [16] [] [] E ?_;cases hb490;have hq_:=hq490 _ E;subst hq_;replace h:=Ye h;cases h;exact Rt [] E E (Ug [] 0 hR)
   refine G2 7 [] [16] [] E ?_;cases hb490;exact Ce E ⟨_,rfl,fE E,sE [] 0 E,rfl⟩
  refine G2 2 [] [9] [] E ?_;cases hb490;have hq_:=hq490 _ E;subst hq_;exact Ce E ⟨rfl,fE E,sE [] 0 E,rfl⟩
 rintro _ _ _ _ h _ ⟨rfl,hF488,hS488,rfl⟩;replace h:=YB h;refine Atn 0 hF488 hS488 E E (G0 4 E ?_);cases h;exact Rt [] E E (Ug [] 0 hR)
theorem WH  {s1:(List Int)} {v1:Int} {A1:Option Addr} {c1:Nat} {res1:Bool}
  (hl1:s1.length≤c1∧c1≤maxLen) (hA1:Rds QS μ L A1 s1) (h:YD s1 v1=some res1)
  (hR:R (.bool res1) μ (L)) :
  Fn Tryz.prog 45 [.slice A1 s1.length c1,.int .i64 v1] μ (L) R:=by
 unfold YD at h;refine FnS Tryz.func45 (by kernel_rfl) E Tryz.ntmps45 E E ?_;refine G0 8 E (Cl E ?_);obtain ⟨_,hx1,h⟩:=Qi h;refine QeY hl1 hA1 hx1 ((Q0 3 E ?_));cases h;exact Rt [] E E (Ug [] 0 hR)
theorem Qc5  {stops1:(List Int)} {k1:Int} {more1:(List Int)} {A1:Option Addr} {c1:Nat} {A2:Option Addr} {c2:Nat} {res1:(List Int)}
  (hl1:stops1.length≤c1∧c1≤maxLen) (hA1:Rds QS μ L A1 stops1) (hl2:more1.length≤c2∧c2≤maxLen) (hA2:Rds QS μ L A2 more1) (h:WM stops1 k1 more1=some res1)
  (hR: ∀(A0:Option Addr) (c0:Nat) (ch0:Seg),Own QS 3 μ (.slice A0 res1.length c0) res1 ch0→R (.slice A0 res1.length c0) μ (ch0::L)) :
  Fn Tryz.prog 107 [.slice A1 stops1.length c1,.int .i64 k1,.slice A2 more1.length c2] μ (L) R:=by
 unfold WM at h;refine FnS Tryz.func107 (by kernel_rfl) E Tryz.ntmps107 E E ?_;refine G0 6 E (So E (Zs (z:=[]) E E E E E E E (YM (fun g1=> ?_))));obtain ⟨_,hs1,h⟩:=Qi h;refine Q0 2 E (Rdo E E (QbU E E E E E E hl1.1 hs1 ?_));have hA3:=Rds.pre hA1 hs1;have hl3:=QdC hl1 hs1;refine Q0 0 E (So E (Yo E ?_));obtain ⟨_,hz1,h⟩:=Qi h;refine Yu (r:=QS) QU E E E E (by decide) E E 0 E (Own.empty (r:=QS) (e:=3) (g:=g1)) E (Rds.push hA3) hz1 fun _ _ _ hO1=>Q0 6 E (So E (Yo E ?_));obtain ⟨_,hz2,h⟩:=Qi h;refine Yu (r:=QS) QU E E E E (by decide) E E 0 E hO1 E (Rds.push hA2) hz2 fun _ _ _ hO2=> ?_;obtain ⟨_,hs2,h⟩:=Qi h;refine Q0 7 E (Rdo E E (QeJ (r:=QS) E E E E E E E hl1.1 hs2 fun _ hAe1=> ?_));have hA4:=Rds.sub hA1 hl1.1 hs2 hAe1;have hl4:=Qgy hl1 hs2;refine Q0 0 E (So E (Yo E ?_));obtain ⟨_,hz3,h⟩:=Qi h;refine Yu (r:=QS) QU E E E E (by decide) E E 0 E hO2 E (Rds.push hA4) hz3 fun A6 c5 ch3 hO3=>Q0 9 E (IxA h (Own.rds hO3 0 E) E E fun _ _ _ _ hr1 hc1 _ h=> ?_);obtain rfl:=hr1;refine Q3 3 [] [] [64] (Z1 hc1) E ?_;refine Cut h (fun f l o_ f_ μ_ l_=> ∃(out1:(List Int)) (A8:Option Addr) (c7:Nat) (ch5:Seg),out1=o_∧Qh ((7,.slice A8 out1.length c7)::[]) f_∧Qd (ch5::QC [] 1 l) l_∧Own QS 3 μ_ (.slice A8 out1.length c7) out1 ch5∧μ=μ_) ?_ ?_
 ·intro _ h520 h;refine Br h520 27 E E (fun hc2 h520=> ?_) (fun hc2 h520=> ?_)
  ·refine G2 3 [27] [] [] E (So E (Zs (z:=[.int .i64 0]) E E E E E E E (QR (cells':=[.int .i64 (-1)]) E E E E (YM (fun g2=>Q0 0 E (So E (Yo E ?_)))))));obtain ⟨_,hz4,h520⟩:=Qi h520;refine Yu (r:=QS) QU E E E E (by decide) E E 1 E hO3 E (Own.rds (Own.lit (r:=QS) (e:=3) (g:=g2) (xs:=[(-1)]) (cs:=[.int .i64 (-1)]) (css:=[[.int .i64 (-1)]]) E (All2.cons (E) (All2.nil)) E E) 0 E) hz4 fun A7 c6 ch4 hO4=>Q0 2 E ?_;cases h520;exact Ce E ⟨_,A7,c6,ch4,rfl,fE E,sE [some 1] 2 E,(hO4),rfl⟩
  refine G2 2 [] [27] [] E ?_;cases h520;exact Ce E ⟨_,A6,c5,ch3,rfl,fE E,sE [some 0] 1 E,(hO3),rfl⟩
 rintro _ _ _ _ h _ ⟨out1,A8,c7,ch5,rfl,hF520,hS520,hO5,rfl⟩;refine Atn 1 hF520 hS520 E E (G0 5 E ?_);cases h;exact Rt [] E E (Ug [[0]] 1 (hR A8 c7 ch5 hO5))
theorem Qee {F:Nat} {t1:Qa} {d1:Int} {A1:Option Addr} {c1:Nat} {res1:(List Qa)}
  (hl1:t1.Stops.length≤c1∧c1≤maxLen) (hA1:Qr QS μ A1 t1.Stops) (h:Vf F t1 d1=some res1)
  (hR: ∀(μ':Gh) (A0:Option Addr) (c0:Nat) (ch0:Seg),μ.le μ'→Own Qv 51 μ' (.slice A0 res1.length c0) res1 ch0→R (.slice A0 res1.length c0) μ' (ch0::L)) :
  Fn Tryz.prog 82 [.agg #[.int .i64 t1.Vehicle,.slice A1 t1.Stops.length c1],.int .i64 d1] μ (L) R:=by
 unfold Vf at h;refine FnS Tryz.func82 (by kernel_rfl) E Tryz.ntmps82 E E ?_;refine G0 2 E (Al E fun g1=>Q1 15 [0] E ?_);refine Cut h (fun f l o_ f_ μ_ l_=> ∃(out3:(List Qa)) (A8:Option Addr) (c8:Nat) (ch7:Seg),out3=o_∧Qh ((5,.slice A8 out3.length c8)::[]) f_∧Qd (ch7::QC [] 1 l) l_∧Own Qv 51 μ_ (.slice A8 out3.length c8) out3 ch7) ?_ ?_
 ·intro _ h729 h;refine Lp h729 (fun f l (j_:(List Qa)×Int×Int) f_ μ_ l_=>YG j_ fun out1 j_=>YG j_ fun v1 v2=> ∃(A2:Option Addr) (c2:Nat) (ch1:Seg),Qh ((5,.slice A2 out1.length c2)::(10,.int .i64 v1)::(11,.int .i64 v2)::Qk [1,2] f) f_∧Qd ([(g1,.cells #[.int .i64 t1.Vehicle,.slice A1 t1.Stops.length c1] 51 (0,0))]::ch1::QC [] 1 l) l_∧Own Qv 51 μ_ (.slice A2 out1.length c2) out1 ch1) ⟨none,0,[],fE E,sE [some 0,none] 1 E,(Own.nil)⟩ ?_;rintro ⟨out1,v1,v2⟩ _ _ _ _ hm834 ⟨A2,c2,ch1,hF834,hS834,hO1⟩ hb834 hq834;unfold J8 at hb834;replace hb834:=Qj hb834;replace hb834:=Qj hb834;replace hA1:=hA1.mono hm834;refine Atn 2 hF834 hS834 E E (G0 5 E ?_);refine Br hb834 12 E E (fun hc1 hb834=> ?_) (fun hc1 hb834=> ?_)
  ·refine G2 3 [12] [] [] E ?_;refine Cut hb834 (fun f l o_ f_ μ_ l_=> ∃(out2:(List Qa)) (A7:Option Addr) (c7:Nat) (ch6:Seg),out2=o_∧Qh ((5,.slice A7 out2.length c7)::Qk [1,2,10,11] f) f_∧Qd ([(g1,.cells #[.int .i64 t1.Vehicle,.slice A1 t1.Stops.length c1] 51 (0,0))]::ch6::QC [] 2 l) l_∧Own Qv 51 μ_ (.slice A7 out2.length c7) out2 ch6) ?_ ?_
   ·intro _ h840 hb834;refine G0 7 E (Drk [1] 1 E [(true,0),(true,1),(true,2),(true,3),(true,4),(true,5),(true,6),(false,7),(false,8),(true,9),(false,10),(false,11),(true,12)] (by kernel_rfl) (G1 7 [0,0] E (So E (Zs (z:=[.int .i64 0]) E E E E E E E (QR (cells':=[.int .i64 d1]) E E E E (YM (fun g2=> ?_)))))));refine ⟨Kp [1] 3 E,?_⟩;refine Q0 0 E (Cl E ?_);obtain ⟨r1,hx1,h840⟩:=Qi h840;refine Qc5 hl1 (Qr.rds hA1 _) (Qh7 (c:=1) E E) (Own.rds (Own.lit (r:=QS) (e:=3) (g:=g2) (xs:=[d1]) (cs:=[.int .i64 d1]) (css:=[[.int .i64 d1]]) E (All2.cons (E) (All2.nil)) E E) 0 E) hx1 (fun A3 c3 _ hO2=> ?_);refine ⟨Kp [2] 4 E,?_⟩;refine Q0 1 E (So E (Zs (z:=[.int .i64 0,.slice none 0 0]) E E E E E E E (QR (cells':=[.int .i64 t1.Vehicle,.slice A3 r1.length c3]) E E E E (YM (fun g3=> ?_)))));refine ⟨Kp [3] 5 E,?_⟩;refine Q0 0 E (So E (Yo E ?_));have hl2:=Own.lenOk hO2;refine Zt.pre (Upd.frzOwn 1 E hO2 fun _ hm_1 hA2=>Upd.done ?_);replace hA1:=hA1.mono hm_1;replace hO1:=hO1.mono hm_1;obtain ⟨_,hz1,h840⟩:=Qi h840;refine Yu (r:=Qv) QU E E E E (by decide) E E 4 E hO1 E (Own.rds (Own.lit (r:=Qv) (e:=51) (g:=g3) (xs:=[(Qa.mk t1.Vehicle r1)]) (cs:=[.int .i64 t1.Vehicle,.slice A3 r1.length c3]) (css:=[[.int .i64 t1.Vehicle,.slice A3 r1.length c3]]) E (All2.cons (⟨A3,c3,E,hl2,hA2⟩) (All2.nil)) E E) 0 E) hz1 fun A4 c4 ch3 hO3=> ?_;refine ⟨Kp [3] 5 E,?_⟩;refine Q1 10 [3] E ?_;refine Br h840 30 E E (fun hc2 h840=> ?_) (fun hc2 h840=> ?_)
    ·refine G2 1 [30] [] [] E (Drk [4] 4 E [(true,0),(true,1),(true,2),(true,3),(true,4),(true,5),(true,6),(false,7),(false,8),(true,9),(false,10),(false,11),(true,12)] (by kernel_rfl) (G1 7 [3,3] E (So E (Zs (z:=[.int .i64 0,.int .i64 0]) E E E E E E E (QR (cells':=[.int .i64 d1,.int .i64 0]) E E E E (QR (cells':=[.int .i64 d1,.int .i64 (-1)]) E E E E (YM (fun g4=> ?_))))))));refine ⟨Kp [1,2,3,4] 6 E,?_⟩;refine Q0 0 E (Cl E ?_);obtain ⟨r2,hx2,h840⟩:=Qi h840;refine Qc5 hl1 (Qr.rds hA1 _) (Qh7 (c:=2) E E) (Own.rds (Own.lit (r:=QS) (e:=3) (g:=g4) (xs:=[d1,(-1)]) (cs:=[.int .i64 d1,.int .i64 (-1)]) (css:=[[.int .i64 d1],[.int .i64 (-1)]]) E (All2.cons (E) (All2.cons (E) (All2.nil))) E E) 0 E) hx2 (fun A5 c5 _ hO4=> ?_);refine ⟨Kp [2,3,4,5] 7 E,?_⟩;refine Q0 1 E (So E (Zs (z:=[.int .i64 0,.slice none 0 0]) E E E E E E E (QR (cells':=[.int .i64 t1.Vehicle,.slice A5 r2.length c5]) E E E E (YM (fun g5=> ?_)))));refine ⟨Kp [3,4,5,6] 8 E,?_⟩;refine Q0 0 E (So E (Yo E ?_));have hl3:=Own.lenOk hO4;refine Zt.pre (Upd.frzOwn 1 E hO4 fun _ hm_2 hA3=>Upd.done ?_);replace hO1:=hO1.mono hm_2;replace hO3:=hO3.mono hm_2;obtain ⟨_,hz2,h840⟩:=Qi h840;refine Yu (r:=Qv) QU E E E E (by decide) E E 7 E hO3 E (Own.rds (Own.lit (r:=Qv) (e:=51) (g:=g5) (xs:=[(Qa.mk t1.Vehicle r2)]) (cs:=[.int .i64 t1.Vehicle,.slice A5 r2.length c5]) (css:=[[.int .i64 t1.Vehicle,.slice A5 r2.length c5]]) E (All2.cons (⟨A5,c5,E,hl3,hA3⟩) (All2.nil)) E E) 0 E) hz2 fun A6 c6 ch5 hO5=> ?_;refine ⟨Kp [3,4,5,6] 8 E,?_⟩;refine Q0 3 E ?_;cases h840;exact Ce E ⟨_,A6,c6,ch5,rfl,fE E,sE [some 6,some 7] 8 E,(hO5)⟩
    refine G2 3 [] [30] [] E ?_;cases h840;exact Ce E ⟨_,A4,c4,ch3,rfl,fE E,sE [some 3,some 4] 5 E,(hO3)⟩
   rintro _ _ _ _ hb834 hm840 ⟨out2,A7,c7,ch6,rfl,hF840,hS840,hO6⟩;replace hO1:=hO1.mono hm840;refine Atn 2 hF840 hS840 E E (G0 4 E ?_);cases hb834;exact Ce E ⟨_,rfl,A7,c7,ch6,fE E,sE [some 0,some 1] 2 E,(hO6)⟩
  refine G2 2 [] [12] [] E ?_;cases hb834;have hq_:=hq834 _ E;subst hq_;exact Ce E ⟨_,A2,c2,ch1,rfl,fE E,sE [some 1] 2 E,(hO1)⟩
 rintro _ _ _ _ h hm729 ⟨out3,A8,c8,ch7,rfl,hF729,hS729,hO7⟩;refine Atn 1 hF729 hS729 E E (G0 5 E ?_);cases h;exact Rt [] E E (Ug [[0]] 1 (hR _ A8 c8 ch7 hm729 hO7))
theorem Qcr  {v1:Qp} {kind1:Int}  {res1:Bool}
   (h:Z7 v1 kind1=some res1)
  (hR:R (.bool res1) μ (L)) :
  Fn Tryz.prog 25 [.agg #[.string v1.ID,.int .i64 v1.Depot,.int .i64 v1.Shift.From,.int .i64 v1.Shift.To,.int .i64 v1.Grams,.int .i64 v1.Kinds],.int .i64 kind1] μ (L) R:=by
 unfold Z7 at h;refine FnS Tryz.func25 (by kernel_rfl) E Tryz.ntmps25 E E ?_;refine G0 2 E (Al E fun _=>Q0 3 E ?_);refine Cut h (fun f l o_ f_ μ_ l_=> ∃(v2:Bool),v2=o_∧Qh ((4,.bool v2)::[]) f_∧Qd (QC [] 1 l) l_∧μ=μ_) ?_ ?_
 ·intro _ h1003 h;refine G0 4 E ?_;refine Br h1003 7 E E (fun hc1 h1003=> ?_) (fun hc1 h1003=> ?_)
  ·refine G2 4 [7] [] [] E ?_;refine Br h1003 11 E E (fun hc2 h1003=> ?_) (fun hc2 h1003=> ?_)
   ·refine G2 3 [11] [] [0] E (Rdo E E ?_);obtain ⟨_,hg1,h1003⟩:=Qi h1003;refine QcL E E E (JJ hg1) (Q0 0 E (Rdo E E ?_));refine QqD E E ⟨_,QnM _ _ _,?_⟩;refine Q2 4 [11] [] [] E ?_;cases h1003;exact Ce E ⟨_,rfl,fE E,sE [] 1 E,rfl⟩
   refine G2 9 [] [11] [] E ?_;cases h1003;exact Ce E ⟨_,rfl,fE E,sE [] 1 E,rfl⟩
  refine G2 13 [] [7,11] [] E ?_;cases h1003;exact Ce E ⟨_,rfl,fE E,sE [] 1 E,rfl⟩
 rintro _ _ _ _ h _ ⟨v2,rfl,hF1003,hS1003,rfl⟩;refine Atn 0 hF1003 hS1003 E E ?_;cases h;exact Rt [] E E (Ug [] 0 hR)
theorem Qf1    {res1:Ql}
   (h:Qcc=some res1)
  (hR:R (.agg #[.int .i64 res1.Secs,.int .i64 res1.Meters]) μ (L)) :
  Fn Tryz.prog 151 [] μ (L) R:=by
 unfold Qcc at h;refine FnS Tryz.func151 (by kernel_rfl) E Tryz.ntmps151 E E ?_;refine G0 2 E (Al E fun _=>Q1 6 [0] E ?_);cases h;exact Rt [0] E E (Ug [] 1 hR)
theorem Qda    {res1:Qg}
   (h:Vg=some res1)
  (hR: ∀(v0:Value) (so0:Seg),Qn μ v0 res1 so0→R (v0) μ (so0::L)) :
  Fn Tryz.prog 152 [.func (.func 153) #[] #[]] μ (L) R:=by
 unfold Vg at h;refine FnS Tryz.func152 (by kernel_rfl) E Tryz.ntmps152 E E ?_;refine G0 8 E (Rdo E E (QqF QU E E E E (Q2 7 [] [4] [] E (Al E fun g1=>Q0 2 E ?_))));cases h;exact Rt [] E E (Ug [[0,99]] 1 (hR (.pointer (some ⟨g1,0,none⟩)) _ ⟨g1,none,0,[],rfl,rfl,Own.nil⟩))
theorem Qez  {a1:Ql} {b1:Ql}  {res1:Bool}
   (h:QaR a1 b1=some res1)
  (hR:R (.bool res1) μ (L)) :
  Fn Tryz.prog 154 [.agg #[.int .i64 a1.Secs,.int .i64 a1.Meters],.agg #[.int .i64 b1.Secs,.int .i64 b1.Meters]] μ (L) R:=by
 unfold QaR at h;refine FnS Tryz.func154 (by kernel_rfl) E Tryz.ntmps154 E E ?_;refine G0 2 E (Al E fun _=>Q0 0 E (Al E fun _=>Q0 3 E ?_));refine Cut h (fun f l o_ f_ μ_ l_=> ∃(v1:Bool),v1=o_∧Qh ((4,.bool v1)::[]) f_∧Qd (QC [] 2 l) l_∧μ=μ_) ?_ ?_
 ·intro _ h1211 h;refine Dr _ Qz.refl [(true,0),(false,1),(true,2),(true,3),(true,4),(true,5),(true,6),(true,7),(true,8),(true,9),(true,10),(true,11),(true,12),(true,13),(true,14),(true,15),(true,16),(true,17),(true,18),(true,19),(true,20),(true,21),(true,22),(true,23),(true,24)] (by kernel_rfl) (G1 1 [0] E (Cl E ?_));obtain ⟨r1,hx1,h1211⟩:=Qi h1211;refine Qf1  hx1 (?_);refine ⟨Qz.refl,?_⟩;refine Q0 0 E (Rdo E E (QiS E E (Ex.mk _ (Qg5 b1 r1) (Q0 1 E ?_))));refine Br h1211 8 E E (fun hc1 h1211=> ?_) (fun hc1 h1211=> ?_)
  ·refine G2 22 [8,15] [] [] E ?_;cases h1211;exact Ce E ⟨_,rfl,fE E,sE [] 2 E,rfl⟩
  refine G2 7 [] [8] [1,0] E ?_;refine Br h1211 15 E E (fun hc2 h1211=> ?_) (fun hc2 h1211=> ?_)
  ·refine G2 15 [15] [] [] E ?_;cases h1211;exact Ce E ⟨_,rfl,fE E,sE [] 2 E,rfl⟩
  refine G2 6 [] [15] [1,0] E ?_;refine Br h1211 21 E E (fun hc3 h1211=> ?_) (fun hc3 h1211=> ?_)
  ·refine G2 9 [21] [15] [1,0] E ?_;cases h1211;exact Ce E ⟨_,rfl,fE E,sE [] 2 E,rfl⟩
  refine G2 9 [] [15,21] [] E ?_;cases h1211;exact Ce E ⟨_,rfl,fE E,sE [] 2 E,rfl⟩
 rintro _ _ _ _ h _ ⟨v1,rfl,hF1211,hS1211,rfl⟩;refine Atn 0 hF1211 hS1211 E E ?_;cases h;exact Rt [] E E (Ug [] 0 hR)
theorem Qdi  {a1:Q9} {b1:Q9}  {res1:Bool}
   (h:VQ a1 b1=some res1)
  (hR:R (.bool res1) μ (L)) :
  Fn Tryz.prog 153 [.agg #[.int .i64 a1.node,.int .i64 a1.leg.Secs,.int .i64 a1.leg.Meters],.agg #[.int .i64 b1.node,.int .i64 b1.leg.Secs,.int .i64 b1.leg.Meters]] μ (L) R:=by
 unfold VQ at h;refine FnS Tryz.func153 (by kernel_rfl) E Tryz.ntmps153 E E ?_;refine G0 2 E (Al E fun _=>Q0 0 E (Al E fun _=>Q0 3 E ?_));refine Cut h (fun f l o_ f_ μ_ l_=> ∃(v1:Bool),v1=o_∧Qh ((4,.bool v1)::[]) f_∧Qd (QC [] 2 l) l_∧μ=μ_) ?_ ?_
 ·intro _ h1208 h;refine G1 5 [1,0] E (Rdo E E (QiS E E (Ex.mk _ (QdU a1.leg b1.leg) (Q0 1 E ?_))));refine Br h1208 10 E E (fun hc1 h1208=> ?_) (fun hc1 h1208=> ?_)
  ·refine G2 4 [10] [] [1,0] E (Cl E ?_);obtain ⟨_,hx1,h1208⟩:=Qi h1208;refine Qez  hx1 ((Q2 3 [10] [] [] E ?_));cases h1208;exact Ce E ⟨_,rfl,fE E,sE [] 2 E,rfl⟩
  refine G2 8 [] [10] [] E ?_;cases h1208;exact Ce E ⟨_,rfl,fE E,sE [] 2 E,rfl⟩
 rintro _ _ _ _ h _ ⟨v1,rfl,hF1208,hS1208,rfl⟩;refine Atn 0 hF1208 hS1208 E E ?_;cases h;exact Rt [] E E (Ug [] 0 hR)
theorem VY  {q1:Qg} {i1:Int} {k1:Int} {pv1:Value} {so1:Seg} {res1:Bool}
  (hP1:Qn μ pv1 q1 so1) (h:Zf q1 i1 k1=some res1)
  (hR:R (.bool res1) μ (so1::L)) :
  Fn Tryz.prog 159 [pv1,.int .i64 i1,.int .i64 k1] μ (so1::L) R:=by
 unfold Zf at h;refine FnS Tryz.func159 (by kernel_rfl) E Tryz.ntmps159 E E ?_;obtain ⟨g1,A1,c1,ch1,hv1,rfl,hO1⟩:=hP1;subst hv1;refine G0 5 E (In Qn.fl 0 2 E E E ?_);refine Cut h (fun f l o_ f_ μ_ l_=> ∃(f1:Int) (f2:Int) (f3:Int) (f4:Int) (f5:Int) (f6:Int) (f7:Int) (f8:Int) (g4:Nat) (g5:Nat),(f1,f2,f3,f4,f5,f6,f7,f8)=o_∧Qh ((7,.pointer (some ⟨g4,0,none⟩))::(8,.pointer (some ⟨g5,0,none⟩))::Qk [0] f) f_∧Qd ([(g1,.cells #[.func (.func 153) #[] #[],.slice A1 q1.heap.length c1,.int .i64 q1.count] 211 (0,0))]::ch1::[(g4,.cells #[.int .i64 f1,.int .i64 f2,.int .i64 f3,.int .i64 f4] 213 (0,0))]::[(g5,.cells #[.int .i64 f5,.int .i64 f6,.int .i64 f7,.int .i64 f8] 213 (0,0))]::QC [] 2 l) l_∧μ=μ_) ?_ ?_
 ·intro _ h1164 h;refine Cd (WP.draw (id:=1) Qd2 _ Qz.refl E (AN.run (fuel:=4) (listed':=[true,true,true,true,true,true,true,true,true,true,true,true,true,true,false,false,false,false]) QU [(true,0),(true,1),(true,2),(true,3),(true,4),(true,5),(true,6),(true,7),(true,8),(true,9),(true,10),(true,11),(true,12),(true,13)] (by kernel_rfl) (by kernel_rfl) E (Vx E (QA E (Pt E E (Vq E (Pt E E (WJ (o':=1) E E E E E E (Pt E E (JN E E E (Ex.mk _ (Ws.seg 0 0 E E E) (Pt E E (QA E ?_)))))))))))));refine Pt E E ?_;obtain ⟨x1,hx1,h1164⟩:=Qi h1164;obtain ⟨_,_,hA1,hr1,_,hc1⟩:=Rds.getI (Own.rds (L:=([(g1,.cells #[.func (.func 153) #[] #[],.slice A1 q1.heap.length c1,.int .i64 q1.count] 211 (0,0))]::ch1::L)) hO1 1 rfl) hx1;obtain rfl:=hr1;refine Jq E E E E E E ⟨(QE hx1).1,(QE hx1).2.1⟩ hA1 (Pt E E (Z3 E E E E (Ex.mk [.int .i64 x1.value.node,.int .i64 x1.value.leg.Secs,.int .i64 x1.value.leg.Meters,.int .i64 x1.n] ⟨rfl,hc1⟩ (Pt E E (QA E (Pt E E (Vq E (Pt E E (WJ (o':=1) E E E E E E (Pt E E (JN E E E (Ex.mk _ (Ws.seg 0 0 E E E) ?_))))))))))));refine Pt E E (QA E (Pt E E ?_));obtain ⟨x2,hx2,h1164⟩:=Qi h1164;obtain ⟨_,_,hA2,hr2,_,hc2⟩:=Rds.getI (Own.rds (L:=([(g1,.cells #[.func (.func 153) #[] #[],.slice A1 q1.heap.length c1,.int .i64 q1.count] 211 (0,0))]::ch1::L)) hO1 1 rfl) hx2;obtain rfl:=hr2;refine Jq E E E E E E ⟨(QE hx2).1,(QE hx2).2.1⟩ hA2 (Pt E E (Z3 E E E E (Ex.mk [.int .i64 x2.value.node,.int .i64 x2.value.leg.Secs,.int .i64 x2.value.leg.Meters,.int .i64 x2.n] ⟨rfl,hc2⟩ (QP E (Js ?_)))));refine QmV QU (a:=14) (b:=15) (by kernel_rfl) ?_ ?_
  ·refine FO_ E E (Qad (cs:= #[.int .i64 0,.int .i64 0,.int .i64 0,.int .i64 0]) E E (fun g2=> ?_));refine ⟨Qz.more (Qz.refl),?_⟩;refine QP E (AN.run (fuel:=0) (listed':=[true,true,true,true,true,true,true,true,true,true,true,true,true,true,true,true,true,true]) QU [(false,15),(false,16),(false,17)] (by kernel_rfl) (by kernel_rfl) E (QaX E (Qad (cs:= #[.int .i64 0,.int .i64 0,.int .i64 0,.int .i64 0]) E E (fun g3=> ?_))));refine ⟨Qz.more (Qz.more (Qz.refl)),?_⟩;refine QP E (QaX E (QY (vs:=[.int .i64 x1.value.node,.int .i64 x1.value.leg.Secs,.int .i64 x1.value.leg.Meters,.int .i64 x1.n]) E E E E E E (ST_ (L':=([(g3,.cells #[.int .i64 0,.int .i64 0,.int .i64 0,.int .i64 0] 213 (0,0))]::[(g2,.cells #[.int .i64 x1.value.node,.int .i64 x1.value.leg.Secs,.int .i64 x1.value.leg.Meters,.int .i64 x1.n] 213 (0,0))]::[(g1,.cells #[.func (.func 153) #[] #[],.slice A1 q1.heap.length c1,.int .i64 q1.count] 211 (0,0))]::ch1::L)) 1 0 E E E E ?_)));refine ⟨Qz.more (Qz.more (Qz.refl)),?_⟩;refine ZF (QaX E (QY (vs:=[.int .i64 x2.value.node,.int .i64 x2.value.leg.Secs,.int .i64 x2.value.leg.Meters,.int .i64 x2.n]) E E E E E E (ST_ (L':=([(g3,.cells #[.int .i64 x2.value.node,.int .i64 x2.value.leg.Secs,.int .i64 x2.value.leg.Meters,.int .i64 x2.n] 213 (0,0))]::[(g2,.cells #[.int .i64 x1.value.node,.int .i64 x1.value.leg.Secs,.int .i64 x1.value.leg.Meters,.int .i64 x1.n] 213 (0,0))]::[(g1,.cells #[.func (.func 153) #[] #[],.slice A1 q1.heap.length c1,.int .i64 q1.count] 211 (0,0))]::ch1::L)) 0 0 E E E E ?_)));refine ⟨Qz.more (Qz.more (Qz.refl)),?_⟩;refine ZF (Js (AN.done0 (by kernel_rfl) ?_));cases h1164;exact Ce E ⟨_,_,_,_,_,_,_,_,g2,g3,rfl,fE E,sE [some 2,some 3,some 1,some 0] 4 E,rfl⟩
  refine FO_ E E (Qad (cs:= #[.int .i64 0,.int .i64 0,.int .i64 0,.int .i64 0]) E E (fun g3=> ?_));refine ⟨Qz.more (Qz.refl),?_⟩;refine QP E (AN.run (fuel:=0) (listed':=[true,true,true,true,true,true,true,true,true,true,true,true,true,true,true,true,true,true]) QU [(false,14),(false,16),(false,17)] (by kernel_rfl) (by kernel_rfl) E (QaX E (Qad (cs:= #[.int .i64 0,.int .i64 0,.int .i64 0,.int .i64 0]) E E (fun g2=> ?_))));refine ⟨Qz.more (Qz.more (Qz.refl)),?_⟩;refine QP E (QaX E (QY (vs:=[.int .i64 x1.value.node,.int .i64 x1.value.leg.Secs,.int .i64 x1.value.leg.Meters,.int .i64 x1.n]) E E E E E E (ST_ (L':=([(g2,.cells #[.int .i64 x1.value.node,.int .i64 x1.value.leg.Secs,.int .i64 x1.value.leg.Meters,.int .i64 x1.n] 213 (0,0))]::[(g3,.cells #[.int .i64 0,.int .i64 0,.int .i64 0,.int .i64 0] 213 (0,0))]::[(g1,.cells #[.func (.func 153) #[] #[],.slice A1 q1.heap.length c1,.int .i64 q1.count] 211 (0,0))]::ch1::L)) 0 0 E E E E ?_)));refine ⟨Qz.more (Qz.more (Qz.refl)),?_⟩;refine ZF (QaX E (QY (vs:=[.int .i64 x2.value.node,.int .i64 x2.value.leg.Secs,.int .i64 x2.value.leg.Meters,.int .i64 x2.n]) E E E E E E (ST_ (L':=([(g2,.cells #[.int .i64 x1.value.node,.int .i64 x1.value.leg.Secs,.int .i64 x1.value.leg.Meters,.int .i64 x1.n] 213 (0,0))]::[(g3,.cells #[.int .i64 x2.value.node,.int .i64 x2.value.leg.Secs,.int .i64 x2.value.leg.Meters,.int .i64 x2.n] 213 (0,0))]::[(g1,.cells #[.func (.func 153) #[] #[],.slice A1 q1.heap.length c1,.int .i64 q1.count] 211 (0,0))]::ch1::L)) 1 0 E E E E ?_)));refine ⟨Qz.more (Qz.more (Qz.refl)),?_⟩;refine ZF (Js (AN.done0 (by kernel_rfl) ?_));cases h1164;exact Ce E ⟨_,_,_,_,_,_,_,_,g2,g3,rfl,fE E,sE [some 2,some 3,some 0,some 1] 4 E,rfl⟩
 rintro _ _ _ _ h _ ⟨f1,f2,f3,f4,f5,f6,f7,f8,g4,g5,rfl,hF1164,hS1164,rfl⟩;replace h:=Qj h;replace h:=Qj h;replace h:=Qj h;replace h:=Qj h;replace h:=Qj h;replace h:=Qj h;replace h:=Qj h;refine Atn 4 hF1164 hS1164 E E (G0 2 E (Dr _ Qz.refl [(true,0),(true,1),(true,2),(true,3),(true,4),(true,5),(true,6),(true,7),(false,8)] (by kernel_rfl) (G1 8 [0,2,3] E (Cl E ?_))));obtain ⟨_,hx3,h⟩:=Qi h;refine Qdi  hx3 (?_);refine ⟨Qz.refl,?_⟩;refine Q0 1 E ?_;refine Br h 31 E E (fun hc3 h=> ?_) (fun hc3 h=> ?_)
 ·refine G2 5 [31] [] [] E ?_;cases h;exact Rt [] E E (Ug [[0,1]] 4 hR)
 refine G2 3 [] [31] [] E ?_;refine Cut h (fun f l o_ f_ μ_ l_=> ∃(v1:Bool),v1=o_∧Qh ((6,.bool v1)::[]) f_∧Qd (QC [some 0,some 1] 4 l) l_∧μ=μ_) ?_ ?_
 ·intro _ h1212 h;refine Dr _ Qz.refl [(true,0),(true,1),(true,2),(true,3),(true,4),(true,5),(true,6),(true,7),(true,8),(true,9),(true,10),(true,11),(true,12),(true,13),(false,14),(true,15),(true,16),(true,17)] (by kernel_rfl) (G1 6 [2,3] E ?_);refine Br h1212 37 E E (fun hc4 h1212=> ?_) (fun hc4 h1212=> ?_)
  ·refine G2 8 [37] [] [0,3,2] E (Cl E ?_);obtain ⟨_,hx4,h1212⟩:=Qi h1212;refine Qdi  hx4 (?_);refine ⟨Qz.refl,?_⟩;refine Q2 4 [37] [] [] E ?_;cases h1212;exact Ce E ⟨_,rfl,fE E,sE [some 0,some 1] 4 E,rfl⟩
  refine G2 13 [] [37] [] E ?_;cases h1212;exact Ce E ⟨_,rfl,fE E,sE [some 0,some 1] 4 E,rfl⟩
 rintro _ _ _ _ h _ ⟨v1,rfl,hF1212,hS1212,rfl⟩;refine Atn 2 hF1212 hS1212 E E ?_;cases h;exact Rt [] E E (Ug [[0,1]] 2 hR)
theorem W7  {q1:Qg} {i1:Int} {k1:Int} {pv1:Value} {so1:Seg} {res1:Qg}
  (hP1:Qn μ pv1 q1 so1) (h:Y5 q1 i1 k1=some res1)
  (hR: ∀(sp0:Seg),Qn μ pv1 res1 sp0→R (.tuple #[]) μ (sp0::L)) :
  Fn Tryz.prog 160 [pv1,.int .i64 i1,.int .i64 k1] μ (so1::L) R:=by
 unfold Y5 at h;refine FnS Tryz.func160 (by kernel_rfl) E Tryz.ntmps160 E E ?_;obtain ⟨g1,A1,c1,ch1,hv1,rfl,hO1⟩:=hP1;subst hv1;refine In Qn.fl 0 2 E E E ?_;obtain ⟨n1,hn1⟩: ∃n_,n_=q1.heap.length:=⟨_,rfl⟩
 rw[←hn1] at hO1 ⊢
 refine Cd (WP.drawB (id:=0) (l':=List.replicate 25 true++[false,false,false]) Qd2 QU _ Qz.refl 25 [] [(true,0),(true,1),(true,2),(true,3),(true,4),(true,5),(true,6),(true,7),(true,8),(true,9),(true,10),(true,11),(true,12),(true,13),(true,14),(true,15),(true,16),(true,17),(true,18),(true,19),(true,20),(true,21),(true,22),(true,23),(true,24)] (by kernel_rfl) (by kernel_rfl) [26,27] E (by kernel_rfl) (by kernel_rfl) (Vx E (QA E (Pt E E (Vq E (Pt E E (WJ (o':=1) E E E E E E (Pt E E (JN E E E (Ex.mk _ (Ws.seg 0 0 E E E) (Pt E E (QA E (QP E ?_)))))))))))));refine Vx E (QA E (Pt E E (Vq E (Pt E E (WJ (o':=1) E E E E E E (Pt E E (JN E E E (Ex.mk _ (Ws.seg 0 0 E E E) (Pt E E (QA E (Pt E E (QA E ?_))))))))))));refine Pt E E (Vq E (Pt E E (WJ (o':=1) E E E E E E (Pt E E (JN E E E (Ex.mk _ (Ws.seg 0 0 E E E) (Pt E E (QA E (Pt E E ?_)))))))));obtain ⟨x1,hx1,h⟩:=Qi h;obtain ⟨_,_,hA1,hr1,_,hc1⟩:=Rds.getI (Own.rds (L:=([(g1,.cells #[.func (.func 153) #[] #[],.slice A1 n1 c1,.int .i64 q1.count] 211 (0,0))]::ch1::L)) hO1 1 rfl) hx1;obtain rfl:=hr1;refine Jq E E E E E E ⟨(QE hx1).1,V3 hn1 (QE hx1).2.1⟩ hA1 (Pt E E (Z3 E E E E (Ex.mk [.int .i64 x1.value.node,.int .i64 x1.value.leg.Secs,.int .i64 x1.value.leg.Meters,.int .i64 x1.n] ⟨rfl,hc1⟩ (Pt E E (QA E (Pt E E (Vq E (Pt E E (WJ (o':=1) E E E E E E (Pt E E (JN E E E (Ex.mk _ (Ws.seg 0 0 E E E) ?_))))))))))));refine Pt E E (QA E (Pt E E ?_));obtain ⟨x2,hx2,h⟩:=Qi h;obtain ⟨_,_,hA2,hr2,_,hc2⟩:=Rds.getI (Own.rds (L:=([(g1,.cells #[.func (.func 153) #[] #[],.slice A1 n1 c1,.int .i64 q1.count] 211 (0,0))]::ch1::L)) hO1 1 rfl) hx2;obtain rfl:=hr2;refine Jq E E E E E E ⟨(QE hx2).1,V3 hn1 (QE hx2).2.1⟩ hA2 (Pt E E (Z3 E E E E (Ex.mk [.int .i64 x2.value.node,.int .i64 x2.value.leg.Secs,.int .i64 x2.value.leg.Meters,.int .i64 x2.n] ⟨rfl,hc2⟩ (Pt E E ?_))));obtain ⟨_,hx3,h⟩:=Qi h;obtain ⟨a3,_,hA3,hr3,_,_⟩:=Rds.getI (Own.rds (L:=([(g1,.cells #[.func (.func 153) #[] #[],.slice A1 n1 c1,.int .i64 q1.count] 211 (0,0))]::ch1::L)) hO1 1 rfl) hx3;obtain rfl:=hr3;refine Jq E E E E E E ⟨(QE hx3).1,V3 hn1 (QE hx3).2.1⟩ hA3 (QP E (Js (Qd1 E (QY (vs:=[.int .i64 x1.value.node,.int .i64 x1.value.leg.Secs,.int .i64 x1.value.leg.Meters,.int .i64 x1.n]) E E E E E E ?_))))
 rw[←Addr.add_zero' ((a3.add (i1.toNat*4)))]
 refine Own.store (μ:=μ) (r:=YJ) (x':=x1) (o:=0) (sz:=4) 1 rfl hO1 hA3 hx3 rfl rfl (by rintro _ rfl;rfl) fun ch2 hO2=> ?_;have hn2:=hn1.trans (QX q1.heap i1 x1).symm;refine ZF (Qd1 E ?_);obtain ⟨_,hx4,h⟩:=Qi h;obtain ⟨a4,_,hA4,hr4,_,_⟩:=Rds.getI (Own.rds (L:=([(g1,.cells #[.func (.func 153) #[] #[],.slice A1 n1 c1,.int .i64 q1.count] 211 (0,0))]::ch2::L)) hO2 1 rfl) hx4;obtain rfl:=hr4;refine VA E (Jq E E E E E E ⟨(QE hx4).1,V3 hn2 (QE hx4).2.1⟩ hA4 (QP E (Qc6 E (QY (vs:=[.int .i64 x2.value.node,.int .i64 x2.value.leg.Secs,.int .i64 x2.value.leg.Meters,.int .i64 x2.n]) E E E E E E ?_))))
 rw[←Addr.add_zero' ((a4.add (k1.toNat*4)))]
 refine Own.store (μ:=μ) (r:=YJ) (x':=x2) (o:=0) (sz:=4) 1 rfl hO2 hA4 hx4 rfl rfl (by rintro _ rfl;rfl) fun ch3 hO3=> ?_;have hn3:=hn2.trans (QX (Yi q1.heap i1 x1) k1 x2).symm;apply ZF;subst hn3;cases h;exact Rt [] E E (Ug [[0,1]] 2 (hR _ ⟨g1,A1,c1,ch3,rfl,rfl,hO3⟩))
theorem Qan {F:Nat} {q1:Qg} {x1:Q9} {pv1:Value} {so1:Seg} {res1:Qg}
  (hP1:Qn μ pv1 q1 so1) (h:ZK F q1 x1=some res1)
  (hR: ∀(sp0:Seg),Qn μ pv1 res1 sp0→R (.tuple #[]) μ (sp0::L)) :
  Fn Tryz.prog 155 [pv1,.agg #[.int .i64 x1.node,.int .i64 x1.leg.Secs,.int .i64 x1.leg.Meters]] μ (so1::L) R:=by
 unfold ZK at h;refine FnS Tryz.func155 (by kernel_rfl) E Tryz.ntmps155 E E ?_;refine G0 2 E (Al E fun g1=> ?_);obtain ⟨g2,A1,c1,_,hv1,rfl,hO1⟩:=hP1;subst hv1;refine Q0 3 E (In Qn.fl 1 3 E E E (G2 7 [] [7] [] E (Cd (WP.drawB (id:=2) (l':=List.replicate 15 true++[false]) Qd2 QU ([(g1,.cells #[.int .i64 x1.node,.int .i64 x1.leg.Secs,.int .i64 x1.leg.Meters] 200 (0,0))]::[(g2,.cells #[.func (.func 153) #[] #[],.slice A1 q1.heap.length c1,.int .i64 q1.count] 211 (0,0))]::L) (Kp [0,1] 3 E) 15 [] [(true,0),(true,1),(true,2),(true,3),(true,4),(true,5),(true,6),(true,7),(true,8),(true,9),(true,10),(false,11),(false,12),(true,13),(true,14)] (by kernel_rfl) (by kernel_rfl) [] E (by kernel_rfl) (by kernel_rfl) (Vx E (QA E (Pt E E (QA E (Pt E E (Vq E (Pt E E (WJ (o':=1) E E E E E E (Pt E E ?_)))))))))))));refine JN E E E (Ex.mk _ (Ws.seg 1 0 E E E) (Pt E E (Z3 E E E E (LA_ (vs:=[.int .i64 x1.node,.int .i64 x1.leg.Secs,.int .i64 x1.leg.Meters]) 0 0 E E E E (Pt E E (QA E (Pt E E (Vq E (Pt E E (WJ (o':=2) E E E E E E (Pt E E (JN E E E ?_))))))))))));refine Ex.mk _ (Ws.seg 1 0 E E E) (Pt E E (QbT E E E E (QR (cells':=[.int .i64 x1.node,.int .i64 x1.leg.Secs,.int .i64 x1.leg.Meters,.int .i64 0]) E E E E (QR (cells':=[.int .i64 x1.node,.int .i64 x1.leg.Secs,.int .i64 x1.leg.Meters,.int .i64 q1.count]) E E E E (YM (QP E (QaX E (Zs (z:=[.int .i64 0,.int .i64 0,.int .i64 0,.int .i64 0]) E E E E E E E (QR (cells':=[.int .i64 x1.node,.int .i64 x1.leg.Secs,.int .i64 x1.leg.Meters,.int .i64 q1.count]) E E E E (YM (fun g3=> ?_)))))))))));refine ⟨Kp [1,2] 4 E,?_⟩;refine QP E (QaX E (Yo E ?_));obtain ⟨l1,hz1,h⟩:=Qi h;refine Yu (r:=YJ) QU E E E E (by decide) E E 3 E hO1 E (Own.rds (Own.lit (r:=YJ) (e:=213) (g:=g3) (xs:=[(QQ.mk x1 q1.count)]) (cs:=[.int .i64 x1.node,.int .i64 x1.leg.Secs,.int .i64 x1.leg.Meters,.int .i64 q1.count]) (css:=[[.int .i64 x1.node,.int .i64 x1.leg.Secs,.int .i64 x1.leg.Meters,.int .i64 q1.count]]) E (All2.cons (E) (All2.nil)) E E) 0 E) hz1 fun A2 c2 ch2 hO2=> ?_;refine ⟨Kp [1,2] 4 E,?_⟩;refine Pt E E (Vq E (Pt E E (WJ (o':=1) E E E E E E (QP E (Js (Qc6 E (QY (vs:=[.slice A2 l1.length c2]) E E E E E E (ST_ (L':=([(g3,.cells #[.int .i64 x1.node,.int .i64 x1.leg.Secs,.int .i64 x1.leg.Meters,.int .i64 q1.count] 213 (0,0))]::[(g1,.cells #[.int .i64 x1.node,.int .i64 x1.leg.Secs,.int .i64 x1.leg.Meters] 200 (0,0))]::[(g2,.cells #[.func (.func 153) #[] #[],.slice A2 l1.length c2,.int .i64 q1.count] 211 (0,0))]::ch2::L)) 2 0 E E E E (ZF ?_)))))))));have hP2:Qn μ (.pointer (some ⟨g2,0,none⟩)) (Qg.mk l1 (w64 (q1.count+1))) _:=⟨g2,A2,c2,ch2,rfl,rfl,hO2⟩
 refine G1 21 [2,2,2] E (Gp [[2,3],[0],[1]] 4 3 E E ?_);refine Cut h (fun f l o_ f_ μ_ l_=> ∃(q3:Qg) (so4:Seg),(.inl q3)=o_∧Qh ([]) f_∧Qd (so4::QC [] 3 l) l_∧Qn μ_ (.pointer (some ⟨g2,0,none⟩)) q3 so4∧μ=μ_) ?_ ?_
 ·intro _ h1453 h;refine Lp h1453 (fun f l (j_:Qg×Int) f_ μ_ l_=>YG j_ fun q2 i1=> ∃(so2:Seg),Qh ((4,.int .i64 i1)::Qk [0] f) f_∧Qd (so2::QC [] 3 l) l_∧Qn μ_ (.pointer (some ⟨g2,0,none⟩)) q2 so2∧μ=μ_) ⟨((g2,Obj.cells #[.func (.func 153) #[] #[],.slice A2 l1.length c2,.int .i64 (w64 (q1.count+1))] 211 (0,0))::ch2),fE E,sE [some 0] 3 E,(hP2),E⟩ ?_;rintro ⟨q2,i1⟩ _ _ _ _ _ ⟨so2,hF1458,hS1458,hP3,rfl⟩ hb1458 hq1458;unfold YZ at hb1458;replace hb1458:=Qj hb1458;refine Atn 1 hF1458 hS1458 E E (G0 6 E ?_);refine Br hb1458 37 E E (fun hc1 hb1458=> ?_) (fun hc1 hb1458=> ?_)
  ·refine G2 16 [37] [] [0] E (Cl E ?_);obtain ⟨_,hx1,hb1458⟩:=Qi hb1458;refine VY hP3 hx1 ((Q0 2 E ?_));refine Br hb1458 45 E E (fun hc2 hb1458=> ?_) (fun hc2 hb1458=> ?_)
   ·refine G2 1 [45] [] [] E ?_;cases hb1458;have hq_:=hq1458 _ E;subst hq_;replace h:=Ye h;cases h;exact Rt [] E E (Ug [[0]] 1 (hR _ hP3))
   refine G2 7 [] [45] [] E (Cl E ?_);obtain ⟨_,hx2,hb1458⟩:=Qi hb1458;refine W7 hP3 hx2 (fun so3 hP4=>Q0 6 E ?_);cases hb1458;exact Ce E ⟨_,rfl,so3,fE E,sE [some 0] 1 E,(hP4),rfl⟩
  refine G2 2 [] [37] [] E ?_;cases hb1458;have hq_:=hq1458 _ E;subst hq_;exact Ce E ⟨_,so2,rfl,fE E,sE [some 0] 1 E,(hP3),rfl⟩
 rintro _ _ _ _ h _ ⟨q3,so4,rfl,hF1453,hS1453,hP5,rfl⟩;replace h:=YB h;refine Atn 1 hF1453 hS1453 E E ?_;cases h;exact Rt [] E E (Ug [[0]] 1 (hR _ hP5))
theorem QcN  {q1:Qg} {pv1:Value} {so1:Seg} {res1:Int}
  (hP1:Qn μ pv1 q1 so1) (h:JU q1=some res1)
  (hR:R (.int .i64 res1) μ (so1::L)) :
  Fn Tryz.prog 163 [pv1] μ (so1::L) R:=by
 unfold JU at h;refine FnS Tryz.func163 (by kernel_rfl) E Tryz.ntmps163 E E ?_;obtain ⟨_,_,_,_,hv1,rfl,_⟩:=hP1;subst hv1;refine G0 6 E (In Qn.fl 0 2 E E E (G2 15 [] [4] [0] E ?_));cases h;exact Rt [] E E (Ug [[0,1]] 2 hR)
theorem Qcu  {q1:Qg} {pv1:Value} {so1:Seg} {res1:Q9} {res2:Bool}
  (hP1:Qn μ pv1 q1 so1) (h:Jx q1=some (res1,res2))
  (hR:R (.tuple #[.agg #[.int .i64 res1.node,.int .i64 res1.leg.Secs,.int .i64 res1.leg.Meters],.bool res2]) μ (so1::L)) :
  Fn Tryz.prog 161 [pv1] μ (so1::L) R:=by
 unfold Jx at h;refine FnS Tryz.func161 (by kernel_rfl) E Tryz.ntmps161 E E ?_;refine G0 2 E (Al E fun _=>Q0 6 E (Cl E (Fn.gp [[1],[0]] 2 2 E ?_)));obtain ⟨_,hx1,h⟩:=Qi h;refine QcN hP1 hx1 ((Q0 2 E ?_));refine Br h 7 E E (fun hc1 h=> ?_) (fun hc1 h=> ?_)
 ·refine G2 3 [7] [] [] E (Al E fun _=>Q1 7 [0,2] E ?_);cases h;exact Rt [2] E E (Ug [[1]] 3 hR)
 obtain ⟨_,_,_,_,hv1,rfl,hO1⟩:=hP1;subst hv1;refine G2 3 [] [7] [] E (In Qn.fl 0 3 E E E (G1 5 [0] E (IxA h (Own.rds hO1 1 E) E E fun _ _ _ _ hr1 hc2 _ h=> ?_)));obtain rfl:=hr1;refine Q3 5 [] [] [64,2] (Z1 hc2) E ?_;cases h;exact Rt [2] E E (Ug [[0,1]] 3 hR)
theorem Qcv {F:Nat} {q1:Qg} {pv1:Value} {so1:Seg} {res1:Qg}
  (hP1:Qn μ pv1 q1 so1) (h:Y4 F q1=some res1)
  (hR: ∀(sp0:Seg),Qn μ pv1 res1 sp0→R (.tuple #[]) μ (sp0::L)) :
  Fn Tryz.prog 162 [pv1] μ (so1::L) R:=by
 unfold Y4 at h;refine FnS Tryz.func162 (by kernel_rfl) E Tryz.ntmps162 E E ?_;obtain ⟨g1,A1,c1,ch1,hv1,rfl,hO1⟩:=hP1;subst hv1;refine G0 4 E (In Qn.fl 0 2 E E E ?_);refine Cut h (fun _ _ _ _ _ _=>False) ?_ ?_
 ·intro _ h1661 h;refine Lp h1661 (fun f l (j_:(List QQ)×Int×Int) f_ μ_ l_=>YG j_ fun f1 j_=>YG j_ fun f2 i1=> ∃(A2:Option Addr) (c2:Nat) (ch2:Seg),Qh ((2,.int .i64 i1)::Qk [0] f) f_∧Qd ([(g1,.cells #[.func (.func 153) #[] #[],.slice A2 f1.length c2,.int .i64 f2] 211 (0,0))]::ch2::QC [] 2 l) l_∧Own YJ 213 μ_ (.slice A2 f1.length c2) f1 ch2∧μ=μ_) ⟨A1,c1,ch1,fE E,sE [some 0,some 1] 2 E,(hO1),E⟩ ?_;rintro ⟨f1,f2,i1⟩ _ _ _ _ _ ⟨A2,c2,ch2,hF1731,hS1731,hO2,rfl⟩ hb1731 hq1731;unfold Y0 at hb1731;replace hb1731:=Qj hb1731;replace hb1731:=Qj hb1731;refine Atn 2 hF1731 hS1731 E E (G0 14 E ?_);refine Cut hb1731 (fun f l o_ f_ μ_ l_=> ∃(f6:(List QQ)) (f7:Int) (next3:Int) (A7:Option Addr) (c7:Nat) (ch7:Seg),(f6,f7,next3)=o_∧Qh ((3,.int .i64 next3)::Qk [0,2] f) f_∧Qd ([(g1,.cells #[.func (.func 153) #[] #[],.slice A7 f6.length c7,.int .i64 f7] 211 (0,0))]::ch7::QC [] 2 l) l_∧Own YJ 213 μ_ (.slice A7 f6.length c7) f6 ch7∧μ=μ_) ?_ ?_
  ·intro _ h1736 hb1731;refine Lp h1736 (fun f l (j_:(List QQ)×Int×Int×Int) f_ μ_ l_=>YG j_ fun f3 j_=>YG j_ fun f4 j_=>YG j_ fun next1 k1=> ∃(A3:Option Addr) (c3:Nat) (ch3:Seg),Qh ((3,.int .i64 next1)::(4,.int .i64 k1)::Qk [0,2] f) f_∧Qd ([(g1,.cells #[.func (.func 153) #[] #[],.slice A3 f3.length c3,.int .i64 f4] 211 (0,0))]::ch3::QC [] 2 l) l_∧Own YJ 213 μ_ (.slice A3 f3.length c3) f3 ch3∧μ=μ_) ⟨A2,c2,ch2,fE E,sE [some 0,some 1] 2 E,(hO2),E⟩ ?_;rintro ⟨f3,f4,next1,k1⟩ _ _ _ _ _ ⟨A3,c3,ch3,hF1755,hS1755,hO3,rfl⟩ hb1755 hq1755;unfold pqueue_Queue_stop_sink_l1 at hb1755;replace hb1755:=Qj hb1755;replace hb1755:=Qj hb1755;replace hb1755:=Qj hb1755;refine Atn 2 hF1755 hS1755 E E (G0 2 E ?_);refine Cut hb1755 (fun f l o_ f_ μ_ l_=> ∃(v1:Bool),v1=o_∧Qh ((22,.bool v1)::Qk [0,2,3,4] f) f_∧Qd l l_∧μ=μ_) ?_ ?_
   ·intro _ h1760 hb1755;refine G0 7 E ?_;refine Br h1760 14 E E (fun hc1 h1760=> ?_) (fun hc1 h1760=> ?_)
    ·refine G2 9 [14] [] [0] E ?_;cases h1760;exact Ce E ⟨_,rfl,fE E,sE [some 0,some 1] 2 E,rfl⟩
    refine G2 9 [] [14] [] E ?_;cases h1760;exact Ce E ⟨_,rfl,fE E,sE [some 0,some 1] 2 E,rfl⟩
   rintro _ _ _ _ hb1755 _ ⟨v1,rfl,hF1760,hS1760,rfl⟩;refine Atn 2 hF1760 hS1760 E E ?_;refine Br hb1755 22 E E (fun hc2 hb1755=> ?_) (fun hc2 hb1755=> ?_)
   ·refine G2 3 [22] [] [] E ?_;refine Cut hb1755 (fun f l o_ f_ μ_ l_=> ∃(f5:(List QQ)) (next2:Int) (A6:Option Addr) (c6:Nat) (ch6:Seg),(f5,next2)=o_∧Qh ((3,.int .i64 next2)::Qk [0,2,4] f) f_∧Qd ([(g1,.cells #[.func (.func 153) #[] #[],.slice A6 f5.length c6,.int .i64 ((Qg.mk f3 f4).count)] 211 (0,0))]::ch6::QC [] 2 l) l_∧Own YJ 213 μ_ (.slice A6 f5.length c6) f5 ch6∧μ=μ_) ?_ ?_
    ·intro _ h1763 hb1755;refine G0 6 E (Cl E ?_);have hP2:Qn μ (.pointer (some ⟨g1,0,none⟩)) (Qg.mk f3 f4) _:=⟨g1,A3,c3,ch3,rfl,rfl,hO3⟩
     refine Fn.gp [[0,1]] 2 1 E ?_;obtain ⟨_,hx1,h1763⟩:=Qi h1763;refine VY hP2 hx1 ((Q0 1 E ?_));refine Br h1763 28 E E (fun hc3 h1763=> ?_) (fun hc3 h1763=> ?_)
     ·refine G2 6 [28] [] [] E ?_;obtain ⟨_,A4,c4,ch4,hv2,hs1,hO4⟩:=hP2;replace hv2:=QdD hv2;subst hv2;cases h1763;exact Ce E ⟨_,_,A4,c4,ch4,rfl,fE E,(Qd.ins (i:=0) (Qn.fl.trans hs1.symm) E).tr (sE [some 0,some 1] 2 E),(hO4),rfl⟩
     refine G2 3 [] [28] [] E ?_;obtain ⟨_,A5,c5,ch5,hv3,hs2,hO5⟩:=hP2;replace hv3:=QdD hv3;subst hv3;cases h1763;exact Ce E ⟨_,_,A5,c5,ch5,rfl,fE E,(Qd.ins (i:=0) (Qn.fl.trans hs2.symm) E).tr (sE [some 0,some 1] 2 E),(hO5),rfl⟩
    rintro _ _ _ _ hb1755 _ ⟨f5,next2,A6,c6,ch6,rfl,hF1763,hS1763,hO6,rfl⟩;replace hb1755:=Qj hb1755;refine Atn 2 hF1763 hS1763 E E (G0 5 E ?_);cases hb1755;exact Ce E ⟨_,rfl,A6,c6,ch6,fE E,sE [some 0,some 1] 2 E,(hO6),rfl⟩
   refine G2 2 [] [22] [] E ?_;cases hb1755;have hq_:=hq1755 _ E;subst hq_;exact Ce E ⟨_,_,_,A3,c3,ch3,rfl,fE E,sE [some 0,some 1] 2 E,(hO3),rfl⟩
  rintro _ _ _ _ hb1731 _ ⟨f6,f7,next3,A7,c7,ch7,rfl,hF1736,hS1736,hO7,rfl⟩;replace hb1731:=Qj hb1731;replace hb1731:=Qj hb1731;refine Atn 2 hF1736 hS1736 E E (G0 7 E ?_);refine Br hb1731 32 E E (fun hc4 hb1731=> ?_) (fun hc4 hb1731=> ?_)
  ·refine G2 1 [32] [] [] E ?_;cases hb1731;have hq_:=hq1731 _ E;subst hq_;cases h;exact Rt [] E E (Ug [[0,1]] 2 (hR _ ⟨g1,A7,c7,ch7,rfl,rfl,hO7⟩))
  refine G2 7 [] [32] [] E (Cl E ?_);have hP3:Qn μ (.pointer (some ⟨g1,0,none⟩)) (Qg.mk f6 f7) _:=⟨g1,A7,c7,ch7,rfl,rfl,hO7⟩
  refine Fn.gp [[0,1]] 2 1 E ?_;obtain ⟨_,hx2,hb1731⟩:=Qi hb1731;refine W7 hP3 hx2 (fun _ hP4=>Q0 6 E ?_);obtain ⟨_,A8,c8,ch8,hv4,rfl,hO8⟩:=hP4;replace hv4:=QdD hv4;subst hv4;cases hb1731;exact Ce E ⟨_,rfl,A8,c8,ch8,fE E,(Qd.ins (i:=0) Qn.fl E).tr (sE [some 0,some 1] 2 E),(hO8),rfl⟩
 exact fun _ _ _ _ _ _ hf_=>hf_.elim
theorem QcO {F:Nat} {q1:Qg} {pv1:Value} {so1:Seg} {res1:Q9} {res2:Bool} {res3:Qg}
  (hP1:Qn μ pv1 q1 so1) (h:Zq F q1=some (res1,res2,res3))
  (hR: ∀(sp0:Seg),Qn μ pv1 res3 sp0→R (.tuple #[.agg #[.int .i64 res1.node,.int .i64 res1.leg.Secs,.int .i64 res1.leg.Meters],.bool res2]) μ (sp0::L)) :
  Fn Tryz.prog 156 [pv1] μ (so1::L) R:=by
 unfold Zq at h;refine FnS Tryz.func156 (by kernel_rfl) E Tryz.ntmps156 E E ?_;refine G0 2 E (Al E fun g1=>Q0 5 E (Cl E (Fn.gp [[1],[0]] 2 2 E ?_)));obtain ⟨⟨r1,_⟩,hx1,h⟩:=Qi h;replace h:=Qj h;refine Qcu hP1 hx1 ((Q0 3 E (Al E fun g2=>Q1 9 [0] E ?_)));refine Br h 13 E E (fun hc1 h=> ?_) (fun hc1 h=> ?_)
 ·refine G2 7 [13] [] [0,2] E ?_;cases h;exact Rt [2] E E (Ug [[1]] 3 (hR _ hP1))
 obtain ⟨g3,A1,c1,ch1,hv1,rfl,hO1⟩:=hP1;subst hv1;refine G2 3 [] [13] [] E (In Qn.fl 1 4 E E E (G1 13 [1] E (Cl E ?_)));have hP2:Qn μ (.pointer (some ⟨g3,0,none⟩)) q1 _:=⟨g3,A1,c1,ch1,rfl,rfl,hO1⟩
 refine Fn.gp [[1,2],[0],[3]] 4 3 E ?_;obtain ⟨r3,hx2,h⟩:=Qi h;refine W7 hP2 hx2 (fun _ hP3=> ?_);obtain ⟨_,A2,c2,ch2,hv2,rfl,hO2⟩:=hP3;replace hv2:=QdD hv2;subst hv2;refine Q0 2 E (In Qn.fl 0 4 E E E ?_);obtain ⟨_,hs1,h⟩:=Qi h;refine G1 6 [0] E (Rdo E E (QeJ (r:=YJ) E E E E E E E (Own.lenOk hO2).1 hs1 fun _ hAe1=> ?_));have hA1:=Rds.sub (Own.rds (L:=([(g3,.cells #[.func (.func 153) #[] #[],.slice A2 r3.heap.length c2,.int .i64 r3.count] 211 (0,0))]::ch2::[(g2,.cells #[.int .i64 r1.node,.int .i64 r1.leg.Secs,.int .i64 r1.leg.Meters] 200 (0,0))]::[(g1,.cells #[.int .i64 0,.int .i64 0,.int .i64 0] 200 (0,0))]::L)) hO2 1 E) (Own.lenOk hO2).1 hs1 hAe1;have hl1:=Qgy (Own.lenOk hO2) hs1;refine Q0 0 E (So E (Qmh E (Qjl (z:=(QQ.mk (Q9.mk 0 (Ql.mk 0 0)) 0)) (zc:=[.int .i64 0,.int .i64 0,.int .i64 0,.int .i64 0]) QU E E E E E (E) 1 E hO2 hs1 hAe1 fun ch3 hO3=> ?_)))
 rw[←QcE r3.heap (w64 (((q1.heap.length:Nat):Int)-1)) (QQ.mk (Q9.mk 0 (Ql.mk 0 0)) 0)] at hO3 ⊢
 obtain ⟨l2,hs2,h⟩:=Qi h;refine Q1 9 [0] E (Rdo E E (QbU E E E E E E (Own.lenOk hO3).1 hs2 ?_));have hA2:=Rds.pre (Own.rds (L:=([(g3,.cells #[.func (.func 153) #[] #[],.slice A2 ((Qfc r3.heap (w64 (((q1.heap.length:Nat):Int)-1)) (QQ.mk (Q9.mk 0 (Ql.mk 0 0)) 0)).length) c2,.int .i64 r3.count] 211 (0,0))]::ch3::[(g2,.cells #[.int .i64 r1.node,.int .i64 r1.leg.Secs,.int .i64 r1.leg.Meters] 200 (0,0))]::[(g1,.cells #[.int .i64 0,.int .i64 0,.int .i64 0] 200 (0,0))]::L)) hO3 1 E) hs2;have hl2:=QdC (Own.lenOk hO3) hs2;refine Q0 2 E (So E (QY (vs:=[.slice A2 l2.length c2]) E E E E E E ?_));have hO4:=Own.cut hO3 hs2;refine ST_ (L':=([(g3,.cells #[.func (.func 153) #[] #[],.slice A2 l2.length c2,.int .i64 r3.count] 211 (0,0))]::ch3::[(g2,.cells #[.int .i64 r1.node,.int .i64 r1.leg.Secs,.int .i64 r1.leg.Meters] 200 (0,0))]::[(g1,.cells #[.int .i64 0,.int .i64 0,.int .i64 0] 200 (0,0))]::L)) 0 0 E E E E (Q0 4 E (Cl E ?_));have hP4:Qn μ (.pointer (some ⟨g3,0,none⟩)) (Qg.mk l2 r3.count) _:=⟨g3,A2,c2,ch3,rfl,rfl,hO4⟩
 refine Fn.gp [[0,1],[2],[3]] 4 3 E ?_;obtain ⟨_,hx3,h⟩:=Qi h;refine Qcv hP4 hx3 (fun _ hP5=>Q1 7 [1,2] E ?_);cases h;exact Rt [2] E E (Ug [[0]] 3 (hR _ hP5))
theorem Qhb  {x1:QK}  {res1:Int} {res2:Int}
   (h:Qb0 x1=some (res1,res2))
  (hR:R (.tuple #[.int .i64 res1,.int .i64 res2]) μ (L)) :
  Fn Tryz.prog 143 [.agg #[.int .i64 x1.From,.int .i64 x1.To,.int .i64 x1.Meters,.int .i64 x1.Secs]] μ (L) R:=by
 unfold Qb0 at h;refine FnS Tryz.func143 (by kernel_rfl) E Tryz.ntmps143 E E ?_;refine G0 2 E (Al E fun _=>Q0 4 E (Dr _ Qz.refl [(true,0),(true,1),(true,2),(true,3),(true,4),(true,5)] (by kernel_rfl) (G1 7 [0,0] E ?_)));cases h;exact Rt [] E E (Ug [] 1 hR)
theorem QiM  {l1:Ql} {x1:QK}  {res1:Ql}
   (h:Qcm l1 x1=some res1)
  (hR:R (.agg #[.int .i64 res1.Secs,.int .i64 res1.Meters]) μ (L)) :
  Fn Tryz.prog 157 [.agg #[.int .i64 l1.Secs,.int .i64 l1.Meters],.agg #[.int .i64 x1.From,.int .i64 x1.To,.int .i64 x1.Meters,.int .i64 x1.Secs]] μ (L) R:=by
 unfold Qcm at h;refine FnS Tryz.func157 (by kernel_rfl) E Tryz.ntmps157 E E ?_;refine G0 2 E (Al E fun _=>Q0 0 E (Al E fun _=>Q0 0 E (Al E fun _=>Q1 16 [2,1,2,1,0] E ?_)));cases h;exact Rt [0] E E (Ug [] 3 hR)
theorem QeX {F:Nat} {r1:QM} {f_from1:Int} {A1:Option Addr} {c1:Nat} {res1:(List Ql)}
  (hl1:r1.Edges.length≤c1∧c1≤maxLen) (hA1:Qr QF μ A1 r1.Edges) (h:Vv F r1 f_from1=some res1)
  (hR: ∀(A0:Option Addr) (c0:Nat) (ch0:Seg),Own Yl 137 μ (.slice A0 res1.length c0) res1 ch0→R (.slice A0 res1.length c0) μ (ch0::L)) :
  Fn Tryz.prog 142 [.agg #[.int .i64 r1.Nodes,.slice A1 r1.Edges.length c1],.int .i64 f_from1,.func (.func 143) #[] #[]] μ (L) R:=by
 unfold Vv at h;refine FnS Tryz.func142 (by kernel_rfl) E Tryz.ntmps142 E E ?_;refine G0 2 E (Al E fun g1=>Q1 6 [0] E (So E (Qho E E ?_)));obtain ⟨_,hn1,h⟩:=Qi h;refine Qf3 (r:=Yl) (z:=(Ql.mk 0 0)) (zc:=[.int .i64 0,.int .i64 0]) QU E E E E E (E) E hn1 fun A2 c2 ch1 hO1=>Q0 9 E ?_;refine Cut h (fun f l o_ f_ μ_ l_=> ∃(out2:(List Ql)) (A4:Option Addr) (c4:Nat) (ch4:Seg),out2=o_∧Qh ((7,.slice A4 out2.length c4)::Qk [1,2,3] f) f_∧Qd ([(g1,.cells #[.int .i64 r1.Nodes,.slice A1 r1.Edges.length c1] 24 (0,0))]::ch4::QC [] 2 l) l_∧Own Yl 137 μ_ (.slice A4 out2.length c4) out2 ch4∧μ=μ_) ?_ ?_
 ·intro _ h1058 h;refine Lp h1058 (fun f l (j_:(List Ql)×Int) f_ μ_ l_=>YG j_ fun out1 v1=> ∃(A3:Option Addr) (c3:Nat) (ch2:Seg),Qh ((7,.slice A3 out1.length c3)::(22,.int .i64 v1)::Qk [1,2,3,21] f) f_∧Qd ([(g1,.cells #[.int .i64 r1.Nodes,.slice A1 r1.Edges.length c1] 24 (0,0))]::ch2::QC [] 2 l) l_∧Own Yl 137 μ_ (.slice A3 out1.length c3) out1 ch2∧μ=μ_) ⟨A2,c2,ch1,fE E,sE [some 1,some 0] 2 E,(hO1),E⟩ ?_;rintro ⟨out1,v1⟩ _ _ _ _ _ ⟨A3,c3,ch2,hF1067,hS1067,hO2,rfl⟩ hb1067 hq1067;unfold JG at hb1067;replace hb1067:=Qj hb1067;refine Atn 2 hF1067 hS1067 E E (G0 5 E ?_);refine Br hb1067 23 E E (fun hc1 hb1067=> ?_) (fun hc1 hb1067=> ?_)
  ·refine G2 12 [23] [] [] E (Cl E ?_);obtain ⟨r2,hx1,hb1067⟩:=Qi hb1067;refine Qf1  hx1 ((Q0 0 E (IxA hb1067 (Own.rds hO2 1 E) E E fun _ a1 _ hx2 hr1 _ hA2 hb1067=> ?_)));obtain rfl:=hr1;refine Q0 0 E (So E (QY (vs:=[.int .i64 r2.Secs,.int .i64 r2.Meters]) E E E E E E ?_))
   rw[←Addr.add_zero' ((a1.add (v1.toNat*2)))]
   refine Own.store (μ:=μ) (r:=Yl) (x':=r2) (o:=0) (sz:=2) 1 rfl hO2 hA2 hx2 rfl rfl (by rintro _ rfl;rfl) fun ch3 hO3=> ?_
   rw[←QX out1 v1 r2] at hO3 ⊢
   refine Q0 6 E ?_;cases hb1067;exact Ce E ⟨_,rfl,A3,c3,ch3,fE E,sE [some 0,some 1] 2 E,(hO3),rfl⟩
  refine G2 2 [] [23] [] E ?_;cases hb1067;have hq_:=hq1067 _ E;subst hq_;exact Ce E ⟨_,A3,c3,ch2,rfl,fE E,sE [some 0,some 1] 2 E,(hO2),rfl⟩
 rintro _ _ _ _ h _ ⟨out2,A4,c4,ch4,rfl,hF1058,hS1058,hO4,rfl⟩;refine Atn 2 hF1058 hS1058 E E (G0 5 E (IxA h (Own.rds hO4 1 E) E E fun _ a2 _ hx3 hr2 _ hA3 h=> ?_));obtain rfl:=hr2;refine Q0 0 E (So E (QY (vs:=[.int .i64 0,.int .i64 0]) E E E E E E ?_))
 rw[←Addr.add_zero' ((a2.add (f_from1.toNat*2)))]
 refine Own.store (μ:=μ) (r:=Yl) (x':=(Ql.mk 0 0)) (o:=0) (sz:=2) 1 rfl hO4 hA3 hx3 rfl rfl (by rintro _ rfl;rfl) fun ch5 hO5=> ?_
 rw[←QX out2 f_from1 (Ql.mk 0 0)] at hO5 ⊢
 refine Q0 3 E (Cl E ?_);obtain ⟨_,hx4,h⟩:=Qi h;refine Qda  hx4 (fun pv1 _ hP1=>Q0 7 E (Cl E ?_));obtain ⟨_,hx5,h⟩:=Qi h;refine Qan hP1 hx5 (fun so2 hP2=>Q0 1 E ?_);refine Cut h (fun _ _ _ _ _ _=>False) ?_ ?_
 ·intro _ h1471 h;refine Lp h1471 (fun f l (j_:(List Ql)×Qg) f_ μ_ l_=>YG j_ fun out3 q1=> ∃(A5:Option Addr) (c5:Nat) (ch6:Seg) (so3:Seg),Qh ((7,.slice A5 out3.length c5)::Qk [2,3,9] f) f_∧Qd ([(g1,.cells #[.int .i64 r1.Nodes,.slice A1 r1.Edges.length c1] 24 (0,0))]::ch6::so3::QC [] 3 l) l_∧Own Yl 137 μ_ (.slice A5 out3.length c5) out3 ch6∧Qn μ_ pv1 q1 so3∧μ=μ_) ⟨A4,c4,ch5,so2,fE E,sE [some 1,some 2,some 0] 3 E,(hO5),(hP2),E⟩ ?_;rintro ⟨out3,q1⟩ _ _ _ _ _ ⟨A5,c5,ch6,so3,hF1959,hS1959,hO6,hP3,rfl⟩ hb1959 hq1959;unfold JI at hb1959;replace hb1959:=Qj hb1959;refine Atn 3 hF1959 hS1959 E E (G0 4 E (Cl E (Fn.gp [[2],[0],[1]] 3 3 E ?_)));obtain ⟨⟨r5,_,_⟩,hx6,hb1959⟩:=Qi hb1959;replace hb1959:=Qj hb1959;replace hb1959:=Qj hb1959;refine QcO hP3 hx6 (fun so4 hP4=>Q0 3 E (Al E fun g2=>Q1 9 [0] E ?_));refine Br hb1959 45 E E (fun hc4 hb1959=> ?_) (fun hc4 hb1959=> ?_)
  ·refine G2 6 [45] [] [] E ?_;cases hb1959;have hq_:=hq1959 _ E;subst hq_;cases h;exact Rt [] E E (Ug [[3]] 4 (hR A5 c5 ch6 hO6))
  refine G2 4 [] [45] [] E (Dr _ Qz.refl [(true,0),(true,1),(true,2),(true,3),(true,4),(true,5),(true,6),(true,7)] (by kernel_rfl) (G1 3 [0] E (Ix hb1959 (Own.rds (L:=([(g2,.cells #[.int .i64 r5.node,.int .i64 r5.leg.Secs,.int .i64 r5.leg.Meters] 200 (0,0))]::so4::[(g1,.cells #[.int .i64 r1.Nodes,.slice A1 r1.Edges.length c1] 24 (0,0))]::ch6::L)) hO6 3 E) E E fun x3 _ _ _ hr3 hc5 _ hb1959=> ?_)));obtain rfl:=hr3;refine Q3 3 [] [] [64,0] (Z1 hc5) E (Rdo E E (QiS E E (Ex.mk _ (QdU x3 r5.leg) (Q0 1 E ?_))));refine Br hb1959 54 E E (fun hc6 hb1959=> ?_) (fun hc6 hb1959=> ?_)
  ·refine G2 2 [54] [] [] E ?_;cases hb1959;exact Ce E ⟨_,rfl,A5,c5,ch6,so4,fE E,sE [some 2,some 3,some 1] 4 E,(hO6),(hP4),rfl⟩
  refine G2 9 [] [54] [2] E ?_;refine Cut hb1959 (fun f l o_ f_ μ_ l_=> ∃(out6:(List Ql)) (q4:Qg) (A8:Option Addr) (c8:Nat) (ch10:Seg) (so8:Seg),(out6,q4)=o_∧Qh ((7,.slice A8 out6.length c8)::Qk [2,3,9] f) f_∧Qd ([(g1,.cells #[.int .i64 r1.Nodes,.slice A1 r1.Edges.length c1] 24 (0,0))]::ch10::so8::QC [] 4 l) l_∧Own Yl 137 μ_ (.slice A8 out6.length c8) out6 ch10∧Qn μ_ pv1 q4 so8∧μ=μ_) ?_ ?_
  ·intro _ h1976 hb1959;refine Lp h1976 (fun f l (j_:(List Ql)×Qg×Int) f_ μ_ l_=>YG j_ fun out4 j_=>YG j_ fun q2 v2=> ∃(A6:Option Addr) (c6:Nat) (ch7:Seg) (so5:Seg),Qh ((7,.slice A6 out4.length c6)::(58,.int .i64 v2)::Qk [2,3,9,10,56,57] f) f_∧Qd ([(g1,.cells #[.int .i64 r1.Nodes,.slice A1 r1.Edges.length c1] 24 (0,0))]::ch7::so5::QC [some 0] 4 l) l_∧Own Yl 137 μ_ (.slice A6 out4.length c6) out4 ch7∧Qn μ_ pv1 q2 so5∧μ=μ_) ⟨A5,c5,ch6,so4,fE E,sE [some 2,some 3,some 1,some 0] 4 E,(hO6),(hP4),E⟩ ?_;rintro ⟨out4,q2,v2⟩ _ _ _ _ _ ⟨A6,c6,ch7,so5,hF2027,hS2027,hO7,hP5,rfl⟩ hb2027 hq2027;unfold JH at hb2027;replace hb2027:=Qj hb2027;replace hb2027:=Qj hb2027;refine Atn 4 hF2027 hS2027 E E (G0 5 E ?_);refine Br hb2027 59 E E (fun hc7 hb2027=> ?_) (fun hc7 hb2027=> ?_)
   ·refine G2 3 [59] [] [] E ?_;refine Cut hb2027 (fun f l o_ f_ μ_ l_=> ∃(out5:(List Ql)) (q3:Qg) (A7:Option Addr) (c7:Nat) (ch9:Seg) (so7:Seg),(out5,q3)=o_∧Qh ((7,.slice A7 out5.length c7)::Qk [2,3,9,10,56,57,58] f) f_∧Qd ([(g1,.cells #[.int .i64 r1.Nodes,.slice A1 r1.Edges.length c1] 24 (0,0))]::ch9::so7::QC [] 3 l) l_∧Own Yl 137 μ_ (.slice A7 out5.length c7) out5 ch9∧Qn μ_ pv1 q3 so7∧μ=μ_) ?_ ?_
    ·intro _ h2037 hb2027;refine G0 3 E (Ix h2037 (Qr.rds hA1 L) E E fun x4 _ _ _ hr4 hc8 _ h2037=> ?_);obtain rfl:=hr4;refine Q3 1 [] [] [64] (Z1 (hc8.push.push.push.push)) E (Al E fun g3=>Q1 6 [0,0] E (Cl E ?_));obtain ⟨⟨_,r9⟩,hx9,h2037⟩:=Qi h2037;replace h2037:=Qj h2037;refine Qhb  hx9 ((Q1 14 [4] E ?_));refine Br h2037 71 E E (fun hc9 h2037=> ?_) (fun hc9 h2037=> ?_)
     ·refine G2 2 [71] [] [] E ?_;cases h2037;exact Ce E ⟨_,_,A6,c6,ch7,so5,rfl,fE E,sE [some 1,some 2,some 3,some 4] 5 E,(hO7),(hP5),rfl⟩
     refine G2 7 [] [71] [4,0] E (Cl E ?_);obtain ⟨r10,hx10,h2037⟩:=Qi h2037;refine QiM  hx10 ((Q0 0 E (Al E fun g4=>Q1 3 [0] E (Dr _ Qz.refl [(true,0),(true,1),(true,2),(true,3),(true,4),(false,5)] (by kernel_rfl) (G1 3 [0] E (Ix h2037 (Own.rds (L:=([(g4,.cells #[.int .i64 r10.Secs,.int .i64 r10.Meters] 137 (0,0))]::[(g3,.cells #[.int .i64 x4.From,.int .i64 x4.To,.int .i64 x4.Meters,.int .i64 x4.Secs] 106 (0,0))]::[(g1,.cells #[.int .i64 r1.Nodes,.slice A1 r1.Edges.length c1] 24 (0,0))]::ch7::so5::[(g2,.cells #[.int .i64 r5.node,.int .i64 r5.leg.Secs,.int .i64 r5.leg.Meters] 200 (0,0))]::L)) hO7 3 E) E E fun _ _ _ _ hr5 hc10 _ h2037=> ?_))))));obtain rfl:=hr5;refine Q3 1 [] [] [64] (Z1 hc10) E (Cl E ?_);obtain ⟨_,hx12,h2037⟩:=Qi h2037;refine Qez  hx12 (?_);refine ⟨Qz.refl,?_⟩;refine Q0 1 E ?_;refine Br h2037 81 E E (fun hc11 h2037=> ?_) (fun hc11 h2037=> ?_)
     ·refine G2 6 [81] [] [0] E (IxA h2037 (Own.rds hO7 3 E) E E fun _ a6 _ hx13 hr6 _ hA7 h2037=> ?_);obtain rfl:=hr6;refine Q0 0 E (So E (QY (vs:=[.int .i64 r10.Secs,.int .i64 r10.Meters]) E E E E E E ?_))
      rw[←Addr.add_zero' ((a6.add (r9.toNat*2)))]
      refine Own.store (μ:=μ) (r:=Yl) (x':=r10) (o:=0) (sz:=2) 3 rfl hO7 hA7 hx13 rfl rfl (by rintro _ rfl;rfl) fun ch8 hO8=> ?_
      rw[←QX out4 r9 r10] at hO8 ⊢
      refine Q1 6 [0] E (Cl E (Fn.gp [[4],[0],[1],[2],[3],[5]] 6 6 E ?_));obtain ⟨_,hx14,h2037⟩:=Qi h2037;refine Qan hP5 hx14 (fun so6 hP6=>Q0 2 E ?_);cases h2037;exact Ce E ⟨_,_,A6,c6,ch8,so6,rfl,fE E,sE [some 3,some 4,some 0,some 5] 6 E,(hO8),(hP6),rfl⟩
     refine G2 3 [] [81] [] E ?_;cases h2037;exact Ce E ⟨_,_,A6,c6,ch7,so5,rfl,fE E,sE [some 2,some 3,some 4,some 5] 6 E,(hO7),(hP5),rfl⟩
    rintro _ _ _ _ hb2027 _ ⟨out5,q3,A7,c7,ch9,so7,rfl,hF2037,hS2037,hO9,hP7,rfl⟩;replace hb2027:=Qj hb2027;refine Atn 4 hF2037 hS2037 E E (G0 4 E ?_);cases hb2027;exact Ce E ⟨_,rfl,A7,c7,ch9,so7,fE E,sE [some 0,some 1,some 2,some 3] 4 E,(hO9),(hP7),rfl⟩
   refine G2 2 [] [59] [] E ?_;cases hb2027;have hq_:=hq2027 _ E;subst hq_;exact Ce E ⟨_,_,A6,c6,ch7,so5,rfl,fE E,sE [some 0,some 1,some 2] 4 E,(hO7),(hP5),rfl⟩
  rintro _ _ _ _ hb1959 _ ⟨out6,q4,A8,c8,ch10,so8,rfl,hF1976,hS1976,hO10,hP8,rfl⟩;replace hb1959:=Qj hb1959;refine G0 1 E ?_;cases hb1959;exact Ce E ⟨_,rfl,A8,c8,ch10,so8,hF1976.tr E,hS1976.tr (sE [some 0,some 1,some 2] 3 E),(hO10),(hP8),rfl⟩
 exact fun _ _ _ _ _ _ hf_=>hf_.elim
theorem Qj1 {F:Nat} {r1:QM} {f_from1:Int} {A1:Option Addr} {c1:Nat} {res1:(List Ql)} {res2:Int}
  (hl1:r1.Edges.length≤c1∧c1≤maxLen) (hA1:Qr QF μ A1 r1.Edges) (h:Qcb F r1 f_from1=some (res1,res2))
  (hR: ∀(μ':Gh) (A0:Option Addr) (c0:Nat) (ch0:Seg),μ.le μ'→Own Yl 137 μ' (.slice A0 res1.length c0) res1 ch0→R (.tuple #[.slice A0 res1.length c0,.int .i64 res2]) μ' (ch0::L)) :
  Fn Tryz.prog 124 [.agg #[.int .i64 r1.Nodes,.slice A1 r1.Edges.length c1],.int .i64 f_from1] μ (L) R:=by
 unfold Qcb at h;refine FnS Tryz.func124 (by kernel_rfl) E Tryz.ntmps124 E E ?_;refine G0 2 E (Al E fun _=>Q1 7 [0] E (Cl E ?_));obtain ⟨_,hx1,h⟩:=Qi h;refine Qe1 hl1 hA1 hx1 (fun _ hm_1=> ?_);replace hA1:=hA1.mono hm_1;refine Q0 7 E ?_;refine Br h 10 E E (fun hc1 h=> ?_) (fun hc1 h=> ?_)
 ·refine G2 7 [10] [] [] E ?_;cases h;exact Rt [] E E (Ug [[]] 1 (hR _ none 0 [] hm_1 Own.nil))
 refine G2 4 [] [10] [] E ?_;refine Cut h (fun f l o_ f_ μ_ l_=> ∃(v2:Bool),v2=o_∧Qh ((19,.bool v2)::Qk [1,2] f) f_∧Qd l l_) ?_ ?_
 ·intro _ h2091 h;refine G0 4 E ?_;refine Br h2091 14 E E (fun hc2 h2091=> ?_) (fun hc2 h2091=> ?_)
  ·refine G2 6 [14] [] [] E ?_;cases h2091;exact Ce E ⟨_,rfl,fE E,sE [some 0] 1 E⟩
  refine G2 6 [] [14] [0] E ?_;cases h2091;exact Ce E ⟨_,rfl,fE E,sE [some 0] 1 E⟩
 rintro _ _ _ _ h hm2091 ⟨v2,rfl,hF2091,hS2091⟩;replace hA1:=hA1.mono hm2091;refine Atn 1 hF2091 hS2091 E E ?_;refine Br h 19 E E (fun hc3 h=> ?_) (fun hc3 h=> ?_)
 ·refine G2 6 [19] [] [] E ?_;cases h;exact Rt [] E E (Ug [[]] 1 (hR _ none 0 [] (hm_1.trans hm2091) Own.nil))
 refine G2 6 [] [19] [0] E (Cl E ?_);obtain ⟨_,hx2,h⟩:=Qi h;refine QeX hl1 hA1 hx2 (fun A2 c2 ch1 hO1=>Q0 3 E ?_);cases h;exact Rt [] E E (Ug [[0]] 2 (hR _ A2 c2 ch1 (hm_1.trans hm2091) hO1))
theorem Qdk {F:Nat} {w1:QG} {f_to1:Int} {pv1:Value} {so1:Seg} {res1:Ql} {res2:Bool} {res3:QG}
  (hP1:QL μ pv1 w1 so1) (h:VS F w1 f_to1=some (res1,res2,res3))
  (hR: ∀(μ':Gh) (sp0:Seg),μ.le μ'→QL μ' pv1 res3 sp0→R (.tuple #[.agg #[.int .i64 res1.Secs,.int .i64 res1.Meters],.bool res2]) μ' (sp0::L)) :
  Fn Tryz.prog 109 [pv1,.int .i64 f_to1] μ (so1::L) R:=by
 unfold VS at h;refine FnS Tryz.func109 (by kernel_rfl) E Tryz.ntmps109 E E ?_;refine G0 2 E (Al E fun g1=> ?_);obtain ⟨g2,A1,c1,A2,c2,A3,c3,g3,es1,cn1,A4,c4,ch1,hv1,rfl,⟨hl1,hA1⟩,⟨hl2,hA2⟩,⟨hl3,hA3⟩,hM1,hO1⟩:=hP1;subst hv1;refine Q0 3 E (In QL.fl 1 4 E E E (Dr _ Qz.refl [(true,0),(true,1),(true,2),(true,3),(true,4),(true,5),(true,6),(true,7),(true,8),(true,9),(true,10),(true,11),(true,12),(true,13),(true,14)] (by kernel_rfl) (G1 9 [1,1] E (Rdo E E ?_))));obtain ⟨A5,c5,hx1,hl4,hA4⟩:=Qe9.look (L:=([(g1,.cells #[.int .i64 0,.int .i64 0] 137 (0,0))]::[(g2,.cells #[.int .i64 w1.place.node,.int .i64 w1.place.time,.int .i64 w1.place.load,.int .i64 w1.place.meters,.int .i64 w1.p.Road.Nodes,.slice A1 w1.p.Road.Edges.length c1,.slice A2 w1.p.Vehicles.length c2,.slice A3 w1.p.Demands.length c3,.int .i64 w1.p.Unload,.int .i64 w1.p.UnloadSecs,.string w1.v.ID,.int .i64 w1.v.Depot,.int .i64 w1.v.Shift.From,.int .i64 w1.v.Shift.To,.int .i64 w1.v.Grams,.int .i64 w1.v.Kinds,.map (some g3),.slice A4 w1.visits.length c4] 104 (0,0))]::[(g3,.map es1 cn1)]::ch1::L)) (g:=g3) hM1 (Qam.seg 2 0 rfl rfl) w1.place.node;refine QpY E E E E E E E E (Ex.mk _ hx1 (Q0 12 E ?_));refine Cut h (fun f l o_ f_ μ_ l_=> ∃(l1:(List Ql)) (m1:(List (Int×(List Ql)))) (A7:Option Addr) (c7:Nat) (es3:Array MapEntry) (cn3:Nat),(l1,m1)=o_∧Qh ((6,.slice A7 l1.length c7)::Qk [1,4] f) f_∧Qd ([(g1,.cells #[.int .i64 0,.int .i64 0] 137 (0,0))]::[(g2,.cells #[.int .i64 w1.place.node,.int .i64 w1.place.time,.int .i64 w1.place.load,.int .i64 w1.place.meters,.int .i64 w1.p.Road.Nodes,.slice A1 w1.p.Road.Edges.length c1,.slice A2 w1.p.Vehicles.length c2,.slice A3 w1.p.Demands.length c3,.int .i64 w1.p.Unload,.int .i64 w1.p.UnloadSecs,.string w1.v.ID,.int .i64 w1.v.Depot,.int .i64 w1.v.Shift.From,.int .i64 w1.v.Shift.To,.int .i64 w1.v.Grams,.int .i64 w1.v.Kinds,.map (some g3),.slice A4 w1.visits.length c4] 104 (0,0))]::[(g3,.map es3 cn3)]::QC [] 3 l) l_∧(l1.length≤c7∧c7≤maxLen)∧Qr Yl μ_ A7 l1∧Qe9 Yl μ_ es3 cn3 m1) ?_ ?_
 ·intro _ h2179 h;refine Br h2179 22 E E (fun hc1 h2179=> ?_) (fun hc1 h2179=> ?_)
  ·refine G2 2 [22] [] [] E (Dr _ Qz.refl [(true,0),(true,1),(true,2),(true,3),(true,4),(true,5),(true,6),(true,7),(true,8),(true,9),(false,10),(true,11),(true,12),(true,13),(true,14)] (by kernel_rfl) (G1 10 [1,1] E (Cl E ?_)));obtain ⟨⟨_,_⟩,hx2,h2179⟩:=Qi h2179;replace h2179:=Qj h2179;refine Qj1 hl1 hA1 hx2 (fun _ A6 c6 _ hm_1 hO2=> ?_);replace hA1:=hA1.mono hm_1;replace hA2:=hA2.mono hm_1;replace hA3:=hA3.mono hm_1;replace hM1:=hM1.mono hm_1;replace hO1:=hO1.mono hm_1;replace hA4:=hA4.mono hm_1;refine ⟨Qz.more (Qz.refl),?_⟩;refine Q0 5 E (Drk [3,0] 3 E [(true,0),(true,1),(true,2),(true,3),(true,4),(true,5),(true,6),(true,7),(true,8),(true,9),(false,10)] (by kernel_rfl) (G1 10 [1,1] E (So E (QgE E E E ?_))));have hl5:=Own.lenOk hO2;refine Qap.pre (Upd.frzOwn 0 E hO2 fun _ hm_2 hA5=>Upd.done ?_);replace hA1:=hA1.mono hm_2;replace hA2:=hA2.mono hm_2;replace hA3:=hA3.mono hm_2;replace hM1:=hM1.mono hm_2;replace hO1:=hO1.mono hm_2;replace hA4:=hA4.mono hm_2;refine Qnt QU E E E E 3 E hM1 E hl5 hA5 fun es2 cn2 hM2=> ?_;refine ⟨Kp [1,2,4] 5 E,?_⟩;refine Q0 1 E ?_;cases h2179;exact Ce E ⟨_,_,A6,c6,es2,cn2,rfl,fE E,sE [some 1,some 2,some 3,some 4] 5 E,(hl5),(hA5),(hM2)⟩
  refine G2 2 [] [22] [] E ?_;cases h2179;exact Ce E ⟨_,_,A5,c5,es1,cn1,rfl,fE E,sE [some 0,some 1,some 2,some 3] 4 E,(hl4),(hA4),(hM1)⟩
 rintro _ _ _ _ h hm2179 ⟨l1,m1,A7,c7,es3,cn3,rfl,hF2179,hS2179,_,hA6,hM3⟩;replace h:=Qj h;replace hA1:=hA1.mono hm2179;replace hA2:=hA2.mono hm2179;replace hA3:=hA3.mono hm2179;replace hO1:=hO1.mono hm2179;refine Atn 4 hF2179 hS2179 E E (G0 1 E (Drk [0] 3 E [(true,0),(true,1),(true,2),(true,3),(true,4),(true,5),(true,6),(true,7),(true,8),(true,9),(false,10),(true,11)] (by kernel_rfl) (G0 2 E (Ix h (Qr.rds hA6 L) E E fun x1 _ _ _ hr1 hc2 _ h=> ?_))));obtain rfl:=hr1;refine Q3 3 [] [] [64] (Z1 (hc2.push.push.push)) E (Ix h (Qr.rds hA6 L) E E fun _ _ _ _ hr2 hc3 _ h=> ?_);obtain rfl:=hr2;refine Q3 3 [] [] [64] (Z1 (hc3.push.push.push)) E (So E (QY (vs:=[.int .i64 x1.Secs,.int .i64 x1.Meters]) E E E E E E (ST_ (L':=([(g1,.cells #[.int .i64 x1.Secs,.int .i64 x1.Meters] 137 (0,0))]::[(g2,.cells #[.int .i64 w1.place.node,.int .i64 w1.place.time,.int .i64 w1.place.load,.int .i64 w1.place.meters,.int .i64 w1.p.Road.Nodes,.slice A1 w1.p.Road.Edges.length c1,.slice A2 w1.p.Vehicles.length c2,.slice A3 w1.p.Demands.length c3,.int .i64 w1.p.Unload,.int .i64 w1.p.UnloadSecs,.string w1.v.ID,.int .i64 w1.v.Depot,.int .i64 w1.v.Shift.From,.int .i64 w1.v.Shift.To,.int .i64 w1.v.Grams,.int .i64 w1.v.Kinds,.map (some g3),.slice A4 w1.visits.length c4] 104 (0,0))]::[(g3,.map es3 cn3)]::ch1::L)) 0 0 E E E E ?_)));refine ⟨Kp [1,2,3] 4 E,?_⟩;refine Q0 2 E ?_;cases h;exact Rt [0] E E (Ug [[1,2,3]] 4 (hR _ _ hm2179 ⟨g2,A1,c1,A2,c2,A3,c3,g3,es3,cn3,A4,c4,ch1,rfl,rfl,⟨hl1,hA1⟩,⟨hl2,hA2⟩,⟨hl3,hA3⟩,hM3,hO1⟩))
theorem Qbf  {w1:QG} {stop1:Int} {arrive1:Int} {start1:Int} {pv1:Value} {so1:Seg} {res1:QG}
  (hP1:QL μ pv1 w1 so1) (h:W1 w1 stop1 arrive1 start1=some res1)
  (hR: ∀(sp0:Seg),QL μ pv1 res1 sp0→R (.tuple #[]) μ (sp0::L)) :
  Fn Tryz.prog 111 [pv1,.int .i64 stop1,.int .i64 arrive1,.int .i64 start1] μ (so1::L) R:=by
 unfold W1 at h;refine FnS Tryz.func111 (by kernel_rfl) E Tryz.ntmps111 E E ?_;obtain ⟨g1,A1,c1,A2,c2,A3,c3,g2,es1,cn1,A4,c4,_,hv1,rfl,⟨hl1,hA1⟩,⟨hl2,hA2⟩,⟨hl3,hA3⟩,hM1,hO1⟩:=hP1;subst hv1;refine In QL.fl 0 3 E E E (Cd (WP.drawB (id:=0) (l':=List.replicate 28 true++[false]) Qd2 QU ([(g1,.cells #[.int .i64 w1.place.node,.int .i64 w1.place.time,.int .i64 w1.place.load,.int .i64 w1.place.meters,.int .i64 w1.p.Road.Nodes,.slice A1 w1.p.Road.Edges.length c1,.slice A2 w1.p.Vehicles.length c2,.slice A3 w1.p.Demands.length c3,.int .i64 w1.p.Unload,.int .i64 w1.p.UnloadSecs,.string w1.v.ID,.int .i64 w1.v.Depot,.int .i64 w1.v.Shift.From,.int .i64 w1.v.Shift.To,.int .i64 w1.v.Grams,.int .i64 w1.v.Kinds,.map (some g2),.slice A4 w1.visits.length c4] 104 (0,0))]::[(g2,.map es1 cn1)]::L) (Kp [0,1] 3 E) 28 [] [(true,0),(true,1),(true,2),(true,3),(true,4),(true,5),(true,6),(true,7),(true,8),(true,9),(true,10),(true,11),(true,12),(true,13),(true,14),(true,15),(true,16),(true,17),(true,18),(true,19),(true,20),(true,21),(true,22),(true,23),(false,24),(false,25),(true,26),(true,27)] (by kernel_rfl) (by kernel_rfl) [] E (by kernel_rfl) (by kernel_rfl) ?_));refine Vx E (QA E (Pt E E (QA E (Pt E E (Vq E (Pt E E (WJ (o':=17) E E E E E E (Pt E E (JN E E E (Ex.mk _ (Ws.seg 0 0 E E E) (Pt E E (QA E ?_))))))))))));refine Pt E E (QA E (Pt E E (Vq E (Pt E E (WJ (o':=0) E E E E E E (Pt E E (WJ (o':=0) E E E E E E (Pt E E (JN E E E (Ex.mk _ (Ws.seg 0 0 E E E) (Pt E E ?_)))))))))));refine QA E (Pt E E (QA E (Pt E E (QA E (Pt E E (Vq E (Pt E E (WJ (o':=0) E E E E E E (Pt E E (WJ (o':=1) E E E E E E (Pt E E ?_)))))))))));refine JN E E E (Ex.mk _ (Ws.seg 0 0 E E E) (Pt E E (QA E (Pt E E (Vq E (Pt E E (WJ (o':=0) E E E E E E (Pt E E (WJ (o':=2) E E E E E E (Pt E E (JN E E E (Ex.mk _ (Ws.seg 0 0 E E E) ?_))))))))))));refine Pt E E (QbT E E E E (QR (cells':=[.int .i64 stop1,.int .i64 0,.int .i64 0,.int .i64 0,.int .i64 0,.int .i64 0]) E E E E (QR (cells':=[.int .i64 stop1,.int .i64 w1.place.node,.int .i64 0,.int .i64 0,.int .i64 0,.int .i64 0]) E E E E (QR (cells':=[.int .i64 stop1,.int .i64 w1.place.node,.int .i64 arrive1,.int .i64 0,.int .i64 0,.int .i64 0]) E E E E (QR (cells':=[.int .i64 stop1,.int .i64 w1.place.node,.int .i64 arrive1,.int .i64 start1,.int .i64 0,.int .i64 0]) E E E E (QR (cells':=[.int .i64 stop1,.int .i64 w1.place.node,.int .i64 arrive1,.int .i64 start1,.int .i64 w1.place.time,.int .i64 0]) E E E E (QR (cells':=[.int .i64 stop1,.int .i64 w1.place.node,.int .i64 arrive1,.int .i64 start1,.int .i64 w1.place.time,.int .i64 w1.place.load]) E E E E ?_)))))));refine YM (QP E (QaX E (Zs (z:=[.int .i64 0,.int .i64 0,.int .i64 0,.int .i64 0,.int .i64 0,.int .i64 0]) E E E E E E E (QR (cells':=[.int .i64 stop1,.int .i64 w1.place.node,.int .i64 arrive1,.int .i64 start1,.int .i64 w1.place.time,.int .i64 w1.place.load]) E E E E (YM (fun g3=> ?_))))));refine ⟨Kp [1,2] 4 E,?_⟩;refine QP E (QaX E (Yo E ?_));obtain ⟨l1,hz1,h⟩:=Qi h;refine Yu (r:=J9) QU E E E E (by decide) E E 3 E hO1 E (Own.rds (Own.lit (r:=J9) (e:=135) (g:=g3) (xs:=[(QN.mk stop1 w1.place.node arrive1 start1 w1.place.time w1.place.load)]) (cs:=[.int .i64 stop1,.int .i64 w1.place.node,.int .i64 arrive1,.int .i64 start1,.int .i64 w1.place.time,.int .i64 w1.place.load]) (css:=[[.int .i64 stop1,.int .i64 w1.place.node,.int .i64 arrive1,.int .i64 start1,.int .i64 w1.place.time,.int .i64 w1.place.load]]) E (All2.cons (E) (All2.nil)) E E) 0 E) hz1 fun A5 c5 ch2 hO2=> ?_;refine ⟨Kp [1,2] 4 E,?_⟩
 refine Pt E E (Vq E (Pt E E (WJ (o':=17) E E E E E E (QP E (Js (Qc6 E (QY (vs:=[.slice A5 l1.length c5]) E E E E E E (ST_ (L':=([(g3,.cells #[.int .i64 stop1,.int .i64 w1.place.node,.int .i64 arrive1,.int .i64 start1,.int .i64 w1.place.time,.int .i64 w1.place.load] 135 (0,0))]::[(g1,.cells #[.int .i64 w1.place.node,.int .i64 w1.place.time,.int .i64 w1.place.load,.int .i64 w1.place.meters,.int .i64 w1.p.Road.Nodes,.slice A1 w1.p.Road.Edges.length c1,.slice A2 w1.p.Vehicles.length c2,.slice A3 w1.p.Demands.length c3,.int .i64 w1.p.Unload,.int .i64 w1.p.UnloadSecs,.string w1.v.ID,.int .i64 w1.v.Depot,.int .i64 w1.v.Shift.From,.int .i64 w1.v.Shift.To,.int .i64 w1.v.Grams,.int .i64 w1.v.Kinds,.map (some g2),.slice A5 l1.length c5] 104 (0,0))]::[(g2,.map es1 cn1)]::ch2::L)) 1 0 E E E E ?_))))))));apply ZF;cases h;exact Rt [] E E (Ug [[1,2,3]] 4 (hR _ ⟨g1,A1,c1,A2,c2,A3,c3,g2,es1,cn1,A5,c5,ch2,rfl,rfl,⟨hl1,hA1⟩,⟨hl2,hA2⟩,⟨hl3,hA3⟩,hM1,hO2⟩))
theorem Qfx {F:Nat} {w1:QG} {t1:Qa} {i1:Int} {pv1:Value} {so1:Seg} {A1:Option Addr} {c1:Nat} {res1:Int} {res2:QG}
  (hP1:QL μ pv1 w1 so1) (hl1:t1.Stops.length≤c1∧c1≤maxLen) (hA1:Qr QS μ A1 t1.Stops) (h:Vd F w1 t1 i1=some (res1,res2))
  (hR: ∀(μ':Gh) (sp0:Seg),μ.le μ'→QL μ' pv1 res2 sp0→R (.int .i64 res1) μ' (sp0::L)) :
  Fn Tryz.prog 86 [pv1,.agg #[.int .i64 t1.Vehicle,.slice A1 t1.Stops.length c1],.int .i64 i1] μ (so1::L) R:=by
 unfold Vd at h;refine FnS Tryz.func86 (by kernel_rfl) E Tryz.ntmps86 E E ?_;refine G0 2 E (Al E fun _=>Q1 7 [0] E (Ix h (Qr.rds hA1 L) E E fun _ _ _ _ hr1 hc1 _ h=> ?_));obtain rfl:=hr1;obtain ⟨g2,A2,c2,A3,c3,A4,c4,g3,es1,cn1,A5,c5,ch1,hv1,rfl,⟨hl2,hA3⟩,⟨hl3,hA4⟩,⟨hl4,hA5⟩,hM1,hO1⟩:=hP1;subst hv1;refine Q3 4 [] [] [64] (Z1 (hc1.push.push)) E (In QL.fl 1 4 E E E (G1 14 [1] E ?_));refine Cut h (fun f l o_ f_ μ_ l_=> ∃(node1:Int),(.inl node1)=o_∧Qh ((8,.int .i64 node1)::Qk [0,7] f) f_∧Qd (QC [] 1 l) l_) ?_ ?_
 ·intro _ h2778 h;refine Br h2778 25 E E (fun hc2 h2778=> ?_) (fun hc2 h2778=> ?_)
  ·refine G2 3 [25] [] [] E ?_;refine Cut h2778 (fun f l o_ f_ μ_ l_=> ∃(v1:Bool),v1=o_∧Qh ((37,.bool v1)::Qk [0,2,4,7] f) f_∧Qd (QC [some 1,some 2,some 3,some 0] 4 l) l_) ?_ ?_
   ·intro _ h2779 h2778;refine G0 4 E ?_;refine Br h2779 28 E E (fun hc3 h2779=> ?_) (fun hc3 h2779=> ?_)
    ·refine G2 10 [28] [] [] E ?_;cases h2779;exact Ce E ⟨_,rfl,fE E,sE [some 1,some 2,some 3,some 0] 4 E⟩
    refine G2 10 [] [28] [1] E ?_;cases h2779;exact Ce E ⟨_,rfl,fE E,sE [some 1,some 2,some 3,some 0] 4 E⟩
   rintro _ _ _ _ h2778 hm2779 ⟨v1,rfl,hF2779,hS2779⟩;replace hA1:=hA1.mono hm2779;replace hA3:=hA3.mono hm2779;replace hA4:=hA4.mono hm2779;replace hA5:=hA5.mono hm2779;replace hM1:=hM1.mono hm2779;replace hO1:=hO1.mono hm2779;refine Atn 4 hF2779 hS2779 E E ?_;refine Br h2778 37 E E (fun hc4 h2778=> ?_) (fun hc4 h2778=> ?_)
   ·refine G2 5 [37] [] [] E ?_;cases h2778;replace h:=Ye h;cases h;exact Rt [] E E (Ug [[0,1,2]] 4 (hR _ _ hm2779 ⟨g2,A2,c2,A3,c3,A4,c4,g3,es1,cn1,A5,c5,ch1,rfl,rfl,⟨hl2,hA3⟩,⟨hl3,hA4⟩,⟨hl4,hA5⟩,hM1,hO1⟩))
   obtain ⟨_,hs1,h2778⟩:=Qi h2778;refine G2 8 [] [37] [3] E (Rdo E E (QbU E E E E E E hl1.1 hs1 ?_));have hA6:=Qr.pre hA1 hs1;have hl5:=QdC hl1 hs1;refine Q0 1 E (Cl E ?_);obtain ⟨_,hx2,h2778⟩:=Qi h2778;refine WH hl5 (Qr.rds hA6 _) hx2 ((Q0 1 E ?_));refine Br h2778 43 E E (fun hc5 h2778=> ?_) (fun hc5 h2778=> ?_)
   ·refine G2 5 [43] [] [] E ?_;cases h2778;replace h:=Ye h;cases h;exact Rt [] E E (Ug [[0,1,2]] 4 (hR _ _ hm2779 ⟨g2,A2,c2,A3,c3,A4,c4,g3,es1,cn1,A5,c5,ch1,rfl,rfl,⟨hl2,hA3⟩,⟨hl3,hA4⟩,⟨hl4,hA5⟩,hM1,hO1⟩))
   refine G2 4 [] [43] [] E (Dr _ Qz.refl [(true,0),(true,1),(true,2),(true,3),(true,4),(true,5),(true,6),(true,7),(true,8),(true,9),(true,10),(true,11),(true,12),(false,13),(true,14)] (by kernel_rfl) (G1 10 [0,0] E (Ix h2778 (Qr.rds hA5 L) E E fun _ _ _ _ hr2 hc6 _ h2778=> ?_)));obtain rfl:=hr2;refine Q3 2 [] [] [66] (Z1 (hc6.push.push.push.push)) E (Cl E ?_);obtain ⟨_,hx4,h2778⟩:=Qi h2778;refine Qcr  hx4 (?_);refine ⟨Qz.refl,?_⟩;refine Q0 2 E ?_;refine Br h2778 58 E E (fun hc7 h2778=> ?_) (fun hc7 h2778=> ?_)
   ·refine G2 5 [58] [] [] E ?_;cases h2778;replace h:=Ye h;cases h;exact Rt [] E E (Ug [[0,1,2]] 4 (hR _ _ hm2779 ⟨g2,A2,c2,A3,c3,A4,c4,g3,es1,cn1,A5,c5,ch1,rfl,rfl,⟨hl2,hA3⟩,⟨hl3,hA4⟩,⟨hl4,hA5⟩,hM1,hO1⟩))
   refine G2 9 [] [58] [0] E (Ix h2778 (Qr.rds hA5 L) E E fun _ _ _ _ hr3 hc8 _ h2778=> ?_);obtain rfl:=hr3;refine Q3 4 [] [] [65] (Z1 (hc8.push.push.push.push)) E ?_;cases h2778;exact Ce E ⟨_,rfl,fE E,sE [some 0,some 1,some 2] 4 E⟩
  refine G2 2 [] [25] [] E ?_;cases h2778;exact Ce E ⟨_,rfl,fE E,sE [some 1,some 2,some 3] 4 E⟩
 rintro _ _ μ2778 _ h hm2778 ⟨node1,rfl,hF2778,hS2778⟩;replace h:=YB h;replace hA3:=hA3.mono hm2778;replace hA4:=hA4.mono hm2778;replace hA5:=hA5.mono hm2778;replace hM1:=hM1.mono hm2778;replace hO1:=hO1.mono hm2778;refine Atn 3 hF2778 hS2778 E E (G0 4 E (Cl E ?_));have hP2:QL μ2778 (.pointer (some ⟨g2,0,none⟩)) w1 _:=⟨g2,A2,c2,A3,c3,A4,c4,g3,es1,cn1,A5,c5,ch1,rfl,rfl,⟨hl2,hA3⟩,⟨hl3,hA4⟩,⟨hl4,hA5⟩,hM1,hO1⟩
 refine Fn.gp [[0,1,2]] 3 1 E ?_;obtain ⟨⟨r3,_,r5⟩,hx6,h⟩:=Qi h;replace h:=Qj h;replace h:=Qj h;refine Qdk hP2 hx6 (fun v2 _ hm_1 hP3=> ?_);refine Q0 3 E (Al E fun g4=>Q1 9 [0] E ?_);refine Br h 75 E E (fun hc9 h=> ?_) (fun hc9 h=> ?_)
 ·refine G2 5 [75] [] [] E ?_;cases h;exact Rt [] E E (Ug [[1]] 2 (hR _ _ (hm2778.trans hm_1) hP3))
 obtain ⟨_,A6,c6,A7,c7,A8,c8,g6,es2,cn2,A9,c9,ch2,hv2,rfl,⟨hl6,hA9⟩,⟨hl7,hA10⟩,⟨hl8,hA11⟩,hM2,hO2⟩:=hP3;replace hv2:=QdD hv2;subst hv2;refine G2 3 [] [75] [] E (In QL.fl 1 4 E E E (Drk [1] 3 E [(true,0),(true,1),(true,2),(true,3),(true,4),(false,5)] (by kernel_rfl) (G1 5 [0] E (Cl E (FnS Tryz.func110 (by kernel_rfl) E Tryz.ntmps110 E E (G0 2 E (Al E fun g7=>Q1 10 [2] E (Drk [2] 4 E [(true,0),(true,1),(true,2),(true,4),(true,5),(false,3),(true,6),(true,7),(true,8),(false,9)] (by kernel_rfl) (G1 5 [0] E (So E (VA E (JN E E E (Ex.mk _ (Ws.seg 2 0 E E E) ?_)))))))))))));refine ⟨Kp [0,1,3,4] 5 E,?_⟩;refine Q0 3 E (So E (QY (vs:=[.int .i64 (w64 (r5.place.time+r3.Secs))]) E E E E E E (ST_ (L':=([(g7,.cells #[.int .i64 r3.Secs,.int .i64 r3.Meters] 137 (0,0))]::[(g4,.cells #[.int .i64 r3.Secs,.int .i64 r3.Meters] 137 (0,0))]::[(g2,.cells #[.int .i64 node1,.int .i64 (w64 (r5.place.time+r3.Secs)),.int .i64 r5.place.load,.int .i64 r5.place.meters,.int .i64 r5.p.Road.Nodes,.slice A6 r5.p.Road.Edges.length c6,.slice A7 r5.p.Vehicles.length c7,.slice A8 r5.p.Demands.length c8,.int .i64 r5.p.Unload,.int .i64 r5.p.UnloadSecs,.string r5.v.ID,.int .i64 r5.v.Depot,.int .i64 r5.v.Shift.From,.int .i64 r5.v.Shift.To,.int .i64 r5.v.Grams,.int .i64 r5.v.Kinds,.map (some g6),.slice A9 r5.visits.length c9] 104 (0,0))]::[(g6,.map es2 cn2)]::ch2::L)) 2 0 E E E E ?_)));refine ⟨Kp [0,1,3,4] 5 E,?_⟩;refine Q0 1 E (Drk [2] 4 E [(true,0),(true,1),(true,2),(true,4),(true,5),(false,3),(true,6),(true,7),(true,8),(false,9)] (by kernel_rfl) (G1 5 [0] E (So E (VA E (JN E E E (Ex.mk _ (Ws.seg 2 0 E E E) ?_))))));refine ⟨Kp [0,1,3,4] 5 E,?_⟩;refine Q0 3 E (So E (QY (vs:=[.int .i64 (w64 (r5.place.meters+r3.Meters))]) E E E E E E (ST_ (L':=([(g7,.cells #[.int .i64 r3.Secs,.int .i64 r3.Meters] 137 (0,0))]::[(g4,.cells #[.int .i64 r3.Secs,.int .i64 r3.Meters] 137 (0,0))]::[(g2,.cells #[.int .i64 node1,.int .i64 (w64 (r5.place.time+r3.Secs)),.int .i64 r5.place.load,.int .i64 (w64 (r5.place.meters+r3.Meters)),.int .i64 r5.p.Road.Nodes,.slice A6 r5.p.Road.Edges.length c6,.slice A7 r5.p.Vehicles.length c7,.slice A8 r5.p.Demands.length c8,.int .i64 r5.p.Unload,.int .i64 r5.p.UnloadSecs,.string r5.v.ID,.int .i64 r5.v.Depot,.int .i64 r5.v.Shift.From,.int .i64 r5.v.Shift.To,.int .i64 r5.v.Grams,.int .i64 r5.v.Kinds,.map (some g6),.slice A9 r5.visits.length c9] 104 (0,0))]::[(g6,.map es2 cn2)]::ch2::L)) 2 0 E E E E ?_)));refine ⟨Kp [0,1,3,4] 5 E,?_⟩;refine Q0 1 E (Rt [] E E (Upd.done ?_));refine ⟨Kp [1,3,4] 5 E,?_⟩;refine Q1 16 [2] E ?_;refine Br h 88 E E (fun hc10 h=> ?_) (fun hc10 h=> ?_)
 ·refine G2 2 [88] [] [] E (Cd (WP.drawB (id:=17) (l':=List.replicate 14 true++[false]) Qd2 QU _ Qz.refl 14 [] [(true,0),(true,1),(true,2),(true,3),(true,4),(true,5),(true,6),(true,7),(true,8),(true,9),(true,10),(true,11),(true,12),(true,13)] (by kernel_rfl) (by kernel_rfl) [] E (by kernel_rfl) (by kernel_rfl) (Vx E (QA E (Pt E E (Vq E (Pt E E (WJ (o':=0) E E E E E E (Pt E E (WJ (o':=1) E E E E E E (Pt E E (JN E E E (Ex.mk _ (Ws.seg 2 0 E E E) ?_)))))))))))));refine Pt E E (QA E (Pt E E (Vq E (Pt E E (WJ (o':=4) E E E E E E (Pt E E (WJ (o':=9) E E E E E E (Pt E E (JN E E E (Ex.mk _ (Ws.seg 2 0 E E E) (Pt E E ?_)))))))))));refine Qcz E E (Pt E E (Vq E (Pt E E (WJ (o':=0) E E E E E E (Pt E E (WJ (o':=1) E E E E E E (QP E (Js (Qc6 E (QY (vs:=[.int .i64 (w64 ((w64 (r5.place.time+r3.Secs))+r5.p.UnloadSecs))]) E E E E E E (ST_ (L':=([(g7,.cells #[.int .i64 r3.Secs,.int .i64 r3.Meters] 137 (0,0))]::[(g4,.cells #[.int .i64 r3.Secs,.int .i64 r3.Meters] 137 (0,0))]::[(g2,.cells #[.int .i64 node1,.int .i64 (w64 ((w64 (r5.place.time+r3.Secs))+r5.p.UnloadSecs)),.int .i64 r5.place.load,.int .i64 (w64 (r5.place.meters+r3.Meters)),.int .i64 r5.p.Road.Nodes,.slice A6 r5.p.Road.Edges.length c6,.slice A7 r5.p.Vehicles.length c7,.slice A8 r5.p.Demands.length c8,.int .i64 r5.p.Unload,.int .i64 r5.p.UnloadSecs,.string r5.v.ID,.int .i64 r5.v.Depot,.int .i64 r5.v.Shift.From,.int .i64 r5.v.Shift.To,.int .i64 r5.v.Grams,.int .i64 r5.v.Kinds,.map (some g6),.slice A9 r5.visits.length c9] 104 (0,0))]::[(g6,.map es2 cn2)]::ch2::L)) 2 0 E E E E ?_)))))))))));refine ZF (G1 14 [2] E (Cl E ?_));have hP4:QL v2 (.pointer (some ⟨g2,0,none⟩)) (QG.mk (Z4.mk node1 (w64 ((w64 (r5.place.time+r3.Secs))+r5.p.UnloadSecs)) 0 (w64 (r5.place.meters+r3.Meters))) r5.p r5.v r5.legs r5.visits) _:=⟨g2,A6,c6,A7,c7,A8,c8,g6,es2,cn2,A9,c9,ch2,rfl,rfl,⟨hl6,hA9⟩,⟨hl7,hA10⟩,⟨hl8,hA11⟩,hM2,hO2⟩
  refine Fn.gp [[2,3,4],[0],[1]] 5 3 E ?_;obtain ⟨_,hx7,h⟩:=Qi h;refine Qbf hP4 hx7 (fun _ hP5=>Q0 5 E ?_);cases h;exact Rt [] E E (Ug [[0]] 3 (hR _ _ (hm2778.trans hm_1) hP5))
 refine G2 10 [] [88] [2] E (Ix h (Qr.rds hA11 L) E E fun x4 _ _ _ hr4 hc11 _ h=> ?_);obtain rfl:=hr4;refine Q3 1 [] [] [64] (Z1 (hc11.push.push.push.push.push)) E (Al E fun g8=>Q1 20 [0,0,0] E ?_);refine Br h 129 E E (fun hc12 h=> ?_) (fun hc12 h=> ?_)
 ·refine G2 5 [129] [] [] E ?_;cases h;exact Rt [] E E (Ug [[3,4,5]] 6 (hR _ _ (hm2778.trans hm_1) ⟨g2,A6,c6,A7,c7,A8,c8,g6,es2,cn2,A9,c9,ch2,rfl,rfl,⟨hl6,hA9⟩,⟨hl7,hA10⟩,⟨hl8,hA11⟩,hM2,hO2⟩))
 refine G2 4 [] [129] [] E (Dr _ Qz.refl [(true,0),(true,1),(true,2),(true,3),(true,4),(true,5),(true,6),(true,7),(true,8),(true,9),(true,10),(true,11),(true,12),(true,13)] (by kernel_rfl) (G1 15 [3,0,3] E ?_));refine Br h 143 E E (fun hc13 h=> ?_) (fun hc13 h=> ?_)
 ·refine G2 5 [143] [] [] E ?_;cases h;exact Rt [] E E (Ug [[3,4,5]] 6 (hR _ _ (hm2778.trans hm_1) ⟨g2,A6,c6,A7,c7,A8,c8,g6,es2,cn2,A9,c9,ch2,rfl,rfl,⟨hl6,hA9⟩,⟨hl7,hA10⟩,⟨hl8,hA11⟩,hM2,hO2⟩))
 refine G2 15 [] [143] [0,3] E (Drk [3] 5 E [(true,0),(true,1),(true,2),(true,3),(true,5),(true,6),(false,4),(true,7),(true,8),(true,9),(true,10),(false,11)] (by kernel_rfl) (G1 6 [0] E (So E (VA E (JN E E E (Ex.mk _ (Ws.seg 3 0 E E E) ?_))))));refine ⟨Kp [0,1,2,4,5] 6 E,?_⟩;refine Q0 4 E (So E (QY (vs:=[.int .i64 (w64 (r5.place.load+x4.Grams))]) E E E E E E (ST_ (L':=([(g8,.cells #[.int .i64 x4.Container,.int .i64 x4.Node,.int .i64 x4.Kind,.int .i64 x4.Grams,.int .i64 x4.When.From,.int .i64 x4.When.To,.int .i64 x4.Service] 63 (0,0))]::[(g7,.cells #[.int .i64 r3.Secs,.int .i64 r3.Meters] 137 (0,0))]::[(g4,.cells #[.int .i64 r3.Secs,.int .i64 r3.Meters] 137 (0,0))]::[(g2,.cells #[.int .i64 node1,.int .i64 (w64 ((max (w64 (r5.place.time+r3.Secs)) x4.When.From)+x4.Service)),.int .i64 (w64 (r5.place.load+x4.Grams)),.int .i64 (w64 (r5.place.meters+r3.Meters)),.int .i64 r5.p.Road.Nodes,.slice A6 r5.p.Road.Edges.length c6,.slice A7 r5.p.Vehicles.length c7,.slice A8 r5.p.Demands.length c8,.int .i64 r5.p.Unload,.int .i64 r5.p.UnloadSecs,.string r5.v.ID,.int .i64 r5.v.Depot,.int .i64 r5.v.Shift.From,.int .i64 r5.v.Shift.To,.int .i64 r5.v.Grams,.int .i64 r5.v.Kinds,.map (some g6),.slice A9 r5.visits.length c9] 104 (0,0))]::[(g6,.map es2 cn2)]::ch2::L)) 3 0 E E E E ?_)));refine ⟨Kp [0,1,2,4,5] 6 E,?_⟩;refine Q0 7 E (Cl E ?_);have hP6:QL v2 (.pointer (some ⟨g2,0,none⟩)) (QG.mk (Z4.mk node1 (w64 ((max (w64 (r5.place.time+r3.Secs)) x4.When.From)+x4.Service)) (w64 (r5.place.load+x4.Grams)) (w64 (r5.place.meters+r3.Meters))) r5.p r5.v r5.legs r5.visits) _:=⟨g2,A6,c6,A7,c7,A8,c8,g6,es2,cn2,A9,c9,ch2,rfl,rfl,⟨hl6,hA9⟩,⟨hl7,hA10⟩,⟨hl8,hA11⟩,hM2,hO2⟩
 refine Fn.gp [[3,4,5],[0],[1],[2]] 6 4 E ?_;obtain ⟨_,hx9,h⟩:=Qi h;refine Qbf hP6 hx9 (fun _ hP7=>Q0 5 E ?_);cases h;exact Rt [] E E (Ug [[0]] 4 (hR _ _ (hm2778.trans hm_1) hP7))
theorem Qf9 {F:Nat} {w1:QG} {pv1:Value} {so1:Seg} {res1:Int} {res2:QG}
  (hP1:QL μ pv1 w1 so1) (h:Vw F w1=some (res1,res2))
  (hR: ∀(μ':Gh) (sp0:Seg),μ.le μ'→QL μ' pv1 res2 sp0→R (.int .i64 res1) μ' (sp0::L)) :
  Fn Tryz.prog 87 [pv1] μ (so1::L) R:=by
 unfold Vw at h;refine FnS Tryz.func87 (by kernel_rfl) E Tryz.ntmps87 E E ?_;obtain ⟨g1,A1,c1,A2,c2,A3,c3,g2,es1,cn1,A4,c4,ch1,hv1,rfl,⟨hl1,hA1⟩,⟨hl2,hA2⟩,⟨hl3,hA3⟩,hM1,hO1⟩:=hP1;subst hv1;refine G0 5 E (In QL.fl 0 3 E E E (G1 7 [0] E (Cl E ?_)));have hP2:QL μ (.pointer (some ⟨g1,0,none⟩)) w1 _:=⟨g1,A1,c1,A2,c2,A3,c3,g2,es1,cn1,A4,c4,ch1,rfl,rfl,⟨hl1,hA1⟩,⟨hl2,hA2⟩,⟨hl3,hA3⟩,hM1,hO1⟩
 refine Fn.gp [[0,1,2]] 3 1 E ?_;obtain ⟨⟨r1,_,r3⟩,hx1,h⟩:=Qi h;replace h:=Qj h;replace h:=Qj h;refine Qdk hP2 hx1 (fun v1 _ hm_1 hP3=> ?_);refine Q0 3 E (Al E fun g3=>Q1 9 [0] E ?_);refine Br h 16 E E (fun hc1 h=> ?_) (fun hc1 h=> ?_)
 ·refine G2 5 [16] [] [] E ?_;cases h;exact Rt [] E E (Ug [[1]] 2 (hR _ _ hm_1 hP3))
 obtain ⟨_,A5,c5,A6,c6,A7,c7,g5,es2,cn2,A8,c8,ch2,hv2,rfl,⟨hl4,hA4⟩,⟨hl5,hA5⟩,⟨hl6,hA6⟩,hM2,hO2⟩:=hP3;replace hv2:=QdD hv2;subst hv2;refine G2 4 [] [16] [] E (In QL.fl 1 4 E E E (G1 8 [1] E ?_));refine Br h 22 E E (fun hc2 h=> ?_) (fun hc2 h=> ?_)
 ·refine G2 5 [22] [] [] E ?_;cases h;exact Rt [] E E (Ug [[1,2,3]] 4 (hR _ _ hm_1 ⟨g1,A5,c5,A6,c6,A7,c7,g5,es2,cn2,A8,c8,ch2,rfl,rfl,⟨hl4,hA4⟩,⟨hl5,hA5⟩,⟨hl6,hA6⟩,hM2,hO2⟩))
 refine G2 3 [] [22] [] E (Drk [1] 3 E [(true,0),(true,1),(true,2),(true,3),(true,4),(true,5),(true,6),(true,8),(false,7),(false,9)] (by kernel_rfl) (G1 8 [0] E (So E (VA E (JN E E E (Ex.mk _ (Ws.seg 1 0 E E E) ?_))))));refine ⟨Kp [0,2,3] 4 E,?_⟩;refine Q0 0 E (Cl E (FnS Tryz.func110 (by kernel_rfl) E Tryz.ntmps110 E E (G0 2 E (Al E fun g6=>Q1 10 [2] E (Drk [2] 4 E [(true,0),(true,1),(true,2),(true,4),(true,5),(false,3),(true,6),(true,7),(true,8),(false,9)] (by kernel_rfl) (G1 5 [0] E (So E (VA E (JN E E E (Ex.mk _ (Ws.seg 2 0 E E E) ?_))))))))));refine ⟨Kp [0,1,3,4] 5 E,?_⟩;refine Q0 3 E (So E (QY (vs:=[.int .i64 (w64 (r3.place.time+r1.Secs))]) E E E E E E (ST_ (L':=([(g6,.cells #[.int .i64 r1.Secs,.int .i64 r1.Meters] 137 (0,0))]::[(g3,.cells #[.int .i64 r1.Secs,.int .i64 r1.Meters] 137 (0,0))]::[(g1,.cells #[.int .i64 r3.v.Depot,.int .i64 (w64 (r3.place.time+r1.Secs)),.int .i64 r3.place.load,.int .i64 r3.place.meters,.int .i64 r3.p.Road.Nodes,.slice A5 r3.p.Road.Edges.length c5,.slice A6 r3.p.Vehicles.length c6,.slice A7 r3.p.Demands.length c7,.int .i64 r3.p.Unload,.int .i64 r3.p.UnloadSecs,.string r3.v.ID,.int .i64 r3.v.Depot,.int .i64 r3.v.Shift.From,.int .i64 r3.v.Shift.To,.int .i64 r3.v.Grams,.int .i64 r3.v.Kinds,.map (some g5),.slice A8 r3.visits.length c8] 104 (0,0))]::[(g5,.map es2 cn2)]::ch2::L)) 2 0 E E E E ?_)));refine ⟨Kp [0,1,3,4] 5 E,?_⟩;refine Q0 1 E (Drk [2] 4 E [(true,0),(true,1),(true,2),(true,4),(true,5),(false,3),(true,6),(true,7),(true,8),(false,9)] (by kernel_rfl) (G1 5 [0] E (So E (VA E (JN E E E (Ex.mk _ (Ws.seg 2 0 E E E) ?_))))));refine ⟨Kp [0,1,3,4] 5 E,?_⟩;refine Q0 3 E (So E (QY (vs:=[.int .i64 (w64 (r3.place.meters+r1.Meters))]) E E E E E E (ST_ (L':=([(g6,.cells #[.int .i64 r1.Secs,.int .i64 r1.Meters] 137 (0,0))]::[(g3,.cells #[.int .i64 r1.Secs,.int .i64 r1.Meters] 137 (0,0))]::[(g1,.cells #[.int .i64 r3.v.Depot,.int .i64 (w64 (r3.place.time+r1.Secs)),.int .i64 r3.place.load,.int .i64 (w64 (r3.place.meters+r1.Meters)),.int .i64 r3.p.Road.Nodes,.slice A5 r3.p.Road.Edges.length c5,.slice A6 r3.p.Vehicles.length c6,.slice A7 r3.p.Demands.length c7,.int .i64 r3.p.Unload,.int .i64 r3.p.UnloadSecs,.string r3.v.ID,.int .i64 r3.v.Depot,.int .i64 r3.v.Shift.From,.int .i64 r3.v.Shift.To,.int .i64 r3.v.Grams,.int .i64 r3.v.Kinds,.map (some g5),.slice A8 r3.visits.length c8] 104 (0,0))]::[(g5,.map es2 cn2)]::ch2::L)) 2 0 E E E E ?_)));refine ⟨Kp [0,1,3,4] 5 E,?_⟩;refine Q0 1 E (Rt [] E E (Upd.done ?_));refine ⟨Kp [1,3,4] 5 E,?_⟩;refine Q0 3 E (Dr _ Qz.refl [(true,0),(true,1),(true,2),(true,3),(true,4),(true,5),(true,6),(true,7),(true,8),(true,9),(true,10),(true,11)] (by kernel_rfl) (G1 13 [2,2] E ?_));refine Br h 44 E E (fun hc3 h=> ?_) (fun hc3 h=> ?_)
 ·refine G2 5 [44] [] [] E ?_;cases h;exact Rt [] E E (Ug [[2,3,4]] 5 (hR _ _ hm_1 ⟨g1,A5,c5,A6,c6,A7,c7,g5,es2,cn2,A8,c8,ch2,rfl,rfl,⟨hl4,hA4⟩,⟨hl5,hA5⟩,⟨hl6,hA6⟩,hM2,hO2⟩))
 refine G2 3 [] [44] [] E (Cd (WP.drawB (id:=9) (l':=List.replicate 11 true++[false]) Qd2 QU _ Qz.refl 11 [] [(true,0),(true,1),(true,2),(true,3),(true,4),(true,5),(true,6),(true,7),(true,8),(true,9),(true,10)] (by kernel_rfl) (by kernel_rfl) [] E (by kernel_rfl) (by kernel_rfl) (Vx E (QA E (Pt E E (QA E (Pt E E (Vq E (Pt E E (WJ (o':=0) E E E E E E (Pt E E (WJ (o':=1) E E E E E E (QP E ?_)))))))))))));refine Vx E (JN E E E (Ex.mk _ (Ws.seg 2 0 E E E) (Pt E E (QA E (Pt E E (Vq E (Pt E E (WJ (o':=0) E E E E E E (Pt E E (WJ (o':=1) E E E E E E (Pt E E (JN E E E ?_))))))))))));refine Ex.mk _ (Ws.seg 2 0 E E E) (QP E (Js (Qc6 E (QaC (all:=[.pointer (some ⟨g1,0,none⟩),.int .i64 (-2),.int .i64 (w64 (r3.place.time+r1.Secs)),.int .i64 (w64 (r3.place.time+r1.Secs))]) E E E ?_))));have hP4:QL v1 (.pointer (some ⟨g1,0,none⟩)) (QG.mk (Z4.mk r3.v.Depot (w64 (r3.place.time+r1.Secs)) r3.place.load (w64 (r3.place.meters+r1.Meters))) r3.p r3.v r3.legs r3.visits) _:=⟨g1,A5,c5,A6,c6,A7,c7,g5,es2,cn2,A8,c8,ch2,rfl,rfl,⟨hl4,hA4⟩,⟨hl5,hA5⟩,⟨hl6,hA6⟩,hM2,hO2⟩
 refine Fn.gp [[2,3,4],[0],[1]] 5 3 E ?_;obtain ⟨_,hx2,h⟩:=Qi h;refine Qbf hP4 hx2 (fun _ hP5=>QP E (G0 4 E ?_));cases h;exact Rt [] E E (Ug [[0]] 3 (hR _ _ hm_1 hP5))
theorem Qco {F:Nat} {p1:Qe} {t1:Qa} {A1:Option Addr} {c1:Nat} {A2:Option Addr} {c2:Nat} {A3:Option Addr} {c3:Nat} {A4:Option Addr} {c4:Nat} {res1:(Option QG)} {res2:Int} {res3:Int}
  (hl1:p1.Road.Edges.length≤c1∧c1≤maxLen) (hA1:Qr QF μ A1 p1.Road.Edges) (hl2:p1.Vehicles.length≤c2∧c2≤maxLen) (hA2:Qr Qy μ A2 p1.Vehicles) (hl3:p1.Demands.length≤c3∧c3≤maxLen) (hA3:Qr QB μ A3 p1.Demands) (hl4:t1.Stops.length≤c4∧c4≤maxLen) (hA4:Qr QS μ A4 t1.Stops) (h:Vz F p1 t1=some (res1,res2,res3))
  (hR: ∀(μ':Gh) (v0:Value) (so0:Seg),μ.le μ'→QfA QL μ' v0 res1 so0→R (.tuple #[v0,.int .i64 res2,.int .i64 res3]) μ' (so0::L)) :
  Fn Tryz.prog 54 [.agg #[.int .i64 p1.Road.Nodes,.slice A1 p1.Road.Edges.length c1,.slice A2 p1.Vehicles.length c2,.slice A3 p1.Demands.length c3,.int .i64 p1.Unload,.int .i64 p1.UnloadSecs],.agg #[.int .i64 t1.Vehicle,.slice A4 t1.Stops.length c4]] μ (L) R:=by
 unfold Vz at h;refine FnS Tryz.func54 (by kernel_rfl) E Tryz.ntmps54 E E ?_;refine G0 2 E (Al E fun _=>Q0 0 E (Al E fun g2=>Q0 7 E ?_));refine Cut h (fun f l o_ f_ μ_ l_=> ∃(v1:Bool),v1=o_∧Qh ((21,.bool v1)::Qk [2,3] f) f_∧Qd (QC [some 1,some 0] 2 l) l_) ?_ ?_
 ·intro _ h4749 h;refine G1 5 [0] E ?_;refine Br h4749 14 E E (fun hc1 h4749=> ?_) (fun hc1 h4749=> ?_)
  ·refine G2 8 [14] [] [] E ?_;cases h4749;exact Ce E ⟨_,rfl,fE E,sE [some 1,some 0] 2 E⟩
  refine G2 8 [] [14] [0,1] E ?_;cases h4749;exact Ce E ⟨_,rfl,fE E,sE [some 1,some 0] 2 E⟩
 rintro _ _ μ4749 _ h hm4749 ⟨v1,rfl,hF4749,hS4749⟩;replace hA1:=hA1.mono hm4749;replace hA2:=hA2.mono hm4749;replace hA3:=hA3.mono hm4749;replace hA4:=hA4.mono hm4749;refine Atn 2 hF4749 hS4749 E E ?_;refine Br h 21 E E (fun hc2 h=> ?_) (fun hc2 h=> ?_)
 ·refine G2 7 [21] [] [] E ?_;cases h;exact Rt [] E E (Ug [[]] 2 (hR _ (.pointer none) [] hm4749 QfA.nil))
 refine G2 10 [] [21] [1] E ?_;refine Br h 25 E E (fun hc3 h=> ?_) (fun hc3 h=> ?_)
 ·refine G2 7 [25] [] [] E ?_;cases h;exact Rt [] E E (Ug [[]] 2 (hR _ (.pointer none) [] hm4749 QfA.nil))
 refine G2 8 [] [25] [0,1] E (Ix h (Qr.rds hA2 L) E E fun x1 _ _ _ hr1 hc4 _ h=> ?_);obtain rfl:=hr1;refine Q3 1 [] [] [64] (Z1 (hc4.push.push)) E (Al E fun _=>Q1 12 [0,0,0,1,0] E (So E (Qmi (fun g4=>Q0 1 E (Al E fun g5=> ?_)))));have hP1:QL μ4749 (.pointer (some ⟨g5,0,none⟩)) (QG.mk (Z4.mk x1.Depot x1.Shift.From 0 0) p1 x1 [] []) _:=⟨g5,A1,c1,A2,c2,A3,c3,g4, #[],0,none,0,[],rfl,rfl,⟨hl1,hA1⟩,⟨hl2,hA2⟩,⟨hl3,hA3⟩,(Qe9.nil (r:=Yl)),Own.nil⟩
 refine Q0 10 E (Gp [[0,1,99],[2],[3],[4]] 5 4 E E ?_);refine Cut h (fun f l o_ f_ μ_ l_=> ∃(q2:QG) (e2:Int) (f_at2:Int) (so3:Seg),(q2,e2,f_at2)=o_∧Qh ((9,.int .i64 e2)::(10,.int .i64 f_at2)::Qk [8] f) f_∧Qd (so3::QC [] 4 l) l_∧QL μ_ (.pointer (some ⟨g5,0,none⟩)) q2 so3) ?_ ?_
 ·intro _ h4766 h;refine Lp h4766 (fun f l (j_:QG×Int×Int) f_ μ_ l_=>YG j_ fun q1 j_=>YG j_ fun e1 f_at1=> ∃(so1:Seg),Qh ((9,.int .i64 e1)::(10,.int .i64 f_at1)::Qk [3,8] f) f_∧Qd ([(g2,.cells #[.int .i64 t1.Vehicle,.slice A4 t1.Stops.length c4] 51 (0,0))]::so1::QC [] 4 l) l_∧QL μ_ (.pointer (some ⟨g5,0,none⟩)) q1 so1) ⟨((g5,Obj.cells #[.int .i64 x1.Depot,.int .i64 x1.Shift.From,.int .i64 0,.int .i64 0,.int .i64 p1.Road.Nodes,.slice A1 p1.Road.Edges.length c1,.slice A2 p1.Vehicles.length c2,.slice A3 p1.Demands.length c3,.int .i64 p1.Unload,.int .i64 p1.UnloadSecs,.string x1.ID,.int .i64 x1.Depot,.int .i64 x1.Shift.From,.int .i64 x1.Shift.To,.int .i64 x1.Grams,.int .i64 x1.Kinds,.map (some g4),.slice none 0 0] 104 (0,0))::((g4,Obj.map #[] 0)::[])),fE E,sE [some 3,some 0] 4 E,(hP1)⟩ ?_;rintro ⟨q1,e1,f_at1⟩ _ _ _ _ hm4779 ⟨so1,hF4779,hS4779,hP2⟩ hb4779 hq4779;unfold JD at hb4779;replace hb4779:=Qj hb4779;replace hb4779:=Qj hb4779;replace hA4:=hA4.mono hm4779;refine Atn 2 hF4779 hS4779 E E (G1 9 [0] E ?_);refine Br hb4779 47 E E (fun hc5 hb4779=> ?_) (fun hc5 hb4779=> ?_)
  ·refine G2 9 [47] [] [0] E (Cl E (Fn.gp [[1],[0]] 2 2 E ?_));obtain ⟨⟨_,_⟩,hx2,hb4779⟩:=Qi hb4779;replace hb4779:=Qj hb4779;refine Qfx hP2 hl4 hA4 hx2 (fun _ so2 hm_1 hP3=> ?_);replace hP2:=hP2.mono hm_1;refine Q0 7 E ?_;refine Br hb4779 53 E E (fun hc6 hb4779=> ?_) (fun hc6 hb4779=> ?_)
   ·refine G2 2 [53] [] [] E ?_;cases hb4779;have hq_:=hq4779 _ E;subst hq_;exact Ce E ⟨_,_,_,so2,rfl,fE E,sE [some 0] 2 E,(hP3)⟩
   refine G2 8 [] [53] [] E ?_;cases hb4779;exact Ce E ⟨_,rfl,so2,fE E,sE [some 1,some 0] 2 E,(hP3)⟩
  refine G2 2 [] [47] [] E ?_;cases hb4779;have hq_:=hq4779 _ E;subst hq_;exact Ce E ⟨_,_,_,so1,rfl,fE E,sE [some 1] 2 E,(hP2)⟩
 rintro _ _ _ _ h hm4766 ⟨q2,e2,f_at2,so3,rfl,hF4766,hS4766,hP4⟩;replace h:=Qj h;replace h:=Qj h;refine Atn 1 hF4766 hS4766 E E (G0 6 E ?_);refine Cut h (fun f l o_ f_ μ_ l_=> ∃(q3:QG) (e3:Int) (so5:Seg),(q3,e3)=o_∧Qh ((9,.int .i64 e3)::Qk [8,10] f) f_∧Qd (so5::QC [] 1 l) l_∧QL μ_ (.pointer (some ⟨g5,0,none⟩)) q3 so5) ?_ ?_
 ·intro _ h4794 h;refine Br h4794 57 E E (fun hc7 h4794=> ?_) (fun hc7 h4794=> ?_)
  ·refine G2 3 [57] [] [] E (Cl E ?_);obtain ⟨⟨_,_⟩,hx3,h4794⟩:=Qi h4794;replace h4794:=Qj h4794;refine Qf9 hP4 hx3 (fun _ so4 hm_2 hP5=> ?_);replace hP4:=hP4.mono hm_2;refine Q0 2 E ?_;cases h4794;exact Ce E ⟨_,_,so4,rfl,fE E,sE [some 0] 1 E,(hP5)⟩
  refine G2 2 [] [57] [] E ?_;cases h4794;exact Ce E ⟨_,_,so3,rfl,fE E,sE [some 0] 1 E,(hP4)⟩
 rintro _ _ _ _ h hm4794 ⟨q3,e3,so5,rfl,hF4794,hS4794,hP6⟩;replace h:=Qj h;refine Atn 1 hF4794 hS4794 E E (G0 6 E ?_);refine Br h 61 E E (fun hc8 h=> ?_) (fun hc8 h=> ?_)
 ·refine G2 9 [61] [] [] E ?_;cases h;exact Rt [] E E (Ug [[]] 1 (hR _ (.pointer none) [] (hm4749.trans (hm4766.trans hm4794)) QfA.nil))
 refine G2 9 [] [61] [] E ?_;cases h;exact Rt [] E E (Ug [[0]] 1 (hR _ (.pointer (some ⟨g5,0,none⟩)) _ (hm4749.trans (hm4766.trans hm4794)) hP6))
theorem Qj6 {F:Nat} {p1:Qe} {t1:Qa} {A1:Option Addr} {c1:Nat} {A2:Option Addr} {c2:Nat} {A3:Option Addr} {c3:Nat} {A4:Option Addr} {c4:Nat} {res1:Int} {res2:Int}
  (hl1:p1.Road.Edges.length≤c1∧c1≤maxLen) (hA1:Qr QF μ A1 p1.Road.Edges) (hl2:p1.Vehicles.length≤c2∧c2≤maxLen) (hA2:Qr Qy μ A2 p1.Vehicles) (hl3:p1.Demands.length≤c3∧c3≤maxLen) (hA3:Qr QB μ A3 p1.Demands) (hl4:t1.Stops.length≤c4∧c4≤maxLen) (hA4:Qr QS μ A4 t1.Stops) (h:Qdj F p1 t1=some (res1,res2))
  (hR: ∀(μ':Gh) ,μ.le μ'→R (.tuple #[.int .i64 res1,.int .i64 res2]) μ' (L)) :
  Fn Tryz.prog 83 [.agg #[.int .i64 p1.Road.Nodes,.slice A1 p1.Road.Edges.length c1,.slice A2 p1.Vehicles.length c2,.slice A3 p1.Demands.length c3,.int .i64 p1.Unload,.int .i64 p1.UnloadSecs],.agg #[.int .i64 t1.Vehicle,.slice A4 t1.Stops.length c4]] μ (L) R:=by
 unfold Qdj at h;refine FnS Tryz.func83 (by kernel_rfl) E Tryz.ntmps83 E E ?_;refine G0 2 E (Al E fun _=>Q0 0 E (Al E fun _=>Q1 7 [1] E (Cl E ?_)));obtain ⟨_,hx1,h⟩:=Qi h;refine Qaz hl1 hA1 hl2 hA2 hl3 hA3 hx1 (fun _ hm_1=> ?_);replace hA1:=hA1.mono hm_1;replace hA2:=hA2.mono hm_1;replace hA3:=hA3.mono hm_1;replace hA4:=hA4.mono hm_1;refine Q0 7 E ?_;refine Br h 13 E E (fun hc1 h=> ?_) (fun hc1 h=> ?_)
 ·refine G2 7 [13] [] [] E ?_;cases h;exact Rt [] E E (Ug [] 2 (hR _ hm_1))
 refine G2 6 [] [13] [1,0] E (Cl E ?_);obtain ⟨⟨_,_,_⟩,hx2,h⟩:=Qi h;replace h:=Qj h;replace h:=Qj h;refine Qco hl1 hA1 hl2 hA2 hl3 hA3 hl4 hA4 hx2 (fun _ _ _ hm_2 hP1=> ?_);refine Q0 14 E ?_;refine Br h 23 E E (fun hc2 h=> ?_) (fun hc2 h=> ?_)
 ·refine G2 7 [23] [] [] E ?_;cases h;exact Rt [] E E (Ug [] 3 (hR _ (hm_1.trans hm_2)))
 obtain ⟨_,hm_3,h⟩:=Qi h;have hP2:=QfA.get hP1 hm_3;obtain ⟨_,_,_,_,_,_,_,_,_,_,_,_,_,hv1,rfl,⟨_,_⟩,⟨_,_⟩,⟨_,_⟩,_,_⟩:=hP2;subst hv1;refine G2 3 [] [23] [] E (In QL.fl 0 5 E E E (G1 9 [0] E ?_));cases h;exact Rt [] E E (Ug [] 5 (hR _ (hm_1.trans hm_2)))
theorem Vn  {a1:Qc} {b1:Qc} {A1:Option Addr} {c1:Nat} {A2:Option Addr} {c2:Nat} {res1:Int}
  (hl1:a1.tour.Stops.length≤c1∧c1≤maxLen) (hA1:Qr QS μ A1 a1.tour.Stops) (hl2:b1.tour.Stops.length≤c2∧c2≤maxLen) (hA2:Qr QS μ A2 b1.tour.Stops) (h:Yc a1 b1=some res1)
  (hR:R (.int .i64 res1) μ (L)) :
  Fn Tryz.prog 85 [.agg #[.int .i64 a1.tour.Vehicle,.slice A1 a1.tour.Stops.length c1,.int .i64 a1.cost],.agg #[.int .i64 b1.tour.Vehicle,.slice A2 b1.tour.Stops.length c2,.int .i64 b1.cost]] μ (L) R:=by
 unfold Yc at h;refine FnS Tryz.func85 (by kernel_rfl) E Tryz.ntmps85 E E ?_;refine G0 2 E (Al E fun _=>Q0 0 E (Al E fun _=>Q1 11 [1,0] E ?_));cases h;exact Rt [] E E (Ug [] 2 hR)
theorem JK {F:Nat} {data1:(List Qc)} {a1:Int} {b1:Int} {A1:Option Addr} {c1:Nat} {ch1:Seg} {n1:Nat} {res1:(List Qc)}
  (hn1:n1=data1.length) (hO1:Own Qm 96 μ (.slice A1 n1 c1) data1 ch1) (h:YH F data1 a1 b1=some res1)
  (hR: ∀(sp0:Seg),Own Qm 96 μ (.slice A1 n1 c1) res1 sp0→n1=res1.length→R (.tuple #[]) μ (sp0::L)) :
  Fn Tryz.prog 122 [.slice A1 n1 c1,.int .i64 a1,.int .i64 b1,.func (.func 85) #[] #[]] μ (ch1::L) R:=by
 unfold YH at h;subst hn1;have hn1:data1.length=data1.length:=rfl;refine FnS Tryz.func122 (by kernel_rfl) E Tryz.ntmps122 E E ?_;refine G0 6 E ?_;refine Cut h (fun f l o_ f_ μ_ l_=> ∃(data6:(List Qc)) (ch8:Seg),data6=o_∧Qh ([]) f_∧Qd (ch8::QC [] 1 l) l_∧data1.length=data6.length∧Own Qm 96 μ_ (.slice A1 data1.length c1) data6 ch8∧μ=μ_) ?_ ?_
 ·intro _ h5569 h;refine Lp h5569 (fun f l (j_:(List Qc)×Int) f_ μ_ l_=>YG j_ fun data2 i1=> ∃(ch2:Seg),Qh ((8,.int .i64 i1)::Qk [0,1,2,3] f) f_∧Qd (ch2::QC [] 1 l) l_∧data1.length=data2.length∧Own Qm 96 μ_ (.slice A1 data1.length c1) data2 ch2∧μ=μ_) ⟨ch1,fE E,sE [some 0] 1 E,(hn1),(hO1),E⟩ ?_;rintro ⟨data2,i1⟩ _ _ _ _ _ ⟨ch2,hF5908,hS5908,hn2,hO2,rfl⟩ hb5908 hq5908;unfold JM at hb5908;replace hb5908:=Qj hb5908;refine Atn 1 hF5908 hS5908 E E (G0 7 E ?_);refine Br hb5908 14 E E (fun hc1 hb5908=> ?_) (fun hc1 hb5908=> ?_)
  ·refine G2 3 [14] [] [] E ?_;refine Cut hb5908 (fun f l o_ f_ μ_ l_=> ∃(data5:(List Qc)) (ch7:Seg),data5=o_∧Qh (Qk [0,1,2,3,8] f) f_∧Qd (ch7::QC [] 1 l) l_∧data1.length=data5.length∧Own Qm 96 μ_ (.slice A1 data1.length c1) data5 ch7∧μ=μ_) ?_ ?_
   ·intro _ h5910 hb5908;refine G0 6 E ?_;refine Cut h5910 (fun f l o_ f_ μ_ l_=> ∃(data4:(List Qc)) (ch6:Seg),data4=o_∧Qh (Qk [0,1,2,3,8] f) f_∧Qd (ch6::QC [] 1 l) l_∧data1.length=data4.length∧Own Qm 96 μ_ (.slice A1 data1.length c1) data4 ch6∧μ=μ_) ?_ ?_
    ·intro _ h5911 h5910;refine Lp h5911 (fun f l (j_:(List Qc)×Int) f_ μ_ l_=>YG j_ fun data3 j1=> ∃(ch3:Seg),Qh ((9,.int .i64 j1)::Qk [0,1,2,3,8] f) f_∧Qd (ch3::QC [] 1 l) l_∧data1.length=data3.length∧Own Qm 96 μ_ (.slice A1 data1.length c1) data3 ch3∧μ=μ_) ⟨ch2,fE E,sE [some 0] 1 E,(hn2),(hO2),E⟩ ?_;rintro ⟨data3,j1⟩ _ _ _ _ _ ⟨ch3,hF6078,hS6078,hn3,hO3,rfl⟩ hb6078 hq6078;unfold JL at hb6078;replace hb6078:=Qj hb6078;refine Atn 1 hF6078 hS6078 E E (G0 2 E ?_);refine Cut hb6078 (fun f l o_ f_ μ_ l_=> ∃(v1:Bool),v1=o_∧Qh ((34,.bool v1)::Qk [0,1,2,3,8,9] f) f_∧Qd l l_∧μ=μ_) ?_ ?_
     ·intro _ h6084 hb6078;refine Dr _ Qz.refl [(true,0),(true,1),(true,2),(true,3),(true,4),(true,5),(true,6),(true,7),(true,8),(true,9),(true,10),(true,11),(true,12),(true,13),(false,14),(true,15),(true,16)] (by kernel_rfl) (G0 4 E ?_);refine Br h6084 21 E E (fun hc2 h6084=> ?_) (fun hc2 h6084=> ?_)
      ·refine G2 3 [21] [] [] E (IxN hn3 h6084 (Own.rds (L:=(ch3::L)) hO3 0 E) E E fun _ _ _ _ hr1 hc3 _ h6084=> ?_);obtain ⟨_,_,rfl,hl1,hA2⟩:=hr1;refine Q3 4 [21] [] [64] (Z1 hc3) E (IxN hn3 h6084 (Own.rds (L:=(ch3::L)) hO3 0 E) E E fun _ _ _ _ hr2 hc4 _ h6084=> ?_);obtain ⟨_,_,rfl,hl2,hA4⟩:=hr2;refine Q3 1 [21] [] [64] (Z1 hc4) E (Cl E ?_);obtain ⟨_,hx3,h6084⟩:=Qi h6084;refine Vn hl1 hA2 hl2 hA4 hx3 (?_);refine ⟨Qz.refl,?_⟩;refine Q2 3 [21] [] [] E ?_;cases h6084;exact Ce E ⟨_,rfl,fE E,sE [some 0] 1 E,rfl⟩
      refine G2 14 [] [21] [] E ?_;cases h6084;exact Ce E ⟨_,rfl,fE E,sE [some 0] 1 E,rfl⟩
     rintro _ _ _ _ hb6078 _ ⟨v1,rfl,hF6084,hS6084,rfl⟩;refine Atn 1 hF6084 hS6084 E E ?_;refine Br hb6078 34 E E (fun hc5 hb6078=> ?_) (fun hc5 hb6078=> ?_)
     ·refine G2 4 [34] [] [] E (Cd (WP.drawB (id:=6) (l':=List.replicate 15 true++[false,false,false]) Qd2 QU _ Qz.refl 15 [] [(true,0),(true,1),(true,2),(true,3),(true,4),(true,5),(true,6),(true,7),(true,8),(true,9),(true,10),(true,11),(true,12),(true,13),(true,14)] (by kernel_rfl) (by kernel_rfl) [16,17] E (by kernel_rfl) (by kernel_rfl) (Vx E (QA E (Pt E E (QA E (Pt E E (QA E (Pt E E (QA E (Pt E E (QfC E E (QP E ?_)))))))))))));refine Vx E (QA E (Pt E E (QA E (Pt E E (QfC E E (Pt E E ?_))))));obtain ⟨x3,hx4,hb6078⟩:=Qi hb6078;obtain ⟨_,_,hA5,hr3,_,hc6⟩:=Rds.getI (Own.rds (L:=(ch3::L)) hO3 0 rfl) hx4;obtain ⟨A4,c4,rfl,hl3,hA6⟩:=hr3;refine Jq E E E E E E ⟨(QE hx4).1,V3 hn3 (QE hx4).2.1⟩ hA5 (Pt E E (Z3 E E E E (Ex.mk [.int .i64 x3.tour.Vehicle,.slice A4 x3.tour.Stops.length c4,.int .i64 x3.cost] ⟨rfl,hc6⟩ (Pt E E (QA E (Pt E E (QA E (Pt E E ?_))))))));obtain ⟨x4,hx5,hb6078⟩:=Qi hb6078;obtain ⟨_,_,hA7,hr4,_,hc7⟩:=Rds.getI (Own.rds (L:=(ch3::L)) hO3 0 rfl) hx5;obtain ⟨A5,c5,rfl,hl4,hA8⟩:=hr4;refine Jq E E E E E E ⟨(QE hx5).1,V3 hn3 (QE hx5).2.1⟩ hA7 (Pt E E (Z3 E E E E (Ex.mk [.int .i64 x4.tour.Vehicle,.slice A5 x4.tour.Stops.length c5,.int .i64 x4.cost] ⟨rfl,hc7⟩ (Pt E E ?_))));obtain ⟨_,hx6,hb6078⟩:=Qi hb6078;obtain ⟨a6,_,hA9,hr5,_,_⟩:=Rds.getI (Own.rds (L:=(ch3::L)) hO3 0 rfl) hx6;obtain ⟨_,_,rfl,_,_⟩:=hr5;refine Jq E E E E E E ⟨(QE hx6).1,V3 hn3 (QE hx6).2.1⟩ hA9 (QP E (Js (Qd1 E (QY (vs:=[.int .i64 x3.tour.Vehicle,.slice A4 x3.tour.Stops.length c4,.int .i64 x3.cost]) E E E E E E ?_))))
      rw[←Addr.add_zero' ((a6.add (j1.toNat*3)))]
      refine Own.store (μ:=μ) (r:=Qm) (x':=x3) (o:=0) (sz:=3) 0 rfl hO3 hA9 hx6 rfl rfl (by rintro _ ⟨A7,c7,rfl,hl6,hA11⟩;exact ⟨A4,c4,rfl,hl3,hA6⟩) fun ch4 hO4=> ?_;have hn4:=hn3.trans (QX data3 j1 x3).symm;refine ZF (Qd1 E ?_);obtain ⟨_,hx7,hb6078⟩:=Qi hb6078;obtain ⟨a7,_,hA12,hr6,_,_⟩:=Rds.getI (Own.rds (L:=(ch4::L)) hO4 0 rfl) hx7;obtain ⟨_,_,rfl,_,_⟩:=hr6;refine VA E (Jq E E E E E E ⟨(QE hx7).1,V3 hn4 (QE hx7).2.1⟩ hA12 (QP E (Qc6 E (QY (vs:=[.int .i64 x4.tour.Vehicle,.slice A5 x4.tour.Stops.length c5,.int .i64 x4.cost]) E E E E E E ?_))))
      rw[←Addr.add_zero' ((a7.add ((w64 (j1-1)).toNat*3)))]
      refine Own.store (μ:=μ) (r:=Qm) (x':=x4) (o:=0) (sz:=3) 0 rfl hO4 hA12 hx7 rfl rfl (by rintro _ ⟨A9,c9,rfl,hl8,hA14⟩;exact ⟨A5,c5,rfl,hl4,hA8⟩) fun ch5 hO5=> ?_;have hn5:=hn4.trans (QX (Yi data3 j1 x3) (w64 (j1-1)) x4).symm;refine ZF (G0 6 E ?_);cases hb6078;exact Ce E ⟨_,rfl,ch5,fE E,sE [some 0] 1 E,(hn5),(hO5),rfl⟩
     refine G2 2 [] [34] [] E ?_;cases hb6078;have hq_:=hq6078 _ E;subst hq_;exact Ce E ⟨_,ch3,rfl,fE E,sE [some 0] 1 E,(hn3),(hO3),rfl⟩
    rintro _ _ _ _ h5910 _ ⟨data4,ch6,rfl,hF5911,hS5911,hn6,hO6,rfl⟩;refine G0 1 E ?_;cases h5910;exact Ce E ⟨_,ch6,rfl,hF5911.tr E,hS5911.tr (sE [some 0] 1 E),(hn6),(hO6),rfl⟩
   rintro _ _ _ _ hb5908 _ ⟨data5,ch7,rfl,hF5910,hS5910,hn7,hO7,rfl⟩;refine Atn 1 hF5910 hS5910 E E (G0 5 E ?_);cases hb5908;exact Ce E ⟨_,rfl,ch7,fE E,sE [some 0] 1 E,(hn7),(hO7),rfl⟩
  refine G2 2 [] [14] [] E ?_;cases hb5908;have hq_:=hq5908 _ E;subst hq_;exact Ce E ⟨_,ch2,rfl,fE E,sE [some 0] 1 E,(hn2),(hO2),rfl⟩
 rintro _ _ _ _ h _ ⟨data6,ch8,rfl,hF5569,hS5569,hn8,hO8,rfl⟩;refine Atn 1 hF5569 hS5569 E E ?_;cases h;exact Rt [] E E (Ug [[0]] 1 (hR _ hO8 hn8))
theorem ZR  {data1:(List Qc)} {a1:Int} {b1:Int} {n2:Int} {A1:Option Addr} {c1:Nat} {ch1:Seg} {n1:Nat} {res1:(List Qc)}
  (hn1:n1=data1.length) (hO1:Own Qm 96 μ (.slice A1 n1 c1) data1 ch1) (h:Yv data1 a1 b1 n2=some res1)
  (hR: ∀(sp0:Seg),Own Qm 96 μ (.slice A1 n1 c1) res1 sp0→n1=res1.length→R (.tuple #[]) μ (sp0::L)) :
  Fn Tryz.prog 150 [.slice A1 n1 c1,.int .i64 a1,.int .i64 b1,.int .i64 n2,.func (.func 85) #[] #[]] μ (ch1::L) R:=by
 unfold Yv at h;subst hn1;have hn1:data1.length=data1.length:=rfl;refine FnS Tryz.func150 (by kernel_rfl) E Tryz.ntmps150 E E ?_;refine G0 4 E ?_;refine Cut h (fun f l o_ f_ μ_ l_=> ∃(data3:(List Qc)) (ch5:Seg),data3=o_∧Qh ([]) f_∧Qd (ch5::QC [] 1 l) l_∧data1.length=data3.length∧Own Qm 96 μ_ (.slice A1 data1.length c1) data3 ch5∧μ=μ_) ?_ ?_
 ·intro _ h7317 h;refine Lp h7317 (fun f l (j_:(List Qc)×Int) f_ μ_ l_=>YG j_ fun data2 i1=> ∃(ch2:Seg),Qh ((10,.int .i64 i1)::Qk [0,1,2,3] f) f_∧Qd (ch2::QC [] 1 l) l_∧data1.length=data2.length∧Own Qm 96 μ_ (.slice A1 data1.length c1) data2 ch2∧μ=μ_) ⟨ch1,fE E,sE [some 0] 1 E,(hn1),(hO1),E⟩ ?_;rintro ⟨data2,i1⟩ _ _ _ _ _ ⟨ch2,hF7471,hS7471,hn2,hO2,rfl⟩ hb7471 hq7471;unfold Wm at hb7471;replace hb7471:=Qj hb7471;refine Atn 1 hF7471 hS7471 E E (G0 7 E ?_);refine Br hb7471 13 E E (fun hc1 hb7471=> ?_) (fun hc1 hb7471=> ?_)
  ·refine G2 4 [13] [] [] E (Cd (WP.drawB (id:=3) (l':=List.replicate 21 true++[false,false,false]) Qd2 QU _ Qz.refl 21 [] [(true,0),(true,1),(true,2),(true,3),(true,4),(true,5),(true,6),(true,7),(true,8),(true,9),(true,10),(true,11),(true,12),(true,13),(true,14),(true,15),(true,16),(true,17),(true,18),(true,19),(true,20)] (by kernel_rfl) (by kernel_rfl) [22,23] E (by kernel_rfl) (by kernel_rfl) (Vx E (QA E (Pt E E (QA E (Pt E E (QA E (Pt E E (Qcz E E (Pt E E (QA E (QP E ?_)))))))))))));refine Vx E (QA E (Pt E E (QA E (Pt E E (Qcz E E (Pt E E (QA E (Pt E E (QA E (Pt E E (QA E (QP E ?_))))))))))));refine Vx E (Qcz E E (Pt E E ?_));obtain ⟨x1,hx1,hb7471⟩:=Qi hb7471;obtain ⟨_,_,hA1,hr1,_,hc2⟩:=Rds.getI (Own.rds (L:=(ch2::L)) hO2 0 rfl) hx1;obtain ⟨A2,c2,rfl,hl1,hA2⟩:=hr1;refine Jq E E E E E E ⟨(QE hx1).1,V3 hn2 (QE hx1).2.1⟩ hA1 (Pt E E (Z3 E E E E (Ex.mk [.int .i64 x1.tour.Vehicle,.slice A2 x1.tour.Stops.length c2,.int .i64 x1.cost] ⟨rfl,hc2⟩ (Pt E E (QA E (Pt E E (QA E (Pt E E (QA E (Pt E E (Qcz E E (QP E ?_))))))))))));apply Vx;exact rfl;obtain ⟨x2,hx2,hb7471⟩:=Qi hb7471;obtain ⟨_,_,hA3,hr2,_,hc3⟩:=Rds.getI (Own.rds (L:=(ch2::L)) hO2 0 rfl) hx2;obtain ⟨A3,c3,rfl,hl2,hA4⟩:=hr2;refine Jq E E E E E E ⟨(QE hx2).1,V3 hn2 (QE hx2).2.1⟩ hA3 (Pt E E (Z3 E E E E (Ex.mk [.int .i64 x2.tour.Vehicle,.slice A3 x2.tour.Stops.length c3,.int .i64 x2.cost] ⟨rfl,hc3⟩ (Pt E E ?_))));obtain ⟨_,hx3,hb7471⟩:=Qi hb7471;obtain ⟨a4,_,hA5,hr3,_,_⟩:=Rds.getI (Own.rds (L:=(ch2::L)) hO2 0 rfl) hx3;obtain ⟨_,_,rfl,_,_⟩:=hr3;refine Jq E E E E E E ⟨(QE hx3).1,V3 hn2 (QE hx3).2.1⟩ hA5 (QP E (Js (Qd1 E (QY (vs:=[.int .i64 x1.tour.Vehicle,.slice A2 x1.tour.Stops.length c2,.int .i64 x1.cost]) E E E E E E ?_))))
   rw[←Addr.add_zero' ((a4.add ((w64 (a1+i1)).toNat*3)))]
   refine Own.store (μ:=μ) (r:=Qm) (x':=x1) (o:=0) (sz:=3) 0 rfl hO2 hA5 hx3 rfl rfl (by rintro _ ⟨A5,c5,rfl,hl4,hA7⟩;exact ⟨A2,c2,rfl,hl1,hA2⟩) fun ch3 hO3=> ?_;have hn3:=hn2.trans (QX data2 (w64 (a1+i1)) x1).symm;refine ZF (Qd1 E ?_);obtain ⟨_,hx4,hb7471⟩:=Qi hb7471;obtain ⟨a5,_,hA8,hr4,_,_⟩:=Rds.getI (Own.rds (L:=(ch3::L)) hO3 0 rfl) hx4;obtain ⟨_,_,rfl,_,_⟩:=hr4;refine VA E (Jq E E E E E E ⟨(QE hx4).1,V3 hn3 (QE hx4).2.1⟩ hA8 (QP E (Qc6 E (QY (vs:=[.int .i64 x2.tour.Vehicle,.slice A3 x2.tour.Stops.length c3,.int .i64 x2.cost]) E E E E E E ?_))))
   rw[←Addr.add_zero' ((a5.add ((w64 (b1+i1)).toNat*3)))]
   refine Own.store (μ:=μ) (r:=Qm) (x':=x2) (o:=0) (sz:=3) 0 rfl hO3 hA8 hx4 rfl rfl (by rintro _ ⟨A7,c7,rfl,hl6,hA10⟩;exact ⟨A3,c3,rfl,hl2,hA4⟩) fun ch4 hO4=> ?_;have hn4:=hn3.trans (QX (Yi data2 (w64 (a1+i1)) x1) (w64 (b1+i1)) x2).symm;refine ZF (G0 6 E ?_);cases hb7471;exact Ce E ⟨_,rfl,ch4,fE E,sE [some 0] 1 E,(hn4),(hO4),rfl⟩
  refine G2 2 [] [13] [] E ?_;cases hb7471;have hq_:=hq7471 _ E;subst hq_;exact Ce E ⟨_,ch2,rfl,fE E,sE [some 0] 1 E,(hn2),(hO2),rfl⟩
 rintro _ _ _ _ h _ ⟨data3,ch5,rfl,hF7317,hS7317,hn5,hO5,rfl⟩;refine Atn 1 hF7317 hS7317 E E ?_;cases h;exact Rt [] E E (Ug [[0]] 1 (hR _ hO5 hn5))
theorem QaH {F:Nat} {data1:(List Qc)} {a1:Int} {m1:Int} {b1:Int} {A1:Option Addr} {c1:Nat} {ch1:Seg} {n1:Nat} {res1:(List Qc)}
  (hn1:n1=data1.length) (hO1:Own Qm 96 μ (.slice A1 n1 c1) data1 ch1) (h:JO F data1 a1 m1 b1=some res1)
  (hR: ∀(sp0:Seg),Own Qm 96 μ (.slice A1 n1 c1) res1 sp0→n1=res1.length→R (.tuple #[]) μ (sp0::L)) :
  Fn Tryz.prog 141 [.slice A1 n1 c1,.int .i64 a1,.int .i64 m1,.int .i64 b1,.func (.func 85) #[] #[]] μ (ch1::L) R:=by
 unfold JO at h;subst hn1;have hn1:data1.length=data1.length:=rfl;refine FnS Tryz.func141 (by kernel_rfl) E Tryz.ntmps141 E E ?_;refine G0 15 E ?_;refine Cut h (fun f l o_ f_ μ_ l_=> ∃(data3:(List Qc)) (i2:Int) (ch5:Seg),(data3,i2)=o_∧Qh ((10,.int .i64 i2)::Qk [0,2,4] f) f_∧Qd (ch5::QC [] 1 l) l_∧data1.length=data3.length∧Own Qm 96 μ_ (.slice A1 data1.length c1) data3 ch5∧μ=μ_) ?_ ?_
 ·intro _ h7638 h;refine Lp h7638 (fun f l (j_:(List Qc)×Int×Int) f_ μ_ l_=>YG j_ fun data2 j_=>YG j_ fun i1 j1=> ∃(ch2:Seg),Qh ((10,.int .i64 i1)::(11,.int .i64 j1)::Qk [0,2,4] f) f_∧Qd (ch2::QC [] 1 l) l_∧data1.length=data2.length∧Own Qm 96 μ_ (.slice A1 data1.length c1) data2 ch2∧μ=μ_) ⟨ch1,fE E,sE [some 0] 1 E,(hn1),(hO1),E⟩ ?_;rintro ⟨data2,i1,j1⟩ _ _ _ _ _ ⟨ch2,hF7642,hS7642,hn2,hO2,rfl⟩ hb7642 hq7642;unfold WZ at hb7642;replace hb7642:=Qj hb7642;replace hb7642:=Qj hb7642;refine Atn 1 hF7642 hS7642 E E (G0 7 E ?_);refine Br hb7642 20 E E (fun hc1 hb7642=> ?_) (fun hc1 hb7642=> ?_)
  ·refine G2 9 [20] [] [] E ?_;refine Br hb7642 23 E E (fun hc2 hb7642=> ?_) (fun hc2 hb7642=> ?_)
   ·refine G2 10 [23] [] [] E (Cl E ?_);obtain ⟨_,hx1,hb7642⟩:=Qi hb7642;refine ZR hn2 hO2 hx1 (fun ch3 hO3 hn3=>Q0 8 E ?_);cases hb7642;exact Ce E ⟨_,rfl,ch3,fE E,sE [some 0] 1 E,(hn3),(hO3),rfl⟩
   refine G2 14 [] [23] [] E (Cl E ?_);obtain ⟨_,hx2,hb7642⟩:=Qi hb7642;refine ZR hn2 hO2 hx2 (fun ch4 hO4 hn4=>Q0 8 E ?_);cases hb7642;exact Ce E ⟨_,rfl,ch4,fE E,sE [some 0] 1 E,(hn4),(hO4),rfl⟩
  refine G2 2 [] [20] [] E ?_;cases hb7642;have hq_:=hq7642 _ E;subst hq_;exact Ce E ⟨_,_,ch2,rfl,fE E,sE [some 0] 1 E,(hn2),(hO2),rfl⟩
 rintro _ _ _ _ h _ ⟨data3,i2,ch5,rfl,hF7638,hS7638,hn5,hO5,rfl⟩;replace h:=Qj h;refine Atn 1 hF7638 hS7638 E E (G0 8 E (Cl E ?_));obtain ⟨_,hx3,h⟩:=Qi h;refine ZR hn5 hO5 hx3 (fun _ hO6 hn6=>Q0 1 E ?_);cases h;exact Rt [] E E (Ug [[0]] 1 (hR _ hO6 hn6))
end Go.Proofs.YthpgjbbjpfiniaaGreat
