/- ExactFewer: for every input the given law returns true, and its arguments read as before. No condition. -/
import Derived.Laws.StructEq
import Derived.Test.Ytilbengnjgglhaac4x1
import Derived.Test.Ytilbengnjgglhaac4x3
import Derived.Test.Ytilbengnjgglhaac4x2
import Derived.Test.Ytilbengnjgglhaac4x4
namespace Go.Proofs.Ytilbengnjgglhaa
open Go.RowKit
set_option linter.unusedSimpArgs false
set_option linter.unusedVariables false
set_option maxHeartbeats 2000000
set_option maxRecDepth 4000
attribute [local irreducible] WP YF Wf Fn AN Upd vcR vcO QaJ Zb YY WK WJ Qaq VX ZQ Qag QK KS
theorem QcG (a b:Qd):ZD Try.prog (do eqGuard .eql 108 (.tmp 0) (.tmp 0) (.agg #[.int .i64 a.Secs,.int .i64 a.Meters]) (.agg #[.int .i64 b.Secs,.int .i64 b.Meters]);binOp .eql 108 (.agg #[.int .i64 a.Secs,.int .i64 a.Meters]) (.agg #[.int .i64 b.Secs,.int .i64 b.Meters])) (.bool (decide (a=b))):=by
 obtain ⟨x0,x1⟩:=a;obtain ⟨y0,y1⟩:=b;intro w
 rw[Sem.run_bind,run_eqGuard_agg w _ _ _ _ _ _ (by kernel_rfl),Result.andThen_ok]
 simp only[binOp,Op.equal,Op.maxDepth,Sem.run_bind]
 rw[run_equalIn_struct w 9999 _ _ _ (by kernel_rfl) (by kernel_rfl)]
 by_cases h0:x0=y0
 case neg=>simp[Program.fieldsOf,Try.underlying108,go_sem,h0]
 by_cases h1:x1=y1
 case neg=>simp[Program.fieldsOf,Try.underlying108,go_sem,h0,h1]
 simp[Program.fieldsOf,Try.underlying108,go_sem,h0,h1]
theorem Qaf (a b:Qd):ZD Try.prog (do eqGuard .neq 108 (.tmp 0) (.tmp 0) (.agg #[.int .i64 a.Secs,.int .i64 a.Meters]) (.agg #[.int .i64 b.Secs,.int .i64 b.Meters]);binOp .neq 108 (.agg #[.int .i64 a.Secs,.int .i64 a.Meters]) (.agg #[.int .i64 b.Secs,.int .i64 b.Meters])) (.bool (!(decide (a=b)))):=by
 obtain ⟨x0,x1⟩:=a;obtain ⟨y0,y1⟩:=b;intro w
 rw[Sem.run_bind,run_eqGuard_agg w _ _ _ _ _ _ (by kernel_rfl),Result.andThen_ok]
 simp only[binOp,Op.equal,Op.maxDepth,Sem.run_bind]
 rw[run_equalIn_struct w 9999 _ _ _ (by kernel_rfl) (by kernel_rfl)]
 by_cases h0:x0=y0
 case neg=>simp[Program.fieldsOf,Try.underlying108,go_sem,h0]
 by_cases h1:x1=y1
 case neg=>simp[Program.fieldsOf,Try.underlying108,go_sem,h0,h1]
 simp[Program.fieldsOf,Try.underlying108,go_sem,h0,h1]
variable {μ:Gh} {L:List Seg} {R:Value→Gh→List Seg→Prop}
theorem VL  {p1:Qc} {A1:Option Addr} {c1:Nat} {A2:Option Addr} {c2:Nat} {A3:Option Addr} {c3:Nat} {res1:Bool}
  (hl1:p1.Road.Edges.length≤c1∧c1≤maxLen) (hA1:Qn QE μ A1 p1.Road.Edges) (hl2:p1.Vehicles.length≤c2∧c2≤maxLen) (hA2:Qn Qv μ A2 p1.Vehicles) (hl3:p1.Demands.length≤c3∧c3≤maxLen) (hA3:Qn Qw μ A3 p1.Demands) (h:YJ p1=some res1)
  (hR:R (.bool res1) μ (L)) :
  Fn Try.prog 16 [.agg #[.int .i64 p1.Road.Nodes,.slice A1 p1.Road.Edges.length c1,.slice A2 p1.Vehicles.length c2,.slice A3 p1.Demands.length c3,.int .i64 p1.Unload,.int .i64 p1.UnloadSecs]] μ (L) R:=by
 unfold YJ at h;refine FnS Try.func16 (by kernel_rfl) E Try.ntmps16 E E ?_;refine G0 2 E (Al E fun _=>Q0 4 E ?_);refine Cut h (fun f l o_ f_ μ_ l_=> ∃(v1:Bool),v1=o_∧Qm ((21,.bool v1)::QD [1] f) f_∧Qe l l_∧μ=μ_) ?_ ?_
 ·intro _ h17 h;refine G1 7 [0] E ?_;refine Br h17 10 E E (fun hc1 h17=> ?_) (fun hc1 h17=> ?_)
  ·refine G2 12 [10,16] [] [] E ?_;cases h17;exact Ce E ⟨_,rfl,fE E,sE [some 0] 1 E,rfl⟩
  refine G2 6 [] [10] [0] E ?_;refine Br h17 16 E E (fun hc2 h17=> ?_) (fun hc2 h17=> ?_)
  ·refine G2 6 [16] [] [] E ?_;cases h17;exact Ce E ⟨_,rfl,fE E,sE [some 0] 1 E,rfl⟩
  refine G2 6 [] [16] [0] E ?_;cases h17;exact Ce E ⟨_,rfl,fE E,sE [some 0] 1 E,rfl⟩
 rintro _ _ _ _ h _ ⟨v1,rfl,hF17,hS17,rfl⟩;refine Atn 1 hF17 hS17 E E ?_;refine Br h 21 E E (fun hc3 h=> ?_) (fun hc3 h=> ?_)
 ·refine G2 5 [21] [] [] E ?_;cases h;exact Rt [] E E (Ug [] 1 hR)
 refine G2 10 [] [21] [0] E ?_;refine Cut h (fun f l o_ f_ μ_ l_=>(.inl ())=o_∧Qm ([]) f_∧Qe (Yr [] 1 l) l_∧μ=μ_) ?_ ?_
 ·intro _ h20 h;refine Lp h20 (fun f l (v2:Int) f_ μ_ l_=>Qm ((25,.int .i64 v2)::QD [23,24] f) f_∧Qe (Yr [] 1 l) l_∧μ=μ_) ⟨fE E,sE [] 1 E,E⟩ ?_;rintro v2 _ _ _ _ _ ⟨hF25,hS25,rfl⟩ hb25 hq25;unfold YK at hb25;refine Atn 0 hF25 hS25 E E (G0 5 E ?_);refine Br hb25 26 E E (fun hc4 hb25=> ?_) (fun hc4 hb25=> ?_)
  ·refine G2 6 [26] [] [] E (Ix hb25 (Qn.rds hA2 L) E E fun _ _ _ _ hr1 hc5 _ hb25=> ?_);obtain rfl:=hr1;refine Q3 1 [] [] [64] (Z1 hc5) E (Al E fun _=>Q1 9 [0,0] E ?_);refine Br hb25 32 E E (fun hc6 hb25=> ?_) (fun hc6 hb25=> ?_)
   ·refine G2 5 [32] [] [] E ?_;cases hb25;have hq_:=hq25 _ E;subst hq_;replace h:=ZW h;cases h;exact Rt [] E E (Ug [] 1 hR)
   refine G2 7 [] [32] [] E ?_;cases hb25;exact Ce E ⟨_,rfl,fE E,sE [] 1 E,rfl⟩
  refine G2 2 [] [26] [] E ?_;cases hb25;have hq_:=hq25 _ E;subst hq_;exact Ce E ⟨rfl,fE E,sE [] 0 E,rfl⟩
 rintro _ _ _ _ h _ ⟨rfl,hF20,hS20,rfl⟩;replace h:=JD h;refine Atn 0 hF20 hS20 E E (G0 4 E ?_);cases h;exact Rt [] E E (Ug [] 0 hR)
theorem VK  {x1:QU} {A1:Option Addr} {c1:Nat} {A2:Option Addr} {c2:Nat} {A3:Option Addr} {c3:Nat} {A4:Option Addr} {c4:Nat} {res1:Bool}
  (hl1:x1.Problem.Road.Edges.length≤c1∧c1≤maxLen) (hA1:Qn QE μ A1 x1.Problem.Road.Edges) (hl2:x1.Problem.Vehicles.length≤c2∧c2≤maxLen) (hA2:Qn Qv μ A2 x1.Problem.Vehicles) (hl3:x1.Problem.Demands.length≤c3∧c3≤maxLen) (hA3:Qn Qw μ A3 x1.Problem.Demands) (hl4:x1.Demands.length≤c4∧c4≤maxLen) (hA4:Qn QV μ A4 x1.Demands) (h:YI x1=some res1)
  (hR:R (.bool res1) μ (L)) :
  Fn Try.prog 7 [.agg #[.int .i64 x1.Problem.Road.Nodes,.slice A1 x1.Problem.Road.Edges.length c1,.slice A2 x1.Problem.Vehicles.length c2,.slice A3 x1.Problem.Demands.length c3,.int .i64 x1.Problem.Unload,.int .i64 x1.Problem.UnloadSecs,.int .i64 x1.Vehicle,.slice A4 x1.Demands.length c4]] μ (L) R:=by
 unfold YI at h;refine FnS Try.func7 (by kernel_rfl) E Try.ntmps7 E E ?_;refine G0 2 E (Al E fun _=>Q0 3 E ?_);refine Cut h (fun f l o_ f_ μ_ l_=> ∃(v1:Bool),v1=o_∧Qm ((2,.bool v1)::[]) f_∧Qe (Yr [] 1 l) l_∧μ=μ_) ?_ ?_
 ·intro _ h12 h;refine G1 3 [0] E (Cl E ?_);obtain ⟨_,hx1,h12⟩:=Qg h12;refine VL hl1 hA1 hl2 hA2 hl3 hA3 hx1 ((Q0 2 E ?_));refine Br h12 7 E E (fun hc1 h12=> ?_) (fun hc1 h12=> ?_)
  ·refine G2 7 [7] [] [0] E ?_;refine Br h12 14 E E (fun hc2 h12=> ?_) (fun hc2 h12=> ?_)
   ·refine G2 7 [14] [] [0] E ?_;cases h12;exact Ce E ⟨_,rfl,fE E,sE [] 1 E,rfl⟩
   refine G2 7 [] [14] [] E ?_;cases h12;exact Ce E ⟨_,rfl,fE E,sE [] 1 E,rfl⟩
  refine G2 14 [] [7,14] [] E ?_;cases h12;exact Ce E ⟨_,rfl,fE E,sE [] 1 E,rfl⟩
 rintro _ _ _ _ h _ ⟨v1,rfl,hF12,hS12,rfl⟩;refine Atn 0 hF12 hS12 E E ?_;cases h;exact Rt [] E E (Ug [] 0 hR)
theorem Ya  {grams1:Int}  {res1:Qc}
   (h:QL grams1=some res1)
  (hR: ∀(μ':Gh) (A0_1:Option Addr) (c0_1:Nat) (A0_2:Option Addr) (c0_2:Nat) (A0_3:Option Addr) (c0_3:Nat),μ.le μ'→(res1.Road.Edges.length≤c0_1∧c0_1≤maxLen)→Qn QE μ' A0_1 res1.Road.Edges→(res1.Vehicles.length≤c0_2∧c0_2≤maxLen)→Qn Qv μ' A0_2 res1.Vehicles→(res1.Demands.length≤c0_3∧c0_3≤maxLen)→Qn Qw μ' A0_3 res1.Demands→R (.agg #[.int .i64 res1.Road.Nodes,.slice A0_1 res1.Road.Edges.length c0_1,.slice A0_2 res1.Vehicles.length c0_2,.slice A0_3 res1.Demands.length c0_3,.int .i64 res1.Unload,.int .i64 res1.UnloadSecs]) μ' (L)) :
  Fn Try.prog 17 [.int .i64 grams1] μ (L) R:=by
 unfold QL at h;refine FnS Try.func17 (by kernel_rfl) E Try.ntmps17 E E ?_;refine G0 2 E (Al E fun _=>Q0 4 E (Al E fun _=>Q1 8 [0] E (So E (Jk (z:=[.int .i64 0,.int .i64 0,.int .i64 0,.int .i64 0,.int .i64 0,.int .i64 0,.int .i64 0,.int .i64 0,.int .i64 0,.int .i64 0,.int .i64 0,.int .i64 0,.int .i64 0,.int .i64 0,.int .i64 0,.int .i64 0]) E E E E E E E (QQ (cells':=[.int .i64 0,.int .i64 1,.int .i64 100,.int .i64 60,.int .i64 0,.int .i64 0,.int .i64 0,.int .i64 0,.int .i64 0,.int .i64 0,.int .i64 0,.int .i64 0,.int .i64 0,.int .i64 0,.int .i64 0,.int .i64 0]) E E E E (QQ (cells':=[.int .i64 0,.int .i64 1,.int .i64 100,.int .i64 60,.int .i64 1,.int .i64 0,.int .i64 100,.int .i64 60,.int .i64 0,.int .i64 0,.int .i64 0,.int .i64 0,.int .i64 0,.int .i64 0,.int .i64 0,.int .i64 0]) E E E E ?_))))));refine QQ (cells':=[.int .i64 0,.int .i64 1,.int .i64 100,.int .i64 60,.int .i64 1,.int .i64 0,.int .i64 100,.int .i64 60,.int .i64 1,.int .i64 2,.int .i64 100,.int .i64 60,.int .i64 0,.int .i64 0,.int .i64 0,.int .i64 0]) E E E E (QQ (cells':=[.int .i64 0,.int .i64 1,.int .i64 100,.int .i64 60,.int .i64 1,.int .i64 0,.int .i64 100,.int .i64 60,.int .i64 1,.int .i64 2,.int .i64 100,.int .i64 60,.int .i64 2,.int .i64 1,.int .i64 100,.int .i64 60]) E E E E (Z5 (fun g3=>Q1 4 [1] E (So E (Jk (z:=[.string ⟨#[]⟩,.int .i64 0,.int .i64 0,.int .i64 0,.int .i64 0,.int .i64 0]) E E E E E E E (QQ (cells':=[.string ⟨#[118]⟩,.int .i64 0,.int .i64 0,.int .i64 86400,.int .i64 grams1,.int .i64 1]) E E E E (Z5 (fun g4=> ?_))))))));refine Q1 4 [2,2] E (So E (Jk (z:=[.int .i64 0,.int .i64 0,.int .i64 0,.int .i64 0,.int .i64 0,.int .i64 0,.int .i64 0,.int .i64 0,.int .i64 0,.int .i64 0,.int .i64 0,.int .i64 0,.int .i64 0,.int .i64 0]) E E E E E E E (QQ (cells':=[.int .i64 0,.int .i64 1,.int .i64 0,.int .i64 10,.int .i64 0,.int .i64 86400,.int .i64 0,.int .i64 0,.int .i64 0,.int .i64 0,.int .i64 0,.int .i64 0,.int .i64 0,.int .i64 0]) E E E E (QQ (cells':=[.int .i64 0,.int .i64 1,.int .i64 0,.int .i64 10,.int .i64 0,.int .i64 86400,.int .i64 0,.int .i64 1,.int .i64 2,.int .i64 0,.int .i64 10,.int .i64 0,.int .i64 86400,.int .i64 0]) E E E E (Z5 (fun g5=>Q1 3 [4] E ?_))))));cases h;refine Rt [4] E E ?_;have hl1:[(QB.mk 0 1 100 60),(QB.mk 1 0 100 60),(QB.mk 1 2 100 60),(QB.mk 2 1 100 60)].length≤4∧4≤maxLen:=⟨Nat.le_refl _,by unfold maxLen;omega⟩
 refine Upd.frzOwn 2 E (Own.lit (r:=QE) (e:=77) (g:=g3) (xs:=[(QB.mk 0 1 100 60),(QB.mk 1 0 100 60),(QB.mk 1 2 100 60),(QB.mk 2 1 100 60)]) (cs:=[.int .i64 0,.int .i64 1,.int .i64 100,.int .i64 60,.int .i64 1,.int .i64 0,.int .i64 100,.int .i64 60,.int .i64 1,.int .i64 2,.int .i64 100,.int .i64 60,.int .i64 2,.int .i64 1,.int .i64 100,.int .i64 60]) (css:=[[.int .i64 0,.int .i64 1,.int .i64 100,.int .i64 60],[.int .i64 1,.int .i64 0,.int .i64 100,.int .i64 60],[.int .i64 1,.int .i64 2,.int .i64 100,.int .i64 60],[.int .i64 2,.int .i64 1,.int .i64 100,.int .i64 60]]) E (All2.cons (E) (All2.cons (E) (All2.cons (E) (All2.cons (E) (All2.nil))))) E E) fun _ hm_1 hA1=> ?_;have hl2:[(Qk.mk ⟨#[118]⟩ 0 (QR.mk 0 86400) grams1 1)].length≤1∧1≤maxLen:=⟨Nat.le_refl _,by unfold maxLen;omega⟩
 refine Upd.frzOwn 1 E (Own.lit (r:=Qv) (e:=66) (g:=g4) (xs:=[(Qk.mk ⟨#[118]⟩ 0 (QR.mk 0 86400) grams1 1)]) (cs:=[.string ⟨#[118]⟩,.int .i64 0,.int .i64 0,.int .i64 86400,.int .i64 grams1,.int .i64 1]) (css:=[[.string ⟨#[118]⟩,.int .i64 0,.int .i64 0,.int .i64 86400,.int .i64 grams1,.int .i64 1]]) E (All2.cons (E) (All2.nil)) E E) fun _ hm_2 hA2=> ?_;replace hA1:=hA1.mono hm_2;have hl3:[(Qh.mk 0 1 0 10 (QR.mk 0 86400) 0),(Qh.mk 1 2 0 10 (QR.mk 0 86400) 0)].length≤2∧2≤maxLen:=⟨Nat.le_refl _,by unfold maxLen;omega⟩
 refine Upd.frzOwn 0 E (Own.lit (r:=Qw) (e:=79) (g:=g5) (xs:=[(Qh.mk 0 1 0 10 (QR.mk 0 86400) 0),(Qh.mk 1 2 0 10 (QR.mk 0 86400) 0)]) (cs:=[.int .i64 0,.int .i64 1,.int .i64 0,.int .i64 10,.int .i64 0,.int .i64 86400,.int .i64 0,.int .i64 1,.int .i64 2,.int .i64 0,.int .i64 10,.int .i64 0,.int .i64 86400,.int .i64 0]) (css:=[[.int .i64 0,.int .i64 1,.int .i64 0,.int .i64 10,.int .i64 0,.int .i64 86400,.int .i64 0],[.int .i64 1,.int .i64 2,.int .i64 0,.int .i64 10,.int .i64 0,.int .i64 86400,.int .i64 0]]) E (All2.cons (E) (All2.cons (E) (All2.nil))) E E) fun _ hm_3 hA3=> ?_;replace hA1:=hA1.mono hm_3;replace hA2:=hA2.mono hm_3;exact (Ug [] 5 (hR _ (some ⟨g3,0,none⟩) 4 (some ⟨g4,0,none⟩) 1 (some ⟨g5,0,none⟩) 2 (hm_1.trans (hm_2.trans hm_3)) hl1 hA1 hl2 hA2 hl3 hA3))
theorem QcN  {r1:Qq} {A1:Option Addr} {c1:Nat} {res1:JU}
  (hl1:r1.Edges.length≤c1∧c1≤maxLen) (hA1:Qn QE μ A1 r1.Edges) (h:J9 r1=some res1)
  (hR: ∀(μ':Gh) (A0_1:Option Addr) (c0_1:Nat),μ.le μ'→(res1.Arcs.length≤c0_1∧c0_1≤maxLen)→Qn WZ μ' A0_1 res1.Arcs→R (.agg #[.int .i64 res1.Nodes,.slice A0_1 res1.Arcs.length c0_1]) μ' (L)) :
  Fn Try.prog 44 [.agg #[.int .i64 r1.Nodes,.slice A1 r1.Edges.length c1]] μ (L) R:=by
 unfold J9 at h;refine FnS Try.func44 (by kernel_rfl) E Try.ntmps44 E E ?_;refine G0 2 E (Al E fun _=>Q0 0 E (Al E fun g2=>Q1 6 [1] E (Al E fun g3=>Q1 10 [0,2] E ?_)));refine Cut h (fun f l o_ f_ μ_ l_=> ∃(f2:(List Yy)) (A4:Option Addr) (c4:Nat) (ch3:Seg),f2=o_∧Qm (QD [2,3] f) f_∧Qe ([(g2,.cells #[.int .i64 0,.slice none 0 0] 99 (0,0))]::[(g3,.cells #[.int .i64 r1.Nodes,.slice A4 f2.length c4] 99 (0,0))]::ch3::Yr [] 3 l) l_∧Own WZ 116 μ_ (.slice A4 f2.length c4) f2 ch3) ?_ ?_
 ·intro _ h193 h;refine Lp h193 (fun f l (j_:(List Yy)×Int) f_ μ_ l_=>WT j_ fun f1 v1=> ∃(A2:Option Addr) (c2:Nat) (ch1:Seg),Qm ((12,.int .i64 v1)::QD [2,3,10,11] f) f_∧Qe ([(g2,.cells #[.int .i64 0,.slice none 0 0] 99 (0,0))]::[(g3,.cells #[.int .i64 r1.Nodes,.slice A2 f1.length c2] 99 (0,0))]::ch1::Yr [] 3 l) l_∧Own WZ 116 μ_ (.slice A2 f1.length c2) f1 ch1) ⟨none,0,[],fE E,sE [some 1,some 0,none] 3 E,(Own.nil)⟩ ?_;rintro ⟨f1,v1⟩ _ _ _ _ hm208 ⟨A2,c2,ch1,hF208,hS208,hO1⟩ hb208 hq208;unfold Z9 at hb208;replace hb208:=Qi hb208;replace hA1:=hA1.mono hm208;refine Atn 3 hF208 hS208 E E (G0 5 E ?_);refine Br hb208 13 E E (fun hc1 hb208=> ?_) (fun hc1 hb208=> ?_)
  ·refine G2 6 [13] [] [] E (Ix hb208 (Qn.rds hA1 L) E E fun x1 _ _ _ hr1 hc2 _ hb208=> ?_);obtain rfl:=hr1;refine Q3 1 [] [] [64] (Z1 (hc2.push.push.push)) E (Al E fun _=>Q1 10 [0,2,0,0] E (So E (Jk (z:=[.int .i64 0,.int .i64 0]) E E E E E E E (QQ (cells':=[.int .i64 x1.From,.int .i64 x1.To]) E E E E (Z5 (fun g5=>Q0 0 E (So E (ZR E ?_))))))));obtain ⟨_,hz1,hb208⟩:=Qg hb208;refine Jv (r:=WZ) YB E E E E (by decide) E E 4 E hO1 E (Own.rds (Own.lit (r:=WZ) (e:=116) (g:=g5) (xs:=[(Yy.mk x1.From x1.To)]) (cs:=[.int .i64 x1.From,.int .i64 x1.To]) (css:=[[.int .i64 x1.From,.int .i64 x1.To]]) E (All2.cons (E) (All2.nil)) E E) 0 E) hz1 fun A3 c3 ch2 hO2=>Q1 8 [3] E ?_;cases hb208;exact Ce E ⟨_,rfl,A3,c3,ch2,fE E,sE [some 2,some 3,some 4] 5 E,(hO2)⟩
  refine G2 2 [] [13] [] E ?_;cases hb208;have hq_:=hq208 _ E;subst hq_;exact Ce E ⟨_,A2,c2,ch1,rfl,fE E,sE [some 0,some 1,some 2] 3 E,(hO1)⟩
 rintro _ _ _ _ h hm193 ⟨f2,A4,c4,ch3,rfl,hF193,hS193,hO3⟩;refine Atn 3 hF193 hS193 E E (G1 5 [1,0] E ?_);cases h;refine Rt [0] E E ?_;have hl2:=Own.lenOk hO3;refine Upd.frzOwn 2 E hO3 fun _ hm_1 hA3=> ?_;exact (Ug [] 3 (hR _ A4 c4 (hm193.trans hm_1) hl2 hA3))
theorem Qdh  {g1:JU} {A1:Option Addr} {c1:Nat} {res1:Int}
  (hl1:g1.Arcs.length≤c1∧c1≤maxLen) (hA1:Qn WZ μ A1 g1.Arcs) (h:WB g1=some res1)
  (hR:R (.int .i64 res1) μ (L)) :
  Fn Try.prog 43 [.agg #[.int .i64 g1.Nodes,.slice A1 g1.Arcs.length c1]] μ (L) R:=by
 unfold WB at h;refine FnS Try.func43 (by kernel_rfl) E Try.ntmps43 E E ?_;refine G0 2 E (Al E fun _=>Q0 4 E ?_);refine Cut h (fun f l o_ f_ μ_ l_=> ∃(v1:Bool),v1=o_∧Qm ((12,.bool v1)::QD [1] f) f_∧Qe l l_∧μ=μ_) ?_ ?_
 ·intro _ h236 h;refine G1 5 [0] E ?_;refine Br h236 8 E E (fun hc1 h236=> ?_) (fun hc1 h236=> ?_)
  ·refine G2 5 [8] [] [] E ?_;cases h236;exact Ce E ⟨_,rfl,fE E,sE [some 0] 1 E,rfl⟩
  refine G2 5 [] [8] [0] E ?_;cases h236;exact Ce E ⟨_,rfl,fE E,sE [some 0] 1 E,rfl⟩
 rintro _ _ _ _ h _ ⟨v1,rfl,hF236,hS236,rfl⟩;refine Atn 1 hF236 hS236 E E ?_;refine Br h 12 E E (fun hc2 h=> ?_) (fun hc2 h=> ?_)
 ·refine G2 5 [12] [] [] E ?_;cases h;exact Rt [] E E (Ug [] 1 hR)
 refine G2 10 [] [12] [0] E ?_;refine Br h 16 E E (fun hc3 h=> ?_) (fun hc3 h=> ?_)
 ·refine G2 5 [16] [] [] E ?_;cases h;exact Rt [] E E (Ug [] 1 hR)
 refine G2 10 [] [16] [0] E ?_;refine Cut h (fun f l o_ f_ μ_ l_=>(.inl ())=o_∧Qm ([]) f_∧Qe (Yr [] 1 l) l_∧μ=μ_) ?_ ?_
 ·intro _ h239 h;refine Lp h239 (fun f l (v2:Int) f_ μ_ l_=>Qm ((20,.int .i64 v2)::QD [1,18,19] f) f_∧Qe l l_∧μ=μ_) ⟨fE E,sE [some 0] 1 E,E⟩ ?_;rintro v2 _ _ _ _ _ ⟨hF249,hS249,rfl⟩ hb249 hq249;unfold Jo at hb249;refine Atn 1 hF249 hS249 E E (G0 5 E ?_);refine Br hb249 21 E E (fun hc4 hb249=> ?_) (fun hc4 hb249=> ?_)
  ·refine G2 6 [21] [] [] E (Ix hb249 (Qn.rds hA1 L) E E fun _ _ _ _ hr1 hc5 _ hb249=> ?_);obtain rfl:=hr1;refine Q3 1 [] [] [64] (Z1 (hc5.push)) E (Al E fun _=>Q1 3 [0] E ?_);refine Cut hb249 (fun f l o_ f_ μ_ l_=> ∃(v3:Bool),v3=o_∧Qm ((45,.bool v3)::QD [1,18,19,20] f) f_∧Qe (Yr [] 1 l) l_∧μ=μ_) ?_ ?_
   ·intro _ h255 hb249;refine G1 5 [0] E ?_;refine Br h255 27 E E (fun hc6 h255=> ?_) (fun hc6 h255=> ?_)
    ·refine G2 19 [27,34,39] [] [] E ?_;cases h255;exact Ce E ⟨_,rfl,fE E,sE [some 1] 2 E,rfl⟩
    refine G2 7 [] [27] [0,1] E ?_;refine Br h255 34 E E (fun hc7 h255=> ?_) (fun hc7 h255=> ?_)
    ·refine G2 12 [34,39] [] [] E ?_;cases h255;exact Ce E ⟨_,rfl,fE E,sE [some 1] 2 E,rfl⟩
    refine G2 5 [] [34] [0] E ?_;refine Br h255 39 E E (fun hc8 h255=> ?_) (fun hc8 h255=> ?_)
    ·refine G2 7 [39] [] [] E ?_;cases h255;exact Ce E ⟨_,rfl,fE E,sE [some 1] 2 E,rfl⟩
    refine G2 7 [] [39] [0,1] E ?_;cases h255;exact Ce E ⟨_,rfl,fE E,sE [some 1] 2 E,rfl⟩
   rintro _ _ _ _ hb249 _ ⟨v3,rfl,hF255,hS255,rfl⟩;refine Atn 1 hF255 hS255 E E ?_;refine Br hb249 45 E E (fun hc9 hb249=> ?_) (fun hc9 hb249=> ?_)
   ·refine G2 5 [45] [] [] E ?_;cases hb249;have hq_:=hq249 _ E;subst hq_;replace h:=ZW h;cases h;exact Rt [] E E (Ug [] 1 hR)
   refine G2 7 [] [45] [] E ?_;cases hb249;exact Ce E ⟨_,rfl,fE E,sE [some 0] 1 E,rfl⟩
  refine G2 2 [] [21] [] E ?_;cases hb249;have hq_:=hq249 _ E;subst hq_;exact Ce E ⟨rfl,fE E,sE [] 1 E,rfl⟩
 rintro _ _ _ _ h _ ⟨rfl,hF239,hS239,rfl⟩;replace h:=JD h;refine Atn 0 hF239 hS239 E E (G0 4 E ?_);cases h;exact Rt [] E E (Ug [] 0 hR)
theorem Qa6  {r1:Qq} {A1:Option Addr} {c1:Nat} {res1:Int}
  (hl1:r1.Edges.length≤c1∧c1≤maxLen) (hA1:Qn QE μ A1 r1.Edges) (h:JT r1=some res1)
  (hR: ∀(μ':Gh) ,μ.le μ'→R (.int .i64 res1) μ' (L)) :
  Fn Try.prog 31 [.agg #[.int .i64 r1.Nodes,.slice A1 r1.Edges.length c1]] μ (L) R:=by
 unfold JT at h;refine FnS Try.func31 (by kernel_rfl) E Try.ntmps31 E E ?_;refine G0 2 E (Al E fun _=>Q0 4 E ?_);refine Cut h (fun f l o_ f_ μ_ l_=> ∃(v1:Bool),v1=o_∧Qm ((12,.bool v1)::QD [1] f) f_∧Qe l l_) ?_ ?_
 ·intro _ h260 h;refine G1 5 [0] E ?_;refine Br h260 8 E E (fun hc1 h260=> ?_) (fun hc1 h260=> ?_)
  ·refine G2 5 [8] [] [] E ?_;cases h260;exact Ce E ⟨_,rfl,fE E,sE [some 0] 1 E⟩
  refine G2 5 [] [8] [0] E ?_;cases h260;exact Ce E ⟨_,rfl,fE E,sE [some 0] 1 E⟩
 rintro _ _ _ _ h hm260 ⟨v1,rfl,hF260,hS260⟩;replace hA1:=hA1.mono hm260;refine Atn 1 hF260 hS260 E E ?_;refine Br h 12 E E (fun hc2 h=> ?_) (fun hc2 h=> ?_)
 ·refine G2 5 [12] [] [] E ?_;cases h;exact Rt [] E E (Ug [] 1 (hR _ hm260))
 refine G2 10 [] [12] [0] E ?_;refine Br h 16 E E (fun hc3 h=> ?_) (fun hc3 h=> ?_)
 ·refine G2 5 [16] [] [] E ?_;cases h;exact Rt [] E E (Ug [] 1 (hR _ hm260))
 refine G2 10 [] [16] [0] E ?_;refine Cut h (fun f l o_ f_ μ_ l_=>(.inl ())=o_∧Qm (QD [1] f) f_∧Qe l l_) ?_ ?_
 ·intro _ h263 h;refine Lp h263 (fun f l (v2:Int) f_ μ_ l_=>Qm ((20,.int .i64 v2)::QD [1,18,19] f) f_∧Qe l l_) ⟨fE E,sE [some 0] 1 E⟩ ?_;rintro v2 _ _ _ _ hm278 ⟨hF278,hS278⟩ hb278 hq278;unfold Wy at hb278;replace hA1:=hA1.mono hm278;refine Atn 1 hF278 hS278 E E (G0 5 E ?_);refine Br hb278 21 E E (fun hc4 hb278=> ?_) (fun hc4 hb278=> ?_)
  ·refine G2 6 [21] [] [] E (Ix hb278 (Qn.rds hA1 L) E E fun _ _ _ _ hr1 hc5 _ hb278=> ?_);obtain rfl:=hr1;refine Q3 1 [] [] [64] (Z1 (hc5.push)) E (Al E fun _=>Q1 4 [0] E ?_);refine Cut hb278 (fun f l o_ f_ μ_ l_=> ∃(v3:Bool),v3=o_∧Qm ((45,.bool v3)::QD [1,4,18,19,20] f) f_∧Qe (Yr [some 1,some 0] 2 l) l_) ?_ ?_
   ·intro _ h284 hb278;refine G1 5 [0] E ?_;refine Br h284 27 E E (fun hc6 h284=> ?_) (fun hc6 h284=> ?_)
    ·refine G2 19 [27,34,39] [] [] E ?_;cases h284;exact Ce E ⟨_,rfl,fE E,sE [some 1,some 0] 2 E⟩
    refine G2 7 [] [27] [0,1] E ?_;refine Br h284 34 E E (fun hc7 h284=> ?_) (fun hc7 h284=> ?_)
    ·refine G2 12 [34,39] [] [] E ?_;cases h284;exact Ce E ⟨_,rfl,fE E,sE [some 1,some 0] 2 E⟩
    refine G2 5 [] [34] [0] E ?_;refine Br h284 39 E E (fun hc8 h284=> ?_) (fun hc8 h284=> ?_)
    ·refine G2 7 [39] [] [] E ?_;cases h284;exact Ce E ⟨_,rfl,fE E,sE [some 1,some 0] 2 E⟩
    refine G2 7 [] [39] [0,1] E ?_;cases h284;exact Ce E ⟨_,rfl,fE E,sE [some 1,some 0] 2 E⟩
   rintro _ _ _ _ hb278 hm284 ⟨v3,rfl,hF284,hS284⟩;replace hA1:=hA1.mono hm284;refine Atn 2 hF284 hS284 E E ?_;refine Br hb278 45 E E (fun hc9 hb278=> ?_) (fun hc9 hb278=> ?_)
   ·refine G2 5 [45] [] [] E ?_;cases hb278;have hq_:=hq278 _ E;subst hq_;replace h:=ZW h;cases h;exact Rt [] E E (Ug [] 2 (hR _ (hm260.trans (hm278.trans hm284))))
   refine G2 3 [] [45] [] E ?_;refine Cut hb278 (fun f l o_ f_ μ_ l_=> ∃(v4:Bool),v4=o_∧Qm ((70,.bool v4)::QD [1,18,19,20] f) f_∧Qe (Yr [some 0] 2 l) l_) ?_ ?_
   ·intro _ h289 hb278;refine G1 7 [1,1] E ?_;refine Br h289 51 E E (fun hc10 h289=> ?_) (fun hc10 h289=> ?_)
    ·refine G2 20 [51,56,61,66] [] [] E ?_;cases h289;exact Ce E ⟨_,rfl,fE E,sE [some 0] 2 E⟩
    refine G2 5 [] [51] [1] E ?_;refine Br h289 56 E E (fun hc11 h289=> ?_) (fun hc11 h289=> ?_)
    ·refine G2 15 [56,61,66] [] [] E ?_;cases h289;exact Ce E ⟨_,rfl,fE E,sE [some 0] 2 E⟩
    refine G2 5 [] [56] [1] E ?_;refine Br h289 61 E E (fun hc12 h289=> ?_) (fun hc12 h289=> ?_)
    ·refine G2 10 [61,66] [] [] E ?_;cases h289;exact Ce E ⟨_,rfl,fE E,sE [some 0] 2 E⟩
    refine G2 5 [] [61] [1] E ?_;refine Br h289 66 E E (fun hc13 h289=> ?_) (fun hc13 h289=> ?_)
    ·refine G2 5 [66] [] [] E ?_;cases h289;exact Ce E ⟨_,rfl,fE E,sE [some 0] 2 E⟩
    refine G2 5 [] [66] [1] E ?_;cases h289;exact Ce E ⟨_,rfl,fE E,sE [some 0] 2 E⟩
   rintro _ _ _ _ hb278 hm289 ⟨v4,rfl,hF289,hS289⟩;replace hA1:=hA1.mono hm289;refine Atn 1 hF289 hS289 E E ?_;refine Br hb278 70 E E (fun hc14 hb278=> ?_) (fun hc14 hb278=> ?_)
   ·refine G2 5 [70] [] [] E ?_;cases hb278;have hq_:=hq278 _ E;subst hq_;replace h:=ZW h;cases h;exact Rt [] E E (Ug [] 1 (hR _ (hm260.trans (hm278.trans (hm284.trans hm289)))))
   refine G2 7 [] [70] [] E ?_;cases hb278;exact Ce E ⟨_,rfl,fE E,sE [some 0] 1 E⟩
  refine G2 2 [] [21] [] E ?_;cases hb278;have hq_:=hq278 _ E;subst hq_;exact Ce E ⟨rfl,fE E,sE [some 0] 1 E⟩
 rintro _ _ _ _ h hm263 ⟨rfl,hF263,hS263⟩;replace h:=JD h;replace hA1:=hA1.mono hm263;refine Atn 1 hF263 hS263 E E (G1 3 [0] E (Cl E ?_));obtain ⟨_,hx2,h⟩:=Qg h;refine QcN hl1 hA1 hx2 (fun _ _ _ hm_1 hl2 hA3=> ?_);refine Q0 0 E (Cl E ?_);obtain ⟨_,hx3,h⟩:=Qg h;refine Qdh hl2 hA3 hx3 ((Q0 2 E ?_));cases h;exact Rt [] E E (Ug [] 1 (hR _ (hm260.trans (hm263.trans hm_1))))
theorem Qad  {c1:Int}  {res1:Bool}
   (h:Jx c1=some res1)
  (hR:R (.bool res1) μ (L)) :
  Fn Try.prog 72 [.int .u8 c1] μ (L) R:=by
 unfold Jx at h;refine FnS Try.func72 (by kernel_rfl) E Try.ntmps72 E E ?_;refine G0 5 E ?_;refine Cut h (fun f l o_ f_ μ_ l_=> ∃(v1:Bool),v1=o_∧Qm ((2,.bool v1)::[]) f_∧Qe l l_∧μ=μ_) ?_ ?_
 ·intro _ h303 h;refine G0 4 E ?_;refine Br h303 5 E E (fun hc1 h303=> ?_) (fun hc1 h303=> ?_)
  ·refine G2 4 [5] [] [] E ?_;refine Br h303 9 E E (fun hc2 h303=> ?_) (fun hc2 h303=> ?_)
   ·refine G2 9 [9] [] [] E ?_;cases h303;exact Ce E ⟨_,rfl,fE E,sE [] 0 E,rfl⟩
   refine G2 3 [] [9] [] E ?_;refine Br h303 12 E E (fun hc3 h303=> ?_) (fun hc3 h303=> ?_)
   ·refine G2 6 [12] [9] [] E ?_;cases h303;exact Ce E ⟨_,rfl,fE E,sE [] 0 E,rfl⟩
   refine G2 6 [] [9,12] [] E ?_;cases h303;exact Ce E ⟨_,rfl,fE E,sE [] 0 E,rfl⟩
  refine G2 7 [] [5,9] [] E ?_;refine Br h303 12 E E (fun hc4 h303=> ?_) (fun hc4 h303=> ?_)
  ·refine G2 6 [12] [9] [] E ?_;cases h303;exact Ce E ⟨_,rfl,fE E,sE [] 0 E,rfl⟩
  refine G2 6 [] [9,12] [] E ?_;cases h303;exact Ce E ⟨_,rfl,fE E,sE [] 0 E,rfl⟩
 rintro _ _ _ _ h _ ⟨v1,rfl,hF303,hS303,rfl⟩;refine Atn 0 hF303 hS303 E E ?_;cases h;exact Rt [] E E (Ug [] 0 hR)
theorem Qdi {F:Nat} {s1:ByteArray}  {res1:Bool}
   (h:WD F s1=some res1)
  (hR:R (.bool res1) μ (L)) :
  Fn Try.prog 57 [.string s1] μ (L) R:=by
 unfold WD at h;refine FnS Try.func57 (by kernel_rfl) E Try.ntmps57 E E ?_;refine G0 6 E ?_;refine Cut h (fun f l o_ f_ μ_ l_=> ∃(v1:Bool),v1=o_∧Qm ((18,.bool v1)::QD [0] f) f_∧Qe l l_∧μ=μ_) ?_ ?_
 ·intro _ h302 h;refine G0 5 E ?_;refine Br h302 8 E E (fun hc1 h302=> ?_) (fun hc1 h302=> ?_)
  ·refine G2 11 [8,13] [] [] E ?_;cases h302;exact Ce E ⟨_,rfl,fE E,sE [] 0 E,rfl⟩
  refine G2 5 [] [8] [] E ?_;refine Br h302 13 E E (fun hc2 h302=> ?_) (fun hc2 h302=> ?_)
  ·refine G2 6 [13] [] [] E ?_;cases h302;exact Ce E ⟨_,rfl,fE E,sE [] 0 E,rfl⟩
  obtain ⟨_,hb1,h302⟩:=Qg h302;refine G2 1 [] [13] [] E (Rdo E E (QhH YB E E E E hb1 (Q0 0 E (Cl E ?_))));obtain ⟨_,hx1,h302⟩:=Qg h302;refine Qad  hx1 ((Q2 3 [] [13] [] E ?_));cases h302;exact Ce E ⟨_,rfl,fE E,sE [] 0 E,rfl⟩
 rintro _ _ _ _ h _ ⟨v1,rfl,hF302,hS302,rfl⟩;refine Atn 0 hF302 hS302 E E ?_;refine Br h 18 E E (fun hc3 h=> ?_) (fun hc3 h=> ?_)
 ·refine G2 5 [18] [] [] E ?_;cases h;exact Rt [] E E (Ug [] 0 hR)
 refine G2 7 [] [18] [] E ?_;refine Cut h (fun f l o_ f_ μ_ l_=>(.inl ())=o_∧Qm ([]) f_∧Qe l l_∧μ=μ_) ?_ ?_
 ·intro _ h304 h;refine Lp h304 (fun f l (i1:Int) f_ μ_ l_=>Qm ((3,.int .i64 i1)::QD [0] f) f_∧Qe l l_∧μ=μ_) ⟨fE E,sE [] 0 E,E⟩ ?_;rintro i1 _ _ _ _ _ ⟨hF307,hS307,rfl⟩ hb307 hq307;unfold J8 at hb307;refine Atn 0 hF307 hS307 E E (G0 8 E ?_);refine Br hb307 22 E E (fun hc4 hb307=> ?_) (fun hc4 hb307=> ?_)
  ·obtain ⟨
       _,hb2,hb307⟩:=Qg hb307
   refine G2 8 [22] [] [] E (Rdo E E (QhH YB E E E E hb2 (Q0 3 E ?_)));refine Cut hb307 (fun f l o_ f_ μ_ l_=> ∃(v2:Bool),v2=o_∧Qm ((50,.bool v2)::QD [0,3] f) f_∧Qe l l_∧μ=μ_) ?_ ?_
   ·intro _ h308 hb307;refine G0 2 E (Cl E ?_);obtain ⟨_,hx2,h308⟩:=Qg h308;refine Qad  hx2 ((Q0 2 E ?_));refine Br h308 31 E E (fun hc5 h308=> ?_) (fun hc5 h308=> ?_)
    ·refine G2 3 [31] [] [] E ?_;refine Br h308 34 E E (fun hc6 h308=> ?_) (fun hc6 h308=> ?_)
     ·refine G2 9 [31,34,39] [] [] E ?_;refine Br h308 43 E E (fun hc7 h308=> ?_) (fun hc7 h308=> ?_)
      ·refine G2 4 [43] [] [] E ?_;refine Br h308 47 E E (fun hc8 h308=> ?_) (fun hc8 h308=> ?_)
       ·refine G2 4 [47] [] [] E ?_;cases h308;exact Ce E ⟨_,rfl,fE E,sE [] 0 E,rfl⟩
       refine G2 4 [] [47] [] E ?_;cases h308;exact Ce E ⟨_,rfl,fE E,sE [] 0 E,rfl⟩
      refine G2 8 [] [43,47] [] E ?_;cases h308;exact Ce E ⟨_,rfl,fE E,sE [] 0 E,rfl⟩
     refine G2 5 [31] [34] [] E ?_;refine Br h308 39 E E (fun hc9 h308=> ?_) (fun hc9 h308=> ?_)
     ·refine G2 4 [39] [] [] E ?_;refine Br h308 43 E E (fun hc10 h308=> ?_) (fun hc10 h308=> ?_)
      ·refine G2 4 [43] [] [] E ?_;refine Br h308 47 E E (fun hc11 h308=> ?_) (fun hc11 h308=> ?_)
       ·refine G2 4 [47] [] [] E ?_;cases h308;exact Ce E ⟨_,rfl,fE E,sE [] 0 E,rfl⟩
       refine G2 4 [] [47] [] E ?_;cases h308;exact Ce E ⟨_,rfl,fE E,sE [] 0 E,rfl⟩
      refine G2 8 [] [43,47] [] E ?_;cases h308;exact Ce E ⟨_,rfl,fE E,sE [] 0 E,rfl⟩
     refine G2 12 [] [39,43,47] [] E ?_;cases h308;exact Ce E ⟨_,rfl,fE E,sE [] 0 E,rfl⟩
    refine G2 20 [] [31,39,43,47] [] E ?_;cases h308;exact Ce E ⟨_,rfl,fE E,sE [] 0 E,rfl⟩
   rintro _ _ _ _ hb307 _ ⟨v2,rfl,hF308,hS308,rfl⟩;refine Atn 0 hF308 hS308 E E ?_;refine Br hb307 50 E E (fun hc12 hb307=> ?_) (fun hc12 hb307=> ?_)
   ·refine G2 5 [50] [] [] E ?_;cases hb307;have hq_:=hq307 _ E;subst hq_;replace h:=ZW h;cases h;exact Rt [] E E (Ug [] 0 hR)
   refine G2 8 [] [50] [] E ?_;cases hb307;exact Ce E ⟨_,rfl,fE E,sE [] 0 E,rfl⟩
  refine G2 2 [] [22] [] E ?_;cases hb307;have hq_:=hq307 _ E;subst hq_;exact Ce E ⟨rfl,fE E,sE [] 0 E,rfl⟩
 rintro _ _ _ _ h _ ⟨rfl,hF304,hS304,rfl⟩;replace h:=JD h;refine Atn 0 hF304 hS304 E E (G0 4 E ?_);cases h;exact Rt [] E E (Ug [] 0 hR)
theorem Qcf {F:Nat} {v1:Qk} {nodes1:Int} {materials1:Int}  {res1:Int}
   (h:JL F v1 nodes1 materials1=some res1)
  (hR:R (.int .i64 res1) μ (L)) :
  Fn Try.prog 45 [.agg #[.string v1.ID,.int .i64 v1.Depot,.int .i64 v1.Shift.From,.int .i64 v1.Shift.To,.int .i64 v1.Grams,.int .i64 v1.Kinds],.int .i64 nodes1,.int .i64 materials1] μ (L) R:=by
 unfold JL at h;refine FnS Try.func45 (by kernel_rfl) E Try.ntmps45 E E ?_;refine G0 2 E (Al E fun _=>Q1 8 [0] E (Cl E ?_));obtain ⟨_,hx1,h⟩:=Qg h;refine Qdi  hx1 ((Q0 3 E ?_));refine Br h 7 E E (fun hc1 h=> ?_) (fun hc1 h=> ?_)
 ·refine G2 5 [7] [] [] E ?_;cases h;exact Rt [] E E (Ug [] 1 hR)
 refine G2 2 [] [7] [] E ?_;refine Cut h (fun f l o_ f_ μ_ l_=> ∃(v2:Bool),v2=o_∧Qm ((12,.bool v2)::QD [2,3] f) f_∧Qe l l_∧μ=μ_) ?_ ?_
 ·intro _ h309 h;refine G1 5 [0] E ?_;refine Br h309 16 E E (fun hc2 h309=> ?_) (fun hc2 h309=> ?_)
  ·refine G2 7 [16] [] [] E ?_;cases h309;exact Ce E ⟨_,rfl,fE E,sE [some 0] 1 E,rfl⟩
  refine G2 7 [] [16] [0] E ?_;cases h309;exact Ce E ⟨_,rfl,fE E,sE [some 0] 1 E,rfl⟩
 rintro _ _ _ _ h _ ⟨v2,rfl,hF309,hS309,rfl⟩;refine Atn 1 hF309 hS309 E E ?_;refine Br h 12 E E (fun hc3 h=> ?_) (fun hc3 h=> ?_)
 ·refine G2 5 [12] [] [] E ?_;cases h;exact Rt [] E E (Ug [] 1 hR)
 refine G2 2 [] [12] [] E ?_;refine Cut h (fun f l o_ f_ μ_ l_=> ∃(v3:Bool),v3=o_∧Qm ((22,.bool v3)::QD [2,3] f) f_∧Qe l l_∧μ=μ_) ?_ ?_
 ·intro _ h312 h;refine G1 6 [0] E ?_;refine Br h312 27 E E (fun hc4 h312=> ?_) (fun hc4 h312=> ?_)
  ·refine G2 16 [27,36] [] [] E ?_;cases h312;exact Ce E ⟨_,rfl,fE E,sE [some 0] 1 E,rfl⟩
  refine G2 9 [] [27] [0,0] E ?_;refine Br h312 36 E E (fun hc5 h312=> ?_) (fun hc5 h312=> ?_)
  ·refine G2 7 [36] [] [] E ?_;cases h312;exact Ce E ⟨_,rfl,fE E,sE [some 0] 1 E,rfl⟩
  refine G2 7 [] [36] [0] E ?_;cases h312;exact Ce E ⟨_,rfl,fE E,sE [some 0] 1 E,rfl⟩
 rintro _ _ _ _ h _ ⟨v3,rfl,hF312,hS312,rfl⟩;refine Atn 1 hF312 hS312 E E ?_;refine Br h 22 E E (fun hc6 h=> ?_) (fun hc6 h=> ?_)
 ·refine G2 5 [22] [] [] E ?_;cases h;exact Rt [] E E (Ug [] 1 hR)
 refine G2 2 [] [22] [] E ?_;refine Cut h (fun f l o_ f_ μ_ l_=> ∃(v4:Bool),v4=o_∧Qm ((42,.bool v4)::QD [2,3] f) f_∧Qe l l_∧μ=μ_) ?_ ?_
 ·intro _ h315 h;refine G1 5 [0] E ?_;refine Br h315 46 E E (fun hc7 h315=> ?_) (fun hc7 h315=> ?_)
  ·refine G2 6 [46] [] [] E ?_;cases h315;exact Ce E ⟨_,rfl,fE E,sE [some 0] 1 E,rfl⟩
  refine G2 6 [] [46] [0] E ?_;cases h315;exact Ce E ⟨_,rfl,fE E,sE [some 0] 1 E,rfl⟩
 rintro _ _ _ _ h _ ⟨v4,rfl,hF315,hS315,rfl⟩;refine Atn 1 hF315 hS315 E E ?_;refine Br h 42 E E (fun hc8 h=> ?_) (fun hc8 h=> ?_)
 ·refine G2 5 [42] [] [] E ?_;cases h;exact Rt [] E E (Ug [] 1 hR)
 refine G2 2 [] [42] [] E ?_;refine Cut h (fun f l o_ f_ μ_ l_=> ∃(v5:Bool),v5=o_∧Qm ((51,.bool v5)::[]) f_∧Qe (Yr [] 1 l) l_∧μ=μ_) ?_ ?_
 ·intro _ h318 h;refine Dr _ QK.refl [(true,0),(true,1),(true,2),(true,3),(true,4),(true,5),(true,6),(true,7),(true,8),(true,9),(true,10)] (by kernel_rfl) (G1 4 [0] E ?_);refine Br h318 55 E E (fun hc9 h318=> ?_) (fun hc9 h318=> ?_)
  ·refine G2 8 [55] [] [] E ?_;cases h318;exact Ce E ⟨_,rfl,fE E,sE [] 1 E,rfl⟩
  refine G2 3 [] [55] [0] E (Rdo E E ?_);obtain ⟨_,hg1,h318⟩:=Qg h318;refine QhK E E E (WC hg1) (Q2 4 [] [55] [] E ?_);cases h318;exact Ce E ⟨_,rfl,fE E,sE [] 1 E,rfl⟩
 rintro _ _ _ _ h _ ⟨v5,rfl,hF318,hS318,rfl⟩;refine Atn 0 hF318 hS318 E E ?_;refine Br h 51 E E (fun hc10 h=> ?_) (fun hc10 h=> ?_)
 ·refine G2 5 [51] [] [] E ?_;cases h;exact Rt [] E E (Ug [] 0 hR)
 refine G2 7 [] [51] [] E ?_;cases h;exact Rt [] E E (Ug [] 0 hR)
theorem Qce {F:Nat} {l1:(List Qk)} {nodes1:Int} {materials1:Int} {A1:Option Addr} {c1:Nat} {res1:Int}
  (hl1:l1.length≤c1∧c1≤maxLen) (hA1:Rds Qv μ L A1 l1) (h:Jf F l1 nodes1 materials1=some res1)
  (hR:R (.int .i64 res1) μ (L)) :
  Fn Try.prog 32 [.slice A1 l1.length c1,.int .i64 nodes1,.int .i64 materials1] μ (L) R:=by
 unfold Jf at h;refine FnS Try.func32 (by kernel_rfl) E Try.ntmps32 E E ?_;refine G0 6 E ?_;refine Cut h (fun f l o_ f_ μ_ l_=> ∃(v1:Bool),v1=o_∧Qm ((26,.bool v1)::QD [0,1,2] f) f_∧Qe l l_∧μ=μ_) ?_ ?_
 ·intro _ h296 h;refine G0 4 E ?_;refine Br h296 15 E E (fun hc1 h296=> ?_) (fun hc1 h296=> ?_)
  ·refine G2 12 [15,19,23] [] [] E ?_;cases h296;exact Ce E ⟨_,rfl,fE E,sE [] 0 E,rfl⟩
  refine G2 4 [] [15] [] E ?_;refine Br h296 19 E E (fun hc2 h296=> ?_) (fun hc2 h296=> ?_)
  ·refine G2 8 [19,23] [] [] E ?_;cases h296;exact Ce E ⟨_,rfl,fE E,sE [] 0 E,rfl⟩
  refine G2 4 [] [19] [] E ?_;refine Br h296 23 E E (fun hc3 h296=> ?_) (fun hc3 h296=> ?_)
  ·refine G2 4 [23] [] [] E ?_;cases h296;exact Ce E ⟨_,rfl,fE E,sE [] 0 E,rfl⟩
  refine G2 4 [] [23] [] E ?_;cases h296;exact Ce E ⟨_,rfl,fE E,sE [] 0 E,rfl⟩
 rintro _ _ _ _ h _ ⟨v1,rfl,hF296,hS296,rfl⟩;refine Atn 0 hF296 hS296 E E ?_;refine Br h 26 E E (fun hc4 h=> ?_) (fun hc4 h=> ?_)
 ·refine G2 5 [26] [] [] E ?_;cases h;exact Rt [] E E (Ug [] 0 hR)
 refine G2 9 [] [26] [] E ?_;refine Br h 29 E E (fun hc5 h=> ?_) (fun hc5 h=> ?_)
 ·refine G2 5 [29] [] [] E ?_;cases h;exact Rt [] E E (Ug [] 0 hR)
 refine G2 9 [] [29] [] E ?_;refine Br h 32 E E (fun hc6 h=> ?_) (fun hc6 h=> ?_)
 ·refine G2 5 [32] [] [] E ?_;cases h;exact Rt [] E E (Ug [] 0 hR)
 refine G2 9 [] [32] [] E ?_;refine Cut h (fun f l o_ f_ μ_ l_=>(.inl ())=o_∧Qm (QD [0] f) f_∧Qe l l_∧μ=μ_) ?_ ?_
 ·intro _ h297 h;refine Lp h297 (fun f l (v2:Int) f_ μ_ l_=>Qm ((35,.int .i64 v2)::QD [0,1,2,33,34] f) f_∧Qe l l_∧μ=μ_) ⟨fE E,sE [] 0 E,E⟩ ?_;rintro v2 _ _ _ _ _ ⟨hF319,hS319,rfl⟩ hb319 hq319;unfold Zs at hb319;refine Atn 0 hF319 hS319 E E (G0 5 E ?_);refine Br hb319 36 E E (fun hc7 hb319=> ?_) (fun hc7 hb319=> ?_)
  ·refine G2 6 [36] [] [] E (Ix hb319 hA1 E E fun _ _ _ _ hr1 hc8 _ hb319=> ?_);obtain rfl:=hr1;refine Q3 1 [] [] [64] (Z1 hc8) E (Al E fun _=>Q1 7 [0,0] E (Cl E ?_));obtain ⟨_,hx2,hb319⟩:=Qg hb319;refine Qcf  hx2 ((Q0 7 E ?_));refine Br hb319 44 E E (fun hc9 hb319=> ?_) (fun hc9 hb319=> ?_)
   ·refine G2 6 [44] [] [] E ?_;cases hb319;have hq_:=hq319 _ E;subst hq_;replace h:=ZW h;cases h;exact Rt [] E E (Ug [] 1 hR)
   refine G2 7 [] [44] [] E ?_;cases hb319;exact Ce E ⟨_,rfl,fE E,sE [] 1 E,rfl⟩
  refine G2 2 [] [36] [] E ?_;cases hb319;have hq_:=hq319 _ E;subst hq_;exact Ce E ⟨rfl,fE E,sE [] 0 E,rfl⟩
 rintro _ _ _ _ h _ ⟨rfl,hF297,hS297,rfl⟩;replace h:=JD h;refine Atn 0 hF297 hS297 E E (G0 2 E (So E (QgB (fun g2=>Q0 9 E ?_))));refine Cut h (fun f l o_ f_ μ_ l_=>(.inl ())=o_∧Qm ([]) f_∧Qe (Yr [] 1 l) l_∧μ=μ_) ?_ ?_
 ·intro _ h323 h;refine Lp h323 (fun f l (j_:(List (ByteArray×Bool))×Int) f_ μ_ l_=>WT j_ fun m1 v3=> ∃(es1:Array MapEntry) (cn1:Nat),Qm ((50,.int .i64 v3)::QD [10,48,49] f) f_∧Qe ([(g2,.map es1 cn1)]::Yr [] 1 l) l_∧Qbw Value.bool es1 cn1 m1∧μ=μ_) ⟨#[],0,fE E,sE [some 0] 1 E,((Qbw.nil (enc:=Value.bool))),E⟩ ?_;rintro ⟨m1,v3⟩ _ _ _ _ _ ⟨es1,cn1,hF328,hS328,hM1,rfl⟩ hb328 hq328;unfold Zt at hb328;replace hb328:=Qi hb328;refine Atn 1 hF328 hS328 E E (G0 5 E ?_);refine Br hb328 51 E E (fun hc10 hb328=> ?_) (fun hc10 hb328=> ?_)
  ·refine G2 6 [51] [] [] E (Ix hb328 hA1 E E fun _ _ _ _ hr2 hc11 _ hb328=> ?_);obtain rfl:=hr2;refine Q3 1 [] [] [64] (Z1 (hc11.push)) E (Al E fun _=>Q1 8 [0,0] E (Rdo E E (QiO (zb:=false) YB E E E E E E E E (Jz.seg 1 0 E E) hM1 (Q0 1 E ?_))));refine Br hb328 57 E E (fun hc12 hb328=> ?_) (fun hc12 hb328=> ?_)
   ·refine G2 5 [57] [] [] E ?_;cases hb328;have hq_:=hq328 _ E;subst hq_;replace h:=ZW h;cases h;exact Rt [] E E (Ug [] 2 hR)
   refine G2 6 [] [57] [0] E (So E (Qch E E E (Qgu YB E E E E 1 (b:=true) E hM1 E fun es2 cn2 hM2=>Q0 6 E ?_)));cases hb328;exact Ce E ⟨_,rfl,es2,cn2,fE E,sE [some 1] 2 E,(hM2),rfl⟩
  refine G2 2 [] [51] [] E ?_;cases hb328;have hq_:=hq328 _ E;subst hq_;exact Ce E ⟨rfl,fE E,sE [] 1 E,rfl⟩
 rintro _ _ _ _ h _ ⟨rfl,hF323,hS323,rfl⟩;replace h:=JD h;refine Atn 0 hF323 hS323 E E (G0 4 E ?_);cases h;exact Rt [] E E (Ug [] 0 hR)
theorem Wm  {n1:Int} {low1:Int} {high1:Int}  {res1:Bool}
   (h:ZJ n1 low1 high1=some res1)
  (hR:R (.bool res1) μ (L)) :
  Fn Try.prog 58 [.int .i64 n1,.int .i64 low1,.int .i64 high1] μ (L) R:=by
 unfold ZJ at h;refine FnS Try.func58 (by kernel_rfl) E Try.ntmps58 E E ?_;refine G0 5 E ?_;refine Cut h (fun f l o_ f_ μ_ l_=> ∃(v1:Bool),v1=o_∧Qm ((6,.bool v1)::[]) f_∧Qe l l_∧μ=μ_) ?_ ?_
 ·intro _ h341 h;refine G0 5 E ?_;refine Br h341 10 E E (fun hc1 h341=> ?_) (fun hc1 h341=> ?_)
  ·refine G2 6 [10] [] [] E ?_;cases h341;exact Ce E ⟨_,rfl,fE E,sE [] 0 E,rfl⟩
  refine G2 6 [] [10] [] E ?_;cases h341;exact Ce E ⟨_,rfl,fE E,sE [] 0 E,rfl⟩
 rintro _ _ _ _ h _ ⟨v1,rfl,hF341,hS341,rfl⟩;refine Atn 0 hF341 hS341 E E ?_;cases h;exact Rt [] E E (Ug [] 0 hR)
theorem QdI  {x1:Qh} {nodes1:Int} {materials1:Int}  {res1:Int}
   (h:VU x1 nodes1 materials1=some res1)
  (hR:R (.int .i64 res1) μ (L)) :
  Fn Try.prog 46 [.agg #[.int .i64 x1.Container,.int .i64 x1.Node,.int .i64 x1.Kind,.int .i64 x1.Grams,.int .i64 x1.When.From,.int .i64 x1.When.To,.int .i64 x1.Service],.int .i64 nodes1,.int .i64 materials1] μ (L) R:=by
 unfold VU at h;refine FnS Try.func46 (by kernel_rfl) E Try.ntmps46 E E ?_;refine G0 2 E (Al E fun _=>Q0 5 E ?_);refine Cut h (fun f l o_ f_ μ_ l_=> ∃(v1:Bool),v1=o_∧Qm ((7,.bool v1)::QD [3] f) f_∧Qe l l_∧μ=μ_) ?_ ?_
 ·intro _ h340 h;refine G1 3 [0] E (Cl E ?_);obtain ⟨_,hx1,h340⟩:=Qg h340;refine Wm  hx1 ((Q0 2 E ?_));refine Br h340 12 E E (fun hc1 h340=> ?_) (fun hc1 h340=> ?_)
  ·refine G2 23 [12,17,23,28] [] [] E ?_;cases h340;exact Ce E ⟨_,rfl,fE E,sE [some 0] 1 E,rfl⟩
  refine G2 5 [] [12] [0] E ?_;refine Br h340 17 E E (fun hc2 h340=> ?_) (fun hc2 h340=> ?_)
  ·refine G2 18 [17,23,28] [] [] E ?_;cases h340;exact Ce E ⟨_,rfl,fE E,sE [some 0] 1 E,rfl⟩
  refine G2 6 [] [17] [0] E ?_;refine Br h340 23 E E (fun hc3 h340=> ?_) (fun hc3 h340=> ?_)
  ·refine G2 12 [23,28] [] [] E ?_;cases h340;exact Ce E ⟨_,rfl,fE E,sE [some 0] 1 E,rfl⟩
  refine G2 5 [] [23] [0] E ?_;refine Br h340 28 E E (fun hc4 h340=> ?_) (fun hc4 h340=> ?_)
  ·refine G2 7 [28] [] [] E ?_;cases h340;exact Ce E ⟨_,rfl,fE E,sE [some 0] 1 E,rfl⟩
  refine G2 7 [] [28] [0] E ?_;cases h340;exact Ce E ⟨_,rfl,fE E,sE [some 0] 1 E,rfl⟩
 rintro _ _ _ _ h _ ⟨v1,rfl,hF340,hS340,rfl⟩;refine Atn 1 hF340 hS340 E E ?_;refine Br h 7 E E (fun hc5 h=> ?_) (fun hc5 h=> ?_)
 ·refine G2 5 [7] [] [] E ?_;cases h;exact Rt [] E E (Ug [] 1 hR)
 refine G2 2 [] [7] [] E ?_;refine Cut h (fun f l o_ f_ μ_ l_=> ∃(v2:Bool),v2=o_∧Qm ((34,.bool v2)::[]) f_∧Qe (Yr [] 1 l) l_∧μ=μ_) ?_ ?_
 ·intro _ h344 h;refine G1 3 [0] E (Cl E ?_);obtain ⟨_,hx2,h344⟩:=Qg h344;refine Wm  hx2 ((Q0 2 E ?_));refine Br h344 39 E E (fun hc6 h344=> ?_) (fun hc6 h344=> ?_)
  ·refine G2 28 [39,45,54,60] [] [] E ?_;cases h344;exact Ce E ⟨_,rfl,fE E,sE [] 1 E,rfl⟩
  refine G2 6 [] [39] [0] E ?_;refine Br h344 45 E E (fun hc7 h344=> ?_) (fun hc7 h344=> ?_)
  ·refine G2 22 [45,54,60] [] [] E ?_;cases h344;exact Ce E ⟨_,rfl,fE E,sE [] 1 E,rfl⟩
  refine G2 9 [] [45] [0,0] E ?_;refine Br h344 54 E E (fun hc8 h344=> ?_) (fun hc8 h344=> ?_)
  ·refine G2 13 [54,60] [] [] E ?_;cases h344;exact Ce E ⟨_,rfl,fE E,sE [] 1 E,rfl⟩
  refine G2 6 [] [54] [0] E ?_;refine Br h344 60 E E (fun hc9 h344=> ?_) (fun hc9 h344=> ?_)
  ·refine G2 7 [60] [] [] E ?_;cases h344;exact Ce E ⟨_,rfl,fE E,sE [] 1 E,rfl⟩
  refine G2 2 [] [60] [0] E (Cl E ?_);obtain ⟨_,hx3,h344⟩:=Qg h344;refine Wm  hx3 ((Q2 4 [] [60] [] E ?_));cases h344;exact Ce E ⟨_,rfl,fE E,sE [] 1 E,rfl⟩
 rintro _ _ _ _ h _ ⟨v2,rfl,hF344,hS344,rfl⟩;refine Atn 0 hF344 hS344 E E ?_;refine Br h 34 E E (fun hc10 h=> ?_) (fun hc10 h=> ?_)
 ·refine G2 5 [34] [] [] E ?_;cases h;exact Rt [] E E (Ug [] 0 hR)
 refine G2 7 [] [34] [] E ?_;cases h;exact Rt [] E E (Ug [] 0 hR)
theorem QbC  {y1:Qh} {b1:Qh} {g1:Nat} {res1:Bool}
   (h:J5 y1 b1=some res1)
  (hR:R (.bool res1) μ ([(g1,.cells #[.int .i64 b1.Container,.int .i64 b1.Node,.int .i64 b1.Kind,.int .i64 b1.Grams,.int .i64 b1.When.From,.int .i64 b1.When.To,.int .i64 b1.Service] 79 (0,0))]::L)) :
  Fn Try.prog 48 [.agg #[.int .i64 y1.Container,.int .i64 y1.Node,.int .i64 y1.Kind,.int .i64 y1.Grams,.int .i64 y1.When.From,.int .i64 y1.When.To,.int .i64 y1.Service],.pointer (some ⟨g1,0,none⟩)] μ ([(g1,.cells #[.int .i64 b1.Container,.int .i64 b1.Node,.int .i64 b1.Kind,.int .i64 b1.Grams,.int .i64 b1.When.From,.int .i64 b1.When.To,.int .i64 b1.Service] 79 (0,0))]::L) R:=by
 unfold J5 at h;refine FnS Try.func48 (by kernel_rfl) E Try.ntmps48 E E ?_;refine G0 2 E (Al E fun _=>Q1 11 [0,1] E ?_);cases h;exact Rt [] E E (Ug [[1]] 2 hR)
theorem Wp  {s1:(List Qh)} {b1:Qh} {A1:Option Addr} {c1:Nat} {g1:Nat} {res1:Int}
  (hl1:s1.length≤c1∧c1≤maxLen) (hA1:Rds Qw μ L A1 s1) (h:YN s1 b1=some res1)
  (hR:R (.int .i64 res1) μ ([(g1,.cells #[.int .i64 b1.Container,.int .i64 b1.Node,.int .i64 b1.Kind,.int .i64 b1.Grams,.int .i64 b1.When.From,.int .i64 b1.When.To,.int .i64 b1.Service] 79 (0,0))]::L)) :
  Fn Try.prog 59 [.slice A1 s1.length c1,.func (.func 48) #[] #[.pointer (some ⟨g1,0,none⟩)]] μ ([(g1,.cells #[.int .i64 b1.Container,.int .i64 b1.Node,.int .i64 b1.Kind,.int .i64 b1.Grams,.int .i64 b1.When.From,.int .i64 b1.When.To,.int .i64 b1.Service] 79 (0,0))]::L) R:=by
 unfold YN at h;refine FnS Try.func59 (by kernel_rfl) E Try.ntmps59 E E ?_;refine G0 11 E ?_;refine Cut h (fun f l o_ f_ μ_ l_=>(.inl ())=o_∧Qm ([]) f_∧Qe l l_∧μ=μ_) ?_ ?_
 ·intro _ h357 h;refine Lp h357 (fun f l (v1:Int) f_ μ_ l_=>Qm ((8,.int .i64 v1)::QD [0,1,7] f) f_∧Qe l l_∧μ=μ_) ⟨fE E,sE [some 0] 1 E,E⟩ ?_;rintro v1 _ _ _ _ _ ⟨hF365,hS365,rfl⟩ hb365 hq365;unfold QZ at hb365;refine Atn 1 hF365 hS365 E E (G0 5 E ?_);refine Br hb365 9 E E (fun hc1 hb365=> ?_) (fun hc1 hb365=> ?_)
  ·refine G2 14 [9] [] [] E (Ix hb365 hA1 E E fun _ _ _ _ hr1 hc2 _ hb365=> ?_);obtain rfl:=hr1;refine Q3 1 [] [] [64] (Z1 (hc2.push)) E (Cl E ?_);obtain ⟨_,hx2,hb365⟩:=Qg hb365;refine QbC  hx2 ((Q0 1 E ?_));refine Br hb365 16 E E (fun hc3 hb365=> ?_) (fun hc3 hb365=> ?_)
   ·refine G2 6 [16] [] [] E ?_;cases hb365;have hq_:=hq365 _ E;subst hq_;replace h:=ZW h;cases h;exact Rt [] E E (Ug [[0]] 1 hR)
   refine G2 7 [] [16] [] E ?_;cases hb365;exact Ce E ⟨_,rfl,fE E,sE [some 0] 1 E,rfl⟩
  refine G2 2 [] [9] [] E ?_;cases hb365;have hq_:=hq365 _ E;subst hq_;exact Ce E ⟨rfl,fE E,sE [some 0] 1 E,rfl⟩
 rintro _ _ _ _ h _ ⟨rfl,hF357,hS357,rfl⟩;replace h:=JD h;refine Atn 1 hF357 hS357 E E (G0 4 E ?_);cases h;exact Rt [] E E (Ug [[0]] 1 hR)
theorem J0  {s1:(List Qh)} {b1:Qh} {A1:Option Addr} {c1:Nat} {g1:Nat} {res1:Bool}
  (hl1:s1.length≤c1∧c1≤maxLen) (hA1:Rds Qw μ L A1 s1) (h:QY s1 b1=some res1)
  (hR:R (.bool res1) μ ([(g1,.cells #[.int .i64 b1.Container,.int .i64 b1.Node,.int .i64 b1.Kind,.int .i64 b1.Grams,.int .i64 b1.When.From,.int .i64 b1.When.To,.int .i64 b1.Service] 79 (0,0))]::L)) :
  Fn Try.prog 47 [.slice A1 s1.length c1,.func (.func 48) #[] #[.pointer (some ⟨g1,0,none⟩)]] μ ([(g1,.cells #[.int .i64 b1.Container,.int .i64 b1.Node,.int .i64 b1.Kind,.int .i64 b1.Grams,.int .i64 b1.When.From,.int .i64 b1.When.To,.int .i64 b1.Service] 79 (0,0))]::L) R:=by
 unfold QY at h;refine FnS Try.func47 (by kernel_rfl) E Try.ntmps47 E E ?_;refine G0 8 E (Cl E ?_);obtain ⟨_,hx1,h⟩:=Qg h;refine Wp hl1 hA1 hx1 ((Q0 3 E ?_));cases h;exact Rt [] E E (Ug [[0]] 1 hR)
theorem QcE  {l1:(List Qh)} {nodes1:Int} {materials1:Int} {A1:Option Addr} {c1:Nat} {res1:Int}
  (hl1:l1.length≤c1∧c1≤maxLen) (hA1:Rds Qw μ L A1 l1) (h:J4 l1 nodes1 materials1=some res1)
  (hR:R (.int .i64 res1) μ (L)) :
  Fn Try.prog 33 [.slice A1 l1.length c1,.int .i64 nodes1,.int .i64 materials1] μ (L) R:=by
 unfold J4 at h;refine FnS Try.func33 (by kernel_rfl) E Try.ntmps33 E E ?_;refine G0 11 E ?_;refine Br h 14 E E (fun hc1 h=> ?_) (fun hc1 h=> ?_)
 ·refine G2 5 [14] [] [] E ?_;cases h;exact Rt [] E E (Ug [] 0 hR)
 refine G2 9 [] [14] [] E ?_;refine Cut h (fun f l o_ f_ μ_ l_=>(.inl ())=o_∧Qm (QD [0] f) f_∧Qe l l_∧μ=μ_) ?_ ?_
 ·intro _ h335 h;refine Lp h335 (fun f l (v1:Int) f_ μ_ l_=>Qm ((17,.int .i64 v1)::QD [0,1,2,15,16] f) f_∧Qe l l_∧μ=μ_) ⟨fE E,sE [] 0 E,E⟩ ?_;rintro v1 _ _ _ _ _ ⟨hF345,hS345,rfl⟩ hb345 hq345;unfold JM at hb345;refine Atn 0 hF345 hS345 E E (G0 5 E ?_);refine Br hb345 18 E E (fun hc2 hb345=> ?_) (fun hc2 hb345=> ?_)
  ·refine G2 6 [18] [] [] E (Ix hb345 hA1 E E fun _ _ _ _ hr1 hc3 _ hb345=> ?_);obtain rfl:=hr1;refine Q3 1 [] [] [64] (Z1 hc3) E (Al E fun _=>Q1 7 [0,0] E (Cl E ?_));obtain ⟨_,hx2,hb345⟩:=Qg hb345;refine QdI  hx2 ((Q0 7 E ?_));refine Br hb345 26 E E (fun hc4 hb345=> ?_) (fun hc4 hb345=> ?_)
   ·refine G2 6 [26] [] [] E ?_;cases hb345;have hq_:=hq345 _ E;subst hq_;replace h:=ZW h;cases h;exact Rt [] E E (Ug [] 1 hR)
   refine G2 7 [] [26] [] E ?_;cases hb345;exact Ce E ⟨_,rfl,fE E,sE [] 1 E,rfl⟩
  refine G2 2 [] [18] [] E ?_;cases hb345;have hq_:=hq345 _ E;subst hq_;exact Ce E ⟨rfl,fE E,sE [] 0 E,rfl⟩
 rintro _ _ _ _ h _ ⟨rfl,hF335,hS335,rfl⟩;replace h:=JD h;refine Atn 0 hF335 hS335 E E (G0 7 E ?_);refine Cut h (fun f l o_ f_ μ_ l_=>(.inl ())=o_∧Qm ([]) f_∧Qe l l_∧μ=μ_) ?_ ?_
 ·intro _ h348 h;refine Lp h348 (fun f l (v2:Int) f_ μ_ l_=>Qm ((31,.int .i64 v2)::QD [0,29,30] f) f_∧Qe l l_∧μ=μ_) ⟨fE E,sE [] 0 E,E⟩ ?_;rintro v2 _ _ _ _ _ ⟨hF374,hS374,rfl⟩ hb374 hq374;unfold Z8 at hb374;refine Atn 0 hF374 hS374 E E (G0 5 E ?_);refine Br hb374 32 E E (fun hc5 hb374=> ?_) (fun hc5 hb374=> ?_)
  ·refine G2 7 [32] [] [] E (Ix hb374 hA1 E E fun _ _ _ _ hr2 hc6 _ hb374=> ?_);obtain rfl:=hr2;refine Q3 1 [] [] [64] (Z1 hc6) E (Al E fun _=> ?_);obtain ⟨_,hs1,hb374⟩:=Qg hb374;refine Q1 7 [0] E (Rdo E E (WN E E E E E E hl1.1 hs1 ?_));have hA4:=Rds.pre hA1 hs1;have hl2:=V4 hl1 hs1;refine Q0 1 E (Cl E ?_);obtain ⟨_,hx4,hb374⟩:=Qg hb374;refine J0 hl2 hA4 hx4 ((Q0 1 E ?_));refine Br hb374 40 E E (fun hc7 hb374=> ?_) (fun hc7 hb374=> ?_)
   ·refine G2 5 [40] [] [] E ?_;cases hb374;have hq_:=hq374 _ E;subst hq_;replace h:=ZW h;cases h;exact Rt [] E E (Ug [] 1 hR)
   refine G2 7 [] [40] [] E ?_;cases hb374;exact Ce E ⟨_,rfl,fE E,sE [] 1 E,rfl⟩
  refine G2 2 [] [32] [] E ?_;cases hb374;have hq_:=hq374 _ E;subst hq_;exact Ce E ⟨rfl,fE E,sE [] 0 E,rfl⟩
 rintro _ _ _ _ h _ ⟨rfl,hF348,hS348,rfl⟩;replace h:=JD h;refine Atn 0 hF348 hS348 E E (G0 4 E ?_);cases h;exact Rt [] E E (Ug [] 0 hR)
theorem Qba {F:Nat} {p1:Qc} {A1:Option Addr} {c1:Nat} {A2:Option Addr} {c2:Nat} {A3:Option Addr} {c3:Nat} {res1:Int}
  (hl1:p1.Road.Edges.length≤c1∧c1≤maxLen) (hA1:Qn QE μ A1 p1.Road.Edges) (hl2:p1.Vehicles.length≤c2∧c2≤maxLen) (hA2:Qn Qv μ A2 p1.Vehicles) (hl3:p1.Demands.length≤c3∧c3≤maxLen) (hA3:Qn Qw μ A3 p1.Demands) (h:Ws F p1=some res1)
  (hR: ∀(μ':Gh) ,μ.le μ'→R (.int .i64 res1) μ' (L)) :
  Fn Try.prog 20 [.agg #[.int .i64 p1.Road.Nodes,.slice A1 p1.Road.Edges.length c1,.slice A2 p1.Vehicles.length c2,.slice A3 p1.Demands.length c3,.int .i64 p1.Unload,.int .i64 p1.UnloadSecs]] μ (L) R:=by
 unfold Ws at h;refine FnS Try.func20 (by kernel_rfl) E Try.ntmps20 E E ?_;refine G0 2 E (Al E fun _=>Q1 7 [0] E (Cl E ?_));obtain ⟨_,hx1,h⟩:=Qg h;refine Qa6 hl1 hA1 hx1 (fun _ hm_1=> ?_);replace hA2:=hA2.mono hm_1;replace hA3:=hA3.mono hm_1;refine Q0 7 E ?_;refine Br h 10 E E (fun hc1 h=> ?_) (fun hc1 h=> ?_)
 ·refine G2 6 [10] [] [] E ?_;cases h;exact Rt [] E E (Ug [] 1 (hR _ hm_1))
 refine G2 10 [] [10] [0,0] E (Cl E ?_);obtain ⟨_,hx2,h⟩:=Qg h;refine Qce hl2 (Qn.rds hA2 _) hx2 ((Q0 7 E ?_));refine Br h 19 E E (fun hc2 h=> ?_) (fun hc2 h=> ?_)
 ·refine G2 6 [19] [] [] E ?_;cases h;exact Rt [] E E (Ug [] 1 (hR _ hm_1))
 refine G2 10 [] [19] [0,0] E (Cl E ?_);obtain ⟨_,hx3,h⟩:=Qg h;refine QcE hl3 (Qn.rds hA3 _) hx3 ((Q0 7 E ?_));refine Br h 28 E E (fun hc3 h=> ?_) (fun hc3 h=> ?_)
 ·refine G2 6 [28] [] [] E ?_;cases h;exact Rt [] E E (Ug [] 1 (hR _ hm_1))
 refine G2 5 [] [28] [] E ?_;refine Cut h (fun f l o_ f_ μ_ l_=> ∃(v2:Bool),v2=o_∧Qm ((30,.bool v2)::QD [1] f) f_∧Qe l l_) ?_ ?_
 ·intro _ h387 h;refine G1 5 [0] E ?_;refine Br h387 34 E E (fun hc4 h387=> ?_) (fun hc4 h387=> ?_)
  ·refine G2 9 [34] [] [] E ?_;cases h387;exact Ce E ⟨_,rfl,fE E,sE [some 0] 1 E⟩
  refine G2 9 [] [34] [0,0] E ?_;cases h387;exact Ce E ⟨_,rfl,fE E,sE [some 0] 1 E⟩
 rintro _ _ _ _ h hm387 ⟨v2,rfl,hF387,hS387⟩;refine Atn 1 hF387 hS387 E E ?_;refine Br h 30 E E (fun hc5 h=> ?_) (fun hc5 h=> ?_)
 ·refine G2 5 [30] [] [] E ?_;cases h;exact Rt [] E E (Ug [] 1 (hR _ (hm_1.trans hm387)))
 refine G2 2 [] [30] [] E ?_;refine Cut h (fun f l o_ f_ μ_ l_=> ∃(v3:Bool),v3=o_∧Qm ((42,.bool v3)::[]) f_∧Qe (Yr [] 1 l) l_) ?_ ?_
 ·intro _ h390 h;refine G1 5 [0] E ?_;refine Br h390 46 E E (fun hc6 h390=> ?_) (fun hc6 h390=> ?_)
  ·refine G2 6 [46] [] [] E ?_;cases h390;exact Ce E ⟨_,rfl,fE E,sE [] 1 E⟩
  refine G2 6 [] [46] [0] E ?_;cases h390;exact Ce E ⟨_,rfl,fE E,sE [] 1 E⟩
 rintro _ _ _ _ h hm390 ⟨v3,rfl,hF390,hS390⟩;refine Atn 0 hF390 hS390 E E ?_;refine Br h 42 E E (fun hc7 h=> ?_) (fun hc7 h=> ?_)
 ·refine G2 5 [42] [] [] E ?_;cases h;exact Rt [] E E (Ug [] 0 (hR _ (hm_1.trans (hm387.trans hm390))))
 refine G2 7 [] [42] [] E ?_;cases h;exact Rt [] E E (Ug [] 0 (hR _ (hm_1.trans (hm387.trans hm390))))
theorem Qb2  {d1:Int} {b1:Qc} {g1:Nat} {A1:Option Addr} {c1:Nat} {A2:Option Addr} {c2:Nat} {A3:Option Addr} {c3:Nat} {res1:Bool}
  (hl1:b1.Road.Edges.length≤c1∧c1≤maxLen) (hA1:Qn QE μ A1 b1.Road.Edges) (hl2:b1.Vehicles.length≤c2∧c2≤maxLen) (hA2:Qn Qv μ A2 b1.Vehicles) (hl3:b1.Demands.length≤c3∧c3≤maxLen) (hA3:Qn Qw μ A3 b1.Demands) (h:Wv d1 b1=some res1)
  (hR:R (.bool res1) μ ([(g1,.cells #[.int .i64 b1.Road.Nodes,.slice A1 b1.Road.Edges.length c1,.slice A2 b1.Vehicles.length c2,.slice A3 b1.Demands.length c3,.int .i64 b1.Unload,.int .i64 b1.UnloadSecs] 28 (0,0))]::L)) :
  Fn Try.prog 26 [.int .i64 d1,.pointer (some ⟨g1,0,none⟩)] μ ([(g1,.cells #[.int .i64 b1.Road.Nodes,.slice A1 b1.Road.Edges.length c1,.slice A2 b1.Vehicles.length c2,.slice A3 b1.Demands.length c3,.int .i64 b1.Unload,.int .i64 b1.UnloadSecs] 28 (0,0))]::L) R:=by
 unfold Wv at h;refine FnS Try.func26 (by kernel_rfl) E Try.ntmps26 E E ?_;refine G0 5 E ?_;refine Cut h (fun f l o_ f_ μ_ l_=> ∃(v1:Bool),v1=o_∧Qm ((3,.bool v1)::[]) f_∧Qe l l_∧μ=μ_) ?_ ?_
 ·intro _ h413 h;refine G0 4 E ?_;refine Br h413 6 E E (fun hc1 h413=> ?_) (fun hc1 h413=> ?_)
  ·refine G2 8 [6] [] [] E ?_;cases h413;exact Ce E ⟨_,rfl,fE E,sE [some 0] 1 E,rfl⟩
  refine G2 8 [] [6] [0] E ?_;cases h413;exact Ce E ⟨_,rfl,fE E,sE [some 0] 1 E,rfl⟩
 rintro _ _ _ _ h _ ⟨v1,rfl,hF413,hS413,rfl⟩;refine Atn 1 hF413 hS413 E E ?_;cases h;exact Rt [] E E (Ug [[0]] 1 hR)
theorem WW  {s1:(List Int)} {b1:Qc} {A1:Option Addr} {c1:Nat} {g1:Nat} {A2:Option Addr} {c2:Nat} {A3:Option Addr} {c3:Nat} {A4:Option Addr} {c4:Nat} {res1:Int}
  (hl1:s1.length≤c1∧c1≤maxLen) (hA1:Rds QV μ L A1 s1) (hl2:b1.Road.Edges.length≤c2∧c2≤maxLen) (hA2:Qn QE μ A2 b1.Road.Edges) (hl3:b1.Vehicles.length≤c3∧c3≤maxLen) (hA3:Qn Qv μ A3 b1.Vehicles) (hl4:b1.Demands.length≤c4∧c4≤maxLen) (hA4:Qn Qw μ A4 b1.Demands) (h:Y8 s1 b1=some res1)
  (hR:R (.int .i64 res1) μ ([(g1,.cells #[.int .i64 b1.Road.Nodes,.slice A2 b1.Road.Edges.length c2,.slice A3 b1.Vehicles.length c3,.slice A4 b1.Demands.length c4,.int .i64 b1.Unload,.int .i64 b1.UnloadSecs] 28 (0,0))]::L)) :
  Fn Try.prog 40 [.slice A1 s1.length c1,.func (.func 26) #[] #[.pointer (some ⟨g1,0,none⟩)]] μ ([(g1,.cells #[.int .i64 b1.Road.Nodes,.slice A2 b1.Road.Edges.length c2,.slice A3 b1.Vehicles.length c3,.slice A4 b1.Demands.length c4,.int .i64 b1.Unload,.int .i64 b1.UnloadSecs] 28 (0,0))]::L) R:=by
 unfold Y8 at h;refine FnS Try.func40 (by kernel_rfl) E Try.ntmps40 E E ?_;refine G0 11 E ?_;refine Cut h (fun f l o_ f_ μ_ l_=>(.inl ())=o_∧Qm ([]) f_∧Qe l l_∧μ=μ_) ?_ ?_
 ·intro _ h404 h;refine Lp h404 (fun f l (v1:Int) f_ μ_ l_=>Qm ((8,.int .i64 v1)::QD [0,1,7] f) f_∧Qe l l_∧μ=μ_) ⟨fE E,sE [some 0] 1 E,E⟩ ?_;rintro v1 _ _ _ _ _ ⟨hF417,hS417,rfl⟩ hb417 hq417;unfold Yl at hb417;refine Atn 1 hF417 hS417 E E (G0 5 E ?_);refine Br hb417 9 E E (fun hc1 hb417=> ?_) (fun hc1 hb417=> ?_)
  ·refine G2 14 [9] [] [] E (Ix hb417 hA1 E E fun _ _ _ _ hr1 hc2 _ hb417=> ?_);obtain rfl:=hr1;refine Q3 1 [] [] [64] (Z1 (hc2.push)) E (Cl E ?_);obtain ⟨_,hx2,hb417⟩:=Qg hb417;refine Qb2 hl2 hA2 hl3 hA3 hl4 hA4 hx2 ((Q0 1 E ?_));refine Br hb417 16 E E (fun hc3 hb417=> ?_) (fun hc3 hb417=> ?_)
   ·refine G2 6 [16] [] [] E ?_;cases hb417;have hq_:=hq417 _ E;subst hq_;replace h:=ZW h;cases h;exact Rt [] E E (Ug [[0]] 1 hR)
   refine G2 7 [] [16] [] E ?_;cases hb417;exact Ce E ⟨_,rfl,fE E,sE [some 0] 1 E,rfl⟩
  refine G2 2 [] [9] [] E ?_;cases hb417;have hq_:=hq417 _ E;subst hq_;exact Ce E ⟨rfl,fE E,sE [some 0] 1 E,rfl⟩
 rintro _ _ _ _ h _ ⟨rfl,hF404,hS404,rfl⟩;replace h:=JD h;refine Atn 1 hF404 hS404 E E (G0 4 E ?_);cases h;exact Rt [] E E (Ug [[0]] 1 hR)
theorem Wo  {s1:(List Int)} {b1:Qc} {A1:Option Addr} {c1:Nat} {g1:Nat} {A2:Option Addr} {c2:Nat} {A3:Option Addr} {c3:Nat} {A4:Option Addr} {c4:Nat} {res1:Bool}
  (hl1:s1.length≤c1∧c1≤maxLen) (hA1:Rds QV μ L A1 s1) (hl2:b1.Road.Edges.length≤c2∧c2≤maxLen) (hA2:Qn QE μ A2 b1.Road.Edges) (hl3:b1.Vehicles.length≤c3∧c3≤maxLen) (hA3:Qn Qv μ A3 b1.Vehicles) (hl4:b1.Demands.length≤c4∧c4≤maxLen) (hA4:Qn Qw μ A4 b1.Demands) (h:Yk s1 b1=some res1)
  (hR:R (.bool res1) μ ([(g1,.cells #[.int .i64 b1.Road.Nodes,.slice A2 b1.Road.Edges.length c2,.slice A3 b1.Vehicles.length c3,.slice A4 b1.Demands.length c4,.int .i64 b1.Unload,.int .i64 b1.UnloadSecs] 28 (0,0))]::L)) :
  Fn Try.prog 25 [.slice A1 s1.length c1,.func (.func 26) #[] #[.pointer (some ⟨g1,0,none⟩)]] μ ([(g1,.cells #[.int .i64 b1.Road.Nodes,.slice A2 b1.Road.Edges.length c2,.slice A3 b1.Vehicles.length c3,.slice A4 b1.Demands.length c4,.int .i64 b1.Unload,.int .i64 b1.UnloadSecs] 28 (0,0))]::L) R:=by
 unfold Yk at h;refine FnS Try.func25 (by kernel_rfl) E Try.ntmps25 E E ?_;refine G0 8 E (Cl E ?_);obtain ⟨_,hx1,h⟩:=Qg h;refine WW hl1 hA1 hl2 hA2 hl3 hA3 hl4 hA4 hx1 ((Q0 3 E ?_));cases h;exact Rt [] E E (Ug [[0]] 1 hR)
theorem Qa0  {s1:(List Int)} {v1:Int} {A1:Option Addr} {c1:Nat} {res1:Int}
  (hl1:s1.length≤c1∧c1≤maxLen) (hA1:Rds QV μ L A1 s1) (h:Jy s1 v1=some res1)
  (hR:R (.int .i64 res1) μ (L)) :
  Fn Try.prog 41 [.slice A1 s1.length c1,.int .i64 v1] μ (L) R:=by
 unfold Jy at h;refine FnS Try.func41 (by kernel_rfl) E Try.ntmps41 E E ?_;refine G0 11 E ?_;refine Cut h (fun f l o_ f_ μ_ l_=>(.inl ())=o_∧Qm ([]) f_∧Qe l l_∧μ=μ_) ?_ ?_
 ·intro _ h432 h;refine Lp h432 (fun f l (v2:Int) f_ μ_ l_=>Qm ((8,.int .i64 v2)::QD [0,1,7] f) f_∧Qe l l_∧μ=μ_) ⟨fE E,sE [] 0 E,E⟩ ?_;rintro v2 _ _ _ _ _ ⟨hF434,hS434,rfl⟩ hb434 hq434;unfold Zk at hb434;refine Atn 0 hF434 hS434 E E (G0 5 E ?_);refine Br hb434 9 E E (fun hc1 hb434=> ?_) (fun hc1 hb434=> ?_)
  ·refine G2 14 [9] [] [] E (Ix hb434 hA1 E E fun _ _ _ _ hr1 hc2 _ hb434=> ?_);obtain rfl:=hr1;refine Q3 3 [] [] [64] (Z1 hc2) E ?_;refine Br hb434 16 E E (fun hc3 hb434=> ?_) (fun hc3 hb434=> ?_)
   ·refine G2 6 [16] [] [] E ?_;cases hb434;have hq_:=hq434 _ E;subst hq_;replace h:=ZW h;cases h;exact Rt [] E E (Ug [] 0 hR)
   refine G2 7 [] [16] [] E ?_;cases hb434;exact Ce E ⟨_,rfl,fE E,sE [] 0 E,rfl⟩
  refine G2 2 [] [9] [] E ?_;cases hb434;have hq_:=hq434 _ E;subst hq_;exact Ce E ⟨rfl,fE E,sE [] 0 E,rfl⟩
 rintro _ _ _ _ h _ ⟨rfl,hF432,hS432,rfl⟩;replace h:=JD h;refine Atn 0 hF432 hS432 E E (G0 4 E ?_);cases h;exact Rt [] E E (Ug [] 0 hR)
theorem Wb  {s1:(List Int)} {v1:Int} {A1:Option Addr} {c1:Nat} {res1:Bool}
  (hl1:s1.length≤c1∧c1≤maxLen) (hA1:Rds QV μ L A1 s1) (h:Yu s1 v1=some res1)
  (hR:R (.bool res1) μ (L)) :
  Fn Try.prog 27 [.slice A1 s1.length c1,.int .i64 v1] μ (L) R:=by
 unfold Yu at h;refine FnS Try.func27 (by kernel_rfl) E Try.ntmps27 E E ?_;refine G0 8 E (Cl E ?_);obtain ⟨_,hx1,h⟩:=Qg h;refine Qa0 hl1 hA1 hx1 ((Q0 3 E ?_));cases h;exact Rt [] E E (Ug [] 0 hR)
theorem W5 {F:Nat} {p1:Qc} {vehicle1:Int} {demands1:(List Int)} {A1:Option Addr} {c1:Nat} {A2:Option Addr} {c2:Nat} {A3:Option Addr} {c3:Nat} {A4:Option Addr} {c4:Nat} {res1:Int}
  (hl1:p1.Road.Edges.length≤c1∧c1≤maxLen) (hA1:Qn QE μ A1 p1.Road.Edges) (hl2:p1.Vehicles.length≤c2∧c2≤maxLen) (hA2:Qn Qv μ A2 p1.Vehicles) (hl3:p1.Demands.length≤c3∧c3≤maxLen) (hA3:Qn Qw μ A3 p1.Demands) (hl4:demands1.length≤c4∧c4≤maxLen) (hA4:Rds QV μ L A4 demands1) (h:Jm F p1 vehicle1 demands1=some res1)
  (hR: ∀(μ':Gh) ,μ.le μ'→R (.int .i64 res1) μ' (L)) :
  Fn Try.prog 18 [.agg #[.int .i64 p1.Road.Nodes,.slice A1 p1.Road.Edges.length c1,.slice A2 p1.Vehicles.length c2,.slice A3 p1.Demands.length c3,.int .i64 p1.Unload,.int .i64 p1.UnloadSecs],.int .i64 vehicle1,.slice A4 demands1.length c4] μ (L) R:=by
 unfold Jm at h;refine FnS Try.func18 (by kernel_rfl) E Try.ntmps18 E E ?_;refine G0 2 E (Al E fun _=>Q1 6 [0] E (Cl E ?_));obtain ⟨_,hx1,h⟩:=Qg h;refine Qba hl1 hA1 hl2 hA2 hl3 hA3 hx1 (fun _ hm_1=> ?_);replace hA1:=hA1.mono hm_1;replace hA2:=hA2.mono hm_1;replace hA3:=hA3.mono hm_1;replace hA4:=hA4.mono hm_1;refine Q0 7 E ?_;refine Br h 13 E E (fun hc1 h=> ?_) (fun hc1 h=> ?_)
 ·refine G2 6 [13] [] [] E ?_;cases h;exact Rt [] E E (Ug [] 1 (hR _ hm_1))
 refine G2 4 [] [13] [] E ?_;refine Cut h (fun f l o_ f_ μ_ l_=> ∃(v2:Bool),v2=o_∧Qm ((23,.bool v2)::QD [2,3] f) f_∧Qe l l_) ?_ ?_
 ·intro _ h443 h;refine G0 4 E ?_;refine Br h443 17 E E (fun hc2 h443=> ?_) (fun hc2 h443=> ?_)
  ·refine G2 7 [17] [] [] E ?_;cases h443;exact Ce E ⟨_,rfl,fE E,sE [some 0] 1 E⟩
  refine G2 7 [] [17] [0] E ?_;cases h443;exact Ce E ⟨_,rfl,fE E,sE [some 0] 1 E⟩
 rintro _ _ _ _ h hm443 ⟨v2,rfl,hF443,hS443⟩;replace hA1:=hA1.mono hm443;replace hA2:=hA2.mono hm443;replace hA3:=hA3.mono hm443;replace hA4:=hA4.mono hm443;refine Atn 1 hF443 hS443 E E ?_;refine Br h 23 E E (fun hc3 h=> ?_) (fun hc3 h=> ?_)
 ·refine G2 5 [23] [] [] E ?_;cases h;exact Rt [] E E (Ug [] 1 (hR _ (hm_1.trans hm443)))
 refine G2 9 [] [23] [] E ?_;refine Br h 26 E E (fun hc4 h=> ?_) (fun hc4 h=> ?_)
 ·refine G2 5 [26] [] [] E ?_;cases h;exact Rt [] E E (Ug [] 1 (hR _ (hm_1.trans hm443)))
 refine G2 7 [] [26] [] E (Cl E ?_);obtain ⟨_,hx2,h⟩:=Qg h;refine Wo hl4 hA4 hl1 hA1 hl2 hA2 hl3 hA3 hx2 ((Q0 1 E ?_));refine Br h 29 E E (fun hc5 h=> ?_) (fun hc5 h=> ?_)
 ·refine G2 5 [29] [] [] E ?_;cases h;exact Rt [] E E (Ug [] 1 (hR _ (hm_1.trans hm443)))
 refine G2 9 [] [29] [] E ?_;refine Cut h (fun f l o_ f_ μ_ l_=>(.inl ())=o_∧Qm ([]) f_∧Qe (Yr [] 1 l) l_) ?_ ?_
 ·intro _ h447 h;refine Lp h447 (fun f l (v3:Int) f_ μ_ l_=>Qm ((32,.int .i64 v3)::QD [2,30,31] f) f_∧Qe (Yr [] 1 l) l_) ⟨fE E,sE [] 1 E⟩ ?_;rintro v3 _ _ _ _ hm451 ⟨hF451,hS451⟩ hb451 hq451;unfold ZU at hb451;replace hA4:=hA4.mono hm451;refine Atn 0 hF451 hS451 E E (G0 5 E ?_);refine Br hb451 33 E E (fun hc6 hb451=> ?_) (fun hc6 hb451=> ?_)
  ·refine G2 7 [33] [] [] E (Ix hb451 hA4 E E fun _ _ _ _ hr1 hc7 _ hb451=> ?_);obtain rfl:=hr1;obtain ⟨_,hs1,hb451⟩:=Qg hb451;refine Q3 8 [] [] [64] (Z1 hc7) E (Rdo E E (WN E E E E E E hl4.1 hs1 ?_));have hA6:=Rds.pre hA4 hs1;have hl5:=V4 hl4 hs1;refine Q0 1 E (Cl E ?_);obtain ⟨_,hx4,hb451⟩:=Qg hb451;refine Wb hl5 hA6 hx4 ((Q0 1 E ?_));refine Br hb451 41 E E (fun hc8 hb451=> ?_) (fun hc8 hb451=> ?_)
   ·refine G2 5 [41] [] [] E ?_;cases hb451;have hq_:=hq451 _ E;subst hq_;replace h:=ZW h;cases h;exact Rt [] E E (Ug [] 0 (hR _ (hm_1.trans (hm443.trans hm451))))
   refine G2 7 [] [41] [] E ?_;cases hb451;exact Ce E ⟨_,rfl,fE E,sE [] 0 E⟩
  refine G2 2 [] [33] [] E ?_;cases hb451;have hq_:=hq451 _ E;subst hq_;exact Ce E ⟨rfl,fE E,sE [] 0 E⟩
 rintro _ _ _ _ h hm447 ⟨rfl,hF447,hS447⟩;replace h:=JD h;refine Atn 0 hF447 hS447 E E (G0 4 E ?_);cases h;exact Rt [] E E (Ug [] 0 (hR _ (hm_1.trans (hm443.trans hm447))))
theorem Qbu  {v1:Qk} {kind1:Int}  {res1:Bool}
   (h:Jc v1 kind1=some res1)
  (hR:R (.bool res1) μ (L)) :
  Fn Try.prog 49 [.agg #[.string v1.ID,.int .i64 v1.Depot,.int .i64 v1.Shift.From,.int .i64 v1.Shift.To,.int .i64 v1.Grams,.int .i64 v1.Kinds],.int .i64 kind1] μ (L) R:=by
 unfold Jc at h;refine FnS Try.func49 (by kernel_rfl) E Try.ntmps49 E E ?_;refine G0 2 E (Al E fun _=>Q0 3 E ?_);refine Cut h (fun f l o_ f_ μ_ l_=> ∃(v2:Bool),v2=o_∧Qm ((4,.bool v2)::[]) f_∧Qe (Yr [] 1 l) l_∧μ=μ_) ?_ ?_
 ·intro _ h587 h;refine G0 4 E ?_;refine Br h587 7 E E (fun hc1 h587=> ?_) (fun hc1 h587=> ?_)
  ·refine G2 4 [7] [] [] E ?_;refine Br h587 11 E E (fun hc2 h587=> ?_) (fun hc2 h587=> ?_)
   ·refine G2 3 [11] [] [0] E (Rdo E E ?_);obtain ⟨_,hg1,h587⟩:=Qg h587;refine QhL E E E (WC hg1) (Q0 0 E (Rdo E E ?_));refine Qja E E ⟨_,Qe7 _ _ _,?_⟩;refine Q2 4 [11] [] [] E ?_;cases h587;exact Ce E ⟨_,rfl,fE E,sE [] 1 E,rfl⟩
   refine G2 9 [] [11] [] E ?_;cases h587;exact Ce E ⟨_,rfl,fE E,sE [] 1 E,rfl⟩
  refine G2 13 [] [7,11] [] E ?_;cases h587;exact Ce E ⟨_,rfl,fE E,sE [] 1 E,rfl⟩
 rintro _ _ _ _ h _ ⟨v2,rfl,hF587,hS587,rfl⟩;refine Atn 0 hF587 hS587 E E ?_;cases h;exact Rt [] E E (Ug [] 0 hR)
theorem QbQ    {res1:Qd}
   (h:W1=some res1)
  (hR:R (.agg #[.int .i64 res1.Secs,.int .i64 res1.Meters]) μ (L)) :
  Fn Try.prog 80 [] μ (L) R:=by
 unfold W1 at h;refine FnS Try.func80 (by kernel_rfl) E Try.ntmps80 E E ?_;refine G0 2 E (Al E fun _=>Q1 6 [0] E ?_);cases h;exact Rt [0] E E (Ug [] 1 hR)
theorem V3    {res1:Qa}
   (h:ZO=some res1)
  (hR: ∀(v0:Value) (so0:Seg),Qb μ v0 res1 so0→R (v0) μ (so0::L)) :
  Fn Try.prog 81 [.func (.func 82) #[] #[]] μ (L) R:=by
 unfold ZO at h;refine FnS Try.func81 (by kernel_rfl) E Try.ntmps81 E E ?_;refine G0 8 E (Rdo E E (Qj6 YB E E E E (Q2 7 [] [4] [] E (Al E fun g1=>Q0 2 E ?_))));cases h;exact Rt [] E E (Ug [[0,99]] 1 (hR (.pointer (some ⟨g1,0,none⟩)) _ ⟨g1,none,0,[],rfl,rfl,Own.nil⟩))
theorem QaD  {a1:Qd} {b1:Qd}  {res1:Bool}
   (h:JX a1 b1=some res1)
  (hR:R (.bool res1) μ (L)) :
  Fn Try.prog 83 [.agg #[.int .i64 a1.Secs,.int .i64 a1.Meters],.agg #[.int .i64 b1.Secs,.int .i64 b1.Meters]] μ (L) R:=by
 unfold JX at h;refine FnS Try.func83 (by kernel_rfl) E Try.ntmps83 E E ?_;refine G0 2 E (Al E fun _=>Q0 0 E (Al E fun _=>Q0 3 E ?_));refine Cut h (fun f l o_ f_ μ_ l_=> ∃(v1:Bool),v1=o_∧Qm ((4,.bool v1)::[]) f_∧Qe (Yr [] 2 l) l_∧μ=μ_) ?_ ?_
 ·intro _ h795 h;refine Dr _ QK.refl [(true,0),(false,1),(true,2),(true,3),(true,4),(true,5),(true,6),(true,7),(true,8),(true,9),(true,10),(true,11),(true,12),(true,13),(true,14),(true,15),(true,16),(true,17),(true,18),(true,19),(true,20),(true,21),(true,22),(true,23),(true,24)] (by kernel_rfl) (G1 1 [0] E (Cl E ?_));obtain ⟨r1,hx1,h795⟩:=Qg h795;refine QbQ  hx1 (?_);refine ⟨QK.refl,?_⟩;refine Q0 0 E (Rdo E E (Qe2 E E (Ex.mk _ (QcG b1 r1) (Q0 1 E ?_))));refine Br h795 8 E E (fun hc1 h795=> ?_) (fun hc1 h795=> ?_)
  ·refine G2 22 [8,15] [] [] E ?_;cases h795;exact Ce E ⟨_,rfl,fE E,sE [] 2 E,rfl⟩
  refine G2 7 [] [8] [1,0] E ?_;refine Br h795 15 E E (fun hc2 h795=> ?_) (fun hc2 h795=> ?_)
  ·refine G2 15 [15] [] [] E ?_;cases h795;exact Ce E ⟨_,rfl,fE E,sE [] 2 E,rfl⟩
  refine G2 6 [] [15] [1,0] E ?_;refine Br h795 21 E E (fun hc3 h795=> ?_) (fun hc3 h795=> ?_)
  ·refine G2 9 [21] [15] [1,0] E ?_;cases h795;exact Ce E ⟨_,rfl,fE E,sE [] 2 E,rfl⟩
  refine G2 9 [] [15,21] [] E ?_;cases h795;exact Ce E ⟨_,rfl,fE E,sE [] 2 E,rfl⟩
 rintro _ _ _ _ h _ ⟨v1,rfl,hF795,hS795,rfl⟩;refine Atn 0 hF795 hS795 E E ?_;cases h;exact Rt [] E E (Ug [] 0 hR)
theorem VM  {a1:QC} {b1:QC}  {res1:Bool}
   (h:Jd a1 b1=some res1)
  (hR:R (.bool res1) μ (L)) :
  Fn Try.prog 82 [.agg #[.int .i64 a1.node,.int .i64 a1.leg.Secs,.int .i64 a1.leg.Meters],.agg #[.int .i64 b1.node,.int .i64 b1.leg.Secs,.int .i64 b1.leg.Meters]] μ (L) R:=by
 unfold Jd at h;refine FnS Try.func82 (by kernel_rfl) E Try.ntmps82 E E ?_;refine G0 2 E (Al E fun _=>Q0 0 E (Al E fun _=>Q0 3 E ?_));refine Cut h (fun f l o_ f_ μ_ l_=> ∃(v1:Bool),v1=o_∧Qm ((4,.bool v1)::[]) f_∧Qe (Yr [] 2 l) l_∧μ=μ_) ?_ ?_
 ·intro _ h792 h;refine G1 5 [1,0] E (Rdo E E (Qe2 E E (Ex.mk _ (Qaf a1.leg b1.leg) (Q0 1 E ?_))));refine Br h792 10 E E (fun hc1 h792=> ?_) (fun hc1 h792=> ?_)
  ·refine G2 4 [10] [] [1,0] E (Cl E ?_);obtain ⟨_,hx1,h792⟩:=Qg h792;refine QaD  hx1 ((Q2 3 [10] [] [] E ?_));cases h792;exact Ce E ⟨_,rfl,fE E,sE [] 2 E,rfl⟩
  refine G2 8 [] [10] [] E ?_;cases h792;exact Ce E ⟨_,rfl,fE E,sE [] 2 E,rfl⟩
 rintro _ _ _ _ h _ ⟨v1,rfl,hF792,hS792,rfl⟩;refine Atn 0 hF792 hS792 E E ?_;cases h;exact Rt [] E E (Ug [] 0 hR)
theorem Jh  {q1:Qa} {i1:Int} {k1:Int} {pv1:Value} {so1:Seg} {res1:Bool}
  (hP1:Qb μ pv1 q1 so1) (h:Yf q1 i1 k1=some res1)
  (hR:R (.bool res1) μ (so1::L)) :
  Fn Try.prog 88 [pv1,.int .i64 i1,.int .i64 k1] μ (so1::L) R:=by
 unfold Yf at h;refine FnS Try.func88 (by kernel_rfl) E Try.ntmps88 E E ?_;obtain ⟨g1,A1,c1,ch1,hv1,rfl,hO1⟩:=hP1;subst hv1;refine G0 5 E (In Qb.fl 0 2 E E E ?_);refine Cut h (fun f l o_ f_ μ_ l_=> ∃(f1:Int) (f2:Int) (f3:Int) (f4:Int) (f5:Int) (f6:Int) (f7:Int) (f8:Int) (g4:Nat) (g5:Nat),(f1,f2,f3,f4,f5,f6,f7,f8)=o_∧Qm ((7,.pointer (some ⟨g4,0,none⟩))::(8,.pointer (some ⟨g5,0,none⟩))::QD [0] f) f_∧Qe ([(g1,.cells #[.func (.func 82) #[] #[],.slice A1 q1.heap.length c1,.int .i64 q1.count] 165 (0,0))]::ch1::[(g4,.cells #[.int .i64 f1,.int .i64 f2,.int .i64 f3,.int .i64 f4] 167 (0,0))]::[(g5,.cells #[.int .i64 f5,.int .i64 f6,.int .i64 f7,.int .i64 f8] 167 (0,0))]::Yr [] 2 l) l_∧μ=μ_) ?_ ?_
 ·intro _ h748 h;refine Cd (WP.draw (id:=1) Qgz _ QK.refl E (AN.run (fuel:=4) (listed':=[true,true,true,true,true,true,true,true,true,true,true,true,true,true,false,false,false,false]) YB [(true,0),(true,1),(true,2),(true,3),(true,4),(true,5),(true,6),(true,7),(true,8),(true,9),(true,10),(true,11),(true,12),(true,13)] (by kernel_rfl) (by kernel_rfl) E (Qeq E (YE E (Pt E E (ZT E (Pt E E (ZS (o':=1) E E E E E E (Pt E E (Zu E E E (Ex.mk _ (ZQ.seg 0 0 E E E) (Pt E E (YE E ?_)))))))))))));refine Pt E E ?_;obtain ⟨x1,hx1,h748⟩:=Qg h748;obtain ⟨_,_,hA1,hr1,_,hc1⟩:=Rds.getI (Own.rds (L:=([(g1,.cells #[.func (.func 82) #[] #[],.slice A1 q1.heap.length c1,.int .i64 q1.count] 165 (0,0))]::ch1::L)) hO1 1 rfl) hx1;obtain rfl:=hr1;refine QcZ E E E E E E ⟨(ZN hx1).1,(ZN hx1).2.1⟩ hA1 (Pt E E (QaO E E E E (Ex.mk [.int .i64 x1.value.node,.int .i64 x1.value.leg.Secs,.int .i64 x1.value.leg.Meters,.int .i64 x1.n] ⟨rfl,hc1⟩ (Pt E E (YE E (Pt E E (ZT E (Pt E E (ZS (o':=1) E E E E E E (Pt E E (Zu E E E (Ex.mk _ (ZQ.seg 0 0 E E E) ?_))))))))))));refine Pt E E (YE E (Pt E E ?_));obtain ⟨x2,hx2,h748⟩:=Qg h748;obtain ⟨_,_,hA2,hr2,_,hc2⟩:=Rds.getI (Own.rds (L:=([(g1,.cells #[.func (.func 82) #[] #[],.slice A1 q1.heap.length c1,.int .i64 q1.count] 165 (0,0))]::ch1::L)) hO1 1 rfl) hx2;obtain rfl:=hr2;refine QcZ E E E E E E ⟨(ZN hx2).1,(ZN hx2).2.1⟩ hA2 (Pt E E (QaO E E E E (Ex.mk [.int .i64 x2.value.node,.int .i64 x2.value.leg.Secs,.int .i64 x2.value.leg.Meters,.int .i64 x2.n] ⟨rfl,hc2⟩ (Zz E (Qak ?_)))));refine Qkz YB (a:=14) (b:=15) (by kernel_rfl) ?_ ?_
  ·refine FO_ E E (Qbx (cs:= #[.int .i64 0,.int .i64 0,.int .i64 0,.int .i64 0]) E E (fun g2=> ?_));refine ⟨QK.more (QK.refl),?_⟩;refine Zz E (AN.run (fuel:=0) (listed':=[true,true,true,true,true,true,true,true,true,true,true,true,true,true,true,true,true,true]) YB [(false,15),(false,16),(false,17)] (by kernel_rfl) (by kernel_rfl) E (QdF E (Qbx (cs:= #[.int .i64 0,.int .i64 0,.int .i64 0,.int .i64 0]) E E (fun g3=> ?_))));refine ⟨QK.more (QK.more (QK.refl)),?_⟩;refine Zz E (QdF E (YM (vs:=[.int .i64 x1.value.node,.int .i64 x1.value.leg.Secs,.int .i64 x1.value.leg.Meters,.int .i64 x1.n]) E E E E E E (ST_ (L':=([(g3,.cells #[.int .i64 0,.int .i64 0,.int .i64 0,.int .i64 0] 167 (0,0))]::[(g2,.cells #[.int .i64 x1.value.node,.int .i64 x1.value.leg.Secs,.int .i64 x1.value.leg.Meters,.int .i64 x1.n] 167 (0,0))]::[(g1,.cells #[.func (.func 82) #[] #[],.slice A1 q1.heap.length c1,.int .i64 q1.count] 165 (0,0))]::ch1::L)) 1 0 E E E E ?_)));refine ⟨QK.more (QK.more (QK.refl)),?_⟩;refine W4 (QdF E (YM (vs:=[.int .i64 x2.value.node,.int .i64 x2.value.leg.Secs,.int .i64 x2.value.leg.Meters,.int .i64 x2.n]) E E E E E E (ST_ (L':=([(g3,.cells #[.int .i64 x2.value.node,.int .i64 x2.value.leg.Secs,.int .i64 x2.value.leg.Meters,.int .i64 x2.n] 167 (0,0))]::[(g2,.cells #[.int .i64 x1.value.node,.int .i64 x1.value.leg.Secs,.int .i64 x1.value.leg.Meters,.int .i64 x1.n] 167 (0,0))]::[(g1,.cells #[.func (.func 82) #[] #[],.slice A1 q1.heap.length c1,.int .i64 q1.count] 165 (0,0))]::ch1::L)) 0 0 E E E E ?_)));refine ⟨QK.more (QK.more (QK.refl)),?_⟩;refine W4 (Qak (AN.done0 (by kernel_rfl) ?_));cases h748;exact Ce E ⟨_,_,_,_,_,_,_,_,g2,g3,rfl,fE E,sE [some 2,some 3,some 1,some 0] 4 E,rfl⟩
  refine FO_ E E (Qbx (cs:= #[.int .i64 0,.int .i64 0,.int .i64 0,.int .i64 0]) E E (fun g3=> ?_));refine ⟨QK.more (QK.refl),?_⟩;refine Zz E (AN.run (fuel:=0) (listed':=[true,true,true,true,true,true,true,true,true,true,true,true,true,true,true,true,true,true]) YB [(false,14),(false,16),(false,17)] (by kernel_rfl) (by kernel_rfl) E (QdF E (Qbx (cs:= #[.int .i64 0,.int .i64 0,.int .i64 0,.int .i64 0]) E E (fun g2=> ?_))));refine ⟨QK.more (QK.more (QK.refl)),?_⟩;refine Zz E (QdF E (YM (vs:=[.int .i64 x1.value.node,.int .i64 x1.value.leg.Secs,.int .i64 x1.value.leg.Meters,.int .i64 x1.n]) E E E E E E (ST_ (L':=([(g2,.cells #[.int .i64 x1.value.node,.int .i64 x1.value.leg.Secs,.int .i64 x1.value.leg.Meters,.int .i64 x1.n] 167 (0,0))]::[(g3,.cells #[.int .i64 0,.int .i64 0,.int .i64 0,.int .i64 0] 167 (0,0))]::[(g1,.cells #[.func (.func 82) #[] #[],.slice A1 q1.heap.length c1,.int .i64 q1.count] 165 (0,0))]::ch1::L)) 0 0 E E E E ?_)));refine ⟨QK.more (QK.more (QK.refl)),?_⟩;refine W4 (QdF E (YM (vs:=[.int .i64 x2.value.node,.int .i64 x2.value.leg.Secs,.int .i64 x2.value.leg.Meters,.int .i64 x2.n]) E E E E E E (ST_ (L':=([(g2,.cells #[.int .i64 x1.value.node,.int .i64 x1.value.leg.Secs,.int .i64 x1.value.leg.Meters,.int .i64 x1.n] 167 (0,0))]::[(g3,.cells #[.int .i64 x2.value.node,.int .i64 x2.value.leg.Secs,.int .i64 x2.value.leg.Meters,.int .i64 x2.n] 167 (0,0))]::[(g1,.cells #[.func (.func 82) #[] #[],.slice A1 q1.heap.length c1,.int .i64 q1.count] 165 (0,0))]::ch1::L)) 1 0 E E E E ?_)));refine ⟨QK.more (QK.more (QK.refl)),?_⟩;refine W4 (Qak (AN.done0 (by kernel_rfl) ?_));cases h748;exact Ce E ⟨_,_,_,_,_,_,_,_,g2,g3,rfl,fE E,sE [some 2,some 3,some 0,some 1] 4 E,rfl⟩
 rintro _ _ _ _ h _ ⟨f1,f2,f3,f4,f5,f6,f7,f8,g4,g5,rfl,hF748,hS748,rfl⟩;replace h:=Qi h;replace h:=Qi h;replace h:=Qi h;replace h:=Qi h;replace h:=Qi h;replace h:=Qi h;replace h:=Qi h;refine Atn 4 hF748 hS748 E E (G0 2 E (Dr _ QK.refl [(true,0),(true,1),(true,2),(true,3),(true,4),(true,5),(true,6),(true,7),(false,8)] (by kernel_rfl) (G1 8 [0,2,3] E (Cl E ?_))));obtain ⟨_,hx3,h⟩:=Qg h;refine VM  hx3 (?_);refine ⟨QK.refl,?_⟩;refine Q0 1 E ?_;refine Br h 31 E E (fun hc3 h=> ?_) (fun hc3 h=> ?_)
 ·refine G2 5 [31] [] [] E ?_;cases h;exact Rt [] E E (Ug [[0,1]] 4 hR)
 refine G2 3 [] [31] [] E ?_;refine Cut h (fun f l o_ f_ μ_ l_=> ∃(v1:Bool),v1=o_∧Qm ((6,.bool v1)::[]) f_∧Qe (Yr [some 0,some 1] 4 l) l_∧μ=μ_) ?_ ?_
 ·intro _ h796 h;refine Dr _ QK.refl [(true,0),(true,1),(true,2),(true,3),(true,4),(true,5),(true,6),(true,7),(true,8),(true,9),(true,10),(true,11),(true,12),(true,13),(false,14),(true,15),(true,16),(true,17)] (by kernel_rfl) (G1 6 [2,3] E ?_);refine Br h796 37 E E (fun hc4 h796=> ?_) (fun hc4 h796=> ?_)
  ·refine G2 8 [37] [] [0,3,2] E (Cl E ?_);obtain ⟨_,hx4,h796⟩:=Qg h796;refine VM  hx4 (?_);refine ⟨QK.refl,?_⟩;refine Q2 4 [37] [] [] E ?_;cases h796;exact Ce E ⟨_,rfl,fE E,sE [some 0,some 1] 4 E,rfl⟩
  refine G2 13 [] [37] [] E ?_;cases h796;exact Ce E ⟨_,rfl,fE E,sE [some 0,some 1] 4 E,rfl⟩
 rintro _ _ _ _ h _ ⟨v1,rfl,hF796,hS796,rfl⟩;refine Atn 2 hF796 hS796 E E ?_;cases h;exact Rt [] E E (Ug [[0,1]] 2 hR)
theorem ZA  {q1:Qa} {i1:Int} {k1:Int} {pv1:Value} {so1:Seg} {res1:Qa}
  (hP1:Qb μ pv1 q1 so1) (h:Yc q1 i1 k1=some res1)
  (hR: ∀(sp0:Seg),Qb μ pv1 res1 sp0→R (.tuple #[]) μ (sp0::L)) :
  Fn Try.prog 89 [pv1,.int .i64 i1,.int .i64 k1] μ (so1::L) R:=by
 unfold Yc at h;refine FnS Try.func89 (by kernel_rfl) E Try.ntmps89 E E ?_;obtain ⟨g1,A1,c1,ch1,hv1,rfl,hO1⟩:=hP1;subst hv1;refine In Qb.fl 0 2 E E E ?_;obtain ⟨n1,hn1⟩: ∃n_,n_=q1.heap.length:=⟨_,rfl⟩
 rw[←hn1] at hO1 ⊢
 refine Cd (WP.drawB (id:=0) (l':=List.replicate 25 true++[false,false,false]) Qgz YB _ QK.refl 25 [] [(true,0),(true,1),(true,2),(true,3),(true,4),(true,5),(true,6),(true,7),(true,8),(true,9),(true,10),(true,11),(true,12),(true,13),(true,14),(true,15),(true,16),(true,17),(true,18),(true,19),(true,20),(true,21),(true,22),(true,23),(true,24)] (by kernel_rfl) (by kernel_rfl) [26,27] E (by kernel_rfl) (by kernel_rfl) (Qeq E (YE E (Pt E E (ZT E (Pt E E (ZS (o':=1) E E E E E E (Pt E E (Zu E E E (Ex.mk _ (ZQ.seg 0 0 E E E) (Pt E E (YE E (Zz E ?_)))))))))))));refine Qeq E (YE E (Pt E E (ZT E (Pt E E (ZS (o':=1) E E E E E E (Pt E E (Zu E E E (Ex.mk _ (ZQ.seg 0 0 E E E) (Pt E E (YE E (Pt E E (YE E ?_))))))))))));refine Pt E E (ZT E (Pt E E (ZS (o':=1) E E E E E E (Pt E E (Zu E E E (Ex.mk _ (ZQ.seg 0 0 E E E) (Pt E E (YE E (Pt E E ?_)))))))));obtain ⟨x1,hx1,h⟩:=Qg h;obtain ⟨_,_,hA1,hr1,_,hc1⟩:=Rds.getI (Own.rds (L:=([(g1,.cells #[.func (.func 82) #[] #[],.slice A1 n1 c1,.int .i64 q1.count] 165 (0,0))]::ch1::L)) hO1 1 rfl) hx1;obtain rfl:=hr1;refine QcZ E E E E E E ⟨(ZN hx1).1,QiV hn1 (ZN hx1).2.1⟩ hA1 (Pt E E (QaO E E E E (Ex.mk [.int .i64 x1.value.node,.int .i64 x1.value.leg.Secs,.int .i64 x1.value.leg.Meters,.int .i64 x1.n] ⟨rfl,hc1⟩ (Pt E E (YE E (Pt E E (ZT E (Pt E E (ZS (o':=1) E E E E E E (Pt E E (Zu E E E (Ex.mk _ (ZQ.seg 0 0 E E E) ?_))))))))))));refine Pt E E (YE E (Pt E E ?_));obtain ⟨x2,hx2,h⟩:=Qg h;obtain ⟨_,_,hA2,hr2,_,hc2⟩:=Rds.getI (Own.rds (L:=([(g1,.cells #[.func (.func 82) #[] #[],.slice A1 n1 c1,.int .i64 q1.count] 165 (0,0))]::ch1::L)) hO1 1 rfl) hx2;obtain rfl:=hr2;refine QcZ E E E E E E ⟨(ZN hx2).1,QiV hn1 (ZN hx2).2.1⟩ hA2 (Pt E E (QaO E E E E (Ex.mk [.int .i64 x2.value.node,.int .i64 x2.value.leg.Secs,.int .i64 x2.value.leg.Meters,.int .i64 x2.n] ⟨rfl,hc2⟩ (Pt E E ?_))));obtain ⟨_,hx3,h⟩:=Qg h;obtain ⟨a3,_,hA3,hr3,_,_⟩:=Rds.getI (Own.rds (L:=([(g1,.cells #[.func (.func 82) #[] #[],.slice A1 n1 c1,.int .i64 q1.count] 165 (0,0))]::ch1::L)) hO1 1 rfl) hx3;obtain rfl:=hr3;refine QcZ E E E E E E ⟨(ZN hx3).1,QiV hn1 (ZN hx3).2.1⟩ hA3 (Zz E (Qak (Qky E (YM (vs:=[.int .i64 x1.value.node,.int .i64 x1.value.leg.Secs,.int .i64 x1.value.leg.Meters,.int .i64 x1.n]) E E E E E E ?_))))
 rw[←Addr.add_zero' ((a3.add (i1.toNat*4)))]
 refine Own.store (μ:=μ) (r:=QS) (x':=x1) (o:=0) (sz:=4) 1 rfl hO1 hA3 hx3 rfl rfl (by rintro _ rfl;rfl) fun ch2 hO2=> ?_;have hn2:=hn1.trans (Jp q1.heap i1 x1).symm;refine W4 (Qky E ?_);obtain ⟨_,hx4,h⟩:=Qg h;obtain ⟨a4,_,hA4,hr4,_,_⟩:=Rds.getI (Own.rds (L:=([(g1,.cells #[.func (.func 82) #[] #[],.slice A1 n1 c1,.int .i64 q1.count] 165 (0,0))]::ch2::L)) hO2 1 rfl) hx4;obtain rfl:=hr4;refine W3 E (QcZ E E E E E E ⟨(ZN hx4).1,QiV hn2 (ZN hx4).2.1⟩ hA4 (Zz E (Qfs E (YM (vs:=[.int .i64 x2.value.node,.int .i64 x2.value.leg.Secs,.int .i64 x2.value.leg.Meters,.int .i64 x2.n]) E E E E E E ?_))))
 rw[←Addr.add_zero' ((a4.add (k1.toNat*4)))]
 refine Own.store (μ:=μ) (r:=QS) (x':=x2) (o:=0) (sz:=4) 1 rfl hO2 hA4 hx4 rfl rfl (by rintro _ rfl;rfl) fun ch3 hO3=> ?_;have hn3:=hn2.trans (Jp (Zw q1.heap i1 x1) k1 x2).symm;apply W4;subst hn3;cases h;exact Rt [] E E (Ug [[0,1]] 2 (hR _ ⟨g1,A1,c1,ch3,rfl,rfl,hO3⟩))
theorem JB {F:Nat} {q1:Qa} {x1:QC} {pv1:Value} {so1:Seg} {res1:Qa}
  (hP1:Qb μ pv1 q1 so1) (h:Yo F q1 x1=some res1)
  (hR: ∀(sp0:Seg),Qb μ pv1 res1 sp0→R (.tuple #[]) μ (sp0::L)) :
  Fn Try.prog 84 [pv1,.agg #[.int .i64 x1.node,.int .i64 x1.leg.Secs,.int .i64 x1.leg.Meters]] μ (so1::L) R:=by
 unfold Yo at h;refine FnS Try.func84 (by kernel_rfl) E Try.ntmps84 E E ?_;refine G0 2 E (Al E fun g1=> ?_);obtain ⟨g2,A1,c1,_,hv1,rfl,hO1⟩:=hP1;subst hv1;refine Q0 3 E (In Qb.fl 1 3 E E E (G2 7 [] [7] [] E (Cd (WP.drawB (id:=2) (l':=List.replicate 15 true++[false]) Qgz YB ([(g1,.cells #[.int .i64 x1.node,.int .i64 x1.leg.Secs,.int .i64 x1.leg.Meters] 153 (0,0))]::[(g2,.cells #[.func (.func 82) #[] #[],.slice A1 q1.heap.length c1,.int .i64 q1.count] 165 (0,0))]::L) (Kp [0,1] 3 E) 15 [] [(true,0),(true,1),(true,2),(true,3),(true,4),(true,5),(true,6),(true,7),(true,8),(true,9),(true,10),(false,11),(false,12),(true,13),(true,14)] (by kernel_rfl) (by kernel_rfl) [] E (by kernel_rfl) (by kernel_rfl) (Qeq E (YE E (Pt E E (YE E (Pt E E (ZT E (Pt E E (ZS (o':=1) E E E E E E (Pt E E ?_)))))))))))));refine Zu E E E (Ex.mk _ (ZQ.seg 1 0 E E E) (Pt E E (QaO E E E E (LA_ (vs:=[.int .i64 x1.node,.int .i64 x1.leg.Secs,.int .i64 x1.leg.Meters]) 0 0 E E E E (Pt E E (YE E (Pt E E (ZT E (Pt E E (ZS (o':=2) E E E E E E (Pt E E (Zu E E E ?_))))))))))));refine Ex.mk _ (ZQ.seg 1 0 E E E) (Pt E E (Qer E E E E (QQ (cells':=[.int .i64 x1.node,.int .i64 x1.leg.Secs,.int .i64 x1.leg.Meters,.int .i64 0]) E E E E (QQ (cells':=[.int .i64 x1.node,.int .i64 x1.leg.Secs,.int .i64 x1.leg.Meters,.int .i64 q1.count]) E E E E (Z5 (Zz E (QdF E (Jk (z:=[.int .i64 0,.int .i64 0,.int .i64 0,.int .i64 0]) E E E E E E E (QQ (cells':=[.int .i64 x1.node,.int .i64 x1.leg.Secs,.int .i64 x1.leg.Meters,.int .i64 q1.count]) E E E E (Z5 (fun g3=> ?_)))))))))));refine ⟨Kp [1,2] 4 E,?_⟩;refine Zz E (QdF E (ZR E ?_));obtain ⟨l1,hz1,h⟩:=Qg h;refine Jv (r:=QS) YB E E E E (by decide) E E 3 E hO1 E (Own.rds (Own.lit (r:=QS) (e:=167) (g:=g3) (xs:=[(Qp.mk x1 q1.count)]) (cs:=[.int .i64 x1.node,.int .i64 x1.leg.Secs,.int .i64 x1.leg.Meters,.int .i64 q1.count]) (css:=[[.int .i64 x1.node,.int .i64 x1.leg.Secs,.int .i64 x1.leg.Meters,.int .i64 q1.count]]) E (All2.cons (E) (All2.nil)) E E) 0 E) hz1 fun A2 c2 ch2 hO2=> ?_;refine ⟨Kp [1,2] 4 E,?_⟩;refine Pt E E (ZT E (Pt E E (ZS (o':=1) E E E E E E (Zz E (Qak (Qfs E (YM (vs:=[.slice A2 l1.length c2]) E E E E E E (ST_ (L':=([(g3,.cells #[.int .i64 x1.node,.int .i64 x1.leg.Secs,.int .i64 x1.leg.Meters,.int .i64 q1.count] 167 (0,0))]::[(g1,.cells #[.int .i64 x1.node,.int .i64 x1.leg.Secs,.int .i64 x1.leg.Meters] 153 (0,0))]::[(g2,.cells #[.func (.func 82) #[] #[],.slice A2 l1.length c2,.int .i64 q1.count] 165 (0,0))]::ch2::L)) 2 0 E E E E (W4 ?_)))))))));have hP2:Qb μ (.pointer (some ⟨g2,0,none⟩)) (Qa.mk l1 (w64 (q1.count+1))) _:=⟨g2,A2,c2,ch2,rfl,rfl,hO2⟩
 refine G1 21 [2,2,2] E (Gp [[2,3],[0],[1]] 4 3 E E ?_);refine Cut h (fun f l o_ f_ μ_ l_=> ∃(q3:Qa) (so4:Seg),(.inl q3)=o_∧Qm ([]) f_∧Qe (so4::Yr [] 3 l) l_∧Qb μ_ (.pointer (some ⟨g2,0,none⟩)) q3 so4∧μ=μ_) ?_ ?_
 ·intro _ h1037 h;refine Lp h1037 (fun f l (j_:Qa×Int) f_ μ_ l_=>WT j_ fun q2 i1=> ∃(so2:Seg),Qm ((4,.int .i64 i1)::QD [0] f) f_∧Qe (so2::Yr [] 3 l) l_∧Qb μ_ (.pointer (some ⟨g2,0,none⟩)) q2 so2∧μ=μ_) ⟨((g2,Obj.cells #[.func (.func 82) #[] #[],.slice A2 l1.length c2,.int .i64 (w64 (q1.count+1))] 165 (0,0))::ch2),fE E,sE [some 0] 3 E,(hP2),E⟩ ?_;rintro ⟨q2,i1⟩ _ _ _ _ _ ⟨so2,hF1042,hS1042,hP3,rfl⟩ hb1042 hq1042;unfold Q8 at hb1042;replace hb1042:=Qi hb1042;refine Atn 1 hF1042 hS1042 E E (G0 6 E ?_);refine Br hb1042 37 E E (fun hc1 hb1042=> ?_) (fun hc1 hb1042=> ?_)
  ·refine G2 16 [37] [] [0] E (Cl E ?_);obtain ⟨_,hx1,hb1042⟩:=Qg hb1042;refine Jh hP3 hx1 ((Q0 2 E ?_));refine Br hb1042 45 E E (fun hc2 hb1042=> ?_) (fun hc2 hb1042=> ?_)
   ·refine G2 1 [45] [] [] E ?_;cases hb1042;have hq_:=hq1042 _ E;subst hq_;replace h:=ZW h;cases h;exact Rt [] E E (Ug [[0]] 1 (hR _ hP3))
   refine G2 7 [] [45] [] E (Cl E ?_);obtain ⟨_,hx2,hb1042⟩:=Qg hb1042;refine ZA hP3 hx2 (fun so3 hP4=>Q0 6 E ?_);cases hb1042;exact Ce E ⟨_,rfl,so3,fE E,sE [some 0] 1 E,(hP4),rfl⟩
  refine G2 2 [] [37] [] E ?_;cases hb1042;have hq_:=hq1042 _ E;subst hq_;exact Ce E ⟨_,so2,rfl,fE E,sE [some 0] 1 E,(hP3),rfl⟩
 rintro _ _ _ _ h _ ⟨q3,so4,rfl,hF1037,hS1037,hP5,rfl⟩;replace h:=JD h;refine Atn 1 hF1037 hS1037 E E ?_;cases h;exact Rt [] E E (Ug [[0]] 1 (hR _ hP5))
theorem Vt  {q1:Qa} {pv1:Value} {so1:Seg} {res1:Int}
  (hP1:Qb μ pv1 q1 so1) (h:Y0 q1=some res1)
  (hR:R (.int .i64 res1) μ (so1::L)) :
  Fn Try.prog 92 [pv1] μ (so1::L) R:=by
 unfold Y0 at h;refine FnS Try.func92 (by kernel_rfl) E Try.ntmps92 E E ?_;obtain ⟨_,_,_,_,hv1,rfl,_⟩:=hP1;subst hv1;refine G0 6 E (In Qb.fl 0 2 E E E (G2 15 [] [4] [0] E ?_));cases h;exact Rt [] E E (Ug [[0,1]] 2 hR)
theorem Vd  {q1:Qa} {pv1:Value} {so1:Seg} {res1:QC} {res2:Bool}
  (hP1:Qb μ pv1 q1 so1) (h:YQ q1=some (res1,res2))
  (hR:R (.tuple #[.agg #[.int .i64 res1.node,.int .i64 res1.leg.Secs,.int .i64 res1.leg.Meters],.bool res2]) μ (so1::L)) :
  Fn Try.prog 90 [pv1] μ (so1::L) R:=by
 unfold YQ at h;refine FnS Try.func90 (by kernel_rfl) E Try.ntmps90 E E ?_;refine G0 2 E (Al E fun _=>Q0 6 E (Cl E (Fn.gp [[1],[0]] 2 2 E ?_)));obtain ⟨_,hx1,h⟩:=Qg h;refine Vt hP1 hx1 ((Q0 2 E ?_));refine Br h 7 E E (fun hc1 h=> ?_) (fun hc1 h=> ?_)
 ·refine G2 3 [7] [] [] E (Al E fun _=>Q1 7 [0,2] E ?_);cases h;exact Rt [2] E E (Ug [[1]] 3 hR)
 obtain ⟨_,_,_,_,hv1,rfl,hO1⟩:=hP1;subst hv1;refine G2 3 [] [7] [] E (In Qb.fl 0 3 E E E (G1 5 [0] E (IxA h (Own.rds hO1 1 E) E E fun _ _ _ _ hr1 hc2 _ h=> ?_)));obtain rfl:=hr1;refine Q3 5 [] [] [64,2] (Z1 hc2) E ?_;cases h;exact Rt [2] E E (Ug [[0,1]] 3 hR)
theorem Vf {F:Nat} {q1:Qa} {pv1:Value} {so1:Seg} {res1:Qa}
  (hP1:Qb μ pv1 q1 so1) (h:Yb F q1=some res1)
  (hR: ∀(sp0:Seg),Qb μ pv1 res1 sp0→R (.tuple #[]) μ (sp0::L)) :
  Fn Try.prog 91 [pv1] μ (so1::L) R:=by
 unfold Yb at h;refine FnS Try.func91 (by kernel_rfl) E Try.ntmps91 E E ?_;obtain ⟨g1,A1,c1,ch1,hv1,rfl,hO1⟩:=hP1;subst hv1;refine G0 4 E (In Qb.fl 0 2 E E E ?_);refine Cut h (fun _ _ _ _ _ _=>False) ?_ ?_
 ·intro _ h1245 h;refine Lp h1245 (fun f l (j_:(List Qp)×Int×Int) f_ μ_ l_=>WT j_ fun f1 j_=>WT j_ fun f2 i1=> ∃(A2:Option Addr) (c2:Nat) (ch2:Seg),Qm ((2,.int .i64 i1)::QD [0] f) f_∧Qe ([(g1,.cells #[.func (.func 82) #[] #[],.slice A2 f1.length c2,.int .i64 f2] 165 (0,0))]::ch2::Yr [] 2 l) l_∧Own QS 167 μ_ (.slice A2 f1.length c2) f1 ch2∧μ=μ_) ⟨A1,c1,ch1,fE E,sE [some 0,some 1] 2 E,(hO1),E⟩ ?_;rintro ⟨f1,f2,i1⟩ _ _ _ _ _ ⟨A2,c2,ch2,hF1315,hS1315,hO2,rfl⟩ hb1315 hq1315;unfold Q9 at hb1315;replace hb1315:=Qi hb1315;replace hb1315:=Qi hb1315;refine Atn 2 hF1315 hS1315 E E (G0 14 E ?_);refine Cut hb1315 (fun f l o_ f_ μ_ l_=> ∃(f6:(List Qp)) (f7:Int) (next3:Int) (A7:Option Addr) (c7:Nat) (ch7:Seg),(f6,f7,next3)=o_∧Qm ((3,.int .i64 next3)::QD [0,2] f) f_∧Qe ([(g1,.cells #[.func (.func 82) #[] #[],.slice A7 f6.length c7,.int .i64 f7] 165 (0,0))]::ch7::Yr [] 2 l) l_∧Own QS 167 μ_ (.slice A7 f6.length c7) f6 ch7∧μ=μ_) ?_ ?_
  ·intro _ h1320 hb1315;refine Lp h1320 (fun f l (j_:(List Qp)×Int×Int×Int) f_ μ_ l_=>WT j_ fun f3 j_=>WT j_ fun f4 j_=>WT j_ fun next1 k1=> ∃(A3:Option Addr) (c3:Nat) (ch3:Seg),Qm ((3,.int .i64 next1)::(4,.int .i64 k1)::QD [0,2] f) f_∧Qe ([(g1,.cells #[.func (.func 82) #[] #[],.slice A3 f3.length c3,.int .i64 f4] 165 (0,0))]::ch3::Yr [] 2 l) l_∧Own QS 167 μ_ (.slice A3 f3.length c3) f3 ch3∧μ=μ_) ⟨A2,c2,ch2,fE E,sE [some 0,some 1] 2 E,(hO2),E⟩ ?_;rintro ⟨f3,f4,next1,k1⟩ _ _ _ _ _ ⟨A3,c3,ch3,hF1339,hS1339,hO3,rfl⟩ hb1339 hq1339;unfold pqueue_Queue_stop_sink_l1 at hb1339;replace hb1339:=Qi hb1339;replace hb1339:=Qi hb1339;replace hb1339:=Qi hb1339;refine Atn 2 hF1339 hS1339 E E (G0 2 E ?_);refine Cut hb1339 (fun f l o_ f_ μ_ l_=> ∃(v1:Bool),v1=o_∧Qm ((22,.bool v1)::QD [0,2,3,4] f) f_∧Qe l l_∧μ=μ_) ?_ ?_
   ·intro _ h1344 hb1339;refine G0 7 E ?_;refine Br h1344 14 E E (fun hc1 h1344=> ?_) (fun hc1 h1344=> ?_)
    ·refine G2 9 [14] [] [0] E ?_;cases h1344;exact Ce E ⟨_,rfl,fE E,sE [some 0,some 1] 2 E,rfl⟩
    refine G2 9 [] [14] [] E ?_;cases h1344;exact Ce E ⟨_,rfl,fE E,sE [some 0,some 1] 2 E,rfl⟩
   rintro _ _ _ _ hb1339 _ ⟨v1,rfl,hF1344,hS1344,rfl⟩;refine Atn 2 hF1344 hS1344 E E ?_;refine Br hb1339 22 E E (fun hc2 hb1339=> ?_) (fun hc2 hb1339=> ?_)
   ·refine G2 3 [22] [] [] E ?_;refine Cut hb1339 (fun f l o_ f_ μ_ l_=> ∃(f5:(List Qp)) (next2:Int) (A6:Option Addr) (c6:Nat) (ch6:Seg),(f5,next2)=o_∧Qm ((3,.int .i64 next2)::QD [0,2,4] f) f_∧Qe ([(g1,.cells #[.func (.func 82) #[] #[],.slice A6 f5.length c6,.int .i64 ((Qa.mk f3 f4).count)] 165 (0,0))]::ch6::Yr [] 2 l) l_∧Own QS 167 μ_ (.slice A6 f5.length c6) f5 ch6∧μ=μ_) ?_ ?_
    ·intro _ h1347 hb1339;refine G0 6 E (Cl E ?_);have hP2:Qb μ (.pointer (some ⟨g1,0,none⟩)) (Qa.mk f3 f4) _:=⟨g1,A3,c3,ch3,rfl,rfl,hO3⟩
     refine Fn.gp [[0,1]] 2 1 E ?_;obtain ⟨_,hx1,h1347⟩:=Qg h1347;refine Jh hP2 hx1 ((Q0 1 E ?_));refine Br h1347 28 E E (fun hc3 h1347=> ?_) (fun hc3 h1347=> ?_)
     ·refine G2 6 [28] [] [] E ?_;obtain ⟨_,A4,c4,ch4,hv2,hs1,hO4⟩:=hP2;replace hv2:=Wx hv2;subst hv2;cases h1347;exact Ce E ⟨_,_,A4,c4,ch4,rfl,fE E,(Qe.ins (i:=0) (Qb.fl.trans hs1.symm) E).tr (sE [some 0,some 1] 2 E),(hO4),rfl⟩
     refine G2 3 [] [28] [] E ?_;obtain ⟨_,A5,c5,ch5,hv3,hs2,hO5⟩:=hP2;replace hv3:=Wx hv3;subst hv3;cases h1347;exact Ce E ⟨_,_,A5,c5,ch5,rfl,fE E,(Qe.ins (i:=0) (Qb.fl.trans hs2.symm) E).tr (sE [some 0,some 1] 2 E),(hO5),rfl⟩
    rintro _ _ _ _ hb1339 _ ⟨f5,next2,A6,c6,ch6,rfl,hF1347,hS1347,hO6,rfl⟩;replace hb1339:=Qi hb1339;refine Atn 2 hF1347 hS1347 E E (G0 5 E ?_);cases hb1339;exact Ce E ⟨_,rfl,A6,c6,ch6,fE E,sE [some 0,some 1] 2 E,(hO6),rfl⟩
   refine G2 2 [] [22] [] E ?_;cases hb1339;have hq_:=hq1339 _ E;subst hq_;exact Ce E ⟨_,_,_,A3,c3,ch3,rfl,fE E,sE [some 0,some 1] 2 E,(hO3),rfl⟩
  rintro _ _ _ _ hb1315 _ ⟨f6,f7,next3,A7,c7,ch7,rfl,hF1320,hS1320,hO7,rfl⟩;replace hb1315:=Qi hb1315;replace hb1315:=Qi hb1315;refine Atn 2 hF1320 hS1320 E E (G0 7 E ?_);refine Br hb1315 32 E E (fun hc4 hb1315=> ?_) (fun hc4 hb1315=> ?_)
  ·refine G2 1 [32] [] [] E ?_;cases hb1315;have hq_:=hq1315 _ E;subst hq_;cases h;exact Rt [] E E (Ug [[0,1]] 2 (hR _ ⟨g1,A7,c7,ch7,rfl,rfl,hO7⟩))
  refine G2 7 [] [32] [] E (Cl E ?_);have hP3:Qb μ (.pointer (some ⟨g1,0,none⟩)) (Qa.mk f6 f7) _:=⟨g1,A7,c7,ch7,rfl,rfl,hO7⟩
  refine Fn.gp [[0,1]] 2 1 E ?_;obtain ⟨_,hx2,hb1315⟩:=Qg hb1315;refine ZA hP3 hx2 (fun _ hP4=>Q0 6 E ?_);obtain ⟨_,A8,c8,ch8,hv4,rfl,hO8⟩:=hP4;replace hv4:=Wx hv4;subst hv4;cases hb1315;exact Ce E ⟨_,rfl,A8,c8,ch8,fE E,(Qe.ins (i:=0) Qb.fl E).tr (sE [some 0,some 1] 2 E),(hO8),rfl⟩
 exact fun _ _ _ _ _ _ hf_=>hf_.elim
theorem Vu {F:Nat} {q1:Qa} {pv1:Value} {so1:Seg} {res1:QC} {res2:Bool} {res3:Qa}
  (hP1:Qb μ pv1 q1 so1) (h:Yi F q1=some (res1,res2,res3))
  (hR: ∀(sp0:Seg),Qb μ pv1 res3 sp0→R (.tuple #[.agg #[.int .i64 res1.node,.int .i64 res1.leg.Secs,.int .i64 res1.leg.Meters],.bool res2]) μ (sp0::L)) :
  Fn Try.prog 85 [pv1] μ (so1::L) R:=by
 unfold Yi at h;refine FnS Try.func85 (by kernel_rfl) E Try.ntmps85 E E ?_;refine G0 2 E (Al E fun g1=>Q0 5 E (Cl E (Fn.gp [[1],[0]] 2 2 E ?_)));obtain ⟨⟨r1,_⟩,hx1,h⟩:=Qg h;replace h:=Qi h;refine Vd hP1 hx1 ((Q0 3 E (Al E fun g2=>Q1 9 [0] E ?_)));refine Br h 13 E E (fun hc1 h=> ?_) (fun hc1 h=> ?_)
 ·refine G2 7 [13] [] [0,2] E ?_;cases h;exact Rt [2] E E (Ug [[1]] 3 (hR _ hP1))
 obtain ⟨g3,A1,c1,ch1,hv1,rfl,hO1⟩:=hP1;subst hv1;refine G2 3 [] [13] [] E (In Qb.fl 1 4 E E E (G1 13 [1] E (Cl E ?_)));have hP2:Qb μ (.pointer (some ⟨g3,0,none⟩)) q1 _:=⟨g3,A1,c1,ch1,rfl,rfl,hO1⟩
 refine Fn.gp [[1,2],[0],[3]] 4 3 E ?_;obtain ⟨r3,hx2,h⟩:=Qg h;refine ZA hP2 hx2 (fun _ hP3=> ?_);obtain ⟨_,A2,c2,ch2,hv2,rfl,hO2⟩:=hP3;replace hv2:=Wx hv2;subst hv2;refine Q0 2 E (In Qb.fl 0 4 E E E ?_);obtain ⟨_,hs1,h⟩:=Qg h;refine G1 6 [0] E (Rdo E E (Qes (r:=QS) E E E E E E E (Own.lenOk hO2).1 hs1 fun _ hAe1=> ?_));have hA1:=Rds.sub (Own.rds (L:=([(g3,.cells #[.func (.func 82) #[] #[],.slice A2 r3.heap.length c2,.int .i64 r3.count] 165 (0,0))]::ch2::[(g2,.cells #[.int .i64 r1.node,.int .i64 r1.leg.Secs,.int .i64 r1.leg.Meters] 153 (0,0))]::[(g1,.cells #[.int .i64 0,.int .i64 0,.int .i64 0] 153 (0,0))]::L)) hO2 1 E) (Own.lenOk hO2).1 hs1 hAe1;have hl1:=Qgy (Own.lenOk hO2) hs1;refine Q0 0 E (So E (QiL E (Qhs (z:=(Qp.mk (QC.mk 0 (Qd.mk 0 0)) 0)) (zc:=[.int .i64 0,.int .i64 0,.int .i64 0,.int .i64 0]) YB E E E E E (E) 1 E hO2 hs1 hAe1 fun ch3 hO3=> ?_)))
 rw[←Qcr r3.heap (w64 (((q1.heap.length:Nat):Int)-1)) (Qp.mk (QC.mk 0 (Qd.mk 0 0)) 0)] at hO3 ⊢
 obtain ⟨l2,hs2,h⟩:=Qg h;refine Q1 9 [0] E (Rdo E E (WN E E E E E E (Own.lenOk hO3).1 hs2 ?_));have hA2:=Rds.pre (Own.rds (L:=([(g3,.cells #[.func (.func 82) #[] #[],.slice A2 ((Qc7 r3.heap (w64 (((q1.heap.length:Nat):Int)-1)) (Qp.mk (QC.mk 0 (Qd.mk 0 0)) 0)).length) c2,.int .i64 r3.count] 165 (0,0))]::ch3::[(g2,.cells #[.int .i64 r1.node,.int .i64 r1.leg.Secs,.int .i64 r1.leg.Meters] 153 (0,0))]::[(g1,.cells #[.int .i64 0,.int .i64 0,.int .i64 0] 153 (0,0))]::L)) hO3 1 E) hs2;have hl2:=V4 (Own.lenOk hO3) hs2;refine Q0 2 E (So E (YM (vs:=[.slice A2 l2.length c2]) E E E E E E ?_));have hO4:=Own.cut hO3 hs2;refine ST_ (L':=([(g3,.cells #[.func (.func 82) #[] #[],.slice A2 l2.length c2,.int .i64 r3.count] 165 (0,0))]::ch3::[(g2,.cells #[.int .i64 r1.node,.int .i64 r1.leg.Secs,.int .i64 r1.leg.Meters] 153 (0,0))]::[(g1,.cells #[.int .i64 0,.int .i64 0,.int .i64 0] 153 (0,0))]::L)) 0 0 E E E E (Q0 4 E (Cl E ?_));have hP4:Qb μ (.pointer (some ⟨g3,0,none⟩)) (Qa.mk l2 r3.count) _:=⟨g3,A2,c2,ch3,rfl,rfl,hO4⟩
 refine Fn.gp [[0,1],[2],[3]] 4 3 E ?_;obtain ⟨_,hx3,h⟩:=Qg h;refine Vf hP4 hx3 (fun _ hP5=>Q1 7 [1,2] E ?_);cases h;exact Rt [2] E E (Ug [[0]] 3 (hR _ hP5))
theorem QcM  {x1:QB}  {res1:Int} {res2:Int}
   (h:WU x1=some (res1,res2))
  (hR:R (.tuple #[.int .i64 res1,.int .i64 res2]) μ (L)) :
  Fn Try.prog 74 [.agg #[.int .i64 x1.From,.int .i64 x1.To,.int .i64 x1.Meters,.int .i64 x1.Secs]] μ (L) R:=by
 unfold WU at h;refine FnS Try.func74 (by kernel_rfl) E Try.ntmps74 E E ?_;refine G0 2 E (Al E fun _=>Q0 4 E (Dr _ QK.refl [(true,0),(true,1),(true,2),(true,3),(true,4),(true,5)] (by kernel_rfl) (G1 7 [0,0] E ?_)));cases h;exact Rt [] E E (Ug [] 1 hR)
theorem QdN  {l1:Qd} {x1:QB}  {res1:Qd}
   (h:W9 l1 x1=some res1)
  (hR:R (.agg #[.int .i64 res1.Secs,.int .i64 res1.Meters]) μ (L)) :
  Fn Try.prog 86 [.agg #[.int .i64 l1.Secs,.int .i64 l1.Meters],.agg #[.int .i64 x1.From,.int .i64 x1.To,.int .i64 x1.Meters,.int .i64 x1.Secs]] μ (L) R:=by
 unfold W9 at h;refine FnS Try.func86 (by kernel_rfl) E Try.ntmps86 E E ?_;refine G0 2 E (Al E fun _=>Q0 0 E (Al E fun _=>Q0 0 E (Al E fun _=>Q1 16 [2,1,2,1,0] E ?_)));cases h;exact Rt [0] E E (Ug [] 3 hR)
theorem Qbo {F:Nat} {r1:Qq} {f_from1:Int} {A1:Option Addr} {c1:Nat} {res1:(List Qd)}
  (hl1:r1.Edges.length≤c1∧c1≤maxLen) (hA1:Qn QE μ A1 r1.Edges) (h:Ja F r1 f_from1=some res1)
  (hR: ∀(A0:Option Addr) (c0:Nat) (ch0:Seg),Own YW 108 μ (.slice A0 res1.length c0) res1 ch0→R (.slice A0 res1.length c0) μ (ch0::L)) :
  Fn Try.prog 73 [.agg #[.int .i64 r1.Nodes,.slice A1 r1.Edges.length c1],.int .i64 f_from1,.func (.func 74) #[] #[]] μ (L) R:=by
 unfold Ja at h;refine FnS Try.func73 (by kernel_rfl) E Try.ntmps73 E E ?_;refine G0 2 E (Al E fun g1=>Q1 6 [0] E (So E (QfT E E ?_)));obtain ⟨_,hn1,h⟩:=Qg h;refine QgY (r:=YW) (z:=(Qd.mk 0 0)) (zc:=[.int .i64 0,.int .i64 0]) YB E E E E E (E) E hn1 fun A2 c2 ch1 hO1=>Q0 9 E ?_;refine Cut h (fun f l o_ f_ μ_ l_=> ∃(out2:(List Qd)) (A4:Option Addr) (c4:Nat) (ch4:Seg),out2=o_∧Qm ((7,.slice A4 out2.length c4)::QD [1,2,3] f) f_∧Qe ([(g1,.cells #[.int .i64 r1.Nodes,.slice A1 r1.Edges.length c1] 24 (0,0))]::ch4::Yr [] 2 l) l_∧Own YW 108 μ_ (.slice A4 out2.length c4) out2 ch4∧μ=μ_) ?_ ?_
 ·intro _ h642 h;refine Lp h642 (fun f l (j_:(List Qd)×Int) f_ μ_ l_=>WT j_ fun out1 v1=> ∃(A3:Option Addr) (c3:Nat) (ch2:Seg),Qm ((7,.slice A3 out1.length c3)::(22,.int .i64 v1)::QD [1,2,3,21] f) f_∧Qe ([(g1,.cells #[.int .i64 r1.Nodes,.slice A1 r1.Edges.length c1] 24 (0,0))]::ch2::Yr [] 2 l) l_∧Own YW 108 μ_ (.slice A3 out1.length c3) out1 ch2∧μ=μ_) ⟨A2,c2,ch1,fE E,sE [some 1,some 0] 2 E,(hO1),E⟩ ?_;rintro ⟨out1,v1⟩ _ _ _ _ _ ⟨A3,c3,ch2,hF651,hS651,hO2,rfl⟩ hb651 hq651;unfold Y2 at hb651;replace hb651:=Qi hb651;refine Atn 2 hF651 hS651 E E (G0 5 E ?_);refine Br hb651 23 E E (fun hc1 hb651=> ?_) (fun hc1 hb651=> ?_)
  ·refine G2 12 [23] [] [] E (Cl E ?_);obtain ⟨r2,hx1,hb651⟩:=Qg hb651;refine QbQ  hx1 ((Q0 0 E (IxA hb651 (Own.rds hO2 1 E) E E fun _ a1 _ hx2 hr1 _ hA2 hb651=> ?_)));obtain rfl:=hr1;refine Q0 0 E (So E (YM (vs:=[.int .i64 r2.Secs,.int .i64 r2.Meters]) E E E E E E ?_))
   rw[←Addr.add_zero' ((a1.add (v1.toNat*2)))]
   refine Own.store (μ:=μ) (r:=YW) (x':=r2) (o:=0) (sz:=2) 1 rfl hO2 hA2 hx2 rfl rfl (by rintro _ rfl;rfl) fun ch3 hO3=> ?_
   rw[←Jp out1 v1 r2] at hO3 ⊢
   refine Q0 6 E ?_;cases hb651;exact Ce E ⟨_,rfl,A3,c3,ch3,fE E,sE [some 0,some 1] 2 E,(hO3),rfl⟩
  refine G2 2 [] [23] [] E ?_;cases hb651;have hq_:=hq651 _ E;subst hq_;exact Ce E ⟨_,A3,c3,ch2,rfl,fE E,sE [some 0,some 1] 2 E,(hO2),rfl⟩
 rintro _ _ _ _ h _ ⟨out2,A4,c4,ch4,rfl,hF642,hS642,hO4,rfl⟩;refine Atn 2 hF642 hS642 E E (G0 5 E (IxA h (Own.rds hO4 1 E) E E fun _ a2 _ hx3 hr2 _ hA3 h=> ?_));obtain rfl:=hr2;refine Q0 0 E (So E (YM (vs:=[.int .i64 0,.int .i64 0]) E E E E E E ?_))
 rw[←Addr.add_zero' ((a2.add (f_from1.toNat*2)))]
 refine Own.store (μ:=μ) (r:=YW) (x':=(Qd.mk 0 0)) (o:=0) (sz:=2) 1 rfl hO4 hA3 hx3 rfl rfl (by rintro _ rfl;rfl) fun ch5 hO5=> ?_
 rw[←Jp out2 f_from1 (Qd.mk 0 0)] at hO5 ⊢
 refine Q0 3 E (Cl E ?_);obtain ⟨_,hx4,h⟩:=Qg h;refine V3  hx4 (fun pv1 _ hP1=>Q0 7 E (Cl E ?_));obtain ⟨_,hx5,h⟩:=Qg h;refine JB hP1 hx5 (fun so2 hP2=>Q0 1 E ?_);refine Cut h (fun _ _ _ _ _ _=>False) ?_ ?_
 ·intro _ h1055 h;refine Lp h1055 (fun f l (j_:(List Qd)×Qa) f_ μ_ l_=>WT j_ fun out3 q1=> ∃(A5:Option Addr) (c5:Nat) (ch6:Seg) (so3:Seg),Qm ((7,.slice A5 out3.length c5)::QD [2,3,9] f) f_∧Qe ([(g1,.cells #[.int .i64 r1.Nodes,.slice A1 r1.Edges.length c1] 24 (0,0))]::ch6::so3::Yr [] 3 l) l_∧Own YW 108 μ_ (.slice A5 out3.length c5) out3 ch6∧Qb μ_ pv1 q1 so3∧μ=μ_) ⟨A4,c4,ch5,so2,fE E,sE [some 1,some 2,some 0] 3 E,(hO5),(hP2),E⟩ ?_;rintro ⟨out3,q1⟩ _ _ _ _ _ ⟨A5,c5,ch6,so3,hF1543,hS1543,hO6,hP3,rfl⟩ hb1543 hq1543;unfold Y4 at hb1543;replace hb1543:=Qi hb1543;refine Atn 3 hF1543 hS1543 E E (G0 4 E (Cl E (Fn.gp [[2],[0],[1]] 3 3 E ?_)));obtain ⟨⟨r5,_,_⟩,hx6,hb1543⟩:=Qg hb1543;replace hb1543:=Qi hb1543;replace hb1543:=Qi hb1543;refine Vu hP3 hx6 (fun so4 hP4=>Q0 3 E (Al E fun g2=>Q1 9 [0] E ?_));refine Br hb1543 45 E E (fun hc4 hb1543=> ?_) (fun hc4 hb1543=> ?_)
  ·refine G2 6 [45] [] [] E ?_;cases hb1543;have hq_:=hq1543 _ E;subst hq_;cases h;exact Rt [] E E (Ug [[3]] 4 (hR A5 c5 ch6 hO6))
  refine G2 4 [] [45] [] E (Dr _ QK.refl [(true,0),(true,1),(true,2),(true,3),(true,4),(true,5),(true,6),(true,7)] (by kernel_rfl) (G1 3 [0] E (Ix hb1543 (Own.rds (L:=([(g2,.cells #[.int .i64 r5.node,.int .i64 r5.leg.Secs,.int .i64 r5.leg.Meters] 153 (0,0))]::so4::[(g1,.cells #[.int .i64 r1.Nodes,.slice A1 r1.Edges.length c1] 24 (0,0))]::ch6::L)) hO6 3 E) E E fun x3 _ _ _ hr3 hc5 _ hb1543=> ?_)));obtain rfl:=hr3;refine Q3 3 [] [] [64,0] (Z1 hc5) E (Rdo E E (Qe2 E E (Ex.mk _ (Qaf x3 r5.leg) (Q0 1 E ?_))));refine Br hb1543 54 E E (fun hc6 hb1543=> ?_) (fun hc6 hb1543=> ?_)
  ·refine G2 2 [54] [] [] E ?_;cases hb1543;exact Ce E ⟨_,rfl,A5,c5,ch6,so4,fE E,sE [some 2,some 3,some 1] 4 E,(hO6),(hP4),rfl⟩
  refine G2 9 [] [54] [2] E ?_;refine Cut hb1543 (fun f l o_ f_ μ_ l_=> ∃(out6:(List Qd)) (q4:Qa) (A8:Option Addr) (c8:Nat) (ch10:Seg) (so8:Seg),(out6,q4)=o_∧Qm ((7,.slice A8 out6.length c8)::QD [2,3,9] f) f_∧Qe ([(g1,.cells #[.int .i64 r1.Nodes,.slice A1 r1.Edges.length c1] 24 (0,0))]::ch10::so8::Yr [] 4 l) l_∧Own YW 108 μ_ (.slice A8 out6.length c8) out6 ch10∧Qb μ_ pv1 q4 so8∧μ=μ_) ?_ ?_
  ·intro _ h1560 hb1543;refine Lp h1560 (fun f l (j_:(List Qd)×Qa×Int) f_ μ_ l_=>WT j_ fun out4 j_=>WT j_ fun q2 v2=> ∃(A6:Option Addr) (c6:Nat) (ch7:Seg) (so5:Seg),Qm ((7,.slice A6 out4.length c6)::(58,.int .i64 v2)::QD [2,3,9,10,56,57] f) f_∧Qe ([(g1,.cells #[.int .i64 r1.Nodes,.slice A1 r1.Edges.length c1] 24 (0,0))]::ch7::so5::Yr [some 0] 4 l) l_∧Own YW 108 μ_ (.slice A6 out4.length c6) out4 ch7∧Qb μ_ pv1 q2 so5∧μ=μ_) ⟨A5,c5,ch6,so4,fE E,sE [some 2,some 3,some 1,some 0] 4 E,(hO6),(hP4),E⟩ ?_;rintro ⟨out4,q2,v2⟩ _ _ _ _ _ ⟨A6,c6,ch7,so5,hF1611,hS1611,hO7,hP5,rfl⟩ hb1611 hq1611;unfold Y3 at hb1611;replace hb1611:=Qi hb1611;replace hb1611:=Qi hb1611;refine Atn 4 hF1611 hS1611 E E (G0 5 E ?_);refine Br hb1611 59 E E (fun hc7 hb1611=> ?_) (fun hc7 hb1611=> ?_)
   ·refine G2 3 [59] [] [] E ?_;refine Cut hb1611 (fun f l o_ f_ μ_ l_=> ∃(out5:(List Qd)) (q3:Qa) (A7:Option Addr) (c7:Nat) (ch9:Seg) (so7:Seg),(out5,q3)=o_∧Qm ((7,.slice A7 out5.length c7)::QD [2,3,9,10,56,57,58] f) f_∧Qe ([(g1,.cells #[.int .i64 r1.Nodes,.slice A1 r1.Edges.length c1] 24 (0,0))]::ch9::so7::Yr [] 3 l) l_∧Own YW 108 μ_ (.slice A7 out5.length c7) out5 ch9∧Qb μ_ pv1 q3 so7∧μ=μ_) ?_ ?_
    ·intro _ h1621 hb1611;refine G0 3 E (Ix h1621 (Qn.rds hA1 L) E E fun x4 _ _ _ hr4 hc8 _ h1621=> ?_);obtain rfl:=hr4;refine Q3 1 [] [] [64] (Z1 (hc8.push.push.push.push)) E (Al E fun g3=>Q1 6 [0,0] E (Cl E ?_));obtain ⟨⟨_,r9⟩,hx9,h1621⟩:=Qg h1621;replace h1621:=Qi h1621;refine QcM  hx9 ((Q1 14 [4] E ?_));refine Br h1621 71 E E (fun hc9 h1621=> ?_) (fun hc9 h1621=> ?_)
     ·refine G2 2 [71] [] [] E ?_;cases h1621;exact Ce E ⟨_,_,A6,c6,ch7,so5,rfl,fE E,sE [some 1,some 2,some 3,some 4] 5 E,(hO7),(hP5),rfl⟩
     refine G2 7 [] [71] [4,0] E (Cl E ?_);obtain ⟨r10,hx10,h1621⟩:=Qg h1621;refine QdN  hx10 ((Q0 0 E (Al E fun g4=>Q1 3 [0] E (Dr _ QK.refl [(true,0),(true,1),(true,2),(true,3),(true,4),(false,5)] (by kernel_rfl) (G1 3 [0] E (Ix h1621 (Own.rds (L:=([(g4,.cells #[.int .i64 r10.Secs,.int .i64 r10.Meters] 108 (0,0))]::[(g3,.cells #[.int .i64 x4.From,.int .i64 x4.To,.int .i64 x4.Meters,.int .i64 x4.Secs] 77 (0,0))]::[(g1,.cells #[.int .i64 r1.Nodes,.slice A1 r1.Edges.length c1] 24 (0,0))]::ch7::so5::[(g2,.cells #[.int .i64 r5.node,.int .i64 r5.leg.Secs,.int .i64 r5.leg.Meters] 153 (0,0))]::L)) hO7 3 E) E E fun _ _ _ _ hr5 hc10 _ h1621=> ?_))))));obtain rfl:=hr5;refine Q3 1 [] [] [64] (Z1 hc10) E (Cl E ?_);obtain ⟨_,hx12,h1621⟩:=Qg h1621;refine QaD  hx12 (?_);refine ⟨QK.refl,?_⟩;refine Q0 1 E ?_;refine Br h1621 81 E E (fun hc11 h1621=> ?_) (fun hc11 h1621=> ?_)
     ·refine G2 6 [81] [] [0] E (IxA h1621 (Own.rds hO7 3 E) E E fun _ a6 _ hx13 hr6 _ hA7 h1621=> ?_);obtain rfl:=hr6;refine Q0 0 E (So E (YM (vs:=[.int .i64 r10.Secs,.int .i64 r10.Meters]) E E E E E E ?_))
      rw[←Addr.add_zero' ((a6.add (r9.toNat*2)))]
      refine Own.store (μ:=μ) (r:=YW) (x':=r10) (o:=0) (sz:=2) 3 rfl hO7 hA7 hx13 rfl rfl (by rintro _ rfl;rfl) fun ch8 hO8=> ?_
      rw[←Jp out4 r9 r10] at hO8 ⊢
      refine Q1 6 [0] E (Cl E (Fn.gp [[4],[0],[1],[2],[3],[5]] 6 6 E ?_));obtain ⟨_,hx14,h1621⟩:=Qg h1621;refine JB hP5 hx14 (fun so6 hP6=>Q0 2 E ?_);cases h1621;exact Ce E ⟨_,_,A6,c6,ch8,so6,rfl,fE E,sE [some 3,some 4,some 0,some 5] 6 E,(hO8),(hP6),rfl⟩
     refine G2 3 [] [81] [] E ?_;cases h1621;exact Ce E ⟨_,_,A6,c6,ch7,so5,rfl,fE E,sE [some 2,some 3,some 4,some 5] 6 E,(hO7),(hP5),rfl⟩
    rintro _ _ _ _ hb1611 _ ⟨out5,q3,A7,c7,ch9,so7,rfl,hF1621,hS1621,hO9,hP7,rfl⟩;replace hb1611:=Qi hb1611;refine Atn 4 hF1621 hS1621 E E (G0 4 E ?_);cases hb1611;exact Ce E ⟨_,rfl,A7,c7,ch9,so7,fE E,sE [some 0,some 1,some 2,some 3] 4 E,(hO9),(hP7),rfl⟩
   refine G2 2 [] [59] [] E ?_;cases hb1611;have hq_:=hq1611 _ E;subst hq_;exact Ce E ⟨_,_,A6,c6,ch7,so5,rfl,fE E,sE [some 0,some 1,some 2] 4 E,(hO7),(hP5),rfl⟩
  rintro _ _ _ _ hb1543 _ ⟨out6,q4,A8,c8,ch10,so8,rfl,hF1560,hS1560,hO10,hP8,rfl⟩;replace hb1543:=Qi hb1543;refine G0 1 E ?_;cases hb1543;exact Ce E ⟨_,rfl,A8,c8,ch10,so8,hF1560.tr E,hS1560.tr (sE [some 0,some 1,some 2] 3 E),(hO10),(hP8),rfl⟩
 exact fun _ _ _ _ _ _ hf_=>hf_.elim
theorem QeS {F:Nat} {r1:Qq} {f_from1:Int} {A1:Option Addr} {c1:Nat} {res1:(List Qd)} {res2:Int}
  (hl1:r1.Edges.length≤c1∧c1≤maxLen) (hA1:Qn QE μ A1 r1.Edges) (h:W0 F r1 f_from1=some (res1,res2))
  (hR: ∀(μ':Gh) (A0:Option Addr) (c0:Nat) (ch0:Seg),μ.le μ'→Own YW 108 μ' (.slice A0 res1.length c0) res1 ch0→R (.tuple #[.slice A0 res1.length c0,.int .i64 res2]) μ' (ch0::L)) :
  Fn Try.prog 60 [.agg #[.int .i64 r1.Nodes,.slice A1 r1.Edges.length c1],.int .i64 f_from1] μ (L) R:=by
 unfold W0 at h;refine FnS Try.func60 (by kernel_rfl) E Try.ntmps60 E E ?_;refine G0 2 E (Al E fun _=>Q1 7 [0] E (Cl E ?_));obtain ⟨_,hx1,h⟩:=Qg h;refine Qa6 hl1 hA1 hx1 (fun _ hm_1=> ?_);replace hA1:=hA1.mono hm_1;refine Q0 7 E ?_;refine Br h 10 E E (fun hc1 h=> ?_) (fun hc1 h=> ?_)
 ·refine G2 7 [10] [] [] E ?_;cases h;exact Rt [] E E (Ug [[]] 1 (hR _ none 0 [] hm_1 Own.nil))
 refine G2 4 [] [10] [] E ?_;refine Cut h (fun f l o_ f_ μ_ l_=> ∃(v2:Bool),v2=o_∧Qm ((19,.bool v2)::QD [1,2] f) f_∧Qe l l_) ?_ ?_
 ·intro _ h1675 h;refine G0 4 E ?_;refine Br h1675 14 E E (fun hc2 h1675=> ?_) (fun hc2 h1675=> ?_)
  ·refine G2 6 [14] [] [] E ?_;cases h1675;exact Ce E ⟨_,rfl,fE E,sE [some 0] 1 E⟩
  refine G2 6 [] [14] [0] E ?_;cases h1675;exact Ce E ⟨_,rfl,fE E,sE [some 0] 1 E⟩
 rintro _ _ _ _ h hm1675 ⟨v2,rfl,hF1675,hS1675⟩;replace hA1:=hA1.mono hm1675;refine Atn 1 hF1675 hS1675 E E ?_;refine Br h 19 E E (fun hc3 h=> ?_) (fun hc3 h=> ?_)
 ·refine G2 6 [19] [] [] E ?_;cases h;exact Rt [] E E (Ug [[]] 1 (hR _ none 0 [] (hm_1.trans hm1675) Own.nil))
 refine G2 6 [] [19] [0] E (Cl E ?_);obtain ⟨_,hx2,h⟩:=Qg h;refine Qbo hl1 hA1 hx2 (fun A2 c2 ch1 hO1=>Q0 3 E ?_);cases h;exact Rt [] E E (Ug [[0]] 2 (hR _ A2 c2 ch1 (hm_1.trans hm1675) hO1))
theorem VO {F:Nat} {w1:Ql} {f_to1:Int} {pv1:Value} {so1:Seg} {res1:Qd} {res2:Bool} {res3:Ql}
  (hP1:Qo μ pv1 w1 so1) (h:Je F w1 f_to1=some (res1,res2,res3))
  (hR: ∀(μ':Gh) (sp0:Seg),μ.le μ'→Qo μ' pv1 res3 sp0→R (.tuple #[.agg #[.int .i64 res1.Secs,.int .i64 res1.Meters],.bool res2]) μ' (sp0::L)) :
  Fn Try.prog 50 [pv1,.int .i64 f_to1] μ (so1::L) R:=by
 unfold Je at h;refine FnS Try.func50 (by kernel_rfl) E Try.ntmps50 E E ?_;refine G0 2 E (Al E fun g1=> ?_);obtain ⟨g2,A1,c1,A2,c2,A3,c3,g3,es1,cn1,A4,c4,ch1,hv1,rfl,⟨hl1,hA1⟩,⟨hl2,hA2⟩,⟨hl3,hA3⟩,hM1,hO1⟩:=hP1;subst hv1;refine Q0 3 E (In Qo.fl 1 4 E E E (Dr _ QK.refl [(true,0),(true,1),(true,2),(true,3),(true,4),(true,5),(true,6),(true,7),(true,8),(true,9),(true,10),(true,11),(true,12),(true,13),(true,14)] (by kernel_rfl) (G1 9 [1,1] E (Rdo E E ?_))));obtain ⟨A5,c5,hx1,hl4,hA4⟩:=Qbd.look (L:=([(g1,.cells #[.int .i64 0,.int .i64 0] 108 (0,0))]::[(g2,.cells #[.int .i64 w1.place.node,.int .i64 w1.place.time,.int .i64 w1.place.load,.int .i64 w1.place.meters,.int .i64 w1.p.Road.Nodes,.slice A1 w1.p.Road.Edges.length c1,.slice A2 w1.p.Vehicles.length c2,.slice A3 w1.p.Demands.length c3,.int .i64 w1.p.Unload,.int .i64 w1.p.UnloadSecs,.string w1.v.ID,.int .i64 w1.v.Depot,.int .i64 w1.v.Shift.From,.int .i64 w1.v.Shift.To,.int .i64 w1.v.Grams,.int .i64 w1.v.Kinds,.map (some g3),.slice A4 w1.visits.length c4] 70 (0,0))]::[(g3,.map es1 cn1)]::ch1::L)) (g:=g3) hM1 (Jz.seg 2 0 rfl rfl) w1.place.node;refine Qju E E E E E E E E (Ex.mk _ hx1 (Q0 12 E ?_));refine Cut h (fun f l o_ f_ μ_ l_=> ∃(l1:(List Qd)) (m1:(List (Int×(List Qd)))) (A7:Option Addr) (c7:Nat) (es3:Array MapEntry) (cn3:Nat),(l1,m1)=o_∧Qm ((6,.slice A7 l1.length c7)::QD [1,4] f) f_∧Qe ([(g1,.cells #[.int .i64 0,.int .i64 0] 108 (0,0))]::[(g2,.cells #[.int .i64 w1.place.node,.int .i64 w1.place.time,.int .i64 w1.place.load,.int .i64 w1.place.meters,.int .i64 w1.p.Road.Nodes,.slice A1 w1.p.Road.Edges.length c1,.slice A2 w1.p.Vehicles.length c2,.slice A3 w1.p.Demands.length c3,.int .i64 w1.p.Unload,.int .i64 w1.p.UnloadSecs,.string w1.v.ID,.int .i64 w1.v.Depot,.int .i64 w1.v.Shift.From,.int .i64 w1.v.Shift.To,.int .i64 w1.v.Grams,.int .i64 w1.v.Kinds,.map (some g3),.slice A4 w1.visits.length c4] 70 (0,0))]::[(g3,.map es3 cn3)]::Yr [] 3 l) l_∧(l1.length≤c7∧c7≤maxLen)∧Qn YW μ_ A7 l1∧Qbd YW μ_ es3 cn3 m1) ?_ ?_
 ·intro _ h1763 h;refine Br h1763 22 E E (fun hc1 h1763=> ?_) (fun hc1 h1763=> ?_)
  ·refine G2 2 [22] [] [] E (Dr _ QK.refl [(true,0),(true,1),(true,2),(true,3),(true,4),(true,5),(true,6),(true,7),(true,8),(true,9),(false,10),(true,11),(true,12),(true,13),(true,14)] (by kernel_rfl) (G1 10 [1,1] E (Cl E ?_)));obtain ⟨⟨_,_⟩,hx2,h1763⟩:=Qg h1763;replace h1763:=Qi h1763;refine QeS hl1 hA1 hx2 (fun _ A6 c6 _ hm_1 hO2=> ?_);replace hA1:=hA1.mono hm_1;replace hA2:=hA2.mono hm_1;replace hA3:=hA3.mono hm_1;replace hM1:=hM1.mono hm_1;replace hO1:=hO1.mono hm_1;replace hA4:=hA4.mono hm_1;refine ⟨QK.more (QK.refl),?_⟩;refine Q0 5 E (Drk [3,0] 3 E [(true,0),(true,1),(true,2),(true,3),(true,4),(true,5),(true,6),(true,7),(true,8),(true,9),(false,10)] (by kernel_rfl) (G1 10 [1,1] E (So E (Qch E E E ?_))));have hl5:=Own.lenOk hO2;refine Wf.pre (Upd.frzOwn 0 E hO2 fun _ hm_2 hA5=>Upd.done ?_);replace hA1:=hA1.mono hm_2;replace hA2:=hA2.mono hm_2;replace hA3:=hA3.mono hm_2;replace hM1:=hM1.mono hm_2;replace hO1:=hO1.mono hm_2;replace hA4:=hA4.mono hm_2;refine Qhv YB E E E E 3 E hM1 E hl5 hA5 fun es2 cn2 hM2=> ?_;refine ⟨Kp [1,2,4] 5 E,?_⟩;refine Q0 1 E ?_;cases h1763;exact Ce E ⟨_,_,A6,c6,es2,cn2,rfl,fE E,sE [some 1,some 2,some 3,some 4] 5 E,(hl5),(hA5),(hM2)⟩
  refine G2 2 [] [22] [] E ?_;cases h1763;exact Ce E ⟨_,_,A5,c5,es1,cn1,rfl,fE E,sE [some 0,some 1,some 2,some 3] 4 E,(hl4),(hA4),(hM1)⟩
 rintro _ _ _ _ h hm1763 ⟨l1,m1,A7,c7,es3,cn3,rfl,hF1763,hS1763,_,hA6,hM3⟩;replace h:=Qi h;replace hA1:=hA1.mono hm1763;replace hA2:=hA2.mono hm1763;replace hA3:=hA3.mono hm1763;replace hO1:=hO1.mono hm1763;refine Atn 4 hF1763 hS1763 E E (G0 1 E (Drk [0] 3 E [(true,0),(true,1),(true,2),(true,3),(true,4),(true,5),(true,6),(true,7),(true,8),(true,9),(false,10),(true,11)] (by kernel_rfl) (G0 2 E (Ix h (Qn.rds hA6 L) E E fun x1 _ _ _ hr1 hc2 _ h=> ?_))));obtain rfl:=hr1;refine Q3 3 [] [] [64] (Z1 (hc2.push.push.push)) E (Ix h (Qn.rds hA6 L) E E fun _ _ _ _ hr2 hc3 _ h=> ?_);obtain rfl:=hr2;refine Q3 3 [] [] [64] (Z1 (hc3.push.push.push)) E (So E (YM (vs:=[.int .i64 x1.Secs,.int .i64 x1.Meters]) E E E E E E (ST_ (L':=([(g1,.cells #[.int .i64 x1.Secs,.int .i64 x1.Meters] 108 (0,0))]::[(g2,.cells #[.int .i64 w1.place.node,.int .i64 w1.place.time,.int .i64 w1.place.load,.int .i64 w1.place.meters,.int .i64 w1.p.Road.Nodes,.slice A1 w1.p.Road.Edges.length c1,.slice A2 w1.p.Vehicles.length c2,.slice A3 w1.p.Demands.length c3,.int .i64 w1.p.Unload,.int .i64 w1.p.UnloadSecs,.string w1.v.ID,.int .i64 w1.v.Depot,.int .i64 w1.v.Shift.From,.int .i64 w1.v.Shift.To,.int .i64 w1.v.Grams,.int .i64 w1.v.Kinds,.map (some g3),.slice A4 w1.visits.length c4] 70 (0,0))]::[(g3,.map es3 cn3)]::ch1::L)) 0 0 E E E E ?_)));refine ⟨Kp [1,2,3] 4 E,?_⟩;refine Q0 2 E ?_;cases h;exact Rt [0] E E (Ug [[1,2,3]] 4 (hR _ _ hm1763 ⟨g2,A1,c1,A2,c2,A3,c3,g3,es3,cn3,A4,c4,ch1,rfl,rfl,⟨hl1,hA1⟩,⟨hl2,hA2⟩,⟨hl3,hA3⟩,hM3,hO1⟩))
theorem Wd  {w1:Ql} {stop1:Int} {arrive1:Int} {start1:Int} {pv1:Value} {so1:Seg} {res1:Ql}
  (hP1:Qo μ pv1 w1 so1) (h:Zx w1 stop1 arrive1 start1=some res1)
  (hR: ∀(sp0:Seg),Qo μ pv1 res1 sp0→R (.tuple #[]) μ (sp0::L)) :
  Fn Try.prog 52 [pv1,.int .i64 stop1,.int .i64 arrive1,.int .i64 start1] μ (so1::L) R:=by
 unfold Zx at h;refine FnS Try.func52 (by kernel_rfl) E Try.ntmps52 E E ?_;obtain ⟨g1,A1,c1,A2,c2,A3,c3,g2,es1,cn1,A4,c4,_,hv1,rfl,⟨hl1,hA1⟩,⟨hl2,hA2⟩,⟨hl3,hA3⟩,hM1,hO1⟩:=hP1;subst hv1;refine In Qo.fl 0 3 E E E (Cd (WP.drawB (id:=0) (l':=List.replicate 28 true++[false]) Qgz YB ([(g1,.cells #[.int .i64 w1.place.node,.int .i64 w1.place.time,.int .i64 w1.place.load,.int .i64 w1.place.meters,.int .i64 w1.p.Road.Nodes,.slice A1 w1.p.Road.Edges.length c1,.slice A2 w1.p.Vehicles.length c2,.slice A3 w1.p.Demands.length c3,.int .i64 w1.p.Unload,.int .i64 w1.p.UnloadSecs,.string w1.v.ID,.int .i64 w1.v.Depot,.int .i64 w1.v.Shift.From,.int .i64 w1.v.Shift.To,.int .i64 w1.v.Grams,.int .i64 w1.v.Kinds,.map (some g2),.slice A4 w1.visits.length c4] 70 (0,0))]::[(g2,.map es1 cn1)]::L) (Kp [0,1] 3 E) 28 [] [(true,0),(true,1),(true,2),(true,3),(true,4),(true,5),(true,6),(true,7),(true,8),(true,9),(true,10),(true,11),(true,12),(true,13),(true,14),(true,15),(true,16),(true,17),(true,18),(true,19),(true,20),(true,21),(true,22),(true,23),(false,24),(false,25),(true,26),(true,27)] (by kernel_rfl) (by kernel_rfl) [] E (by kernel_rfl) (by kernel_rfl) ?_));refine Qeq E (YE E (Pt E E (YE E (Pt E E (ZT E (Pt E E (ZS (o':=17) E E E E E E (Pt E E (Zu E E E (Ex.mk _ (ZQ.seg 0 0 E E E) (Pt E E (YE E ?_))))))))))));refine Pt E E (YE E (Pt E E (ZT E (Pt E E (ZS (o':=0) E E E E E E (Pt E E (ZS (o':=0) E E E E E E (Pt E E (Zu E E E (Ex.mk _ (ZQ.seg 0 0 E E E) (Pt E E ?_)))))))))));refine YE E (Pt E E (YE E (Pt E E (YE E (Pt E E (ZT E (Pt E E (ZS (o':=0) E E E E E E (Pt E E (ZS (o':=1) E E E E E E (Pt E E ?_)))))))))));refine Zu E E E (Ex.mk _ (ZQ.seg 0 0 E E E) (Pt E E (YE E (Pt E E (ZT E (Pt E E (ZS (o':=0) E E E E E E (Pt E E (ZS (o':=2) E E E E E E (Pt E E (Zu E E E (Ex.mk _ (ZQ.seg 0 0 E E E) ?_))))))))))));refine Pt E E (Qer E E E E (QQ (cells':=[.int .i64 stop1,.int .i64 0,.int .i64 0,.int .i64 0,.int .i64 0,.int .i64 0]) E E E E (QQ (cells':=[.int .i64 stop1,.int .i64 w1.place.node,.int .i64 0,.int .i64 0,.int .i64 0,.int .i64 0]) E E E E (QQ (cells':=[.int .i64 stop1,.int .i64 w1.place.node,.int .i64 arrive1,.int .i64 0,.int .i64 0,.int .i64 0]) E E E E (QQ (cells':=[.int .i64 stop1,.int .i64 w1.place.node,.int .i64 arrive1,.int .i64 start1,.int .i64 0,.int .i64 0]) E E E E (QQ (cells':=[.int .i64 stop1,.int .i64 w1.place.node,.int .i64 arrive1,.int .i64 start1,.int .i64 w1.place.time,.int .i64 0]) E E E E (QQ (cells':=[.int .i64 stop1,.int .i64 w1.place.node,.int .i64 arrive1,.int .i64 start1,.int .i64 w1.place.time,.int .i64 w1.place.load]) E E E E ?_)))))));refine Z5 (Zz E (QdF E (Jk (z:=[.int .i64 0,.int .i64 0,.int .i64 0,.int .i64 0,.int .i64 0,.int .i64 0]) E E E E E E E (QQ (cells':=[.int .i64 stop1,.int .i64 w1.place.node,.int .i64 arrive1,.int .i64 start1,.int .i64 w1.place.time,.int .i64 w1.place.load]) E E E E (Z5 (fun g3=> ?_))))));refine ⟨Kp [1,2] 4 E,?_⟩;refine Zz E (QdF E (ZR E ?_));obtain ⟨l1,hz1,h⟩:=Qg h;refine Jv (r:=QaC) YB E E E E (by decide) E E 3 E hO1 E (Own.rds (Own.lit (r:=QaC) (e:=126) (g:=g3) (xs:=[(Qy.mk stop1 w1.place.node arrive1 start1 w1.place.time w1.place.load)]) (cs:=[.int .i64 stop1,.int .i64 w1.place.node,.int .i64 arrive1,.int .i64 start1,.int .i64 w1.place.time,.int .i64 w1.place.load]) (css:=[[.int .i64 stop1,.int .i64 w1.place.node,.int .i64 arrive1,.int .i64 start1,.int .i64 w1.place.time,.int .i64 w1.place.load]]) E (All2.cons (E) (All2.nil)) E E) 0 E) hz1 fun A5 c5 ch2 hO2=> ?_;refine ⟨Kp [1,2] 4 E,?_⟩
 refine Pt E E (ZT E (Pt E E (ZS (o':=17) E E E E E E (Zz E (Qak (Qfs E (YM (vs:=[.slice A5 l1.length c5]) E E E E E E (ST_ (L':=([(g3,.cells #[.int .i64 stop1,.int .i64 w1.place.node,.int .i64 arrive1,.int .i64 start1,.int .i64 w1.place.time,.int .i64 w1.place.load] 126 (0,0))]::[(g1,.cells #[.int .i64 w1.place.node,.int .i64 w1.place.time,.int .i64 w1.place.load,.int .i64 w1.place.meters,.int .i64 w1.p.Road.Nodes,.slice A1 w1.p.Road.Edges.length c1,.slice A2 w1.p.Vehicles.length c2,.slice A3 w1.p.Demands.length c3,.int .i64 w1.p.Unload,.int .i64 w1.p.UnloadSecs,.string w1.v.ID,.int .i64 w1.v.Depot,.int .i64 w1.v.Shift.From,.int .i64 w1.v.Shift.To,.int .i64 w1.v.Grams,.int .i64 w1.v.Kinds,.map (some g2),.slice A5 l1.length c5] 70 (0,0))]::[(g2,.map es1 cn1)]::ch2::L)) 1 0 E E E E ?_))))))));apply W4;cases h;exact Rt [] E E (Ug [[1,2,3]] 4 (hR _ ⟨g1,A1,c1,A2,c2,A3,c3,g2,es1,cn1,A5,c5,ch2,rfl,rfl,⟨hl1,hA1⟩,⟨hl2,hA2⟩,⟨hl3,hA3⟩,hM1,hO2⟩))
theorem Qbt {F:Nat} {w1:Ql} {t1:Qf} {i1:Int} {pv1:Value} {so1:Seg} {A1:Option Addr} {c1:Nat} {res1:Int} {res2:Ql}
  (hP1:Qo μ pv1 w1 so1) (hl1:t1.Stops.length≤c1∧c1≤maxLen) (hA1:Rds QV μ L A1 t1.Stops) (h:ZC F w1 t1 i1=some (res1,res2))
  (hR: ∀(μ':Gh) (sp0:Seg),μ.le μ'→Qo μ' pv1 res2 sp0→R (.int .i64 res1) μ' (sp0::L)) :
  Fn Try.prog 34 [pv1,.agg #[.int .i64 t1.Vehicle,.slice A1 t1.Stops.length c1],.int .i64 i1] μ (so1::L) R:=by
 unfold ZC at h;refine FnS Try.func34 (by kernel_rfl) E Try.ntmps34 E E ?_;refine G0 2 E (Al E fun _=>Q1 7 [0] E (Ix h hA1 E E fun _ _ _ _ hr1 hc1 _ h=> ?_));obtain rfl:=hr1;obtain ⟨g2,A2,c2,A3,c3,A4,c4,g3,es1,cn1,A5,c5,ch1,hv1,rfl,⟨hl2,hA3⟩,⟨hl3,hA4⟩,⟨hl4,hA5⟩,hM1,hO1⟩:=hP1;subst hv1;refine Q3 4 [] [] [64] (Z1 (hc1.push.push)) E (In Qo.fl 1 4 E E E (G1 14 [1] E ?_));refine Cut h (fun f l o_ f_ μ_ l_=> ∃(node1:Int),(.inl node1)=o_∧Qm ((8,.int .i64 node1)::QD [0,7] f) f_∧Qe (Yr [] 1 l) l_) ?_ ?_
 ·intro _ h2362 h;refine Br h2362 25 E E (fun hc2 h2362=> ?_) (fun hc2 h2362=> ?_)
  ·refine G2 3 [25] [] [] E ?_;refine Cut h2362 (fun f l o_ f_ μ_ l_=> ∃(v1:Bool),v1=o_∧Qm ((37,.bool v1)::QD [0,2,4,7] f) f_∧Qe (Yr [some 1,some 2,some 3,some 0] 4 l) l_) ?_ ?_
   ·intro _ h2363 h2362;refine G0 4 E ?_;refine Br h2363 28 E E (fun hc3 h2363=> ?_) (fun hc3 h2363=> ?_)
    ·refine G2 10 [28] [] [] E ?_;cases h2363;exact Ce E ⟨_,rfl,fE E,sE [some 1,some 2,some 3,some 0] 4 E⟩
    refine G2 10 [] [28] [1] E ?_;cases h2363;exact Ce E ⟨_,rfl,fE E,sE [some 1,some 2,some 3,some 0] 4 E⟩
   rintro _ _ _ _ h2362 hm2363 ⟨v1,rfl,hF2363,hS2363⟩;replace hA1:=hA1.mono hm2363;replace hA3:=hA3.mono hm2363;replace hA4:=hA4.mono hm2363;replace hA5:=hA5.mono hm2363;replace hM1:=hM1.mono hm2363;replace hO1:=hO1.mono hm2363;refine Atn 4 hF2363 hS2363 E E ?_;refine Br h2362 37 E E (fun hc4 h2362=> ?_) (fun hc4 h2362=> ?_)
   ·refine G2 5 [37] [] [] E ?_;cases h2362;replace h:=ZW h;cases h;exact Rt [] E E (Ug [[0,1,2]] 4 (hR _ _ hm2363 ⟨g2,A2,c2,A3,c3,A4,c4,g3,es1,cn1,A5,c5,ch1,rfl,rfl,⟨hl2,hA3⟩,⟨hl3,hA4⟩,⟨hl4,hA5⟩,hM1,hO1⟩))
   obtain ⟨_,hs1,h2362⟩:=Qg h2362;refine G2 8 [] [37] [3] E (Rdo E E (WN E E E E E E hl1.1 hs1 ?_));have hA6:=Rds.pre hA1 hs1;have hl5:=V4 hl1 hs1;refine Q0 1 E (Cl E ?_);obtain ⟨_,hx2,h2362⟩:=Qg h2362;refine Wb hl5 (Rds.push (Rds.push (Rds.push (Rds.push hA6)))) hx2 ((Q0 1 E ?_));refine Br h2362 43 E E (fun hc5 h2362=> ?_) (fun hc5 h2362=> ?_)
   ·refine G2 5 [43] [] [] E ?_;cases h2362;replace h:=ZW h;cases h;exact Rt [] E E (Ug [[0,1,2]] 4 (hR _ _ hm2363 ⟨g2,A2,c2,A3,c3,A4,c4,g3,es1,cn1,A5,c5,ch1,rfl,rfl,⟨hl2,hA3⟩,⟨hl3,hA4⟩,⟨hl4,hA5⟩,hM1,hO1⟩))
   refine G2 4 [] [43] [] E (Dr _ QK.refl [(true,0),(true,1),(true,2),(true,3),(true,4),(true,5),(true,6),(true,7),(true,8),(true,9),(true,10),(true,11),(true,12),(false,13),(true,14)] (by kernel_rfl) (G1 10 [0,0] E (Ix h2362 (Qn.rds hA5 L) E E fun _ _ _ _ hr2 hc6 _ h2362=> ?_)));obtain rfl:=hr2;refine Q3 2 [] [] [66] (Z1 (hc6.push.push.push.push)) E (Cl E ?_);obtain ⟨_,hx4,h2362⟩:=Qg h2362;refine Qbu  hx4 (?_);refine ⟨QK.refl,?_⟩;refine Q0 2 E ?_;refine Br h2362 58 E E (fun hc7 h2362=> ?_) (fun hc7 h2362=> ?_)
   ·refine G2 5 [58] [] [] E ?_;cases h2362;replace h:=ZW h;cases h;exact Rt [] E E (Ug [[0,1,2]] 4 (hR _ _ hm2363 ⟨g2,A2,c2,A3,c3,A4,c4,g3,es1,cn1,A5,c5,ch1,rfl,rfl,⟨hl2,hA3⟩,⟨hl3,hA4⟩,⟨hl4,hA5⟩,hM1,hO1⟩))
   refine G2 9 [] [58] [0] E (Ix h2362 (Qn.rds hA5 L) E E fun _ _ _ _ hr3 hc8 _ h2362=> ?_);obtain rfl:=hr3;refine Q3 4 [] [] [65] (Z1 (hc8.push.push.push.push)) E ?_;cases h2362;exact Ce E ⟨_,rfl,fE E,sE [some 0,some 1,some 2] 4 E⟩
  refine G2 2 [] [25] [] E ?_;cases h2362;exact Ce E ⟨_,rfl,fE E,sE [some 1,some 2,some 3] 4 E⟩
 rintro _ _ μ2362 _ h hm2362 ⟨node1,rfl,hF2362,hS2362⟩;replace h:=JD h;replace hA3:=hA3.mono hm2362;replace hA4:=hA4.mono hm2362;replace hA5:=hA5.mono hm2362;replace hM1:=hM1.mono hm2362;replace hO1:=hO1.mono hm2362;refine Atn 3 hF2362 hS2362 E E (G0 4 E (Cl E ?_));have hP2:Qo μ2362 (.pointer (some ⟨g2,0,none⟩)) w1 _:=⟨g2,A2,c2,A3,c3,A4,c4,g3,es1,cn1,A5,c5,ch1,rfl,rfl,⟨hl2,hA3⟩,⟨hl3,hA4⟩,⟨hl4,hA5⟩,hM1,hO1⟩
 refine Fn.gp [[0,1,2]] 3 1 E ?_;obtain ⟨⟨r3,_,r5⟩,hx6,h⟩:=Qg h;replace h:=Qi h;replace h:=Qi h;refine VO hP2 hx6 (fun v2 _ hm_1 hP3=> ?_);refine Q0 3 E (Al E fun g4=>Q1 9 [0] E ?_);refine Br h 75 E E (fun hc9 h=> ?_) (fun hc9 h=> ?_)
 ·refine G2 5 [75] [] [] E ?_;cases h;exact Rt [] E E (Ug [[1]] 2 (hR _ _ (hm2362.trans hm_1) hP3))
 obtain ⟨_,A6,c6,A7,c7,A8,c8,g6,es2,cn2,A9,c9,ch2,hv2,rfl,⟨hl6,hA9⟩,⟨hl7,hA10⟩,⟨hl8,hA11⟩,hM2,hO2⟩:=hP3;replace hv2:=Wx hv2;subst hv2;refine G2 3 [] [75] [] E (In Qo.fl 1 4 E E E (Drk [1] 3 E [(true,0),(true,1),(true,2),(true,3),(true,4),(false,5)] (by kernel_rfl) (G1 5 [0] E (Cl E (FnS Try.func51 (by kernel_rfl) E Try.ntmps51 E E (G0 2 E (Al E fun g7=>Q1 10 [2] E (Drk [2] 4 E [(true,0),(true,1),(true,2),(true,4),(true,5),(false,3),(true,6),(true,7),(true,8),(false,9)] (by kernel_rfl) (G1 5 [0] E (So E (W3 E (Zu E E E (Ex.mk _ (ZQ.seg 2 0 E E E) ?_)))))))))))));refine ⟨Kp [0,1,3,4] 5 E,?_⟩;refine Q0 3 E (So E (YM (vs:=[.int .i64 (w64 (r5.place.time+r3.Secs))]) E E E E E E (ST_ (L':=([(g7,.cells #[.int .i64 r3.Secs,.int .i64 r3.Meters] 108 (0,0))]::[(g4,.cells #[.int .i64 r3.Secs,.int .i64 r3.Meters] 108 (0,0))]::[(g2,.cells #[.int .i64 node1,.int .i64 (w64 (r5.place.time+r3.Secs)),.int .i64 r5.place.load,.int .i64 r5.place.meters,.int .i64 r5.p.Road.Nodes,.slice A6 r5.p.Road.Edges.length c6,.slice A7 r5.p.Vehicles.length c7,.slice A8 r5.p.Demands.length c8,.int .i64 r5.p.Unload,.int .i64 r5.p.UnloadSecs,.string r5.v.ID,.int .i64 r5.v.Depot,.int .i64 r5.v.Shift.From,.int .i64 r5.v.Shift.To,.int .i64 r5.v.Grams,.int .i64 r5.v.Kinds,.map (some g6),.slice A9 r5.visits.length c9] 70 (0,0))]::[(g6,.map es2 cn2)]::ch2::L)) 2 0 E E E E ?_)));refine ⟨Kp [0,1,3,4] 5 E,?_⟩;refine Q0 1 E (Drk [2] 4 E [(true,0),(true,1),(true,2),(true,4),(true,5),(false,3),(true,6),(true,7),(true,8),(false,9)] (by kernel_rfl) (G1 5 [0] E (So E (W3 E (Zu E E E (Ex.mk _ (ZQ.seg 2 0 E E E) ?_))))));refine ⟨Kp [0,1,3,4] 5 E,?_⟩;refine Q0 3 E (So E (YM (vs:=[.int .i64 (w64 (r5.place.meters+r3.Meters))]) E E E E E E (ST_ (L':=([(g7,.cells #[.int .i64 r3.Secs,.int .i64 r3.Meters] 108 (0,0))]::[(g4,.cells #[.int .i64 r3.Secs,.int .i64 r3.Meters] 108 (0,0))]::[(g2,.cells #[.int .i64 node1,.int .i64 (w64 (r5.place.time+r3.Secs)),.int .i64 r5.place.load,.int .i64 (w64 (r5.place.meters+r3.Meters)),.int .i64 r5.p.Road.Nodes,.slice A6 r5.p.Road.Edges.length c6,.slice A7 r5.p.Vehicles.length c7,.slice A8 r5.p.Demands.length c8,.int .i64 r5.p.Unload,.int .i64 r5.p.UnloadSecs,.string r5.v.ID,.int .i64 r5.v.Depot,.int .i64 r5.v.Shift.From,.int .i64 r5.v.Shift.To,.int .i64 r5.v.Grams,.int .i64 r5.v.Kinds,.map (some g6),.slice A9 r5.visits.length c9] 70 (0,0))]::[(g6,.map es2 cn2)]::ch2::L)) 2 0 E E E E ?_)));refine ⟨Kp [0,1,3,4] 5 E,?_⟩;refine Q0 1 E (Rt [] E E (Upd.done ?_));refine ⟨Kp [1,3,4] 5 E,?_⟩;refine Q1 16 [2] E ?_;refine Br h 88 E E (fun hc10 h=> ?_) (fun hc10 h=> ?_)
 ·refine G2 2 [88] [] [] E (Cd (WP.drawB (id:=17) (l':=List.replicate 14 true++[false]) Qgz YB _ QK.refl 14 [] [(true,0),(true,1),(true,2),(true,3),(true,4),(true,5),(true,6),(true,7),(true,8),(true,9),(true,10),(true,11),(true,12),(true,13)] (by kernel_rfl) (by kernel_rfl) [] E (by kernel_rfl) (by kernel_rfl) (Qeq E (YE E (Pt E E (ZT E (Pt E E (ZS (o':=0) E E E E E E (Pt E E (ZS (o':=1) E E E E E E (Pt E E (Zu E E E (Ex.mk _ (ZQ.seg 2 0 E E E) ?_)))))))))))));refine Pt E E (YE E (Pt E E (ZT E (Pt E E (ZS (o':=4) E E E E E E (Pt E E (ZS (o':=9) E E E E E E (Pt E E (Zu E E E (Ex.mk _ (ZQ.seg 2 0 E E E) (Pt E E ?_)))))))))));refine Qi9 E E (Pt E E (ZT E (Pt E E (ZS (o':=0) E E E E E E (Pt E E (ZS (o':=1) E E E E E E (Zz E (Qak (Qfs E (YM (vs:=[.int .i64 (w64 ((w64 (r5.place.time+r3.Secs))+r5.p.UnloadSecs))]) E E E E E E (ST_ (L':=([(g7,.cells #[.int .i64 r3.Secs,.int .i64 r3.Meters] 108 (0,0))]::[(g4,.cells #[.int .i64 r3.Secs,.int .i64 r3.Meters] 108 (0,0))]::[(g2,.cells #[.int .i64 node1,.int .i64 (w64 ((w64 (r5.place.time+r3.Secs))+r5.p.UnloadSecs)),.int .i64 r5.place.load,.int .i64 (w64 (r5.place.meters+r3.Meters)),.int .i64 r5.p.Road.Nodes,.slice A6 r5.p.Road.Edges.length c6,.slice A7 r5.p.Vehicles.length c7,.slice A8 r5.p.Demands.length c8,.int .i64 r5.p.Unload,.int .i64 r5.p.UnloadSecs,.string r5.v.ID,.int .i64 r5.v.Depot,.int .i64 r5.v.Shift.From,.int .i64 r5.v.Shift.To,.int .i64 r5.v.Grams,.int .i64 r5.v.Kinds,.map (some g6),.slice A9 r5.visits.length c9] 70 (0,0))]::[(g6,.map es2 cn2)]::ch2::L)) 2 0 E E E E ?_)))))))))));refine W4 (G1 14 [2] E (Cl E ?_));have hP4:Qo v2 (.pointer (some ⟨g2,0,none⟩)) (Ql.mk (YC.mk node1 (w64 ((w64 (r5.place.time+r3.Secs))+r5.p.UnloadSecs)) 0 (w64 (r5.place.meters+r3.Meters))) r5.p r5.v r5.legs r5.visits) _:=⟨g2,A6,c6,A7,c7,A8,c8,g6,es2,cn2,A9,c9,ch2,rfl,rfl,⟨hl6,hA9⟩,⟨hl7,hA10⟩,⟨hl8,hA11⟩,hM2,hO2⟩
  refine Fn.gp [[2,3,4],[0],[1]] 5 3 E ?_;obtain ⟨_,hx7,h⟩:=Qg h;refine Wd hP4 hx7 (fun _ hP5=>Q0 5 E ?_);cases h;exact Rt [] E E (Ug [[0]] 3 (hR _ _ (hm2362.trans hm_1) hP5))
 refine G2 10 [] [88] [2] E (Ix h (Qn.rds hA11 L) E E fun x4 _ _ _ hr4 hc11 _ h=> ?_);obtain rfl:=hr4;refine Q3 1 [] [] [64] (Z1 (hc11.push.push.push.push.push)) E (Al E fun g8=>Q1 20 [0,0,0] E ?_);refine Br h 129 E E (fun hc12 h=> ?_) (fun hc12 h=> ?_)
 ·refine G2 5 [129] [] [] E ?_;cases h;exact Rt [] E E (Ug [[3,4,5]] 6 (hR _ _ (hm2362.trans hm_1) ⟨g2,A6,c6,A7,c7,A8,c8,g6,es2,cn2,A9,c9,ch2,rfl,rfl,⟨hl6,hA9⟩,⟨hl7,hA10⟩,⟨hl8,hA11⟩,hM2,hO2⟩))
 refine G2 4 [] [129] [] E (Dr _ QK.refl [(true,0),(true,1),(true,2),(true,3),(true,4),(true,5),(true,6),(true,7),(true,8),(true,9),(true,10),(true,11),(true,12),(true,13)] (by kernel_rfl) (G1 15 [3,0,3] E ?_));refine Br h 143 E E (fun hc13 h=> ?_) (fun hc13 h=> ?_)
 ·refine G2 5 [143] [] [] E ?_;cases h;exact Rt [] E E (Ug [[3,4,5]] 6 (hR _ _ (hm2362.trans hm_1) ⟨g2,A6,c6,A7,c7,A8,c8,g6,es2,cn2,A9,c9,ch2,rfl,rfl,⟨hl6,hA9⟩,⟨hl7,hA10⟩,⟨hl8,hA11⟩,hM2,hO2⟩))
 refine G2 15 [] [143] [0,3] E (Drk [3] 5 E [(true,0),(true,1),(true,2),(true,3),(true,5),(true,6),(false,4),(true,7),(true,8),(true,9),(true,10),(false,11)] (by kernel_rfl) (G1 6 [0] E (So E (W3 E (Zu E E E (Ex.mk _ (ZQ.seg 3 0 E E E) ?_))))));refine ⟨Kp [0,1,2,4,5] 6 E,?_⟩;refine Q0 4 E (So E (YM (vs:=[.int .i64 (w64 (r5.place.load+x4.Grams))]) E E E E E E (ST_ (L':=([(g8,.cells #[.int .i64 x4.Container,.int .i64 x4.Node,.int .i64 x4.Kind,.int .i64 x4.Grams,.int .i64 x4.When.From,.int .i64 x4.When.To,.int .i64 x4.Service] 79 (0,0))]::[(g7,.cells #[.int .i64 r3.Secs,.int .i64 r3.Meters] 108 (0,0))]::[(g4,.cells #[.int .i64 r3.Secs,.int .i64 r3.Meters] 108 (0,0))]::[(g2,.cells #[.int .i64 node1,.int .i64 (w64 ((max (w64 (r5.place.time+r3.Secs)) x4.When.From)+x4.Service)),.int .i64 (w64 (r5.place.load+x4.Grams)),.int .i64 (w64 (r5.place.meters+r3.Meters)),.int .i64 r5.p.Road.Nodes,.slice A6 r5.p.Road.Edges.length c6,.slice A7 r5.p.Vehicles.length c7,.slice A8 r5.p.Demands.length c8,.int .i64 r5.p.Unload,.int .i64 r5.p.UnloadSecs,.string r5.v.ID,.int .i64 r5.v.Depot,.int .i64 r5.v.Shift.From,.int .i64 r5.v.Shift.To,.int .i64 r5.v.Grams,.int .i64 r5.v.Kinds,.map (some g6),.slice A9 r5.visits.length c9] 70 (0,0))]::[(g6,.map es2 cn2)]::ch2::L)) 3 0 E E E E ?_)));refine ⟨Kp [0,1,2,4,5] 6 E,?_⟩;refine Q0 7 E (Cl E ?_);have hP6:Qo v2 (.pointer (some ⟨g2,0,none⟩)) (Ql.mk (YC.mk node1 (w64 ((max (w64 (r5.place.time+r3.Secs)) x4.When.From)+x4.Service)) (w64 (r5.place.load+x4.Grams)) (w64 (r5.place.meters+r3.Meters))) r5.p r5.v r5.legs r5.visits) _:=⟨g2,A6,c6,A7,c7,A8,c8,g6,es2,cn2,A9,c9,ch2,rfl,rfl,⟨hl6,hA9⟩,⟨hl7,hA10⟩,⟨hl8,hA11⟩,hM2,hO2⟩
 refine Fn.gp [[3,4,5],[0],[1],[2]] 6 4 E ?_;obtain ⟨_,hx9,h⟩:=Qg h;refine Wd hP6 hx9 (fun _ hP7=>Q0 5 E ?_);cases h;exact Rt [] E E (Ug [[0]] 4 (hR _ _ (hm2362.trans hm_1) hP7))
theorem QbT {F:Nat} {w1:Ql} {pv1:Value} {so1:Seg} {res1:Int} {res2:Ql}
  (hP1:Qo μ pv1 w1 so1) (h:ZY F w1=some (res1,res2))
  (hR: ∀(μ':Gh) (sp0:Seg),μ.le μ'→Qo μ' pv1 res2 sp0→R (.int .i64 res1) μ' (sp0::L)) :
  Fn Try.prog 35 [pv1] μ (so1::L) R:=by
 unfold ZY at h;refine FnS Try.func35 (by kernel_rfl) E Try.ntmps35 E E ?_;obtain ⟨g1,A1,c1,A2,c2,A3,c3,g2,es1,cn1,A4,c4,ch1,hv1,rfl,⟨hl1,hA1⟩,⟨hl2,hA2⟩,⟨hl3,hA3⟩,hM1,hO1⟩:=hP1;subst hv1;refine G0 5 E (In Qo.fl 0 3 E E E (G1 7 [0] E (Cl E ?_)));have hP2:Qo μ (.pointer (some ⟨g1,0,none⟩)) w1 _:=⟨g1,A1,c1,A2,c2,A3,c3,g2,es1,cn1,A4,c4,ch1,rfl,rfl,⟨hl1,hA1⟩,⟨hl2,hA2⟩,⟨hl3,hA3⟩,hM1,hO1⟩
 refine Fn.gp [[0,1,2]] 3 1 E ?_;obtain ⟨⟨r1,_,r3⟩,hx1,h⟩:=Qg h;replace h:=Qi h;replace h:=Qi h;refine VO hP2 hx1 (fun v1 _ hm_1 hP3=> ?_);refine Q0 3 E (Al E fun g3=>Q1 9 [0] E ?_);refine Br h 16 E E (fun hc1 h=> ?_) (fun hc1 h=> ?_)
 ·refine G2 5 [16] [] [] E ?_;cases h;exact Rt [] E E (Ug [[1]] 2 (hR _ _ hm_1 hP3))
 obtain ⟨_,A5,c5,A6,c6,A7,c7,g5,es2,cn2,A8,c8,ch2,hv2,rfl,⟨hl4,hA4⟩,⟨hl5,hA5⟩,⟨hl6,hA6⟩,hM2,hO2⟩:=hP3;replace hv2:=Wx hv2;subst hv2;refine G2 4 [] [16] [] E (In Qo.fl 1 4 E E E (G1 8 [1] E ?_));refine Br h 22 E E (fun hc2 h=> ?_) (fun hc2 h=> ?_)
 ·refine G2 5 [22] [] [] E ?_;cases h;exact Rt [] E E (Ug [[1,2,3]] 4 (hR _ _ hm_1 ⟨g1,A5,c5,A6,c6,A7,c7,g5,es2,cn2,A8,c8,ch2,rfl,rfl,⟨hl4,hA4⟩,⟨hl5,hA5⟩,⟨hl6,hA6⟩,hM2,hO2⟩))
 refine G2 3 [] [22] [] E (Drk [1] 3 E [(true,0),(true,1),(true,2),(true,3),(true,4),(true,5),(true,6),(true,8),(false,7),(false,9)] (by kernel_rfl) (G1 8 [0] E (So E (W3 E (Zu E E E (Ex.mk _ (ZQ.seg 1 0 E E E) ?_))))));refine ⟨Kp [0,2,3] 4 E,?_⟩;refine Q0 0 E (Cl E (FnS Try.func51 (by kernel_rfl) E Try.ntmps51 E E (G0 2 E (Al E fun g6=>Q1 10 [2] E (Drk [2] 4 E [(true,0),(true,1),(true,2),(true,4),(true,5),(false,3),(true,6),(true,7),(true,8),(false,9)] (by kernel_rfl) (G1 5 [0] E (So E (W3 E (Zu E E E (Ex.mk _ (ZQ.seg 2 0 E E E) ?_))))))))));refine ⟨Kp [0,1,3,4] 5 E,?_⟩;refine Q0 3 E (So E (YM (vs:=[.int .i64 (w64 (r3.place.time+r1.Secs))]) E E E E E E (ST_ (L':=([(g6,.cells #[.int .i64 r1.Secs,.int .i64 r1.Meters] 108 (0,0))]::[(g3,.cells #[.int .i64 r1.Secs,.int .i64 r1.Meters] 108 (0,0))]::[(g1,.cells #[.int .i64 r3.v.Depot,.int .i64 (w64 (r3.place.time+r1.Secs)),.int .i64 r3.place.load,.int .i64 r3.place.meters,.int .i64 r3.p.Road.Nodes,.slice A5 r3.p.Road.Edges.length c5,.slice A6 r3.p.Vehicles.length c6,.slice A7 r3.p.Demands.length c7,.int .i64 r3.p.Unload,.int .i64 r3.p.UnloadSecs,.string r3.v.ID,.int .i64 r3.v.Depot,.int .i64 r3.v.Shift.From,.int .i64 r3.v.Shift.To,.int .i64 r3.v.Grams,.int .i64 r3.v.Kinds,.map (some g5),.slice A8 r3.visits.length c8] 70 (0,0))]::[(g5,.map es2 cn2)]::ch2::L)) 2 0 E E E E ?_)));refine ⟨Kp [0,1,3,4] 5 E,?_⟩;refine Q0 1 E (Drk [2] 4 E [(true,0),(true,1),(true,2),(true,4),(true,5),(false,3),(true,6),(true,7),(true,8),(false,9)] (by kernel_rfl) (G1 5 [0] E (So E (W3 E (Zu E E E (Ex.mk _ (ZQ.seg 2 0 E E E) ?_))))));refine ⟨Kp [0,1,3,4] 5 E,?_⟩;refine Q0 3 E (So E (YM (vs:=[.int .i64 (w64 (r3.place.meters+r1.Meters))]) E E E E E E (ST_ (L':=([(g6,.cells #[.int .i64 r1.Secs,.int .i64 r1.Meters] 108 (0,0))]::[(g3,.cells #[.int .i64 r1.Secs,.int .i64 r1.Meters] 108 (0,0))]::[(g1,.cells #[.int .i64 r3.v.Depot,.int .i64 (w64 (r3.place.time+r1.Secs)),.int .i64 r3.place.load,.int .i64 (w64 (r3.place.meters+r1.Meters)),.int .i64 r3.p.Road.Nodes,.slice A5 r3.p.Road.Edges.length c5,.slice A6 r3.p.Vehicles.length c6,.slice A7 r3.p.Demands.length c7,.int .i64 r3.p.Unload,.int .i64 r3.p.UnloadSecs,.string r3.v.ID,.int .i64 r3.v.Depot,.int .i64 r3.v.Shift.From,.int .i64 r3.v.Shift.To,.int .i64 r3.v.Grams,.int .i64 r3.v.Kinds,.map (some g5),.slice A8 r3.visits.length c8] 70 (0,0))]::[(g5,.map es2 cn2)]::ch2::L)) 2 0 E E E E ?_)));refine ⟨Kp [0,1,3,4] 5 E,?_⟩;refine Q0 1 E (Rt [] E E (Upd.done ?_));refine ⟨Kp [1,3,4] 5 E,?_⟩;refine Q0 3 E (Dr _ QK.refl [(true,0),(true,1),(true,2),(true,3),(true,4),(true,5),(true,6),(true,7),(true,8),(true,9),(true,10),(true,11)] (by kernel_rfl) (G1 13 [2,2] E ?_));refine Br h 44 E E (fun hc3 h=> ?_) (fun hc3 h=> ?_)
 ·refine G2 5 [44] [] [] E ?_;cases h;exact Rt [] E E (Ug [[2,3,4]] 5 (hR _ _ hm_1 ⟨g1,A5,c5,A6,c6,A7,c7,g5,es2,cn2,A8,c8,ch2,rfl,rfl,⟨hl4,hA4⟩,⟨hl5,hA5⟩,⟨hl6,hA6⟩,hM2,hO2⟩))
 refine G2 3 [] [44] [] E (Cd (WP.drawB (id:=9) (l':=List.replicate 11 true++[false]) Qgz YB _ QK.refl 11 [] [(true,0),(true,1),(true,2),(true,3),(true,4),(true,5),(true,6),(true,7),(true,8),(true,9),(true,10)] (by kernel_rfl) (by kernel_rfl) [] E (by kernel_rfl) (by kernel_rfl) (Qeq E (YE E (Pt E E (YE E (Pt E E (ZT E (Pt E E (ZS (o':=0) E E E E E E (Pt E E (ZS (o':=1) E E E E E E (Zz E ?_)))))))))))));refine Qeq E (Zu E E E (Ex.mk _ (ZQ.seg 2 0 E E E) (Pt E E (YE E (Pt E E (ZT E (Pt E E (ZS (o':=0) E E E E E E (Pt E E (ZS (o':=1) E E E E E E (Pt E E (Zu E E E ?_))))))))))));refine Ex.mk _ (ZQ.seg 2 0 E E E) (Zz E (Qak (Qfs E (QhC (all:=[.pointer (some ⟨g1,0,none⟩),.int .i64 (-2),.int .i64 (w64 (r3.place.time+r1.Secs)),.int .i64 (w64 (r3.place.time+r1.Secs))]) E E E ?_))));have hP4:Qo v1 (.pointer (some ⟨g1,0,none⟩)) (Ql.mk (YC.mk r3.v.Depot (w64 (r3.place.time+r1.Secs)) r3.place.load (w64 (r3.place.meters+r1.Meters))) r3.p r3.v r3.legs r3.visits) _:=⟨g1,A5,c5,A6,c6,A7,c7,g5,es2,cn2,A8,c8,ch2,rfl,rfl,⟨hl4,hA4⟩,⟨hl5,hA5⟩,⟨hl6,hA6⟩,hM2,hO2⟩
 refine Fn.gp [[2,3,4],[0],[1]] 5 3 E ?_;obtain ⟨_,hx2,h⟩:=Qg h;refine Wd hP4 hx2 (fun _ hP5=>Zz E (G0 4 E ?_));cases h;exact Rt [] E E (Ug [[0]] 3 (hR _ _ hm_1 hP5))
theorem QdB {F:Nat} {p1:Qc} {t1:Qf} {A1:Option Addr} {c1:Nat} {A2:Option Addr} {c2:Nat} {A3:Option Addr} {c3:Nat} {A4:Option Addr} {c4:Nat} {res1:(Option Ql)} {res2:Int} {res3:Int}
  (hl1:p1.Road.Edges.length≤c1∧c1≤maxLen) (hA1:Qn QE μ A1 p1.Road.Edges) (hl2:p1.Vehicles.length≤c2∧c2≤maxLen) (hA2:Qn Qv μ A2 p1.Vehicles) (hl3:p1.Demands.length≤c3∧c3≤maxLen) (hA3:Qn Qw μ A3 p1.Demands) (hl4:t1.Stops.length≤c4∧c4≤maxLen) (hA4:Rds QV μ L A4 t1.Stops) (h:JY F p1 t1=some (res1,res2,res3))
  (hR: ∀(μ':Gh) (v0:Value) (so0:Seg),μ.le μ'→QcC Qo μ' v0 res1 so0→R (.tuple #[v0,.int .i64 res2,.int .i64 res3]) μ' (so0::L)) :
  Fn Try.prog 21 [.agg #[.int .i64 p1.Road.Nodes,.slice A1 p1.Road.Edges.length c1,.slice A2 p1.Vehicles.length c2,.slice A3 p1.Demands.length c3,.int .i64 p1.Unload,.int .i64 p1.UnloadSecs],.agg #[.int .i64 t1.Vehicle,.slice A4 t1.Stops.length c4]] μ (L) R:=by
 unfold JY at h;refine FnS Try.func21 (by kernel_rfl) E Try.ntmps21 E E ?_;refine G0 2 E (Al E fun _=>Q0 0 E (Al E fun g2=>Q0 7 E ?_));refine Cut h (fun f l o_ f_ μ_ l_=> ∃(v1:Bool),v1=o_∧Qm ((21,.bool v1)::QD [2,3] f) f_∧Qe (Yr [some 1,some 0] 2 l) l_) ?_ ?_
 ·intro _ h4333 h;refine G1 5 [0] E ?_;refine Br h4333 14 E E (fun hc1 h4333=> ?_) (fun hc1 h4333=> ?_)
  ·refine G2 8 [14] [] [] E ?_;cases h4333;exact Ce E ⟨_,rfl,fE E,sE [some 1,some 0] 2 E⟩
  refine G2 8 [] [14] [0,1] E ?_;cases h4333;exact Ce E ⟨_,rfl,fE E,sE [some 1,some 0] 2 E⟩
 rintro _ _ μ4333 _ h hm4333 ⟨v1,rfl,hF4333,hS4333⟩;replace hA1:=hA1.mono hm4333;replace hA2:=hA2.mono hm4333;replace hA3:=hA3.mono hm4333;replace hA4:=hA4.mono hm4333;refine Atn 2 hF4333 hS4333 E E ?_;refine Br h 21 E E (fun hc2 h=> ?_) (fun hc2 h=> ?_)
 ·refine G2 7 [21] [] [] E ?_;cases h;exact Rt [] E E (Ug [[]] 2 (hR _ (.pointer none) [] hm4333 QcC.nil))
 refine G2 10 [] [21] [1] E ?_;refine Br h 25 E E (fun hc3 h=> ?_) (fun hc3 h=> ?_)
 ·refine G2 7 [25] [] [] E ?_;cases h;exact Rt [] E E (Ug [[]] 2 (hR _ (.pointer none) [] hm4333 QcC.nil))
 refine G2 8 [] [25] [0,1] E (Ix h (Qn.rds hA2 L) E E fun x1 _ _ _ hr1 hc4 _ h=> ?_);obtain rfl:=hr1;refine Q3 1 [] [] [64] (Z1 (hc4.push.push)) E (Al E fun _=>Q1 12 [0,0,0,1,0] E (So E (QgB (fun g4=>Q0 1 E (Al E fun g5=> ?_)))));have hP1:Qo μ4333 (.pointer (some ⟨g5,0,none⟩)) (Ql.mk (YC.mk x1.Depot x1.Shift.From 0 0) p1 x1 [] []) _:=⟨g5,A1,c1,A2,c2,A3,c3,g4, #[],0,none,0,[],rfl,rfl,⟨hl1,hA1⟩,⟨hl2,hA2⟩,⟨hl3,hA3⟩,(Qbd.nil (r:=YW)),Own.nil⟩
 refine Q0 10 E (Gp [[0,1,99],[2],[3],[4]] 5 4 E E ?_);refine Cut h (fun f l o_ f_ μ_ l_=> ∃(q2:Ql) (e2:Int) (f_at2:Int) (so3:Seg),(q2,e2,f_at2)=o_∧Qm ((9,.int .i64 e2)::(10,.int .i64 f_at2)::QD [8] f) f_∧Qe (so3::Yr [] 4 l) l_∧Qo μ_ (.pointer (some ⟨g5,0,none⟩)) q2 so3) ?_ ?_
 ·intro _ h4350 h;refine Lp h4350 (fun f l (j_:Ql×Int×Int) f_ μ_ l_=>WT j_ fun q1 j_=>WT j_ fun e1 f_at1=> ∃(so1:Seg),Qm ((9,.int .i64 e1)::(10,.int .i64 f_at1)::QD [3,8] f) f_∧Qe ([(g2,.cells #[.int .i64 t1.Vehicle,.slice A4 t1.Stops.length c4] 37 (0,0))]::so1::Yr [] 4 l) l_∧Qo μ_ (.pointer (some ⟨g5,0,none⟩)) q1 so1) ⟨((g5,Obj.cells #[.int .i64 x1.Depot,.int .i64 x1.Shift.From,.int .i64 0,.int .i64 0,.int .i64 p1.Road.Nodes,.slice A1 p1.Road.Edges.length c1,.slice A2 p1.Vehicles.length c2,.slice A3 p1.Demands.length c3,.int .i64 p1.Unload,.int .i64 p1.UnloadSecs,.string x1.ID,.int .i64 x1.Depot,.int .i64 x1.Shift.From,.int .i64 x1.Shift.To,.int .i64 x1.Grams,.int .i64 x1.Kinds,.map (some g4),.slice none 0 0] 70 (0,0))::((g4,Obj.map #[] 0)::[])),fE E,sE [some 3,some 0] 4 E,(hP1)⟩ ?_;rintro ⟨q1,e1,f_at1⟩ _ _ _ _ hm4363 ⟨so1,hF4363,hS4363,hP2⟩ hb4363 hq4363;unfold YV at hb4363;replace hb4363:=Qi hb4363;replace hb4363:=Qi hb4363;replace hA4:=hA4.mono hm4363;refine Atn 2 hF4363 hS4363 E E (G1 9 [0] E ?_);refine Br hb4363 47 E E (fun hc5 hb4363=> ?_) (fun hc5 hb4363=> ?_)
  ·refine G2 9 [47] [] [0] E (Cl E (Fn.gp [[1],[0]] 2 2 E ?_));obtain ⟨⟨_,_⟩,hx2,hb4363⟩:=Qg hb4363;replace hb4363:=Qi hb4363;refine Qbt hP2 hl4 (Rds.push hA4) hx2 (fun _ so2 hm_1 hP3=> ?_);replace hP2:=hP2.mono hm_1;refine Q0 7 E ?_;refine Br hb4363 53 E E (fun hc6 hb4363=> ?_) (fun hc6 hb4363=> ?_)
   ·refine G2 2 [53] [] [] E ?_;cases hb4363;have hq_:=hq4363 _ E;subst hq_;exact Ce E ⟨_,_,_,so2,rfl,fE E,sE [some 0] 2 E,(hP3)⟩
   refine G2 8 [] [53] [] E ?_;cases hb4363;exact Ce E ⟨_,rfl,so2,fE E,sE [some 1,some 0] 2 E,(hP3)⟩
  refine G2 2 [] [47] [] E ?_;cases hb4363;have hq_:=hq4363 _ E;subst hq_;exact Ce E ⟨_,_,_,so1,rfl,fE E,sE [some 1] 2 E,(hP2)⟩
 rintro _ _ _ _ h hm4350 ⟨q2,e2,f_at2,so3,rfl,hF4350,hS4350,hP4⟩;replace h:=Qi h;replace h:=Qi h;refine Atn 1 hF4350 hS4350 E E (G0 6 E ?_);refine Cut h (fun f l o_ f_ μ_ l_=> ∃(q3:Ql) (e3:Int) (so5:Seg),(q3,e3)=o_∧Qm ((9,.int .i64 e3)::QD [8,10] f) f_∧Qe (so5::Yr [] 1 l) l_∧Qo μ_ (.pointer (some ⟨g5,0,none⟩)) q3 so5) ?_ ?_
 ·intro _ h4378 h;refine Br h4378 57 E E (fun hc7 h4378=> ?_) (fun hc7 h4378=> ?_)
  ·refine G2 3 [57] [] [] E (Cl E ?_);obtain ⟨⟨_,_⟩,hx3,h4378⟩:=Qg h4378;replace h4378:=Qi h4378;refine QbT hP4 hx3 (fun _ so4 hm_2 hP5=> ?_);replace hP4:=hP4.mono hm_2;refine Q0 2 E ?_;cases h4378;exact Ce E ⟨_,_,so4,rfl,fE E,sE [some 0] 1 E,(hP5)⟩
  refine G2 2 [] [57] [] E ?_;cases h4378;exact Ce E ⟨_,_,so3,rfl,fE E,sE [some 0] 1 E,(hP4)⟩
 rintro _ _ _ _ h hm4378 ⟨q3,e3,so5,rfl,hF4378,hS4378,hP6⟩;replace h:=Qi h;refine Atn 1 hF4378 hS4378 E E (G0 6 E ?_);refine Br h 61 E E (fun hc8 h=> ?_) (fun hc8 h=> ?_)
 ·refine G2 9 [61] [] [] E ?_;cases h;exact Rt [] E E (Ug [[]] 1 (hR _ (.pointer none) [] (hm4333.trans (hm4350.trans hm4378)) QcC.nil))
 refine G2 9 [] [61] [] E ?_;cases h;exact Rt [] E E (Ug [[0]] 1 (hR _ (.pointer (some ⟨g5,0,none⟩)) _ (hm4333.trans (hm4350.trans hm4378)) hP6))
theorem QeX {F:Nat} {p1:Qc} {t1:Qf} {A1:Option Addr} {c1:Nat} {A2:Option Addr} {c2:Nat} {A3:Option Addr} {c3:Nat} {A4:Option Addr} {c4:Nat} {res1:Int} {res2:Int}
  (hl1:p1.Road.Edges.length≤c1∧c1≤maxLen) (hA1:Qn QE μ A1 p1.Road.Edges) (hl2:p1.Vehicles.length≤c2∧c2≤maxLen) (hA2:Qn Qv μ A2 p1.Vehicles) (hl3:p1.Demands.length≤c3∧c3≤maxLen) (hA3:Qn Qw μ A3 p1.Demands) (hl4:t1.Stops.length≤c4∧c4≤maxLen) (hA4:Rds QV μ L A4 t1.Stops) (h:VN F p1 t1=some (res1,res2))
  (hR: ∀(μ':Gh) ,μ.le μ'→R (.tuple #[.int .i64 res1,.int .i64 res2]) μ' (L)) :
  Fn Try.prog 11 [.agg #[.int .i64 p1.Road.Nodes,.slice A1 p1.Road.Edges.length c1,.slice A2 p1.Vehicles.length c2,.slice A3 p1.Demands.length c3,.int .i64 p1.Unload,.int .i64 p1.UnloadSecs],.agg #[.int .i64 t1.Vehicle,.slice A4 t1.Stops.length c4]] μ (L) R:=by
 unfold VN at h;refine FnS Try.func11 (by kernel_rfl) E Try.ntmps11 E E ?_;refine G0 2 E (Al E fun _=>Q0 0 E (Al E fun _=>Q1 7 [1] E (Cl E ?_)));obtain ⟨_,hx1,h⟩:=Qg h;refine Qba hl1 hA1 hl2 hA2 hl3 hA3 hx1 (fun _ hm_1=> ?_);replace hA1:=hA1.mono hm_1;replace hA2:=hA2.mono hm_1;replace hA3:=hA3.mono hm_1;replace hA4:=hA4.mono hm_1;refine Q0 7 E ?_;refine Br h 13 E E (fun hc1 h=> ?_) (fun hc1 h=> ?_)
 ·refine G2 7 [13] [] [] E ?_;cases h;exact Rt [] E E (Ug [] 2 (hR _ hm_1))
 refine G2 6 [] [13] [1,0] E (Cl E ?_);obtain ⟨⟨_,_,_⟩,hx2,h⟩:=Qg h;replace h:=Qi h;replace h:=Qi h;refine QdB hl1 hA1 hl2 hA2 hl3 hA3 hl4 (Rds.push (Rds.push hA4)) hx2 (fun _ _ _ hm_2 hP1=> ?_);refine Q0 14 E ?_;refine Br h 23 E E (fun hc2 h=> ?_) (fun hc2 h=> ?_)
 ·refine G2 7 [23] [] [] E ?_;cases h;exact Rt [] E E (Ug [] 3 (hR _ (hm_1.trans hm_2)))
 obtain ⟨_,hm_3,h⟩:=Qg h;have hP2:=QcC.get hP1 hm_3;obtain ⟨_,_,_,_,_,_,_,_,_,_,_,_,_,hv1,rfl,⟨_,_⟩,⟨_,_⟩,⟨_,_⟩,_,_⟩:=hP2;subst hv1;refine G2 3 [] [23] [] E (In Qo.fl 0 5 E E E (G1 9 [0] E ?_));cases h;exact Rt [] E E (Ug [] 5 (hR _ (hm_1.trans hm_2)))
theorem VE  {x1:Int}  {res1:Bool}
   (h:JI x1=some res1)
  (hR:R (.bool res1) μ (L)) :
  Fn Try.prog 56 [.int .i64 x1] μ (L) R:=by
 unfold JI at h;refine FnS Try.func56 (by kernel_rfl) E Try.ntmps56 E E ?_;refine G0 11 E ?_;cases h;exact Rt [] E E (Ug [] 0 hR)
theorem Qbf  {x1:Int} {y1:Int}  {res1:Int}
   (h:Z7 x1 y1=some res1)
  (hR:R (.int .i64 res1) μ (L)) :
  Fn Try.prog 39 [.int .i64 x1,.int .i64 y1] μ (L) R:=by
 unfold Z7 at h;refine FnS Try.func39 (by kernel_rfl) E Try.ntmps39 E E ?_;refine G0 7 E (Cl E ?_);obtain ⟨_,hx1,h⟩:=Qg h;refine VE  hx1 ((Q0 5 E (Cl E ?_)));obtain ⟨_,hx2,h⟩:=Qg h;refine VE  hx2 ((Q0 7 E ?_));refine Br h 11 E E (fun hc1 h=> ?_) (fun hc1 h=> ?_)
 ·refine G2 6 [11] [] [] E ?_;refine Br h 12 E E (fun hc2 h=> ?_) (fun hc2 h=> ?_)
  ·refine G2 5 [12] [] [] E ?_;cases h;exact Rt [] E E (Ug [] 0 hR)
  refine G2 6 [] [12] [] E ?_;cases h;exact Rt [] E E (Ug [] 0 hR)
 refine G2 7 [] [11] [] E ?_;refine Br h 13 E E (fun hc3 h=> ?_) (fun hc3 h=> ?_)
 ·refine G2 5 [13] [] [] E ?_;cases h;exact Rt [] E E (Ug [] 0 hR)
 refine G2 9 [] [13] [] E ?_;refine Br h 16 E E (fun hc4 h=> ?_) (fun hc4 h=> ?_)
 ·refine G2 5 [16] [] [] E ?_;cases h;exact Rt [] E E (Ug [] 0 hR)
 refine G2 9 [] [16] [] E ?_;refine Br h 19 E E (fun hc5 h=> ?_) (fun hc5 h=> ?_)
 ·refine G2 5 [19] [] [] E ?_;cases h;exact Rt [] E E (Ug [] 0 hR)
 refine G2 6 [] [19] [] E ?_;cases h;exact Rt [] E E (Ug [] 0 hR)
theorem Wi  {s11:(List Int)} {s21:(List Int)} {A1:Option Addr} {c1:Nat} {A2:Option Addr} {c2:Nat} {res1:Int}
  (hl1:s11.length≤c1∧c1≤maxLen) (hA1:Rds QV μ L A1 s11) (hl2:s21.length≤c2∧c2≤maxLen) (hA2:Rds QV μ L A2 s21) (h:Y5 s11 s21=some res1)
  (hR:R (.int .i64 res1) μ (L)) :
  Fn Try.prog 24 [.slice A1 s11.length c1,.slice A2 s21.length c2] μ (L) R:=by
 unfold Y5 at h;refine FnS Try.func24 (by kernel_rfl) E Try.ntmps24 E E ?_;refine G0 11 E ?_;refine Cut h (fun f l o_ f_ μ_ l_=>(.inl ())=o_∧Qm (QD [0,1] f) f_∧Qe l l_∧μ=μ_) ?_ ?_
 ·intro _ h4417 h;refine Lp h4417 (fun f l (v1:Int) f_ μ_ l_=>Qm ((11,.int .i64 v1)::QD [0,1,9,10] f) f_∧Qe l l_∧μ=μ_) ⟨fE E,sE [] 0 E,E⟩ ?_;rintro v1 _ _ _ _ _ ⟨hF4419,hS4419,rfl⟩ hb4419 hq4419;unfold QP at hb4419;refine Atn 0 hF4419 hS4419 E E (G0 5 E ?_);refine Br hb4419 12 E E (fun hc1 hb4419=> ?_) (fun hc1 hb4419=> ?_)
  ·refine G2 7 [12] [] [] E (Ix hb4419 hA1 E E fun _ _ _ _ hr1 hc2 _ hb4419=> ?_);obtain rfl:=hr1;refine Q3 12 [] [] [64] (Z1 hc2) E ?_;refine Br hb4419 19 E E (fun hc3 hb4419=> ?_) (fun hc3 hb4419=> ?_)
   ·refine G2 5 [19] [] [] E ?_;cases hb4419;have hq_:=hq4419 _ E;subst hq_;replace h:=ZW h;cases h;exact Rt [] E E (Ug [] 0 hR)
   refine G2 6 [] [19] [] E (Ix hb4419 hA2 E E fun _ _ _ _ hr2 hc4 _ hb4419=> ?_);obtain rfl:=hr2;refine Q3 7 [] [] [64] (Z1 hc4) E (Cl E ?_);obtain ⟨_,hx3,hb4419⟩:=Qg hb4419;refine Qbf  hx3 ((Q0 7 E ?_));refine Br hb4419 28 E E (fun hc5 hb4419=> ?_) (fun hc5 hb4419=> ?_)
   ·refine G2 6 [28] [] [] E ?_;cases hb4419;have hq_:=hq4419 _ E;subst hq_;replace h:=ZW h;cases h;exact Rt [] E E (Ug [] 0 hR)
   refine G2 7 [] [28] [] E ?_;cases hb4419;exact Ce E ⟨_,rfl,fE E,sE [] 0 E,rfl⟩
  refine G2 2 [] [12] [] E ?_;cases hb4419;have hq_:=hq4419 _ E;subst hq_;exact Ce E ⟨rfl,fE E,sE [] 0 E,rfl⟩
 rintro _ _ _ _ h _ ⟨rfl,hF4417,hS4417,rfl⟩;replace h:=JD h;refine Atn 0 hF4417 hS4417 E E (G0 9 E ?_);refine Br h 35 E E (fun hc6 h=> ?_) (fun hc6 h=> ?_)
 ·refine G2 5 [35] [] [] E ?_;cases h;exact Rt [] E E (Ug [] 0 hR)
 refine G2 6 [] [35] [] E ?_;cases h;exact Rt [] E E (Ug [] 0 hR)
theorem QcH {F:Nat} {stops1:(List Int)} {b1:Qc} {b2:Int} {b3:Bool} {b4:Int} {b5:Qf} {A1:Option Addr} {c1:Nat} {g1:Nat} {A2:Option Addr} {c2:Nat} {A3:Option Addr} {c3:Nat} {A4:Option Addr} {c4:Nat} {g2:Nat} {g3:Nat} {g4:Nat} {g5:Nat} {A5:Option Addr} {c5:Nat} {res1:Bool} {res2:Int} {res3:Qf}
  (hl1:stops1.length≤c1∧c1≤maxLen) (hA1:Rds QV μ L A1 stops1) (hl2:b1.Road.Edges.length≤c2∧c2≤maxLen) (hA2:Qn QE μ A2 b1.Road.Edges) (hl3:b1.Vehicles.length≤c3∧c3≤maxLen) (hA3:Qn Qv μ A3 b1.Vehicles) (hl4:b1.Demands.length≤c4∧c4≤maxLen) (hA4:Qn Qw μ A4 b1.Demands) (hl5:b5.Stops.length≤c5∧c5≤maxLen) (hA5:Qn QV μ A5 b5.Stops) (h:J6 F stops1 b1 b2 b3 b4 b5=some (res1,res2,res3))
  (hR: ∀(μ':Gh) (Ab4_1:Option Addr) (cb4_1:Nat),μ.le μ'→(res3.Stops.length≤cb4_1∧cb4_1≤maxLen)→Qn QV μ' Ab4_1 res3.Stops→R (.tuple #[]) μ' ([(g1,.cells #[.int .i64 b1.Road.Nodes,.slice A2 b1.Road.Edges.length c2,.slice A3 b1.Vehicles.length c3,.slice A4 b1.Demands.length c4,.int .i64 b1.Unload,.int .i64 b1.UnloadSecs] 28 (0,0))]::[(g2,.cells #[.int .i64 b2] 3 (0,0))]::[(g3,.cells #[.bool res1] 4 (0,0))]::[(g4,.cells #[.int .i64 res2] 3 (0,0))]::[(g5,.cells #[.int .i64 res3.Vehicle,.slice Ab4_1 res3.Stops.length cb4_1] 37 (0,0))]::L)) :
  Fn Try.prog 29 [.slice A1 stops1.length c1,.pointer (some ⟨g1,0,none⟩),.pointer (some ⟨g2,0,none⟩),.pointer (some ⟨g3,0,none⟩),.pointer (some ⟨g4,0,none⟩),.pointer (some ⟨g5,0,none⟩)] μ ([(g1,.cells #[.int .i64 b1.Road.Nodes,.slice A2 b1.Road.Edges.length c2,.slice A3 b1.Vehicles.length c3,.slice A4 b1.Demands.length c4,.int .i64 b1.Unload,.int .i64 b1.UnloadSecs] 28 (0,0))]::[(g2,.cells #[.int .i64 b2] 3 (0,0))]::[(g3,.cells #[.bool b3] 4 (0,0))]::[(g4,.cells #[.int .i64 b4] 3 (0,0))]::[(g5,.cells #[.int .i64 b5.Vehicle,.slice A5 b5.Stops.length c5] 37 (0,0))]::L) R:=by
 unfold J6 at h;refine FnS Try.func29 (by kernel_rfl) E Try.ntmps29 E E ?_;refine G1 6 [0,1] E (Cl E ?_);obtain ⟨⟨_,_⟩,hx1,h⟩:=Qg h;replace h:=Qi h;refine QeX hl2 hA2 hl3 hA3 hl4 hA4 hl1 (Rds.push (Rds.push (Rds.push (Rds.push (Rds.push hA1))))) hx1 (fun _ hm_1=> ?_);replace hA1:=hA1.mono hm_1;replace hA5:=hA5.mono hm_1;refine Q0 12 E ?_;refine Br h 18 E E (fun hc1 h=> ?_) (fun hc1 h=> ?_)
 ·refine G2 1 [18] [] [] E ?_;cases h;exact Rt [] E E (Ug [[0],[1],[2],[3],[4]] 5 (hR _ A5 c5 hm_1 hl5 hA5))
 refine G2 3 [] [18] [] E ?_;refine Cut h (fun f l o_ f_ μ_ l_=> ∃(v2:Bool),v2=o_∧Qm ((37,.bool v2)::QD [0,3,4,5,7] f) f_∧Qe (Yr [some 2,some 3,some 4,some 0,some 1] 5 l) l_) ?_ ?_
 ·intro _ h4464 h;refine G1 4 [2] E ?_;refine Br h4464 21 E E (fun hc2 h4464=> ?_) (fun hc2 h4464=> ?_)
  ·refine G2 17 [21,26] [] [] E ?_;cases h4464;exact Ce E ⟨_,rfl,fE E,sE [some 2,some 3,some 4,some 0,some 1] 5 E⟩
  refine G2 5 [] [21] [3] E ?_;refine Br h4464 26 E E (fun hc3 h4464=> ?_) (fun hc3 h4464=> ?_)
  ·refine G2 12 [26] [] [] E ?_;cases h4464;exact Ce E ⟨_,rfl,fE E,sE [some 2,some 3,some 4,some 0,some 1] 5 E⟩
  refine G2 4 [] [26] [3] E ?_;refine Br h4464 30 E E (fun hc4 h4464=> ?_) (fun hc4 h4464=> ?_)
  ·refine G2 3 [30] [] [4] E (Cl E ?_);obtain ⟨_,hx2,h4464⟩:=Qg h4464;refine Wi hl1 (Rds.push (Rds.push (Rds.push (Rds.push (Rds.push hA1))))) hl5 (Qn.rds hA5 _) hx2 ((Q2 4 [30] [26] [] E ?_));cases h4464;exact Ce E ⟨_,rfl,fE E,sE [some 2,some 3,some 4,some 0,some 1] 5 E⟩
  refine G2 8 [] [26,30] [] E ?_;cases h4464;exact Ce E ⟨_,rfl,fE E,sE [some 2,some 3,some 4,some 0,some 1] 5 E⟩
 rintro _ _ _ _ h hm4464 ⟨v2,rfl,hF4464,hS4464⟩;replace hA1:=hA1.mono hm4464;replace hA5:=hA5.mono hm4464;refine Atn 5 hF4464 hS4464 E E ?_;refine Cut h (fun f l o_ f_ μ_ l_=> ∃(f1:Bool) (f2:Int) (f3:(List Int)) (A7:Option Addr) (c7:Nat),(f1,f2,f3)=o_∧Qm ([]) f_∧Qe ([(g1,.cells #[.int .i64 b1.Road.Nodes,.slice A2 b1.Road.Edges.length c2,.slice A3 b1.Vehicles.length c3,.slice A4 b1.Demands.length c4,.int .i64 b1.Unload,.int .i64 b1.UnloadSecs] 28 (0,0))]::[(g2,.cells #[.int .i64 b2] 3 (0,0))]::[(g3,.cells #[.bool f1] 4 (0,0))]::[(g4,.cells #[.int .i64 f2] 3 (0,0))]::[(g5,.cells #[.int .i64 b5.Vehicle,.slice A7 f3.length c7] 37 (0,0))]::Yr [] 5 l) l_∧(f3.length≤c7∧c7≤maxLen)∧Qn QV μ_ A7 f3) ?_ ?_
 ·intro _ h4475 h;refine Br h4475 37 E E (fun hc5 h4475=> ?_) (fun hc5 h4475=> ?_)
  ·refine G2 3 [37] [] [] E (Cl E ?_);obtain ⟨_,hs1,h4475⟩:=Qg h4475;refine QjK (r:=QV) Qhg E E (Rds.push (Rds.push (Rds.push (Rds.push (Rds.push hA1))))) hs1 fun A6 c6 _ hO1=> ?_;have hl6:=Own.lenOk hO1;refine Q0 2 E (KS.upd E (Upd.frzOwn 0 E hO1 fun _ hm_2 hA6=>Upd.done ?_));replace hA5:=hA5.mono hm_2;refine G1 4 [3,2,1] E ?_;cases h4475;exact Ce E ⟨_,_,_,A6,c6,rfl,fE E,sE [some 4,some 5,some 1,some 2,some 3] 6 E,(hl6),(hA6)⟩
  refine G2 2 [] [37] [] E ?_;cases h4475;exact Ce E ⟨_,_,_,A5,c5,rfl,fE E,sE [some 3,some 4,some 0,some 1,some 2] 5 E,(hl5),(hA5)⟩
 rintro _ _ _ _ h hm4475 ⟨f1,f2,f3,A7,c7,rfl,hF4475,hS4475,hl7,hA7⟩;replace h:=Qi h;replace h:=Qi h;refine Atn 5 hF4475 hS4475 E E ?_;cases h;exact Rt [] E E (Ug [[0],[1],[2],[3],[4]] 5 (hR _ A7 c7 (hm_1.trans (hm4464.trans hm4475)) hl7 hA7))
end Go.Proofs.Ytilbengnjgglhaa
