/- ExactServes: for every input the given law returns true, and its arguments read as before. No condition. -/
import Derived.Laws.StructEq
import Derived.Test.YtilbengnjgglhaaGreatc2x1
import Derived.Test.YtilbengnjgglhaaGreatc2x3
import Derived.Test.YtilbengnjgglhaaGreatc2x2
import Derived.Test.YtilbengnjgglhaaGreatc2x4
namespace Go.Proofs.YtilbengnjgglhaaGreat
open Go.RowKit
set_option linter.unusedSimpArgs false
set_option linter.unusedVariables false
set_option maxHeartbeats 2000000
set_option maxRecDepth 4000
attribute [local irreducible] WP YV WH Fn AN Upd vcR vcO Qa7 ZN Zv Vn Vs Qa4 VY ZW QaG QI KS
theorem QdG (a b:Qd):Ji Tryz.prog (do eqGuard .eql 100 (.tmp 0) (.tmp 0) (.agg #[.int .i64 a.Secs,.int .i64 a.Meters]) (.agg #[.int .i64 b.Secs,.int .i64 b.Meters]);binOp .eql 100 (.agg #[.int .i64 a.Secs,.int .i64 a.Meters]) (.agg #[.int .i64 b.Secs,.int .i64 b.Meters])) (.bool (decide (a=b))):=by
 obtain ⟨x0,x1⟩:=a;obtain ⟨y0,y1⟩:=b;intro w
 rw[Sem.run_bind,run_eqGuard_agg w _ _ _ _ _ _ (by kernel_rfl),Result.andThen_ok]
 simp only[binOp,Op.equal,Op.maxDepth,Sem.run_bind]
 rw[run_equalIn_struct w 9999 _ _ _ (by kernel_rfl) (by kernel_rfl)]
 by_cases h0:x0=y0
 case neg=>simp[Program.fieldsOf,Tryz.underlying100,go_sem,h0]
 by_cases h1:x1=y1
 case neg=>simp[Program.fieldsOf,Tryz.underlying100,go_sem,h0,h1]
 simp[Program.fieldsOf,Tryz.underlying100,go_sem,h0,h1]
theorem Qa6 (a b:Qd):Ji Tryz.prog (do eqGuard .neq 100 (.tmp 0) (.tmp 0) (.agg #[.int .i64 a.Secs,.int .i64 a.Meters]) (.agg #[.int .i64 b.Secs,.int .i64 b.Meters]);binOp .neq 100 (.agg #[.int .i64 a.Secs,.int .i64 a.Meters]) (.agg #[.int .i64 b.Secs,.int .i64 b.Meters])) (.bool (!(decide (a=b)))):=by
 obtain ⟨x0,x1⟩:=a;obtain ⟨y0,y1⟩:=b;intro w
 rw[Sem.run_bind,run_eqGuard_agg w _ _ _ _ _ _ (by kernel_rfl),Result.andThen_ok]
 simp only[binOp,Op.equal,Op.maxDepth,Sem.run_bind]
 rw[run_equalIn_struct w 9999 _ _ _ (by kernel_rfl) (by kernel_rfl)]
 by_cases h0:x0=y0
 case neg=>simp[Program.fieldsOf,Tryz.underlying100,go_sem,h0]
 by_cases h1:x1=y1
 case neg=>simp[Program.fieldsOf,Tryz.underlying100,go_sem,h0,h1]
 simp[Program.fieldsOf,Tryz.underlying100,go_sem,h0,h1]
variable {μ:Gh} {L:List Seg} {R:Value→Gh→List Seg→Prop}
theorem Qax  {p1:Qb} {A1:Option Addr} {c1:Nat} {A2:Option Addr} {c2:Nat} {A3:Option Addr} {c3:Nat} {res1:Bool}
  (hl1:p1.Road.Edges.length≤c1∧c1≤maxLen) (hA1:Qj Qv μ A1 p1.Road.Edges) (hl2:p1.Vehicles.length≤c2∧c2≤maxLen) (hA2:Qj Qq μ A2 p1.Vehicles) (hl3:p1.Demands.length≤c3∧c3≤maxLen) (hA3:Qj Qr μ A3 p1.Demands) (h:Zi p1=some res1)
  (hR:R (.bool res1) μ (L)) :
  Fn Tryz.prog 14 [.agg #[.int .i64 p1.Road.Nodes,.slice A1 p1.Road.Edges.length c1,.slice A2 p1.Vehicles.length c2,.slice A3 p1.Demands.length c3,.int .i64 p1.Unload,.int .i64 p1.UnloadSecs]] μ (L) R:=by
 unfold Zi at h;refine FnS Tryz.func14 (by kernel_rfl) E Tryz.ntmps14 E E ?_;refine G0 2 E (Al E fun _=>Q0 4 E ?_);refine Cut h (fun f l o_ f_ μ_ l_=> ∃(v1:Bool),v1=o_∧Qg ((21,.bool v1)::Qm [1] f) f_∧Qc l l_∧μ=μ_) ?_ ?_
 ·intro _ h16 h;refine G1 7 [0] E ?_;refine Br h16 10 E E (fun hc1 h16=> ?_) (fun hc1 h16=> ?_)
  ·refine G2 12 [10,16] [] [] E ?_;cases h16;exact Ce E ⟨_,rfl,fE E,sE [some 0] 1 E,rfl⟩
  refine G2 6 [] [10] [0] E ?_;refine Br h16 16 E E (fun hc2 h16=> ?_) (fun hc2 h16=> ?_)
  ·refine G2 6 [16] [] [] E ?_;cases h16;exact Ce E ⟨_,rfl,fE E,sE [some 0] 1 E,rfl⟩
  refine G2 6 [] [16] [0] E ?_;cases h16;exact Ce E ⟨_,rfl,fE E,sE [some 0] 1 E,rfl⟩
 rintro _ _ _ _ h _ ⟨v1,rfl,hF16,hS16,rfl⟩;refine Atn 1 hF16 hS16 E E ?_;refine Br h 21 E E (fun hc3 h=> ?_) (fun hc3 h=> ?_)
 ·refine G2 5 [21] [] [] E ?_;cases h;exact Rt [] E E (Ug [] 1 hR)
 refine G2 10 [] [21] [0] E ?_;refine Cut h (fun f l o_ f_ μ_ l_=>(.inl ())=o_∧Qg ([]) f_∧Qc (QS [] 1 l) l_∧μ=μ_) ?_ ?_
 ·intro _ h19 h;refine Lp h19 (fun f l (v2:Int) f_ μ_ l_=>Qg ((25,.int .i64 v2)::Qm [23,24] f) f_∧Qc (QS [] 1 l) l_∧μ=μ_) ⟨fE E,sE [] 1 E,E⟩ ?_;rintro v2 _ _ _ _ _ ⟨hF24,hS24,rfl⟩ hb24 hq24;unfold Zj at hb24;refine Atn 0 hF24 hS24 E E (G0 5 E ?_);refine Br hb24 26 E E (fun hc4 hb24=> ?_) (fun hc4 hb24=> ?_)
  ·refine G2 6 [26] [] [] E (Ix hb24 (Qj.rds hA2 L) E E fun _ _ _ _ hr1 hc5 _ hb24=> ?_);obtain rfl:=hr1;refine Q3 1 [] [] [64] (Z1 hc5) E (Al E fun _=>Q1 9 [0,0] E ?_);refine Br hb24 32 E E (fun hc6 hb24=> ?_) (fun hc6 hb24=> ?_)
   ·refine G2 5 [32] [] [] E ?_;cases hb24;have hq_:=hq24 _ E;subst hq_;replace h:=YE h;cases h;exact Rt [] E E (Ug [] 1 hR)
   refine G2 7 [] [32] [] E ?_;cases hb24;exact Ce E ⟨_,rfl,fE E,sE [] 1 E,rfl⟩
  refine G2 2 [] [26] [] E ?_;cases hb24;have hq_:=hq24 _ E;subst hq_;exact Ce E ⟨rfl,fE E,sE [] 0 E,rfl⟩
 rintro _ _ _ _ h _ ⟨rfl,hF19,hS19,rfl⟩;replace h:=Zc h;refine Atn 0 hF19 hS19 E E (G0 4 E ?_);cases h;exact Rt [] E E (Ug [] 0 hR)
theorem Qas  {p1:Qb} {demands1:(List Int)} {A1:Option Addr} {c1:Nat} {A2:Option Addr} {c2:Nat} {A3:Option Addr} {c3:Nat} {A4:Option Addr} {c4:Nat} {res1:Bool}
  (hl1:p1.Road.Edges.length≤c1∧c1≤maxLen) (hA1:Qj Qv μ A1 p1.Road.Edges) (hl2:p1.Vehicles.length≤c2∧c2≤maxLen) (hA2:Qj Qq μ A2 p1.Vehicles) (hl3:p1.Demands.length≤c3∧c3≤maxLen) (hA3:Qj Qr μ A3 p1.Demands) (hl4:demands1.length≤c4∧c4≤maxLen) (hA4:Rds QD μ L A4 demands1) (h:Ze p1 demands1=some res1)
  (hR:R (.bool res1) μ (L)) :
  Fn Tryz.prog 5 [.agg #[.int .i64 p1.Road.Nodes,.slice A1 p1.Road.Edges.length c1,.slice A2 p1.Vehicles.length c2,.slice A3 p1.Demands.length c3,.int .i64 p1.Unload,.int .i64 p1.UnloadSecs],.slice A4 demands1.length c4] μ (L) R:=by
 unfold Ze at h;refine FnS Tryz.func5 (by kernel_rfl) E Tryz.ntmps5 E E ?_;refine G0 2 E (Al E fun _=>Q0 3 E ?_);refine Cut h (fun f l o_ f_ μ_ l_=> ∃(v1:Bool),v1=o_∧Qg ((4,.bool v1)::[]) f_∧Qc (QS [] 1 l) l_∧μ=μ_) ?_ ?_
 ·intro _ h11 h;refine G1 2 [0] E (Cl E ?_);obtain ⟨_,hx1,h11⟩:=Qf h11;refine Qax hl1 hA1 hl2 hA2 hl3 hA3 hx1 ((Q0 1 E ?_));refine Br h11 7 E E (fun hc1 h11=> ?_) (fun hc1 h11=> ?_)
  ·refine G2 17 [7,13,18] [] [] E ?_;cases h11;exact Ce E ⟨_,rfl,fE E,sE [] 1 E,rfl⟩
  refine G2 6 [] [7] [0] E ?_;refine Br h11 13 E E (fun hc2 h11=> ?_) (fun hc2 h11=> ?_)
  ·refine G2 11 [13,18] [] [] E ?_;cases h11;exact Ce E ⟨_,rfl,fE E,sE [] 1 E,rfl⟩
  refine G2 5 [] [13] [] E ?_;refine Br h11 18 E E (fun hc3 h11=> ?_) (fun hc3 h11=> ?_)
  ·refine G2 6 [18] [] [] E ?_;cases h11;exact Ce E ⟨_,rfl,fE E,sE [] 1 E,rfl⟩
  refine G2 6 [] [18] [] E ?_;cases h11;exact Ce E ⟨_,rfl,fE E,sE [] 1 E,rfl⟩
 rintro _ _ _ _ h _ ⟨v1,rfl,hF11,hS11,rfl⟩;refine Atn 0 hF11 hS11 E E ?_;cases h;exact Rt [] E E (Ug [] 0 hR)
theorem Yt  {grams1:Int}  {res1:Qb}
   (h:QY grams1=some res1)
  (hR: ∀(μ':Gh) (A0_1:Option Addr) (c0_1:Nat) (A0_2:Option Addr) (c0_2:Nat) (A0_3:Option Addr) (c0_3:Nat),μ.le μ'→(res1.Road.Edges.length≤c0_1∧c0_1≤maxLen)→Qj Qv μ' A0_1 res1.Road.Edges→(res1.Vehicles.length≤c0_2∧c0_2≤maxLen)→Qj Qq μ' A0_2 res1.Vehicles→(res1.Demands.length≤c0_3∧c0_3≤maxLen)→Qj Qr μ' A0_3 res1.Demands→R (.agg #[.int .i64 res1.Road.Nodes,.slice A0_1 res1.Road.Edges.length c0_1,.slice A0_2 res1.Vehicles.length c0_2,.slice A0_3 res1.Demands.length c0_3,.int .i64 res1.Unload,.int .i64 res1.UnloadSecs]) μ' (L)) :
  Fn Tryz.prog 15 [.int .i64 grams1] μ (L) R:=by
 unfold QY at h;refine FnS Tryz.func15 (by kernel_rfl) E Tryz.ntmps15 E E ?_;refine G0 2 E (Al E fun _=>Q0 4 E (Al E fun _=>Q1 8 [0] E (So E (Zp (z:=[.int .i64 0,.int .i64 0,.int .i64 0,.int .i64 0,.int .i64 0,.int .i64 0,.int .i64 0,.int .i64 0,.int .i64 0,.int .i64 0,.int .i64 0,.int .i64 0,.int .i64 0,.int .i64 0,.int .i64 0,.int .i64 0]) E E E E E E E (QP (cells':=[.int .i64 0,.int .i64 1,.int .i64 100,.int .i64 60,.int .i64 0,.int .i64 0,.int .i64 0,.int .i64 0,.int .i64 0,.int .i64 0,.int .i64 0,.int .i64 0,.int .i64 0,.int .i64 0,.int .i64 0,.int .i64 0]) E E E E (QP (cells':=[.int .i64 0,.int .i64 1,.int .i64 100,.int .i64 60,.int .i64 1,.int .i64 0,.int .i64 100,.int .i64 60,.int .i64 0,.int .i64 0,.int .i64 0,.int .i64 0,.int .i64 0,.int .i64 0,.int .i64 0,.int .i64 0]) E E E E ?_))))));refine QP (cells':=[.int .i64 0,.int .i64 1,.int .i64 100,.int .i64 60,.int .i64 1,.int .i64 0,.int .i64 100,.int .i64 60,.int .i64 1,.int .i64 2,.int .i64 100,.int .i64 60,.int .i64 0,.int .i64 0,.int .i64 0,.int .i64 0]) E E E E (QP (cells':=[.int .i64 0,.int .i64 1,.int .i64 100,.int .i64 60,.int .i64 1,.int .i64 0,.int .i64 100,.int .i64 60,.int .i64 1,.int .i64 2,.int .i64 100,.int .i64 60,.int .i64 2,.int .i64 1,.int .i64 100,.int .i64 60]) E E E E (Za (fun g3=>Q1 4 [1] E (So E (Zp (z:=[.string ⟨#[]⟩,.int .i64 0,.int .i64 0,.int .i64 0,.int .i64 0,.int .i64 0]) E E E E E E E (QP (cells':=[.string ⟨#[118]⟩,.int .i64 0,.int .i64 0,.int .i64 86400,.int .i64 grams1,.int .i64 1]) E E E E (Za (fun g4=> ?_))))))));refine Q1 4 [2,2] E (So E (Zp (z:=[.int .i64 0,.int .i64 0,.int .i64 0,.int .i64 0,.int .i64 0,.int .i64 0,.int .i64 0,.int .i64 0,.int .i64 0,.int .i64 0,.int .i64 0,.int .i64 0,.int .i64 0,.int .i64 0]) E E E E E E E (QP (cells':=[.int .i64 0,.int .i64 1,.int .i64 0,.int .i64 10,.int .i64 0,.int .i64 86400,.int .i64 0,.int .i64 0,.int .i64 0,.int .i64 0,.int .i64 0,.int .i64 0,.int .i64 0,.int .i64 0]) E E E E (QP (cells':=[.int .i64 0,.int .i64 1,.int .i64 0,.int .i64 10,.int .i64 0,.int .i64 86400,.int .i64 0,.int .i64 1,.int .i64 2,.int .i64 0,.int .i64 10,.int .i64 0,.int .i64 86400,.int .i64 0]) E E E E (Za (fun g5=>Q1 3 [4] E ?_))))));cases h;refine Rt [4] E E ?_;have hl1:[(QM.mk 0 1 100 60),(QM.mk 1 0 100 60),(QM.mk 1 2 100 60),(QM.mk 2 1 100 60)].length≤4∧4≤maxLen:=⟨Nat.le_refl _,by unfold maxLen;omega⟩
 refine Upd.frzOwn 2 E (Own.lit (r:=Qv) (e:=63) (g:=g3) (xs:=[(QM.mk 0 1 100 60),(QM.mk 1 0 100 60),(QM.mk 1 2 100 60),(QM.mk 2 1 100 60)]) (cs:=[.int .i64 0,.int .i64 1,.int .i64 100,.int .i64 60,.int .i64 1,.int .i64 0,.int .i64 100,.int .i64 60,.int .i64 1,.int .i64 2,.int .i64 100,.int .i64 60,.int .i64 2,.int .i64 1,.int .i64 100,.int .i64 60]) (css:=[[.int .i64 0,.int .i64 1,.int .i64 100,.int .i64 60],[.int .i64 1,.int .i64 0,.int .i64 100,.int .i64 60],[.int .i64 1,.int .i64 2,.int .i64 100,.int .i64 60],[.int .i64 2,.int .i64 1,.int .i64 100,.int .i64 60]]) E (All2.cons (E) (All2.cons (E) (All2.cons (E) (All2.cons (E) (All2.nil))))) E E) fun _ hm_1 hA1=> ?_;have hl2:[(Qo.mk ⟨#[118]⟩ 0 (Yd.mk 0 86400) grams1 1)].length≤1∧1≤maxLen:=⟨Nat.le_refl _,by unfold maxLen;omega⟩
 refine Upd.frzOwn 1 E (Own.lit (r:=Qq) (e:=61) (g:=g4) (xs:=[(Qo.mk ⟨#[118]⟩ 0 (Yd.mk 0 86400) grams1 1)]) (cs:=[.string ⟨#[118]⟩,.int .i64 0,.int .i64 0,.int .i64 86400,.int .i64 grams1,.int .i64 1]) (css:=[[.string ⟨#[118]⟩,.int .i64 0,.int .i64 0,.int .i64 86400,.int .i64 grams1,.int .i64 1]]) E (All2.cons (E) (All2.nil)) E E) fun _ hm_2 hA2=> ?_;replace hA1:=hA1.mono hm_2;have hl3:[(Qn.mk 0 1 0 10 (Yd.mk 0 86400) 0),(Qn.mk 1 2 0 10 (Yd.mk 0 86400) 0)].length≤2∧2≤maxLen:=⟨Nat.le_refl _,by unfold maxLen;omega⟩
 refine Upd.frzOwn 0 E (Own.lit (r:=Qr) (e:=65) (g:=g5) (xs:=[(Qn.mk 0 1 0 10 (Yd.mk 0 86400) 0),(Qn.mk 1 2 0 10 (Yd.mk 0 86400) 0)]) (cs:=[.int .i64 0,.int .i64 1,.int .i64 0,.int .i64 10,.int .i64 0,.int .i64 86400,.int .i64 0,.int .i64 1,.int .i64 2,.int .i64 0,.int .i64 10,.int .i64 0,.int .i64 86400,.int .i64 0]) (css:=[[.int .i64 0,.int .i64 1,.int .i64 0,.int .i64 10,.int .i64 0,.int .i64 86400,.int .i64 0],[.int .i64 1,.int .i64 2,.int .i64 0,.int .i64 10,.int .i64 0,.int .i64 86400,.int .i64 0]]) E (All2.cons (E) (All2.cons (E) (All2.nil))) E E) fun _ hm_3 hA3=> ?_;replace hA1:=hA1.mono hm_3;replace hA2:=hA2.mono hm_3;exact (Ug [] 5 (hR _ (some ⟨g3,0,none⟩) 4 (some ⟨g4,0,none⟩) 1 (some ⟨g5,0,none⟩) 2 (hm_1.trans (hm_2.trans hm_3)) hl1 hA1 hl2 hA2 hl3 hA3))
theorem QdN  {r1:QB} {A1:Option Addr} {c1:Nat} {res1:Wy}
  (hl1:r1.Edges.length≤c1∧c1≤maxLen) (hA1:Qj Qv μ A1 r1.Edges) (h:WS r1=some res1)
  (hR: ∀(μ':Gh) (A0_1:Option Addr) (c0_1:Nat),μ.le μ'→(res1.Arcs.length≤c0_1∧c0_1≤maxLen)→Qj VD μ' A0_1 res1.Arcs→R (.agg #[.int .i64 res1.Nodes,.slice A0_1 res1.Arcs.length c0_1]) μ' (L)) :
  Fn Tryz.prog 60 [.agg #[.int .i64 r1.Nodes,.slice A1 r1.Edges.length c1]] μ (L) R:=by
 unfold WS at h;refine FnS Tryz.func60 (by kernel_rfl) E Tryz.ntmps60 E E ?_;refine G0 2 E (Al E fun _=>Q0 0 E (Al E fun g2=>Q1 6 [1] E (Al E fun g3=>Q1 10 [0,2] E ?_)));refine Cut h (fun f l o_ f_ μ_ l_=> ∃(f2:(List Y3)) (A4:Option Addr) (c4:Nat) (ch3:Seg),f2=o_∧Qg (Qm [2,3] f) f_∧Qc ([(g2,.cells #[.int .i64 0,.slice none 0 0] 112 (0,0))]::[(g3,.cells #[.int .i64 r1.Nodes,.slice A4 f2.length c4] 112 (0,0))]::ch3::QS [] 3 l) l_∧Own VD 136 μ_ (.slice A4 f2.length c4) f2 ch3) ?_ ?_
 ·intro _ h192 h;refine Lp h192 (fun f l (j_:(List Y3)×Int) f_ μ_ l_=>JT j_ fun f1 v1=> ∃(A2:Option Addr) (c2:Nat) (ch1:Seg),Qg ((12,.int .i64 v1)::Qm [2,3,10,11] f) f_∧Qc ([(g2,.cells #[.int .i64 0,.slice none 0 0] 112 (0,0))]::[(g3,.cells #[.int .i64 r1.Nodes,.slice A2 f1.length c2] 112 (0,0))]::ch1::QS [] 3 l) l_∧Own VD 136 μ_ (.slice A2 f1.length c2) f1 ch1) ⟨none,0,[],fE E,sE [some 1,some 0,none] 3 E,(Own.nil)⟩ ?_;rintro ⟨f1,v1⟩ _ _ _ _ hm207 ⟨A2,c2,ch1,hF207,hS207,hO1⟩ hb207 hq207;unfold JM at hb207;replace hb207:=Qh hb207;replace hA1:=hA1.mono hm207;refine Atn 3 hF207 hS207 E E (G0 5 E ?_);refine Br hb207 13 E E (fun hc1 hb207=> ?_) (fun hc1 hb207=> ?_)
  ·refine G2 6 [13] [] [] E (Ix hb207 (Qj.rds hA1 L) E E fun x1 _ _ _ hr1 hc2 _ hb207=> ?_);obtain rfl:=hr1;refine Q3 1 [] [] [64] (Z1 (hc2.push.push.push)) E (Al E fun _=>Q1 10 [0,2,0,0] E (So E (Zp (z:=[.int .i64 0,.int .i64 0]) E E E E E E E (QP (cells':=[.int .i64 x1.From,.int .i64 x1.To]) E E E E (Za (fun g5=>Q0 0 E (So E (Yy E ?_))))))));obtain ⟨_,hz1,hb207⟩:=Qf hb207;refine YX (r:=VD) QU E E E E (by decide) E E 4 E hO1 E (Own.rds (Own.lit (r:=VD) (e:=136) (g:=g5) (xs:=[(Y3.mk x1.From x1.To)]) (cs:=[.int .i64 x1.From,.int .i64 x1.To]) (css:=[[.int .i64 x1.From,.int .i64 x1.To]]) E (All2.cons (E) (All2.nil)) E E) 0 E) hz1 fun A3 c3 ch2 hO2=>Q1 8 [3] E ?_;cases hb207;exact Ce E ⟨_,rfl,A3,c3,ch2,fE E,sE [some 2,some 3,some 4] 5 E,(hO2)⟩
  refine G2 2 [] [13] [] E ?_;cases hb207;have hq_:=hq207 _ E;subst hq_;exact Ce E ⟨_,A2,c2,ch1,rfl,fE E,sE [some 0,some 1,some 2] 3 E,(hO1)⟩
 rintro _ _ _ _ h hm192 ⟨f2,A4,c4,ch3,rfl,hF192,hS192,hO3⟩;refine Atn 3 hF192 hS192 E E (G1 5 [1,0] E ?_);cases h;refine Rt [0] E E ?_;have hl2:=Own.lenOk hO3;refine Upd.frzOwn 2 E hO3 fun _ hm_1 hA3=> ?_;exact (Ug [] 3 (hR _ A4 c4 (hm192.trans hm_1) hl2 hA3))
theorem Qek  {g1:Wy} {A1:Option Addr} {c1:Nat} {res1:Int}
  (hl1:g1.Arcs.length≤c1∧c1≤maxLen) (hA1:Qj VD μ A1 g1.Arcs) (h:Vo g1=some res1)
  (hR:R (.int .i64 res1) μ (L)) :
  Fn Tryz.prog 59 [.agg #[.int .i64 g1.Nodes,.slice A1 g1.Arcs.length c1]] μ (L) R:=by
 unfold Vo at h;refine FnS Tryz.func59 (by kernel_rfl) E Tryz.ntmps59 E E ?_;refine G0 2 E (Al E fun _=>Q0 4 E ?_);refine Cut h (fun f l o_ f_ μ_ l_=> ∃(v1:Bool),v1=o_∧Qg ((12,.bool v1)::Qm [1] f) f_∧Qc l l_∧μ=μ_) ?_ ?_
 ·intro _ h235 h;refine G1 5 [0] E ?_;refine Br h235 8 E E (fun hc1 h235=> ?_) (fun hc1 h235=> ?_)
  ·refine G2 5 [8] [] [] E ?_;cases h235;exact Ce E ⟨_,rfl,fE E,sE [some 0] 1 E,rfl⟩
  refine G2 5 [] [8] [0] E ?_;cases h235;exact Ce E ⟨_,rfl,fE E,sE [some 0] 1 E,rfl⟩
 rintro _ _ _ _ h _ ⟨v1,rfl,hF235,hS235,rfl⟩;refine Atn 1 hF235 hS235 E E ?_;refine Br h 12 E E (fun hc2 h=> ?_) (fun hc2 h=> ?_)
 ·refine G2 5 [12] [] [] E ?_;cases h;exact Rt [] E E (Ug [] 1 hR)
 refine G2 10 [] [12] [0] E ?_;refine Br h 16 E E (fun hc3 h=> ?_) (fun hc3 h=> ?_)
 ·refine G2 5 [16] [] [] E ?_;cases h;exact Rt [] E E (Ug [] 1 hR)
 refine G2 10 [] [16] [0] E ?_;refine Cut h (fun f l o_ f_ μ_ l_=>(.inl ())=o_∧Qg ([]) f_∧Qc (QS [] 1 l) l_∧μ=μ_) ?_ ?_
 ·intro _ h238 h;refine Lp h238 (fun f l (v2:Int) f_ μ_ l_=>Qg ((20,.int .i64 v2)::Qm [1,18,19] f) f_∧Qc l l_∧μ=μ_) ⟨fE E,sE [some 0] 1 E,E⟩ ?_;rintro v2 _ _ _ _ _ ⟨hF248,hS248,rfl⟩ hb248 hq248;unfold J5 at hb248;refine Atn 1 hF248 hS248 E E (G0 5 E ?_);refine Br hb248 21 E E (fun hc4 hb248=> ?_) (fun hc4 hb248=> ?_)
  ·refine G2 6 [21] [] [] E (Ix hb248 (Qj.rds hA1 L) E E fun _ _ _ _ hr1 hc5 _ hb248=> ?_);obtain rfl:=hr1;refine Q3 1 [] [] [64] (Z1 (hc5.push)) E (Al E fun _=>Q1 3 [0] E ?_);refine Cut hb248 (fun f l o_ f_ μ_ l_=> ∃(v3:Bool),v3=o_∧Qg ((45,.bool v3)::Qm [1,18,19,20] f) f_∧Qc (QS [] 1 l) l_∧μ=μ_) ?_ ?_
   ·intro _ h254 hb248;refine G1 5 [0] E ?_;refine Br h254 27 E E (fun hc6 h254=> ?_) (fun hc6 h254=> ?_)
    ·refine G2 19 [27,34,39] [] [] E ?_;cases h254;exact Ce E ⟨_,rfl,fE E,sE [some 1] 2 E,rfl⟩
    refine G2 7 [] [27] [0,1] E ?_;refine Br h254 34 E E (fun hc7 h254=> ?_) (fun hc7 h254=> ?_)
    ·refine G2 12 [34,39] [] [] E ?_;cases h254;exact Ce E ⟨_,rfl,fE E,sE [some 1] 2 E,rfl⟩
    refine G2 5 [] [34] [0] E ?_;refine Br h254 39 E E (fun hc8 h254=> ?_) (fun hc8 h254=> ?_)
    ·refine G2 7 [39] [] [] E ?_;cases h254;exact Ce E ⟨_,rfl,fE E,sE [some 1] 2 E,rfl⟩
    refine G2 7 [] [39] [0,1] E ?_;cases h254;exact Ce E ⟨_,rfl,fE E,sE [some 1] 2 E,rfl⟩
   rintro _ _ _ _ hb248 _ ⟨v3,rfl,hF254,hS254,rfl⟩;refine Atn 1 hF254 hS254 E E ?_;refine Br hb248 45 E E (fun hc9 hb248=> ?_) (fun hc9 hb248=> ?_)
   ·refine G2 5 [45] [] [] E ?_;cases hb248;have hq_:=hq248 _ E;subst hq_;replace h:=YE h;cases h;exact Rt [] E E (Ug [] 1 hR)
   refine G2 7 [] [45] [] E ?_;cases hb248;exact Ce E ⟨_,rfl,fE E,sE [some 0] 1 E,rfl⟩
  refine G2 2 [] [21] [] E ?_;cases hb248;have hq_:=hq248 _ E;subst hq_;exact Ce E ⟨rfl,fE E,sE [] 1 E,rfl⟩
 rintro _ _ _ _ h _ ⟨rfl,hF238,hS238,rfl⟩;replace h:=Zc h;refine Atn 0 hF238 hS238 E E (G0 4 E ?_);cases h;exact Rt [] E E (Ug [] 0 hR)
theorem Qb2  {r1:QB} {A1:Option Addr} {c1:Nat} {res1:Int}
  (hl1:r1.Edges.length≤c1∧c1≤maxLen) (hA1:Qj Qv μ A1 r1.Edges) (h:Wx r1=some res1)
  (hR: ∀(μ':Gh) ,μ.le μ'→R (.int .i64 res1) μ' (L)) :
  Fn Tryz.prog 40 [.agg #[.int .i64 r1.Nodes,.slice A1 r1.Edges.length c1]] μ (L) R:=by
 unfold Wx at h;refine FnS Tryz.func40 (by kernel_rfl) E Tryz.ntmps40 E E ?_;refine G0 2 E (Al E fun _=>Q0 4 E ?_);refine Cut h (fun f l o_ f_ μ_ l_=> ∃(v1:Bool),v1=o_∧Qg ((12,.bool v1)::Qm [1] f) f_∧Qc l l_) ?_ ?_
 ·intro _ h259 h;refine G1 5 [0] E ?_;refine Br h259 8 E E (fun hc1 h259=> ?_) (fun hc1 h259=> ?_)
  ·refine G2 5 [8] [] [] E ?_;cases h259;exact Ce E ⟨_,rfl,fE E,sE [some 0] 1 E⟩
  refine G2 5 [] [8] [0] E ?_;cases h259;exact Ce E ⟨_,rfl,fE E,sE [some 0] 1 E⟩
 rintro _ _ _ _ h hm259 ⟨v1,rfl,hF259,hS259⟩;replace hA1:=hA1.mono hm259;refine Atn 1 hF259 hS259 E E ?_;refine Br h 12 E E (fun hc2 h=> ?_) (fun hc2 h=> ?_)
 ·refine G2 5 [12] [] [] E ?_;cases h;exact Rt [] E E (Ug [] 1 (hR _ hm259))
 refine G2 10 [] [12] [0] E ?_;refine Br h 16 E E (fun hc3 h=> ?_) (fun hc3 h=> ?_)
 ·refine G2 5 [16] [] [] E ?_;cases h;exact Rt [] E E (Ug [] 1 (hR _ hm259))
 refine G2 10 [] [16] [0] E ?_;refine Cut h (fun f l o_ f_ μ_ l_=>(.inl ())=o_∧Qg (Qm [1] f) f_∧Qc l l_) ?_ ?_
 ·intro _ h262 h;refine Lp h262 (fun f l (v2:Int) f_ μ_ l_=>Qg ((20,.int .i64 v2)::Qm [1,18,19] f) f_∧Qc l l_) ⟨fE E,sE [some 0] 1 E⟩ ?_;rintro v2 _ _ _ _ hm277 ⟨hF277,hS277⟩ hb277 hq277;unfold Vk at hb277;replace hA1:=hA1.mono hm277;refine Atn 1 hF277 hS277 E E (G0 5 E ?_);refine Br hb277 21 E E (fun hc4 hb277=> ?_) (fun hc4 hb277=> ?_)
  ·refine G2 6 [21] [] [] E (Ix hb277 (Qj.rds hA1 L) E E fun _ _ _ _ hr1 hc5 _ hb277=> ?_);obtain rfl:=hr1;refine Q3 1 [] [] [64] (Z1 (hc5.push)) E (Al E fun _=>Q1 4 [0] E ?_);refine Cut hb277 (fun f l o_ f_ μ_ l_=> ∃(v3:Bool),v3=o_∧Qg ((45,.bool v3)::Qm [1,4,18,19,20] f) f_∧Qc (QS [some 1,some 0] 2 l) l_) ?_ ?_
   ·intro _ h283 hb277;refine G1 5 [0] E ?_;refine Br h283 27 E E (fun hc6 h283=> ?_) (fun hc6 h283=> ?_)
    ·refine G2 19 [27,34,39] [] [] E ?_;cases h283;exact Ce E ⟨_,rfl,fE E,sE [some 1,some 0] 2 E⟩
    refine G2 7 [] [27] [0,1] E ?_;refine Br h283 34 E E (fun hc7 h283=> ?_) (fun hc7 h283=> ?_)
    ·refine G2 12 [34,39] [] [] E ?_;cases h283;exact Ce E ⟨_,rfl,fE E,sE [some 1,some 0] 2 E⟩
    refine G2 5 [] [34] [0] E ?_;refine Br h283 39 E E (fun hc8 h283=> ?_) (fun hc8 h283=> ?_)
    ·refine G2 7 [39] [] [] E ?_;cases h283;exact Ce E ⟨_,rfl,fE E,sE [some 1,some 0] 2 E⟩
    refine G2 7 [] [39] [0,1] E ?_;cases h283;exact Ce E ⟨_,rfl,fE E,sE [some 1,some 0] 2 E⟩
   rintro _ _ _ _ hb277 hm283 ⟨v3,rfl,hF283,hS283⟩;replace hA1:=hA1.mono hm283;refine Atn 2 hF283 hS283 E E ?_;refine Br hb277 45 E E (fun hc9 hb277=> ?_) (fun hc9 hb277=> ?_)
   ·refine G2 5 [45] [] [] E ?_;cases hb277;have hq_:=hq277 _ E;subst hq_;replace h:=YE h;cases h;exact Rt [] E E (Ug [] 2 (hR _ (hm259.trans (hm277.trans hm283))))
   refine G2 3 [] [45] [] E ?_;refine Cut hb277 (fun f l o_ f_ μ_ l_=> ∃(v4:Bool),v4=o_∧Qg ((70,.bool v4)::Qm [1,18,19,20] f) f_∧Qc (QS [some 0] 2 l) l_) ?_ ?_
   ·intro _ h288 hb277;refine G1 7 [1,1] E ?_;refine Br h288 51 E E (fun hc10 h288=> ?_) (fun hc10 h288=> ?_)
    ·refine G2 20 [51,56,61,66] [] [] E ?_;cases h288;exact Ce E ⟨_,rfl,fE E,sE [some 0] 2 E⟩
    refine G2 5 [] [51] [1] E ?_;refine Br h288 56 E E (fun hc11 h288=> ?_) (fun hc11 h288=> ?_)
    ·refine G2 15 [56,61,66] [] [] E ?_;cases h288;exact Ce E ⟨_,rfl,fE E,sE [some 0] 2 E⟩
    refine G2 5 [] [56] [1] E ?_;refine Br h288 61 E E (fun hc12 h288=> ?_) (fun hc12 h288=> ?_)
    ·refine G2 10 [61,66] [] [] E ?_;cases h288;exact Ce E ⟨_,rfl,fE E,sE [some 0] 2 E⟩
    refine G2 5 [] [61] [1] E ?_;refine Br h288 66 E E (fun hc13 h288=> ?_) (fun hc13 h288=> ?_)
    ·refine G2 5 [66] [] [] E ?_;cases h288;exact Ce E ⟨_,rfl,fE E,sE [some 0] 2 E⟩
    refine G2 5 [] [66] [1] E ?_;cases h288;exact Ce E ⟨_,rfl,fE E,sE [some 0] 2 E⟩
   rintro _ _ _ _ hb277 hm288 ⟨v4,rfl,hF288,hS288⟩;replace hA1:=hA1.mono hm288;refine Atn 1 hF288 hS288 E E ?_;refine Br hb277 70 E E (fun hc14 hb277=> ?_) (fun hc14 hb277=> ?_)
   ·refine G2 5 [70] [] [] E ?_;cases hb277;have hq_:=hq277 _ E;subst hq_;replace h:=YE h;cases h;exact Rt [] E E (Ug [] 1 (hR _ (hm259.trans (hm277.trans (hm283.trans hm288)))))
   refine G2 7 [] [70] [] E ?_;cases hb277;exact Ce E ⟨_,rfl,fE E,sE [some 0] 1 E⟩
  refine G2 2 [] [21] [] E ?_;cases hb277;have hq_:=hq277 _ E;subst hq_;exact Ce E ⟨rfl,fE E,sE [some 0] 1 E⟩
 rintro _ _ _ _ h hm262 ⟨rfl,hF262,hS262⟩;replace h:=Zc h;replace hA1:=hA1.mono hm262;refine Atn 1 hF262 hS262 E E (G1 3 [0] E (Cl E ?_));obtain ⟨_,hx2,h⟩:=Qf h;refine QdN hl1 hA1 hx2 (fun _ _ _ hm_1 hl2 hA3=> ?_);refine Q0 0 E (Cl E ?_);obtain ⟨_,hx3,h⟩:=Qf h;refine Qek hl2 hA3 hx3 ((Q0 2 E ?_));cases h;exact Rt [] E E (Ug [] 1 (hR _ (hm259.trans (hm262.trans hm_1))))
theorem Qa3  {c1:Int}  {res1:Bool}
   (h:Wd c1=some res1)
  (hR:R (.bool res1) μ (L)) :
  Fn Tryz.prog 96 [.int .u8 c1] μ (L) R:=by
 unfold Wd at h;refine FnS Tryz.func96 (by kernel_rfl) E Tryz.ntmps96 E E ?_;refine G0 5 E ?_;refine Cut h (fun f l o_ f_ μ_ l_=> ∃(v1:Bool),v1=o_∧Qg ((2,.bool v1)::[]) f_∧Qc l l_∧μ=μ_) ?_ ?_
 ·intro _ h302 h;refine G0 4 E ?_;refine Br h302 5 E E (fun hc1 h302=> ?_) (fun hc1 h302=> ?_)
  ·refine G2 4 [5] [] [] E ?_;refine Br h302 9 E E (fun hc2 h302=> ?_) (fun hc2 h302=> ?_)
   ·refine G2 9 [9] [] [] E ?_;cases h302;exact Ce E ⟨_,rfl,fE E,sE [] 0 E,rfl⟩
   refine G2 3 [] [9] [] E ?_;refine Br h302 12 E E (fun hc3 h302=> ?_) (fun hc3 h302=> ?_)
   ·refine G2 6 [12] [9] [] E ?_;cases h302;exact Ce E ⟨_,rfl,fE E,sE [] 0 E,rfl⟩
   refine G2 6 [] [9,12] [] E ?_;cases h302;exact Ce E ⟨_,rfl,fE E,sE [] 0 E,rfl⟩
  refine G2 7 [] [5,9] [] E ?_;refine Br h302 12 E E (fun hc4 h302=> ?_) (fun hc4 h302=> ?_)
  ·refine G2 6 [12] [9] [] E ?_;cases h302;exact Ce E ⟨_,rfl,fE E,sE [] 0 E,rfl⟩
  refine G2 6 [] [9,12] [] E ?_;cases h302;exact Ce E ⟨_,rfl,fE E,sE [] 0 E,rfl⟩
 rintro _ _ _ _ h _ ⟨v1,rfl,hF302,hS302,rfl⟩;refine Atn 0 hF302 hS302 E E ?_;cases h;exact Rt [] E E (Ug [] 0 hR)
theorem Qel {F:Nat} {s1:ByteArray}  {res1:Bool}
   (h:Vp F s1=some res1)
  (hR:R (.bool res1) μ (L)) :
  Fn Tryz.prog 80 [.string s1] μ (L) R:=by
 unfold Vp at h;refine FnS Tryz.func80 (by kernel_rfl) E Tryz.ntmps80 E E ?_;refine G0 6 E ?_;refine Cut h (fun f l o_ f_ μ_ l_=> ∃(v1:Bool),v1=o_∧Qg ((18,.bool v1)::Qm [0] f) f_∧Qc l l_∧μ=μ_) ?_ ?_
 ·intro _ h301 h;refine G0 5 E ?_;refine Br h301 8 E E (fun hc1 h301=> ?_) (fun hc1 h301=> ?_)
  ·refine G2 11 [8,13] [] [] E ?_;cases h301;exact Ce E ⟨_,rfl,fE E,sE [] 0 E,rfl⟩
  refine G2 5 [] [8] [] E ?_;refine Br h301 13 E E (fun hc2 h301=> ?_) (fun hc2 h301=> ?_)
  ·refine G2 6 [13] [] [] E ?_;cases h301;exact Ce E ⟨_,rfl,fE E,sE [] 0 E,rfl⟩
  obtain ⟨_,hb1,h301⟩:=Qf h301;refine G2 1 [] [13] [] E (Rdo E E (Qfz QU E E E E hb1 (Q0 0 E (Cl E ?_))));obtain ⟨_,hx1,h301⟩:=Qf h301;refine Qa3  hx1 ((Q2 3 [] [13] [] E ?_));cases h301;exact Ce E ⟨_,rfl,fE E,sE [] 0 E,rfl⟩
 rintro _ _ _ _ h _ ⟨v1,rfl,hF301,hS301,rfl⟩;refine Atn 0 hF301 hS301 E E ?_;refine Br h 18 E E (fun hc3 h=> ?_) (fun hc3 h=> ?_)
 ·refine G2 5 [18] [] [] E ?_;cases h;exact Rt [] E E (Ug [] 0 hR)
 refine G2 7 [] [18] [] E ?_;refine Cut h (fun f l o_ f_ μ_ l_=>(.inl ())=o_∧Qg ([]) f_∧Qc l l_∧μ=μ_) ?_ ?_
 ·intro _ h303 h;refine Lp h303 (fun f l (i1:Int) f_ μ_ l_=>Qg ((3,.int .i64 i1)::Qm [0] f) f_∧Qc l l_∧μ=μ_) ⟨fE E,sE [] 0 E,E⟩ ?_;rintro i1 _ _ _ _ _ ⟨hF306,hS306,rfl⟩ hb306 hq306;unfold WN at hb306;refine Atn 0 hF306 hS306 E E (G0 8 E ?_);refine Br hb306 22 E E (fun hc4 hb306=> ?_) (fun hc4 hb306=> ?_)
  ·obtain ⟨
       _,hb2,hb306⟩:=Qf hb306
   refine G2 8 [22] [] [] E (Rdo E E (Qfz QU E E E E hb2 (Q0 3 E ?_)));refine Cut hb306 (fun f l o_ f_ μ_ l_=> ∃(v2:Bool),v2=o_∧Qg ((50,.bool v2)::Qm [0,3] f) f_∧Qc l l_∧μ=μ_) ?_ ?_
   ·intro _ h307 hb306;refine G0 2 E (Cl E ?_);obtain ⟨_,hx2,h307⟩:=Qf h307;refine Qa3  hx2 ((Q0 2 E ?_));refine Br h307 31 E E (fun hc5 h307=> ?_) (fun hc5 h307=> ?_)
    ·refine G2 3 [31] [] [] E ?_;refine Br h307 34 E E (fun hc6 h307=> ?_) (fun hc6 h307=> ?_)
     ·refine G2 9 [31,34,39] [] [] E ?_;refine Br h307 43 E E (fun hc7 h307=> ?_) (fun hc7 h307=> ?_)
      ·refine G2 4 [43] [] [] E ?_;refine Br h307 47 E E (fun hc8 h307=> ?_) (fun hc8 h307=> ?_)
       ·refine G2 4 [47] [] [] E ?_;cases h307;exact Ce E ⟨_,rfl,fE E,sE [] 0 E,rfl⟩
       refine G2 4 [] [47] [] E ?_;cases h307;exact Ce E ⟨_,rfl,fE E,sE [] 0 E,rfl⟩
      refine G2 8 [] [43,47] [] E ?_;cases h307;exact Ce E ⟨_,rfl,fE E,sE [] 0 E,rfl⟩
     refine G2 5 [31] [34] [] E ?_;refine Br h307 39 E E (fun hc9 h307=> ?_) (fun hc9 h307=> ?_)
     ·refine G2 4 [39] [] [] E ?_;refine Br h307 43 E E (fun hc10 h307=> ?_) (fun hc10 h307=> ?_)
      ·refine G2 4 [43] [] [] E ?_;refine Br h307 47 E E (fun hc11 h307=> ?_) (fun hc11 h307=> ?_)
       ·refine G2 4 [47] [] [] E ?_;cases h307;exact Ce E ⟨_,rfl,fE E,sE [] 0 E,rfl⟩
       refine G2 4 [] [47] [] E ?_;cases h307;exact Ce E ⟨_,rfl,fE E,sE [] 0 E,rfl⟩
      refine G2 8 [] [43,47] [] E ?_;cases h307;exact Ce E ⟨_,rfl,fE E,sE [] 0 E,rfl⟩
     refine G2 12 [] [39,43,47] [] E ?_;cases h307;exact Ce E ⟨_,rfl,fE E,sE [] 0 E,rfl⟩
    refine G2 20 [] [31,39,43,47] [] E ?_;cases h307;exact Ce E ⟨_,rfl,fE E,sE [] 0 E,rfl⟩
   rintro _ _ _ _ hb306 _ ⟨v2,rfl,hF307,hS307,rfl⟩;refine Atn 0 hF307 hS307 E E ?_;refine Br hb306 50 E E (fun hc12 hb306=> ?_) (fun hc12 hb306=> ?_)
   ·refine G2 5 [50] [] [] E ?_;cases hb306;have hq_:=hq306 _ E;subst hq_;replace h:=YE h;cases h;exact Rt [] E E (Ug [] 0 hR)
   refine G2 8 [] [50] [] E ?_;cases hb306;exact Ce E ⟨_,rfl,fE E,sE [] 0 E,rfl⟩
  refine G2 2 [] [22] [] E ?_;cases hb306;have hq_:=hq306 _ E;subst hq_;exact Ce E ⟨rfl,fE E,sE [] 0 E,rfl⟩
 rintro _ _ _ _ h _ ⟨rfl,hF303,hS303,rfl⟩;replace h:=Zc h;refine Atn 0 hF303 hS303 E E (G0 4 E ?_);cases h;exact Rt [] E E (Ug [] 0 hR)
theorem Qde {F:Nat} {v1:Qo} {nodes1:Int} {materials1:Int}  {res1:Int}
   (h:Wr F v1 nodes1 materials1=some res1)
  (hR:R (.int .i64 res1) μ (L)) :
  Fn Tryz.prog 61 [.agg #[.string v1.ID,.int .i64 v1.Depot,.int .i64 v1.Shift.From,.int .i64 v1.Shift.To,.int .i64 v1.Grams,.int .i64 v1.Kinds],.int .i64 nodes1,.int .i64 materials1] μ (L) R:=by
 unfold Wr at h;refine FnS Tryz.func61 (by kernel_rfl) E Tryz.ntmps61 E E ?_;refine G0 2 E (Al E fun _=>Q1 8 [0] E (Cl E ?_));obtain ⟨_,hx1,h⟩:=Qf h;refine Qel  hx1 ((Q0 3 E ?_));refine Br h 7 E E (fun hc1 h=> ?_) (fun hc1 h=> ?_)
 ·refine G2 5 [7] [] [] E ?_;cases h;exact Rt [] E E (Ug [] 1 hR)
 refine G2 2 [] [7] [] E ?_;refine Cut h (fun f l o_ f_ μ_ l_=> ∃(v2:Bool),v2=o_∧Qg ((12,.bool v2)::Qm [2,3] f) f_∧Qc l l_∧μ=μ_) ?_ ?_
 ·intro _ h308 h;refine G1 5 [0] E ?_;refine Br h308 16 E E (fun hc2 h308=> ?_) (fun hc2 h308=> ?_)
  ·refine G2 7 [16] [] [] E ?_;cases h308;exact Ce E ⟨_,rfl,fE E,sE [some 0] 1 E,rfl⟩
  refine G2 7 [] [16] [0] E ?_;cases h308;exact Ce E ⟨_,rfl,fE E,sE [some 0] 1 E,rfl⟩
 rintro _ _ _ _ h _ ⟨v2,rfl,hF308,hS308,rfl⟩;refine Atn 1 hF308 hS308 E E ?_;refine Br h 12 E E (fun hc3 h=> ?_) (fun hc3 h=> ?_)
 ·refine G2 5 [12] [] [] E ?_;cases h;exact Rt [] E E (Ug [] 1 hR)
 refine G2 2 [] [12] [] E ?_;refine Cut h (fun f l o_ f_ μ_ l_=> ∃(v3:Bool),v3=o_∧Qg ((22,.bool v3)::Qm [2,3] f) f_∧Qc l l_∧μ=μ_) ?_ ?_
 ·intro _ h311 h;refine G1 6 [0] E ?_;refine Br h311 27 E E (fun hc4 h311=> ?_) (fun hc4 h311=> ?_)
  ·refine G2 16 [27,36] [] [] E ?_;cases h311;exact Ce E ⟨_,rfl,fE E,sE [some 0] 1 E,rfl⟩
  refine G2 9 [] [27] [0,0] E ?_;refine Br h311 36 E E (fun hc5 h311=> ?_) (fun hc5 h311=> ?_)
  ·refine G2 7 [36] [] [] E ?_;cases h311;exact Ce E ⟨_,rfl,fE E,sE [some 0] 1 E,rfl⟩
  refine G2 7 [] [36] [0] E ?_;cases h311;exact Ce E ⟨_,rfl,fE E,sE [some 0] 1 E,rfl⟩
 rintro _ _ _ _ h _ ⟨v3,rfl,hF311,hS311,rfl⟩;refine Atn 1 hF311 hS311 E E ?_;refine Br h 22 E E (fun hc6 h=> ?_) (fun hc6 h=> ?_)
 ·refine G2 5 [22] [] [] E ?_;cases h;exact Rt [] E E (Ug [] 1 hR)
 refine G2 2 [] [22] [] E ?_;refine Cut h (fun f l o_ f_ μ_ l_=> ∃(v4:Bool),v4=o_∧Qg ((42,.bool v4)::Qm [2,3] f) f_∧Qc l l_∧μ=μ_) ?_ ?_
 ·intro _ h314 h;refine G1 5 [0] E ?_;refine Br h314 46 E E (fun hc7 h314=> ?_) (fun hc7 h314=> ?_)
  ·refine G2 6 [46] [] [] E ?_;cases h314;exact Ce E ⟨_,rfl,fE E,sE [some 0] 1 E,rfl⟩
  refine G2 6 [] [46] [0] E ?_;cases h314;exact Ce E ⟨_,rfl,fE E,sE [some 0] 1 E,rfl⟩
 rintro _ _ _ _ h _ ⟨v4,rfl,hF314,hS314,rfl⟩;refine Atn 1 hF314 hS314 E E ?_;refine Br h 42 E E (fun hc8 h=> ?_) (fun hc8 h=> ?_)
 ·refine G2 5 [42] [] [] E ?_;cases h;exact Rt [] E E (Ug [] 1 hR)
 refine G2 2 [] [42] [] E ?_;refine Cut h (fun f l o_ f_ μ_ l_=> ∃(v5:Bool),v5=o_∧Qg ((51,.bool v5)::[]) f_∧Qc (QS [] 1 l) l_∧μ=μ_) ?_ ?_
 ·intro _ h317 h;refine Dr _ QI.refl [(true,0),(true,1),(true,2),(true,3),(true,4),(true,5),(true,6),(true,7),(true,8),(true,9),(true,10)] (by kernel_rfl) (G1 4 [0] E ?_);refine Br h317 55 E E (fun hc9 h317=> ?_) (fun hc9 h317=> ?_)
  ·refine G2 8 [55] [] [] E ?_;cases h317;exact Ce E ⟨_,rfl,fE E,sE [] 1 E,rfl⟩
  refine G2 3 [] [55] [0] E (Rdo E E ?_);obtain ⟨_,hg1,h317⟩:=Qf h317;refine QfA E E E (JE hg1) (Q2 4 [] [55] [] E ?_);cases h317;exact Ce E ⟨_,rfl,fE E,sE [] 1 E,rfl⟩
 rintro _ _ _ _ h _ ⟨v5,rfl,hF317,hS317,rfl⟩;refine Atn 0 hF317 hS317 E E ?_;refine Br h 51 E E (fun hc10 h=> ?_) (fun hc10 h=> ?_)
 ·refine G2 5 [51] [] [] E ?_;cases h;exact Rt [] E E (Ug [] 0 hR)
 refine G2 7 [] [51] [] E ?_;cases h;exact Rt [] E E (Ug [] 0 hR)
theorem Qdd {F:Nat} {l1:(List Qo)} {nodes1:Int} {materials1:Int} {A1:Option Addr} {c1:Nat} {res1:Int}
  (hl1:l1.length≤c1∧c1≤maxLen) (hA1:Rds Qq μ L A1 l1) (h:JR F l1 nodes1 materials1=some res1)
  (hR:R (.int .i64 res1) μ (L)) :
  Fn Tryz.prog 41 [.slice A1 l1.length c1,.int .i64 nodes1,.int .i64 materials1] μ (L) R:=by
 unfold JR at h;refine FnS Tryz.func41 (by kernel_rfl) E Tryz.ntmps41 E E ?_;refine G0 6 E ?_;refine Cut h (fun f l o_ f_ μ_ l_=> ∃(v1:Bool),v1=o_∧Qg ((26,.bool v1)::Qm [0,1,2] f) f_∧Qc l l_∧μ=μ_) ?_ ?_
 ·intro _ h295 h;refine G0 4 E ?_;refine Br h295 15 E E (fun hc1 h295=> ?_) (fun hc1 h295=> ?_)
  ·refine G2 12 [15,19,23] [] [] E ?_;cases h295;exact Ce E ⟨_,rfl,fE E,sE [] 0 E,rfl⟩
  refine G2 4 [] [15] [] E ?_;refine Br h295 19 E E (fun hc2 h295=> ?_) (fun hc2 h295=> ?_)
  ·refine G2 8 [19,23] [] [] E ?_;cases h295;exact Ce E ⟨_,rfl,fE E,sE [] 0 E,rfl⟩
  refine G2 4 [] [19] [] E ?_;refine Br h295 23 E E (fun hc3 h295=> ?_) (fun hc3 h295=> ?_)
  ·refine G2 4 [23] [] [] E ?_;cases h295;exact Ce E ⟨_,rfl,fE E,sE [] 0 E,rfl⟩
  refine G2 4 [] [23] [] E ?_;cases h295;exact Ce E ⟨_,rfl,fE E,sE [] 0 E,rfl⟩
 rintro _ _ _ _ h _ ⟨v1,rfl,hF295,hS295,rfl⟩;refine Atn 0 hF295 hS295 E E ?_;refine Br h 26 E E (fun hc4 h=> ?_) (fun hc4 h=> ?_)
 ·refine G2 5 [26] [] [] E ?_;cases h;exact Rt [] E E (Ug [] 0 hR)
 refine G2 9 [] [26] [] E ?_;refine Br h 29 E E (fun hc5 h=> ?_) (fun hc5 h=> ?_)
 ·refine G2 5 [29] [] [] E ?_;cases h;exact Rt [] E E (Ug [] 0 hR)
 refine G2 9 [] [29] [] E ?_;refine Br h 32 E E (fun hc6 h=> ?_) (fun hc6 h=> ?_)
 ·refine G2 5 [32] [] [] E ?_;cases h;exact Rt [] E E (Ug [] 0 hR)
 refine G2 9 [] [32] [] E ?_;refine Cut h (fun f l o_ f_ μ_ l_=>(.inl ())=o_∧Qg (Qm [0] f) f_∧Qc l l_∧μ=μ_) ?_ ?_
 ·intro _ h296 h;refine Lp h296 (fun f l (v2:Int) f_ μ_ l_=>Qg ((35,.int .i64 v2)::Qm [0,1,2,33,34] f) f_∧Qc l l_∧μ=μ_) ⟨fE E,sE [] 0 E,E⟩ ?_;rintro v2 _ _ _ _ _ ⟨hF318,hS318,rfl⟩ hb318 hq318;unfold Z9 at hb318;refine Atn 0 hF318 hS318 E E (G0 5 E ?_);refine Br hb318 36 E E (fun hc7 hb318=> ?_) (fun hc7 hb318=> ?_)
  ·refine G2 6 [36] [] [] E (Ix hb318 hA1 E E fun _ _ _ _ hr1 hc8 _ hb318=> ?_);obtain rfl:=hr1;refine Q3 1 [] [] [64] (Z1 hc8) E (Al E fun _=>Q1 7 [0,0] E (Cl E ?_));obtain ⟨_,hx2,hb318⟩:=Qf hb318;refine Qde  hx2 ((Q0 7 E ?_));refine Br hb318 44 E E (fun hc9 hb318=> ?_) (fun hc9 hb318=> ?_)
   ·refine G2 6 [44] [] [] E ?_;cases hb318;have hq_:=hq318 _ E;subst hq_;replace h:=YE h;cases h;exact Rt [] E E (Ug [] 1 hR)
   refine G2 7 [] [44] [] E ?_;cases hb318;exact Ce E ⟨_,rfl,fE E,sE [] 1 E,rfl⟩
  refine G2 2 [] [36] [] E ?_;cases hb318;have hq_:=hq318 _ E;subst hq_;exact Ce E ⟨rfl,fE E,sE [] 0 E,rfl⟩
 rintro _ _ _ _ h _ ⟨rfl,hF296,hS296,rfl⟩;replace h:=Zc h;refine Atn 0 hF296 hS296 E E (G0 2 E (So E (QhI (fun g2=>Q0 9 E ?_))));refine Cut h (fun f l o_ f_ μ_ l_=>(.inl ())=o_∧Qg ([]) f_∧Qc (QS [] 1 l) l_∧μ=μ_) ?_ ?_
 ·intro _ h322 h;refine Lp h322 (fun f l (j_:(List (ByteArray×Bool))×Int) f_ μ_ l_=>JT j_ fun m1 v3=> ∃(es1:Array MapEntry) (cn1:Nat),Qg ((50,.int .i64 v3)::Qm [10,48,49] f) f_∧Qc ([(g2,.map es1 cn1)]::QS [] 1 l) l_∧Qcs Value.bool es1 cn1 m1∧μ=μ_) ⟨#[],0,fE E,sE [some 0] 1 E,((Qcs.nil (enc:=Value.bool))),E⟩ ?_;rintro ⟨m1,v3⟩ _ _ _ _ _ ⟨es1,cn1,hF327,hS327,hM1,rfl⟩ hb327 hq327;unfold Ja at hb327;replace hb327:=Qh hb327;refine Atn 1 hF327 hS327 E E (G0 5 E ?_);refine Br hb327 51 E E (fun hc10 hb327=> ?_) (fun hc10 hb327=> ?_)
  ·refine G2 6 [51] [] [] E (Ix hb327 hA1 E E fun _ _ _ _ hr2 hc11 _ hb327=> ?_);obtain rfl:=hr2;refine Q3 1 [] [] [64] (Z1 (hc11.push)) E (Al E fun _=>Q1 8 [0,0] E (Rdo E E (QjT (zb:=false) QU E E E E E E E E (Wf.seg 1 0 E E) hM1 (Q0 1 E ?_))));refine Br hb327 57 E E (fun hc12 hb327=> ?_) (fun hc12 hb327=> ?_)
   ·refine G2 5 [57] [] [] E ?_;cases hb327;have hq_:=hq327 _ E;subst hq_;replace h:=YE h;cases h;exact Rt [] E E (Ug [] 2 hR)
   refine G2 6 [] [57] [0] E (So E (Qdi E E E (QhB QU E E E E 1 (b:=true) E hM1 E fun es2 cn2 hM2=>Q0 6 E ?_)));cases hb327;exact Ce E ⟨_,rfl,es2,cn2,fE E,sE [some 1] 2 E,(hM2),rfl⟩
  refine G2 2 [] [51] [] E ?_;cases hb327;have hq_:=hq327 _ E;subst hq_;exact Ce E ⟨rfl,fE E,sE [] 1 E,rfl⟩
 rintro _ _ _ _ h _ ⟨rfl,hF322,hS322,rfl⟩;replace h:=Zc h;refine Atn 0 hF322 hS322 E E (G0 4 E ?_);cases h;exact Rt [] E E (Ug [] 0 hR)
theorem W3  {n1:Int} {low1:Int} {high1:Int}  {res1:Bool}
   (h:Jn n1 low1 high1=some res1)
  (hR:R (.bool res1) μ (L)) :
  Fn Tryz.prog 81 [.int .i64 n1,.int .i64 low1,.int .i64 high1] μ (L) R:=by
 unfold Jn at h;refine FnS Tryz.func81 (by kernel_rfl) E Tryz.ntmps81 E E ?_;refine G0 5 E ?_;refine Cut h (fun f l o_ f_ μ_ l_=> ∃(v1:Bool),v1=o_∧Qg ((6,.bool v1)::[]) f_∧Qc l l_∧μ=μ_) ?_ ?_
 ·intro _ h340 h;refine G0 5 E ?_;refine Br h340 10 E E (fun hc1 h340=> ?_) (fun hc1 h340=> ?_)
  ·refine G2 6 [10] [] [] E ?_;cases h340;exact Ce E ⟨_,rfl,fE E,sE [] 0 E,rfl⟩
  refine G2 6 [] [10] [] E ?_;cases h340;exact Ce E ⟨_,rfl,fE E,sE [] 0 E,rfl⟩
 rintro _ _ _ _ h _ ⟨v1,rfl,hF340,hS340,rfl⟩;refine Atn 0 hF340 hS340 E E ?_;cases h;exact Rt [] E E (Ug [] 0 hR)
theorem QeQ  {x1:Qn} {nodes1:Int} {materials1:Int}  {res1:Int}
   (h:QaI x1 nodes1 materials1=some res1)
  (hR:R (.int .i64 res1) μ (L)) :
  Fn Tryz.prog 62 [.agg #[.int .i64 x1.Container,.int .i64 x1.Node,.int .i64 x1.Kind,.int .i64 x1.Grams,.int .i64 x1.When.From,.int .i64 x1.When.To,.int .i64 x1.Service],.int .i64 nodes1,.int .i64 materials1] μ (L) R:=by
 unfold QaI at h;refine FnS Tryz.func62 (by kernel_rfl) E Tryz.ntmps62 E E ?_;refine G0 2 E (Al E fun _=>Q0 5 E ?_);refine Cut h (fun f l o_ f_ μ_ l_=> ∃(v1:Bool),v1=o_∧Qg ((7,.bool v1)::Qm [3] f) f_∧Qc l l_∧μ=μ_) ?_ ?_
 ·intro _ h339 h;refine G1 3 [0] E (Cl E ?_);obtain ⟨_,hx1,h339⟩:=Qf h339;refine W3  hx1 ((Q0 2 E ?_));refine Br h339 12 E E (fun hc1 h339=> ?_) (fun hc1 h339=> ?_)
  ·refine G2 23 [12,17,23,28] [] [] E ?_;cases h339;exact Ce E ⟨_,rfl,fE E,sE [some 0] 1 E,rfl⟩
  refine G2 5 [] [12] [0] E ?_;refine Br h339 17 E E (fun hc2 h339=> ?_) (fun hc2 h339=> ?_)
  ·refine G2 18 [17,23,28] [] [] E ?_;cases h339;exact Ce E ⟨_,rfl,fE E,sE [some 0] 1 E,rfl⟩
  refine G2 6 [] [17] [0] E ?_;refine Br h339 23 E E (fun hc3 h339=> ?_) (fun hc3 h339=> ?_)
  ·refine G2 12 [23,28] [] [] E ?_;cases h339;exact Ce E ⟨_,rfl,fE E,sE [some 0] 1 E,rfl⟩
  refine G2 5 [] [23] [0] E ?_;refine Br h339 28 E E (fun hc4 h339=> ?_) (fun hc4 h339=> ?_)
  ·refine G2 7 [28] [] [] E ?_;cases h339;exact Ce E ⟨_,rfl,fE E,sE [some 0] 1 E,rfl⟩
  refine G2 7 [] [28] [0] E ?_;cases h339;exact Ce E ⟨_,rfl,fE E,sE [some 0] 1 E,rfl⟩
 rintro _ _ _ _ h _ ⟨v1,rfl,hF339,hS339,rfl⟩;refine Atn 1 hF339 hS339 E E ?_;refine Br h 7 E E (fun hc5 h=> ?_) (fun hc5 h=> ?_)
 ·refine G2 5 [7] [] [] E ?_;cases h;exact Rt [] E E (Ug [] 1 hR)
 refine G2 2 [] [7] [] E ?_;refine Cut h (fun f l o_ f_ μ_ l_=> ∃(v2:Bool),v2=o_∧Qg ((34,.bool v2)::[]) f_∧Qc (QS [] 1 l) l_∧μ=μ_) ?_ ?_
 ·intro _ h343 h;refine G1 3 [0] E (Cl E ?_);obtain ⟨_,hx2,h343⟩:=Qf h343;refine W3  hx2 ((Q0 2 E ?_));refine Br h343 39 E E (fun hc6 h343=> ?_) (fun hc6 h343=> ?_)
  ·refine G2 28 [39,45,54,60] [] [] E ?_;cases h343;exact Ce E ⟨_,rfl,fE E,sE [] 1 E,rfl⟩
  refine G2 6 [] [39] [0] E ?_;refine Br h343 45 E E (fun hc7 h343=> ?_) (fun hc7 h343=> ?_)
  ·refine G2 22 [45,54,60] [] [] E ?_;cases h343;exact Ce E ⟨_,rfl,fE E,sE [] 1 E,rfl⟩
  refine G2 9 [] [45] [0,0] E ?_;refine Br h343 54 E E (fun hc8 h343=> ?_) (fun hc8 h343=> ?_)
  ·refine G2 13 [54,60] [] [] E ?_;cases h343;exact Ce E ⟨_,rfl,fE E,sE [] 1 E,rfl⟩
  refine G2 6 [] [54] [0] E ?_;refine Br h343 60 E E (fun hc9 h343=> ?_) (fun hc9 h343=> ?_)
  ·refine G2 7 [60] [] [] E ?_;cases h343;exact Ce E ⟨_,rfl,fE E,sE [] 1 E,rfl⟩
  refine G2 2 [] [60] [0] E (Cl E ?_);obtain ⟨_,hx3,h343⟩:=Qf h343;refine W3  hx3 ((Q2 4 [] [60] [] E ?_));cases h343;exact Ce E ⟨_,rfl,fE E,sE [] 1 E,rfl⟩
 rintro _ _ _ _ h _ ⟨v2,rfl,hF343,hS343,rfl⟩;refine Atn 0 hF343 hS343 E E ?_;refine Br h 34 E E (fun hc10 h=> ?_) (fun hc10 h=> ?_)
 ·refine G2 5 [34] [] [] E ?_;cases h;exact Rt [] E E (Ug [] 0 hR)
 refine G2 7 [] [34] [] E ?_;cases h;exact Rt [] E E (Ug [] 0 hR)
theorem QcA  {y1:Qn} {b1:Qn} {g1:Nat} {res1:Bool}
   (h:WL y1 b1=some res1)
  (hR:R (.bool res1) μ ([(g1,.cells #[.int .i64 b1.Container,.int .i64 b1.Node,.int .i64 b1.Kind,.int .i64 b1.Grams,.int .i64 b1.When.From,.int .i64 b1.When.To,.int .i64 b1.Service] 65 (0,0))]::L)) :
  Fn Tryz.prog 64 [.agg #[.int .i64 y1.Container,.int .i64 y1.Node,.int .i64 y1.Kind,.int .i64 y1.Grams,.int .i64 y1.When.From,.int .i64 y1.When.To,.int .i64 y1.Service],.pointer (some ⟨g1,0,none⟩)] μ ([(g1,.cells #[.int .i64 b1.Container,.int .i64 b1.Node,.int .i64 b1.Kind,.int .i64 b1.Grams,.int .i64 b1.When.From,.int .i64 b1.When.To,.int .i64 b1.Service] 65 (0,0))]::L) R:=by
 unfold WL at h;refine FnS Tryz.func64 (by kernel_rfl) E Tryz.ntmps64 E E ?_;refine G0 2 E (Al E fun _=>Q1 11 [0,1] E ?_);cases h;exact Rt [] E E (Ug [[1]] 2 hR)
theorem W9  {s1:(List Qn)} {b1:Qn} {A1:Option Addr} {c1:Nat} {g1:Nat} {res1:Int}
  (hl1:s1.length≤c1∧c1≤maxLen) (hA1:Rds Qr μ L A1 s1) (h:Zn s1 b1=some res1)
  (hR:R (.int .i64 res1) μ ([(g1,.cells #[.int .i64 b1.Container,.int .i64 b1.Node,.int .i64 b1.Kind,.int .i64 b1.Grams,.int .i64 b1.When.From,.int .i64 b1.When.To,.int .i64 b1.Service] 65 (0,0))]::L)) :
  Fn Tryz.prog 82 [.slice A1 s1.length c1,.func (.func 64) #[] #[.pointer (some ⟨g1,0,none⟩)]] μ ([(g1,.cells #[.int .i64 b1.Container,.int .i64 b1.Node,.int .i64 b1.Kind,.int .i64 b1.Grams,.int .i64 b1.When.From,.int .i64 b1.When.To,.int .i64 b1.Service] 65 (0,0))]::L) R:=by
 unfold Zn at h;refine FnS Tryz.func82 (by kernel_rfl) E Tryz.ntmps82 E E ?_;refine G0 11 E ?_;refine Cut h (fun f l o_ f_ μ_ l_=>(.inl ())=o_∧Qg ([]) f_∧Qc l l_∧μ=μ_) ?_ ?_
 ·intro _ h356 h;refine Lp h356 (fun f l (v1:Int) f_ μ_ l_=>Qg ((8,.int .i64 v1)::Qm [0,1,7] f) f_∧Qc l l_∧μ=μ_) ⟨fE E,sE [some 0] 1 E,E⟩ ?_;rintro v1 _ _ _ _ _ ⟨hF364,hS364,rfl⟩ hb364 hq364;unfold Yo at hb364;refine Atn 1 hF364 hS364 E E (G0 5 E ?_);refine Br hb364 9 E E (fun hc1 hb364=> ?_) (fun hc1 hb364=> ?_)
  ·refine G2 14 [9] [] [] E (Ix hb364 hA1 E E fun _ _ _ _ hr1 hc2 _ hb364=> ?_);obtain rfl:=hr1;refine Q3 1 [] [] [64] (Z1 (hc2.push)) E (Cl E ?_);obtain ⟨_,hx2,hb364⟩:=Qf hb364;refine QcA  hx2 ((Q0 1 E ?_));refine Br hb364 16 E E (fun hc3 hb364=> ?_) (fun hc3 hb364=> ?_)
   ·refine G2 6 [16] [] [] E ?_;cases hb364;have hq_:=hq364 _ E;subst hq_;replace h:=YE h;cases h;exact Rt [] E E (Ug [[0]] 1 hR)
   refine G2 7 [] [16] [] E ?_;cases hb364;exact Ce E ⟨_,rfl,fE E,sE [some 0] 1 E,rfl⟩
  refine G2 2 [] [9] [] E ?_;cases hb364;have hq_:=hq364 _ E;subst hq_;exact Ce E ⟨rfl,fE E,sE [some 0] 1 E,rfl⟩
 rintro _ _ _ _ h _ ⟨rfl,hF356,hS356,rfl⟩;replace h:=Zc h;refine Atn 1 hF356 hS356 E E (G0 4 E ?_);cases h;exact Rt [] E E (Ug [[0]] 1 hR)
theorem WF  {s1:(List Qn)} {b1:Qn} {A1:Option Addr} {c1:Nat} {g1:Nat} {res1:Bool}
  (hl1:s1.length≤c1∧c1≤maxLen) (hA1:Rds Qr μ L A1 s1) (h:Yn s1 b1=some res1)
  (hR:R (.bool res1) μ ([(g1,.cells #[.int .i64 b1.Container,.int .i64 b1.Node,.int .i64 b1.Kind,.int .i64 b1.Grams,.int .i64 b1.When.From,.int .i64 b1.When.To,.int .i64 b1.Service] 65 (0,0))]::L)) :
  Fn Tryz.prog 63 [.slice A1 s1.length c1,.func (.func 64) #[] #[.pointer (some ⟨g1,0,none⟩)]] μ ([(g1,.cells #[.int .i64 b1.Container,.int .i64 b1.Node,.int .i64 b1.Kind,.int .i64 b1.Grams,.int .i64 b1.When.From,.int .i64 b1.When.To,.int .i64 b1.Service] 65 (0,0))]::L) R:=by
 unfold Yn at h;refine FnS Tryz.func63 (by kernel_rfl) E Tryz.ntmps63 E E ?_;refine G0 8 E (Cl E ?_);obtain ⟨_,hx1,h⟩:=Qf h;refine W9 hl1 hA1 hx1 ((Q0 3 E ?_));cases h;exact Rt [] E E (Ug [[0]] 1 hR)
theorem QdE  {l1:(List Qn)} {nodes1:Int} {materials1:Int} {A1:Option Addr} {c1:Nat} {res1:Int}
  (hl1:l1.length≤c1∧c1≤maxLen) (hA1:Rds Qr μ L A1 l1) (h:WK l1 nodes1 materials1=some res1)
  (hR:R (.int .i64 res1) μ (L)) :
  Fn Tryz.prog 42 [.slice A1 l1.length c1,.int .i64 nodes1,.int .i64 materials1] μ (L) R:=by
 unfold WK at h;refine FnS Tryz.func42 (by kernel_rfl) E Tryz.ntmps42 E E ?_;refine G0 11 E ?_;refine Br h 14 E E (fun hc1 h=> ?_) (fun hc1 h=> ?_)
 ·refine G2 5 [14] [] [] E ?_;cases h;exact Rt [] E E (Ug [] 0 hR)
 refine G2 9 [] [14] [] E ?_;refine Cut h (fun f l o_ f_ μ_ l_=>(.inl ())=o_∧Qg (Qm [0] f) f_∧Qc l l_∧μ=μ_) ?_ ?_
 ·intro _ h334 h;refine Lp h334 (fun f l (v1:Int) f_ μ_ l_=>Qg ((17,.int .i64 v1)::Qm [0,1,2,15,16] f) f_∧Qc l l_∧μ=μ_) ⟨fE E,sE [] 0 E,E⟩ ?_;rintro v1 _ _ _ _ _ ⟨hF344,hS344,rfl⟩ hb344 hq344;unfold Ws at hb344;refine Atn 0 hF344 hS344 E E (G0 5 E ?_);refine Br hb344 18 E E (fun hc2 hb344=> ?_) (fun hc2 hb344=> ?_)
  ·refine G2 6 [18] [] [] E (Ix hb344 hA1 E E fun _ _ _ _ hr1 hc3 _ hb344=> ?_);obtain rfl:=hr1;refine Q3 1 [] [] [64] (Z1 hc3) E (Al E fun _=>Q1 7 [0,0] E (Cl E ?_));obtain ⟨_,hx2,hb344⟩:=Qf hb344;refine QeQ  hx2 ((Q0 7 E ?_));refine Br hb344 26 E E (fun hc4 hb344=> ?_) (fun hc4 hb344=> ?_)
   ·refine G2 6 [26] [] [] E ?_;cases hb344;have hq_:=hq344 _ E;subst hq_;replace h:=YE h;cases h;exact Rt [] E E (Ug [] 1 hR)
   refine G2 7 [] [26] [] E ?_;cases hb344;exact Ce E ⟨_,rfl,fE E,sE [] 1 E,rfl⟩
  refine G2 2 [] [18] [] E ?_;cases hb344;have hq_:=hq344 _ E;subst hq_;exact Ce E ⟨rfl,fE E,sE [] 0 E,rfl⟩
 rintro _ _ _ _ h _ ⟨rfl,hF334,hS334,rfl⟩;replace h:=Zc h;refine Atn 0 hF334 hS334 E E (G0 7 E ?_);refine Cut h (fun f l o_ f_ μ_ l_=>(.inl ())=o_∧Qg ([]) f_∧Qc l l_∧μ=μ_) ?_ ?_
 ·intro _ h347 h;refine Lp h347 (fun f l (v2:Int) f_ μ_ l_=>Qg ((31,.int .i64 v2)::Qm [0,29,30] f) f_∧Qc l l_∧μ=μ_) ⟨fE E,sE [] 0 E,E⟩ ?_;rintro v2 _ _ _ _ _ ⟨hF373,hS373,rfl⟩ hb373 hq373;unfold JL at hb373;refine Atn 0 hF373 hS373 E E (G0 5 E ?_);refine Br hb373 32 E E (fun hc5 hb373=> ?_) (fun hc5 hb373=> ?_)
  ·refine G2 7 [32] [] [] E (Ix hb373 hA1 E E fun _ _ _ _ hr2 hc6 _ hb373=> ?_);obtain rfl:=hr2;refine Q3 1 [] [] [64] (Z1 hc6) E (Al E fun _=> ?_);obtain ⟨_,hs1,hb373⟩:=Qf hb373;refine Q1 7 [0] E (Rdo E E (QaE E E E E E E hl1.1 hs1 ?_));have hA4:=Rds.pre hA1 hs1;have hl2:=Qbu hl1 hs1;refine Q0 1 E (Cl E ?_);obtain ⟨_,hx4,hb373⟩:=Qf hb373;refine WF hl2 hA4 hx4 ((Q0 1 E ?_));refine Br hb373 40 E E (fun hc7 hb373=> ?_) (fun hc7 hb373=> ?_)
   ·refine G2 5 [40] [] [] E ?_;cases hb373;have hq_:=hq373 _ E;subst hq_;replace h:=YE h;cases h;exact Rt [] E E (Ug [] 1 hR)
   refine G2 7 [] [40] [] E ?_;cases hb373;exact Ce E ⟨_,rfl,fE E,sE [] 1 E,rfl⟩
  refine G2 2 [] [32] [] E ?_;cases hb373;have hq_:=hq373 _ E;subst hq_;exact Ce E ⟨rfl,fE E,sE [] 0 E,rfl⟩
 rintro _ _ _ _ h _ ⟨rfl,hF347,hS347,rfl⟩;replace h:=Zc h;refine Atn 0 hF347 hS347 E E (G0 4 E ?_);cases h;exact Rt [] E E (Ug [] 0 hR)
theorem Qb6 {F:Nat} {p1:Qb} {A1:Option Addr} {c1:Nat} {A2:Option Addr} {c2:Nat} {A3:Option Addr} {c3:Nat} {res1:Int}
  (hl1:p1.Road.Edges.length≤c1∧c1≤maxLen) (hA1:Qj Qv μ A1 p1.Road.Edges) (hl2:p1.Vehicles.length≤c2∧c2≤maxLen) (hA2:Qj Qq μ A2 p1.Vehicles) (hl3:p1.Demands.length≤c3∧c3≤maxLen) (hA3:Qj Qr μ A3 p1.Demands) (h:Vc F p1=some res1)
  (hR: ∀(μ':Gh) ,μ.le μ'→R (.int .i64 res1) μ' (L)) :
  Fn Tryz.prog 25 [.agg #[.int .i64 p1.Road.Nodes,.slice A1 p1.Road.Edges.length c1,.slice A2 p1.Vehicles.length c2,.slice A3 p1.Demands.length c3,.int .i64 p1.Unload,.int .i64 p1.UnloadSecs]] μ (L) R:=by
 unfold Vc at h;refine FnS Tryz.func25 (by kernel_rfl) E Tryz.ntmps25 E E ?_;refine G0 2 E (Al E fun _=>Q1 7 [0] E (Cl E ?_));obtain ⟨_,hx1,h⟩:=Qf h;refine Qb2 hl1 hA1 hx1 (fun _ hm_1=> ?_);replace hA2:=hA2.mono hm_1;replace hA3:=hA3.mono hm_1;refine Q0 7 E ?_;refine Br h 10 E E (fun hc1 h=> ?_) (fun hc1 h=> ?_)
 ·refine G2 6 [10] [] [] E ?_;cases h;exact Rt [] E E (Ug [] 1 (hR _ hm_1))
 refine G2 10 [] [10] [0,0] E (Cl E ?_);obtain ⟨_,hx2,h⟩:=Qf h;refine Qdd hl2 (Qj.rds hA2 _) hx2 ((Q0 7 E ?_));refine Br h 19 E E (fun hc2 h=> ?_) (fun hc2 h=> ?_)
 ·refine G2 6 [19] [] [] E ?_;cases h;exact Rt [] E E (Ug [] 1 (hR _ hm_1))
 refine G2 10 [] [19] [0,0] E (Cl E ?_);obtain ⟨_,hx3,h⟩:=Qf h;refine QdE hl3 (Qj.rds hA3 _) hx3 ((Q0 7 E ?_));refine Br h 28 E E (fun hc3 h=> ?_) (fun hc3 h=> ?_)
 ·refine G2 6 [28] [] [] E ?_;cases h;exact Rt [] E E (Ug [] 1 (hR _ hm_1))
 refine G2 5 [] [28] [] E ?_;refine Cut h (fun f l o_ f_ μ_ l_=> ∃(v2:Bool),v2=o_∧Qg ((30,.bool v2)::Qm [1] f) f_∧Qc l l_) ?_ ?_
 ·intro _ h386 h;refine G1 5 [0] E ?_;refine Br h386 34 E E (fun hc4 h386=> ?_) (fun hc4 h386=> ?_)
  ·refine G2 9 [34] [] [] E ?_;cases h386;exact Ce E ⟨_,rfl,fE E,sE [some 0] 1 E⟩
  refine G2 9 [] [34] [0,0] E ?_;cases h386;exact Ce E ⟨_,rfl,fE E,sE [some 0] 1 E⟩
 rintro _ _ _ _ h hm386 ⟨v2,rfl,hF386,hS386⟩;refine Atn 1 hF386 hS386 E E ?_;refine Br h 30 E E (fun hc5 h=> ?_) (fun hc5 h=> ?_)
 ·refine G2 5 [30] [] [] E ?_;cases h;exact Rt [] E E (Ug [] 1 (hR _ (hm_1.trans hm386)))
 refine G2 2 [] [30] [] E ?_;refine Cut h (fun f l o_ f_ μ_ l_=> ∃(v3:Bool),v3=o_∧Qg ((42,.bool v3)::[]) f_∧Qc (QS [] 1 l) l_) ?_ ?_
 ·intro _ h389 h;refine G1 5 [0] E ?_;refine Br h389 46 E E (fun hc6 h389=> ?_) (fun hc6 h389=> ?_)
  ·refine G2 6 [46] [] [] E ?_;cases h389;exact Ce E ⟨_,rfl,fE E,sE [] 1 E⟩
  refine G2 6 [] [46] [0] E ?_;cases h389;exact Ce E ⟨_,rfl,fE E,sE [] 1 E⟩
 rintro _ _ _ _ h hm389 ⟨v3,rfl,hF389,hS389⟩;refine Atn 0 hF389 hS389 E E ?_;refine Br h 42 E E (fun hc7 h=> ?_) (fun hc7 h=> ?_)
 ·refine G2 5 [42] [] [] E ?_;cases h;exact Rt [] E E (Ug [] 0 (hR _ (hm_1.trans (hm386.trans hm389))))
 refine G2 7 [] [42] [] E ?_;cases h;exact Rt [] E E (Ug [] 0 (hR _ (hm_1.trans (hm386.trans hm389))))
theorem Qc2  {d1:Int} {b1:Qb} {g1:Nat} {A1:Option Addr} {c1:Nat} {A2:Option Addr} {c2:Nat} {A3:Option Addr} {c3:Nat} {res1:Bool}
  (hl1:b1.Road.Edges.length≤c1∧c1≤maxLen) (hA1:Qj Qv μ A1 b1.Road.Edges) (hl2:b1.Vehicles.length≤c2∧c2≤maxLen) (hA2:Qj Qq μ A2 b1.Vehicles) (hl3:b1.Demands.length≤c3∧c3≤maxLen) (hA3:Qj Qr μ A3 b1.Demands) (h:Vf d1 b1=some res1)
  (hR:R (.bool res1) μ ([(g1,.cells #[.int .i64 b1.Road.Nodes,.slice A1 b1.Road.Edges.length c1,.slice A2 b1.Vehicles.length c2,.slice A3 b1.Demands.length c3,.int .i64 b1.Unload,.int .i64 b1.UnloadSecs] 28 (0,0))]::L)) :
  Fn Tryz.prog 27 [.int .i64 d1,.pointer (some ⟨g1,0,none⟩)] μ ([(g1,.cells #[.int .i64 b1.Road.Nodes,.slice A1 b1.Road.Edges.length c1,.slice A2 b1.Vehicles.length c2,.slice A3 b1.Demands.length c3,.int .i64 b1.Unload,.int .i64 b1.UnloadSecs] 28 (0,0))]::L) R:=by
 unfold Vf at h;refine FnS Tryz.func27 (by kernel_rfl) E Tryz.ntmps27 E E ?_;refine G0 5 E ?_;refine Cut h (fun f l o_ f_ μ_ l_=> ∃(v1:Bool),v1=o_∧Qg ((3,.bool v1)::[]) f_∧Qc l l_∧μ=μ_) ?_ ?_
 ·intro _ h412 h;refine G0 4 E ?_;refine Br h412 6 E E (fun hc1 h412=> ?_) (fun hc1 h412=> ?_)
  ·refine G2 8 [6] [] [] E ?_;cases h412;exact Ce E ⟨_,rfl,fE E,sE [some 0] 1 E,rfl⟩
  refine G2 8 [] [6] [0] E ?_;cases h412;exact Ce E ⟨_,rfl,fE E,sE [some 0] 1 E,rfl⟩
 rintro _ _ _ _ h _ ⟨v1,rfl,hF412,hS412,rfl⟩;refine Atn 1 hF412 hS412 E E ?_;cases h;exact Rt [] E E (Ug [[0]] 1 hR)
theorem VA  {s1:(List Int)} {b1:Qb} {A1:Option Addr} {c1:Nat} {g1:Nat} {A2:Option Addr} {c2:Nat} {A3:Option Addr} {c3:Nat} {A4:Option Addr} {c4:Nat} {res1:Int}
  (hl1:s1.length≤c1∧c1≤maxLen) (hA1:Rds QD μ L A1 s1) (hl2:b1.Road.Edges.length≤c2∧c2≤maxLen) (hA2:Qj Qv μ A2 b1.Road.Edges) (hl3:b1.Vehicles.length≤c3∧c3≤maxLen) (hA3:Qj Qq μ A3 b1.Vehicles) (hl4:b1.Demands.length≤c4∧c4≤maxLen) (hA4:Qj Qr μ A4 b1.Demands) (h:ZQ s1 b1=some res1)
  (hR:R (.int .i64 res1) μ ([(g1,.cells #[.int .i64 b1.Road.Nodes,.slice A2 b1.Road.Edges.length c2,.slice A3 b1.Vehicles.length c3,.slice A4 b1.Demands.length c4,.int .i64 b1.Unload,.int .i64 b1.UnloadSecs] 28 (0,0))]::L)) :
  Fn Tryz.prog 43 [.slice A1 s1.length c1,.func (.func 27) #[] #[.pointer (some ⟨g1,0,none⟩)]] μ ([(g1,.cells #[.int .i64 b1.Road.Nodes,.slice A2 b1.Road.Edges.length c2,.slice A3 b1.Vehicles.length c3,.slice A4 b1.Demands.length c4,.int .i64 b1.Unload,.int .i64 b1.UnloadSecs] 28 (0,0))]::L) R:=by
 unfold ZQ at h;refine FnS Tryz.func43 (by kernel_rfl) E Tryz.ntmps43 E E ?_;refine G0 11 E ?_;refine Cut h (fun f l o_ f_ μ_ l_=>(.inl ())=o_∧Qg ([]) f_∧Qc l l_∧μ=μ_) ?_ ?_
 ·intro _ h403 h;refine Lp h403 (fun f l (v1:Int) f_ μ_ l_=>Qg ((8,.int .i64 v1)::Qm [0,1,7] f) f_∧Qc l l_∧μ=μ_) ⟨fE E,sE [some 0] 1 E,E⟩ ?_;rintro v1 _ _ _ _ _ ⟨hF416,hS416,rfl⟩ hb416 hq416;unfold YI at hb416;refine Atn 1 hF416 hS416 E E (G0 5 E ?_);refine Br hb416 9 E E (fun hc1 hb416=> ?_) (fun hc1 hb416=> ?_)
  ·refine G2 14 [9] [] [] E (Ix hb416 hA1 E E fun _ _ _ _ hr1 hc2 _ hb416=> ?_);obtain rfl:=hr1;refine Q3 1 [] [] [64] (Z1 (hc2.push)) E (Cl E ?_);obtain ⟨_,hx2,hb416⟩:=Qf hb416;refine Qc2 hl2 hA2 hl3 hA3 hl4 hA4 hx2 ((Q0 1 E ?_));refine Br hb416 16 E E (fun hc3 hb416=> ?_) (fun hc3 hb416=> ?_)
   ·refine G2 6 [16] [] [] E ?_;cases hb416;have hq_:=hq416 _ E;subst hq_;replace h:=YE h;cases h;exact Rt [] E E (Ug [[0]] 1 hR)
   refine G2 7 [] [16] [] E ?_;cases hb416;exact Ce E ⟨_,rfl,fE E,sE [some 0] 1 E,rfl⟩
  refine G2 2 [] [9] [] E ?_;cases hb416;have hq_:=hq416 _ E;subst hq_;exact Ce E ⟨rfl,fE E,sE [some 0] 1 E,rfl⟩
 rintro _ _ _ _ h _ ⟨rfl,hF403,hS403,rfl⟩;replace h:=Zc h;refine Atn 1 hF403 hS403 E E (G0 4 E ?_);cases h;exact Rt [] E E (Ug [[0]] 1 hR)
theorem W8  {s1:(List Int)} {b1:Qb} {A1:Option Addr} {c1:Nat} {g1:Nat} {A2:Option Addr} {c2:Nat} {A3:Option Addr} {c3:Nat} {A4:Option Addr} {c4:Nat} {res1:Bool}
  (hl1:s1.length≤c1∧c1≤maxLen) (hA1:Rds QD μ L A1 s1) (hl2:b1.Road.Edges.length≤c2∧c2≤maxLen) (hA2:Qj Qv μ A2 b1.Road.Edges) (hl3:b1.Vehicles.length≤c3∧c3≤maxLen) (hA3:Qj Qq μ A3 b1.Vehicles) (hl4:b1.Demands.length≤c4∧c4≤maxLen) (hA4:Qj Qr μ A4 b1.Demands) (h:YH s1 b1=some res1)
  (hR:R (.bool res1) μ ([(g1,.cells #[.int .i64 b1.Road.Nodes,.slice A2 b1.Road.Edges.length c2,.slice A3 b1.Vehicles.length c3,.slice A4 b1.Demands.length c4,.int .i64 b1.Unload,.int .i64 b1.UnloadSecs] 28 (0,0))]::L)) :
  Fn Tryz.prog 26 [.slice A1 s1.length c1,.func (.func 27) #[] #[.pointer (some ⟨g1,0,none⟩)]] μ ([(g1,.cells #[.int .i64 b1.Road.Nodes,.slice A2 b1.Road.Edges.length c2,.slice A3 b1.Vehicles.length c3,.slice A4 b1.Demands.length c4,.int .i64 b1.Unload,.int .i64 b1.UnloadSecs] 28 (0,0))]::L) R:=by
 unfold YH at h;refine FnS Tryz.func26 (by kernel_rfl) E Tryz.ntmps26 E E ?_;refine G0 8 E (Cl E ?_);obtain ⟨_,hx1,h⟩:=Qf h;refine VA hl1 hA1 hl2 hA2 hl3 hA3 hl4 hA4 hx1 ((Q0 3 E ?_));cases h;exact Rt [] E E (Ug [[0]] 1 hR)
theorem QbV  {s1:(List Int)} {v1:Int} {A1:Option Addr} {c1:Nat} {res1:Int}
  (hl1:s1.length≤c1∧c1≤maxLen) (hA1:Rds QD μ L A1 s1) (h:We s1 v1=some res1)
  (hR:R (.int .i64 res1) μ (L)) :
  Fn Tryz.prog 44 [.slice A1 s1.length c1,.int .i64 v1] μ (L) R:=by
 unfold We at h;refine FnS Tryz.func44 (by kernel_rfl) E Tryz.ntmps44 E E ?_;refine G0 11 E ?_;refine Cut h (fun f l o_ f_ μ_ l_=>(.inl ())=o_∧Qg ([]) f_∧Qc l l_∧μ=μ_) ?_ ?_
 ·intro _ h431 h;refine Lp h431 (fun f l (v2:Int) f_ μ_ l_=>Qg ((8,.int .i64 v2)::Qm [0,1,7] f) f_∧Qc l l_∧μ=μ_) ⟨fE E,sE [] 0 E,E⟩ ?_;rintro v2 _ _ _ _ _ ⟨hF433,hS433,rfl⟩ hb433 hq433;unfold ZZ at hb433;refine Atn 0 hF433 hS433 E E (G0 5 E ?_);refine Br hb433 9 E E (fun hc1 hb433=> ?_) (fun hc1 hb433=> ?_)
  ·refine G2 14 [9] [] [] E (Ix hb433 hA1 E E fun _ _ _ _ hr1 hc2 _ hb433=> ?_);obtain rfl:=hr1;refine Q3 3 [] [] [64] (Z1 hc2) E ?_;refine Br hb433 16 E E (fun hc3 hb433=> ?_) (fun hc3 hb433=> ?_)
   ·refine G2 6 [16] [] [] E ?_;cases hb433;have hq_:=hq433 _ E;subst hq_;replace h:=YE h;cases h;exact Rt [] E E (Ug [] 0 hR)
   refine G2 7 [] [16] [] E ?_;cases hb433;exact Ce E ⟨_,rfl,fE E,sE [] 0 E,rfl⟩
  refine G2 2 [] [9] [] E ?_;cases hb433;have hq_:=hq433 _ E;subst hq_;exact Ce E ⟨rfl,fE E,sE [] 0 E,rfl⟩
 rintro _ _ _ _ h _ ⟨rfl,hF431,hS431,rfl⟩;replace h:=Zc h;refine Atn 0 hF431 hS431 E E (G0 4 E ?_);cases h;exact Rt [] E E (Ug [] 0 hR)
theorem WT  {s1:(List Int)} {v1:Int} {A1:Option Addr} {c1:Nat} {res1:Bool}
  (hl1:s1.length≤c1∧c1≤maxLen) (hA1:Rds QD μ L A1 s1) (h:Y0 s1 v1=some res1)
  (hR:R (.bool res1) μ (L)) :
  Fn Tryz.prog 28 [.slice A1 s1.length c1,.int .i64 v1] μ (L) R:=by
 unfold Y0 at h;refine FnS Tryz.func28 (by kernel_rfl) E Tryz.ntmps28 E E ?_;refine G0 8 E (Cl E ?_);obtain ⟨_,hx1,h⟩:=Qf h;refine QbV hl1 hA1 hx1 ((Q0 3 E ?_));cases h;exact Rt [] E E (Ug [] 0 hR)
theorem VI {F:Nat} {p1:Qb} {vehicle1:Int} {demands1:(List Int)} {A1:Option Addr} {c1:Nat} {A2:Option Addr} {c2:Nat} {A3:Option Addr} {c3:Nat} {A4:Option Addr} {c4:Nat} {res1:Int}
  (hl1:p1.Road.Edges.length≤c1∧c1≤maxLen) (hA1:Qj Qv μ A1 p1.Road.Edges) (hl2:p1.Vehicles.length≤c2∧c2≤maxLen) (hA2:Qj Qq μ A2 p1.Vehicles) (hl3:p1.Demands.length≤c3∧c3≤maxLen) (hA3:Qj Qr μ A3 p1.Demands) (hl4:demands1.length≤c4∧c4≤maxLen) (hA4:Rds QD μ L A4 demands1) (h:J3 F p1 vehicle1 demands1=some res1)
  (hR: ∀(μ':Gh) ,μ.le μ'→R (.int .i64 res1) μ' (L)) :
  Fn Tryz.prog 16 [.agg #[.int .i64 p1.Road.Nodes,.slice A1 p1.Road.Edges.length c1,.slice A2 p1.Vehicles.length c2,.slice A3 p1.Demands.length c3,.int .i64 p1.Unload,.int .i64 p1.UnloadSecs],.int .i64 vehicle1,.slice A4 demands1.length c4] μ (L) R:=by
 unfold J3 at h;refine FnS Tryz.func16 (by kernel_rfl) E Tryz.ntmps16 E E ?_;refine G0 2 E (Al E fun _=>Q1 6 [0] E (Cl E ?_));obtain ⟨_,hx1,h⟩:=Qf h;refine Qb6 hl1 hA1 hl2 hA2 hl3 hA3 hx1 (fun _ hm_1=> ?_);replace hA1:=hA1.mono hm_1;replace hA2:=hA2.mono hm_1;replace hA3:=hA3.mono hm_1;replace hA4:=hA4.mono hm_1;refine Q0 7 E ?_;refine Br h 13 E E (fun hc1 h=> ?_) (fun hc1 h=> ?_)
 ·refine G2 6 [13] [] [] E ?_;cases h;exact Rt [] E E (Ug [] 1 (hR _ hm_1))
 refine G2 4 [] [13] [] E ?_;refine Cut h (fun f l o_ f_ μ_ l_=> ∃(v2:Bool),v2=o_∧Qg ((23,.bool v2)::Qm [2,3] f) f_∧Qc l l_) ?_ ?_
 ·intro _ h442 h;refine G0 4 E ?_;refine Br h442 17 E E (fun hc2 h442=> ?_) (fun hc2 h442=> ?_)
  ·refine G2 7 [17] [] [] E ?_;cases h442;exact Ce E ⟨_,rfl,fE E,sE [some 0] 1 E⟩
  refine G2 7 [] [17] [0] E ?_;cases h442;exact Ce E ⟨_,rfl,fE E,sE [some 0] 1 E⟩
 rintro _ _ _ _ h hm442 ⟨v2,rfl,hF442,hS442⟩;replace hA1:=hA1.mono hm442;replace hA2:=hA2.mono hm442;replace hA3:=hA3.mono hm442;replace hA4:=hA4.mono hm442;refine Atn 1 hF442 hS442 E E ?_;refine Br h 23 E E (fun hc3 h=> ?_) (fun hc3 h=> ?_)
 ·refine G2 5 [23] [] [] E ?_;cases h;exact Rt [] E E (Ug [] 1 (hR _ (hm_1.trans hm442)))
 refine G2 9 [] [23] [] E ?_;refine Br h 26 E E (fun hc4 h=> ?_) (fun hc4 h=> ?_)
 ·refine G2 5 [26] [] [] E ?_;cases h;exact Rt [] E E (Ug [] 1 (hR _ (hm_1.trans hm442)))
 refine G2 7 [] [26] [] E (Cl E ?_);obtain ⟨_,hx2,h⟩:=Qf h;refine W8 hl4 hA4 hl1 hA1 hl2 hA2 hl3 hA3 hx2 ((Q0 1 E ?_));refine Br h 29 E E (fun hc5 h=> ?_) (fun hc5 h=> ?_)
 ·refine G2 5 [29] [] [] E ?_;cases h;exact Rt [] E E (Ug [] 1 (hR _ (hm_1.trans hm442)))
 refine G2 9 [] [29] [] E ?_;refine Cut h (fun f l o_ f_ μ_ l_=>(.inl ())=o_∧Qg ([]) f_∧Qc (QS [] 1 l) l_) ?_ ?_
 ·intro _ h446 h;refine Lp h446 (fun f l (v3:Int) f_ μ_ l_=>Qg ((32,.int .i64 v3)::Qm [2,30,31] f) f_∧Qc (QS [] 1 l) l_) ⟨fE E,sE [] 1 E⟩ ?_;rintro v3 _ _ _ _ hm450 ⟨hF450,hS450⟩ hb450 hq450;unfold Jw at hb450;replace hA4:=hA4.mono hm450;refine Atn 0 hF450 hS450 E E (G0 5 E ?_);refine Br hb450 33 E E (fun hc6 hb450=> ?_) (fun hc6 hb450=> ?_)
  ·refine G2 7 [33] [] [] E (Ix hb450 hA4 E E fun _ _ _ _ hr1 hc7 _ hb450=> ?_);obtain rfl:=hr1;obtain ⟨_,hs1,hb450⟩:=Qf hb450;refine Q3 8 [] [] [64] (Z1 hc7) E (Rdo E E (QaE E E E E E E hl4.1 hs1 ?_));have hA6:=Rds.pre hA4 hs1;have hl5:=Qbu hl4 hs1;refine Q0 1 E (Cl E ?_);obtain ⟨_,hx4,hb450⟩:=Qf hb450;refine WT hl5 hA6 hx4 ((Q0 1 E ?_));refine Br hb450 41 E E (fun hc8 hb450=> ?_) (fun hc8 hb450=> ?_)
   ·refine G2 5 [41] [] [] E ?_;cases hb450;have hq_:=hq450 _ E;subst hq_;replace h:=YE h;cases h;exact Rt [] E E (Ug [] 0 (hR _ (hm_1.trans (hm442.trans hm450))))
   refine G2 7 [] [41] [] E ?_;cases hb450;exact Ce E ⟨_,rfl,fE E,sE [] 0 E⟩
  refine G2 2 [] [33] [] E ?_;cases hb450;have hq_:=hq450 _ E;subst hq_;exact Ce E ⟨rfl,fE E,sE [] 0 E⟩
 rintro _ _ _ _ h hm446 ⟨rfl,hF446,hS446⟩;replace h:=Zc h;refine Atn 0 hF446 hS446 E E (G0 4 E ?_);cases h;exact Rt [] E E (Ug [] 0 (hR _ (hm_1.trans (hm442.trans hm446))))
theorem Qcr  {v1:Qo} {kind1:Int}  {res1:Bool}
   (h:JO v1 kind1=some res1)
  (hR:R (.bool res1) μ (L)) :
  Fn Tryz.prog 83 [.agg #[.string v1.ID,.int .i64 v1.Depot,.int .i64 v1.Shift.From,.int .i64 v1.Shift.To,.int .i64 v1.Grams,.int .i64 v1.Kinds],.int .i64 kind1] μ (L) R:=by
 unfold JO at h;refine FnS Tryz.func83 (by kernel_rfl) E Tryz.ntmps83 E E ?_;refine G0 2 E (Al E fun _=>Q0 3 E ?_);refine Cut h (fun f l o_ f_ μ_ l_=> ∃(v2:Bool),v2=o_∧Qg ((4,.bool v2)::[]) f_∧Qc (QS [] 1 l) l_∧μ=μ_) ?_ ?_
 ·intro _ h586 h;refine G0 4 E ?_;refine Br h586 7 E E (fun hc1 h586=> ?_) (fun hc1 h586=> ?_)
  ·refine G2 4 [7] [] [] E ?_;refine Br h586 11 E E (fun hc2 h586=> ?_) (fun hc2 h586=> ?_)
   ·refine G2 3 [11] [] [0] E (Rdo E E ?_);obtain ⟨_,hg1,h586⟩:=Qf h586;refine QfB E E E (JE hg1) (Q0 0 E (Rdo E E ?_));refine QhK E E ⟨_,Qcy _ _ _,?_⟩;refine Q2 4 [11] [] [] E ?_;cases h586;exact Ce E ⟨_,rfl,fE E,sE [] 1 E,rfl⟩
   refine G2 9 [] [11] [] E ?_;cases h586;exact Ce E ⟨_,rfl,fE E,sE [] 1 E,rfl⟩
  refine G2 13 [] [7,11] [] E ?_;cases h586;exact Ce E ⟨_,rfl,fE E,sE [] 1 E,rfl⟩
 rintro _ _ _ _ h _ ⟨v2,rfl,hF586,hS586,rfl⟩;refine Atn 0 hF586 hS586 E E ?_;cases h;exact Rt [] E E (Ug [] 0 hR)
theorem QcO    {res1:Qd}
   (h:VF=some res1)
  (hR:R (.agg #[.int .i64 res1.Secs,.int .i64 res1.Meters]) μ (L)) :
  Fn Tryz.prog 102 [] μ (L) R:=by
 unfold VF at h;refine FnS Tryz.func102 (by kernel_rfl) E Tryz.ntmps102 E E ?_;refine G0 2 E (Al E fun _=>Q1 6 [0] E ?_);cases h;exact Rt [0] E E (Ug [] 1 hR)
theorem Qar    {res1:Qa}
   (h:Jl=some res1)
  (hR: ∀(v0:Value) (so0:Seg),Qe μ v0 res1 so0→R (v0) μ (so0::L)) :
  Fn Tryz.prog 103 [.func (.func 104) #[] #[]] μ (L) R:=by
 unfold Jl at h;refine FnS Tryz.func103 (by kernel_rfl) E Tryz.ntmps103 E E ?_;refine G0 8 E (Rdo E E (Qld QU E E E E (Q2 7 [] [4] [] E (Al E fun g1=>Q0 2 E ?_))));cases h;exact Rt [] E E (Ug [[0,99]] 1 (hR (.pointer (some ⟨g1,0,none⟩)) _ ⟨g1,none,0,[],rfl,rfl,Own.nil⟩))
theorem Qbx  {a1:Qd} {b1:Qd}  {res1:Bool}
   (h:WD a1 b1=some res1)
  (hR:R (.bool res1) μ (L)) :
  Fn Tryz.prog 105 [.agg #[.int .i64 a1.Secs,.int .i64 a1.Meters],.agg #[.int .i64 b1.Secs,.int .i64 b1.Meters]] μ (L) R:=by
 unfold WD at h;refine FnS Tryz.func105 (by kernel_rfl) E Tryz.ntmps105 E E ?_;refine G0 2 E (Al E fun _=>Q0 0 E (Al E fun _=>Q0 3 E ?_));refine Cut h (fun f l o_ f_ μ_ l_=> ∃(v1:Bool),v1=o_∧Qg ((4,.bool v1)::[]) f_∧Qc (QS [] 2 l) l_∧μ=μ_) ?_ ?_
 ·intro _ h794 h;refine Dr _ QI.refl [(true,0),(false,1),(true,2),(true,3),(true,4),(true,5),(true,6),(true,7),(true,8),(true,9),(true,10),(true,11),(true,12),(true,13),(true,14),(true,15),(true,16),(true,17),(true,18),(true,19),(true,20),(true,21),(true,22),(true,23),(true,24)] (by kernel_rfl) (G1 1 [0] E (Cl E ?_));obtain ⟨r1,hx1,h794⟩:=Qf h794;refine QcO  hx1 (?_);refine ⟨QI.refl,?_⟩;refine Q0 0 E (Rdo E E (Qga E E (Ex.mk _ (QdG b1 r1) (Q0 1 E ?_))));refine Br h794 8 E E (fun hc1 h794=> ?_) (fun hc1 h794=> ?_)
  ·refine G2 22 [8,15] [] [] E ?_;cases h794;exact Ce E ⟨_,rfl,fE E,sE [] 2 E,rfl⟩
  refine G2 7 [] [8] [1,0] E ?_;refine Br h794 15 E E (fun hc2 h794=> ?_) (fun hc2 h794=> ?_)
  ·refine G2 15 [15] [] [] E ?_;cases h794;exact Ce E ⟨_,rfl,fE E,sE [] 2 E,rfl⟩
  refine G2 6 [] [15] [1,0] E ?_;refine Br h794 21 E E (fun hc3 h794=> ?_) (fun hc3 h794=> ?_)
  ·refine G2 9 [21] [15] [1,0] E ?_;cases h794;exact Ce E ⟨_,rfl,fE E,sE [] 2 E,rfl⟩
  refine G2 9 [] [15,21] [] E ?_;cases h794;exact Ce E ⟨_,rfl,fE E,sE [] 2 E,rfl⟩
 rintro _ _ _ _ h _ ⟨v1,rfl,hF794,hS794,rfl⟩;refine Atn 0 hF794 hS794 E E ?_;cases h;exact Rt [] E E (Ug [] 0 hR)
theorem Qay  {a1:QN} {b1:QN}  {res1:Bool}
   (h:JP a1 b1=some res1)
  (hR:R (.bool res1) μ (L)) :
  Fn Tryz.prog 104 [.agg #[.int .i64 a1.node,.int .i64 a1.leg.Secs,.int .i64 a1.leg.Meters],.agg #[.int .i64 b1.node,.int .i64 b1.leg.Secs,.int .i64 b1.leg.Meters]] μ (L) R:=by
 unfold JP at h;refine FnS Tryz.func104 (by kernel_rfl) E Tryz.ntmps104 E E ?_;refine G0 2 E (Al E fun _=>Q0 0 E (Al E fun _=>Q0 3 E ?_));refine Cut h (fun f l o_ f_ μ_ l_=> ∃(v1:Bool),v1=o_∧Qg ((4,.bool v1)::[]) f_∧Qc (QS [] 2 l) l_∧μ=μ_) ?_ ?_
 ·intro _ h791 h;refine G1 5 [1,0] E (Rdo E E (Qga E E (Ex.mk _ (Qa6 a1.leg b1.leg) (Q0 1 E ?_))));refine Br h791 10 E E (fun hc1 h791=> ?_) (fun hc1 h791=> ?_)
  ·refine G2 4 [10] [] [1,0] E (Cl E ?_);obtain ⟨_,hx1,h791⟩:=Qf h791;refine Qbx  hx1 ((Q2 3 [10] [] [] E ?_));cases h791;exact Ce E ⟨_,rfl,fE E,sE [] 2 E,rfl⟩
  refine G2 8 [] [10] [] E ?_;cases h791;exact Ce E ⟨_,rfl,fE E,sE [] 2 E,rfl⟩
 rintro _ _ _ _ h _ ⟨v1,rfl,hF791,hS791,rfl⟩;refine Atn 0 hF791 hS791 E E ?_;cases h;exact Rt [] E E (Ug [] 0 hR)
theorem JW  {q1:Qa} {i1:Int} {k1:Int} {pv1:Value} {so1:Seg} {res1:Bool}
  (hP1:Qe μ pv1 q1 so1) (h:Yz q1 i1 k1=some res1)
  (hR:R (.bool res1) μ (so1::L)) :
  Fn Tryz.prog 109 [pv1,.int .i64 i1,.int .i64 k1] μ (so1::L) R:=by
 unfold Yz at h;refine FnS Tryz.func109 (by kernel_rfl) E Tryz.ntmps109 E E ?_;obtain ⟨g1,A1,c1,ch1,hv1,rfl,hO1⟩:=hP1;subst hv1;refine G0 5 E (In Qe.fl 0 2 E E E ?_);refine Cut h (fun f l o_ f_ μ_ l_=> ∃(f1:Int) (f2:Int) (f3:Int) (f4:Int) (f5:Int) (f6:Int) (f7:Int) (f8:Int) (g4:Nat) (g5:Nat),(f1,f2,f3,f4,f5,f6,f7,f8)=o_∧Qg ((7,.pointer (some ⟨g4,0,none⟩))::(8,.pointer (some ⟨g5,0,none⟩))::Qm [0] f) f_∧Qc ([(g1,.cells #[.func (.func 104) #[] #[],.slice A1 q1.heap.length c1,.int .i64 q1.count] 176 (0,0))]::ch1::[(g4,.cells #[.int .i64 f1,.int .i64 f2,.int .i64 f3,.int .i64 f4] 178 (0,0))]::[(g5,.cells #[.int .i64 f5,.int .i64 f6,.int .i64 f7,.int .i64 f8] 178 (0,0))]::QS [] 2 l) l_∧μ=μ_) ?_ ?_
 ·intro _ h747 h;refine Cd (WP.draw (id:=1) QeL _ QI.refl E (AN.run (fuel:=4) (listed':=[true,true,true,true,true,true,true,true,true,true,true,true,true,true,false,false,false,false]) QU [(true,0),(true,1),(true,2),(true,3),(true,4),(true,5),(true,6),(true,7),(true,8),(true,9),(true,10),(true,11),(true,12),(true,13)] (by kernel_rfl) (by kernel_rfl) E (Qct E (YY E (Pt E E (Jt E (Pt E E (ZR (o':=1) E E E E E E (Pt E E (Zq E E E (Ex.mk _ (ZW.seg 0 0 E E E) (Pt E E (YY E ?_)))))))))))));refine Pt E E ?_;obtain ⟨x1,hx1,h747⟩:=Qf h747;obtain ⟨_,_,hA1,hr1,_,hc1⟩:=Rds.getI (Own.rds (L:=([(g1,.cells #[.func (.func 104) #[] #[],.slice A1 q1.heap.length c1,.int .i64 q1.count] 176 (0,0))]::ch1::L)) hO1 1 rfl) hx1;obtain rfl:=hr1;refine Qcu E E E E E E ⟨(Zr hx1).1,(Zr hx1).2.1⟩ hA1 (Pt E E (Wb E E E E (Ex.mk [.int .i64 x1.value.node,.int .i64 x1.value.leg.Secs,.int .i64 x1.value.leg.Meters,.int .i64 x1.n] ⟨rfl,hc1⟩ (Pt E E (YY E (Pt E E (Jt E (Pt E E (ZR (o':=1) E E E E E E (Pt E E (Zq E E E (Ex.mk _ (ZW.seg 0 0 E E E) ?_))))))))))));refine Pt E E (YY E (Pt E E ?_));obtain ⟨x2,hx2,h747⟩:=Qf h747;obtain ⟨_,_,hA2,hr2,_,hc2⟩:=Rds.getI (Own.rds (L:=([(g1,.cells #[.func (.func 104) #[] #[],.slice A1 q1.heap.length c1,.int .i64 q1.count] 176 (0,0))]::ch1::L)) hO1 1 rfl) hx2;obtain rfl:=hr2;refine Qcu E E E E E E ⟨(Zr hx2).1,(Zr hx2).2.1⟩ hA2 (Pt E E (Wb E E E E (Ex.mk [.int .i64 x2.value.node,.int .i64 x2.value.leg.Secs,.int .i64 x2.value.leg.Meters,.int .i64 x2.n] ⟨rfl,hc2⟩ (Yc E (J1 ?_)))));refine QjP QU (a:=14) (b:=15) (by kernel_rfl) ?_ ?_
  ·refine FO_ E E (QaD (cs:= #[.int .i64 0,.int .i64 0,.int .i64 0,.int .i64 0]) E E (fun g2=> ?_));refine ⟨QI.more (QI.refl),?_⟩;refine Yc E (AN.run (fuel:=0) (listed':=[true,true,true,true,true,true,true,true,true,true,true,true,true,true,true,true,true,true]) QU [(false,15),(false,16),(false,17)] (by kernel_rfl) (by kernel_rfl) E (WV E (QaD (cs:= #[.int .i64 0,.int .i64 0,.int .i64 0,.int .i64 0]) E E (fun g3=> ?_))));refine ⟨QI.more (QI.more (QI.refl)),?_⟩;refine Yc E (WV E (Q5 (vs:=[.int .i64 x1.value.node,.int .i64 x1.value.leg.Secs,.int .i64 x1.value.leg.Meters,.int .i64 x1.n]) E E E E E E (ST_ (L':=([(g3,.cells #[.int .i64 0,.int .i64 0,.int .i64 0,.int .i64 0] 178 (0,0))]::[(g2,.cells #[.int .i64 x1.value.node,.int .i64 x1.value.leg.Secs,.int .i64 x1.value.leg.Meters,.int .i64 x1.n] 178 (0,0))]::[(g1,.cells #[.func (.func 104) #[] #[],.slice A1 q1.heap.length c1,.int .i64 q1.count] 176 (0,0))]::ch1::L)) 1 0 E E E E ?_)));refine ⟨QI.more (QI.more (QI.refl)),?_⟩;refine JS (WV E (Q5 (vs:=[.int .i64 x2.value.node,.int .i64 x2.value.leg.Secs,.int .i64 x2.value.leg.Meters,.int .i64 x2.n]) E E E E E E (ST_ (L':=([(g3,.cells #[.int .i64 x2.value.node,.int .i64 x2.value.leg.Secs,.int .i64 x2.value.leg.Meters,.int .i64 x2.n] 178 (0,0))]::[(g2,.cells #[.int .i64 x1.value.node,.int .i64 x1.value.leg.Secs,.int .i64 x1.value.leg.Meters,.int .i64 x1.n] 178 (0,0))]::[(g1,.cells #[.func (.func 104) #[] #[],.slice A1 q1.heap.length c1,.int .i64 q1.count] 176 (0,0))]::ch1::L)) 0 0 E E E E ?_)));refine ⟨QI.more (QI.more (QI.refl)),?_⟩;refine JS (J1 (AN.done0 (by kernel_rfl) ?_));cases h747;exact Ce E ⟨_,_,_,_,_,_,_,_,g2,g3,rfl,fE E,sE [some 2,some 3,some 1,some 0] 4 E,rfl⟩
  refine FO_ E E (QaD (cs:= #[.int .i64 0,.int .i64 0,.int .i64 0,.int .i64 0]) E E (fun g3=> ?_));refine ⟨QI.more (QI.refl),?_⟩;refine Yc E (AN.run (fuel:=0) (listed':=[true,true,true,true,true,true,true,true,true,true,true,true,true,true,true,true,true,true]) QU [(false,14),(false,16),(false,17)] (by kernel_rfl) (by kernel_rfl) E (WV E (QaD (cs:= #[.int .i64 0,.int .i64 0,.int .i64 0,.int .i64 0]) E E (fun g2=> ?_))));refine ⟨QI.more (QI.more (QI.refl)),?_⟩;refine Yc E (WV E (Q5 (vs:=[.int .i64 x1.value.node,.int .i64 x1.value.leg.Secs,.int .i64 x1.value.leg.Meters,.int .i64 x1.n]) E E E E E E (ST_ (L':=([(g2,.cells #[.int .i64 x1.value.node,.int .i64 x1.value.leg.Secs,.int .i64 x1.value.leg.Meters,.int .i64 x1.n] 178 (0,0))]::[(g3,.cells #[.int .i64 0,.int .i64 0,.int .i64 0,.int .i64 0] 178 (0,0))]::[(g1,.cells #[.func (.func 104) #[] #[],.slice A1 q1.heap.length c1,.int .i64 q1.count] 176 (0,0))]::ch1::L)) 0 0 E E E E ?_)));refine ⟨QI.more (QI.more (QI.refl)),?_⟩;refine JS (WV E (Q5 (vs:=[.int .i64 x2.value.node,.int .i64 x2.value.leg.Secs,.int .i64 x2.value.leg.Meters,.int .i64 x2.n]) E E E E E E (ST_ (L':=([(g2,.cells #[.int .i64 x1.value.node,.int .i64 x1.value.leg.Secs,.int .i64 x1.value.leg.Meters,.int .i64 x1.n] 178 (0,0))]::[(g3,.cells #[.int .i64 x2.value.node,.int .i64 x2.value.leg.Secs,.int .i64 x2.value.leg.Meters,.int .i64 x2.n] 178 (0,0))]::[(g1,.cells #[.func (.func 104) #[] #[],.slice A1 q1.heap.length c1,.int .i64 q1.count] 176 (0,0))]::ch1::L)) 1 0 E E E E ?_)));refine ⟨QI.more (QI.more (QI.refl)),?_⟩;refine JS (J1 (AN.done0 (by kernel_rfl) ?_));cases h747;exact Ce E ⟨_,_,_,_,_,_,_,_,g2,g3,rfl,fE E,sE [some 2,some 3,some 0,some 1] 4 E,rfl⟩
 rintro _ _ _ _ h _ ⟨f1,f2,f3,f4,f5,f6,f7,f8,g4,g5,rfl,hF747,hS747,rfl⟩;replace h:=Qh h;replace h:=Qh h;replace h:=Qh h;replace h:=Qh h;replace h:=Qh h;replace h:=Qh h;replace h:=Qh h;refine Atn 4 hF747 hS747 E E (G0 2 E (Dr _ QI.refl [(true,0),(true,1),(true,2),(true,3),(true,4),(true,5),(true,6),(true,7),(false,8)] (by kernel_rfl) (G1 8 [0,2,3] E (Cl E ?_))));obtain ⟨_,hx3,h⟩:=Qf h;refine Qay  hx3 (?_);refine ⟨QI.refl,?_⟩;refine Q0 1 E ?_;refine Br h 31 E E (fun hc3 h=> ?_) (fun hc3 h=> ?_)
 ·refine G2 5 [31] [] [] E ?_;cases h;exact Rt [] E E (Ug [[0,1]] 4 hR)
 refine G2 3 [] [31] [] E ?_;refine Cut h (fun f l o_ f_ μ_ l_=> ∃(v1:Bool),v1=o_∧Qg ((6,.bool v1)::[]) f_∧Qc (QS [some 0,some 1] 4 l) l_∧μ=μ_) ?_ ?_
 ·intro _ h795 h;refine Dr _ QI.refl [(true,0),(true,1),(true,2),(true,3),(true,4),(true,5),(true,6),(true,7),(true,8),(true,9),(true,10),(true,11),(true,12),(true,13),(false,14),(true,15),(true,16),(true,17)] (by kernel_rfl) (G1 6 [2,3] E ?_);refine Br h795 37 E E (fun hc4 h795=> ?_) (fun hc4 h795=> ?_)
  ·refine G2 8 [37] [] [0,3,2] E (Cl E ?_);obtain ⟨_,hx4,h795⟩:=Qf h795;refine Qay  hx4 (?_);refine ⟨QI.refl,?_⟩;refine Q2 4 [37] [] [] E ?_;cases h795;exact Ce E ⟨_,rfl,fE E,sE [some 0,some 1] 4 E,rfl⟩
  refine G2 13 [] [37] [] E ?_;cases h795;exact Ce E ⟨_,rfl,fE E,sE [some 0,some 1] 4 E,rfl⟩
 rintro _ _ _ _ h _ ⟨v1,rfl,hF795,hS795,rfl⟩;refine Atn 2 hF795 hS795 E E ?_;cases h;exact Rt [] E E (Ug [[0,1]] 2 hR)
theorem Je  {q1:Qa} {i1:Int} {k1:Int} {pv1:Value} {so1:Seg} {res1:Qa}
  (hP1:Qe μ pv1 q1 so1) (h:Yv q1 i1 k1=some res1)
  (hR: ∀(sp0:Seg),Qe μ pv1 res1 sp0→R (.tuple #[]) μ (sp0::L)) :
  Fn Tryz.prog 110 [pv1,.int .i64 i1,.int .i64 k1] μ (so1::L) R:=by
 unfold Yv at h;refine FnS Tryz.func110 (by kernel_rfl) E Tryz.ntmps110 E E ?_;obtain ⟨g1,A1,c1,ch1,hv1,rfl,hO1⟩:=hP1;subst hv1;refine In Qe.fl 0 2 E E E ?_;obtain ⟨n1,hn1⟩: ∃n_,n_=q1.heap.length:=⟨_,rfl⟩
 rw[←hn1] at hO1 ⊢
 refine Cd (WP.drawB (id:=0) (l':=List.replicate 25 true++[false,false,false]) QeL QU _ QI.refl 25 [] [(true,0),(true,1),(true,2),(true,3),(true,4),(true,5),(true,6),(true,7),(true,8),(true,9),(true,10),(true,11),(true,12),(true,13),(true,14),(true,15),(true,16),(true,17),(true,18),(true,19),(true,20),(true,21),(true,22),(true,23),(true,24)] (by kernel_rfl) (by kernel_rfl) [26,27] E (by kernel_rfl) (by kernel_rfl) (Qct E (YY E (Pt E E (Jt E (Pt E E (ZR (o':=1) E E E E E E (Pt E E (Zq E E E (Ex.mk _ (ZW.seg 0 0 E E E) (Pt E E (YY E (Yc E ?_)))))))))))));refine Qct E (YY E (Pt E E (Jt E (Pt E E (ZR (o':=1) E E E E E E (Pt E E (Zq E E E (Ex.mk _ (ZW.seg 0 0 E E E) (Pt E E (YY E (Pt E E (YY E ?_))))))))))));refine Pt E E (Jt E (Pt E E (ZR (o':=1) E E E E E E (Pt E E (Zq E E E (Ex.mk _ (ZW.seg 0 0 E E E) (Pt E E (YY E (Pt E E ?_)))))))));obtain ⟨x1,hx1,h⟩:=Qf h;obtain ⟨_,_,hA1,hr1,_,hc1⟩:=Rds.getI (Own.rds (L:=([(g1,.cells #[.func (.func 104) #[] #[],.slice A1 n1 c1,.int .i64 q1.count] 176 (0,0))]::ch1::L)) hO1 1 rfl) hx1;obtain rfl:=hr1;refine Qcu E E E E E E ⟨(Zr hx1).1,Qj3 hn1 (Zr hx1).2.1⟩ hA1 (Pt E E (Wb E E E E (Ex.mk [.int .i64 x1.value.node,.int .i64 x1.value.leg.Secs,.int .i64 x1.value.leg.Meters,.int .i64 x1.n] ⟨rfl,hc1⟩ (Pt E E (YY E (Pt E E (Jt E (Pt E E (ZR (o':=1) E E E E E E (Pt E E (Zq E E E (Ex.mk _ (ZW.seg 0 0 E E E) ?_))))))))))));refine Pt E E (YY E (Pt E E ?_));obtain ⟨x2,hx2,h⟩:=Qf h;obtain ⟨_,_,hA2,hr2,_,hc2⟩:=Rds.getI (Own.rds (L:=([(g1,.cells #[.func (.func 104) #[] #[],.slice A1 n1 c1,.int .i64 q1.count] 176 (0,0))]::ch1::L)) hO1 1 rfl) hx2;obtain rfl:=hr2;refine Qcu E E E E E E ⟨(Zr hx2).1,Qj3 hn1 (Zr hx2).2.1⟩ hA2 (Pt E E (Wb E E E E (Ex.mk [.int .i64 x2.value.node,.int .i64 x2.value.leg.Secs,.int .i64 x2.value.leg.Meters,.int .i64 x2.n] ⟨rfl,hc2⟩ (Pt E E ?_))));obtain ⟨_,hx3,h⟩:=Qf h;obtain ⟨a3,_,hA3,hr3,_,_⟩:=Rds.getI (Own.rds (L:=([(g1,.cells #[.func (.func 104) #[] #[],.slice A1 n1 c1,.int .i64 q1.count] 176 (0,0))]::ch1::L)) hO1 1 rfl) hx3;obtain rfl:=hr3;refine Qcu E E E E E E ⟨(Zr hx3).1,Qj3 hn1 (Zr hx3).2.1⟩ hA3 (Yc E (J1 (QlI E (Q5 (vs:=[.int .i64 x1.value.node,.int .i64 x1.value.leg.Secs,.int .i64 x1.value.leg.Meters,.int .i64 x1.n]) E E E E E E ?_))))
 rw[←Addr.add_zero' ((a3.add (i1.toNat*4)))]
 refine Own.store (μ:=μ) (r:=Yf) (x':=x1) (o:=0) (sz:=4) 1 rfl hO1 hA3 hx3 rfl rfl (by rintro _ rfl;rfl) fun ch2 hO2=> ?_;have hn2:=hn1.trans (ZT q1.heap i1 x1).symm;refine JS (QlI E ?_);obtain ⟨_,hx4,h⟩:=Qf h;obtain ⟨a4,_,hA4,hr4,_,_⟩:=Rds.getI (Own.rds (L:=([(g1,.cells #[.func (.func 104) #[] #[],.slice A1 n1 c1,.int .i64 q1.count] 176 (0,0))]::ch2::L)) hO2 1 rfl) hx4;obtain rfl:=hr4;refine VG E (Qcu E E E E E E ⟨(Zr hx4).1,Qj3 hn2 (Zr hx4).2.1⟩ hA4 (Yc E (Qep E (Q5 (vs:=[.int .i64 x2.value.node,.int .i64 x2.value.leg.Secs,.int .i64 x2.value.leg.Meters,.int .i64 x2.n]) E E E E E E ?_))))
 rw[←Addr.add_zero' ((a4.add (k1.toNat*4)))]
 refine Own.store (μ:=μ) (r:=Yf) (x':=x2) (o:=0) (sz:=4) 1 rfl hO2 hA4 hx4 rfl rfl (by rintro _ rfl;rfl) fun ch3 hO3=> ?_;have hn3:=hn2.trans (ZT (Z2 q1.heap i1 x1) k1 x2).symm;apply JS;subst hn3;cases h;exact Rt [] E E (Ug [[0,1]] 2 (hR _ ⟨g1,A1,c1,ch3,rfl,rfl,hO3⟩))
theorem Wg {F:Nat} {q1:Qa} {x1:QN} {pv1:Value} {so1:Seg} {res1:Qa}
  (hP1:Qe μ pv1 q1 so1) (h:YQ F q1 x1=some res1)
  (hR: ∀(sp0:Seg),Qe μ pv1 res1 sp0→R (.tuple #[]) μ (sp0::L)) :
  Fn Tryz.prog 106 [pv1,.agg #[.int .i64 x1.node,.int .i64 x1.leg.Secs,.int .i64 x1.leg.Meters]] μ (so1::L) R:=by
 unfold YQ at h;refine FnS Tryz.func106 (by kernel_rfl) E Tryz.ntmps106 E E ?_;refine G0 2 E (Al E fun g1=> ?_);obtain ⟨g2,A1,c1,_,hv1,rfl,hO1⟩:=hP1;subst hv1;refine Q0 3 E (In Qe.fl 1 3 E E E (G2 7 [] [7] [] E (Cd (WP.drawB (id:=2) (l':=List.replicate 15 true++[false]) QeL QU ([(g1,.cells #[.int .i64 x1.node,.int .i64 x1.leg.Secs,.int .i64 x1.leg.Meters] 168 (0,0))]::[(g2,.cells #[.func (.func 104) #[] #[],.slice A1 q1.heap.length c1,.int .i64 q1.count] 176 (0,0))]::L) (Kp [0,1] 3 E) 15 [] [(true,0),(true,1),(true,2),(true,3),(true,4),(true,5),(true,6),(true,7),(true,8),(true,9),(true,10),(false,11),(false,12),(true,13),(true,14)] (by kernel_rfl) (by kernel_rfl) [] E (by kernel_rfl) (by kernel_rfl) (Qct E (YY E (Pt E E (YY E (Pt E E (Jt E (Pt E E (ZR (o':=1) E E E E E E (Pt E E ?_)))))))))))));refine Zq E E E (Ex.mk _ (ZW.seg 1 0 E E E) (Pt E E (Wb E E E E (LA_ (vs:=[.int .i64 x1.node,.int .i64 x1.leg.Secs,.int .i64 x1.leg.Meters]) 0 0 E E E E (Pt E E (YY E (Pt E E (Jt E (Pt E E (ZR (o':=2) E E E E E E (Pt E E (Zq E E E ?_))))))))))));refine Ex.mk _ (ZW.seg 1 0 E E E) (Pt E E (QdQ E E E E (QP (cells':=[.int .i64 x1.node,.int .i64 x1.leg.Secs,.int .i64 x1.leg.Meters,.int .i64 0]) E E E E (QP (cells':=[.int .i64 x1.node,.int .i64 x1.leg.Secs,.int .i64 x1.leg.Meters,.int .i64 q1.count]) E E E E (Za (Yc E (WV E (Zp (z:=[.int .i64 0,.int .i64 0,.int .i64 0,.int .i64 0]) E E E E E E E (QP (cells':=[.int .i64 x1.node,.int .i64 x1.leg.Secs,.int .i64 x1.leg.Meters,.int .i64 q1.count]) E E E E (Za (fun g3=> ?_)))))))))));refine ⟨Kp [1,2] 4 E,?_⟩;refine Yc E (WV E (Yy E ?_));obtain ⟨l1,hz1,h⟩:=Qf h;refine YX (r:=Yf) QU E E E E (by decide) E E 3 E hO1 E (Own.rds (Own.lit (r:=Yf) (e:=178) (g:=g3) (xs:=[(QA.mk x1 q1.count)]) (cs:=[.int .i64 x1.node,.int .i64 x1.leg.Secs,.int .i64 x1.leg.Meters,.int .i64 q1.count]) (css:=[[.int .i64 x1.node,.int .i64 x1.leg.Secs,.int .i64 x1.leg.Meters,.int .i64 q1.count]]) E (All2.cons (E) (All2.nil)) E E) 0 E) hz1 fun A2 c2 ch2 hO2=> ?_;refine ⟨Kp [1,2] 4 E,?_⟩;refine Pt E E (Jt E (Pt E E (ZR (o':=1) E E E E E E (Yc E (J1 (Qep E (Q5 (vs:=[.slice A2 l1.length c2]) E E E E E E (ST_ (L':=([(g3,.cells #[.int .i64 x1.node,.int .i64 x1.leg.Secs,.int .i64 x1.leg.Meters,.int .i64 q1.count] 178 (0,0))]::[(g1,.cells #[.int .i64 x1.node,.int .i64 x1.leg.Secs,.int .i64 x1.leg.Meters] 168 (0,0))]::[(g2,.cells #[.func (.func 104) #[] #[],.slice A2 l1.length c2,.int .i64 q1.count] 176 (0,0))]::ch2::L)) 2 0 E E E E (JS ?_)))))))));have hP2:Qe μ (.pointer (some ⟨g2,0,none⟩)) (Qa.mk l1 (w64 (q1.count+1))) _:=⟨g2,A2,c2,ch2,rfl,rfl,hO2⟩
 refine G1 21 [2,2,2] E (Gp [[2,3],[0],[1]] 4 3 E E ?_);refine Cut h (fun f l o_ f_ μ_ l_=> ∃(q3:Qa) (so4:Seg),(.inl q3)=o_∧Qg ([]) f_∧Qc (so4::QS [] 3 l) l_∧Qe μ_ (.pointer (some ⟨g2,0,none⟩)) q3 so4∧μ=μ_) ?_ ?_
 ·intro _ h1036 h;refine Lp h1036 (fun f l (j_:Qa×Int) f_ μ_ l_=>JT j_ fun q2 i1=> ∃(so2:Seg),Qg ((4,.int .i64 i1)::Qm [0] f) f_∧Qc (so2::QS [] 3 l) l_∧Qe μ_ (.pointer (some ⟨g2,0,none⟩)) q2 so2∧μ=μ_) ⟨((g2,Obj.cells #[.func (.func 104) #[] #[],.slice A2 l1.length c2,.int .i64 (w64 (q1.count+1))] 176 (0,0))::ch2),fE E,sE [some 0] 3 E,(hP2),E⟩ ?_;rintro ⟨q2,i1⟩ _ _ _ _ _ ⟨so2,hF1041,hS1041,hP3,rfl⟩ hb1041 hq1041;unfold Yr at hb1041;replace hb1041:=Qh hb1041;refine Atn 1 hF1041 hS1041 E E (G0 6 E ?_);refine Br hb1041 37 E E (fun hc1 hb1041=> ?_) (fun hc1 hb1041=> ?_)
  ·refine G2 16 [37] [] [0] E (Cl E ?_);obtain ⟨_,hx1,hb1041⟩:=Qf hb1041;refine JW hP3 hx1 ((Q0 2 E ?_));refine Br hb1041 45 E E (fun hc2 hb1041=> ?_) (fun hc2 hb1041=> ?_)
   ·refine G2 1 [45] [] [] E ?_;cases hb1041;have hq_:=hq1041 _ E;subst hq_;replace h:=YE h;cases h;exact Rt [] E E (Ug [[0]] 1 (hR _ hP3))
   refine G2 7 [] [45] [] E (Cl E ?_);obtain ⟨_,hx2,hb1041⟩:=Qf hb1041;refine Je hP3 hx2 (fun so3 hP4=>Q0 6 E ?_);cases hb1041;exact Ce E ⟨_,rfl,so3,fE E,sE [some 0] 1 E,(hP4),rfl⟩
  refine G2 2 [] [37] [] E ?_;cases hb1041;have hq_:=hq1041 _ E;subst hq_;exact Ce E ⟨_,so2,rfl,fE E,sE [some 0] 1 E,(hP3),rfl⟩
 rintro _ _ _ _ h _ ⟨q3,so4,rfl,hF1036,hS1036,hP5,rfl⟩;replace h:=Zc h;refine Atn 1 hF1036 hS1036 E E ?_;cases h;exact Rt [] E E (Ug [[0]] 1 (hR _ hP5))
theorem V8  {q1:Qa} {pv1:Value} {so1:Seg} {res1:Int}
  (hP1:Qe μ pv1 q1 so1) (h:ZH q1=some res1)
  (hR:R (.int .i64 res1) μ (so1::L)) :
  Fn Tryz.prog 113 [pv1] μ (so1::L) R:=by
 unfold ZH at h;refine FnS Tryz.func113 (by kernel_rfl) E Tryz.ntmps113 E E ?_;obtain ⟨_,_,_,_,hv1,rfl,_⟩:=hP1;subst hv1;refine G0 6 E (In Qe.fl 0 2 E E E (G2 15 [] [4] [0] E ?_));cases h;exact Rt [] E E (Ug [[0,1]] 2 hR)
theorem VT  {q1:Qa} {pv1:Value} {so1:Seg} {res1:QN} {res2:Bool}
  (hP1:Qe μ pv1 q1 so1) (h:Zu q1=some (res1,res2))
  (hR:R (.tuple #[.agg #[.int .i64 res1.node,.int .i64 res1.leg.Secs,.int .i64 res1.leg.Meters],.bool res2]) μ (so1::L)) :
  Fn Tryz.prog 111 [pv1] μ (so1::L) R:=by
 unfold Zu at h;refine FnS Tryz.func111 (by kernel_rfl) E Tryz.ntmps111 E E ?_;refine G0 2 E (Al E fun _=>Q0 6 E (Cl E (Fn.gp [[1],[0]] 2 2 E ?_)));obtain ⟨_,hx1,h⟩:=Qf h;refine V8 hP1 hx1 ((Q0 2 E ?_));refine Br h 7 E E (fun hc1 h=> ?_) (fun hc1 h=> ?_)
 ·refine G2 3 [7] [] [] E (Al E fun _=>Q1 7 [0,2] E ?_);cases h;exact Rt [2] E E (Ug [[1]] 3 hR)
 obtain ⟨_,_,_,_,hv1,rfl,hO1⟩:=hP1;subst hv1;refine G2 3 [] [7] [] E (In Qe.fl 0 3 E E E (G1 5 [0] E (IxA h (Own.rds hO1 1 E) E E fun _ _ _ _ hr1 hc2 _ h=> ?_)));obtain rfl:=hr1;refine Q3 5 [] [] [64,2] (Z1 hc2) E ?_;cases h;exact Rt [2] E E (Ug [[0,1]] 3 hR)
theorem VU {F:Nat} {q1:Qa} {pv1:Value} {so1:Seg} {res1:Qa}
  (hP1:Qe μ pv1 q1 so1) (h:Yu F q1=some res1)
  (hR: ∀(sp0:Seg),Qe μ pv1 res1 sp0→R (.tuple #[]) μ (sp0::L)) :
  Fn Tryz.prog 112 [pv1] μ (so1::L) R:=by
 unfold Yu at h;refine FnS Tryz.func112 (by kernel_rfl) E Tryz.ntmps112 E E ?_;obtain ⟨g1,A1,c1,ch1,hv1,rfl,hO1⟩:=hP1;subst hv1;refine G0 4 E (In Qe.fl 0 2 E E E ?_);refine Cut h (fun _ _ _ _ _ _=>False) ?_ ?_
 ·intro _ h1244 h;refine Lp h1244 (fun f l (j_:(List QA)×Int×Int) f_ μ_ l_=>JT j_ fun f1 j_=>JT j_ fun f2 i1=> ∃(A2:Option Addr) (c2:Nat) (ch2:Seg),Qg ((2,.int .i64 i1)::Qm [0] f) f_∧Qc ([(g1,.cells #[.func (.func 104) #[] #[],.slice A2 f1.length c2,.int .i64 f2] 176 (0,0))]::ch2::QS [] 2 l) l_∧Own Yf 178 μ_ (.slice A2 f1.length c2) f1 ch2∧μ=μ_) ⟨A1,c1,ch1,fE E,sE [some 0,some 1] 2 E,(hO1),E⟩ ?_;rintro ⟨f1,f2,i1⟩ _ _ _ _ _ ⟨A2,c2,ch2,hF1314,hS1314,hO2,rfl⟩ hb1314 hq1314;unfold Ys at hb1314;replace hb1314:=Qh hb1314;replace hb1314:=Qh hb1314;refine Atn 2 hF1314 hS1314 E E (G0 14 E ?_);refine Cut hb1314 (fun f l o_ f_ μ_ l_=> ∃(f6:(List QA)) (f7:Int) (next3:Int) (A7:Option Addr) (c7:Nat) (ch7:Seg),(f6,f7,next3)=o_∧Qg ((3,.int .i64 next3)::Qm [0,2] f) f_∧Qc ([(g1,.cells #[.func (.func 104) #[] #[],.slice A7 f6.length c7,.int .i64 f7] 176 (0,0))]::ch7::QS [] 2 l) l_∧Own Yf 178 μ_ (.slice A7 f6.length c7) f6 ch7∧μ=μ_) ?_ ?_
  ·intro _ h1319 hb1314;refine Lp h1319 (fun f l (j_:(List QA)×Int×Int×Int) f_ μ_ l_=>JT j_ fun f3 j_=>JT j_ fun f4 j_=>JT j_ fun next1 k1=> ∃(A3:Option Addr) (c3:Nat) (ch3:Seg),Qg ((3,.int .i64 next1)::(4,.int .i64 k1)::Qm [0,2] f) f_∧Qc ([(g1,.cells #[.func (.func 104) #[] #[],.slice A3 f3.length c3,.int .i64 f4] 176 (0,0))]::ch3::QS [] 2 l) l_∧Own Yf 178 μ_ (.slice A3 f3.length c3) f3 ch3∧μ=μ_) ⟨A2,c2,ch2,fE E,sE [some 0,some 1] 2 E,(hO2),E⟩ ?_;rintro ⟨f3,f4,next1,k1⟩ _ _ _ _ _ ⟨A3,c3,ch3,hF1338,hS1338,hO3,rfl⟩ hb1338 hq1338;unfold pqueue_Queue_stop_sink_l1 at hb1338;replace hb1338:=Qh hb1338;replace hb1338:=Qh hb1338;replace hb1338:=Qh hb1338;refine Atn 2 hF1338 hS1338 E E (G0 2 E ?_);refine Cut hb1338 (fun f l o_ f_ μ_ l_=> ∃(v1:Bool),v1=o_∧Qg ((22,.bool v1)::Qm [0,2,3,4] f) f_∧Qc l l_∧μ=μ_) ?_ ?_
   ·intro _ h1343 hb1338;refine G0 7 E ?_;refine Br h1343 14 E E (fun hc1 h1343=> ?_) (fun hc1 h1343=> ?_)
    ·refine G2 9 [14] [] [0] E ?_;cases h1343;exact Ce E ⟨_,rfl,fE E,sE [some 0,some 1] 2 E,rfl⟩
    refine G2 9 [] [14] [] E ?_;cases h1343;exact Ce E ⟨_,rfl,fE E,sE [some 0,some 1] 2 E,rfl⟩
   rintro _ _ _ _ hb1338 _ ⟨v1,rfl,hF1343,hS1343,rfl⟩;refine Atn 2 hF1343 hS1343 E E ?_;refine Br hb1338 22 E E (fun hc2 hb1338=> ?_) (fun hc2 hb1338=> ?_)
   ·refine G2 3 [22] [] [] E ?_;refine Cut hb1338 (fun f l o_ f_ μ_ l_=> ∃(f5:(List QA)) (next2:Int) (A6:Option Addr) (c6:Nat) (ch6:Seg),(f5,next2)=o_∧Qg ((3,.int .i64 next2)::Qm [0,2,4] f) f_∧Qc ([(g1,.cells #[.func (.func 104) #[] #[],.slice A6 f5.length c6,.int .i64 ((Qa.mk f3 f4).count)] 176 (0,0))]::ch6::QS [] 2 l) l_∧Own Yf 178 μ_ (.slice A6 f5.length c6) f5 ch6∧μ=μ_) ?_ ?_
    ·intro _ h1346 hb1338;refine G0 6 E (Cl E ?_);have hP2:Qe μ (.pointer (some ⟨g1,0,none⟩)) (Qa.mk f3 f4) _:=⟨g1,A3,c3,ch3,rfl,rfl,hO3⟩
     refine Fn.gp [[0,1]] 2 1 E ?_;obtain ⟨_,hx1,h1346⟩:=Qf h1346;refine JW hP2 hx1 ((Q0 1 E ?_));refine Br h1346 28 E E (fun hc3 h1346=> ?_) (fun hc3 h1346=> ?_)
     ·refine G2 6 [28] [] [] E ?_;obtain ⟨_,A4,c4,ch4,hv2,hs1,hO4⟩:=hP2;replace hv2:=Vh hv2;subst hv2;cases h1346;exact Ce E ⟨_,_,A4,c4,ch4,rfl,fE E,(Qc.ins (i:=0) (Qe.fl.trans hs1.symm) E).tr (sE [some 0,some 1] 2 E),(hO4),rfl⟩
     refine G2 3 [] [28] [] E ?_;obtain ⟨_,A5,c5,ch5,hv3,hs2,hO5⟩:=hP2;replace hv3:=Vh hv3;subst hv3;cases h1346;exact Ce E ⟨_,_,A5,c5,ch5,rfl,fE E,(Qc.ins (i:=0) (Qe.fl.trans hs2.symm) E).tr (sE [some 0,some 1] 2 E),(hO5),rfl⟩
    rintro _ _ _ _ hb1338 _ ⟨f5,next2,A6,c6,ch6,rfl,hF1346,hS1346,hO6,rfl⟩;replace hb1338:=Qh hb1338;refine Atn 2 hF1346 hS1346 E E (G0 5 E ?_);cases hb1338;exact Ce E ⟨_,rfl,A6,c6,ch6,fE E,sE [some 0,some 1] 2 E,(hO6),rfl⟩
   refine G2 2 [] [22] [] E ?_;cases hb1338;have hq_:=hq1338 _ E;subst hq_;exact Ce E ⟨_,_,_,A3,c3,ch3,rfl,fE E,sE [some 0,some 1] 2 E,(hO3),rfl⟩
  rintro _ _ _ _ hb1314 _ ⟨f6,f7,next3,A7,c7,ch7,rfl,hF1319,hS1319,hO7,rfl⟩;replace hb1314:=Qh hb1314;replace hb1314:=Qh hb1314;refine Atn 2 hF1319 hS1319 E E (G0 7 E ?_);refine Br hb1314 32 E E (fun hc4 hb1314=> ?_) (fun hc4 hb1314=> ?_)
  ·refine G2 1 [32] [] [] E ?_;cases hb1314;have hq_:=hq1314 _ E;subst hq_;cases h;exact Rt [] E E (Ug [[0,1]] 2 (hR _ ⟨g1,A7,c7,ch7,rfl,rfl,hO7⟩))
  refine G2 7 [] [32] [] E (Cl E ?_);have hP3:Qe μ (.pointer (some ⟨g1,0,none⟩)) (Qa.mk f6 f7) _:=⟨g1,A7,c7,ch7,rfl,rfl,hO7⟩
  refine Fn.gp [[0,1]] 2 1 E ?_;obtain ⟨_,hx2,hb1314⟩:=Qf hb1314;refine Je hP3 hx2 (fun _ hP4=>Q0 6 E ?_);obtain ⟨_,A8,c8,ch8,hv4,rfl,hO8⟩:=hP4;replace hv4:=Vh hv4;subst hv4;cases hb1314;exact Ce E ⟨_,rfl,A8,c8,ch8,fE E,(Qc.ins (i:=0) Qe.fl E).tr (sE [some 0,some 1] 2 E),(hO8),rfl⟩
 exact fun _ _ _ _ _ _ hf_=>hf_.elim
theorem V9 {F:Nat} {q1:Qa} {pv1:Value} {so1:Seg} {res1:QN} {res2:Bool} {res3:Qa}
  (hP1:Qe μ pv1 q1 so1) (h:YF F q1=some (res1,res2,res3))
  (hR: ∀(sp0:Seg),Qe μ pv1 res3 sp0→R (.tuple #[.agg #[.int .i64 res1.node,.int .i64 res1.leg.Secs,.int .i64 res1.leg.Meters],.bool res2]) μ (sp0::L)) :
  Fn Tryz.prog 107 [pv1] μ (so1::L) R:=by
 unfold YF at h;refine FnS Tryz.func107 (by kernel_rfl) E Tryz.ntmps107 E E ?_;refine G0 2 E (Al E fun g1=>Q0 5 E (Cl E (Fn.gp [[1],[0]] 2 2 E ?_)));obtain ⟨⟨r1,_⟩,hx1,h⟩:=Qf h;replace h:=Qh h;refine VT hP1 hx1 ((Q0 3 E (Al E fun g2=>Q1 9 [0] E ?_)));refine Br h 13 E E (fun hc1 h=> ?_) (fun hc1 h=> ?_)
 ·refine G2 7 [13] [] [0,2] E ?_;cases h;exact Rt [2] E E (Ug [[1]] 3 (hR _ hP1))
 obtain ⟨g3,A1,c1,ch1,hv1,rfl,hO1⟩:=hP1;subst hv1;refine G2 3 [] [13] [] E (In Qe.fl 1 4 E E E (G1 13 [1] E (Cl E ?_)));have hP2:Qe μ (.pointer (some ⟨g3,0,none⟩)) q1 _:=⟨g3,A1,c1,ch1,rfl,rfl,hO1⟩
 refine Fn.gp [[1,2],[0],[3]] 4 3 E ?_;obtain ⟨r3,hx2,h⟩:=Qf h;refine Je hP2 hx2 (fun _ hP3=> ?_);obtain ⟨_,A2,c2,ch2,hv2,rfl,hO2⟩:=hP3;replace hv2:=Vh hv2;subst hv2;refine Q0 2 E (In Qe.fl 0 4 E E E ?_);obtain ⟨_,hs1,h⟩:=Qf h;refine G1 6 [0] E (Rdo E E (QhL (r:=Yf) E E E E E E E (Own.lenOk hO2).1 hs1 fun _ hAe1=> ?_));have hA1:=Rds.sub (Own.rds (L:=([(g3,.cells #[.func (.func 104) #[] #[],.slice A2 r3.heap.length c2,.int .i64 r3.count] 176 (0,0))]::ch2::[(g2,.cells #[.int .i64 r1.node,.int .i64 r1.leg.Secs,.int .i64 r1.leg.Meters] 168 (0,0))]::[(g1,.cells #[.int .i64 0,.int .i64 0,.int .i64 0] 168 (0,0))]::L)) hO2 1 E) (Own.lenOk hO2).1 hs1 hAe1;have hl1:=QjH (Own.lenOk hO2) hs1;refine Q0 0 E (So E (QjQ E (Qiu (z:=(QA.mk (QN.mk 0 (Qd.mk 0 0)) 0)) (zc:=[.int .i64 0,.int .i64 0,.int .i64 0,.int .i64 0]) QU E E E E E (E) 1 E hO2 hs1 hAe1 fun ch3 hO3=> ?_)))
 rw[←Qds r3.heap (w64 (((q1.heap.length:Nat):Int)-1)) (QA.mk (QN.mk 0 (Qd.mk 0 0)) 0)] at hO3 ⊢
 obtain ⟨l2,hs2,h⟩:=Qf h;refine Q1 9 [0] E (Rdo E E (QaE E E E E E E (Own.lenOk hO3).1 hs2 ?_));have hA2:=Rds.pre (Own.rds (L:=([(g3,.cells #[.func (.func 104) #[] #[],.slice A2 ((Qd8 r3.heap (w64 (((q1.heap.length:Nat):Int)-1)) (QA.mk (QN.mk 0 (Qd.mk 0 0)) 0)).length) c2,.int .i64 r3.count] 176 (0,0))]::ch3::[(g2,.cells #[.int .i64 r1.node,.int .i64 r1.leg.Secs,.int .i64 r1.leg.Meters] 168 (0,0))]::[(g1,.cells #[.int .i64 0,.int .i64 0,.int .i64 0] 168 (0,0))]::L)) hO3 1 E) hs2;have hl2:=Qbu (Own.lenOk hO3) hs2;refine Q0 2 E (So E (Q5 (vs:=[.slice A2 l2.length c2]) E E E E E E ?_));have hO4:=Own.cut hO3 hs2;refine ST_ (L':=([(g3,.cells #[.func (.func 104) #[] #[],.slice A2 l2.length c2,.int .i64 r3.count] 176 (0,0))]::ch3::[(g2,.cells #[.int .i64 r1.node,.int .i64 r1.leg.Secs,.int .i64 r1.leg.Meters] 168 (0,0))]::[(g1,.cells #[.int .i64 0,.int .i64 0,.int .i64 0] 168 (0,0))]::L)) 0 0 E E E E (Q0 4 E (Cl E ?_));have hP4:Qe μ (.pointer (some ⟨g3,0,none⟩)) (Qa.mk l2 r3.count) _:=⟨g3,A2,c2,ch3,rfl,rfl,hO4⟩
 refine Fn.gp [[0,1],[2],[3]] 4 3 E ?_;obtain ⟨_,hx3,h⟩:=Qf h;refine VU hP4 hx3 (fun _ hP5=>Q1 7 [1,2] E ?_);cases h;exact Rt [2] E E (Ug [[0]] 3 (hR _ hP5))
theorem QdM  {x1:QM}  {res1:Int} {res2:Int}
   (h:Vy x1=some (res1,res2))
  (hR:R (.tuple #[.int .i64 res1,.int .i64 res2]) μ (L)) :
  Fn Tryz.prog 101 [.agg #[.int .i64 x1.From,.int .i64 x1.To,.int .i64 x1.Meters,.int .i64 x1.Secs]] μ (L) R:=by
 unfold Vy at h;refine FnS Tryz.func101 (by kernel_rfl) E Tryz.ntmps101 E E ?_;refine G0 2 E (Al E fun _=>Q0 4 E (Dr _ QI.refl [(true,0),(true,1),(true,2),(true,3),(true,4),(true,5)] (by kernel_rfl) (G1 7 [0,0] E ?_)));cases h;exact Rt [] E E (Ug [] 1 hR)
theorem QeV  {l1:Qd} {x1:QM}  {res1:Qd}
   (h:VN l1 x1=some res1)
  (hR:R (.agg #[.int .i64 res1.Secs,.int .i64 res1.Meters]) μ (L)) :
  Fn Tryz.prog 108 [.agg #[.int .i64 l1.Secs,.int .i64 l1.Meters],.agg #[.int .i64 x1.From,.int .i64 x1.To,.int .i64 x1.Meters,.int .i64 x1.Secs]] μ (L) R:=by
 unfold VN at h;refine FnS Tryz.func108 (by kernel_rfl) E Tryz.ntmps108 E E ?_;refine G0 2 E (Al E fun _=>Q0 0 E (Al E fun _=>Q0 0 E (Al E fun _=>Q1 16 [2,1,2,1,0] E ?_)));cases h;exact Rt [0] E E (Ug [] 3 hR)
theorem QbU {F:Nat} {r1:QB} {f_from1:Int} {A1:Option Addr} {c1:Nat} {res1:(List Qd)}
  (hl1:r1.Edges.length≤c1∧c1≤maxLen) (hA1:Qj Qv μ A1 r1.Edges) (h:JA F r1 f_from1=some res1)
  (hR: ∀(A0:Option Addr) (c0:Nat) (ch0:Seg),Own QC 100 μ (.slice A0 res1.length c0) res1 ch0→R (.slice A0 res1.length c0) μ (ch0::L)) :
  Fn Tryz.prog 100 [.agg #[.int .i64 r1.Nodes,.slice A1 r1.Edges.length c1],.int .i64 f_from1,.func (.func 101) #[] #[]] μ (L) R:=by
 unfold JA at h;refine FnS Tryz.func100 (by kernel_rfl) E Tryz.ntmps100 E E ?_;refine G0 2 E (Al E fun g1=>Q1 6 [0] E (So E (QdZ E E ?_)));obtain ⟨_,hn1,h⟩:=Qf h;refine QdV (r:=QC) (z:=(Qd.mk 0 0)) (zc:=[.int .i64 0,.int .i64 0]) QU E E E E E (E) E hn1 fun A2 c2 ch1 hO1=>Q0 9 E ?_;refine Cut h (fun f l o_ f_ μ_ l_=> ∃(out2:(List Qd)) (A4:Option Addr) (c4:Nat) (ch4:Seg),out2=o_∧Qg ((7,.slice A4 out2.length c4)::Qm [1,2,3] f) f_∧Qc ([(g1,.cells #[.int .i64 r1.Nodes,.slice A1 r1.Edges.length c1] 24 (0,0))]::ch4::QS [] 2 l) l_∧Own QC 100 μ_ (.slice A4 out2.length c4) out2 ch4∧μ=μ_) ?_ ?_
 ·intro _ h641 h;refine Lp h641 (fun f l (j_:(List Qd)×Int) f_ μ_ l_=>JT j_ fun out1 v1=> ∃(A3:Option Addr) (c3:Nat) (ch2:Seg),Qg ((7,.slice A3 out1.length c3)::(22,.int .i64 v1)::Qm [1,2,3,21] f) f_∧Qc ([(g1,.cells #[.int .i64 r1.Nodes,.slice A1 r1.Edges.length c1] 24 (0,0))]::ch2::QS [] 2 l) l_∧Own QC 100 μ_ (.slice A3 out1.length c3) out1 ch2∧μ=μ_) ⟨A2,c2,ch1,fE E,sE [some 1,some 0] 2 E,(hO1),E⟩ ?_;rintro ⟨out1,v1⟩ _ _ _ _ _ ⟨A3,c3,ch2,hF650,hS650,hO2,rfl⟩ hb650 hq650;unfold ZD at hb650;replace hb650:=Qh hb650;refine Atn 2 hF650 hS650 E E (G0 5 E ?_);refine Br hb650 23 E E (fun hc1 hb650=> ?_) (fun hc1 hb650=> ?_)
  ·refine G2 12 [23] [] [] E (Cl E ?_);obtain ⟨r2,hx1,hb650⟩:=Qf hb650;refine QcO  hx1 ((Q0 0 E (IxA hb650 (Own.rds hO2 1 E) E E fun _ a1 _ hx2 hr1 _ hA2 hb650=> ?_)));obtain rfl:=hr1;refine Q0 0 E (So E (Q5 (vs:=[.int .i64 r2.Secs,.int .i64 r2.Meters]) E E E E E E ?_))
   rw[←Addr.add_zero' ((a1.add (v1.toNat*2)))]
   refine Own.store (μ:=μ) (r:=QC) (x':=r2) (o:=0) (sz:=2) 1 rfl hO2 hA2 hx2 rfl rfl (by rintro _ rfl;rfl) fun ch3 hO3=> ?_
   rw[←ZT out1 v1 r2] at hO3 ⊢
   refine Q0 6 E ?_;cases hb650;exact Ce E ⟨_,rfl,A3,c3,ch3,fE E,sE [some 0,some 1] 2 E,(hO3),rfl⟩
  refine G2 2 [] [23] [] E ?_;cases hb650;have hq_:=hq650 _ E;subst hq_;exact Ce E ⟨_,A3,c3,ch2,rfl,fE E,sE [some 0,some 1] 2 E,(hO2),rfl⟩
 rintro _ _ _ _ h _ ⟨out2,A4,c4,ch4,rfl,hF641,hS641,hO4,rfl⟩;refine Atn 2 hF641 hS641 E E (G0 5 E (IxA h (Own.rds hO4 1 E) E E fun _ a2 _ hx3 hr2 _ hA3 h=> ?_));obtain rfl:=hr2;refine Q0 0 E (So E (Q5 (vs:=[.int .i64 0,.int .i64 0]) E E E E E E ?_))
 rw[←Addr.add_zero' ((a2.add (f_from1.toNat*2)))]
 refine Own.store (μ:=μ) (r:=QC) (x':=(Qd.mk 0 0)) (o:=0) (sz:=2) 1 rfl hO4 hA3 hx3 rfl rfl (by rintro _ rfl;rfl) fun ch5 hO5=> ?_
 rw[←ZT out2 f_from1 (Qd.mk 0 0)] at hO5 ⊢
 refine Q0 3 E (Cl E ?_);obtain ⟨_,hx4,h⟩:=Qf h;refine Qar  hx4 (fun pv1 _ hP1=>Q0 7 E (Cl E ?_));obtain ⟨_,hx5,h⟩:=Qf h;refine Wg hP1 hx5 (fun so2 hP2=>Q0 1 E ?_);refine Cut h (fun _ _ _ _ _ _=>False) ?_ ?_
 ·intro _ h1054 h;refine Lp h1054 (fun f l (j_:(List Qd)×Qa) f_ μ_ l_=>JT j_ fun out3 q1=> ∃(A5:Option Addr) (c5:Nat) (ch6:Seg) (so3:Seg),Qg ((7,.slice A5 out3.length c5)::Qm [2,3,9] f) f_∧Qc ([(g1,.cells #[.int .i64 r1.Nodes,.slice A1 r1.Edges.length c1] 24 (0,0))]::ch6::so3::QS [] 3 l) l_∧Own QC 100 μ_ (.slice A5 out3.length c5) out3 ch6∧Qe μ_ pv1 q1 so3∧μ=μ_) ⟨A4,c4,ch5,so2,fE E,sE [some 1,some 2,some 0] 3 E,(hO5),(hP2),E⟩ ?_;rintro ⟨out3,q1⟩ _ _ _ _ _ ⟨A5,c5,ch6,so3,hF1542,hS1542,hO6,hP3,rfl⟩ hb1542 hq1542;unfold ZF at hb1542;replace hb1542:=Qh hb1542;refine Atn 3 hF1542 hS1542 E E (G0 4 E (Cl E (Fn.gp [[2],[0],[1]] 3 3 E ?_)));obtain ⟨⟨r5,_,_⟩,hx6,hb1542⟩:=Qf hb1542;replace hb1542:=Qh hb1542;replace hb1542:=Qh hb1542;refine V9 hP3 hx6 (fun so4 hP4=>Q0 3 E (Al E fun g2=>Q1 9 [0] E ?_));refine Br hb1542 45 E E (fun hc4 hb1542=> ?_) (fun hc4 hb1542=> ?_)
  ·refine G2 6 [45] [] [] E ?_;cases hb1542;have hq_:=hq1542 _ E;subst hq_;cases h;exact Rt [] E E (Ug [[3]] 4 (hR A5 c5 ch6 hO6))
  refine G2 4 [] [45] [] E (Dr _ QI.refl [(true,0),(true,1),(true,2),(true,3),(true,4),(true,5),(true,6),(true,7)] (by kernel_rfl) (G1 3 [0] E (Ix hb1542 (Own.rds (L:=([(g2,.cells #[.int .i64 r5.node,.int .i64 r5.leg.Secs,.int .i64 r5.leg.Meters] 168 (0,0))]::so4::[(g1,.cells #[.int .i64 r1.Nodes,.slice A1 r1.Edges.length c1] 24 (0,0))]::ch6::L)) hO6 3 E) E E fun x3 _ _ _ hr3 hc5 _ hb1542=> ?_)));obtain rfl:=hr3;refine Q3 3 [] [] [64,0] (Z1 hc5) E (Rdo E E (Qga E E (Ex.mk _ (Qa6 x3 r5.leg) (Q0 1 E ?_))));refine Br hb1542 54 E E (fun hc6 hb1542=> ?_) (fun hc6 hb1542=> ?_)
  ·refine G2 2 [54] [] [] E ?_;cases hb1542;exact Ce E ⟨_,rfl,A5,c5,ch6,so4,fE E,sE [some 2,some 3,some 1] 4 E,(hO6),(hP4),rfl⟩
  refine G2 9 [] [54] [2] E ?_;refine Cut hb1542 (fun f l o_ f_ μ_ l_=> ∃(out6:(List Qd)) (q4:Qa) (A8:Option Addr) (c8:Nat) (ch10:Seg) (so8:Seg),(out6,q4)=o_∧Qg ((7,.slice A8 out6.length c8)::Qm [2,3,9] f) f_∧Qc ([(g1,.cells #[.int .i64 r1.Nodes,.slice A1 r1.Edges.length c1] 24 (0,0))]::ch10::so8::QS [] 4 l) l_∧Own QC 100 μ_ (.slice A8 out6.length c8) out6 ch10∧Qe μ_ pv1 q4 so8∧μ=μ_) ?_ ?_
  ·intro _ h1559 hb1542;refine Lp h1559 (fun f l (j_:(List Qd)×Qa×Int) f_ μ_ l_=>JT j_ fun out4 j_=>JT j_ fun q2 v2=> ∃(A6:Option Addr) (c6:Nat) (ch7:Seg) (so5:Seg),Qg ((7,.slice A6 out4.length c6)::(58,.int .i64 v2)::Qm [2,3,9,10,56,57] f) f_∧Qc ([(g1,.cells #[.int .i64 r1.Nodes,.slice A1 r1.Edges.length c1] 24 (0,0))]::ch7::so5::QS [some 0] 4 l) l_∧Own QC 100 μ_ (.slice A6 out4.length c6) out4 ch7∧Qe μ_ pv1 q2 so5∧μ=μ_) ⟨A5,c5,ch6,so4,fE E,sE [some 2,some 3,some 1,some 0] 4 E,(hO6),(hP4),E⟩ ?_;rintro ⟨out4,q2,v2⟩ _ _ _ _ _ ⟨A6,c6,ch7,so5,hF1610,hS1610,hO7,hP5,rfl⟩ hb1610 hq1610;unfold ZE at hb1610;replace hb1610:=Qh hb1610;replace hb1610:=Qh hb1610;refine Atn 4 hF1610 hS1610 E E (G0 5 E ?_);refine Br hb1610 59 E E (fun hc7 hb1610=> ?_) (fun hc7 hb1610=> ?_)
   ·refine G2 3 [59] [] [] E ?_;refine Cut hb1610 (fun f l o_ f_ μ_ l_=> ∃(out5:(List Qd)) (q3:Qa) (A7:Option Addr) (c7:Nat) (ch9:Seg) (so7:Seg),(out5,q3)=o_∧Qg ((7,.slice A7 out5.length c7)::Qm [2,3,9,10,56,57,58] f) f_∧Qc ([(g1,.cells #[.int .i64 r1.Nodes,.slice A1 r1.Edges.length c1] 24 (0,0))]::ch9::so7::QS [] 3 l) l_∧Own QC 100 μ_ (.slice A7 out5.length c7) out5 ch9∧Qe μ_ pv1 q3 so7∧μ=μ_) ?_ ?_
    ·intro _ h1620 hb1610;refine G0 3 E (Ix h1620 (Qj.rds hA1 L) E E fun x4 _ _ _ hr4 hc8 _ h1620=> ?_);obtain rfl:=hr4;refine Q3 1 [] [] [64] (Z1 (hc8.push.push.push.push)) E (Al E fun g3=>Q1 6 [0,0] E (Cl E ?_));obtain ⟨⟨_,r9⟩,hx9,h1620⟩:=Qf h1620;replace h1620:=Qh h1620;refine QdM  hx9 ((Q1 14 [4] E ?_));refine Br h1620 71 E E (fun hc9 h1620=> ?_) (fun hc9 h1620=> ?_)
     ·refine G2 2 [71] [] [] E ?_;cases h1620;exact Ce E ⟨_,_,A6,c6,ch7,so5,rfl,fE E,sE [some 1,some 2,some 3,some 4] 5 E,(hO7),(hP5),rfl⟩
     refine G2 7 [] [71] [4,0] E (Cl E ?_);obtain ⟨r10,hx10,h1620⟩:=Qf h1620;refine QeV  hx10 ((Q0 0 E (Al E fun g4=>Q1 3 [0] E (Dr _ QI.refl [(true,0),(true,1),(true,2),(true,3),(true,4),(false,5)] (by kernel_rfl) (G1 3 [0] E (Ix h1620 (Own.rds (L:=([(g4,.cells #[.int .i64 r10.Secs,.int .i64 r10.Meters] 100 (0,0))]::[(g3,.cells #[.int .i64 x4.From,.int .i64 x4.To,.int .i64 x4.Meters,.int .i64 x4.Secs] 63 (0,0))]::[(g1,.cells #[.int .i64 r1.Nodes,.slice A1 r1.Edges.length c1] 24 (0,0))]::ch7::so5::[(g2,.cells #[.int .i64 r5.node,.int .i64 r5.leg.Secs,.int .i64 r5.leg.Meters] 168 (0,0))]::L)) hO7 3 E) E E fun _ _ _ _ hr5 hc10 _ h1620=> ?_))))));obtain rfl:=hr5;refine Q3 1 [] [] [64] (Z1 hc10) E (Cl E ?_);obtain ⟨_,hx12,h1620⟩:=Qf h1620;refine Qbx  hx12 (?_);refine ⟨QI.refl,?_⟩;refine Q0 1 E ?_;refine Br h1620 81 E E (fun hc11 h1620=> ?_) (fun hc11 h1620=> ?_)
     ·refine G2 6 [81] [] [0] E (IxA h1620 (Own.rds hO7 3 E) E E fun _ a6 _ hx13 hr6 _ hA7 h1620=> ?_);obtain rfl:=hr6;refine Q0 0 E (So E (Q5 (vs:=[.int .i64 r10.Secs,.int .i64 r10.Meters]) E E E E E E ?_))
      rw[←Addr.add_zero' ((a6.add (r9.toNat*2)))]
      refine Own.store (μ:=μ) (r:=QC) (x':=r10) (o:=0) (sz:=2) 3 rfl hO7 hA7 hx13 rfl rfl (by rintro _ rfl;rfl) fun ch8 hO8=> ?_
      rw[←ZT out4 r9 r10] at hO8 ⊢
      refine Q1 6 [0] E (Cl E (Fn.gp [[4],[0],[1],[2],[3],[5]] 6 6 E ?_));obtain ⟨_,hx14,h1620⟩:=Qf h1620;refine Wg hP5 hx14 (fun so6 hP6=>Q0 2 E ?_);cases h1620;exact Ce E ⟨_,_,A6,c6,ch8,so6,rfl,fE E,sE [some 3,some 4,some 0,some 5] 6 E,(hO8),(hP6),rfl⟩
     refine G2 3 [] [81] [] E ?_;cases h1620;exact Ce E ⟨_,_,A6,c6,ch7,so5,rfl,fE E,sE [some 2,some 3,some 4,some 5] 6 E,(hO7),(hP5),rfl⟩
    rintro _ _ _ _ hb1610 _ ⟨out5,q3,A7,c7,ch9,so7,rfl,hF1620,hS1620,hO9,hP7,rfl⟩;replace hb1610:=Qh hb1610;refine Atn 4 hF1620 hS1620 E E (G0 4 E ?_);cases hb1610;exact Ce E ⟨_,rfl,A7,c7,ch9,so7,fE E,sE [some 0,some 1,some 2,some 3] 4 E,(hO9),(hP7),rfl⟩
   refine G2 2 [] [59] [] E ?_;cases hb1610;have hq_:=hq1610 _ E;subst hq_;exact Ce E ⟨_,_,A6,c6,ch7,so5,rfl,fE E,sE [some 0,some 1,some 2] 4 E,(hO7),(hP5),rfl⟩
  rintro _ _ _ _ hb1542 _ ⟨out6,q4,A8,c8,ch10,so8,rfl,hF1559,hS1559,hO10,hP8,rfl⟩;replace hb1542:=Qh hb1542;refine G0 1 E ?_;cases hb1542;exact Ce E ⟨_,rfl,A8,c8,ch10,so8,hF1559.tr E,hS1559.tr (sE [some 0,some 1,some 2] 3 E),(hO10),(hP8),rfl⟩
 exact fun _ _ _ _ _ _ hf_=>hf_.elim
theorem Qf3 {F:Nat} {r1:QB} {f_from1:Int} {A1:Option Addr} {c1:Nat} {res1:(List Qd)} {res2:Int}
  (hl1:r1.Edges.length≤c1∧c1≤maxLen) (hA1:Qj Qv μ A1 r1.Edges) (h:VE F r1 f_from1=some (res1,res2))
  (hR: ∀(μ':Gh) (A0:Option Addr) (c0:Nat) (ch0:Seg),μ.le μ'→Own QC 100 μ' (.slice A0 res1.length c0) res1 ch0→R (.tuple #[.slice A0 res1.length c0,.int .i64 res2]) μ' (ch0::L)) :
  Fn Tryz.prog 97 [.agg #[.int .i64 r1.Nodes,.slice A1 r1.Edges.length c1],.int .i64 f_from1] μ (L) R:=by
 unfold VE at h;refine FnS Tryz.func97 (by kernel_rfl) E Tryz.ntmps97 E E ?_;refine G0 2 E (Al E fun _=>Q1 7 [0] E (Cl E ?_));obtain ⟨_,hx1,h⟩:=Qf h;refine Qb2 hl1 hA1 hx1 (fun _ hm_1=> ?_);replace hA1:=hA1.mono hm_1;refine Q0 7 E ?_;refine Br h 10 E E (fun hc1 h=> ?_) (fun hc1 h=> ?_)
 ·refine G2 7 [10] [] [] E ?_;cases h;exact Rt [] E E (Ug [[]] 1 (hR _ none 0 [] hm_1 Own.nil))
 refine G2 4 [] [10] [] E ?_;refine Cut h (fun f l o_ f_ μ_ l_=> ∃(v2:Bool),v2=o_∧Qg ((19,.bool v2)::Qm [1,2] f) f_∧Qc l l_) ?_ ?_
 ·intro _ h1674 h;refine G0 4 E ?_;refine Br h1674 14 E E (fun hc2 h1674=> ?_) (fun hc2 h1674=> ?_)
  ·refine G2 6 [14] [] [] E ?_;cases h1674;exact Ce E ⟨_,rfl,fE E,sE [some 0] 1 E⟩
  refine G2 6 [] [14] [0] E ?_;cases h1674;exact Ce E ⟨_,rfl,fE E,sE [some 0] 1 E⟩
 rintro _ _ _ _ h hm1674 ⟨v2,rfl,hF1674,hS1674⟩;replace hA1:=hA1.mono hm1674;refine Atn 1 hF1674 hS1674 E E ?_;refine Br h 19 E E (fun hc3 h=> ?_) (fun hc3 h=> ?_)
 ·refine G2 6 [19] [] [] E ?_;cases h;exact Rt [] E E (Ug [[]] 1 (hR _ none 0 [] (hm_1.trans hm1674) Own.nil))
 refine G2 6 [] [19] [0] E (Cl E ?_);obtain ⟨_,hx2,h⟩:=Qf h;refine QbU hl1 hA1 hx2 (fun A2 c2 ch1 hO1=>Q0 3 E ?_);cases h;exact Rt [] E E (Ug [[0]] 2 (hR _ A2 c2 ch1 (hm_1.trans hm1674) hO1))
theorem QaA {F:Nat} {w1:Qs} {f_to1:Int} {pv1:Value} {so1:Seg} {res1:Qd} {res2:Bool} {res3:Qs}
  (hP1:Qy μ pv1 w1 so1) (h:JQ F w1 f_to1=some (res1,res2,res3))
  (hR: ∀(μ':Gh) (sp0:Seg),μ.le μ'→Qy μ' pv1 res3 sp0→R (.tuple #[.agg #[.int .i64 res1.Secs,.int .i64 res1.Meters],.bool res2]) μ' (sp0::L)) :
  Fn Tryz.prog 84 [pv1,.int .i64 f_to1] μ (so1::L) R:=by
 unfold JQ at h;refine FnS Tryz.func84 (by kernel_rfl) E Tryz.ntmps84 E E ?_;refine G0 2 E (Al E fun g1=> ?_);obtain ⟨g2,A1,c1,A2,c2,A3,c3,g3,es1,cn1,A4,c4,ch1,hv1,rfl,⟨hl1,hA1⟩,⟨hl2,hA2⟩,⟨hl3,hA3⟩,hM1,hO1⟩:=hP1;subst hv1;refine Q0 3 E (In Qy.fl 1 4 E E E (Dr _ QI.refl [(true,0),(true,1),(true,2),(true,3),(true,4),(true,5),(true,6),(true,7),(true,8),(true,9),(true,10),(true,11),(true,12),(true,13),(true,14)] (by kernel_rfl) (G1 9 [1,1] E (Rdo E E ?_))));obtain ⟨A5,c5,hx1,hl4,hA4⟩:=Qb9.look (L:=([(g1,.cells #[.int .i64 0,.int .i64 0] 100 (0,0))]::[(g2,.cells #[.int .i64 w1.place.node,.int .i64 w1.place.time,.int .i64 w1.place.load,.int .i64 w1.place.meters,.int .i64 w1.p.Road.Nodes,.slice A1 w1.p.Road.Edges.length c1,.slice A2 w1.p.Vehicles.length c2,.slice A3 w1.p.Demands.length c3,.int .i64 w1.p.Unload,.int .i64 w1.p.UnloadSecs,.string w1.v.ID,.int .i64 w1.v.Depot,.int .i64 w1.v.Shift.From,.int .i64 w1.v.Shift.To,.int .i64 w1.v.Grams,.int .i64 w1.v.Kinds,.map (some g3),.slice A4 w1.visits.length c4] 97 (0,0))]::[(g3,.map es1 cn1)]::ch1::L)) (g:=g3) hM1 (Wf.seg 2 0 rfl rfl) w1.place.node;refine QkC E E E E E E E E (Ex.mk _ hx1 (Q0 12 E ?_));refine Cut h (fun f l o_ f_ μ_ l_=> ∃(l1:(List Qd)) (m1:(List (Int×(List Qd)))) (A7:Option Addr) (c7:Nat) (es3:Array MapEntry) (cn3:Nat),(l1,m1)=o_∧Qg ((6,.slice A7 l1.length c7)::Qm [1,4] f) f_∧Qc ([(g1,.cells #[.int .i64 0,.int .i64 0] 100 (0,0))]::[(g2,.cells #[.int .i64 w1.place.node,.int .i64 w1.place.time,.int .i64 w1.place.load,.int .i64 w1.place.meters,.int .i64 w1.p.Road.Nodes,.slice A1 w1.p.Road.Edges.length c1,.slice A2 w1.p.Vehicles.length c2,.slice A3 w1.p.Demands.length c3,.int .i64 w1.p.Unload,.int .i64 w1.p.UnloadSecs,.string w1.v.ID,.int .i64 w1.v.Depot,.int .i64 w1.v.Shift.From,.int .i64 w1.v.Shift.To,.int .i64 w1.v.Grams,.int .i64 w1.v.Kinds,.map (some g3),.slice A4 w1.visits.length c4] 97 (0,0))]::[(g3,.map es3 cn3)]::QS [] 3 l) l_∧(l1.length≤c7∧c7≤maxLen)∧Qj QC μ_ A7 l1∧Qb9 QC μ_ es3 cn3 m1) ?_ ?_
 ·intro _ h1762 h;refine Br h1762 22 E E (fun hc1 h1762=> ?_) (fun hc1 h1762=> ?_)
  ·refine G2 2 [22] [] [] E (Dr _ QI.refl [(true,0),(true,1),(true,2),(true,3),(true,4),(true,5),(true,6),(true,7),(true,8),(true,9),(false,10),(true,11),(true,12),(true,13),(true,14)] (by kernel_rfl) (G1 10 [1,1] E (Cl E ?_)));obtain ⟨⟨_,_⟩,hx2,h1762⟩:=Qf h1762;replace h1762:=Qh h1762;refine Qf3 hl1 hA1 hx2 (fun _ A6 c6 _ hm_1 hO2=> ?_);replace hA1:=hA1.mono hm_1;replace hA2:=hA2.mono hm_1;replace hA3:=hA3.mono hm_1;replace hM1:=hM1.mono hm_1;replace hO1:=hO1.mono hm_1;replace hA4:=hA4.mono hm_1;refine ⟨QI.more (QI.refl),?_⟩;refine Q0 5 E (Drk [3,0] 3 E [(true,0),(true,1),(true,2),(true,3),(true,4),(true,5),(true,6),(true,7),(true,8),(true,9),(false,10)] (by kernel_rfl) (G1 10 [1,1] E (So E (Qdi E E E ?_))));have hl5:=Own.lenOk hO2;refine WH.pre (Upd.frzOwn 0 E hO2 fun _ hm_2 hA5=>Upd.done ?_);replace hA1:=hA1.mono hm_2;replace hA2:=hA2.mono hm_2;replace hA3:=hA3.mono hm_2;replace hM1:=hM1.mono hm_2;replace hO1:=hO1.mono hm_2;replace hA4:=hA4.mono hm_2;refine Qix QU E E E E 3 E hM1 E hl5 hA5 fun es2 cn2 hM2=> ?_;refine ⟨Kp [1,2,4] 5 E,?_⟩;refine Q0 1 E ?_;cases h1762;exact Ce E ⟨_,_,A6,c6,es2,cn2,rfl,fE E,sE [some 1,some 2,some 3,some 4] 5 E,(hl5),(hA5),(hM2)⟩
  refine G2 2 [] [22] [] E ?_;cases h1762;exact Ce E ⟨_,_,A5,c5,es1,cn1,rfl,fE E,sE [some 0,some 1,some 2,some 3] 4 E,(hl4),(hA4),(hM1)⟩
 rintro _ _ _ _ h hm1762 ⟨l1,m1,A7,c7,es3,cn3,rfl,hF1762,hS1762,_,hA6,hM3⟩;replace h:=Qh h;replace hA1:=hA1.mono hm1762;replace hA2:=hA2.mono hm1762;replace hA3:=hA3.mono hm1762;replace hO1:=hO1.mono hm1762;refine Atn 4 hF1762 hS1762 E E (G0 1 E (Drk [0] 3 E [(true,0),(true,1),(true,2),(true,3),(true,4),(true,5),(true,6),(true,7),(true,8),(true,9),(false,10),(true,11)] (by kernel_rfl) (G0 2 E (Ix h (Qj.rds hA6 L) E E fun x1 _ _ _ hr1 hc2 _ h=> ?_))));obtain rfl:=hr1;refine Q3 3 [] [] [64] (Z1 (hc2.push.push.push)) E (Ix h (Qj.rds hA6 L) E E fun _ _ _ _ hr2 hc3 _ h=> ?_);obtain rfl:=hr2;refine Q3 3 [] [] [64] (Z1 (hc3.push.push.push)) E (So E (Q5 (vs:=[.int .i64 x1.Secs,.int .i64 x1.Meters]) E E E E E E (ST_ (L':=([(g1,.cells #[.int .i64 x1.Secs,.int .i64 x1.Meters] 100 (0,0))]::[(g2,.cells #[.int .i64 w1.place.node,.int .i64 w1.place.time,.int .i64 w1.place.load,.int .i64 w1.place.meters,.int .i64 w1.p.Road.Nodes,.slice A1 w1.p.Road.Edges.length c1,.slice A2 w1.p.Vehicles.length c2,.slice A3 w1.p.Demands.length c3,.int .i64 w1.p.Unload,.int .i64 w1.p.UnloadSecs,.string w1.v.ID,.int .i64 w1.v.Depot,.int .i64 w1.v.Shift.From,.int .i64 w1.v.Shift.To,.int .i64 w1.v.Grams,.int .i64 w1.v.Kinds,.map (some g3),.slice A4 w1.visits.length c4] 97 (0,0))]::[(g3,.map es3 cn3)]::ch1::L)) 0 0 E E E E ?_)));refine ⟨Kp [1,2,3] 4 E,?_⟩;refine Q0 2 E ?_;cases h;exact Rt [0] E E (Ug [[1,2,3]] 4 (hR _ _ hm1762 ⟨g2,A1,c1,A2,c2,A3,c3,g3,es3,cn3,A4,c4,ch1,rfl,rfl,⟨hl1,hA1⟩,⟨hl2,hA2⟩,⟨hl3,hA3⟩,hM3,hO1⟩))
theorem WU  {w1:Qs} {stop1:Int} {arrive1:Int} {start1:Int} {pv1:Value} {so1:Seg} {res1:Qs}
  (hP1:Qy μ pv1 w1 so1) (h:Jb w1 stop1 arrive1 start1=some res1)
  (hR: ∀(sp0:Seg),Qy μ pv1 res1 sp0→R (.tuple #[]) μ (sp0::L)) :
  Fn Tryz.prog 86 [pv1,.int .i64 stop1,.int .i64 arrive1,.int .i64 start1] μ (so1::L) R:=by
 unfold Jb at h;refine FnS Tryz.func86 (by kernel_rfl) E Tryz.ntmps86 E E ?_;obtain ⟨g1,A1,c1,A2,c2,A3,c3,g2,es1,cn1,A4,c4,_,hv1,rfl,⟨hl1,hA1⟩,⟨hl2,hA2⟩,⟨hl3,hA3⟩,hM1,hO1⟩:=hP1;subst hv1;refine In Qy.fl 0 3 E E E (Cd (WP.drawB (id:=0) (l':=List.replicate 28 true++[false]) QeL QU ([(g1,.cells #[.int .i64 w1.place.node,.int .i64 w1.place.time,.int .i64 w1.place.load,.int .i64 w1.place.meters,.int .i64 w1.p.Road.Nodes,.slice A1 w1.p.Road.Edges.length c1,.slice A2 w1.p.Vehicles.length c2,.slice A3 w1.p.Demands.length c3,.int .i64 w1.p.Unload,.int .i64 w1.p.UnloadSecs,.string w1.v.ID,.int .i64 w1.v.Depot,.int .i64 w1.v.Shift.From,.int .i64 w1.v.Shift.To,.int .i64 w1.v.Grams,.int .i64 w1.v.Kinds,.map (some g2),.slice A4 w1.visits.length c4] 97 (0,0))]::[(g2,.map es1 cn1)]::L) (Kp [0,1] 3 E) 28 [] [(true,0),(true,1),(true,2),(true,3),(true,4),(true,5),(true,6),(true,7),(true,8),(true,9),(true,10),(true,11),(true,12),(true,13),(true,14),(true,15),(true,16),(true,17),(true,18),(true,19),(true,20),(true,21),(true,22),(true,23),(false,24),(false,25),(true,26),(true,27)] (by kernel_rfl) (by kernel_rfl) [] E (by kernel_rfl) (by kernel_rfl) ?_));refine Qct E (YY E (Pt E E (YY E (Pt E E (Jt E (Pt E E (ZR (o':=17) E E E E E E (Pt E E (Zq E E E (Ex.mk _ (ZW.seg 0 0 E E E) (Pt E E (YY E ?_))))))))))));refine Pt E E (YY E (Pt E E (Jt E (Pt E E (ZR (o':=0) E E E E E E (Pt E E (ZR (o':=0) E E E E E E (Pt E E (Zq E E E (Ex.mk _ (ZW.seg 0 0 E E E) (Pt E E ?_)))))))))));refine YY E (Pt E E (YY E (Pt E E (YY E (Pt E E (Jt E (Pt E E (ZR (o':=0) E E E E E E (Pt E E (ZR (o':=1) E E E E E E (Pt E E ?_)))))))))));refine Zq E E E (Ex.mk _ (ZW.seg 0 0 E E E) (Pt E E (YY E (Pt E E (Jt E (Pt E E (ZR (o':=0) E E E E E E (Pt E E (ZR (o':=2) E E E E E E (Pt E E (Zq E E E (Ex.mk _ (ZW.seg 0 0 E E E) ?_))))))))))));refine Pt E E (QdQ E E E E (QP (cells':=[.int .i64 stop1,.int .i64 0,.int .i64 0,.int .i64 0,.int .i64 0,.int .i64 0]) E E E E (QP (cells':=[.int .i64 stop1,.int .i64 w1.place.node,.int .i64 0,.int .i64 0,.int .i64 0,.int .i64 0]) E E E E (QP (cells':=[.int .i64 stop1,.int .i64 w1.place.node,.int .i64 arrive1,.int .i64 0,.int .i64 0,.int .i64 0]) E E E E (QP (cells':=[.int .i64 stop1,.int .i64 w1.place.node,.int .i64 arrive1,.int .i64 start1,.int .i64 0,.int .i64 0]) E E E E (QP (cells':=[.int .i64 stop1,.int .i64 w1.place.node,.int .i64 arrive1,.int .i64 start1,.int .i64 w1.place.time,.int .i64 0]) E E E E (QP (cells':=[.int .i64 stop1,.int .i64 w1.place.node,.int .i64 arrive1,.int .i64 start1,.int .i64 w1.place.time,.int .i64 w1.place.load]) E E E E ?_)))))));refine Za (Yc E (WV E (Zp (z:=[.int .i64 0,.int .i64 0,.int .i64 0,.int .i64 0,.int .i64 0,.int .i64 0]) E E E E E E E (QP (cells':=[.int .i64 stop1,.int .i64 w1.place.node,.int .i64 arrive1,.int .i64 start1,.int .i64 w1.place.time,.int .i64 w1.place.load]) E E E E (Za (fun g3=> ?_))))));refine ⟨Kp [1,2] 4 E,?_⟩;refine Yc E (WV E (Yy E ?_));obtain ⟨l1,hz1,h⟩:=Qf h;refine YX (r:=Qbw) QU E E E E (by decide) E E 3 E hO1 E (Own.rds (Own.lit (r:=Qbw) (e:=158) (g:=g3) (xs:=[(QK.mk stop1 w1.place.node arrive1 start1 w1.place.time w1.place.load)]) (cs:=[.int .i64 stop1,.int .i64 w1.place.node,.int .i64 arrive1,.int .i64 start1,.int .i64 w1.place.time,.int .i64 w1.place.load]) (css:=[[.int .i64 stop1,.int .i64 w1.place.node,.int .i64 arrive1,.int .i64 start1,.int .i64 w1.place.time,.int .i64 w1.place.load]]) E (All2.cons (E) (All2.nil)) E E) 0 E) hz1 fun A5 c5 ch2 hO2=> ?_;refine ⟨Kp [1,2] 4 E,?_⟩
 refine Pt E E (Jt E (Pt E E (ZR (o':=17) E E E E E E (Yc E (J1 (Qep E (Q5 (vs:=[.slice A5 l1.length c5]) E E E E E E (ST_ (L':=([(g3,.cells #[.int .i64 stop1,.int .i64 w1.place.node,.int .i64 arrive1,.int .i64 start1,.int .i64 w1.place.time,.int .i64 w1.place.load] 158 (0,0))]::[(g1,.cells #[.int .i64 w1.place.node,.int .i64 w1.place.time,.int .i64 w1.place.load,.int .i64 w1.place.meters,.int .i64 w1.p.Road.Nodes,.slice A1 w1.p.Road.Edges.length c1,.slice A2 w1.p.Vehicles.length c2,.slice A3 w1.p.Demands.length c3,.int .i64 w1.p.Unload,.int .i64 w1.p.UnloadSecs,.string w1.v.ID,.int .i64 w1.v.Depot,.int .i64 w1.v.Shift.From,.int .i64 w1.v.Shift.To,.int .i64 w1.v.Grams,.int .i64 w1.v.Kinds,.map (some g2),.slice A5 l1.length c5] 97 (0,0))]::[(g2,.map es1 cn1)]::ch2::L)) 1 0 E E E E ?_))))))));apply JS;cases h;exact Rt [] E E (Ug [[1,2,3]] 4 (hR _ ⟨g1,A1,c1,A2,c2,A3,c3,g2,es1,cn1,A5,c5,ch2,rfl,rfl,⟨hl1,hA1⟩,⟨hl2,hA2⟩,⟨hl3,hA3⟩,hM1,hO2⟩))
theorem Qcq {F:Nat} {w1:Qs} {t1:Ql} {i1:Int} {pv1:Value} {so1:Seg} {A1:Option Addr} {c1:Nat} {res1:Int} {res2:Qs}
  (hP1:Qy μ pv1 w1 so1) (hl1:t1.Stops.length≤c1∧c1≤maxLen) (hA1:Rds QD μ L A1 t1.Stops) (h:Jh F w1 t1 i1=some (res1,res2))
  (hR: ∀(μ':Gh) (sp0:Seg),μ.le μ'→Qy μ' pv1 res2 sp0→R (.int .i64 res1) μ' (sp0::L)) :
  Fn Tryz.prog 65 [pv1,.agg #[.int .i64 t1.Vehicle,.slice A1 t1.Stops.length c1],.int .i64 i1] μ (so1::L) R:=by
 unfold Jh at h;refine FnS Tryz.func65 (by kernel_rfl) E Tryz.ntmps65 E E ?_;refine G0 2 E (Al E fun _=>Q1 7 [0] E (Ix h hA1 E E fun _ _ _ _ hr1 hc1 _ h=> ?_));obtain rfl:=hr1;obtain ⟨g2,A2,c2,A3,c3,A4,c4,g3,es1,cn1,A5,c5,ch1,hv1,rfl,⟨hl2,hA3⟩,⟨hl3,hA4⟩,⟨hl4,hA5⟩,hM1,hO1⟩:=hP1;subst hv1;refine Q3 4 [] [] [64] (Z1 (hc1.push.push)) E (In Qy.fl 1 4 E E E (G1 14 [1] E ?_));refine Cut h (fun f l o_ f_ μ_ l_=> ∃(node1:Int),(.inl node1)=o_∧Qg ((8,.int .i64 node1)::Qm [0,7] f) f_∧Qc (QS [] 1 l) l_) ?_ ?_
 ·intro _ h2361 h;refine Br h2361 25 E E (fun hc2 h2361=> ?_) (fun hc2 h2361=> ?_)
  ·refine G2 3 [25] [] [] E ?_;refine Cut h2361 (fun f l o_ f_ μ_ l_=> ∃(v1:Bool),v1=o_∧Qg ((37,.bool v1)::Qm [0,2,4,7] f) f_∧Qc (QS [some 1,some 2,some 3,some 0] 4 l) l_) ?_ ?_
   ·intro _ h2362 h2361;refine G0 4 E ?_;refine Br h2362 28 E E (fun hc3 h2362=> ?_) (fun hc3 h2362=> ?_)
    ·refine G2 10 [28] [] [] E ?_;cases h2362;exact Ce E ⟨_,rfl,fE E,sE [some 1,some 2,some 3,some 0] 4 E⟩
    refine G2 10 [] [28] [1] E ?_;cases h2362;exact Ce E ⟨_,rfl,fE E,sE [some 1,some 2,some 3,some 0] 4 E⟩
   rintro _ _ _ _ h2361 hm2362 ⟨v1,rfl,hF2362,hS2362⟩;replace hA1:=hA1.mono hm2362;replace hA3:=hA3.mono hm2362;replace hA4:=hA4.mono hm2362;replace hA5:=hA5.mono hm2362;replace hM1:=hM1.mono hm2362;replace hO1:=hO1.mono hm2362;refine Atn 4 hF2362 hS2362 E E ?_;refine Br h2361 37 E E (fun hc4 h2361=> ?_) (fun hc4 h2361=> ?_)
   ·refine G2 5 [37] [] [] E ?_;cases h2361;replace h:=YE h;cases h;exact Rt [] E E (Ug [[0,1,2]] 4 (hR _ _ hm2362 ⟨g2,A2,c2,A3,c3,A4,c4,g3,es1,cn1,A5,c5,ch1,rfl,rfl,⟨hl2,hA3⟩,⟨hl3,hA4⟩,⟨hl4,hA5⟩,hM1,hO1⟩))
   obtain ⟨_,hs1,h2361⟩:=Qf h2361;refine G2 8 [] [37] [3] E (Rdo E E (QaE E E E E E E hl1.1 hs1 ?_));have hA6:=Rds.pre hA1 hs1;have hl5:=Qbu hl1 hs1;refine Q0 1 E (Cl E ?_);obtain ⟨_,hx2,h2361⟩:=Qf h2361;refine WT hl5 (Rds.push (Rds.push (Rds.push (Rds.push hA6)))) hx2 ((Q0 1 E ?_));refine Br h2361 43 E E (fun hc5 h2361=> ?_) (fun hc5 h2361=> ?_)
   ·refine G2 5 [43] [] [] E ?_;cases h2361;replace h:=YE h;cases h;exact Rt [] E E (Ug [[0,1,2]] 4 (hR _ _ hm2362 ⟨g2,A2,c2,A3,c3,A4,c4,g3,es1,cn1,A5,c5,ch1,rfl,rfl,⟨hl2,hA3⟩,⟨hl3,hA4⟩,⟨hl4,hA5⟩,hM1,hO1⟩))
   refine G2 4 [] [43] [] E (Dr _ QI.refl [(true,0),(true,1),(true,2),(true,3),(true,4),(true,5),(true,6),(true,7),(true,8),(true,9),(true,10),(true,11),(true,12),(false,13),(true,14)] (by kernel_rfl) (G1 10 [0,0] E (Ix h2361 (Qj.rds hA5 L) E E fun _ _ _ _ hr2 hc6 _ h2361=> ?_)));obtain rfl:=hr2;refine Q3 2 [] [] [66] (Z1 (hc6.push.push.push.push)) E (Cl E ?_);obtain ⟨_,hx4,h2361⟩:=Qf h2361;refine Qcr  hx4 (?_);refine ⟨QI.refl,?_⟩;refine Q0 2 E ?_;refine Br h2361 58 E E (fun hc7 h2361=> ?_) (fun hc7 h2361=> ?_)
   ·refine G2 5 [58] [] [] E ?_;cases h2361;replace h:=YE h;cases h;exact Rt [] E E (Ug [[0,1,2]] 4 (hR _ _ hm2362 ⟨g2,A2,c2,A3,c3,A4,c4,g3,es1,cn1,A5,c5,ch1,rfl,rfl,⟨hl2,hA3⟩,⟨hl3,hA4⟩,⟨hl4,hA5⟩,hM1,hO1⟩))
   refine G2 9 [] [58] [0] E (Ix h2361 (Qj.rds hA5 L) E E fun _ _ _ _ hr3 hc8 _ h2361=> ?_);obtain rfl:=hr3;refine Q3 4 [] [] [65] (Z1 (hc8.push.push.push.push)) E ?_;cases h2361;exact Ce E ⟨_,rfl,fE E,sE [some 0,some 1,some 2] 4 E⟩
  refine G2 2 [] [25] [] E ?_;cases h2361;exact Ce E ⟨_,rfl,fE E,sE [some 1,some 2,some 3] 4 E⟩
 rintro _ _ μ2361 _ h hm2361 ⟨node1,rfl,hF2361,hS2361⟩;replace h:=Zc h;replace hA3:=hA3.mono hm2361;replace hA4:=hA4.mono hm2361;replace hA5:=hA5.mono hm2361;replace hM1:=hM1.mono hm2361;replace hO1:=hO1.mono hm2361;refine Atn 3 hF2361 hS2361 E E (G0 4 E (Cl E ?_));have hP2:Qy μ2361 (.pointer (some ⟨g2,0,none⟩)) w1 _:=⟨g2,A2,c2,A3,c3,A4,c4,g3,es1,cn1,A5,c5,ch1,rfl,rfl,⟨hl2,hA3⟩,⟨hl3,hA4⟩,⟨hl4,hA5⟩,hM1,hO1⟩
 refine Fn.gp [[0,1,2]] 3 1 E ?_;obtain ⟨⟨r3,_,r5⟩,hx6,h⟩:=Qf h;replace h:=Qh h;replace h:=Qh h;refine QaA hP2 hx6 (fun v2 _ hm_1 hP3=> ?_);refine Q0 3 E (Al E fun g4=>Q1 9 [0] E ?_);refine Br h 75 E E (fun hc9 h=> ?_) (fun hc9 h=> ?_)
 ·refine G2 5 [75] [] [] E ?_;cases h;exact Rt [] E E (Ug [[1]] 2 (hR _ _ (hm2361.trans hm_1) hP3))
 obtain ⟨_,A6,c6,A7,c7,A8,c8,g6,es2,cn2,A9,c9,ch2,hv2,rfl,⟨hl6,hA9⟩,⟨hl7,hA10⟩,⟨hl8,hA11⟩,hM2,hO2⟩:=hP3;replace hv2:=Vh hv2;subst hv2;refine G2 3 [] [75] [] E (In Qy.fl 1 4 E E E (Drk [1] 3 E [(true,0),(true,1),(true,2),(true,3),(true,4),(false,5)] (by kernel_rfl) (G1 5 [0] E (Cl E (FnS Tryz.func85 (by kernel_rfl) E Tryz.ntmps85 E E (G0 2 E (Al E fun g7=>Q1 10 [2] E (Drk [2] 4 E [(true,0),(true,1),(true,2),(true,4),(true,5),(false,3),(true,6),(true,7),(true,8),(false,9)] (by kernel_rfl) (G1 5 [0] E (So E (VG E (Zq E E E (Ex.mk _ (ZW.seg 2 0 E E E) ?_)))))))))))));refine ⟨Kp [0,1,3,4] 5 E,?_⟩;refine Q0 3 E (So E (Q5 (vs:=[.int .i64 (w64 (r5.place.time+r3.Secs))]) E E E E E E (ST_ (L':=([(g7,.cells #[.int .i64 r3.Secs,.int .i64 r3.Meters] 100 (0,0))]::[(g4,.cells #[.int .i64 r3.Secs,.int .i64 r3.Meters] 100 (0,0))]::[(g2,.cells #[.int .i64 node1,.int .i64 (w64 (r5.place.time+r3.Secs)),.int .i64 r5.place.load,.int .i64 r5.place.meters,.int .i64 r5.p.Road.Nodes,.slice A6 r5.p.Road.Edges.length c6,.slice A7 r5.p.Vehicles.length c7,.slice A8 r5.p.Demands.length c8,.int .i64 r5.p.Unload,.int .i64 r5.p.UnloadSecs,.string r5.v.ID,.int .i64 r5.v.Depot,.int .i64 r5.v.Shift.From,.int .i64 r5.v.Shift.To,.int .i64 r5.v.Grams,.int .i64 r5.v.Kinds,.map (some g6),.slice A9 r5.visits.length c9] 97 (0,0))]::[(g6,.map es2 cn2)]::ch2::L)) 2 0 E E E E ?_)));refine ⟨Kp [0,1,3,4] 5 E,?_⟩;refine Q0 1 E (Drk [2] 4 E [(true,0),(true,1),(true,2),(true,4),(true,5),(false,3),(true,6),(true,7),(true,8),(false,9)] (by kernel_rfl) (G1 5 [0] E (So E (VG E (Zq E E E (Ex.mk _ (ZW.seg 2 0 E E E) ?_))))));refine ⟨Kp [0,1,3,4] 5 E,?_⟩;refine Q0 3 E (So E (Q5 (vs:=[.int .i64 (w64 (r5.place.meters+r3.Meters))]) E E E E E E (ST_ (L':=([(g7,.cells #[.int .i64 r3.Secs,.int .i64 r3.Meters] 100 (0,0))]::[(g4,.cells #[.int .i64 r3.Secs,.int .i64 r3.Meters] 100 (0,0))]::[(g2,.cells #[.int .i64 node1,.int .i64 (w64 (r5.place.time+r3.Secs)),.int .i64 r5.place.load,.int .i64 (w64 (r5.place.meters+r3.Meters)),.int .i64 r5.p.Road.Nodes,.slice A6 r5.p.Road.Edges.length c6,.slice A7 r5.p.Vehicles.length c7,.slice A8 r5.p.Demands.length c8,.int .i64 r5.p.Unload,.int .i64 r5.p.UnloadSecs,.string r5.v.ID,.int .i64 r5.v.Depot,.int .i64 r5.v.Shift.From,.int .i64 r5.v.Shift.To,.int .i64 r5.v.Grams,.int .i64 r5.v.Kinds,.map (some g6),.slice A9 r5.visits.length c9] 97 (0,0))]::[(g6,.map es2 cn2)]::ch2::L)) 2 0 E E E E ?_)));refine ⟨Kp [0,1,3,4] 5 E,?_⟩;refine Q0 1 E (Rt [] E E (Upd.done ?_));refine ⟨Kp [1,3,4] 5 E,?_⟩;refine Q1 16 [2] E ?_;refine Br h 88 E E (fun hc10 h=> ?_) (fun hc10 h=> ?_)
 ·refine G2 2 [88] [] [] E (Cd (WP.drawB (id:=17) (l':=List.replicate 14 true++[false]) QeL QU _ QI.refl 14 [] [(true,0),(true,1),(true,2),(true,3),(true,4),(true,5),(true,6),(true,7),(true,8),(true,9),(true,10),(true,11),(true,12),(true,13)] (by kernel_rfl) (by kernel_rfl) [] E (by kernel_rfl) (by kernel_rfl) (Qct E (YY E (Pt E E (Jt E (Pt E E (ZR (o':=0) E E E E E E (Pt E E (ZR (o':=1) E E E E E E (Pt E E (Zq E E E (Ex.mk _ (ZW.seg 2 0 E E E) ?_)))))))))))));refine Pt E E (YY E (Pt E E (Jt E (Pt E E (ZR (o':=4) E E E E E E (Pt E E (ZR (o':=9) E E E E E E (Pt E E (Zq E E E (Ex.mk _ (ZW.seg 2 0 E E E) (Pt E E ?_)))))))))));refine Qki E E (Pt E E (Jt E (Pt E E (ZR (o':=0) E E E E E E (Pt E E (ZR (o':=1) E E E E E E (Yc E (J1 (Qep E (Q5 (vs:=[.int .i64 (w64 ((w64 (r5.place.time+r3.Secs))+r5.p.UnloadSecs))]) E E E E E E (ST_ (L':=([(g7,.cells #[.int .i64 r3.Secs,.int .i64 r3.Meters] 100 (0,0))]::[(g4,.cells #[.int .i64 r3.Secs,.int .i64 r3.Meters] 100 (0,0))]::[(g2,.cells #[.int .i64 node1,.int .i64 (w64 ((w64 (r5.place.time+r3.Secs))+r5.p.UnloadSecs)),.int .i64 r5.place.load,.int .i64 (w64 (r5.place.meters+r3.Meters)),.int .i64 r5.p.Road.Nodes,.slice A6 r5.p.Road.Edges.length c6,.slice A7 r5.p.Vehicles.length c7,.slice A8 r5.p.Demands.length c8,.int .i64 r5.p.Unload,.int .i64 r5.p.UnloadSecs,.string r5.v.ID,.int .i64 r5.v.Depot,.int .i64 r5.v.Shift.From,.int .i64 r5.v.Shift.To,.int .i64 r5.v.Grams,.int .i64 r5.v.Kinds,.map (some g6),.slice A9 r5.visits.length c9] 97 (0,0))]::[(g6,.map es2 cn2)]::ch2::L)) 2 0 E E E E ?_)))))))))));refine JS (G1 14 [2] E (Cl E ?_));have hP4:Qy v2 (.pointer (some ⟨g2,0,none⟩)) (Qs.mk (Y8.mk node1 (w64 ((w64 (r5.place.time+r3.Secs))+r5.p.UnloadSecs)) 0 (w64 (r5.place.meters+r3.Meters))) r5.p r5.v r5.legs r5.visits) _:=⟨g2,A6,c6,A7,c7,A8,c8,g6,es2,cn2,A9,c9,ch2,rfl,rfl,⟨hl6,hA9⟩,⟨hl7,hA10⟩,⟨hl8,hA11⟩,hM2,hO2⟩
  refine Fn.gp [[2,3,4],[0],[1]] 5 3 E ?_;obtain ⟨_,hx7,h⟩:=Qf h;refine WU hP4 hx7 (fun _ hP5=>Q0 5 E ?_);cases h;exact Rt [] E E (Ug [[0]] 3 (hR _ _ (hm2361.trans hm_1) hP5))
 refine G2 10 [] [88] [2] E (Ix h (Qj.rds hA11 L) E E fun x4 _ _ _ hr4 hc11 _ h=> ?_);obtain rfl:=hr4;refine Q3 1 [] [] [64] (Z1 (hc11.push.push.push.push.push)) E (Al E fun g8=>Q1 20 [0,0,0] E ?_);refine Br h 129 E E (fun hc12 h=> ?_) (fun hc12 h=> ?_)
 ·refine G2 5 [129] [] [] E ?_;cases h;exact Rt [] E E (Ug [[3,4,5]] 6 (hR _ _ (hm2361.trans hm_1) ⟨g2,A6,c6,A7,c7,A8,c8,g6,es2,cn2,A9,c9,ch2,rfl,rfl,⟨hl6,hA9⟩,⟨hl7,hA10⟩,⟨hl8,hA11⟩,hM2,hO2⟩))
 refine G2 4 [] [129] [] E (Dr _ QI.refl [(true,0),(true,1),(true,2),(true,3),(true,4),(true,5),(true,6),(true,7),(true,8),(true,9),(true,10),(true,11),(true,12),(true,13)] (by kernel_rfl) (G1 15 [3,0,3] E ?_));refine Br h 143 E E (fun hc13 h=> ?_) (fun hc13 h=> ?_)
 ·refine G2 5 [143] [] [] E ?_;cases h;exact Rt [] E E (Ug [[3,4,5]] 6 (hR _ _ (hm2361.trans hm_1) ⟨g2,A6,c6,A7,c7,A8,c8,g6,es2,cn2,A9,c9,ch2,rfl,rfl,⟨hl6,hA9⟩,⟨hl7,hA10⟩,⟨hl8,hA11⟩,hM2,hO2⟩))
 refine G2 15 [] [143] [0,3] E (Drk [3] 5 E [(true,0),(true,1),(true,2),(true,3),(true,5),(true,6),(false,4),(true,7),(true,8),(true,9),(true,10),(false,11)] (by kernel_rfl) (G1 6 [0] E (So E (VG E (Zq E E E (Ex.mk _ (ZW.seg 3 0 E E E) ?_))))));refine ⟨Kp [0,1,2,4,5] 6 E,?_⟩;refine Q0 4 E (So E (Q5 (vs:=[.int .i64 (w64 (r5.place.load+x4.Grams))]) E E E E E E (ST_ (L':=([(g8,.cells #[.int .i64 x4.Container,.int .i64 x4.Node,.int .i64 x4.Kind,.int .i64 x4.Grams,.int .i64 x4.When.From,.int .i64 x4.When.To,.int .i64 x4.Service] 65 (0,0))]::[(g7,.cells #[.int .i64 r3.Secs,.int .i64 r3.Meters] 100 (0,0))]::[(g4,.cells #[.int .i64 r3.Secs,.int .i64 r3.Meters] 100 (0,0))]::[(g2,.cells #[.int .i64 node1,.int .i64 (w64 ((max (w64 (r5.place.time+r3.Secs)) x4.When.From)+x4.Service)),.int .i64 (w64 (r5.place.load+x4.Grams)),.int .i64 (w64 (r5.place.meters+r3.Meters)),.int .i64 r5.p.Road.Nodes,.slice A6 r5.p.Road.Edges.length c6,.slice A7 r5.p.Vehicles.length c7,.slice A8 r5.p.Demands.length c8,.int .i64 r5.p.Unload,.int .i64 r5.p.UnloadSecs,.string r5.v.ID,.int .i64 r5.v.Depot,.int .i64 r5.v.Shift.From,.int .i64 r5.v.Shift.To,.int .i64 r5.v.Grams,.int .i64 r5.v.Kinds,.map (some g6),.slice A9 r5.visits.length c9] 97 (0,0))]::[(g6,.map es2 cn2)]::ch2::L)) 3 0 E E E E ?_)));refine ⟨Kp [0,1,2,4,5] 6 E,?_⟩;refine Q0 7 E (Cl E ?_);have hP6:Qy v2 (.pointer (some ⟨g2,0,none⟩)) (Qs.mk (Y8.mk node1 (w64 ((max (w64 (r5.place.time+r3.Secs)) x4.When.From)+x4.Service)) (w64 (r5.place.load+x4.Grams)) (w64 (r5.place.meters+r3.Meters))) r5.p r5.v r5.legs r5.visits) _:=⟨g2,A6,c6,A7,c7,A8,c8,g6,es2,cn2,A9,c9,ch2,rfl,rfl,⟨hl6,hA9⟩,⟨hl7,hA10⟩,⟨hl8,hA11⟩,hM2,hO2⟩
 refine Fn.gp [[3,4,5],[0],[1],[2]] 6 4 E ?_;obtain ⟨_,hx9,h⟩:=Qf h;refine WU hP6 hx9 (fun _ hP7=>Q0 5 E ?_);cases h;exact Rt [] E E (Ug [[0]] 4 (hR _ _ (hm2361.trans hm_1) hP7))
theorem QcR {F:Nat} {w1:Qs} {pv1:Value} {so1:Seg} {res1:Int} {res2:Qs}
  (hP1:Qy μ pv1 w1 so1) (h:JB F w1=some (res1,res2))
  (hR: ∀(μ':Gh) (sp0:Seg),μ.le μ'→Qy μ' pv1 res2 sp0→R (.int .i64 res1) μ' (sp0::L)) :
  Fn Tryz.prog 66 [pv1] μ (so1::L) R:=by
 unfold JB at h;refine FnS Tryz.func66 (by kernel_rfl) E Tryz.ntmps66 E E ?_;obtain ⟨g1,A1,c1,A2,c2,A3,c3,g2,es1,cn1,A4,c4,ch1,hv1,rfl,⟨hl1,hA1⟩,⟨hl2,hA2⟩,⟨hl3,hA3⟩,hM1,hO1⟩:=hP1;subst hv1;refine G0 5 E (In Qy.fl 0 3 E E E (G1 7 [0] E (Cl E ?_)));have hP2:Qy μ (.pointer (some ⟨g1,0,none⟩)) w1 _:=⟨g1,A1,c1,A2,c2,A3,c3,g2,es1,cn1,A4,c4,ch1,rfl,rfl,⟨hl1,hA1⟩,⟨hl2,hA2⟩,⟨hl3,hA3⟩,hM1,hO1⟩
 refine Fn.gp [[0,1,2]] 3 1 E ?_;obtain ⟨⟨r1,_,r3⟩,hx1,h⟩:=Qf h;replace h:=Qh h;replace h:=Qh h;refine QaA hP2 hx1 (fun v1 _ hm_1 hP3=> ?_);refine Q0 3 E (Al E fun g3=>Q1 9 [0] E ?_);refine Br h 16 E E (fun hc1 h=> ?_) (fun hc1 h=> ?_)
 ·refine G2 5 [16] [] [] E ?_;cases h;exact Rt [] E E (Ug [[1]] 2 (hR _ _ hm_1 hP3))
 obtain ⟨_,A5,c5,A6,c6,A7,c7,g5,es2,cn2,A8,c8,ch2,hv2,rfl,⟨hl4,hA4⟩,⟨hl5,hA5⟩,⟨hl6,hA6⟩,hM2,hO2⟩:=hP3;replace hv2:=Vh hv2;subst hv2;refine G2 4 [] [16] [] E (In Qy.fl 1 4 E E E (G1 8 [1] E ?_));refine Br h 22 E E (fun hc2 h=> ?_) (fun hc2 h=> ?_)
 ·refine G2 5 [22] [] [] E ?_;cases h;exact Rt [] E E (Ug [[1,2,3]] 4 (hR _ _ hm_1 ⟨g1,A5,c5,A6,c6,A7,c7,g5,es2,cn2,A8,c8,ch2,rfl,rfl,⟨hl4,hA4⟩,⟨hl5,hA5⟩,⟨hl6,hA6⟩,hM2,hO2⟩))
 refine G2 3 [] [22] [] E (Drk [1] 3 E [(true,0),(true,1),(true,2),(true,3),(true,4),(true,5),(true,6),(true,8),(false,7),(false,9)] (by kernel_rfl) (G1 8 [0] E (So E (VG E (Zq E E E (Ex.mk _ (ZW.seg 1 0 E E E) ?_))))));refine ⟨Kp [0,2,3] 4 E,?_⟩;refine Q0 0 E (Cl E (FnS Tryz.func85 (by kernel_rfl) E Tryz.ntmps85 E E (G0 2 E (Al E fun g6=>Q1 10 [2] E (Drk [2] 4 E [(true,0),(true,1),(true,2),(true,4),(true,5),(false,3),(true,6),(true,7),(true,8),(false,9)] (by kernel_rfl) (G1 5 [0] E (So E (VG E (Zq E E E (Ex.mk _ (ZW.seg 2 0 E E E) ?_))))))))));refine ⟨Kp [0,1,3,4] 5 E,?_⟩;refine Q0 3 E (So E (Q5 (vs:=[.int .i64 (w64 (r3.place.time+r1.Secs))]) E E E E E E (ST_ (L':=([(g6,.cells #[.int .i64 r1.Secs,.int .i64 r1.Meters] 100 (0,0))]::[(g3,.cells #[.int .i64 r1.Secs,.int .i64 r1.Meters] 100 (0,0))]::[(g1,.cells #[.int .i64 r3.v.Depot,.int .i64 (w64 (r3.place.time+r1.Secs)),.int .i64 r3.place.load,.int .i64 r3.place.meters,.int .i64 r3.p.Road.Nodes,.slice A5 r3.p.Road.Edges.length c5,.slice A6 r3.p.Vehicles.length c6,.slice A7 r3.p.Demands.length c7,.int .i64 r3.p.Unload,.int .i64 r3.p.UnloadSecs,.string r3.v.ID,.int .i64 r3.v.Depot,.int .i64 r3.v.Shift.From,.int .i64 r3.v.Shift.To,.int .i64 r3.v.Grams,.int .i64 r3.v.Kinds,.map (some g5),.slice A8 r3.visits.length c8] 97 (0,0))]::[(g5,.map es2 cn2)]::ch2::L)) 2 0 E E E E ?_)));refine ⟨Kp [0,1,3,4] 5 E,?_⟩;refine Q0 1 E (Drk [2] 4 E [(true,0),(true,1),(true,2),(true,4),(true,5),(false,3),(true,6),(true,7),(true,8),(false,9)] (by kernel_rfl) (G1 5 [0] E (So E (VG E (Zq E E E (Ex.mk _ (ZW.seg 2 0 E E E) ?_))))));refine ⟨Kp [0,1,3,4] 5 E,?_⟩;refine Q0 3 E (So E (Q5 (vs:=[.int .i64 (w64 (r3.place.meters+r1.Meters))]) E E E E E E (ST_ (L':=([(g6,.cells #[.int .i64 r1.Secs,.int .i64 r1.Meters] 100 (0,0))]::[(g3,.cells #[.int .i64 r1.Secs,.int .i64 r1.Meters] 100 (0,0))]::[(g1,.cells #[.int .i64 r3.v.Depot,.int .i64 (w64 (r3.place.time+r1.Secs)),.int .i64 r3.place.load,.int .i64 (w64 (r3.place.meters+r1.Meters)),.int .i64 r3.p.Road.Nodes,.slice A5 r3.p.Road.Edges.length c5,.slice A6 r3.p.Vehicles.length c6,.slice A7 r3.p.Demands.length c7,.int .i64 r3.p.Unload,.int .i64 r3.p.UnloadSecs,.string r3.v.ID,.int .i64 r3.v.Depot,.int .i64 r3.v.Shift.From,.int .i64 r3.v.Shift.To,.int .i64 r3.v.Grams,.int .i64 r3.v.Kinds,.map (some g5),.slice A8 r3.visits.length c8] 97 (0,0))]::[(g5,.map es2 cn2)]::ch2::L)) 2 0 E E E E ?_)));refine ⟨Kp [0,1,3,4] 5 E,?_⟩;refine Q0 1 E (Rt [] E E (Upd.done ?_));refine ⟨Kp [1,3,4] 5 E,?_⟩;refine Q0 3 E (Dr _ QI.refl [(true,0),(true,1),(true,2),(true,3),(true,4),(true,5),(true,6),(true,7),(true,8),(true,9),(true,10),(true,11)] (by kernel_rfl) (G1 13 [2,2] E ?_));refine Br h 44 E E (fun hc3 h=> ?_) (fun hc3 h=> ?_)
 ·refine G2 5 [44] [] [] E ?_;cases h;exact Rt [] E E (Ug [[2,3,4]] 5 (hR _ _ hm_1 ⟨g1,A5,c5,A6,c6,A7,c7,g5,es2,cn2,A8,c8,ch2,rfl,rfl,⟨hl4,hA4⟩,⟨hl5,hA5⟩,⟨hl6,hA6⟩,hM2,hO2⟩))
 refine G2 3 [] [44] [] E (Cd (WP.drawB (id:=9) (l':=List.replicate 11 true++[false]) QeL QU _ QI.refl 11 [] [(true,0),(true,1),(true,2),(true,3),(true,4),(true,5),(true,6),(true,7),(true,8),(true,9),(true,10)] (by kernel_rfl) (by kernel_rfl) [] E (by kernel_rfl) (by kernel_rfl) (Qct E (YY E (Pt E E (YY E (Pt E E (Jt E (Pt E E (ZR (o':=0) E E E E E E (Pt E E (ZR (o':=1) E E E E E E (Yc E ?_)))))))))))));refine Qct E (Zq E E E (Ex.mk _ (ZW.seg 2 0 E E E) (Pt E E (YY E (Pt E E (Jt E (Pt E E (ZR (o':=0) E E E E E E (Pt E E (ZR (o':=1) E E E E E E (Pt E E (Zq E E E ?_))))))))))));refine Ex.mk _ (ZW.seg 2 0 E E E) (Yc E (J1 (Qep E (Qbc (all:=[.pointer (some ⟨g1,0,none⟩),.int .i64 (-2),.int .i64 (w64 (r3.place.time+r1.Secs)),.int .i64 (w64 (r3.place.time+r1.Secs))]) E E E ?_))));have hP4:Qy v1 (.pointer (some ⟨g1,0,none⟩)) (Qs.mk (Y8.mk r3.v.Depot (w64 (r3.place.time+r1.Secs)) r3.place.load (w64 (r3.place.meters+r1.Meters))) r3.p r3.v r3.legs r3.visits) _:=⟨g1,A5,c5,A6,c6,A7,c7,g5,es2,cn2,A8,c8,ch2,rfl,rfl,⟨hl4,hA4⟩,⟨hl5,hA5⟩,⟨hl6,hA6⟩,hM2,hO2⟩
 refine Fn.gp [[2,3,4],[0],[1]] 5 3 E ?_;obtain ⟨_,hx2,h⟩:=Qf h;refine WU hP4 hx2 (fun _ hP5=>Yc E (G0 4 E ?_));cases h;exact Rt [] E E (Ug [[0]] 3 (hR _ _ hm_1 hP5))
theorem QeH {F:Nat} {p1:Qb} {t1:Ql} {A1:Option Addr} {c1:Nat} {A2:Option Addr} {c2:Nat} {A3:Option Addr} {c3:Nat} {A4:Option Addr} {c4:Nat} {res1:(Option Qs)} {res2:Int} {res3:Int}
  (hl1:p1.Road.Edges.length≤c1∧c1≤maxLen) (hA1:Qj Qv μ A1 p1.Road.Edges) (hl2:p1.Vehicles.length≤c2∧c2≤maxLen) (hA2:Qj Qq μ A2 p1.Vehicles) (hl3:p1.Demands.length≤c3∧c3≤maxLen) (hA3:Qj Qr μ A3 p1.Demands) (hl4:t1.Stops.length≤c4∧c4≤maxLen) (hA4:Rds QD μ L A4 t1.Stops) (h:WE F p1 t1=some (res1,res2,res3))
  (hR: ∀(μ':Gh) (v0:Value) (so0:Seg),μ.le μ'→QdC Qy μ' v0 res1 so0→R (.tuple #[v0,.int .i64 res2,.int .i64 res3]) μ' (so0::L)) :
  Fn Tryz.prog 46 [.agg #[.int .i64 p1.Road.Nodes,.slice A1 p1.Road.Edges.length c1,.slice A2 p1.Vehicles.length c2,.slice A3 p1.Demands.length c3,.int .i64 p1.Unload,.int .i64 p1.UnloadSecs],.agg #[.int .i64 t1.Vehicle,.slice A4 t1.Stops.length c4]] μ (L) R:=by
 unfold WE at h;refine FnS Tryz.func46 (by kernel_rfl) E Tryz.ntmps46 E E ?_;refine G0 2 E (Al E fun _=>Q0 0 E (Al E fun g2=>Q0 7 E ?_));refine Cut h (fun f l o_ f_ μ_ l_=> ∃(v1:Bool),v1=o_∧Qg ((21,.bool v1)::Qm [2,3] f) f_∧Qc (QS [some 1,some 0] 2 l) l_) ?_ ?_
 ·intro _ h4332 h;refine G1 5 [0] E ?_;refine Br h4332 14 E E (fun hc1 h4332=> ?_) (fun hc1 h4332=> ?_)
  ·refine G2 8 [14] [] [] E ?_;cases h4332;exact Ce E ⟨_,rfl,fE E,sE [some 1,some 0] 2 E⟩
  refine G2 8 [] [14] [0,1] E ?_;cases h4332;exact Ce E ⟨_,rfl,fE E,sE [some 1,some 0] 2 E⟩
 rintro _ _ μ4332 _ h hm4332 ⟨v1,rfl,hF4332,hS4332⟩;replace hA1:=hA1.mono hm4332;replace hA2:=hA2.mono hm4332;replace hA3:=hA3.mono hm4332;replace hA4:=hA4.mono hm4332;refine Atn 2 hF4332 hS4332 E E ?_;refine Br h 21 E E (fun hc2 h=> ?_) (fun hc2 h=> ?_)
 ·refine G2 7 [21] [] [] E ?_;cases h;exact Rt [] E E (Ug [[]] 2 (hR _ (.pointer none) [] hm4332 QdC.nil))
 refine G2 10 [] [21] [1] E ?_;refine Br h 25 E E (fun hc3 h=> ?_) (fun hc3 h=> ?_)
 ·refine G2 7 [25] [] [] E ?_;cases h;exact Rt [] E E (Ug [[]] 2 (hR _ (.pointer none) [] hm4332 QdC.nil))
 refine G2 8 [] [25] [0,1] E (Ix h (Qj.rds hA2 L) E E fun x1 _ _ _ hr1 hc4 _ h=> ?_);obtain rfl:=hr1;refine Q3 1 [] [] [64] (Z1 (hc4.push.push)) E (Al E fun _=>Q1 12 [0,0,0,1,0] E (So E (QhI (fun g4=>Q0 1 E (Al E fun g5=> ?_)))));have hP1:Qy μ4332 (.pointer (some ⟨g5,0,none⟩)) (Qs.mk (Y8.mk x1.Depot x1.Shift.From 0 0) p1 x1 [] []) _:=⟨g5,A1,c1,A2,c2,A3,c3,g4, #[],0,none,0,[],rfl,rfl,⟨hl1,hA1⟩,⟨hl2,hA2⟩,⟨hl3,hA3⟩,(Qb9.nil (r:=QC)),Own.nil⟩
 refine Q0 10 E (Gp [[0,1,99],[2],[3],[4]] 5 4 E E ?_);refine Cut h (fun f l o_ f_ μ_ l_=> ∃(q2:Qs) (e2:Int) (f_at2:Int) (so3:Seg),(q2,e2,f_at2)=o_∧Qg ((9,.int .i64 e2)::(10,.int .i64 f_at2)::Qm [8] f) f_∧Qc (so3::QS [] 4 l) l_∧Qy μ_ (.pointer (some ⟨g5,0,none⟩)) q2 so3) ?_ ?_
 ·intro _ h4349 h;refine Lp h4349 (fun f l (j_:Qs×Int×Int) f_ μ_ l_=>JT j_ fun q1 j_=>JT j_ fun e1 f_at1=> ∃(so1:Seg),Qg ((9,.int .i64 e1)::(10,.int .i64 f_at1)::Qm [3,8] f) f_∧Qc ([(g2,.cells #[.int .i64 t1.Vehicle,.slice A4 t1.Stops.length c4] 33 (0,0))]::so1::QS [] 4 l) l_∧Qy μ_ (.pointer (some ⟨g5,0,none⟩)) q1 so1) ⟨((g5,Obj.cells #[.int .i64 x1.Depot,.int .i64 x1.Shift.From,.int .i64 0,.int .i64 0,.int .i64 p1.Road.Nodes,.slice A1 p1.Road.Edges.length c1,.slice A2 p1.Vehicles.length c2,.slice A3 p1.Demands.length c3,.int .i64 p1.Unload,.int .i64 p1.UnloadSecs,.string x1.ID,.int .i64 x1.Depot,.int .i64 x1.Shift.From,.int .i64 x1.Shift.To,.int .i64 x1.Grams,.int .i64 x1.Kinds,.map (some g4),.slice none 0 0] 97 (0,0))::((g4,Obj.map #[] 0)::[])),fE E,sE [some 3,some 0] 4 E,(hP1)⟩ ?_;rintro ⟨q1,e1,f_at1⟩ _ _ _ _ hm4362 ⟨so1,hF4362,hS4362,hP2⟩ hb4362 hq4362;unfold ZA at hb4362;replace hb4362:=Qh hb4362;replace hb4362:=Qh hb4362;replace hA4:=hA4.mono hm4362;refine Atn 2 hF4362 hS4362 E E (G1 9 [0] E ?_);refine Br hb4362 47 E E (fun hc5 hb4362=> ?_) (fun hc5 hb4362=> ?_)
  ·refine G2 9 [47] [] [0] E (Cl E (Fn.gp [[1],[0]] 2 2 E ?_));obtain ⟨⟨_,_⟩,hx2,hb4362⟩:=Qf hb4362;replace hb4362:=Qh hb4362;refine Qcq hP2 hl4 (Rds.push hA4) hx2 (fun _ so2 hm_1 hP3=> ?_);replace hP2:=hP2.mono hm_1;refine Q0 7 E ?_;refine Br hb4362 53 E E (fun hc6 hb4362=> ?_) (fun hc6 hb4362=> ?_)
   ·refine G2 2 [53] [] [] E ?_;cases hb4362;have hq_:=hq4362 _ E;subst hq_;exact Ce E ⟨_,_,_,so2,rfl,fE E,sE [some 0] 2 E,(hP3)⟩
   refine G2 8 [] [53] [] E ?_;cases hb4362;exact Ce E ⟨_,rfl,so2,fE E,sE [some 1,some 0] 2 E,(hP3)⟩
  refine G2 2 [] [47] [] E ?_;cases hb4362;have hq_:=hq4362 _ E;subst hq_;exact Ce E ⟨_,_,_,so1,rfl,fE E,sE [some 1] 2 E,(hP2)⟩
 rintro _ _ _ _ h hm4349 ⟨q2,e2,f_at2,so3,rfl,hF4349,hS4349,hP4⟩;replace h:=Qh h;replace h:=Qh h;refine Atn 1 hF4349 hS4349 E E (G0 6 E ?_);refine Cut h (fun f l o_ f_ μ_ l_=> ∃(q3:Qs) (e3:Int) (so5:Seg),(q3,e3)=o_∧Qg ((9,.int .i64 e3)::Qm [8,10] f) f_∧Qc (so5::QS [] 1 l) l_∧Qy μ_ (.pointer (some ⟨g5,0,none⟩)) q3 so5) ?_ ?_
 ·intro _ h4377 h;refine Br h4377 57 E E (fun hc7 h4377=> ?_) (fun hc7 h4377=> ?_)
  ·refine G2 3 [57] [] [] E (Cl E ?_);obtain ⟨⟨_,_⟩,hx3,h4377⟩:=Qf h4377;replace h4377:=Qh h4377;refine QcR hP4 hx3 (fun _ so4 hm_2 hP5=> ?_);replace hP4:=hP4.mono hm_2;refine Q0 2 E ?_;cases h4377;exact Ce E ⟨_,_,so4,rfl,fE E,sE [some 0] 1 E,(hP5)⟩
  refine G2 2 [] [57] [] E ?_;cases h4377;exact Ce E ⟨_,_,so3,rfl,fE E,sE [some 0] 1 E,(hP4)⟩
 rintro _ _ _ _ h hm4377 ⟨q3,e3,so5,rfl,hF4377,hS4377,hP6⟩;replace h:=Qh h;refine Atn 1 hF4377 hS4377 E E (G0 6 E ?_);refine Br h 61 E E (fun hc8 h=> ?_) (fun hc8 h=> ?_)
 ·refine G2 9 [61] [] [] E ?_;cases h;exact Rt [] E E (Ug [[]] 1 (hR _ (.pointer none) [] (hm4332.trans (hm4349.trans hm4377)) QdC.nil))
 refine G2 9 [] [61] [] E ?_;cases h;exact Rt [] E E (Ug [[0]] 1 (hR _ (.pointer (some ⟨g5,0,none⟩)) _ (hm4332.trans (hm4349.trans hm4377)) hP6))
theorem Qf8 {F:Nat} {p1:Qb} {t1:Ql} {A1:Option Addr} {c1:Nat} {A2:Option Addr} {c2:Nat} {A3:Option Addr} {c3:Nat} {A4:Option Addr} {c4:Nat} {res1:Int} {res2:Int}
  (hl1:p1.Road.Edges.length≤c1∧c1≤maxLen) (hA1:Qj Qv μ A1 p1.Road.Edges) (hl2:p1.Vehicles.length≤c2∧c2≤maxLen) (hA2:Qj Qq μ A2 p1.Vehicles) (hl3:p1.Demands.length≤c3∧c3≤maxLen) (hA3:Qj Qr μ A3 p1.Demands) (hl4:t1.Stops.length≤c4∧c4≤maxLen) (hA4:Rds QD μ L A4 t1.Stops) (h:Qaz F p1 t1=some (res1,res2))
  (hR: ∀(μ':Gh) ,μ.le μ'→R (.tuple #[.int .i64 res1,.int .i64 res2]) μ' (L)) :
  Fn Tryz.prog 31 [.agg #[.int .i64 p1.Road.Nodes,.slice A1 p1.Road.Edges.length c1,.slice A2 p1.Vehicles.length c2,.slice A3 p1.Demands.length c3,.int .i64 p1.Unload,.int .i64 p1.UnloadSecs],.agg #[.int .i64 t1.Vehicle,.slice A4 t1.Stops.length c4]] μ (L) R:=by
 unfold Qaz at h;refine FnS Tryz.func31 (by kernel_rfl) E Tryz.ntmps31 E E ?_;refine G0 2 E (Al E fun _=>Q0 0 E (Al E fun _=>Q1 7 [1] E (Cl E ?_)));obtain ⟨_,hx1,h⟩:=Qf h;refine Qb6 hl1 hA1 hl2 hA2 hl3 hA3 hx1 (fun _ hm_1=> ?_);replace hA1:=hA1.mono hm_1;replace hA2:=hA2.mono hm_1;replace hA3:=hA3.mono hm_1;replace hA4:=hA4.mono hm_1;refine Q0 7 E ?_;refine Br h 13 E E (fun hc1 h=> ?_) (fun hc1 h=> ?_)
 ·refine G2 7 [13] [] [] E ?_;cases h;exact Rt [] E E (Ug [] 2 (hR _ hm_1))
 refine G2 6 [] [13] [1,0] E (Cl E ?_);obtain ⟨⟨_,_,_⟩,hx2,h⟩:=Qf h;replace h:=Qh h;replace h:=Qh h;refine QeH hl1 hA1 hl2 hA2 hl3 hA3 hl4 (Rds.push (Rds.push hA4)) hx2 (fun _ _ _ hm_2 hP1=> ?_);refine Q0 14 E ?_;refine Br h 23 E E (fun hc2 h=> ?_) (fun hc2 h=> ?_)
 ·refine G2 7 [23] [] [] E ?_;cases h;exact Rt [] E E (Ug [] 3 (hR _ (hm_1.trans hm_2)))
 obtain ⟨_,hm_3,h⟩:=Qf h;have hP2:=QdC.get hP1 hm_3;obtain ⟨_,_,_,_,_,_,_,_,_,_,_,_,_,hv1,rfl,⟨_,_⟩,⟨_,_⟩,⟨_,_⟩,_,_⟩:=hP2;subst hv1;refine G2 3 [] [23] [] E (In Qy.fl 0 5 E E E (G1 9 [0] E ?_));cases h;exact Rt [] E E (Ug [] 5 (hR _ (hm_1.trans hm_2)))
theorem Qal  {x1:Int}  {res1:Bool}
   (h:Wo x1=some res1)
  (hR:R (.bool res1) μ (L)) :
  Fn Tryz.prog 58 [.int .i64 x1] μ (L) R:=by
 unfold Wo at h;refine FnS Tryz.func58 (by kernel_rfl) E Tryz.ntmps58 E E ?_;refine G0 11 E ?_;cases h;exact Rt [] E E (Ug [] 0 hR)
theorem Qcb  {x1:Int} {y1:Int}  {res1:Int}
   (h:JK x1 y1=some res1)
  (hR:R (.int .i64 res1) μ (L)) :
  Fn Tryz.prog 39 [.int .i64 x1,.int .i64 y1] μ (L) R:=by
 unfold JK at h;refine FnS Tryz.func39 (by kernel_rfl) E Tryz.ntmps39 E E ?_;refine G0 7 E (Cl E ?_);obtain ⟨_,hx1,h⟩:=Qf h;refine Qal  hx1 ((Q0 5 E (Cl E ?_)));obtain ⟨_,hx2,h⟩:=Qf h;refine Qal  hx2 ((Q0 7 E ?_));refine Br h 11 E E (fun hc1 h=> ?_) (fun hc1 h=> ?_)
 ·refine G2 6 [11] [] [] E ?_;refine Br h 12 E E (fun hc2 h=> ?_) (fun hc2 h=> ?_)
  ·refine G2 5 [12] [] [] E ?_;cases h;exact Rt [] E E (Ug [] 0 hR)
  refine G2 6 [] [12] [] E ?_;cases h;exact Rt [] E E (Ug [] 0 hR)
 refine G2 7 [] [11] [] E ?_;refine Br h 13 E E (fun hc3 h=> ?_) (fun hc3 h=> ?_)
 ·refine G2 5 [13] [] [] E ?_;cases h;exact Rt [] E E (Ug [] 0 hR)
 refine G2 9 [] [13] [] E ?_;refine Br h 16 E E (fun hc4 h=> ?_) (fun hc4 h=> ?_)
 ·refine G2 5 [16] [] [] E ?_;cases h;exact Rt [] E E (Ug [] 0 hR)
 refine G2 9 [] [16] [] E ?_;refine Br h 19 E E (fun hc5 h=> ?_) (fun hc5 h=> ?_)
 ·refine G2 5 [19] [] [] E ?_;cases h;exact Rt [] E E (Ug [] 0 hR)
 refine G2 6 [] [19] [] E ?_;cases h;exact Rt [] E E (Ug [] 0 hR)
theorem W1  {s11:(List Int)} {s21:(List Int)} {A1:Option Addr} {c1:Nat} {A2:Option Addr} {c2:Nat} {res1:Int}
  (hl1:s11.length≤c1∧c1≤maxLen) (hA1:Rds QD μ L A1 s11) (hl2:s21.length≤c2∧c2≤maxLen) (hA2:Rds QD μ L A2 s21) (h:ZM s11 s21=some res1)
  (hR:R (.int .i64 res1) μ (L)) :
  Fn Tryz.prog 22 [.slice A1 s11.length c1,.slice A2 s21.length c2] μ (L) R:=by
 unfold ZM at h;refine FnS Tryz.func22 (by kernel_rfl) E Tryz.ntmps22 E E ?_;refine G0 11 E ?_;refine Cut h (fun f l o_ f_ μ_ l_=>(.inl ())=o_∧Qg (Qm [0,1] f) f_∧Qc l l_∧μ=μ_) ?_ ?_
 ·intro _ h4416 h;refine Lp h4416 (fun f l (v1:Int) f_ μ_ l_=>Qg ((11,.int .i64 v1)::Qm [0,1,9,10] f) f_∧Qc l l_∧μ=μ_) ⟨fE E,sE [] 0 E,E⟩ ?_;rintro v1 _ _ _ _ _ ⟨hF4418,hS4418,rfl⟩ hb4418 hq4418;unfold Q9 at hb4418;refine Atn 0 hF4418 hS4418 E E (G0 5 E ?_);refine Br hb4418 12 E E (fun hc1 hb4418=> ?_) (fun hc1 hb4418=> ?_)
  ·refine G2 7 [12] [] [] E (Ix hb4418 hA1 E E fun _ _ _ _ hr1 hc2 _ hb4418=> ?_);obtain rfl:=hr1;refine Q3 12 [] [] [64] (Z1 hc2) E ?_;refine Br hb4418 19 E E (fun hc3 hb4418=> ?_) (fun hc3 hb4418=> ?_)
   ·refine G2 5 [19] [] [] E ?_;cases hb4418;have hq_:=hq4418 _ E;subst hq_;replace h:=YE h;cases h;exact Rt [] E E (Ug [] 0 hR)
   refine G2 6 [] [19] [] E (Ix hb4418 hA2 E E fun _ _ _ _ hr2 hc4 _ hb4418=> ?_);obtain rfl:=hr2;refine Q3 7 [] [] [64] (Z1 hc4) E (Cl E ?_);obtain ⟨_,hx3,hb4418⟩:=Qf hb4418;refine Qcb  hx3 ((Q0 7 E ?_));refine Br hb4418 28 E E (fun hc5 hb4418=> ?_) (fun hc5 hb4418=> ?_)
   ·refine G2 6 [28] [] [] E ?_;cases hb4418;have hq_:=hq4418 _ E;subst hq_;replace h:=YE h;cases h;exact Rt [] E E (Ug [] 0 hR)
   refine G2 7 [] [28] [] E ?_;cases hb4418;exact Ce E ⟨_,rfl,fE E,sE [] 0 E,rfl⟩
  refine G2 2 [] [12] [] E ?_;cases hb4418;have hq_:=hq4418 _ E;subst hq_;exact Ce E ⟨rfl,fE E,sE [] 0 E,rfl⟩
 rintro _ _ _ _ h _ ⟨rfl,hF4416,hS4416,rfl⟩;replace h:=Zc h;refine Atn 0 hF4416 hS4416 E E (G0 9 E ?_);refine Br h 35 E E (fun hc6 h=> ?_) (fun hc6 h=> ?_)
 ·refine G2 5 [35] [] [] E ?_;cases h;exact Rt [] E E (Ug [] 0 hR)
 refine G2 6 [] [35] [] E ?_;cases h;exact Rt [] E E (Ug [] 0 hR)
theorem QdH {F:Nat} {stops1:(List Int)} {b1:Qb} {b2:Int} {b3:Bool} {b4:Int} {b5:Ql} {A1:Option Addr} {c1:Nat} {g1:Nat} {A2:Option Addr} {c2:Nat} {A3:Option Addr} {c3:Nat} {A4:Option Addr} {c4:Nat} {g2:Nat} {g3:Nat} {g4:Nat} {g5:Nat} {A5:Option Addr} {c5:Nat} {res1:Bool} {res2:Int} {res3:Ql}
  (hl1:stops1.length≤c1∧c1≤maxLen) (hA1:Rds QD μ L A1 stops1) (hl2:b1.Road.Edges.length≤c2∧c2≤maxLen) (hA2:Qj Qv μ A2 b1.Road.Edges) (hl3:b1.Vehicles.length≤c3∧c3≤maxLen) (hA3:Qj Qq μ A3 b1.Vehicles) (hl4:b1.Demands.length≤c4∧c4≤maxLen) (hA4:Qj Qr μ A4 b1.Demands) (hl5:b5.Stops.length≤c5∧c5≤maxLen) (hA5:Qj QD μ A5 b5.Stops) (h:WM F stops1 b1 b2 b3 b4 b5=some (res1,res2,res3))
  (hR: ∀(μ':Gh) (Ab4_1:Option Addr) (cb4_1:Nat),μ.le μ'→(res3.Stops.length≤cb4_1∧cb4_1≤maxLen)→Qj QD μ' Ab4_1 res3.Stops→R (.tuple #[]) μ' ([(g1,.cells #[.int .i64 b1.Road.Nodes,.slice A2 b1.Road.Edges.length c2,.slice A3 b1.Vehicles.length c3,.slice A4 b1.Demands.length c4,.int .i64 b1.Unload,.int .i64 b1.UnloadSecs] 28 (0,0))]::[(g2,.cells #[.int .i64 b2] 3 (0,0))]::[(g3,.cells #[.bool res1] 4 (0,0))]::[(g4,.cells #[.int .i64 res2] 3 (0,0))]::[(g5,.cells #[.int .i64 res3.Vehicle,.slice Ab4_1 res3.Stops.length cb4_1] 33 (0,0))]::L)) :
  Fn Tryz.prog 30 [.slice A1 stops1.length c1,.pointer (some ⟨g1,0,none⟩),.pointer (some ⟨g2,0,none⟩),.pointer (some ⟨g3,0,none⟩),.pointer (some ⟨g4,0,none⟩),.pointer (some ⟨g5,0,none⟩)] μ ([(g1,.cells #[.int .i64 b1.Road.Nodes,.slice A2 b1.Road.Edges.length c2,.slice A3 b1.Vehicles.length c3,.slice A4 b1.Demands.length c4,.int .i64 b1.Unload,.int .i64 b1.UnloadSecs] 28 (0,0))]::[(g2,.cells #[.int .i64 b2] 3 (0,0))]::[(g3,.cells #[.bool b3] 4 (0,0))]::[(g4,.cells #[.int .i64 b4] 3 (0,0))]::[(g5,.cells #[.int .i64 b5.Vehicle,.slice A5 b5.Stops.length c5] 33 (0,0))]::L) R:=by
 unfold WM at h;refine FnS Tryz.func30 (by kernel_rfl) E Tryz.ntmps30 E E ?_;refine G1 6 [0,1] E (Cl E ?_);obtain ⟨⟨_,_⟩,hx1,h⟩:=Qf h;replace h:=Qh h;refine Qf8 hl2 hA2 hl3 hA3 hl4 hA4 hl1 (Rds.push (Rds.push (Rds.push (Rds.push (Rds.push hA1))))) hx1 (fun _ hm_1=> ?_);replace hA1:=hA1.mono hm_1;replace hA5:=hA5.mono hm_1;refine Q0 12 E ?_;refine Br h 18 E E (fun hc1 h=> ?_) (fun hc1 h=> ?_)
 ·refine G2 1 [18] [] [] E ?_;cases h;exact Rt [] E E (Ug [[0],[1],[2],[3],[4]] 5 (hR _ A5 c5 hm_1 hl5 hA5))
 refine G2 3 [] [18] [] E ?_;refine Cut h (fun f l o_ f_ μ_ l_=> ∃(v2:Bool),v2=o_∧Qg ((37,.bool v2)::Qm [0,3,4,5,7] f) f_∧Qc (QS [some 2,some 3,some 4,some 0,some 1] 5 l) l_) ?_ ?_
 ·intro _ h4463 h;refine G1 4 [2] E ?_;refine Br h4463 21 E E (fun hc2 h4463=> ?_) (fun hc2 h4463=> ?_)
  ·refine G2 17 [21,26] [] [] E ?_;cases h4463;exact Ce E ⟨_,rfl,fE E,sE [some 2,some 3,some 4,some 0,some 1] 5 E⟩
  refine G2 5 [] [21] [3] E ?_;refine Br h4463 26 E E (fun hc3 h4463=> ?_) (fun hc3 h4463=> ?_)
  ·refine G2 12 [26] [] [] E ?_;cases h4463;exact Ce E ⟨_,rfl,fE E,sE [some 2,some 3,some 4,some 0,some 1] 5 E⟩
  refine G2 4 [] [26] [3] E ?_;refine Br h4463 30 E E (fun hc4 h4463=> ?_) (fun hc4 h4463=> ?_)
  ·refine G2 3 [30] [] [4] E (Cl E ?_);obtain ⟨_,hx2,h4463⟩:=Qf h4463;refine W1 hl1 (Rds.push (Rds.push (Rds.push (Rds.push (Rds.push hA1))))) hl5 (Qj.rds hA5 _) hx2 ((Q2 4 [30] [26] [] E ?_));cases h4463;exact Ce E ⟨_,rfl,fE E,sE [some 2,some 3,some 4,some 0,some 1] 5 E⟩
  refine G2 8 [] [26,30] [] E ?_;cases h4463;exact Ce E ⟨_,rfl,fE E,sE [some 2,some 3,some 4,some 0,some 1] 5 E⟩
 rintro _ _ _ _ h hm4463 ⟨v2,rfl,hF4463,hS4463⟩;replace hA1:=hA1.mono hm4463;replace hA5:=hA5.mono hm4463;refine Atn 5 hF4463 hS4463 E E ?_;refine Cut h (fun f l o_ f_ μ_ l_=> ∃(f1:Bool) (f2:Int) (f3:(List Int)) (A7:Option Addr) (c7:Nat),(f1,f2,f3)=o_∧Qg ([]) f_∧Qc ([(g1,.cells #[.int .i64 b1.Road.Nodes,.slice A2 b1.Road.Edges.length c2,.slice A3 b1.Vehicles.length c3,.slice A4 b1.Demands.length c4,.int .i64 b1.Unload,.int .i64 b1.UnloadSecs] 28 (0,0))]::[(g2,.cells #[.int .i64 b2] 3 (0,0))]::[(g3,.cells #[.bool f1] 4 (0,0))]::[(g4,.cells #[.int .i64 f2] 3 (0,0))]::[(g5,.cells #[.int .i64 b5.Vehicle,.slice A7 f3.length c7] 33 (0,0))]::QS [] 5 l) l_∧(f3.length≤c7∧c7≤maxLen)∧Qj QD μ_ A7 f3) ?_ ?_
 ·intro _ h4474 h;refine Br h4474 37 E E (fun hc5 h4474=> ?_) (fun hc5 h4474=> ?_)
  ·refine G2 3 [37] [] [] E (Cl E ?_);obtain ⟨_,hs1,h4474⟩:=Qf h4474;refine QkR (r:=QD) Qij E E (Rds.push (Rds.push (Rds.push (Rds.push (Rds.push hA1))))) hs1 fun A6 c6 _ hO1=> ?_;have hl6:=Own.lenOk hO1;refine Q0 2 E (KS.upd E (Upd.frzOwn 0 E hO1 fun _ hm_2 hA6=>Upd.done ?_));replace hA5:=hA5.mono hm_2;refine G1 4 [3,2,1] E ?_;cases h4474;exact Ce E ⟨_,_,_,A6,c6,rfl,fE E,sE [some 4,some 5,some 1,some 2,some 3] 6 E,(hl6),(hA6)⟩
  refine G2 2 [] [37] [] E ?_;cases h4474;exact Ce E ⟨_,_,_,A5,c5,rfl,fE E,sE [some 3,some 4,some 0,some 1,some 2] 5 E,(hl5),(hA5)⟩
 rintro _ _ _ _ h hm4474 ⟨f1,f2,f3,A7,c7,rfl,hF4474,hS4474,hl7,hA7⟩;replace h:=Qh h;replace h:=Qh h;refine Atn 5 hF4474 hS4474 E E ?_;cases h;exact Rt [] E E (Ug [[0],[1],[2],[3],[4]] 5 (hR _ A7 c7 (hm_1.trans (hm4463.trans hm4474)) hl7 hA7))
end Go.Proofs.YtilbengnjgglhaaGreat
