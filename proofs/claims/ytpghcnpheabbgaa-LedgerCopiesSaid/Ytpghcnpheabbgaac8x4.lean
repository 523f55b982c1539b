/- LedgerCopies: for every input the given law returns true, and its arguments read as before. No condition. -/
import Derived.Laws.StructEq
import Derived.Test.Ytpghcnpheabbgaac8x0
import Derived.Test.Ytpghcnpheabbgaac8x2
import Derived.Test.Ytpghcnpheabbgaac8x3
import Derived.Test.Ytpghcnpheabbgaac8x1
import Derived.ProofKit
import Derived.Below
import Derived.ChangeSame
import Derived.Carry
import Derived.WideKeyArgs
import Derived.Test.YtpghcnpheabbgaaRows
import Derived.Deep.Slices
import Derived.Deep.Fields
import Derived.OpenShut
namespace Go.Proofs.Ytpghcnpheabbgaa
open Go.RowKit
set_option linter.unusedSimpArgs false
set_option linter.unusedVariables false
set_option maxHeartbeats 2000000
set_option maxRecDepth 4000
attribute [local irreducible] WP QJ YR Fn AN Upd vcR vcO ZR QP QQ YO YT ZH Zb ZG Yf KS
theorem JD (a b:Qb):YH Try.prog (do eqGuard .neq 49 (.tmp 0) (.tmp 0) (.agg #[.int .i64 a.Account,.int .i64 a.Amount]) (.agg #[.int .i64 b.Account,.int .i64 b.Amount]);binOp .neq 49 (.agg #[.int .i64 a.Account,.int .i64 a.Amount]) (.agg #[.int .i64 b.Account,.int .i64 b.Amount])) (.bool (!(decide (a=b)))):=by
 obtain ⟨x0,x1⟩:=a;obtain ⟨y0,y1⟩:=b;intro w
 rw[Sem.run_bind,run_eqGuard_agg w _ _ _ _ _ _ (by kernel_rfl),Result.andThen_ok]
 simp only[binOp,Op.equal,Op.maxDepth,Sem.run_bind]
 rw[run_equalIn_struct w 9999 _ _ _ (by kernel_rfl) (by kernel_rfl)]
 by_cases h0:x0=y0
 case neg=>simp[Program.fieldsOf,Try.underlying49,go_sem,h0]
 by_cases h1:x1=y1
 case neg=>simp[Program.fieldsOf,Try.underlying49,go_sem,h0,h1]
 simp[Program.fieldsOf,Try.underlying49,go_sem,h0,h1]
variable {μ:Gh} {L:List Seg} {R:Value→Gh→List Seg→Prop}
theorem Z5    {res1:Qc}
   (h:YX=some res1)
  (hR: ∀(v0:Value) (so0:Seg),Qd μ v0 res1 so0→R (v0) μ (so0::L)) :
  Fn Try.prog 15 [] μ (L) R:=by
 unfold YX at h;refine FnS Try.func15 (by kernel_rfl) E Try.ntmps15 E E ?_;refine G0 6 E (So E (QbD (fun g1=>Q0 1 E (Al E fun g2=>Q0 2 E ?_))));cases h;exact Rt [] E E (Ug [[0,99,1]] 2 (hR (.pointer (some ⟨g2,0,none⟩)) _ ⟨g2,none,0,[],g1, #[],0,rfl,rfl,Own.nil,(Yz.nil (enc:=(Value.int .i64)))⟩))
theorem Wa  {x1:Qb}  {res1:Bool}
   (h:Ys x1=some res1)
  (hR:R (.bool res1) μ (L)) :
  Fn Try.prog 30 [.agg #[.int .i64 x1.Account,.int .i64 x1.Amount]] μ (L) R:=by
 unfold Ys at h;refine FnS Try.func30 (by kernel_rfl) E Try.ntmps30 E E ?_;refine G0 2 E (Al E fun _=>Q0 3 E ?_);refine Cut h (fun f l o_ f_ μ_ l_=> ∃(v1:Bool),v1=o_∧Qs ((2,.bool v1)::[]) f_∧Qg (Yp [] 1 l) l_∧μ=μ_) ?_ ?_
 ·intro _ h58 h;refine G1 5 [0] E ?_;refine Br h58 6 E E (fun hc1 h58=> ?_) (fun hc1 h58=> ?_)
  ·refine G2 5 [6] [] [0] E ?_;refine Br h58 11 E E (fun hc2 h58=> ?_) (fun hc2 h58=> ?_)
   ·refine G2 5 [11] [] [0] E ?_;refine Br h58 16 E E (fun hc3 h58=> ?_) (fun hc3 h58=> ?_)
    ·refine G2 5 [16] [] [0] E ?_;refine Br h58 21 E E (fun hc4 h58=> ?_) (fun hc4 h58=> ?_)
     ·refine G2 6 [21] [] [0] E ?_;cases h58;exact Ce E ⟨_,rfl,fE E,sE [] 1 E,rfl⟩
     refine G2 6 [] [21] [] E ?_;cases h58;exact Ce E ⟨_,rfl,fE E,sE [] 1 E,rfl⟩
    refine G2 11 [] [16,21] [] E ?_;cases h58;exact Ce E ⟨_,rfl,fE E,sE [] 1 E,rfl⟩
   refine G2 16 [] [11,16,21] [] E ?_;cases h58;exact Ce E ⟨_,rfl,fE E,sE [] 1 E,rfl⟩
  refine G2 21 [] [6,11,16,21] [] E ?_;cases h58;exact Ce E ⟨_,rfl,fE E,sE [] 1 E,rfl⟩
 rintro _ _ _ _ h _ ⟨v1,rfl,hF58,hS58,rfl⟩;refine Atn 0 hF58 hS58 E E ?_;cases h;exact Rt [] E E (Ug [] 0 hR)
theorem YM  {p1:Qa} {A1:Option Addr} {c1:Nat} {res1:Int}
  (hl1:p1.Lines.length≤c1∧c1≤maxLen) (hA1:Rds Qh μ L A1 p1.Lines) (h:QY p1=some res1)
  (hR:R (.int .i64 res1) μ (L)) :
  Fn Try.prog 12 [.agg #[.int .i64 p1.ID,.int .i64 p1.At,.slice A1 p1.Lines.length c1]] μ (L) R:=by
 unfold QY at h;refine FnS Try.func12 (by kernel_rfl) E Try.ntmps12 E E ?_;refine G0 2 E (Al E fun _=>Q0 4 E ?_);refine Cut h (fun f l o_ f_ μ_ l_=> ∃(v1:Bool),v1=o_∧Qs ((23,.bool v1)::QU [1] f) f_∧Qg l l_∧μ=μ_) ?_ ?_
 ·intro _ h49 h;refine G1 5 [0] E ?_;refine Br h49 9 E E (fun hc1 h49=> ?_) (fun hc1 h49=> ?_)
  ·refine G2 15 [9,14,19] [] [] E ?_;cases h49;exact Ce E ⟨_,rfl,fE E,sE [some 0] 1 E,rfl⟩
  refine G2 5 [] [9] [0] E ?_;refine Br h49 14 E E (fun hc2 h49=> ?_) (fun hc2 h49=> ?_)
  ·refine G2 10 [14,19] [] [] E ?_;cases h49;exact Ce E ⟨_,rfl,fE E,sE [some 0] 1 E,rfl⟩
  refine G2 5 [] [14] [0] E ?_;refine Br h49 19 E E (fun hc3 h49=> ?_) (fun hc3 h49=> ?_)
  ·refine G2 5 [19] [] [] E ?_;cases h49;exact Ce E ⟨_,rfl,fE E,sE [some 0] 1 E,rfl⟩
  refine G2 5 [] [19] [0] E ?_;cases h49;exact Ce E ⟨_,rfl,fE E,sE [some 0] 1 E,rfl⟩
 rintro _ _ _ _ h _ ⟨v1,rfl,hF49,hS49,rfl⟩;refine Atn 1 hF49 hS49 E E ?_;refine Br h 23 E E (fun hc4 h=> ?_) (fun hc4 h=> ?_)
 ·refine G2 5 [23] [] [] E ?_;cases h;exact Rt [] E E (Ug [] 1 hR)
 refine G2 10 [] [23] [0] E ?_;refine Br h 27 E E (fun hc5 h=> ?_) (fun hc5 h=> ?_)
 ·refine G2 5 [27] [] [] E ?_;cases h;exact Rt [] E E (Ug [] 1 hR)
 refine G2 10 [] [27] [0] E ?_;refine Br h 31 E E (fun hc6 h=> ?_) (fun hc6 h=> ?_)
 ·refine G2 5 [31] [] [] E ?_;cases h;exact Rt [] E E (Ug [] 1 hR)
 refine G2 14 [] [31] [0] E ?_;refine Cut h (fun f l o_ f_ μ_ l_=> ∃(sum2:Int),(.inl sum2)=o_∧Qs ((3,.int .i64 sum2)::[]) f_∧Qg (Yp [] 1 l) l_∧μ=μ_) ?_ ?_
 ·intro _ h52 h;refine Lp h52 (fun f l (j_:Int×Int) f_ μ_ l_=>QaI j_ fun sum1 v2=>Qs ((3,.int .i64 sum1)::(35,.int .i64 v2)::QU [33,34] f) f_∧Qg (Yp [] 1 l) l_∧μ=μ_) ⟨fE E,sE [] 1 E,E⟩ ?_;rintro ⟨sum1,v2⟩ _ _ _ _ _ ⟨hF59,hS59,rfl⟩ hb59 hq59;unfold Yb at hb59;replace hb59:=YE hb59;refine Atn 0 hF59 hS59 E E (G0 5 E ?_);refine Br hb59 36 E E (fun hc7 hb59=> ?_) (fun hc7 hb59=> ?_)
  ·refine G2 6 [36] [] [] E (Ix hb59 hA1 E E fun _ _ _ _ hr1 hc8 _ hb59=> ?_);obtain rfl:=hr1;refine Q3 1 [] [] [64] (Z1 hc8) E (Al E fun _=>Q1 6 [0,0] E (Cl E ?_));obtain ⟨_,hx2,hb59⟩:=QE hb59;refine Wa  hx2 ((Q0 2 E ?_));refine Br hb59 41 E E (fun hc9 hb59=> ?_) (fun hc9 hb59=> ?_)
   ·refine G2 5 [41] [] [] E ?_;cases hb59;have hq_:=hq59 _ E;subst hq_;replace h:=Jf h;cases h;exact Rt [] E E (Ug [] 1 hR)
   refine G2 14 [] [41] [0] E ?_;cases hb59;exact Ce E ⟨_,rfl,fE E,sE [] 1 E,rfl⟩
  refine G2 2 [] [36] [] E ?_;cases hb59;have hq_:=hq59 _ E;subst hq_;exact Ce E ⟨_,rfl,fE E,sE [] 0 E,rfl⟩
 rintro _ _ _ _ h _ ⟨sum2,rfl,hF52,hS52,rfl⟩;replace h:=JE h;refine Atn 0 hF52 hS52 E E (G0 6 E ?_);refine Br h 48 E E (fun hc10 h=> ?_) (fun hc10 h=> ?_)
 ·refine G2 5 [48] [] [] E ?_;cases h;exact Rt [] E E (Ug [] 0 hR)
 refine G2 6 [] [48] [] E ?_;cases h;exact Rt [] E E (Ug [] 0 hR)
theorem Y3  {q1:Qa} {b1:Qa} {A1:Option Addr} {c1:Nat} {g1:Nat} {A2:Option Addr} {c2:Nat} {res1:Bool}
  (hl1:q1.Lines.length≤c1∧c1≤maxLen) (hA1:Yt Qh μ A1 q1.Lines) (h:QR q1 b1=some res1)
  (hR:R (.bool res1) μ ([(g1,.cells #[.int .i64 b1.ID,.int .i64 b1.At,.slice A2 b1.Lines.length c2] 24 (0,0))]::L)) :
  Fn Try.prog 38 [.agg #[.int .i64 q1.ID,.int .i64 q1.At,.slice A1 q1.Lines.length c1],.pointer (some ⟨g1,0,none⟩)] μ ([(g1,.cells #[.int .i64 b1.ID,.int .i64 b1.At,.slice A2 b1.Lines.length c2] 24 (0,0))]::L) R:=by
 unfold QR at h;refine FnS Try.func38 (by kernel_rfl) E Try.ntmps38 E E ?_;refine G0 2 E (Al E fun _=>Q1 11 [0,1] E ?_);cases h;exact Rt [] E E (Ug [[1]] 2 hR)
theorem YC  {s1:(List Qa)} {b1:Qa} {A1:Option Addr} {c1:Nat} {g1:Nat} {A2:Option Addr} {c2:Nat} {res1:Int}
  (hl1:s1.length≤c1∧c1≤maxLen) (hA1:Rds QF μ L A1 s1) (h:Qr s1 b1=some res1)
  (hR:R (.int .i64 res1) μ ([(g1,.cells #[.int .i64 b1.ID,.int .i64 b1.At,.slice A2 b1.Lines.length c2] 24 (0,0))]::L)) :
  Fn Try.prog 44 [.slice A1 s1.length c1,.func (.func 38) #[] #[.pointer (some ⟨g1,0,none⟩)]] μ ([(g1,.cells #[.int .i64 b1.ID,.int .i64 b1.At,.slice A2 b1.Lines.length c2] 24 (0,0))]::L) R:=by
 unfold Qr at h;refine FnS Try.func44 (by kernel_rfl) E Try.ntmps44 E E ?_;refine G0 11 E ?_;refine Cut h (fun f l o_ f_ μ_ l_=>(.inl ())=o_∧Qs ([]) f_∧Qg l l_∧μ=μ_) ?_ ?_
 ·intro _ h74 h;refine Lp h74 (fun f l (v1:Int) f_ μ_ l_=>Qs ((8,.int .i64 v1)::QU [0,1,7] f) f_∧Qg l l_∧μ=μ_) ⟨fE E,sE [some 0] 1 E,E⟩ ?_;rintro v1 _ _ _ _ _ ⟨hF85,hS85,rfl⟩ hb85 hq85;unfold Qu at hb85;refine Atn 1 hF85 hS85 E E (G0 5 E ?_);refine Br hb85 9 E E (fun hc1 hb85=> ?_) (fun hc1 hb85=> ?_)
  ·refine G2 14 [9] [] [] E (Ix hb85 hA1 E E fun _ _ _ _ hr1 hc2 _ hb85=> ?_);obtain ⟨_,_,rfl,hl3,hA4⟩:=hr1;refine Q3 1 [] [] [64] (Z1 (hc2.push)) E (Cl E ?_);obtain ⟨_,hx2,hb85⟩:=QE hb85;refine Y3 hl3 hA4 hx2 ((Q0 1 E ?_));refine Br hb85 16 E E (fun hc3 hb85=> ?_) (fun hc3 hb85=> ?_)
   ·refine G2 6 [16] [] [] E ?_;cases hb85;have hq_:=hq85 _ E;subst hq_;replace h:=Jf h;cases h;exact Rt [] E E (Ug [[0]] 1 hR)
   refine G2 7 [] [16] [] E ?_;cases hb85;exact Ce E ⟨_,rfl,fE E,sE [some 0] 1 E,rfl⟩
  refine G2 2 [] [9] [] E ?_;cases hb85;have hq_:=hq85 _ E;subst hq_;exact Ce E ⟨rfl,fE E,sE [some 0] 1 E,rfl⟩
 rintro _ _ _ _ h _ ⟨rfl,hF74,hS74,rfl⟩;replace h:=JE h;refine Atn 1 hF74 hS74 E E (G0 4 E ?_);cases h;exact Rt [] E E (Ug [[0]] 1 hR)
theorem Yr  {s1:(List Qa)} {b1:Qa} {A1:Option Addr} {c1:Nat} {g1:Nat} {A2:Option Addr} {c2:Nat} {res1:Bool}
  (hl1:s1.length≤c1∧c1≤maxLen) (hA1:Rds QF μ L A1 s1) (h:Qm s1 b1=some res1)
  (hR:R (.bool res1) μ ([(g1,.cells #[.int .i64 b1.ID,.int .i64 b1.At,.slice A2 b1.Lines.length c2] 24 (0,0))]::L)) :
  Fn Try.prog 37 [.slice A1 s1.length c1,.func (.func 38) #[] #[.pointer (some ⟨g1,0,none⟩)]] μ ([(g1,.cells #[.int .i64 b1.ID,.int .i64 b1.At,.slice A2 b1.Lines.length c2] 24 (0,0))]::L) R:=by
 unfold Qm at h;refine FnS Try.func37 (by kernel_rfl) E Try.ntmps37 E E ?_;refine G0 8 E (Cl E ?_);obtain ⟨_,hx1,h⟩:=QE h;refine YC hl1 hA1 hx1 ((Q0 3 E ?_));cases h;exact Rt [] E E (Ug [[0]] 1 hR)
theorem Zk  {l1:Qc} {p1:Qa} {pv1:Value} {so1:Seg} {A1:Option Addr} {c1:Nat} {res1:Int}
  (hP1:Qd μ pv1 l1 so1) (hl1:p1.Lines.length≤c1∧c1≤maxLen) (hA1:Rds Qh μ L A1 p1.Lines) (h:Qv l1 p1=some res1)
  (hR:R (.int .i64 res1) μ (so1::L)) :
  Fn Try.prog 31 [pv1,.agg #[.int .i64 p1.ID,.int .i64 p1.At,.slice A1 p1.Lines.length c1]] μ (so1::L) R:=by
 unfold Qv at h;refine FnS Try.func31 (by kernel_rfl) E Try.ntmps31 E E ?_;refine G0 2 E (Al E fun g1=>Q1 6 [0] E (Cl E ?_));obtain ⟨_,hx1,h⟩:=QE h;refine YM hl1 (Rds.push (Rds.push hA1)) hx1 ((Q0 7 E ?_));refine Br h 10 E E (fun hc1 h=> ?_) (fun hc1 h=> ?_)
 ·refine G2 6 [10] [] [] E ?_;cases h;exact Rt [] E E (Ug [[1]] 2 hR)
 obtain ⟨g2,A2,c2,ch1,g3,es1,cn1,hv1,rfl,hO1,_⟩:=hP1;subst hv1;refine G2 4 [] [10] [] E (In Qd.fl 1 4 E E E (G1 6 [1] E (Cl E ?_)));obtain ⟨_,hx2,h⟩:=QE h;refine Yr (Own.lenOk hO1) (Own.rds hO1 1 E) hx2 ((Q0 1 E ?_));refine Br h 17 E E (fun hc2 h=> ?_) (fun hc2 h=> ?_)
 ·refine G2 5 [17] [] [] E ?_;cases h;exact Rt [] E E (Ug [[1,2,3]] 4 hR)
 refine G2 13 [] [17] [1] E ?_;refine Cut h (fun f l o_ f_ μ_ l_=> ∃(v1:Bool),v1=o_∧Qs ((38,.bool v1)::QU [6] f) f_∧Qg (Yp [] 1 l) l_∧μ=μ_) ?_ ?_
 ·intro _ h99 h;refine Dr _ Yf.refl [(true,0),(true,1),(true,2),(true,3),(true,4),(true,5),(true,6),(true,7),(true,8),(true,9),(true,10),(true,11),(true,12),(true,13),(true,14),(true,15)] (by kernel_rfl) (G0 3 E ?_);refine Br h99 25 E E (fun hc3 h99=> ?_) (fun hc3 h99=> ?_)
  ·refine G2 8 [25] [] [0,1] E (Ix h99 (Own.rds (L:=([(g1,.cells #[.int .i64 p1.ID,.int .i64 p1.At,.slice A1 p1.Lines.length c1] 24 (0,0))]::[(g2,.cells #[.slice A2 l1.postings.length c2,.map (some g3)] 60 (0,0))]::ch1::[(g3,.map es1 cn1)]::L)) hO1 2 E) E E fun _ _ _ _ hr1 hc4 _ h99=> ?_);obtain ⟨_,_,rfl,_,_⟩:=hr1;refine Q3 5 [25] [] [65] (Z1 hc4) E ?_;cases h99;exact Ce E ⟨_,rfl,fE E,sE [some 1,some 2,some 3] 4 E,rfl⟩
  refine G2 14 [] [25] [] E ?_;cases h99;exact Ce E ⟨_,rfl,fE E,sE [some 1,some 2,some 3] 4 E,rfl⟩
 rintro _ _ _ _ h _ ⟨v1,rfl,hF99,hS99,rfl⟩;refine Atn 3 hF99 hS99 E E ?_;refine Br h 38 E E (fun hc5 h=> ?_) (fun hc5 h=> ?_)
 ·refine G2 5 [38] [] [] E ?_;cases h;exact Rt [] E E (Ug [[0,1,2]] 3 hR)
 refine G2 8 [] [38] [] E ?_;refine Br h 40 E E (fun hc6 h=> ?_) (fun hc6 h=> ?_)
 ·refine G2 5 [40] [] [] E ?_;cases h;exact Rt [] E E (Ug [[0,1,2]] 3 hR)
 refine G2 6 [] [40] [] E ?_;cases h;exact Rt [] E E (Ug [[0,1,2]] 3 hR)
theorem Zl  {p1:Qa} {A1:Option Addr} {c1:Nat} {res1:Qa}
  (hl1:p1.Lines.length≤c1∧c1≤maxLen) (hA1:Rds Qh μ L A1 p1.Lines) (h:QN p1=some res1)
  (hR: ∀(μ':Gh) (A0_2:Option Addr) (c0_2:Nat),μ.le μ'→(res1.Lines.length≤c0_2∧c0_2≤maxLen)→Yt Qh μ' A0_2 res1.Lines→R (.agg #[.int .i64 res1.ID,.int .i64 res1.At,.slice A0_2 res1.Lines.length c0_2]) μ' (L)) :
  Fn Try.prog 34 [.agg #[.int .i64 p1.ID,.int .i64 p1.At,.slice A1 p1.Lines.length c1]] μ (L) R:=by
 unfold QN at h;refine FnS Try.func34 (by kernel_rfl) E Try.ntmps34 E E ?_;refine G0 2 E (Al E fun _=>Q0 0 E (Al E fun _=>Q1 5 [1] E (Cl E ?_)));obtain ⟨_,hs1,h⟩:=QE h;refine Qa7 (r:=Qh) Wx E E (Rds.push (Rds.push hA1)) hs1 fun A2 c2 _ hO1=>Q1 8 [2,2,1] E ?_;cases h;refine Rt [1] E E ?_;have hl2:=Own.lenOk hO1;refine Upd.frzOwn 0 E hO1 fun _ hm_1 hA2=> ?_;exact (Ug [] 3 (hR _ A2 c2 hm_1 hl2 hA2))
theorem QC  {l1:Qc} {p1:Qa} {pv1:Value} {so1:Seg} {A1:Option Addr} {c1:Nat} {res1:Int} {res2:Qc}
  (hP1:Qd μ pv1 l1 so1) (hl1:p1.Lines.length≤c1∧c1≤maxLen) (hA1:Rds Qh μ L A1 p1.Lines) (h:Qi l1 p1=some (res1,res2))
  (hR: ∀(μ':Gh) (sp0:Seg),μ.le μ'→Qd μ' pv1 res2 sp0→R (.int .i64 res1) μ' (sp0::L)) :
  Fn Try.prog 16 [pv1,.agg #[.int .i64 p1.ID,.int .i64 p1.At,.slice A1 p1.Lines.length c1]] μ (so1::L) R:=by
 unfold Qi at h;refine FnD Try.func16 (by kernel_rfl) E E Try.ntmps16 E E ?_;refine WPG.seqK fun _ hK370=> ?_;obtain ⟨g1,A2,c2,ch1,g2,es1,cn1,hv1,rfl,hO1,hM1⟩:=hP1;subst hv1;refine In Qd.fl 0 3 E E E (G0 1 E (Al E fun g3=>Q0 0 E (Al E fun g4=>Q0 0 E (Al E fun g5=>Q0 1 E (Ce E (hK370 _ _ _ (WPG.seqK fun _ hK378=>G2 7 [] [13] [2] E (Ce E (hK378 _ _ _ (WPG.seqK fun _ hK379=>G1 4 [2,1] E (Cl E ?_)))))))))));have hP2:Qd μ (.pointer (some ⟨g1,0,none⟩)) l1 _:=⟨g1,A2,c2,ch1,g2,es1,cn1,rfl,rfl,hO1,hM1⟩
 refine Fn.gp (L2:=(((g1,Obj.cells #[.slice A2 l1.postings.length c2,.map (some g2)] 60 (0,0))::(ch1++((g2,Obj.map es1 cn1)::[])))::[(g5,.cells #[.int .i64 0] 26 (0,0))]::[(g4,.cells #[.int .i64 p1.ID,.int .i64 p1.At,.slice A1 p1.Lines.length c1] 24 (0,0))]::[(g3,.cells #[.pointer (some ⟨g1,0,none⟩)] 31 (0,0))]::L)) [[3,4,5],[0],[1],[2]] 6 4 (by kernel_rfl) ?_;obtain ⟨_,hx1,h⟩:=QE h;refine Zk hP2 hl1 (Rds.push (Rds.push (Rds.push hA1))) hx1 ((Q0 7 E ?_));refine Br h 18 E E (fun hc1 h=> ?_) (fun hc1 h=> ?_)
 ·refine G2 6 [18] [] [1] E (Ye.ret E ?_);cases h;exact Ye.nil [1] (by simp) E (Ug [[0]] 4 (hR _ _ (Gh.le.refl _) hP2))
 refine G2 2 [] [18] [] E (Ce E (hK379 _ _ _ (WPG.seqK fun _ hK386=> ?_)));obtain ⟨_,A3,c3,ch2,g7,es2,cn2,hv2,hs1,hO2,hM2⟩:=hP2;replace hv2:=QbS hv2;subst hv2;refine In (Qd.fl.trans hs1.symm) 0 6 E E E (G1 5 [5,0] E (Cl E (Vv 2 E fun g8=>Q0 0 E (Al E fun g9=>Q1 2 [0] E (Ce E (hK386 _ _ _ (WPG.defer2 (g:=33) (cap:= #[.pointer (some ⟨g5,0,none⟩),.pointer (some ⟨g9,0,none⟩),.pointer (some ⟨g3,0,none⟩)]) (Z7 E (Qa1 E E ?_)))))))));refine ⟨rfl,by decide,?_⟩;refine WPG.seqK fun _ hK397=>G1 7 [6] E ?_;refine Cut h (fun f l o_ f_ μ_ l_=> ∃(m2:(List (Int×Int))) (es5:Array MapEntry) (cn5:Nat),m2=o_∧Qs (QU [2,3,4,25] f) f_∧Qg ([(g3,.cells #[.pointer (some ⟨g1,0,none⟩)] 31 (0,0))]::[(g1,.cells #[.slice A3 l1.postings.length c3,.map (some g7)] 60 (0,0))]::ch2::[(g7,.map es5 cn5)]::Yp [some 6,some 5,some 0,some 1] 8 l) l_∧Yz (Value.int .i64) es5 cn5 m2) ?_ ?_
 ·intro _ h398 h;refine Lp h398 (fun f l (j_:(List (Int×Int))×Int) f_ μ_ l_=>QaI j_ fun m1 v1=> ∃(es3:Array MapEntry) (cn3:Nat),Qs ((29,.int .i64 v1)::QU [2,3,4,25,27,28] f) f_∧Qg ([(g3,.cells #[.pointer (some ⟨g1,0,none⟩)] 31 (0,0))]::[(g1,.cells #[.slice A3 l1.postings.length c3,.map (some g7)] 60 (0,0))]::ch2::[(g7,.map es3 cn3)]::Yp [some 6,some 5,some 0,some 1] 8 l) l_∧Yz (Value.int .i64) es3 cn3 m1) ⟨es2,cn2,fE E,sE [some 7,some 2,some 3,some 4,some 6,some 5,some 0,some 1] 8 E,(hM2)⟩ ?_;rintro ⟨m1,v1⟩ _ _ _ _ hm429 ⟨es3,cn3,hF429,hS429,hM3⟩ hb429 hq429;unfold Qn at hb429;replace hb429:=YE hb429;replace hA1:=hA1.mono hm429;replace hO2:=hO2.mono hm429;refine Atn 8 hF429 hS429 E E (G0 5 E ?_);refine Br hb429 30 E E (fun hc2 hb429=> ?_) (fun hc2 hb429=> ?_)
  ·refine G2 6 [30] [] [] E (Ix hb429 hA1 E E fun x1 _ _ _ hr1 hc3 _ hb429=> ?_);obtain rfl:=hr1;refine Q3 1 [] [] [64] (Z1 (hc3.push.push.push.push.push.push.push.push)) E (Al E fun _=>Q1 2 [0] E (Drk [4] 8 E [(true,0),(true,1),(true,2),(true,3),(true,4),(true,5),(true,7),(true,8),(false,6),(true,9),(false,10)] (by kernel_rfl) (G1 8 [1,2,0,0] E (So E (Z7 E (VP E E E E E E E E (Ex.mk _ (hM3.look (Yl.seg 4 0 E E) (zb:=0) E x1.Account) ?_)))))));refine ⟨Kp [0,1,2,3,5,6,7,8] 9 E,?_⟩;refine Q0 1 E (So E (W7 E E E (QaQ Ym E E E E 4 (b:=w64 (((YA x1.Account m1).getD 0)+x1.Amount)) E hM3 E fun es4 cn4 hM4=> ?_)));refine ⟨Kp [0,1,2,3,5,6,7,8] 9 E,?_⟩;refine Q0 6 E ?_;cases hb429;exact Ce E ⟨_,rfl,es4,cn4,fE E,sE [some 1,some 2,some 3,some 4,some 5,some 6,some 7,some 8] 9 E,(hM4)⟩
  refine G2 2 [] [30] [] E ?_;cases hb429;have hq_:=hq429 _ E;subst hq_;exact Ce E ⟨_,es3,cn3,rfl,fE E,sE [some 0,some 1,some 2,some 3,some 4,some 5,some 6,some 7] 8 E,(hM3)⟩
 rintro _ _ _ _ h hm398 ⟨m2,es5,cn5,rfl,hF398,hS398,hM5⟩;replace hA1:=hA1.mono hm398;replace hO2:=hO2.mono hm398;refine Ce E (hK397 _ _ _ (WPG.at 8 hF398 hS398 E (WPG.seqK fun _ hK472=>G1 7 [4] E ?_)));refine Cut h (fun f l o_ f_ μ_ l_=>(.inl ())=o_∧Qs (QU [2,3,4,25] f) f_∧Qg l l_) ?_ ?_
 ·intro _ h473 h;refine Lp h473 (fun f l (v2:Int) f_ μ_ l_=>Qs ((47,.int .i64 v2)::QU [2,3,4,25,45,46] f) f_∧Qg l l_) ⟨fE E,sE [some 0,some 1,some 2,some 3,some 4,some 5,some 6,some 7] 8 E⟩ ?_;rintro v2 _ _ _ _ hm505 ⟨hF505,hS505⟩ hb505 hq505;unfold Qo at hb505;replace hA1:=hA1.mono hm505;replace hO2:=hO2.mono hm505;refine Atn 8 hF505 hS505 E E (G0 5 E ?_);refine Br hb505 48 E E (fun hc4 hb505=> ?_) (fun hc4 hb505=> ?_)
  ·refine G2 6 [48] [] [] E (Ix hb505 hA1 E E fun x2 _ _ _ hr2 hc5 _ hb505=> ?_);obtain rfl:=hr2;refine Q3 1 [] [] [64] (Z1 (hc5.push.push.push.push.push.push.push.push)) E (Al E fun _=>Q1 3 [0] E (Dr _ Yf.refl [(true,0),(true,1),(true,2),(true,3),(true,4),(true,5),(true,6),(true,7)] (by kernel_rfl) (G1 6 [1,2,0] E (Rdo E E (VP E E E E E E E E (Ex.mk _ (hM5.look (Yl.seg 4 0 E E) (zb:=0) E x2.Account) (Q0 3 E (Gp (L2:=([(g3,.cells #[.pointer (some ⟨g1,0,none⟩)] 31 (0,0))]::[(g1,.cells #[.slice A3 l1.postings.length c3,.map (some g7)] 60 (0,0))]::ch2::[(g7,.map es5 cn5)]::[(g4,.cells #[.int .i64 p1.ID,.int .i64 p1.At,.slice A1 p1.Lines.length c1] 24 (0,0))]::[(g5,.cells #[.int .i64 0] 26 (0,0))]::[(g9,.cells #[.map (some g8)] 58 (0,0))]::[(g8,.map es2 cn2)]::L)) [[1],[2],[3],[4],[5],[6],[7],[8]] 9 8 E (by kernel_rfl) ?_))))))));refine Cut hb505 (fun f l o_ f_ μ_ l_=> ∃(v3:Bool),v3=o_∧Qs ((63,.bool v3)::QU [2,3,4,25,45,46,47] f) f_∧Qg l l_) ?_ ?_
   ·intro _ h523 hb505;refine G0 4 E ?_;refine Br h523 60 E E (fun hc6 h523=> ?_) (fun hc6 h523=> ?_)
    ·refine G2 4 [60] [] [] E ?_;cases h523;exact Ce E ⟨_,rfl,fE E,sE [some 0,some 1,some 2,some 3,some 4,some 5,some 6,some 7] 8 E⟩
    refine G2 4 [] [60] [] E ?_;cases h523;exact Ce E ⟨_,rfl,fE E,sE [some 0,some 1,some 2,some 3,some 4,some 5,some 6,some 7] 8 E⟩
   rintro _ _ _ _ hb505 hm523 ⟨v3,rfl,hF523,hS523⟩;replace hA1:=hA1.mono hm523;replace hO2:=hO2.mono hm523;refine Atn 8 hF523 hS523 E E ?_;refine Br hb505 63 E E (fun hc7 hb505=> ?_) (fun hc7 hb505=> ?_)
   ·refine G2 5 [63] [] [5] E (Ye.ret E (Ye.cons (.inr E) Try.func33 (by kernel_rfl) E Try.ntmps33 E E E (G1 5 [5] E ?_)));refine Br hb505 4 E E (fun hc8 hb505=> ?_) (fun hc8 hb505=> ?_)
    ·refine G2 8 [4] [] [0,6,1] E (Ce E ?_);cases hb505;have hq_:=hq505 _ E;subst hq_;replace h:=Jf h;cases h;exact Ye.nil [5] (by simp) E (Ug [[1,2,7]] 8 (hR _ _ (hm398.trans (hm505.trans hm523)) ⟨g1,A3,c3,ch2,g8,es2,cn2,rfl,rfl,hO2,hM2⟩))
    refine G2 2 [] [4] [] E (Ce E ?_);cases hb505;have hq_:=hq505 _ E;subst hq_;replace h:=Jf h;cases h;exact Ye.nil [5] (by simp) E (Ug [[1,2,3]] 8 (hR _ _ (hm398.trans (hm505.trans hm523)) ⟨g1,A3,c3,ch2,g7,es5,cn5,rfl,rfl,hO2,hM5⟩))
   refine G2 7 [] [63] [] E ?_;cases hb505;exact Ce E ⟨_,rfl,fE E,sE [some 0,some 1,some 2,some 3,some 4,some 5,some 6,some 7] 8 E⟩
  refine G2 2 [] [48] [] E ?_;cases hb505;have hq_:=hq505 _ E;subst hq_;exact Ce E ⟨rfl,fE E,sE [some 0,some 1,some 2,some 3,some 4,some 5,some 6,some 7] 8 E⟩
 rintro _ _ _ _ h hm473 ⟨rfl,hF473,hS473⟩;replace h:=JE h;replace hA1:=hA1.mono hm473;replace hO2:=hO2.mono hm473;refine Ce E (hK472 _ _ _ (WPG.at 8 hF473 hS473 E (WPG.seqK fun _ hK546=>Cd (WP.drawB (id:=20) (l':=List.replicate 11 true++[false]) Qdg Ym ([(g3,.cells #[.pointer (some ⟨g1,0,none⟩)] 31 (0,0))]::[(g1,.cells #[.slice A3 l1.postings.length c3,.map (some g7)] 60 (0,0))]::[(g7,.map es5 cn5)]::[(g4,.cells #[.int .i64 p1.ID,.int .i64 p1.At,.slice A1 p1.Lines.length c1] 24 (0,0))]::[(g5,.cells #[.int .i64 0] 26 (0,0))]::[(g9,.cells #[.map (some g8)] 58 (0,0))]::[(g8,.map es2 cn2)]::L) (Kp [0,1,3,4,5,6,7] 8 E) 11 [] [(true,0),(true,1),(true,2),(true,3),(true,4),(true,5),(false,6),(false,7),(false,8),(true,9),(true,10)] (by kernel_rfl) (by kernel_rfl) [] E (by kernel_rfl) (by kernel_rfl) (QcO E (WS E E E (Ex.mk _ (Zb.seg 0 0 E E E) ?_)))))));refine Pt E E (WS E E E (Ex.mk _ (Zb.seg 0 0 E E E) (Pt E E (VR E (Pt E E (Qb0 (o':=0) E E E E E E (Pt E E (WS E E E (Ex.mk _ (Zb.seg 1 0 E E E) (Pt E E (Qab E E E E (LA_ (vs:=[.int .i64 p1.ID,.int .i64 p1.At,.slice A1 p1.Lines.length c1]) 3 0 E E E E ?_))))))))))));refine Zr E (Qb5 E (QaU (all:=[.agg #[.int .i64 p1.ID,.int .i64 p1.At,.slice A1 p1.Lines.length c1]]) E E E ?_));obtain ⟨r2,hx4,h⟩:=QE h;refine Zl hl1 (Rds.push (Rds.push (Rds.push (Rds.push (Rds.push (Rds.push (Rds.push (Rds.push hA1)))))))) hx4 (fun _ A4 c4 hm_1 hl2 hA4=> ?_);replace hO2:=hO2.mono hm_1;refine ⟨Kp [0,1,3,4,5,6,7] 8 E,?_⟩;refine Zr E (Qb5 E (Zf (z:=[.int .i64 0,.int .i64 0,.slice none 0 0]) E E E E E E E (QT (cells':=[.int .i64 r2.ID,.int .i64 r2.At,.slice A4 r2.Lines.length c4]) E E E E (Ze (fun g12=> ?_)))));refine ⟨Kp [1,2,4,5,6,7,8] 9 E,?_⟩;refine Zr E (Qb5 E (JV E ?_));obtain ⟨l2,hz1,h⟩:=QE h;refine Qby (r:=QF) Ym E E E E (by decide) E E 3 E hO2 E (Own.rds (Own.lit (r:=QF) (e:=24) (g:=g12) (xs:=[r2]) (cs:=[.int .i64 r2.ID,.int .i64 r2.At,.slice A4 r2.Lines.length c4]) (css:=[[.int .i64 r2.ID,.int .i64 r2.At,.slice A4 r2.Lines.length c4]]) E (Qq.cons (⟨A4,c4,E,hl2,hA4⟩) (Qq.nil)) E E) 0 E) hz1 fun A5 c5 ch3 hO3=> ?_;refine ⟨Kp [1,2,4,5,6,7,8] 9 E,?_⟩;refine Pt E E (VR E (Pt E E (Qb0 (o':=0) E E E E E E (Zr E (Qb6 (Qc8 E (Y6 (vs:=[.slice A5 l2.length c5]) E E E E E E (ST_ (L':=([(g12,.cells #[.int .i64 r2.ID,.int .i64 r2.At,.slice A4 r2.Lines.length c4] 24 (0,0))]::[(g3,.cells #[.pointer (some ⟨g1,0,none⟩)] 31 (0,0))]::[(g1,.cells #[.slice A5 l2.length c5,.map (some g7)] 60 (0,0))]::ch3::[(g7,.map es5 cn5)]::[(g4,.cells #[.int .i64 p1.ID,.int .i64 p1.At,.slice A1 p1.Lines.length c1] 24 (0,0))]::[(g5,.cells #[.int .i64 0] 26 (0,0))]::[(g9,.cells #[.map (some g8)] 58 (0,0))]::[(g8,.map es2 cn2)]::L)) 2 0 E E E E (WR (Ce E (hK546 _ _ _ (WPG.seqK fun _ hK616=>G1 3 [6] E (Ce E (hK616 _ _ _ (WPG.lastK (Ye.ret E ?_))))))))))))))));refine Ye.cons (.inr E) Try.func33 (by kernel_rfl) E Try.ntmps33 E E E (G1 5 [6] E ?_);refine Br h 4 E E (fun hc9 h=> ?_) (fun hc9 h=> ?_)
 ·refine G2 8 [4] [] [1,7,2] E (Ce E ?_);cases h;exact Ye.nil [6] (by simp) E (Ug [[2,3,8]] 9 (hR _ _ (hm398.trans (hm473.trans hm_1)) ⟨g1,A5,c5,ch3,g8,es2,cn2,rfl,rfl,hO3,hM2⟩))
 refine G2 2 [] [4] [] E (Ce E ?_);cases h;exact Ye.nil [6] (by simp) E (Ug [[2,3,4]] 9 (hR _ _ (hm398.trans (hm473.trans hm_1)) ⟨g1,A5,c5,ch3,g7,es5,cn5,rfl,rfl,hO3,hM5⟩))
theorem Y2  {l1:Qc} {pv1:Value} {so1:Seg} {res1:(List Qa)}
  (hP1:Qd μ pv1 l1 so1) (h:Qj l1=some res1)
  (hR: ∀(μ':Gh) (A0:Option Addr) (c0:Nat) (ch0:Seg),μ.le μ'→Own QF 24 μ' (.slice A0 res1.length c0) res1 ch0→R (.slice A0 res1.length c0) μ' (ch0::so1::L)) :
  Fn Try.prog 19 [pv1] μ (so1::L) R:=by
 unfold Qj at h;refine FnS Try.func19 (by kernel_rfl) E Try.ntmps19 E E ?_;obtain ⟨_,_,_,_,_,_,_,hv1,rfl,hO1,_⟩:=hP1;subst hv1;refine G0 6 E (In Qd.fl 0 3 E E E (G2 13 [] [7] [0] E (So E (QaV E E ?_))));obtain ⟨_,hn1,h⟩:=QE h;refine Qaq (r:=QF) (z:=(Qa.mk 0 0 [])) (zc:=[.int .i64 0,.int .i64 0,.slice none 0 0]) Ym E E E E E (⟨none,0,E,⟨Nat.le_refl _,Nat.zero_le _⟩,Yt.nil⟩) E hn1 fun A2 c2 ch2 hO2=>Q1 12 [1] E ?_;refine Cut h (fun f l o_ f_ μ_ l_=> ∃(out2:(List Qa)) (A8:Option Addr) (c8:Nat) (ch5:Seg),out2=o_∧Qs ((3,.slice A8 out2.length c8)::[]) f_∧Qg (ch5::Yp [] 1 l) l_∧Own QF 24 μ_ (.slice A8 out2.length c8) out2 ch5) ?_ ?_
 ·intro _ h696 h;refine Lp h696 (fun f l (j_:(List Qa)×Int) f_ μ_ l_=>QaI j_ fun out1 v1=> ∃(A3:Option Addr) (c3:Nat) (ch3:Seg),Qs ((3,.slice A3 out1.length c3)::(19,.int .i64 v1)::QU [17,18] f) f_∧Qg (ch3::Yp [some 2,some 1,some 3] 4 l) l_∧Own QF 24 μ_ (.slice A3 out1.length c3) out1 ch3) ⟨A2,c2,ch2,fE E,sE [some 0,some 2,some 1,some 3] 4 E,(hO2)⟩ ?_;rintro ⟨out1,v1⟩ _ _ _ _ hm711 ⟨A3,c3,ch3,hF711,hS711,hO3⟩ hb711 hq711;unfold Qp at hb711;replace hb711:=YE hb711;replace hO1:=hO1.mono hm711;refine Atn 4 hF711 hS711 E E (G0 5 E ?_);refine Br hb711 20 E E (fun hc1 hb711=> ?_) (fun hc1 hb711=> ?_)
  ·refine G2 7 [20] [] [] E (IxA hb711 (Own.rds hO1 1 E) E E fun _ _ _ _ hr1 hc2 _ hb711=> ?_);obtain ⟨_,_,rfl,hl1,hA2⟩:=hr1;refine Q3 1 [] [] [64] (Z1 hc2) E (Al E fun _=>Q1 7 [0,0] E (Cl E ?_));obtain ⟨r1,hx2,hb711⟩:=QE hb711;refine Zl hl1 (Yt.rds hA2 _) hx2 (fun v2 A5 c5 hm_1 hl2 hA3=> ?_);replace hO3:=hO3.mono hm_1;refine Q0 0 E (IxA hb711 (Own.rds hO3 1 E) E E fun _ a2 _ hx3 hr2 _ hA4 hb711=> ?_);obtain ⟨_,_,rfl,_,_⟩:=hr2;refine Q0 0 E (So E (Y6 (vs:=[.int .i64 r1.ID,.int .i64 r1.At,.slice A5 r1.Lines.length c5]) E E E E E E ?_))
   rw[←Addr.add_zero' ((a2.add (v1.toNat*3)))]
   refine Own.store (μ:=v2) (r:=QF) (x':=r1) (o:=0) (sz:=3) 1 rfl hO3 hA4 hx3 rfl rfl (by rintro _ ⟨A7,c7,rfl,hl4,hA6⟩;exact ⟨A5,c5,rfl,hl2,hA3⟩) fun ch4 hO4=> ?_
   rw[←Y8 out1 v1 r1] at hO4 ⊢
   refine Q0 6 E ?_;cases hb711;exact Ce E ⟨_,rfl,A3,c3,ch4,fE E,sE [some 1,some 2,some 3,some 4] 5 E,(hO4)⟩
  refine G2 2 [] [20] [] E ?_;cases hb711;have hq_:=hq711 _ E;subst hq_;exact Ce E ⟨_,A3,c3,ch3,rfl,fE E,sE [some 0,some 2,some 1,some 3] 4 E,(hO3)⟩
 rintro _ _ _ _ h hm696 ⟨out2,A8,c8,ch5,rfl,hF696,hS696,hO5⟩;refine Atn 4 hF696 hS696 E E (G0 5 E ?_);cases h;exact Rt [] E E (Ug [[0],[1,2,3]] 4 (hR _ A8 c8 ch5 hm696 hO5))
theorem Y5  {a1:Qa} {b1:Qa} {A1:Option Addr} {c1:Nat} {A2:Option Addr} {c2:Nat} {res1:Bool}
  (hl1:a1.Lines.length≤c1∧c1≤maxLen) (hA1:Yt Qh μ A1 a1.Lines) (hl2:b1.Lines.length≤c2∧c2≤maxLen) (hA2:Yt Qh μ A2 b1.Lines) (h:Qw a1 b1=some res1)
  (hR:R (.bool res1) μ (L)) :
  Fn Try.prog 27 [.agg #[.int .i64 a1.ID,.int .i64 a1.At,.slice A1 a1.Lines.length c1],.agg #[.int .i64 b1.ID,.int .i64 b1.At,.slice A2 b1.Lines.length c2]] μ (L) R:=by
 unfold Qw at h;refine FnS Try.func27 (by kernel_rfl) E Try.ntmps27 E E ?_;refine G0 2 E (Al E fun _=>Q0 0 E (Al E fun _=>Q0 4 E ?_));refine Cut h (fun f l o_ f_ μ_ l_=> ∃(v1:Bool),v1=o_∧Qs ((26,.bool v1)::QU [2,3] f) f_∧Qg (Yp [some 1,some 0] 2 l) l_∧μ=μ_) ?_ ?_
 ·intro _ h760 h;refine G1 7 [1,0] E ?_;refine Br h760 11 E E (fun hc1 h760=> ?_) (fun hc1 h760=> ?_)
  ·refine G2 16 [11,18] [] [] E ?_;cases h760;exact Ce E ⟨_,rfl,fE E,sE [some 1,some 0] 2 E,rfl⟩
  refine G2 7 [] [11] [1,0] E ?_;refine Br h760 18 E E (fun hc2 h760=> ?_) (fun hc2 h760=> ?_)
  ·refine G2 9 [18] [] [] E ?_;cases h760;exact Ce E ⟨_,rfl,fE E,sE [some 1,some 0] 2 E,rfl⟩
  refine G2 9 [] [18] [1,0] E ?_;cases h760;exact Ce E ⟨_,rfl,fE E,sE [some 1,some 0] 2 E,rfl⟩
 rintro _ _ _ _ h _ ⟨v1,rfl,hF760,hS760,rfl⟩;refine Atn 2 hF760 hS760 E E ?_;refine Br h 26 E E (fun hc3 h=> ?_) (fun hc3 h=> ?_)
 ·refine G2 5 [26] [] [] E ?_;cases h;exact Rt [] E E (Ug [] 2 hR)
 refine G2 7 [] [26] [] E ?_;refine Cut h (fun f l o_ f_ μ_ l_=>(.inl ())=o_∧Qs ([]) f_∧Qg (Yp [] 2 l) l_∧μ=μ_) ?_ ?_
 ·intro _ h765 h;refine Lp h765 (fun f l (i1:Int) f_ μ_ l_=>Qs ((5,.int .i64 i1)::QU [2,3] f) f_∧Qg l l_∧μ=μ_) ⟨fE E,sE [some 0,some 1] 2 E,E⟩ ?_;rintro i1 _ _ _ _ _ ⟨hF773,hS773,rfl⟩ hb773 hq773;unfold QA at hb773;refine Atn 2 hF773 hS773 E E (G1 9 [0] E ?_);refine Br hb773 31 E E (fun hc4 hb773=> ?_) (fun hc4 hb773=> ?_)
  ·refine G2 5 [31] [] [] E (Dr _ Yf.refl [(true,0),(true,1),(true,2),(true,3),(true,4),(true,5),(true,6),(true,7),(true,8),(true,9),(true,10)] (by kernel_rfl) (G1 3 [0] E (Ix hb773 (Yt.rds hA1 L) E E fun x1 _ _ _ hr1 hc5 _ hb773=> ?_)));obtain rfl:=hr1;refine Q3 4 [] [] [64,1] (Z1 (hc5.push.push)) E (Ix hb773 (Yt.rds hA2 L) E E fun x2 _ _ _ hr2 hc6 _ hb773=> ?_);obtain rfl:=hr2;refine Q3 1 [] [] [64] (Z1 (hc6.push.push)) E (Rdo E E (QaX E E (Ex.mk _ (JD x1 x2) (Q0 1 E ?_))));refine Br hb773 44 E E (fun hc7 hb773=> ?_) (fun hc7 hb773=> ?_)
   ·refine G2 5 [44] [] [] E ?_;cases hb773;have hq_:=hq773 _ E;subst hq_;replace h:=Jf h;cases h;exact Rt [] E E (Ug [] 2 hR)
   refine G2 8 [] [44] [] E ?_;cases hb773;exact Ce E ⟨_,rfl,fE E,sE [some 0,some 1] 2 E,rfl⟩
  refine G2 2 [] [31] [] E ?_;cases hb773;have hq_:=hq773 _ E;subst hq_;exact Ce E ⟨rfl,fE E,sE [] 2 E,rfl⟩
 rintro _ _ _ _ h _ ⟨rfl,hF765,hS765,rfl⟩;replace h:=JE h;refine Atn 0 hF765 hS765 E E (G0 4 E ?_);cases h;exact Rt [] E E (Ug [] 0 hR)
theorem QM  {l1:Qc} {account1:Int} {pv1:Value} {so1:Seg} {res1:Int}
  (hP1:Qd μ pv1 l1 so1) (h:Qk l1 account1=some res1)
  (hR:R (.int .i64 res1) μ (so1::L)) :
  Fn Try.prog 24 [pv1,.int .i64 account1] μ (so1::L) R:=by
 unfold Qk at h;refine FnS Try.func24 (by kernel_rfl) E Try.ntmps24 E E ?_;obtain ⟨_,_,_,_,_,_,_,hv1,rfl,_,hM1⟩:=hP1;subst hv1;refine G0 6 E (In Qd.fl 0 3 E E E (G2 13 [] [6] [0] E (Rdo E E (VP E E E E E E E E (Ex.mk _ (hM1.look (Yl.seg 2 0 E E) (zb:=0) E account1) (Q0 2 E ?_))))));cases h;exact Rt [] E E (Ug [[0,1,2]] 3 hR)
theorem Zo  {n1:Int}  {res1:Int}
   (h:QO n1=some res1)
  (hR:R (.int .i64 res1) μ (L)) :
  Fn Try.prog 29 [.int .i64 n1] μ (L) R:=by
 unfold QO at h;refine FnS Try.func29 (by kernel_rfl) E Try.ntmps29 E E ?_;refine G0 10 E ?_;refine Br h 4 E E (fun hc1 h=> ?_) (fun hc1 h=> ?_)
 ·refine G2 5 [4] [] [] E ?_;cases h;exact Rt [] E E (Ug [] 0 hR)
 refine G2 6 [] [4] [] E ?_;cases h;exact Rt [] E E (Ug [] 0 hR)
theorem Z3  {l1:Qc} {account1:Int} {t1:Int} {pv1:Value} {so1:Seg} {res1:Int}
  (hP1:Qd μ pv1 l1 so1) (h:YD l1 account1 t1=some res1)
  (hR:R (.int .i64 res1) μ (so1::L)) :
  Fn Try.prog 26 [pv1,.int .i64 account1,.int .i64 t1] μ (so1::L) R:=by
 unfold YD at h;refine FnS Try.func26 (by kernel_rfl) E Try.ntmps26 E E ?_;obtain ⟨_,_,_,_,_,_,_,hv1,rfl,hO1,_⟩:=hP1;subst hv1;refine G0 6 E (In Qd.fl 0 3 E E E (G2 20 [] [13] [0] E ?_));refine Cut h (fun f l o_ f_ μ_ l_=> ∃(n6:Int),n6=o_∧Qs ((7,.int .i64 n6)::[]) f_∧Qg l l_∧μ=μ_) ?_ ?_
 ·intro _ h951 h;refine Lp h951 (fun f l (j_:Int×Int) f_ μ_ l_=>QaI j_ fun n1 v1=>Qs ((7,.int .i64 n1)::(19,.int .i64 v1)::QU [1,2,17,18] f) f_∧Qg (Yp [some 1,some 0,some 2] 3 l) l_∧μ=μ_) ⟨fE E,sE [some 1,some 0,some 2] 3 E,E⟩ ?_;rintro ⟨n1,v1⟩ _ _ _ _ _ ⟨hF988,hS988,rfl⟩ hb988 hq988;unfold YQ at hb988;replace hb988:=YE hb988;refine Atn 3 hF988 hS988 E E (G0 5 E ?_);refine Br hb988 20 E E (fun hc1 hb988=> ?_) (fun hc1 hb988=> ?_)
  ·refine G2 3 [20] [] [] E ?_;refine Cut hb988 (fun f l o_ f_ μ_ l_=> ∃(n5:Int),(.inl n5)=o_∧Qs ((7,.int .i64 n5)::QU [1,2,17,18,19] f) f_∧Qg l l_∧μ=μ_) ?_ ?_
   ·intro _ h992 hb988;refine G0 3 E (IxA h992 (Own.rds hO1 0 E) E E fun _ _ _ _ hr1 hc2 _ h992=> ?_);obtain ⟨_,_,rfl,_,hA2⟩:=hr1;refine Q3 1 [] [] [64] (Z1 hc2) E (Al E fun _=>Q1 10 [0,0] E ?_);refine Br h992 26 E E (fun hc3 h992=> ?_) (fun hc3 h992=> ?_)
    ·refine G2 2 [26] [] [] E ?_;cases h992;replace hb988:=Jf hb988;cases hb988;have hq_:=hq988 _ E;subst hq_;exact Ce E ⟨_,rfl,fE E,sE [some 2,some 1,some 3] 4 E,rfl⟩
    refine G2 9 [] [26] [0] E ?_;refine Cut h992 (fun f l o_ f_ μ_ l_=> ∃(n4:Int),n4=o_∧Qs ((7,.int .i64 n4)::QU [1,2,17,18,19] f) f_∧Qg (Yp [] 1 l) l_∧μ=μ_) ?_ ?_
    ·intro _ h997 h992;refine Lp h997 (fun f l (j_:Int×Int) f_ μ_ l_=>QaI j_ fun n2 v2=>Qs ((7,.int .i64 n2)::(30,.int .i64 v2)::QU [1,2,17,18,19,28,29] f) f_∧Qg (Yp [] 1 l) l_∧μ=μ_) ⟨fE E,sE [some 1,some 2,some 3] 4 E,E⟩ ?_;rintro ⟨n2,v2⟩ _ _ _ _ _ ⟨hF1008,hS1008,rfl⟩ hb1008 hq1008;unfold YP at hb1008;replace hb1008:=YE hb1008;refine Atn 3 hF1008 hS1008 E E (G0 5 E ?_);refine Br hb1008 31 E E (fun hc4 hb1008=> ?_) (fun hc4 hb1008=> ?_)
     ·refine G2 3 [31] [] [] E ?_;refine Cut hb1008 (fun f l o_ f_ μ_ l_=> ∃(n3:Int),n3=o_∧Qs ((7,.int .i64 n3)::QU [1,2,17,18,19,28,29,30] f) f_∧Qg l l_∧μ=μ_) ?_ ?_
      ·intro _ h1013 hb1008;refine G0 3 E (Ix h1013 (Yt.rds hA2 L) E E fun _ _ _ _ hr2 hc5 _ h1013=> ?_);obtain rfl:=hr2;refine Q3 1 [] [] [64] (Z1 (hc5.push.push.push)) E (Al E fun _=>Q1 9 [0,0] E ?_);refine Br h1013 37 E E (fun hc6 h1013=> ?_) (fun hc6 h1013=> ?_)
       ·refine G2 9 [37] [] [0] E ?_;cases h1013;exact Ce E ⟨_,rfl,fE E,sE [some 1,some 2,some 3] 4 E,rfl⟩
       refine G2 3 [] [37] [] E ?_;cases h1013;exact Ce E ⟨_,rfl,fE E,sE [some 1,some 2,some 3] 4 E,rfl⟩
      rintro _ _ _ _ hb1008 _ ⟨n3,rfl,hF1013,hS1013,rfl⟩;refine Atn 3 hF1013 hS1013 E E (G0 4 E ?_);cases hb1008;exact Ce E ⟨_,rfl,fE E,sE [some 0,some 1,some 2] 3 E,rfl⟩
     refine G2 2 [] [31] [] E ?_;cases hb1008;have hq_:=hq1008 _ E;subst hq_;exact Ce E ⟨_,rfl,fE E,sE [some 0,some 1,some 2] 3 E,rfl⟩
    rintro _ _ _ _ h992 _ ⟨n4,rfl,hF997,hS997,rfl⟩;refine G0 1 E ?_;cases h992;exact Ce E ⟨_,rfl,hF997.tr E,hS997.tr (sE [some 0,some 1,some 2] 3 E),rfl⟩
   rintro _ _ _ _ hb988 _ ⟨n5,rfl,hF992,hS992,rfl⟩;replace hb988:=JE hb988;refine Atn 3 hF992 hS992 E E (G0 4 E ?_);cases hb988;exact Ce E ⟨_,rfl,fE E,sE [some 0,some 1,some 2] 3 E,rfl⟩
  refine G2 2 [] [20] [] E ?_;cases hb988;have hq_:=hq988 _ E;subst hq_;exact Ce E ⟨_,rfl,fE E,sE [some 1,some 0,some 2] 3 E,rfl⟩
 rintro _ _ _ _ h _ ⟨n6,rfl,hF951,hS951,rfl⟩;refine Atn 3 hF951 hS951 E E (G0 5 E ?_);cases h;exact Rt [] E E (Ug [[0,1,2]] 3 hR)
theorem Y1  {l1:Qc} {pv1:Value} {so1:Seg} {res1:(List Int)}
  (hP1:Qd μ pv1 l1 so1) (h:Q8 l1=some res1)
  (hR: ∀(A0:Option Addr) (c0:Nat) (ch0:Seg),Own QaL 3 μ (.slice A0 res1.length c0) res1 ch0→R (.slice A0 res1.length c0) μ (ch0::so1::L)) :
  Fn Try.prog 21 [pv1] μ (so1::L) R:=by
 unfold Q8 at h;refine FnS Try.func21 (by kernel_rfl) E Try.ntmps21 E E ?_;obtain ⟨_,_,_,_,_,_,_,hv1,rfl,_,hM1⟩:=hP1;subst hv1;refine G0 6 E (In Qd.fl 0 3 E E E (G2 12 [] [4] [0] E (Cl E (Qbe fun _=>Q0 0 E (Cl E ?_)))));obtain ⟨_,hs1,h⟩:=QE h;refine Ws 0 3 E E hM1 hs1 fun A2 c2 ch2 hO2=>Q0 2 E ?_;cases h;exact Rt [] E E (Ug [[0],[2,3,4]] 5 (hR A2 c2 ch2 hO2))
theorem YY  {a1:(List Int)} {b1:(List Int)} {A1:Option Addr} {c1:Nat} {A2:Option Addr} {c2:Nat} {res1:Bool}
  (hl1:a1.length≤c1∧c1≤maxLen) (hA1:Rds QaL μ L A1 a1) (hl2:b1.length≤c2∧c2≤maxLen) (hA2:Rds QaL μ L A2 b1) (h:Q5 a1 b1=some res1)
  (hR:R (.bool res1) μ (L)) :
  Fn Try.prog 20 [.slice A1 a1.length c1,.slice A2 b1.length c2] μ (L) R:=by
 unfold Q5 at h;refine FnS Try.func20 (by kernel_rfl) E Try.ntmps20 E E ?_;refine G0 13 E ?_;refine Br h 10 E E (fun hc1 h=> ?_) (fun hc1 h=> ?_)
 ·refine G2 5 [10] [] [] E ?_;cases h;exact Rt [] E E (Ug [] 0 hR)
 refine G2 7 [] [10] [] E ?_;refine Cut h (fun f l o_ f_ μ_ l_=>(.inl ())=o_∧Qs ([]) f_∧Qg l l_∧μ=μ_) ?_ ?_
 ·intro _ h1041 h;refine Lp h1041 (fun f l (i1:Int) f_ μ_ l_=>Qs ((5,.int .i64 i1)::QU [0,1] f) f_∧Qg l l_∧μ=μ_) ⟨fE E,sE [] 0 E,E⟩ ?_;rintro i1 _ _ _ _ _ ⟨hF1043,hS1043,rfl⟩ hb1043 hq1043;unfold Yk at hb1043;refine Atn 0 hF1043 hS1043 E E (G0 8 E ?_);refine Br hb1043 14 E E (fun hc2 hb1043=> ?_) (fun hc2 hb1043=> ?_)
  ·refine G2 5 [14] [] [] E (Dr _ Yf.refl [(true,0),(true,1),(true,2),(true,3),(true,4),(true,5),(true,6),(true,7),(true,8)] (by kernel_rfl) (G0 2 E (Ix hb1043 hA1 E E fun _ _ _ _ hr1 hc3 _ hb1043=> ?_)));obtain rfl:=hr1;refine Q3 3 [] [] [64] (Z1 hc3) E (Ix hb1043 hA2 E E fun _ _ _ _ hr2 hc4 _ hb1043=> ?_);obtain rfl:=hr2;refine Q3 3 [] [] [64] (Z1 hc4) E ?_;refine Br hb1043 25 E E (fun hc5 hb1043=> ?_) (fun hc5 hb1043=> ?_)
   ·refine G2 5 [25] [] [] E ?_;cases hb1043;have hq_:=hq1043 _ E;subst hq_;replace h:=Jf h;cases h;exact Rt [] E E (Ug [] 0 hR)
   refine G2 8 [] [25] [] E ?_;cases hb1043;exact Ce E ⟨_,rfl,fE E,sE [] 0 E,rfl⟩
  refine G2 2 [] [14] [] E ?_;cases hb1043;have hq_:=hq1043 _ E;subst hq_;exact Ce E ⟨rfl,fE E,sE [] 0 E,rfl⟩
 rintro _ _ _ _ h _ ⟨rfl,hF1041,hS1041,rfl⟩;replace h:=JE h;refine Atn 0 hF1041 hS1041 E E (G0 4 E ?_);cases h;exact Rt [] E E (Ug [] 0 hR)
theorem Zn    {res1:Bool}
   (h:QZ=some res1)
  (hR: ∀(μ':Gh) ,μ.le μ'→R (.bool res1) μ' (L)) :
  Fn Try.prog 11 [] μ (L) R:=by
 unfold QZ at h;refine FnS Try.func11 (by kernel_rfl) E Try.ntmps11 E E ?_;refine G0 6 E (Cl E ?_);obtain ⟨_,hx1,h⟩:=QE h;refine Z5  hx1 (fun _ _ hP1=>Q0 5 E (Cl E (FnS Try.func28 (by kernel_rfl) E Try.ntmps28 E E (G0 2 E (Al E fun g1=>Q0 12 E (So E (Zf (z:=[.int .i64 0,.int .i64 0,.int .i64 0,.int .i64 0]) E E E E E E E (QT (cells':=[.int .i64 100,.int .i64 500,.int .i64 0,.int .i64 0]) E E E E (QT (cells':=[.int .i64 100,.int .i64 500,.int .i64 7,.int .i64 (w64 (0-500))]) E E E E (Ze (fun g2=>Q1 3 [1] E (Rt [1] E E (Upd.done (Q0 0 E (Cl E (Fn.gp [[2],[0],[1]] 3 3 E ?_))))))))))))))));obtain ⟨⟨_,_⟩,hx2,h⟩:=QE h;replace h:=YE h;refine QC hP1 (Zx (c:=2) E E) (Own.rds (Own.lit (r:=Qh) (e:=49) (g:=g2) (xs:=[(Qb.mk 100 500),(Qb.mk 7 (w64 (0-500)))]) (cs:=[.int .i64 100,.int .i64 500,.int .i64 7,.int .i64 (w64 (0-500))]) (css:=[[.int .i64 100,.int .i64 500],[.int .i64 7,.int .i64 (w64 (0-500))]]) E (Qq.cons (E) (Qq.cons (E) (Qq.nil))) E E) 0 E) hx2 (fun _ so2 hm_1 hP2=> ?_);refine Q0 5 E (Cl E (FnS Try.func28 (by kernel_rfl) E Try.ntmps28 E E (G0 2 E (Al E fun g3=>Q0 12 E (So E (Zf (z:=[.int .i64 0,.int .i64 0,.int .i64 0,.int .i64 0]) E E E E E E E (QT (cells':=[.int .i64 7,.int .i64 200,.int .i64 0,.int .i64 0]) E E E E (QT (cells':=[.int .i64 7,.int .i64 200,.int .i64 100,.int .i64 (w64 (0-200))]) E E E E (Ze (fun g4=>Q1 3 [1] E (Rt [1] E E (Upd.done (Q0 0 E (Cl E (Fn.gp (L2:=(so2::[(g4,.cells #[.int .i64 7,.int .i64 200,.int .i64 100,.int .i64 (w64 (0-200))] 49 (0,0))]::[(g3,.cells #[.int .i64 2,.int .i64 20,.slice (some ⟨g4,0,none⟩) 2 2] 24 (0,0))]::[(g2,.cells #[.int .i64 100,.int .i64 500,.int .i64 7,.int .i64 (w64 (0-500))] 49 (0,0))]::[(g1,.cells #[.int .i64 1,.int .i64 10,.slice (some ⟨g2,0,none⟩) 2 2] 24 (0,0))]::L)) [[2],[0],[1],[3],[4]] 5 5 (by kernel_rfl) ?_)))))))))))))));obtain ⟨⟨_,_⟩,hx3,h⟩:=QE h;replace h:=YE h;refine QC hP2 (Zx (c:=2) E E) (Own.rds (Own.lit (r:=Qh) (e:=49) (g:=g4) (xs:=[(Qb.mk 7 200),(Qb.mk 100 (w64 (0-200)))]) (cs:=[.int .i64 7,.int .i64 200,.int .i64 100,.int .i64 (w64 (0-200))]) (css:=[[.int .i64 7,.int .i64 200],[.int .i64 100,.int .i64 (w64 (0-200))]]) E (Qq.cons (E) (Qq.cons (E) (Qq.nil))) E E) 0 E) hx3 (fun _ so3 hm_2 hP3=> ?_);refine Q0 5 E (Cl E (FnS Try.func28 (by kernel_rfl) E Try.ntmps28 E E (G0 2 E (Al E fun g5=>Q0 12 E (So E (Zf (z:=[.int .i64 0,.int .i64 0,.int .i64 0,.int .i64 0]) E E E E E E E (QT (cells':=[.int .i64 7,.int .i64 200,.int .i64 0,.int .i64 0]) E E E E (QT (cells':=[.int .i64 7,.int .i64 200,.int .i64 100,.int .i64 (w64 (0-200))]) E E E E (Ze (fun g6=>Q1 3 [1] E (Rt [1] E E (Upd.done (Q0 0 E (Cl E (Fn.gp (L2:=(so3::[(g6,.cells #[.int .i64 7,.int .i64 200,.int .i64 100,.int .i64 (w64 (0-200))] 49 (0,0))]::[(g5,.cells #[.int .i64 2,.int .i64 20,.slice (some ⟨g6,0,none⟩) 2 2] 24 (0,0))]::[(g4,.cells #[.int .i64 7,.int .i64 200,.int .i64 100,.int .i64 (w64 (0-200))] 49 (0,0))]::[(g3,.cells #[.int .i64 2,.int .i64 20,.slice (some ⟨g4,0,none⟩) 2 2] 24 (0,0))]::[(g2,.cells #[.int .i64 100,.int .i64 500,.int .i64 7,.int .i64 (w64 (0-500))] 49 (0,0))]::[(g1,.cells #[.int .i64 1,.int .i64 10,.slice (some ⟨g2,0,none⟩) 2 2] 24 (0,0))]::L)) [[2],[0],[1],[3],[4],[5],[6]] 7 7 (by kernel_rfl) ?_)))))))))))))));obtain ⟨⟨_,_⟩,hx4,h⟩:=QE h;replace h:=YE h;refine QC hP3 (Zx (c:=2) E E) (Own.rds (Own.lit (r:=Qh) (e:=49) (g:=g6) (xs:=[(Qb.mk 7 200),(Qb.mk 100 (w64 (0-200)))]) (cs:=[.int .i64 7,.int .i64 200,.int .i64 100,.int .i64 (w64 (0-200))]) (css:=[[.int .i64 7,.int .i64 200],[.int .i64 100,.int .i64 (w64 (0-200))]]) E (Qq.cons (E) (Qq.cons (E) (Qq.nil))) E E) 0 E) hx4 (fun _ so4 hm_3 hP4=> ?_)
 refine Q0 5 E (Cl E (FnS Try.func28 (by kernel_rfl) E Try.ntmps28 E E (G0 2 E (Al E fun g7=>Q0 12 E (So E (Zf (z:=[.int .i64 0,.int .i64 0,.int .i64 0,.int .i64 0]) E E E E E E E (QT (cells':=[.int .i64 7,.int .i64 200,.int .i64 0,.int .i64 0]) E E E E (QT (cells':=[.int .i64 7,.int .i64 200,.int .i64 100,.int .i64 (w64 (0-200))]) E E E E (Ze (fun g8=>Q1 3 [1] E (Rt [1] E E (Upd.done (Q0 0 E (Cl E (Fn.gp (L2:=(so4::[(g8,.cells #[.int .i64 7,.int .i64 200,.int .i64 100,.int .i64 (w64 (0-200))] 49 (0,0))]::[(g7,.cells #[.int .i64 3,.int .i64 19,.slice (some ⟨g8,0,none⟩) 2 2] 24 (0,0))]::[(g6,.cells #[.int .i64 7,.int .i64 200,.int .i64 100,.int .i64 (w64 (0-200))] 49 (0,0))]::[(g5,.cells #[.int .i64 2,.int .i64 20,.slice (some ⟨g6,0,none⟩) 2 2] 24 (0,0))]::[(g4,.cells #[.int .i64 7,.int .i64 200,.int .i64 100,.int .i64 (w64 (0-200))] 49 (0,0))]::[(g3,.cells #[.int .i64 2,.int .i64 20,.slice (some ⟨g4,0,none⟩) 2 2] 24 (0,0))]::[(g2,.cells #[.int .i64 100,.int .i64 500,.int .i64 7,.int .i64 (w64 (0-500))] 49 (0,0))]::[(g1,.cells #[.int .i64 1,.int .i64 10,.slice (some ⟨g2,0,none⟩) 2 2] 24 (0,0))]::L)) [[2],[0],[1],[3],[4],[5],[6],[7],[8]] 9 9 (by kernel_rfl) ?_)))))))))))))));obtain ⟨⟨_,_⟩,hx5,h⟩:=QE h;replace h:=YE h;refine QC hP4 (Zx (c:=2) E E) (Own.rds (Own.lit (r:=Qh) (e:=49) (g:=g8) (xs:=[(Qb.mk 7 200),(Qb.mk 100 (w64 (0-200)))]) (cs:=[.int .i64 7,.int .i64 200,.int .i64 100,.int .i64 (w64 (0-200))]) (css:=[[.int .i64 7,.int .i64 200],[.int .i64 100,.int .i64 (w64 (0-200))]]) E (Qq.cons (E) (Qq.cons (E) (Qq.nil))) E E) 0 E) hx5 (fun _ so5 hm_4 hP5=> ?_);refine Q0 6 E (So E (Zf (z:=[.int .i64 0,.int .i64 0,.int .i64 0,.int .i64 0]) E E E E E E E (QT (cells':=[.int .i64 1,.int .i64 5,.int .i64 0,.int .i64 0]) E E E E (QT (cells':=[.int .i64 1,.int .i64 5,.int .i64 2,.int .i64 (-4)]) E E E E (Ze (fun g9=>Q0 1 E (Cl E ?_)))))));obtain ⟨_,hx6,h⟩:=QE h;refine YM (Zx (c:=2) E E) (Own.rds (Own.lit (r:=Qh) (e:=49) (g:=g9) (xs:=[(Qb.mk 1 5),(Qb.mk 2 (-4))]) (cs:=[.int .i64 1,.int .i64 5,.int .i64 2,.int .i64 (-4)]) (css:=[[.int .i64 1,.int .i64 5],[.int .i64 2,.int .i64 (-4)]]) E (Qq.cons (E) (Qq.cons (E) (Qq.nil))) E E) 0 E) hx6 ((Q0 5 E (So E (Zf (z:=[.int .i64 0,.int .i64 0]) E E E E E E E (QT (cells':=[.int .i64 1,.int .i64 5]) E E E E (Ze (fun g10=>Q0 1 E (Cl E ?_))))))));obtain ⟨_,hx7,h⟩:=QE h;refine YM (Zx (c:=1) E E) (Own.rds (Own.lit (r:=Qh) (e:=49) (g:=g10) (xs:=[(Qb.mk 1 5)]) (cs:=[.int .i64 1,.int .i64 5]) (css:=[[.int .i64 1,.int .i64 5]]) E (Qq.cons (E) (Qq.nil)) E E) 0 E) hx7 ((Q0 3 E (Gp (L2:=(so5::L)) [[2]] 11 1 E (by kernel_rfl) ?_)));refine Cut h (fun f l o_ f_ μ_ l_=> ∃(v6:Bool),v6=o_∧Qs ((0,.bool v6)::[]) f_∧Qg (Yp [] 1 l) l_) ?_ ?_
 ·intro _ h1185 h;refine G0 4 E ?_;refine Br h1185 32 E E (fun hc1 h1185=> ?_) (fun hc1 h1185=> ?_)
  ·refine G2 4 [32] [] [] E ?_;refine Br h1185 36 E E (fun hc2 h1185=> ?_) (fun hc2 h1185=> ?_)
   ·refine G2 4 [36] [] [] E ?_;refine Br h1185 40 E E (fun hc3 h1185=> ?_) (fun hc3 h1185=> ?_)
    ·refine G2 4 [40] [] [] E ?_;refine Br h1185 44 E E (fun hc4 h1185=> ?_) (fun hc4 h1185=> ?_)
     ·refine G2 4 [44] [] [] E ?_;refine Br h1185 48 E E (fun hc5 h1185=> ?_) (fun hc5 h1185=> ?_)
      ·refine G2 4 [48] [] [] E ?_;refine Br h1185 52 E E (fun hc6 h1185=> ?_) (fun hc6 h1185=> ?_)
       ·refine G2 1 [52] [] [] E (Cl E ?_);obtain ⟨_,hx8,h1185⟩:=QE h1185;refine QM hP5 hx8 ((Q2 3 [52] [] [] E ?_));refine Br h1185 57 E E (fun hc7 h1185=> ?_) (fun hc7 h1185=> ?_)
        ·refine G2 1 [57] [] [] E (Cl E ?_);obtain ⟨_,hx9,h1185⟩:=QE h1185;refine QM hP5 hx9 ((Q2 3 [57] [] [] E ?_));refine Br h1185 62 E E (fun hc8 h1185=> ?_) (fun hc8 h1185=> ?_)
         ·refine G2 1 [62] [] [] E (Cl E ?_);obtain ⟨_,hx10,h1185⟩:=QE h1185;refine Z3 hP5 hx10 ((Q2 3 [62] [] [] E ?_));refine Br h1185 67 E E (fun hc9 h1185=> ?_) (fun hc9 h1185=> ?_)
          ·refine G2 1 [67] [] [] E (Cl E ?_);obtain ⟨_,hx11,h1185⟩:=QE h1185;refine Y1 hP5 hx11 (fun _ _ _ hO1=>Q0 0 E (So E (Zf (z:=[.int .i64 0,.int .i64 0]) E E E E E E E (QT (cells':=[.int .i64 7,.int .i64 0]) E E E E (QT (cells':=[.int .i64 7,.int .i64 100]) E E E E (Ze (fun g11=>Q0 0 E (Cl E ?_))))))));obtain ⟨_,hx12,h1185⟩:=QE h1185;refine YY (Own.lenOk hO1) (Own.rds hO1 1 E) (Zx (c:=2) E E) (Own.rds (Own.lit (r:=QaL) (e:=3) (g:=g11) (xs:=[7,100]) (cs:=[.int .i64 7,.int .i64 100]) (css:=[[.int .i64 7],[.int .i64 100]]) E (Qq.cons (E) (Qq.cons (E) (Qq.nil))) E E) 0 E) hx12 ((Q2 2 [67] [] [] E ?_));refine Br h1185 73 E E (fun hc10 h1185=> ?_) (fun hc10 h1185=> ?_)
           ·refine G2 1 [73] [] [] E (Cl E (Fn.gp [[2],[0],[1]] 3 3 E ?_));obtain ⟨_,hx13,h1185⟩:=QE h1185;refine Y2 hP5 hx13 (fun _ _ _ _ _ _=> ?_);refine Q2 5 [73] [] [] E ?_;cases h1185;exact Ce E ⟨_,rfl,fE E,sE [] 4 E⟩
           refine G2 7 [] [73] [] E ?_;cases h1185;exact Ce E ⟨_,rfl,fE E,sE [] 3 E⟩
          refine G2 13 [] [67,73] [] E ?_;cases h1185;exact Ce E ⟨_,rfl,fE E,sE [] 1 E⟩
         refine G2 18 [] [62,67,73] [] E ?_;cases h1185;exact Ce E ⟨_,rfl,fE E,sE [] 1 E⟩
        refine G2 23 [] [57,62,67,73] [] E ?_;cases h1185;exact Ce E ⟨_,rfl,fE E,sE [] 1 E⟩
       refine G2 28 [] [52,57,62,67,73] [] E ?_;cases h1185;exact Ce E ⟨_,rfl,fE E,sE [] 1 E⟩
      refine G2 32 [] [48,52,57,62,67,73] [] E ?_;cases h1185;exact Ce E ⟨_,rfl,fE E,sE [] 1 E⟩
     refine G2 36 [] [44,48,52,57,62,67,73] [] E ?_;cases h1185;exact Ce E ⟨_,rfl,fE E,sE [] 1 E⟩
    refine G2 40 [] [40,44,48,52,57,62,67,73] [] E ?_;cases h1185;exact Ce E ⟨_,rfl,fE E,sE [] 1 E⟩
   refine G2 44 [] [36,40,44,48,52,57,62,67,73] [] E ?_;cases h1185;exact Ce E ⟨_,rfl,fE E,sE [] 1 E⟩
  refine G2 48 [] [32,36,40,44,48,52,57,62,67,73] [] E ?_;cases h1185;exact Ce E ⟨_,rfl,fE E,sE [] 1 E⟩
 rintro _ _ _ _ h hm1185 ⟨v6,rfl,hF1185,hS1185⟩;refine Atn 0 hF1185 hS1185 E E ?_;cases h;exact Rt [] E E (Ug [] 0 (hR _ (hm_1.trans (hm_2.trans (hm_3.trans (hm_4.trans hm1185))))))
theorem YF  {amount1:Int}  {res1:Bool}
   (h:Qt amount1=some res1)
  (hR: ∀(μ':Gh) ,μ.le μ'→R (.bool res1) μ' (L)) :
  Fn Try.prog 9 [.int .u64 amount1] μ (L) R:=by
 unfold Qt at h;refine FnS Try.func9 (by kernel_rfl) E Try.ntmps9 E E ?_;refine G1 14 [0] E (Cl E ?_);obtain ⟨_,hx1,h⟩:=QE h;refine Z5  hx1 (fun _ so1 hP1=>Q0 5 E (Cl E (FnS Try.func28 (by kernel_rfl) E Try.ntmps28 E E (G0 2 E (Al E fun g1=>Q0 12 E (So E (Zf (z:=[.int .i64 0,.int .i64 0,.int .i64 0,.int .i64 0]) E E E E E E E (QT (cells':=[.int .i64 3,.int .i64 (w64 (1+(w64 (Int.tmod amount1 1000000000000)))),.int .i64 0,.int .i64 0]) E E E E (QT (cells':=[.int .i64 3,.int .i64 (w64 (1+(w64 (Int.tmod amount1 1000000000000)))),.int .i64 2,.int .i64 (w64 (0-(w64 (1+(w64 (Int.tmod amount1 1000000000000))))))]) E E E E (Ze (fun g2=>Q1 3 [1] E (Rt [1] E E (Upd.done (Q0 0 E (Al E fun g3=>Q1 7 [0,0] E (Cl E ?_))))))))))))))));refine Fn.gp (L2:=(so1::[(g3,.cells #[.int .i64 1,.int .i64 10,.slice (some ⟨g2,0,none⟩) 2 2] 24 (0,0))]::[(g2,.cells #[.int .i64 3,.int .i64 (w64 (1+(w64 (Int.tmod amount1 1000000000000)))),.int .i64 2,.int .i64 (w64 (0-(w64 (1+(w64 (Int.tmod amount1 1000000000000))))))] 49 (0,0))]::[(g1,.cells #[.int .i64 1,.int .i64 10,.slice (some ⟨g2,0,none⟩) 2 2] 24 (0,0))]::L)) [[3],[0],[1],[2]] 4 4 (by kernel_rfl) ?_;obtain ⟨⟨_,_⟩,hx2,h⟩:=QE h;replace h:=YE h;refine QC hP1 (Zx (c:=2) E E) (Own.rds (Own.lit (r:=Qh) (e:=49) (g:=g2) (xs:=[(Qb.mk 3 (w64 (1+(w64 (Int.tmod amount1 1000000000000))))),(Qb.mk 2 (w64 (0-(w64 (1+(w64 (Int.tmod amount1 1000000000000)))))))]) (cs:=[.int .i64 3,.int .i64 (w64 (1+(w64 (Int.tmod amount1 1000000000000)))),.int .i64 2,.int .i64 (w64 (0-(w64 (1+(w64 (Int.tmod amount1 1000000000000))))))]) (css:=[[.int .i64 3,.int .i64 (w64 (1+(w64 (Int.tmod amount1 1000000000000))))],[.int .i64 2,.int .i64 (w64 (0-(w64 (1+(w64 (Int.tmod amount1 1000000000000))))))]]) E (Qq.cons (E) (Qq.cons (E) (Qq.nil))) E E) 1 E) hx2 (fun v1 so2 hm_1 hP2=> ?_);refine Q0 2 E ?_;refine Br h 18 E E (fun hc1 h=> ?_) (fun hc1 h=> ?_)
 ·refine G2 5 [18] [] [] E ?_;cases h;exact Rt [] E E (Ug [] 4 (hR _ hm_1))
 refine G2 6 [] [18] [1] E (IxA h (Own.rds (Own.lit (r:=Qh) (e:=49) (g:=g2) (xs:=[(Qb.mk 3 (w64 (1+(w64 (Int.tmod amount1 1000000000000))))),(Qb.mk 2 (w64 (0-(w64 (1+(w64 (Int.tmod amount1 1000000000000)))))))]) (cs:=[.int .i64 3,.int .i64 (w64 (1+(w64 (Int.tmod amount1 1000000000000)))),.int .i64 2,.int .i64 (w64 (0-(w64 (1+(w64 (Int.tmod amount1 1000000000000))))))]) (css:=[[.int .i64 3,.int .i64 (w64 (1+(w64 (Int.tmod amount1 1000000000000))))],[.int .i64 2,.int .i64 (w64 (0-(w64 (1+(w64 (Int.tmod amount1 1000000000000))))))]]) E (Qq.cons (E) (Qq.cons (E) (Qq.nil))) E E) 2 E) E E fun x1 _ _ hx3 hr1 _ hA1 h=> ?_);obtain rfl:=hr1;refine Q0 1 E (So E (Y6 (vs:=[.int .i64 5]) rfl rfl rfl rfl rfl rfl (Own.store (μ:=v1) (r:=Qh) (x':=(Qb.mk x1.Account 5)) (o:=1) (sz:=2) 2 rfl (Own.lit (r:=Qh) (e:=49) (g:=g2) (xs:=[(Qb.mk 3 (w64 (1+(w64 (Int.tmod amount1 1000000000000))))),(Qb.mk 2 (w64 (0-(w64 (1+(w64 (Int.tmod amount1 1000000000000)))))))]) (cs:=[.int .i64 3,.int .i64 (w64 (1+(w64 (Int.tmod amount1 1000000000000)))),.int .i64 2,.int .i64 (w64 (0-(w64 (1+(w64 (Int.tmod amount1 1000000000000))))))]) (css:=[[.int .i64 3,.int .i64 (w64 (1+(w64 (Int.tmod amount1 1000000000000))))],[.int .i64 2,.int .i64 (w64 (0-(w64 (1+(w64 (Int.tmod amount1 1000000000000))))))]]) rfl (Qq.cons (rfl) (Qq.cons (rfl) (Qq.nil))) rfl rfl) hA1 hx3 rfl rfl (by rintro _ rfl;rfl) fun _ hO1=> ?_)));refine Q1 5 [1] E (IxA h (Own.rds hO1 2 E) E E fun x2 a2 _ hx4 hr2 _ hA2 h=> ?_);obtain rfl:=hr2;refine Q0 1 E (So E (Y6 (vs:=[.int .i64 5]) E E E E E E ?_))
 rw[←Addr.add_zero' ((a2.add ((0:Int).toNat*2)))]
 refine Own.store (μ:=v1) (r:=Qh) (x':=(Qb.mk 5 x2.Amount)) (o:=0) (sz:=2) 2 rfl hO1 hA2 hx4 rfl rfl (by rintro _ rfl;rfl) fun _ _=>Q0 4 E (Cl E ?_);obtain ⟨_,hx5,h⟩:=QE h;obtain ⟨row1,h11,h⟩:=QE h;refine Jk hP2 hx5 h11 fun _ _ _ ch3 A2 c2 ch4 hm_2 hO3 hO4=> ?_;replace hP2:=hP2.mono hm_2;have hn1:[row1].length=[row1].length:=E;have hn2:row1.Lines.length=row1.Lines.length:=E;refine Q0 4 E (Gp (L2:=(ch4::ch3::so2::L)) [[0],[1],[2]] 6 3 E (by kernel_rfl) ?_);refine Cut h (fun f l o_ f_ μ_ l_=> ∃(n1:Int) (v3:Bool),(n1,v3)=o_∧Qs ((3,.int .i64 n1)::(39,.bool v3)::QU [4,6] f) f_∧Qg (Yp [some 2,some 1,some 0] 3 l) l_) ?_ ?_
 ·intro _ h1415 h;refine G0 5 E ?_;refine Br h1415 32 E E (fun hc4 h1415=> ?_) (fun hc4 h1415=> ?_)
  ·refine G2 8 [32] [] [] E ?_;cases h1415;exact Ce E ⟨_,_,rfl,fE E,sE [some 2,some 1,some 0] 3 E⟩
  refine G2 1 [] [32] [] E ?_;have hx6:Q6 [row1] 0=some row1:=E;obtain ⟨_,_,hA3,hr3,_,hc5⟩:=Rds.getI (Own.rds (L:=(ch4::ch3::so2::L)) hO3 1 rfl) hx6;obtain rfl:=hr3;refine Rdo E E (W8 E E E E E E ⟨(Yq hx6).1,(Yq hx6).2.1⟩ hA3 (Q3 6 [] [32] [66] (Z1 hc5) E ?_));cases h1415;exact Ce E ⟨_,_,rfl,fE E,sE [some 2,some 1,some 0] 3 E⟩
 rintro _ _ μ1415 _ h hm1415 ⟨n1,v3,rfl,hF1415,hS1415⟩;replace h:=YE h;replace hP2:=hP2.mono hm1415;replace hO3:=hO3.mono hm1415;replace hO4:=hO4.mono hm1415;refine Atn 3 hF1415 hS1415 E E ?_;refine Br h 39 E E (fun hc6 h=> ?_) (fun hc6 h=> ?_)
 ·refine G2 5 [39] [] [] E ?_;cases h;exact Rt [] E E (Ug [] 3 (hR _ (hm_1.trans (hm_2.trans hm1415))))
 refine G2 5 [] [39] [] E ?_;have hx7:Q6 [row1] 0=some row1:=E;obtain ⟨_,_,hA4,hr4,_,hc7⟩:=Rds.getI (Own.rds (L:=(so2::ch3::ch4::L)) hO3 1 rfl) hx7;obtain rfl:=hr4;refine Rdo E E (W8 E E E E E E ⟨(Yq hx7).1,(Yq hx7).2.1⟩ hA4 (Q3 2 [] [] [66] (Z1 hc7) E (IxN hn2 h (Own.rds (L:=(so2::ch3::ch4::L)) hO4 2 E) E E fun x3 _ _ hx8 hr5 _ hA5 h=> ?_)));obtain rfl:=hr5;refine Q0 1 E (So E (Y6 (vs:=[.int .i64 7]) rfl rfl rfl rfl rfl rfl (Own.store (μ:=μ1415) (r:=Qh) (x':=(Qb.mk x3.Account 7)) (o:=1) (sz:=2) 2 rfl hO4 hA5 hx8 rfl rfl (by rintro _ rfl;rfl) fun ch5 _=> ?_)));have hn3:=hn2.trans (Y8 row1.Lines 1 (Qb.mk x3.Account 7)).symm;refine Q0 4 E ?_;have hx9:Q6 [row1] 0=some row1:=E;obtain ⟨a6,_,hA6,hr6,_,_⟩:=Rds.getI (Own.rds (L:=(so2::ch3::ch5::L)) hO3 1 rfl) hx9;obtain rfl:=hr6;refine Rdo E E (W8 E E E E E E ⟨(Yq hx9).1,(Yq hx9).2.1⟩ hA6 (Q0 1 E (So E (Y6 (vs:=[.int .i64 7]) E E E E E E ?_))))
 rw[←Addr.add_zero' ((a6.add ((0:Int).toNat*3)))]
 refine Own.store (μ:=μ1415) (r:=(rAt A2 c2)) (x':=(Qa.mk 7 row1.At row1.Lines)) (o:=0) (sz:=3) 1 rfl hO3 hA6 hx9 rfl rfl (by rintro _ rfl;rfl) fun ch6 _=> ?_;have hn4:=hn1.trans (Y8 [row1] 0 (Qa.mk 7 row1.At row1.Lines)).symm;refine Q0 4 E (Cl E ?_);obtain ⟨_,hx10,h⟩:=QE h;obtain ⟨row2,h12,h⟩:=QE h;refine Jk hP2 hx10 h12 fun _ _ _ ch7 _ _ _ hm_3 hO7 hO8=> ?_;replace hP2:=hP2.mono hm_3;refine Q0 3 E ?_;refine Cut h (fun f l o_ f_ μ_ l_=> ∃(v9:Bool),v9=o_∧Qs ((2,.bool v9)::[]) f_∧Qg (Yp [] 5 l) l_) ?_ ?_
 ·intro _ h1490 h;refine Drk [2,0] 3 E [(true,0),(true,1),(true,2),(true,3),(true,4),(true,5),(true,6),(true,7),(false,8),(false,9),(true,10),(true,11),(true,12),(true,14),(false,13),(true,15),(true,16),(true,17),(true,18),(true,20),(true,21),(false,19),(true,22),(true,23),(true,24),(true,25),(true,28),(false,26),(false,27),(false,29),(true,30),(true,31),(true,32),(false,33),(true,34),(true,35)] (by kernel_rfl) (G0 4 E ?_);refine Br h1490 54 E E (fun hc10 h1490=> ?_) (fun hc10 h1490=> ?_)
  ·refine G2 1 [54] [] [] E ?_;have hx11:Q6 [row2] 0=some row2:=E;obtain ⟨_,_,hA7,hr7,_,hc11⟩:=Rds.getI (Own.rds (L:=(ch7::ch6::ch5::L)) hO7 0 rfl) hx11;obtain rfl:=hr7;refine Rdo E E (W8 E E E E E E ⟨(Yq hx11).1,(Yq hx11).2.1⟩ hA7 (Q3 2 [54] [] [64] (Z1 hc11) E (Cl E (FnS Try.func28 (by kernel_rfl) E Try.ntmps28 E E (G2 2 [54] [] [] E (Al E fun g4=>Q0 12 E (So E (Zf (z:=[.int .i64 0,.int .i64 0,.int .i64 0,.int .i64 0]) E E E E E E E (QT (cells':=[.int .i64 3,.int .i64 n1,.int .i64 0,.int .i64 0]) E E E E (QT (cells':=[.int .i64 3,.int .i64 n1,.int .i64 2,.int .i64 (w64 (0-n1))]) E E E E (Ze (fun g5=>Q1 3 [1] E (Rt [1] E E (Upd.done ?_))))))))))))));refine ⟨Kp [3,5,6] 7 E,?_⟩;refine Q0 0 E (Cl E ?_);have hl1:=Own.lenOk hO8;refine Fn.pre Try.func27 (by kernel_rfl) E (Upd.frzOwn 2 E hO8 fun _ hm_4 hA8=>Upd.done ?_);replace hP2:=hP2.mono hm_4;have hl2:[(Qb.mk 3 n1),(Qb.mk 2 (w64 (0-n1)))].length≤2∧2≤maxLen:=⟨Nat.le_refl _,by unfold maxLen;omega⟩
   refine Fn.pre Try.func27 (by kernel_rfl) E (Upd.frzOwn 0 E (Own.lit (r:=Qh) (e:=49) (g:=g5) (xs:=[(Qb.mk 3 n1),(Qb.mk 2 (w64 (0-n1)))]) (cs:=[.int .i64 3,.int .i64 n1,.int .i64 2,.int .i64 (w64 (0-n1))]) (css:=[[.int .i64 3,.int .i64 n1],[.int .i64 2,.int .i64 (w64 (0-n1))]]) E (Qq.cons (E) (Qq.cons (E) (Qq.nil))) E E) fun _ hm_5 hA9=>Upd.done ?_);replace hP2:=hP2.mono hm_5;replace hA8:=hA8.mono hm_5;obtain ⟨_,hx12,h1490⟩:=QE h1490;refine Y5 hl1 hA8 hl2 hA9 hx12 (?_);refine ⟨Kp [3,5,6] 7 E,?_⟩;refine Q2 2 [54] [] [] E ?_;refine Br h1490 62 E E (fun hc12 h1490=> ?_) (fun hc12 h1490=> ?_)
   ·refine G2 2 [62] [] [] E (Cl E (Fn.gp (L2:=(so2::[]::[(g4,.cells #[.int .i64 1,.int .i64 10,.slice (some ⟨g5,0,none⟩) 2 2] 24 (0,0))]::[]::ch7::ch6::ch5::L)) [[4],[0],[1],[2],[3],[5],[6]] 7 7 (by kernel_rfl) ?_));obtain ⟨_,hx13,h1490⟩:=QE h1490;refine QM hP2 hx13 (?_);refine ⟨Kp [4,5,6] 7 E,?_⟩;refine Q2 3 [62] [] [] E ?_;refine Br h1490 68 E E (fun hc13 h1490=> ?_) (fun hc13 h1490=> ?_)
    ·refine G2 3 [68] [] [] E (Cl E ?_);obtain ⟨_,hx14,h1490⟩:=QE h1490;refine QM hP2 hx14 (?_);refine ⟨Kp [4,5,6] 7 E,?_⟩;refine Q2 3 [68] [] [] E ?_;refine Br h1490 75 E E (fun hc14 h1490=> ?_) (fun hc14 h1490=> ?_)
     ·refine G2 2 [75] [] [] E (Cl E (FnS Try.func28 (by kernel_rfl) E Try.ntmps28 E E (G2 2 [75] [] [] E (Al E fun g6=>Q0 12 E (So E (Zf (z:=[.int .i64 0,.int .i64 0,.int .i64 0,.int .i64 0]) E E E E E E E (QT (cells':=[.int .i64 3,.int .i64 1,.int .i64 0,.int .i64 0]) E E E E (QT (cells':=[.int .i64 3,.int .i64 1,.int .i64 2,.int .i64 (w64 (0-1))]) E E E E (Ze (fun g7=>Q1 3 [1] E (Rt [1] E E (Upd.done ?_))))))))))));refine ⟨Kp [6,7,8] 9 E,?_⟩;refine Q0 0 E (Cl E (Fn.gp (L2:=(so2::[(g7,.cells #[.int .i64 3,.int .i64 1,.int .i64 2,.int .i64 (w64 (0-1))] 49 (0,0))]::[(g6,.cells #[.int .i64 7,.int .i64 10,.slice (some ⟨g7,0,none⟩) 2 2] 24 (0,0))]::[]::[(g4,.cells #[.int .i64 1,.int .i64 10,.slice (some ⟨g5,0,none⟩) 2 2] 24 (0,0))]::[]::ch7::ch6::ch5::L)) [[2],[0],[1],[3],[4],[5],[6],[7],[8]] 9 9 (by kernel_rfl) ?_));obtain ⟨⟨_,_⟩,hx15,h1490⟩:=QE h1490;replace h1490:=YE h1490;refine QC hP2 (Zx (c:=2) E E) (Own.rds (Own.lit (r:=Qh) (e:=49) (g:=g7) (xs:=[(Qb.mk 3 1),(Qb.mk 2 (w64 (0-1)))]) (cs:=[.int .i64 3,.int .i64 1,.int .i64 2,.int .i64 (w64 (0-1))]) (css:=[[.int .i64 3,.int .i64 1],[.int .i64 2,.int .i64 (w64 (0-1))]]) E (Qq.cons (E) (Qq.cons (E) (Qq.nil))) E E) 0 E) hx15 (fun _ _ _ _=> ?_);refine ⟨Kp [6,7,8] 9 E,?_⟩;refine Q0 0 E (Cl E ?_);obtain ⟨_,hx16,h1490⟩:=QE h1490;refine Zo  hx16 (?_);refine ⟨Kp [6,7,8] 9 E,?_⟩;refine Q2 3 [75] [] [] E ?_;refine Br h1490 83 E E (fun hc15 h1490=> ?_) (fun hc15 h1490=> ?_)
      ·refine Cl E ?_;obtain ⟨_,hx17,h1490⟩:=QE h1490;refine Zn  hx17 (fun _ _=> ?_);refine ⟨Kp [6,7,8] 9 E,?_⟩;refine Q2 3 [83] [] [] E ?_;cases h1490;exact Ce E ⟨_,rfl,fE E,sE [] 9 E⟩
      refine G2 4 [] [83] [] E ?_;cases h1490;exact Ce E ⟨_,rfl,fE E,sE [] 9 E⟩
     refine G2 12 [] [75,83] [] E ?_;cases h1490;exact Ce E ⟨_,rfl,fE E,sE [] 7 E⟩
    refine G2 19 [] [68,75,83] [] E ?_;cases h1490;exact Ce E ⟨_,rfl,fE E,sE [] 7 E⟩
   refine G2 25 [] [62,68,75,83] [] E ?_;cases h1490;exact Ce E ⟨_,rfl,fE E,sE [] 7 E⟩
  refine G2 33 [] [54,62,68,75,83] [] E ?_;cases h1490;exact Ce E ⟨_,rfl,fE E,sE [] 5 E⟩
 rintro _ _ _ _ h hm1490 ⟨v9,rfl,hF1490,hS1490⟩;refine Atn 0 hF1490 hS1490 E E ?_;cases h;exact Rt [] E E (Ug [] 0 (hR _ (hm_1.trans (hm_2.trans (hm1415.trans (hm_3.trans hm1490))))))
end Go.Proofs.Ytpghcnpheabbgaa
namespace Go.Proofs.Ytpghcnpheabbgaa
set_option linter.unusedSimpArgs false
set_option linter.unusedVariables false
theorem ZT {n:Int} (h1: -9223372036854775808≤n) (h2:n≤9223372036854775807):w64 n=n:=QcK h1 h2
def Qb2 {τ ρ:Type} (o:Option ρ) (t:τ):τ⊕ρ:=match o with
 | none=> .inl t
 | some r=> .inr r
@[simp] theorem QcF {τ ρ:Type} (t:τ):Qb2 (none:Option ρ) t= .inl t:=rfl
@[simp] theorem QcG {τ ρ:Type} (r:ρ) (t:τ):Qb2 (some r) t= .inr r:=rfl
def Qda {σ τ ρ:Type} (f:σ→τ) (q:σ⊕ρ):τ⊕ρ:=match q with
 | .inl s=> .inl (f s)
 | .inr r=> .inr r
@[simp] theorem Qdb {σ τ ρ:Type} (f:σ→τ) (s:σ):Qda f (.inl s:σ⊕ρ)= .inl (f s):=rfl
@[simp] theorem Qdc {σ τ ρ:Type} (f:σ→τ) (r:ρ):Qda f (.inr r:σ⊕ρ)= .inr r:=rfl
def first {α ρ:Type} (step:α→Option ρ) (fin:ρ):List α→ρ
 | []=>fin
 | x::r=>match step x with
  | none=>first step fin r
  | some o=>o
end Go.Proofs.Ytpghcnpheabbgaa
namespace Go.Proofs.Ytpghcnpheabbgaa
set_option linter.unusedSimpArgs false
set_option linter.unusedVariables false
def Qat {α:Type} (f:α→Int) (l:List α):Int:=(l.map f).sum
@[simp] theorem QcL {α:Type} (f:α→Int):Qat f []=0:=rfl
@[simp] theorem QcJ {α:Type} (f:α→Int) (x:α) (l:List α):Qat f (x::l)=f x+Qat f l:=by simp[Qat]
end Go.Proofs.Ytpghcnpheabbgaa
namespace Go.Proofs.Ytpghcnpheabbgaa
open Go.RowKit
set_option linter.unusedSimpArgs false
set_option linter.unusedVariables false
def Yo (n:Int):Qa:=⟨1,10,[⟨3,n⟩,⟨2,-n⟩]⟩
def Zd (n:Int):Qc:=⟨[Yo n],[(3,n),(2,-n)]⟩
theorem Qcq:QZ=some true:=by decide +kernel
section
variable {n:Int} (h1:1≤n) (h2:n≤1000000000000)
include h1 h2
theorem Qc9:Ys ⟨3,n⟩=some true∧Ys ⟨2,-n⟩=some true:=by
 have a: ¬n=0:=by omega
 have b: -1000000000000≤n:=by omega
 have c: -1000000000000≤ -n:=by omega
 have d: -n≤1000000000000:=by omega
 have e: ¬ -n=0:=by omega
 constructor<;>simp[Ys,a,b,c,d,e,h2]
theorem Qct:QY (Yo n)=some 0:=by
 obtain ⟨l1,l2⟩:=Qc9 h1 h2;have e1:w64 n=n:=ZT (by omega) (by omega);have e2:w64 0=0:=by decide
 have e3:w64 1=1:=by decide
 have e4:w64 2=2:=by decide
 have k:iter (Yb (Yo n)) 3 (0,0)=some (.inl 0):=by
  simp[iter,Yb,Yo,oun,Y4,Q6,l1,l2,e1,e2,e3,e4,Int.add_right_neg]
 simp only[QY,Yo]
 have k':iter (Yb ⟨1,10,[⟨3,n⟩,⟨2,-n⟩]⟩) ((((([⟨3,n⟩,⟨2,-n⟩]:List Qb).length:Nat):Int)).toNat+1) (0,0)=some (.inl 0):=k
 rw[k']
 simp[Y4]
theorem Qde:Qi ⟨[],[]⟩ (Yo n)=some (0,Zd n):=by
 have e1:w64 n=n:=ZT (by omega) (by omega);have e2:w64 (-n)= -n:=ZT (by omega) (by omega);have e3:w64 1=1:=by decide
 have e4:w64 2=2:=by decide
 have ha:Qv ⟨[],[]⟩ (Yo n)=some 0:=by
  simp[Qv,Qct h1 h2,Qm,Qr,Qu,iter,Y4]
 have k1:iter (Qn (Yo n)) 3 (([]:List (Int×Int)),0)=some [(3,n),(2,-n)]:=by
  simp[iter,Qn,Yo,oun,Y4,Q6,YA,V0,e1,e2,e3,e4]
 have c1: ¬n< -1000000000000:=by omega
 have c2: ¬1000000000000<n:=by omega
 have c3: ¬ -n< -1000000000000:=by omega
 have c4: ¬1000000000000< -n:=by omega
 have k2:iter (Qo ⟨[],[]⟩ (Yo n) [(3,n),(2,-n)]) 3 0=some (.inl ()):=by
  simp[iter,Qo,Yo,Y4,Q6,YA,c1,c2,c3,c4,e3,e4]
 have k1':iter (Qn (Yo n)) ((((Yo n).Lines.length:Nat):Int).toNat+1) (([]:List (Int×Int)),0)=some [(3,n),(2,-n)]:=k1;have k2':iter (Qo ⟨[],[]⟩ (Yo n) [(3,n),(2,-n)]) ((((Yo n).Lines.length:Nat):Int).toNat+1) 0=some (.inl ()):=k2;unfold Qi
 simp only[ha,Option.bind_some,decide_true,Bool.not_true,cond_false,k1',k2',Y4]
 simp[QN,Jz,Qax,Yo,Zd]
omit h1 h2 in
theorem QaK:Qj (Zd n)=some [Yo n]:=by
 have e3:w64 1=1:=by decide
 have k:iter (Qp (Zd n)) 2 ([⟨0,0,[]⟩],0)=some [Yo n]:=by
  simp[iter,Qp,Zd,Yo,oun,Y4,Q6,V6,QN,Jz,e3]
 have k':iter (Qp (Zd n)) (((((Zd n).postings.length:Nat):Int)).toNat+1) ([⟨0,0,[]⟩],0)=some [Yo n]:=k;have hm:Qaj (Qa.mk 0 0 []) ((((Zd n).postings.length:Nat):Int))=some [⟨0,0,[]⟩]:=rfl;unfold Qj
 simp only[hm,Option.bind_some,k']
omit h1 h2 in
theorem Qdf:Qw (Yo n) (Yo n)=some true:=by
 have e3:w64 1=1:=by decide
 have e4:w64 2=2:=by decide
 have k:iter (QA (Yo n) (Yo n)) 3 0=some (.inl ()):=by
  simp[iter,QA,Yo,Y4,Q6,e3,e4]
 have k':iter (QA (Yo n) (Yo n)) ((((Yo n).Lines.length:Nat):Int).toNat+1) 0=some (.inl ()):=k;unfold Qw
 simp only[decide_true,Bool.not_true,cond_false,Option.bind_some,k',Y4]
theorem QcH: ∃q,Qi (Zd n) ⟨7,10,[⟨3,1⟩,⟨2,w64 (0-1)⟩]⟩=some (if n=1000000000000 then 2 else 0,q):=by
 have em:w64 (0-1)= -1:=by decide
 rw[em]
 have hc:QY ⟨7,10,[⟨3,1⟩,⟨2,-1⟩]⟩=some 0:=by decide +kernel
 have e1:w64 (n+1)=n+1:=ZT (by omega) (by omega);have e2:w64 (-n+ -1)= -n+ -1:=ZT (by omega) (by omega);have e3:w64 1=1:=by decide
 have e4:w64 2=2:=by decide
 have e5:w64 0=0:=by decide
 have ha:Qv (Zd n) ⟨7,10,[⟨3,1⟩,⟨2,-1⟩]⟩=some 0:=by
  simp[Qv,hc,Qm,Qr,Qu,QR,iter,Y4,Zd,Yo,Q6,e3,e5]
 have k1:iter (Qn ⟨7,10,[⟨3,1⟩,⟨2,-1⟩]⟩) 3 ([(3,n),(2,-n)],0)=some [(3,n+1),(2,-n+ -1)]:=by
  simp[iter,Qn,oun,Y4,Q6,YA,V0,e1,e2,e3,e4]
 have k1':iter (Qn ⟨7,10,[⟨3,1⟩,⟨2,-1⟩]⟩) ((((([⟨3,1⟩,⟨2,-1⟩]:List Qb).length:Nat):Int)).toNat+1) ((Zd n).balances,0)=some [(3,n+1),(2,-n+ -1)]:=k1;unfold Qi
 simp only[ha,Option.bind_some,decide_true,Bool.not_true,cond_false,k1']
 by_cases c:n=1000000000000
 ·subst c;exact ⟨Zd 1000000000000,by decide +kernel⟩
 ·have c1: ¬n+1< -1000000000000:=by omega
  have c2: ¬1000000000000<n+1:=by omega
  have c3: ¬ -n+ -1< -1000000000000:=by omega
  have c4: ¬1000000000000< -n+ -1:=by omega
  have k2:iter (Qo (Zd n) ⟨7,10,[⟨3,1⟩,⟨2,-1⟩]⟩ [(3,n+1),(2,-n+ -1)]) 3 0=some (.inl ()):=by
   simp[iter,Qo,Y4,Q6,YA,c1,c2,c3,c4,e3,e4]
  have k2':iter (Qo (Zd n) ⟨7,10,[⟨3,1⟩,⟨2,-1⟩]⟩ [(3,n+1),(2,-n+ -1)]) ((((([⟨3,1⟩,⟨2,-1⟩]:List Qb).length:Nat):Int)).toNat+1) 0=some (.inl ()):=k2
  rw[k2',if_neg c]
  simp only[Option.bind_some,Y4]
  simp[QN,Jz,Qax,Zd]
theorem QbH (am:Int) (hn:w64 (1+w64 (Int.tmod am 1000000000000))=n):Qt am=some true:=by
 have e0:w64 (0-n)= -n:=by rw[ZT (by omega) (by omega)];omega
 have hp:=Qde h1 h2;have hq:=QaK (n:=n);have hs:=Qdf (n:=n);obtain ⟨q,hr⟩:=QcH h1 h2;have hl:QO n=some (if n=1000000000000 then 2 else 0):=by
  unfold QO
  by_cases c:n=1000000000000<;>simp[c]
 unfold Qt
 simp only[hn,e0]
 have hp':Qi ⟨[],[]⟩ ⟨1,10,[⟨3,n⟩,⟨2,-n⟩]⟩=some (0,Zd n):=hp;have hs':Qw (Yo n) ⟨1,10,[⟨3,n⟩,⟨2,-n⟩]⟩=some true:=hs;have b3:Qk (Zd n) 3=some n:=by simp[Qk,Zd,YA]
 have b2:Qk (Zd n) 2=some (-n):=by simp[Qk,Zd,YA]
 have g1: ∀(a b:Qb),Q6 [a,b] 0=some a:=fun _ _=>rfl;have g2: ∀(a b c:Qb),Q6 (V6 [a,b] 0 c) 0=some c:=fun _ _ _=>rfl;have g3:Q6 (Yo n).Lines 1=some ⟨2,-n⟩:=rfl;have g4:decide ((((Yo n).Lines.length:Nat):Int)=2)=true:=rfl;have g5: ∀x:Qa,decide (((([x].length:Nat):Int))=1)=true:=fun _=>rfl
 simp only[YX,Option.bind_some,hp',oun,decide_true,Bool.not_true,cond_false,cond_true,g1,g2,hq,QaG,g5,g4,g3,hs',b3,b2,e0,hr,hl,Qcq]
end
theorem Yy (am:Int) (hw:wfI .u64 am):Qt am=some true:=by
 have h0:0≤am:=by
  have hm:IntKind.u64.min=0:=by decide
  unfold wfI at hw
  simp[Lit.wf,hm] at hw
  omega
 have ht:Int.tmod am 1000000000000=am%1000000000000:=Int.tmod_eq_emod_of_nonneg h0;refine QbH (n:=1+am%1000000000000) (by omega) (by omega) am ?_;have e:w64 (am%1000000000000)=am%1000000000000:=ZT (by omega) (by omega)
 rw[ht,e,ZT (by omega) (by omega)]
end Go.Proofs.Ytpghcnpheabbgaa
namespace Go.Proofs.Ytpghcnpheabbgaa
open Go.RowKit Go.ChangeShapes Go.WideShapes
set_option linter.unusedSimpArgs false
set_option linter.unusedVariables false
def Qcy (W:World):Gh:=⟨fun b=>W.heap[b]?,W.os,W.output,W.tape⟩
theorem Qbc (W:World):Inv W (Qcy W) []:=⟨rfl,rfl,rfl,fun _ _ h=>h,by simp,by simp,by simp⟩
theorem Qa6 {W W':World} {μ:Gh} {L:List Seg} (hm:(Qcy W).le μ) (h:Inv W' μ L):Below W.heap.size W W':=by
 have hb: ∀k,k<W.heap.size→W'.heap[k]? =W.heap[k]? :=fun k hk=>by
  have h1:W.heap[k]? =some W.heap[k]:=by simp[hk]
  rw[h1]
  exact h.mem k _ (hm.mem k _ h1)
 refine ⟨h.os.trans hm.os,h.tape.trans hm.tape,h.out.trans hm.out,?_,hb⟩;rcases Nat.eq_zero_or_pos W.heap.size with h0 | h0
 ·omega
 ·have h1:=hb (W.heap.size-1) (by omega);have h2:W.heap[W.heap.size-1]? =some (W.heap[W.heap.size-1]'(by omega)):=by simp
  rw[h2] at h1
  have:=QG h1
  omega
theorem Vg {P:Program} {f:FuncId} {fn:Func} (hf:P.funcs[f]? =some fn) (hb:fn.body.isNone=false) {args:List Value} {W:World} {v:Value} (h:Fn P f args (Qcy W) [] fun u _ _=>u=v) :
  Calls P f args.toArray W fun e W'=>e= .returned v∧Below W.heap.size W W':=by
 rcases h with ⟨_,h⟩ | ⟨fn',_,hf',_,hb',_⟩
 ·refine (h W (Qbc W)).mono ?_;rintro e W' ⟨u,μ',L',rfl,hm,hi,rfl⟩;exact ⟨rfl,Qa6 hm hi⟩
 ·rw[hf] at hf'
  injection hf' with hf'
  subst hf'
  rw[hb] at hb';cases hb'
section
variable {H:Type} {enc:TypeId×Value→H} {P:Program}
theorem Z6 (hl:laidOutB P=true) {W W':World} (hb:Below W.heap.size W W') {sp:Nat→Bool}: ∀{ts:List TypeId} {vs:List Value} {ds:List (DataW H)} {ps:List MemPlace},
  (∀t∈ts,P.readableRec t=true∧t<P.types.size)→(∀p∈ps,p.block<W.heap.size)→(∀p∈ps,sp p.block=true) →
  DataW.TrodAll enc P W 0 (fun _=>true) true ts vs ds ps→DataW.TrodAll enc P W' 0 sp true ts vs ds ps
 | [],vs,ds,ps,_,_,_,h=>by
  obtain ⟨rfl,rfl,rfl⟩:=trodAll_nil h
  rfl
 | t::ts,vs,ds,ps,hr,hlt,hs,h=>by
  obtain ⟨v,vs',d,ds',p,q,rfl,rfl,rfl,hd,hrest⟩:=trodAll_cons h;refine ⟨p,q,WideElems.Trod_stays hl (hr t (by simp)).1 (hr t (by simp)).2 hd (fun x hx=>hb.same (hlt x (by simp[hx]))) (fun x hx=>hs x (by simp[hx])),?_,rfl⟩;exact Z6 hl hb (fun u hu=>hr u (by simp[hu])) (fun x hx=>hlt x (by simp[hx])) (fun x hx=>hs x (by simp[hx])) hrest
theorem QaJ {f:Func} {s:ChangeSpec} {apart fresh handsOn again:Bool} {W W':World} {args:Array Value} {ds:List (DataW H)} {before:List MemPlace} {tb:TypeId}
  (hW:DataW.Whole enc P f.params.toList s.vars apart W args.toList ds [] before) (hv:s.vars=[]) (hres:f.resultTypes= #[tb]) (htb:P.underlying tb=some .bool)
  (hfr:(s.fn H ds).results=[.lit (.bool true)]) (hfa:(s.fn H ds).args=ds) (hfv:(s.fn H ds).vars=[]) (hl:laidOutB P=true) (hr: ∀t∈f.params.toList,P.readableRec t=true∧t<P.types.size) (hb:Below W.heap.size W W') :
  s.post enc P f apart fresh handsOn again W args (.bool true) W':=by
 have hlt: ∀p∈before,p.block<W.heap.size:=fun p hp=>hW.lt p hp;have hW':=hW;obtain ⟨p,q,hA,hV,hpq,hz,hn⟩:=hW'
 rw[hv] at hV
 obtain ⟨_,rfl⟩:=trodVars_none hV
 rw[List.append_nil] at hpq
 subst hpq;have hresl:((Value.bool true).resultList f.resultTypes.size)=[.bool true]:=by rw[hres];rfl
 have hargs: ∀sp:Nat→Bool,(∀x∈before,sp x.block=true)→DataW.TrodAll enc P W' 0 sp true f.params.toList args.toList ds before:=fun sp hs=>Z6 hl hb hr hlt hs hA;have hres2: ∀(b:Nat) (sp:Nat→Bool) (hd:Bool),DataW.TrodAll enc P W' b sp hd f.resultTypes.toList [.bool true] [.lit (.bool true)] []:=fun b sp hd=>by
  rw[hres];exact trodAll_mk1 (shut_bool htb true)
 have hold: ∀p∈before,(fun b=>decide (b<W.heap.size)) p.block=true:=fun p hp=>by simpa using hlt p hp
 have hvars: ∀sp:Nat→Bool,DataW.TrodVars enc P W' sp s.vars [] []:=fun sp=>by rw[hv];rfl
 refine ⟨ds,[],before,[],before,[],hW,?_,?_,?_,World.keptBut_mono (fun p hp=>⟨hp,by simpa using hp⟩) (hb.frame (· ∈before)),fun _=> ?_⟩
 ·rw[hresl,List.append_nil,hfr];exact hres2 _ _ _
 ·rw[List.append_nil,hfa];exact hargs _ hold
 ·rw[List.append_nil,hfv];exact hvars _
 ·have A1:=hargs (fun _=>true) (fun _ _=>rfl);have R1:=hres2 0 (fun _=>true) true;refine ⟨ok_one hres rfl (okWide_bool_mk htb true),?_⟩
  rw[hresl]
  refine ⟨_,_,([]++before)++[],⟨[]++before,[],trodAll_append A1 R1,hvars _,rfl,?_,?_⟩,?_⟩
  ·intro b off hp;have hin:MemPlace.cell b off∈before:=by simpa using hp
   rw[hb.frozen (hlt _ hin)]
   exact hz b off hin
  ·intro ha;have:=hn ha
   simpa using this
  ·intro p hp _
   simpa using hp
end
end Go.Proofs.Ytpghcnpheabbgaa
namespace Go.Proofs.Ytpghcnpheabbgaa
open Go.ChangeShapes Go.WideShapes Go.ChangeAt Go.RowKit
set_option linter.unusedSimpArgs false
set_option linter.unusedVariables false
theorem Qdj:ownKnob Try.prog.godebug=none:=by kernel_rfl
theorem Qbg:laidOutB Try.prog=true:=by kernel_rfl
set_option maxRecDepth 100000 in
theorem Z2 (os:Os) (started:os.Started) (H:Type) (enc:TypeId×Value→H) :
  ReturnsInHanded {} Try.checked os 9 .any (Rows.ledgerCopiesSpec.pre6 enc Try.prog Try.f9 Rows.ledgerCopiesRow.domain false) (Rows.ledgerCopiesSpec.post enc Try.prog Try.f9 false true false false):=by
 refine returnsInHanded_of_change (C:=Try.checked) Qdj started (by kernel_rfl) Try.func9
  (ChangeSpec.witness6 (enc:=enc) (C:=Try.checked) false ⟨#[], #[(.int .u64 0)],[]⟩ 8 (by kernel_rfl) (by kernel_rfl) (by kernel_rfl) (by kernel_rfl)) ?_
 intro W base args ds gs before hval0 hW hcnd _;have hval: ∀(j:Nat) t v,Try.f9.params[j]? =some t→args[j]? =some v→Value.okWide Try.prog W .any base t v:=hval0;have hW':=hW;obtain ⟨p,q,hA0,hV,rfl,hfz,hnd⟩:=hW;have hA:DataW.TrodAll enc Try.prog W 0 (fun _=>true) true Try.f9.params.toList args.toList ds p:=hA0
 rw[Try.params9] at hA hval
 obtain ⟨rfl,rfl⟩:=trodVars_none hV
 clear hA0 hval0
 obtain ⟨v0,d0,rfl,rfl,a0⟩:=trodAll_one hA;obtain ⟨x0,rfl,_,_,q0⟩:=open_int (P:=Try.prog) Try.underlying52 (hval 0 52 v0 rfl rfl) a0;have hF:=Yy x0 q0;refine (Vg (v:= .bool true) Try.func9 rfl (args:=[_]) (YF  hF (fun _ _=>rfl))).mono fun e W' ⟨he,hw⟩=> ?_;exact ⟨_,he,QaJ (tb:=4) hW' rfl rfl Try.underlying4 rfl rfl rfl Qbg (by decide +kernel) hw⟩
theorem ledgerCopies_holds:Rows.LedgerCopiesSaid :=
 OpenClaim.holds_of_wide 9 Try.f9 rfl rfl rfl rfl rfl rfl rfl ⟨rfl,rfl,rfl,rfl,rfl⟩ rfl rfl rfl rfl rfl (by kernel_rfl) Try.func9 (by kernel_rfl)
  (of_decide_eq_true (by kernel_rfl)) (by unfold Func.isWrapper;first | (rw[if_pos (by decide +kernel)];kernel_rfl) | (rw[if_neg (by decide +kernel)];exact ⟨rfl,rfl⟩))
  (fun os started H enc _=>Z2 os started H enc)
end Go.Proofs.Ytpghcnpheabbgaa
