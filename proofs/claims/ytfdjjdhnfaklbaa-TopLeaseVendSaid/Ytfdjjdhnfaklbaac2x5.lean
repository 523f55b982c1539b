/- TopLeaseVend: for every input the given law returns true, and its arguments read as before. No condition. -/
import Derived.Laws.StructEq
import Derived.Test.Ytfdjjdhnfaklbaac2x1
import Derived.Test.Ytfdjjdhnfaklbaac2x4
import Derived.Test.Ytfdjjdhnfaklbaac2x2
import Derived.Test.Ytfdjjdhnfaklbaac2x3
namespace Go.Proofs.Ytfdjjdhnfaklbaa
open Go.RowKit
set_option linter.unusedSimpArgs false
set_option linter.unusedVariables false
set_option maxHeartbeats 2000000
set_option maxRecDepth 4000
attribute [local irreducible] WP Q5 Jz Fn AN Upd vcR vcO WT YA Yx Jg JN WI Wn Y7 WG QP KS
theorem WH (a b:Qp):ZN Try.prog (do eqGuard .eql 48 (.tmp 0) (.tmp 0) (.agg #[.int .i64 a.Kind,.int .i64 a.Amount,.int .i64 a.Err]) (.agg #[.int .i64 b.Kind,.int .i64 b.Amount,.int .i64 b.Err]);binOp .eql 48 (.agg #[.int .i64 a.Kind,.int .i64 a.Amount,.int .i64 a.Err]) (.agg #[.int .i64 b.Kind,.int .i64 b.Amount,.int .i64 b.Err])) (.bool (decide (a=b))):=by
 obtain ⟨x0,x1,x2⟩:=a;obtain ⟨y0,y1,y2⟩:=b;intro w
 rw[Sem.run_bind,run_eqGuard_agg w _ _ _ _ _ _ (by kernel_rfl),Result.andThen_ok]
 simp only[binOp,Op.equal,Op.maxDepth,Sem.run_bind]
 rw[run_equalIn_struct w 9999 _ _ _ (by kernel_rfl) (by kernel_rfl)]
 by_cases h0:x0=y0
 case neg=>simp[Program.fieldsOf,Try.underlying48,go_sem,h0]
 by_cases h1:x1=y1
 case neg=>simp[Program.fieldsOf,Try.underlying48,go_sem,h0,h1]
 by_cases h2:x2=y2
 case neg=>simp[Program.fieldsOf,Try.underlying48,go_sem,h0,h1,h2]
 simp[Program.fieldsOf,Try.underlying48,go_sem,h0,h1,h2]
variable {μ:Gh} {L:List Seg} {R:Value→Gh→List Seg→Prop}
theorem ZM  {s1:ByteArray} {n1:Int}  {res1:Bool}
   (h:QA s1 n1=some res1)
  (hR:R (.bool res1) μ (L)) :
  Fn Try.prog 54 [.string s1,.int .i64 n1] μ (L) R:=by
 unfold QA at h;refine FnS Try.func54 (by kernel_rfl) E Try.ntmps54 E E ?_;refine G0 12 E ?_;refine Br h 9 E E (fun hc1 h=> ?_) (fun hc1 h=> ?_)
 ·refine G2 5 [9] [] [] E ?_;cases h;exact Rt [] E E (Ug [] 0 hR)
 refine G2 7 [] [9] [] E ?_;refine Cut h (fun f l o_ f_ μ_ l_=>(.inl ())=o_∧Qi ([]) f_∧Qd l l_∧μ=μ_) ?_ ?_
 ·intro _ h11 h;refine Lp h11 (fun f l (i1:Int) f_ μ_ l_=>Qi ((5,.int .i64 i1)::Qo [0,1] f) f_∧Qd l l_∧μ=μ_) ⟨fE E,sE [] 0 E,E⟩ ?_;rintro i1 _ _ _ _ _ ⟨hF14,hS14,rfl⟩ hb14 hq14;unfold Qu at hb14;refine Atn 0 hF14 hS14 E E (G0 7 E ?_);refine Br hb14 12 E E (fun hc2 hb14=> ?_) (fun hc2 hb14=> ?_)
  ·refine G2 5 [12] [] [] E ?_;refine Cut hb14 (fun f l o_ f_ μ_ l_=> ∃(v1:Bool),v1=o_∧Qi ((24,.bool v1)::Qo [0,1,5] f) f_∧Qd l l_∧μ=μ_) ?_ ?_
   ·intro _ h15 hb14;obtain ⟨_,hb1,h15⟩:=Qj h15;refine G0 3 E (Rdo E E (Va QB E E E E hb1 (Q0 2 E ?_)));refine Br h15 19 E E (fun hc3 h15=> ?_) (fun hc3 h15=> ?_)
    ·refine G2 6 [19] [] [] E ?_;cases h15;exact Ce E ⟨_,rfl,fE E,sE [] 0 E,rfl⟩
    obtain ⟨_,hb2,h15⟩:=Qj h15;refine G2 2 [] [19] [] E (Rdo E E (Va QB E E E E hb2 (Q2 3 [] [19] [] E ?_)));cases h15;exact Ce E ⟨_,rfl,fE E,sE [] 0 E,rfl⟩
   rintro _ _ _ _ hb14 _ ⟨v1,rfl,hF15,hS15,rfl⟩;refine Atn 0 hF15 hS15 E E ?_;refine Br hb14 24 E E (fun hc4 hb14=> ?_) (fun hc4 hb14=> ?_)
   ·refine G2 5 [24] [] [] E ?_;cases hb14;have hq_:=hq14 _ E;subst hq_;replace h:=QD h;cases h;exact Rt [] E E (Ug [] 0 hR)
   refine G2 8 [] [24] [] E ?_;cases hb14;exact Ce E ⟨_,rfl,fE E,sE [] 0 E,rfl⟩
  refine G2 2 [] [12] [] E ?_;cases hb14;have hq_:=hq14 _ E;subst hq_;exact Ce E ⟨rfl,fE E,sE [] 0 E,rfl⟩
 rintro _ _ _ _ h _ ⟨rfl,hF11,hS11,rfl⟩;replace h:=YQ h;refine Atn 0 hF11 hS11 E E (G0 4 E ?_);cases h;exact Rt [] E E (Ug [] 0 hR)
theorem J6  {s1:ByteArray}  {res1:Int} {res2:Int}
   (h:QX s1=some (res1,res2))
  (hR:R (.tuple #[.int .i64 res1,.int .i64 res2]) μ (L)) :
  Fn Try.prog 55 [.string s1] μ (L) R:=by
 unfold QX at h;refine FnS Try.func55 (by kernel_rfl) E Try.ntmps55 E E ?_;refine G0 9 E (Cl E ?_);obtain ⟨_,hx1,h⟩:=Qj h;refine ZM  hx1 ((Q0 2 E ?_));refine Br h 9 E E (fun hc1 h=> ?_) (fun hc1 h=> ?_)
 ·refine G2 6 [9] [] [] E ?_;cases h;exact Rt [] E E (Ug [] 0 hR)
 refine G2 11 [] [9] [] E ?_;refine Cut h (fun f l o_ f_ μ_ l_=> ∃(sum2:Int),sum2=o_∧Qi ((4,.int .i64 sum2)::[]) f_∧Qd l l_∧μ=μ_) ?_ ?_
 ·intro _ h16 h;refine Lp h16 (fun f l (j_:Int×Int) f_ μ_ l_=>VJ j_ fun sum1 i1=>Qi ((4,.int .i64 sum1)::(5,.int .i64 i1)::Qo [0] f) f_∧Qd l l_∧μ=μ_) ⟨fE E,sE [] 0 E,E⟩ ?_;rintro ⟨sum1,i1⟩ _ _ _ _ _ ⟨hF19,hS19,rfl⟩ hb19 hq19;unfold QS at hb19;replace hb19:=Ql hb19;refine Atn 0 hF19 hS19 E E (G0 6 E ?_);refine Br hb19 11 E E (fun hc2 hb19=> ?_) (fun hc2 hb19=> ?_)
  ·obtain ⟨_,hb1,hb19⟩:=Qj hb19;refine G2 8 [11] [] [] E (Rdo E E (Va QB E E E E hb1 (Q1 11 [0] E ?_)));refine Cut hb19 (fun f l o_ f_ μ_ l_=> ∃(d1:Int),d1=o_∧Qi ((6,.int .i64 d1)::Qo [0,4,5] f) f_∧Qd l l_∧μ=μ_) ?_ ?_
   ·intro _ h20 hb19;refine Br h20 21 E E (fun hc3 h20=> ?_) (fun hc3 h20=> ?_)
    ·refine G2 6 [21] [] [] E ?_;cases h20;exact Ce E ⟨_,rfl,fE E,sE [] 0 E,rfl⟩
    refine G2 2 [] [21] [] E ?_;cases h20;exact Ce E ⟨_,rfl,fE E,sE [] 0 E,rfl⟩
   rintro _ _ _ _ hb19 _ ⟨d1,rfl,hF20,hS20,rfl⟩;refine Atn 0 hF20 hS20 E E (G0 12 E ?_);cases hb19;exact Ce E ⟨_,rfl,fE E,sE [] 0 E,rfl⟩
  refine G2 2 [] [11] [] E ?_;cases hb19;have hq_:=hq19 _ E;subst hq_;exact Ce E ⟨_,rfl,fE E,sE [] 0 E,rfl⟩
 rintro _ _ _ _ h _ ⟨sum2,rfl,hF16,hS16,rfl⟩;refine Atn 0 hF16 hS16 E E (G1 9 [0,0] E ?_);cases h;exact Rt [] E E (Ug [] 0 hR)
theorem Ws  {s1:ByteArray}  {res1:Int}
   (h:QM s1=some res1)
  (hR:R (.int .i64 res1) μ (L)) :
  Fn Try.prog 22 [.string s1] μ (L) R:=by
 unfold QM at h;refine FnS Try.func22 (by kernel_rfl) E Try.ntmps22 E E ?_;refine G0 8 E (Cl E ?_);obtain ⟨_,hx1,h⟩:=Qj h;refine ZM  hx1 ((Q0 2 E ?_));refine Br h 7 E E (fun hc1 h=> ?_) (fun hc1 h=> ?_)
 ·refine G2 5 [7] [] [] E ?_;cases h;exact Rt [] E E (Ug [] 0 hR)
 obtain ⟨_,hz1,h⟩:=Qj h;refine G2 5 [] [7] [] E (Rdo E E (Qez E E E E hz1 (Q0 0 E (Cl E ?_))));obtain ⟨⟨_,_⟩,hx2,h⟩:=Qj h;replace h:=Ql h;refine J6  hx2 (?_);obtain ⟨_,hb1,h⟩:=Qj h;refine Q0 10 E (Rdo E E (Va QB E E E E hb1 (Q0 5 E ?_)));refine Br h 19 E E (fun hc2 h=> ?_) (fun hc2 h=> ?_)
 ·refine G2 5 [19] [] [] E ?_;cases h;exact Rt [] E E (Ug [] 0 hR)
 refine G2 6 [] [19] [] E ?_;cases h;exact Rt [] E E (Ug [] 0 hR)
theorem J5  {l1:(List Qb)} {parties1:Int} {materials1:Int} {A1:Option Addr} {c1:Nat} {res1:Int}
  (hl1:l1.length≤c1∧c1≤maxLen) (hA1:Rds QG μ L A1 l1) (h:QW l1 parties1 materials1=some res1)
  (hR:R (.int .i64 res1) μ (L)) :
  Fn Try.prog 5 [.slice A1 l1.length c1,.int .i64 parties1,.int .i64 materials1] μ (L) R:=by
 unfold QW at h;refine FnS Try.func5 (by kernel_rfl) E Try.ntmps5 E E ?_;refine G0 11 E ?_;refine Br h 14 E E (fun hc1 h=> ?_) (fun hc1 h=> ?_)
 ·refine G2 5 [14] [] [] E ?_;cases h;exact Rt [] E E (Ug [] 0 hR)
 refine G2 9 [] [14] [] E ?_;refine Cut h (fun f l o_ f_ μ_ l_=>(.inl ())=o_∧Qi (Qo [0] f) f_∧Qd l l_∧μ=μ_) ?_ ?_
 ·intro _ h7 h;refine Lp h7 (fun f l (v1:Int) f_ μ_ l_=>Qi ((17,.int .i64 v1)::Qo [0,1,2,15,16] f) f_∧Qd l l_∧μ=μ_) ⟨fE E,sE [] 0 E,E⟩ ?_;rintro v1 _ _ _ _ _ ⟨hF31,hS31,rfl⟩ hb31 hq31;unfold QE at hb31;refine Atn 0 hF31 hS31 E E (G0 5 E ?_);refine Br hb31 18 E E (fun hc2 hb31=> ?_) (fun hc2 hb31=> ?_)
  ·refine G2 6 [18] [] [] E (Ix hb31 hA1 E E fun _ _ _ _ hr1 hc3 _ hb31=> ?_);obtain rfl:=hr1;refine Q3 1 [] [] [64] (Z1 hc3) E (Al E fun _=>Q1 7 [0,0] E (Cl E ?_));obtain ⟨_,hx2,hb31⟩:=Qj hb31;refine Ws  hx2 ((Q0 7 E ?_));refine Br hb31 25 E E (fun hc4 hb31=> ?_) (fun hc4 hb31=> ?_)
   ·refine G2 6 [25] [] [] E ?_;cases hb31;have hq_:=hq31 _ E;subst hq_;replace h:=QD h;cases h;exact Rt [] E E (Ug [] 1 hR)
   refine G2 4 [] [25] [] E ?_;refine Cut hb31 (fun f l o_ f_ μ_ l_=> ∃(v2:Bool),v2=o_∧Qi ((35,.bool v2)::Qo [0,1,2,8,15,16,17] f) f_∧Qd l l_∧μ=μ_) ?_ ?_
   ·intro _ h34 hb31;refine G1 5 [0] E ?_;refine Br h34 30 E E (fun hc5 h34=> ?_) (fun hc5 h34=> ?_)
    ·refine G2 6 [30] [] [] E ?_;cases h34;exact Ce E ⟨_,rfl,fE E,sE [some 0] 1 E,rfl⟩
    refine G2 6 [] [30] [0] E ?_;cases h34;exact Ce E ⟨_,rfl,fE E,sE [some 0] 1 E,rfl⟩
   rintro _ _ _ _ hb31 _ ⟨v2,rfl,hF34,hS34,rfl⟩;refine Atn 1 hF34 hS34 E E ?_;refine Br hb31 35 E E (fun hc6 hb31=> ?_) (fun hc6 hb31=> ?_)
   ·refine G2 5 [35] [] [] E ?_;cases hb31;have hq_:=hq31 _ E;subst hq_;replace h:=QD h;cases h;exact Rt [] E E (Ug [] 1 hR)
   refine G2 4 [] [35] [] E ?_;refine Cut hb31 (fun f l o_ f_ μ_ l_=> ∃(v3:Bool),v3=o_∧Qi ((43,.bool v3)::Qo [0,1,2,8,15,16,17] f) f_∧Qd l l_∧μ=μ_) ?_ ?_
   ·intro _ h37 hb31;refine G1 5 [0] E ?_;refine Br h37 39 E E (fun hc7 h37=> ?_) (fun hc7 h37=> ?_)
    ·refine G2 5 [39] [] [] E ?_;cases h37;exact Ce E ⟨_,rfl,fE E,sE [some 0] 1 E,rfl⟩
    refine G2 5 [] [39] [0] E ?_;cases h37;exact Ce E ⟨_,rfl,fE E,sE [some 0] 1 E,rfl⟩
   rintro _ _ _ _ hb31 _ ⟨v3,rfl,hF37,hS37,rfl⟩;refine Atn 1 hF37 hS37 E E ?_;refine Br hb31 43 E E (fun hc8 hb31=> ?_) (fun hc8 hb31=> ?_)
   ·refine G2 5 [43] [] [] E ?_;cases hb31;have hq_:=hq31 _ E;subst hq_;replace h:=QD h;cases h;exact Rt [] E E (Ug [] 1 hR)
   refine G2 4 [] [43] [] E ?_;refine Cut hb31 (fun f l o_ f_ μ_ l_=> ∃(v4:Bool),v4=o_∧Qi ((52,.bool v4)::Qo [0,1,2,8,15,16,17] f) f_∧Qd l l_∧μ=μ_) ?_ ?_
   ·intro _ h40 hb31;refine G1 5 [0] E ?_;refine Br h40 47 E E (fun hc9 h40=> ?_) (fun hc9 h40=> ?_)
    ·refine G2 6 [47] [] [] E ?_;cases h40;exact Ce E ⟨_,rfl,fE E,sE [some 0] 1 E,rfl⟩
    refine G2 6 [] [47] [0] E ?_;cases h40;exact Ce E ⟨_,rfl,fE E,sE [some 0] 1 E,rfl⟩
   rintro _ _ _ _ hb31 _ ⟨v4,rfl,hF40,hS40,rfl⟩;refine Atn 1 hF40 hS40 E E ?_;refine Br hb31 52 E E (fun hc10 hb31=> ?_) (fun hc10 hb31=> ?_)
   ·refine G2 5 [52] [] [] E ?_;cases hb31;have hq_:=hq31 _ E;subst hq_;replace h:=QD h;cases h;exact Rt [] E E (Ug [] 1 hR)
   refine G2 3 [] [52] [] E ?_;refine Cut hb31 (fun f l o_ f_ μ_ l_=> ∃(v5:Bool),v5=o_∧Qi ((60,.bool v5)::Qo [0,1,2,15,16,17] f) f_∧Qd (YJ [] 1 l) l_∧μ=μ_) ?_ ?_
   ·intro _ h43 hb31;refine G1 5 [0] E ?_;refine Br h43 56 E E (fun hc11 h43=> ?_) (fun hc11 h43=> ?_)
    ·refine G2 5 [56] [] [] E ?_;cases h43;exact Ce E ⟨_,rfl,fE E,sE [] 1 E,rfl⟩
    refine G2 5 [] [56] [0] E ?_;cases h43;exact Ce E ⟨_,rfl,fE E,sE [] 1 E,rfl⟩
   rintro _ _ _ _ hb31 _ ⟨v5,rfl,hF43,hS43,rfl⟩;refine Atn 0 hF43 hS43 E E ?_;refine Br hb31 60 E E (fun hc12 hb31=> ?_) (fun hc12 hb31=> ?_)
   ·refine G2 5 [60] [] [] E ?_;cases hb31;have hq_:=hq31 _ E;subst hq_;replace h:=QD h;cases h;exact Rt [] E E (Ug [] 0 hR)
   refine G2 7 [] [60] [] E ?_;cases hb31;exact Ce E ⟨_,rfl,fE E,sE [] 0 E,rfl⟩
  refine G2 2 [] [18] [] E ?_;cases hb31;have hq_:=hq31 _ E;subst hq_;exact Ce E ⟨rfl,fE E,sE [] 0 E,rfl⟩
 rintro _ _ _ _ h _ ⟨rfl,hF7,hS7,rfl⟩;replace h:=YQ h;refine Atn 0 hF7 hS7 E E (G0 7 E ?_);refine Cut h (fun f l o_ f_ μ_ l_=>(.inl ())=o_∧Qi ([]) f_∧Qd l l_∧μ=μ_) ?_ ?_
 ·intro _ h44 h;refine Lp h44 (fun f l (v6:Int) f_ μ_ l_=>Qi ((64,.int .i64 v6)::Qo [0,63] f) f_∧Qd l l_∧μ=μ_) ⟨fE E,sE [] 0 E,E⟩ ?_;rintro v6 _ _ _ _ _ ⟨hF50,hS50,rfl⟩ hb50 hq50;unfold Yi at hb50;refine Atn 0 hF50 hS50 E E (G0 5 E ?_);refine Br hb50 65 E E (fun hc13 hb50=> ?_) (fun hc13 hb50=> ?_)
  ·refine G2 3 [65] [] [] E ?_;refine Cut hb50 (fun f l o_ f_ μ_ l_=>(.inl ())=o_∧Qi (Qo [0,63,64] f) f_∧Qd l l_∧μ=μ_) ?_ ?_
   ·intro _ h51 hb50;refine G0 10 E ?_;refine Cut h51 (fun f l o_ f_ μ_ l_=>(.inl ())=o_∧Qi (Qo [0,63,64] f) f_∧Qd l l_∧μ=μ_) ?_ ?_
    ·intro _ h52 h51;refine Lp h52 (fun f l (k1:Int) f_ μ_ l_=>Qi ((11,.int .i64 k1)::Qo [0,10,63,64] f) f_∧Qd l l_∧μ=μ_) ⟨fE E,sE [] 0 E,E⟩ ?_;rintro k1 _ _ _ _ _ ⟨hF54,hS54,rfl⟩ hb54 hq54;unfold Yh at hb54;refine Atn 0 hF54 hS54 E E (G0 7 E ?_);refine Br hb54 69 E E (fun hc14 hb54=> ?_) (fun hc14 hb54=> ?_)
     ·refine G2 5 [69] [] [] E (Dr _ QP.refl [(true,0),(true,1),(true,2),(true,3),(true,4),(true,5),(true,6),(true,7),(true,8),(true,9),(true,10)] (by kernel_rfl) (G0 2 E (Ix hb54 hA1 E E fun _ _ _ _ hr2 hc15 _ hb54=> ?_)));obtain rfl:=hr2;refine Q3 4 [] [] [64] (Z1 hc15) E (Ix hb54 hA1 E E fun _ _ _ _ hr3 hc16 _ hb54=> ?_);obtain rfl:=hr3;refine Q3 2 [] [] [64] (Z1 hc16) E (Rdo E E (Qes QB E E E E (Q0 1 E ?_)));refine Br hb54 82 E E (fun hc17 hb54=> ?_) (fun hc17 hb54=> ?_)
      ·refine G2 5 [82] [] [] E ?_;cases hb54;have hq_:=hq54 _ E;subst hq_;replace h51:=QD h51;cases h51;replace hb50:=QD hb50;cases hb50;have hq_:=hq50 _ E;subst hq_;replace h:=QD h;cases h;exact Rt [] E E (Ug [] 0 hR)
      refine G2 8 [] [82] [] E ?_;cases hb54;exact Ce E ⟨_,rfl,fE E,sE [] 0 E,rfl⟩
     refine G2 2 [] [69] [] E ?_;cases hb54;have hq_:=hq54 _ E;subst hq_;exact Ce E ⟨rfl,fE E,sE [] 0 E,rfl⟩
    rintro _ _ _ _ h51 _ ⟨rfl,hF52,hS52,rfl⟩;replace h51:=YQ h51;refine G0 1 E ?_;cases h51;exact Ce E ⟨rfl,hF52.tr E,hS52.tr (sE [] 0 E),rfl⟩
   rintro _ _ _ _ hb50 _ ⟨rfl,hF51,hS51,rfl⟩;replace hb50:=YQ hb50;refine Atn 0 hF51 hS51 E E (G0 4 E ?_);cases hb50;exact Ce E ⟨_,rfl,fE E,sE [] 0 E,rfl⟩
  refine G2 2 [] [65] [] E ?_;cases hb50;have hq_:=hq50 _ E;subst hq_;exact Ce E ⟨rfl,fE E,sE [] 0 E,rfl⟩
 rintro _ _ _ _ h _ ⟨rfl,hF44,hS44,rfl⟩;replace h:=YQ h;refine Atn 0 hF44 hS44 E E (G0 4 E ?_);cases h;exact Rt [] E E (Ug [] 0 hR)
theorem WB  {products1:Int} {x1:Qg} {parties1:Int}  {res1:Int}
   (h:YS products1 x1 parties1=some res1)
  (hR:R (.int .i64 res1) μ (L)) :
  Fn Try.prog 23 [.int .i64 products1,.agg #[.int .i64 x1.Product,.int .i64 x1.First,.int .i64 x1.Count,.int .i64 x1.Retailer,.int .i64 x1.At],.int .i64 parties1] μ (L) R:=by
 unfold YS at h;refine FnS Try.func23 (by kernel_rfl) E Try.ntmps23 E E ?_;refine G0 2 E (Al E fun _=>Q0 4 E ?_);refine Cut h (fun f l o_ f_ μ_ l_=> ∃(v1:Bool),v1=o_∧Qi ((15,.bool v1)::Qo [2,4] f) f_∧Qd l l_∧μ=μ_) ?_ ?_
 ·intro _ h60 h;refine G1 5 [0] E ?_;refine Br h60 10 E E (fun hc1 h60=> ?_) (fun hc1 h60=> ?_)
  ·refine G2 6 [10] [] [] E ?_;cases h60;exact Ce E ⟨_,rfl,fE E,sE [some 0] 1 E,rfl⟩
  refine G2 6 [] [10] [0] E ?_;cases h60;exact Ce E ⟨_,rfl,fE E,sE [some 0] 1 E,rfl⟩
 rintro _ _ _ _ h _ ⟨v1,rfl,hF60,hS60,rfl⟩;refine Atn 1 hF60 hS60 E E ?_;refine Br h 15 E E (fun hc2 h=> ?_) (fun hc2 h=> ?_)
 ·refine G2 5 [15] [] [] E ?_;cases h;exact Rt [] E E (Ug [] 1 hR)
 refine G2 4 [] [15] [] E ?_;refine Cut h (fun f l o_ f_ μ_ l_=> ∃(v2:Bool),v2=o_∧Qi ((42,.bool v2)::Qo [2,4] f) f_∧Qd l l_∧μ=μ_) ?_ ?_
 ·intro _ h63 h;refine G1 5 [0] E ?_;refine Br h63 19 E E (fun hc3 h63=> ?_) (fun hc3 h63=> ?_)
  ·refine G2 24 [19,24,29,34] [] [] E ?_;cases h63;exact Ce E ⟨_,rfl,fE E,sE [some 0] 1 E,rfl⟩
  refine G2 5 [] [19] [0] E ?_;refine Br h63 24 E E (fun hc4 h63=> ?_) (fun hc4 h63=> ?_)
  ·refine G2 19 [24,29,34] [] [] E ?_;cases h63;exact Ce E ⟨_,rfl,fE E,sE [some 0] 1 E,rfl⟩
  refine G2 5 [] [24] [0] E ?_;refine Br h63 29 E E (fun hc5 h63=> ?_) (fun hc5 h63=> ?_)
  ·refine G2 14 [29,34] [] [] E ?_;cases h63;exact Ce E ⟨_,rfl,fE E,sE [some 0] 1 E,rfl⟩
  refine G2 5 [] [29] [0] E ?_;refine Br h63 34 E E (fun hc6 h63=> ?_) (fun hc6 h63=> ?_)
  ·refine G2 9 [34] [] [] E ?_;cases h63;exact Ce E ⟨_,rfl,fE E,sE [some 0] 1 E,rfl⟩
  refine G2 9 [] [34] [0,0] E ?_;cases h63;exact Ce E ⟨_,rfl,fE E,sE [some 0] 1 E,rfl⟩
 rintro _ _ _ _ h _ ⟨v2,rfl,hF63,hS63,rfl⟩;refine Atn 1 hF63 hS63 E E ?_;refine Br h 42 E E (fun hc7 h=> ?_) (fun hc7 h=> ?_)
 ·refine G2 5 [42] [] [] E ?_;cases h;exact Rt [] E E (Ug [] 1 hR)
 refine G2 4 [] [42] [] E ?_;refine Cut h (fun f l o_ f_ μ_ l_=> ∃(v3:Bool),v3=o_∧Qi ((51,.bool v3)::Qo [4] f) f_∧Qd l l_∧μ=μ_) ?_ ?_
 ·intro _ h66 h;refine G1 5 [0] E ?_;refine Br h66 46 E E (fun hc8 h66=> ?_) (fun hc8 h66=> ?_)
  ·refine G2 6 [46] [] [] E ?_;cases h66;exact Ce E ⟨_,rfl,fE E,sE [some 0] 1 E,rfl⟩
  refine G2 6 [] [46] [0] E ?_;cases h66;exact Ce E ⟨_,rfl,fE E,sE [some 0] 1 E,rfl⟩
 rintro _ _ _ _ h _ ⟨v3,rfl,hF66,hS66,rfl⟩;refine Atn 1 hF66 hS66 E E ?_;refine Br h 51 E E (fun hc9 h=> ?_) (fun hc9 h=> ?_)
 ·refine G2 5 [51] [] [] E ?_;cases h;exact Rt [] E E (Ug [] 1 hR)
 refine G2 4 [] [51] [] E ?_;refine Cut h (fun f l o_ f_ μ_ l_=> ∃(v4:Bool),v4=o_∧Qi ((59,.bool v4)::[]) f_∧Qd (YJ [] 1 l) l_∧μ=μ_) ?_ ?_
 ·intro _ h69 h;refine G1 5 [0] E ?_;refine Br h69 55 E E (fun hc10 h69=> ?_) (fun hc10 h69=> ?_)
  ·refine G2 5 [55] [] [] E ?_;cases h69;exact Ce E ⟨_,rfl,fE E,sE [] 1 E,rfl⟩
  refine G2 5 [] [55] [0] E ?_;cases h69;exact Ce E ⟨_,rfl,fE E,sE [] 1 E,rfl⟩
 rintro _ _ _ _ h _ ⟨v4,rfl,hF69,hS69,rfl⟩;refine Atn 0 hF69 hS69 E E ?_;refine Br h 59 E E (fun hc11 h=> ?_) (fun hc11 h=> ?_)
 ·refine G2 5 [59] [] [] E ?_;cases h;exact Rt [] E E (Ug [] 0 hR)
 refine G2 6 [] [59] [] E ?_;cases h;exact Rt [] E E (Ug [] 0 hR)
theorem YR  {x1:Qg} {s1:Int}  {res1:Bool}
   (h:QF x1 s1=some res1)
  (hR:R (.bool res1) μ (L)) :
  Fn Try.prog 24 [.agg #[.int .i64 x1.Product,.int .i64 x1.First,.int .i64 x1.Count,.int .i64 x1.Retailer,.int .i64 x1.At],.int .i64 s1] μ (L) R:=by
 unfold QF at h;refine FnS Try.func24 (by kernel_rfl) E Try.ntmps24 E E ?_;refine G0 2 E (Al E fun _=>Q0 3 E ?_);refine Cut h (fun f l o_ f_ μ_ l_=> ∃(v1:Bool),v1=o_∧Qi ((4,.bool v1)::[]) f_∧Qd (YJ [] 1 l) l_∧μ=μ_) ?_ ?_
 ·intro _ h77 h;refine G1 6 [0] E ?_;refine Br h77 9 E E (fun hc1 h77=> ?_) (fun hc1 h77=> ?_)
  ·refine G2 5 [9] [] [0] E ?_;refine Br h77 14 E E (fun hc2 h77=> ?_) (fun hc2 h77=> ?_)
   ·refine G2 13 [14] [] [0,0] E ?_;cases h77;exact Ce E ⟨_,rfl,fE E,sE [] 1 E,rfl⟩
   refine G2 13 [] [14] [] E ?_;cases h77;exact Ce E ⟨_,rfl,fE E,sE [] 1 E,rfl⟩
  refine G2 18 [] [9,14] [] E ?_;cases h77;exact Ce E ⟨_,rfl,fE E,sE [] 1 E,rfl⟩
 rintro _ _ _ _ h _ ⟨v1,rfl,hF77,hS77,rfl⟩;refine Atn 0 hF77 hS77 E E ?_;cases h;exact Rt [] E E (Ug [] 0 hR)
theorem J7  {products1:(List Qb)} {l1:(List Qg)} {parties1:Int} {A1:Option Addr} {c1:Nat} {A2:Option Addr} {c2:Nat} {res1:Int}
  (hl1:products1.length≤c1∧c1≤maxLen) (hA1:Rds QG μ L A1 products1) (hl2:l1.length≤c2∧c2≤maxLen) (hA2:Rds Y6 μ L A2 l1) (h:Yy products1 l1 parties1=some res1)
  (hR:R (.int .i64 res1) μ (L)) :
  Fn Try.prog 6 [.slice A1 products1.length c1,.slice A2 l1.length c2,.int .i64 parties1] μ (L) R:=by
 unfold Yy at h;refine FnS Try.func6 (by kernel_rfl) E Try.ntmps6 E E ?_;refine G0 11 E ?_;refine Br h 13 E E (fun hc1 h=> ?_) (fun hc1 h=> ?_)
 ·refine G2 5 [13] [] [] E ?_;cases h;exact Rt [] E E (Ug [] 0 hR)
 refine G2 7 [] [13] [] E ?_;refine Cut h (fun f l o_ f_ μ_ l_=>(.inl ())=o_∧Qi (Qo [1] f) f_∧Qd l l_∧μ=μ_) ?_ ?_
 ·intro _ h57 h;refine Lp h57 (fun f l (i1:Int) f_ μ_ l_=>Qi ((7,.int .i64 i1)::Qo [0,1,2] f) f_∧Qd l l_∧μ=μ_) ⟨fE E,sE [] 0 E,E⟩ ?_;rintro i1 _ _ _ _ _ ⟨hF70,hS70,rfl⟩ hb70 hq70;unfold Yj at hb70;refine Atn 0 hF70 hS70 E E (G0 8 E ?_);refine Br hb70 17 E E (fun hc2 hb70=> ?_) (fun hc2 hb70=> ?_)
  ·refine G2 10 [17] [] [] E (Ix hb70 hA2 E E fun _ _ _ _ hr1 hc3 _ hb70=> ?_);obtain rfl:=hr1;refine Q3 2 [] [] [64] (Z1 hc3) E (Cl E ?_);obtain ⟨_,hx2,hb70⟩:=Qj hb70;refine WB  hx2 ((Q0 7 E ?_));refine Br hb70 29 E E (fun hc4 hb70=> ?_) (fun hc4 hb70=> ?_)
   ·refine G2 6 [29] [] [] E ?_;cases hb70;have hq_:=hq70 _ E;subst hq_;replace h:=QD h;cases h;exact Rt [] E E (Ug [] 0 hR)
   refine G2 8 [] [29] [] E ?_;cases hb70;exact Ce E ⟨_,rfl,fE E,sE [] 0 E,rfl⟩
  refine G2 2 [] [17] [] E ?_;cases hb70;have hq_:=hq70 _ E;subst hq_;exact Ce E ⟨rfl,fE E,sE [] 0 E,rfl⟩
 rintro _ _ _ _ h _ ⟨rfl,hF57,hS57,rfl⟩;replace h:=YQ h;refine Atn 0 hF57 hS57 E E (G0 5 E ?_);refine Cut h (fun f l o_ f_ μ_ l_=>(.inl ())=o_∧Qi ([]) f_∧Qd l l_∧μ=μ_) ?_ ?_
 ·intro _ h71 h;refine Lp h71 (fun f l (i2:Int) f_ μ_ l_=>Qi ((9,.int .i64 i2)::Qo [1] f) f_∧Qd l l_∧μ=μ_) ⟨fE E,sE [] 0 E,E⟩ ?_;rintro i2 _ _ _ _ _ ⟨hF81,hS81,rfl⟩ hb81 hq81;unfold Yl at hb81;refine Atn 0 hF81 hS81 E E (G0 8 E ?_);refine Br hb81 34 E E (fun hc5 hb81=> ?_) (fun hc5 hb81=> ?_)
  ·refine G2 3 [34] [] [] E ?_;refine Cut hb81 (fun f l o_ f_ μ_ l_=>(.inl ())=o_∧Qi (Qo [1,9] f) f_∧Qd l l_∧μ=μ_) ?_ ?_
   ·intro _ h82 hb81;refine G0 5 E ?_;refine Cut h82 (fun f l o_ f_ μ_ l_=>(.inl ())=o_∧Qi (Qo [1,9] f) f_∧Qd l l_∧μ=μ_) ?_ ?_
    ·intro _ h83 h82;refine Lp h83 (fun f l (k1:Int) f_ μ_ l_=>Qi ((10,.int .i64 k1)::Qo [1,9] f) f_∧Qd l l_∧μ=μ_) ⟨fE E,sE [] 0 E,E⟩ ?_;rintro k1 _ _ _ _ _ ⟨hF86,hS86,rfl⟩ hb86 hq86;unfold Yk at hb86;refine Atn 0 hF86 hS86 E E (G0 7 E ?_);refine Br hb86 39 E E (fun hc6 hb86=> ?_) (fun hc6 hb86=> ?_)
     ·refine G2 5 [39] [] [] E ?_;refine Cut hb86 (fun f l o_ f_ μ_ l_=> ∃(v1:Bool),v1=o_∧Qi ((63,.bool v1)::Qo [1,9,10] f) f_∧Qd l l_∧μ=μ_) ?_ ?_
      ·intro _ h87 hb86;refine Dr _ QP.refl [(true,0),(true,1),(true,2),(true,3),(true,4),(true,5),(true,6),(true,7),(true,8),(false,9),(true,10),(true,11),(true,12),(true,13),(true,14),(true,15),(true,16),(true,17),(true,18),(true,19),(false,20),(true,21)] (by kernel_rfl) (G0 2 E (Ix h87 hA2 E E fun _ _ _ _ hr2 hc7 _ h87=> ?_));obtain rfl:=hr2;refine Q3 3 [] [] [64] (Z1 hc7) E (Ix h87 hA2 E E fun _ _ _ _ hr3 hc8 _ h87=> ?_);obtain rfl:=hr3;refine Q3 2 [] [] [65] (Z1 hc8) E (Cl E ?_);obtain ⟨_,hx5,h87⟩:=Qj h87;refine YR  hx5 (?_);refine ⟨QP.refl,?_⟩;refine Q0 1 E ?_;refine Br h87 52 E E (fun hc9 h87=> ?_) (fun hc9 h87=> ?_)
       ·refine G2 12 [52] [] [] E ?_;cases h87;exact Ce E ⟨_,rfl,fE E,sE [] 0 E,rfl⟩
       refine G2 2 [] [52] [] E (Ix h87 hA2 E E fun _ _ _ _ hr4 hc10 _ h87=> ?_);obtain rfl:=hr4;refine Q3 3 [] [52] [64] (Z1 hc10) E (Ix h87 hA2 E E fun _ _ _ _ hr5 hc11 _ h87=> ?_);obtain rfl:=hr5;refine Q3 2 [] [52] [65] (Z1 hc11) E (Cl E ?_);obtain ⟨_,hx8,h87⟩:=Qj h87;refine YR  hx8 (?_);refine ⟨QP.refl,?_⟩;refine Q2 2 [] [52] [] E ?_;cases h87;exact Ce E ⟨_,rfl,fE E,sE [] 0 E,rfl⟩
      rintro _ _ _ _ hb86 _ ⟨v1,rfl,hF87,hS87,rfl⟩;refine Atn 0 hF87 hS87 E E ?_;refine Br hb86 63 E E (fun hc12 hb86=> ?_) (fun hc12 hb86=> ?_)
      ·refine G2 5 [63] [] [] E ?_;cases hb86;have hq_:=hq86 _ E;subst hq_;replace h82:=QD h82;cases h82;replace hb81:=QD hb81;cases hb81;have hq_:=hq81 _ E;subst hq_;replace h:=QD h;cases h;exact Rt [] E E (Ug [] 0 hR)
      refine G2 8 [] [63] [] E ?_;cases hb86;exact Ce E ⟨_,rfl,fE E,sE [] 0 E,rfl⟩
     refine G2 2 [] [39] [] E ?_;cases hb86;have hq_:=hq86 _ E;subst hq_;exact Ce E ⟨rfl,fE E,sE [] 0 E,rfl⟩
    rintro _ _ _ _ h82 _ ⟨rfl,hF83,hS83,rfl⟩;replace h82:=YQ h82;refine G0 1 E ?_;cases h82;exact Ce E ⟨rfl,hF83.tr E,hS83.tr (sE [] 0 E),rfl⟩
   rintro _ _ _ _ hb81 _ ⟨rfl,hF82,hS82,rfl⟩;replace hb81:=YQ hb81;refine Atn 0 hF82 hS82 E E (G0 5 E ?_);cases hb81;exact Ce E ⟨_,rfl,fE E,sE [] 0 E,rfl⟩
  refine G2 2 [] [34] [] E ?_;cases hb81;have hq_:=hq81 _ E;subst hq_;exact Ce E ⟨rfl,fE E,sE [] 0 E,rfl⟩
 rintro _ _ _ _ h _ ⟨rfl,hF71,hS71,rfl⟩;replace h:=YQ h;refine Atn 0 hF71 hS71 E E (G0 4 E ?_);cases h;exact Rt [] E E (Ug [] 0 hR)
theorem Vu  {sales1:(List Qg)} {length1:Int} {A1:Option Addr} {c1:Nat} {res1:(Option Qe)} {res2:Int}
  (hl1:sales1.length≤c1∧c1≤maxLen) (hA1:Rds Y6 μ L A1 sales1) (h:JH sales1 length1=some (res1,res2))
  (hR: ∀(v0:Value) (so0:Seg),Wd Qf μ v0 res1 so0→R (.tuple #[v0,.int .i64 res2]) μ (so0::L)) :
  Fn Try.prog 8 [.slice A1 sales1.length c1,.int .i64 length1] μ (L) R:=by
 unfold JH at h;refine FnS Try.func8 (by kernel_rfl) E Try.ntmps8 E E ?_;refine G0 12 E ?_;refine Br h 8 E E (fun hc1 h=> ?_) (fun hc1 h=> ?_)
 ·refine G2 6 [8] [] [] E ?_;cases h;exact Rt [] E E (Ug [[]] 0 (hR (.pointer none) [] Wd.nil))
 refine G2 4 [] [8] [] E ?_;refine Cut h (fun f l o_ f_ μ_ l_=> ∃(v1:Bool),v1=o_∧Qi ((14,.bool v1)::Qo [0,1] f) f_∧Qd l l_∧μ=μ_) ?_ ?_
 ·intro _ h93 h;refine G0 4 E ?_;refine Br h93 11 E E (fun hc2 h93=> ?_) (fun hc2 h93=> ?_)
  ·refine G2 4 [11] [] [] E ?_;cases h93;exact Ce E ⟨_,rfl,fE E,sE [] 0 E,rfl⟩
  refine G2 4 [] [11] [] E ?_;cases h93;exact Ce E ⟨_,rfl,fE E,sE [] 0 E,rfl⟩
 rintro _ _ _ _ h _ ⟨v1,rfl,hF93,hS93,rfl⟩;refine Atn 0 hF93 hS93 E E ?_;refine Br h 14 E E (fun hc3 h=> ?_) (fun hc3 h=> ?_)
 ·refine G2 6 [14] [] [] E ?_;cases h;exact Rt [] E E (Ug [[]] 0 (hR (.pointer none) [] Wd.nil))
 refine G2 5 [] [14] [] E (Cl E ?_);obtain ⟨_,hs1,h⟩:=Qj h;refine QbS (r:=Y6) QdX E E hA1 hs1 fun A2 c2 ch1 hO1=>Q0 1 E (So E (QbO (fun g1=>Q0 1 E (Al E fun g2=>Q0 3 E ?_))));cases h;exact Rt [] E E (Ug [[0,99,99,2,1]] 3 (hR (.pointer (some ⟨g2,0,none⟩)) _ ⟨g2,none,0,[],none,0,[],A2,c2,ch1,g1, #[],0,rfl,rfl,Own.nil,Own.nil,hO1,(YK.nil (enc:=Value.bool))⟩))
theorem VL  {s1:ByteArray}  {res1:Int} {res2:Int}
   (h:ZK s1=some (res1,res2))
  (hR:R (.tuple #[.int .i64 res1,.int .i64 res2]) μ (L)) :
  Fn Try.prog 113 [.string s1] μ (L) R:=by
 unfold ZK at h;refine FnS Try.func113 (by kernel_rfl) E Try.ntmps113 E E ?_;refine G0 12 E ?_;refine Br h 10 E E (fun hc1 h=> ?_) (fun hc1 h=> ?_)
 ·refine G2 6 [10] [] [] E ?_;cases h;exact Rt [] E E (Ug [] 0 hR)
 refine G2 4 [] [10] [] E (Rdo E E (QfO E E E E (Qv (cells':=[.int .i64 1,.int .i64 0]) E E E E (Qv (cells':=[.int .i64 1,.int .i64 3]) E E E E (Zi (Q0 0 E (Al E fun g1=>Q1 10 [0] E (So E (Qfj E (Qdc QB E E fun r1=>Q0 1 E ?_))))))))));refine Cut h (fun f l o_ f_ μ_ l_=> ∃(sum2:Int),(.inl sum2)=o_∧Qi ((5,.int .i64 sum2)::[]) f_∧Qd (YJ [] 2 l) l_∧μ=μ_) ?_ ?_
 ·intro _ h113 h;refine Lp h113 (fun f l (j_:Int×Int) f_ μ_ l_=>VJ j_ fun sum1 f1=>Qi ((5,.int .i64 sum1)::Qo [4,13] f) f_∧Qd ([(g1,.cells #[.int .i64 1,.int .i64 3] 194 (0,0))]::[(r1,.stringIter s1 f1.toNat)]::YJ [] 2 l) l_∧μ=μ_) ⟨fE E,sE [some 1,some 0] 2 E,E⟩ ?_;rintro ⟨sum1,f1⟩ _ _ _ _ _ ⟨hF127,hS127,rfl⟩ hb127 hq127;unfold Zb at hb127;replace hb127:=Ql hb127;refine Atn 2 hF127 hS127 E E (G0 2 E ?_);refine QeD hb127 (fun hc2 hb127=> ?_) (fun hc2 hb127=> ?_)
  ·obtain ⟨_,hx1,hb127⟩:=Qj hb127;refine So E (Qer E (Qdb hc2 hx1 1 E (Q2 15 [15] [] [] E ?_)));refine Cut hb127 (fun f l o_ f_ μ_ l_=> ∃(v1:Bool),v1=o_∧Qi ((23,.bool v1)::Qo [4,5,6,7,13] f) f_∧Qd l l_∧μ=μ_) ?_ ?_
   ·intro _ h135 hb127;refine G0 4 E ?_;refine Br h135 20 E E (fun hc3 h135=> ?_) (fun hc3 h135=> ?_)
    ·refine G2 4 [20] [] [] E ?_;cases h135;exact Ce E ⟨_,rfl,fE E,sE [some 0,some 1] 2 E,rfl⟩
    refine G2 4 [] [20] [] E ?_;cases h135;exact Ce E ⟨_,rfl,fE E,sE [some 0,some 1] 2 E,rfl⟩
   rintro _ _ _ _ hb127 _ ⟨v1,rfl,hF135,hS135,rfl⟩;refine Atn 2 hF135 hS135 E E ?_;refine Br hb127 23 E E (fun hc4 hb127=> ?_) (fun hc4 hb127=> ?_)
   ·refine G2 6 [23] [] [] E ?_;cases hb127;have hq_:=hq127 _ E;subst hq_;replace h:=QD h;cases h;exact Rt [] E E (Ug [] 2 hR)
   refine G2 6 [] [23] [0] E ?_;refine QeD hb127 (fun hc5 hb127=> ?_) (fun hc5 hb127=> ?_)
   ·refine Rdo E E (Qeu (o':=0) (ix:=0) E E (of_decide_eq_true hc5) E E E E ⟨by decide,by decide⟩ E (Q1 9 [0] E ?_));cases hb127;exact Ce E ⟨_,rfl,fE E,sE [some 0,some 1] 2 E,rfl⟩
   obtain ⟨_,hg1,hb127⟩:=Qj hb127;refine Rdo E E (Qeu (o':=1) (ix:=1) E E (Qcy hg1) E E E E ⟨by decide,by decide⟩ E (Q1 9 [0] E ?_));cases hb127;exact Ce E ⟨_,rfl,fE E,sE [some 0,some 1] 2 E,rfl⟩
  refine So E (Qer E (Qda hc2 1 E (Q2 5 [] [15] [] E ?_)));cases hb127;have hq_:=hq127 _ E;subst hq_;exact Ce E ⟨_,rfl,fE E,sE [] 2 E,rfl⟩
 rintro _ _ _ _ h _ ⟨sum2,rfl,hF113,hS113,rfl⟩;replace h:=YQ h;refine Atn 0 hF113 hS113 E E (G1 9 [0,0] E ?_);cases h;exact Rt [] E E (Ug [] 0 hR)
theorem Qab  {s1:ByteArray}  {res1:Int}
   (h:Z5 s1=some res1)
  (hR:R (.int .i64 res1) μ (L)) :
  Fn Try.prog 75 [.string s1] μ (L) R:=by
 unfold Z5 at h;refine FnS Try.func75 (by kernel_rfl) E Try.ntmps75 E E ?_;refine G0 6 E ?_;refine Cut h (fun f l o_ f_ μ_ l_=> ∃(v1:Bool),v1=o_∧Qi ((17,.bool v1)::Qo [0] f) f_∧Qd l l_∧μ=μ_) ?_ ?_
 ·intro _ h109 h;refine G0 5 E ?_;refine Br h109 8 E E (fun hc1 h109=> ?_) (fun hc1 h109=> ?_)
  ·refine G2 10 [8,13] [] [] E ?_;cases h109;exact Ce E ⟨_,rfl,fE E,sE [] 0 E,rfl⟩
  obtain ⟨_,hb1,h109⟩:=Qj h109;refine G2 1 [] [8] [] E (Rdo E E (Va QB E E E E hb1 (Q2 3 [] [8] [] E ?_)));refine Br h109 13 E E (fun hc2 h109=> ?_) (fun hc2 h109=> ?_)
  ·refine G2 5 [13] [] [] E ?_;cases h109;exact Ce E ⟨_,rfl,fE E,sE [] 0 E,rfl⟩
  obtain ⟨_,hb2,h109⟩:=Qj h109;refine G2 1 [] [13] [] E (Rdo E E (Va QB E E E E hb2 (Q2 3 [] [13] [] E ?_)));cases h109;exact Ce E ⟨_,rfl,fE E,sE [] 0 E,rfl⟩
 rintro _ _ _ _ h _ ⟨v1,rfl,hF109,hS109,rfl⟩;refine Atn 0 hF109 hS109 E E ?_;refine Br h 17 E E (fun hc3 h=> ?_) (fun hc3 h=> ?_)
 ·refine G2 5 [17] [] [] E ?_;cases h;exact Rt [] E E (Ug [] 0 hR)
 obtain ⟨_,hz1,h⟩:=Qj h;refine G2 5 [] [17] [] E (Rdo E E (Qez E E E E hz1 (Q0 0 E (Cl E ?_))));obtain ⟨⟨_,_⟩,hx1,h⟩:=Qj h;replace h:=Ql h;refine VL  hx1 ((Q0 12 E ?_));refine Br h 25 E E (fun hc4 h=> ?_) (fun hc4 h=> ?_)
 ·refine G2 6 [25] [] [] E ?_;cases h;exact Rt [] E E (Ug [] 0 hR)
 obtain ⟨_,hb3,h⟩:=Qj h;refine G2 7 [] [25] [] E (Rdo E E (Va QB E E E E hb3 (Q0 4 E ?_)));refine Br h 32 E E (fun hc5 h=> ?_) (fun hc5 h=> ?_)
 ·refine G2 5 [32] [] [] E ?_;cases h;exact Rt [] E E (Ug [] 0 hR)
 refine G2 6 [] [32] [] E ?_;cases h;exact Rt [] E E (Ug [] 0 hR)
theorem VM  {x1:Qb} {parties1:Int} {materials1:Int}  {res1:Int}
   (h:ZL x1 parties1 materials1=some res1)
  (hR:R (.int .i64 res1) μ (L)) :
  Fn Try.prog 56 [.agg #[.string x1.Code,.int .i64 x1.Producer,.int .i64 x1.Deposit,.int .i64 x1.Material,.int .i64 x1.Grams],.int .i64 parties1,.int .i64 materials1] μ (L) R:=by
 unfold ZL at h;refine FnS Try.func56 (by kernel_rfl) E Try.ntmps56 E E ?_;refine G0 2 E (Al E fun _=>Q1 7 [0] E (Cl E ?_));obtain ⟨_,hx1,h⟩:=Qj h;refine Qab  hx1 ((Q0 7 E ?_));refine Br h 12 E E (fun hc1 h=> ?_) (fun hc1 h=> ?_)
 ·refine G2 6 [12] [] [] E ?_;cases h;exact Rt [] E E (Ug [] 1 hR)
 refine G2 5 [] [12] [] E ?_;refine Cut h (fun f l o_ f_ μ_ l_=> ∃(v1:Bool),v1=o_∧Qi ((14,.bool v1)::Qo [2,3] f) f_∧Qd l l_∧μ=μ_) ?_ ?_
 ·intro _ h140 h;refine G1 5 [0] E ?_;refine Br h140 18 E E (fun hc2 h140=> ?_) (fun hc2 h140=> ?_)
  ·refine G2 7 [18] [] [] E ?_;cases h140;exact Ce E ⟨_,rfl,fE E,sE [some 0] 1 E,rfl⟩
  refine G2 7 [] [18] [0] E ?_;cases h140;exact Ce E ⟨_,rfl,fE E,sE [some 0] 1 E,rfl⟩
 rintro _ _ _ _ h _ ⟨v1,rfl,hF140,hS140,rfl⟩;refine Atn 1 hF140 hS140 E E ?_;refine Br h 14 E E (fun hc3 h=> ?_) (fun hc3 h=> ?_)
 ·refine G2 5 [14] [] [] E ?_;cases h;exact Rt [] E E (Ug [] 1 hR)
 refine G2 2 [] [14] [] E ?_;refine Cut h (fun f l o_ f_ μ_ l_=> ∃(v2:Bool),v2=o_∧Qi ((24,.bool v2)::Qo [2,3] f) f_∧Qd l l_∧μ=μ_) ?_ ?_
 ·intro _ h143 h;refine G1 5 [0] E ?_;refine Br h143 28 E E (fun hc4 h143=> ?_) (fun hc4 h143=> ?_)
  ·refine G2 6 [28] [] [] E ?_;cases h143;exact Ce E ⟨_,rfl,fE E,sE [some 0] 1 E,rfl⟩
  refine G2 6 [] [28] [0] E ?_;cases h143;exact Ce E ⟨_,rfl,fE E,sE [some 0] 1 E,rfl⟩
 rintro _ _ _ _ h _ ⟨v2,rfl,hF143,hS143,rfl⟩;refine Atn 1 hF143 hS143 E E ?_;refine Br h 24 E E (fun hc5 h=> ?_) (fun hc5 h=> ?_)
 ·refine G2 5 [24] [] [] E ?_;cases h;exact Rt [] E E (Ug [] 1 hR)
 refine G2 2 [] [24] [] E ?_;refine Cut h (fun f l o_ f_ μ_ l_=> ∃(v3:Bool),v3=o_∧Qi ((33,.bool v3)::Qo [3] f) f_∧Qd l l_∧μ=μ_) ?_ ?_
 ·intro _ h146 h;refine G1 5 [0] E ?_;refine Br h146 37 E E (fun hc6 h146=> ?_) (fun hc6 h146=> ?_)
  ·refine G2 7 [37] [] [] E ?_;cases h146;exact Ce E ⟨_,rfl,fE E,sE [some 0] 1 E,rfl⟩
  refine G2 7 [] [37] [0] E ?_;cases h146;exact Ce E ⟨_,rfl,fE E,sE [some 0] 1 E,rfl⟩
 rintro _ _ _ _ h _ ⟨v3,rfl,hF146,hS146,rfl⟩;refine Atn 1 hF146 hS146 E E ?_;refine Br h 33 E E (fun hc7 h=> ?_) (fun hc7 h=> ?_)
 ·refine G2 5 [33] [] [] E ?_;cases h;exact Rt [] E E (Ug [] 1 hR)
 refine G2 2 [] [33] [] E ?_;refine Cut h (fun f l o_ f_ μ_ l_=> ∃(v4:Bool),v4=o_∧Qi ((43,.bool v4)::[]) f_∧Qd (YJ [] 1 l) l_∧μ=μ_) ?_ ?_
 ·intro _ h149 h;refine G1 5 [0] E ?_;refine Br h149 47 E E (fun hc8 h149=> ?_) (fun hc8 h149=> ?_)
  ·refine G2 6 [47] [] [] E ?_;cases h149;exact Ce E ⟨_,rfl,fE E,sE [] 1 E,rfl⟩
  refine G2 6 [] [47] [0] E ?_;cases h149;exact Ce E ⟨_,rfl,fE E,sE [] 1 E,rfl⟩
 rintro _ _ _ _ h _ ⟨v4,rfl,hF149,hS149,rfl⟩;refine Atn 0 hF149 hS149 E E ?_;refine Br h 43 E E (fun hc9 h=> ?_) (fun hc9 h=> ?_)
 ·refine G2 5 [43] [] [] E ?_;cases h;exact Rt [] E E (Ug [] 0 hR)
 refine G2 7 [] [43] [] E ?_;cases h;exact Rt [] E E (Ug [] 0 hR)
theorem Vz  {x1:Qb} {b1:ByteArray} {g1:Nat} {res1:Bool}
   (h:Zv x1 b1=some res1)
  (hR:R (.bool res1) μ ([(g1,.cells #[.string b1] 9 (0,0))]::L)) :
  Fn Try.prog 77 [.agg #[.string x1.Code,.int .i64 x1.Producer,.int .i64 x1.Deposit,.int .i64 x1.Material,.int .i64 x1.Grams],.pointer (some ⟨g1,0,none⟩)] μ ([(g1,.cells #[.string b1] 9 (0,0))]::L) R:=by
 unfold Zv at h;refine FnS Try.func77 (by kernel_rfl) E Try.ntmps77 E E ?_;refine G0 2 E (Al E fun _=>Q1 7 [0,1] E (Rdo E E (Qes QB E E E E (Q0 2 E ?_))));cases h;exact Rt [] E E (Ug [[1]] 2 hR)
theorem Je  {s1:(List Qb)} {b1:ByteArray} {A1:Option Addr} {c1:Nat} {g1:Nat} {res1:Int}
  (hl1:s1.length≤c1∧c1≤maxLen) (hA1:Rds QG μ L A1 s1) (h:Ye s1 b1=some res1)
  (hR:R (.int .i64 res1) μ ([(g1,.cells #[.string b1] 9 (0,0))]::L)) :
  Fn Try.prog 76 [.slice A1 s1.length c1,.func (.func 77) #[] #[.pointer (some ⟨g1,0,none⟩)]] μ ([(g1,.cells #[.string b1] 9 (0,0))]::L) R:=by
 unfold Ye at h;refine FnS Try.func76 (by kernel_rfl) E Try.ntmps76 E E ?_;refine G0 11 E ?_;refine Cut h (fun f l o_ f_ μ_ l_=>(.inl ())=o_∧Qi ([]) f_∧Qd l l_∧μ=μ_) ?_ ?_
 ·intro _ h161 h;refine Lp h161 (fun f l (v1:Int) f_ μ_ l_=>Qi ((8,.int .i64 v1)::Qo [0,1,7] f) f_∧Qd l l_∧μ=μ_) ⟨fE E,sE [some 0] 1 E,E⟩ ?_;rintro v1 _ _ _ _ _ ⟨hF169,hS169,rfl⟩ hb169 hq169;unfold QT at hb169;refine Atn 1 hF169 hS169 E E (G0 5 E ?_);refine Br hb169 9 E E (fun hc1 hb169=> ?_) (fun hc1 hb169=> ?_)
  ·refine G2 14 [9] [] [] E (Ix hb169 hA1 E E fun _ _ _ _ hr1 hc2 _ hb169=> ?_);obtain rfl:=hr1;refine Q3 1 [] [] [64] (Z1 (hc2.push)) E (Cl E ?_);obtain ⟨_,hx2,hb169⟩:=Qj hb169;refine Vz  hx2 ((Q0 1 E ?_));refine Br hb169 16 E E (fun hc3 hb169=> ?_) (fun hc3 hb169=> ?_)
   ·refine G2 6 [16] [] [] E ?_;cases hb169;have hq_:=hq169 _ E;subst hq_;replace h:=QD h;cases h;exact Rt [] E E (Ug [[0]] 1 hR)
   refine G2 7 [] [16] [] E ?_;cases hb169;exact Ce E ⟨_,rfl,fE E,sE [some 0] 1 E,rfl⟩
  refine G2 2 [] [9] [] E ?_;cases hb169;have hq_:=hq169 _ E;subst hq_;exact Ce E ⟨rfl,fE E,sE [some 0] 1 E,rfl⟩
 rintro _ _ _ _ h _ ⟨rfl,hF161,hS161,rfl⟩;replace h:=YQ h;refine Atn 1 hF161 hS161 E E (G0 4 E ?_);cases h;exact Rt [] E E (Ug [[0]] 1 hR)
theorem Qac  {l1:(List Qb)} {code1:ByteArray} {A1:Option Addr} {c1:Nat} {res1:Int} {res2:Bool}
  (hl1:l1.length≤c1∧c1≤maxLen) (hA1:Rds QG μ L A1 l1) (h:Z6 l1 code1=some (res1,res2))
  (hR:R (.tuple #[.int .i64 res1,.bool res2]) μ (L)) :
  Fn Try.prog 57 [.slice A1 l1.length c1,.string code1] μ (L) R:=by
 unfold Z6 at h;refine FnS Try.func57 (by kernel_rfl) E Try.ntmps57 E E ?_;refine G0 2 E (Al E fun _=>Q0 7 E (Cl E ?_));obtain ⟨_,hx1,h⟩:=Qj h;refine Je hl1 hA1 hx1 ((Q0 11 E ?_));cases h;exact Rt [] E E (Ug [] 1 hR)
theorem VK  {l1:(List Qb)} {parties1:Int} {materials1:Int} {A1:Option Addr} {c1:Nat} {res1:Int}
  (hl1:l1.length≤c1∧c1≤maxLen) (hA1:Rds QG μ L A1 l1) (h:ZJ l1 parties1 materials1=some res1)
  (hR:R (.int .i64 res1) μ (L)) :
  Fn Try.prog 26 [.slice A1 l1.length c1,.int .i64 parties1,.int .i64 materials1] μ (L) R:=by
 unfold ZJ at h;refine FnS Try.func26 (by kernel_rfl) E Try.ntmps26 E E ?_;refine G0 11 E ?_;refine Br h 16 E E (fun hc1 h=> ?_) (fun hc1 h=> ?_)
 ·refine G2 5 [16] [] [] E ?_;cases h;exact Rt [] E E (Ug [] 0 hR)
 refine G2 9 [] [16] [] E ?_;refine Cut h (fun f l o_ f_ μ_ l_=>(.inl ())=o_∧Qi (Qo [0] f) f_∧Qd l l_∧μ=μ_) ?_ ?_
 ·intro _ h104 h;refine Lp h104 (fun f l (v1:Int) f_ μ_ l_=>Qi ((19,.int .i64 v1)::Qo [0,1,2,17,18] f) f_∧Qd l l_∧μ=μ_) ⟨fE E,sE [] 0 E,E⟩ ?_;rintro v1 _ _ _ _ _ ⟨hF150,hS150,rfl⟩ hb150 hq150;unfold Za at hb150;refine Atn 0 hF150 hS150 E E (G0 5 E ?_);refine Br hb150 20 E E (fun hc2 hb150=> ?_) (fun hc2 hb150=> ?_)
  ·refine G2 6 [20] [] [] E (Ix hb150 hA1 E E fun _ _ _ _ hr1 hc3 _ hb150=> ?_);obtain rfl:=hr1;refine Q3 1 [] [] [64] (Z1 hc3) E (Al E fun _=>Q1 7 [0,0] E (Cl E ?_));obtain ⟨_,hx2,hb150⟩:=Qj hb150;refine VM  hx2 ((Q0 7 E ?_));refine Br hb150 28 E E (fun hc4 hb150=> ?_) (fun hc4 hb150=> ?_)
   ·refine G2 6 [28] [] [] E ?_;cases hb150;have hq_:=hq150 _ E;subst hq_;replace h:=QD h;cases h;exact Rt [] E E (Ug [] 1 hR)
   refine G2 7 [] [28] [] E ?_;cases hb150;exact Ce E ⟨_,rfl,fE E,sE [] 1 E,rfl⟩
  refine G2 2 [] [20] [] E ?_;cases hb150;have hq_:=hq150 _ E;subst hq_;exact Ce E ⟨rfl,fE E,sE [] 0 E,rfl⟩
 rintro _ _ _ _ h _ ⟨rfl,hF104,hS104,rfl⟩;replace h:=YQ h;refine Atn 0 hF104 hS104 E E (G0 7 E ?_);refine Cut h (fun f l o_ f_ μ_ l_=>(.inl ())=o_∧Qi ([]) f_∧Qd l l_∧μ=μ_) ?_ ?_
 ·intro _ h153 h;refine Lp h153 (fun f l (v2:Int) f_ μ_ l_=>Qi ((33,.int .i64 v2)::Qo [0,31,32] f) f_∧Qd l l_∧μ=μ_) ⟨fE E,sE [] 0 E,E⟩ ?_;rintro v2 _ _ _ _ _ ⟨hF177,hS177,rfl⟩ hb177 hq177;unfold YI at hb177;refine Atn 0 hF177 hS177 E E (G0 5 E ?_);refine Br hb177 34 E E (fun hc5 hb177=> ?_) (fun hc5 hb177=> ?_)
  ·refine G2 7 [34] [] [] E (Ix hb177 hA1 E E fun _ _ _ _ hr2 hc6 _ hb177=> ?_);obtain rfl:=hr2;refine Q3 1 [] [] [64] (Z1 hc6) E (Al E fun _=>Q1 8 [0,0] E (Cl E ?_));obtain ⟨⟨_,_⟩,hx4,hb177⟩:=Qj hb177;replace hb177:=Ql hb177;refine Qac hl1 (Rds.push hA1) hx4 ((Q0 12 E ?_));refine Br hb177 47 E E (fun hc7 hb177=> ?_) (fun hc7 hb177=> ?_)
   ·refine G2 5 [47] [] [] E ?_;cases hb177;have hq_:=hq177 _ E;subst hq_;replace h:=QD h;cases h;exact Rt [] E E (Ug [] 1 hR)
   refine G2 7 [] [47] [] E ?_;cases hb177;exact Ce E ⟨_,rfl,fE E,sE [] 1 E,rfl⟩
  refine G2 2 [] [34] [] E ?_;cases hb177;have hq_:=hq177 _ E;subst hq_;exact Ce E ⟨rfl,fE E,sE [] 0 E,rfl⟩
 rintro _ _ _ _ h _ ⟨rfl,hF153,hS153,rfl⟩;replace h:=YQ h;refine Atn 0 hF153 hS153 E E (G0 4 E ?_);cases h;exact Rt [] E E (Ug [] 0 hR)
theorem WV  {id1:Int} {products1:(List Qb)} {skew1:Int} {A1:Option Addr} {c1:Nat} {res1:(Option Qa)} {res2:Int}
  (hl1:products1.length≤c1∧c1≤maxLen) (hA1:Rds QG μ L A1 products1) (h:JP id1 products1 skew1=some (res1,res2))
  (hR: ∀(v0:Value) (so0:Seg),Wd Qc μ v0 res1 so0→R (.tuple #[v0,.int .i64 res2]) μ (so0::L)) :
  Fn Try.prog 9 [.int .i64 id1,.slice A1 products1.length c1,.int .i64 skew1] μ (L) R:=by
 unfold JP at h;refine FnS Try.func9 (by kernel_rfl) E Try.ntmps9 E E ?_;refine G0 7 E ?_;refine Cut h (fun f l o_ f_ μ_ l_=> ∃(v1:Bool),v1=o_∧Qi ((14,.bool v1)::Qo [0,1,2] f) f_∧Qd l l_∧μ=μ_) ?_ ?_
 ·intro _ h102 h;refine G0 4 E ?_;refine Br h102 11 E E (fun hc1 h102=> ?_) (fun hc1 h102=> ?_)
  ·refine G2 4 [11] [] [] E ?_;cases h102;exact Ce E ⟨_,rfl,fE E,sE [] 0 E,rfl⟩
  refine G2 4 [] [11] [] E ?_;cases h102;exact Ce E ⟨_,rfl,fE E,sE [] 0 E,rfl⟩
 rintro _ _ _ _ h _ ⟨v1,rfl,hF102,hS102,rfl⟩;refine Atn 0 hF102 hS102 E E ?_;refine Br h 14 E E (fun hc2 h=> ?_) (fun hc2 h=> ?_)
 ·refine G2 6 [14] [] [] E ?_;cases h;exact Rt [] E E (Ug [[]] 0 (hR (.pointer none) [] Wd.nil))
 refine G2 6 [] [14] [] E (Cl E ?_);obtain ⟨_,hx1,h⟩:=Qj h;refine VK hl1 hA1 hx1 ((Q0 7 E ?_));refine Br h 18 E E (fun hc3 h=> ?_) (fun hc3 h=> ?_)
 ·refine G2 7 [18] [] [] E ?_;cases h;exact Rt [] E E (Ug [[]] 0 (hR (.pointer none) [] Wd.nil))
 refine G2 4 [] [18] [] E ?_;refine Cut h (fun f l o_ f_ μ_ l_=> ∃(v2:Bool),v2=o_∧Qi ((25,.bool v2)::Qo [0,1,2] f) f_∧Qd l l_∧μ=μ_) ?_ ?_
 ·intro _ h180 h;refine G0 4 E ?_;refine Br h180 22 E E (fun hc4 h180=> ?_) (fun hc4 h180=> ?_)
  ·refine G2 4 [22] [] [] E ?_;cases h180;exact Ce E ⟨_,rfl,fE E,sE [] 0 E,rfl⟩
  refine G2 4 [] [22] [] E ?_;cases h180;exact Ce E ⟨_,rfl,fE E,sE [] 0 E,rfl⟩
 rintro _ _ _ _ h _ ⟨v2,rfl,hF180,hS180,rfl⟩;refine Atn 0 hF180 hS180 E E ?_;refine Br h 25 E E (fun hc5 h=> ?_) (fun hc5 h=> ?_)
 ·refine G2 6 [25] [] [] E ?_;cases h;exact Rt [] E E (Ug [[]] 0 (hR (.pointer none) [] Wd.nil))
 refine G2 7 [] [25] [] E (Cl E ?_);obtain ⟨_,hs1,h⟩:=Qj h;refine QbS (r:=QG) QdY E E hA1 hs1 fun A2 c2 ch1 hO1=>Q0 0 E (So E (QbO (fun g1=>Q0 1 E (Al E fun g2=>Q0 3 E ?_))));cases h;exact Rt [] E E (Ug [[0,2,1,99,99]] 3 (hR (.pointer (some ⟨g2,0,none⟩)) _ ⟨g2,A2,c2,ch1,g1, #[],0,[],none,0,[],rfl,rfl,hO1,(Zj.nil (O:=Yo) (μ:=μ) Qan),Own.nil⟩))
theorem WK  {b1:Int}  {res1:Bool}
   (h:ZV b1=some res1)
  (hR:R (.bool res1) μ (L)) :
  Fn Try.prog 28 [.int .i64 b1] μ (L) R:=by
 unfold ZV at h;refine FnS Try.func28 (by kernel_rfl) E Try.ntmps28 E E ?_;refine G0 5 E ?_;refine Cut h (fun f l o_ f_ μ_ l_=> ∃(v1:Bool),v1=o_∧Qi ((2,.bool v1)::[]) f_∧Qd l l_∧μ=μ_) ?_ ?_
 ·intro _ h223 h;refine G0 4 E ?_;refine Br h223 5 E E (fun hc1 h223=> ?_) (fun hc1 h223=> ?_)
  ·refine G2 5 [5] [] [] E ?_;cases h223;exact Ce E ⟨_,rfl,fE E,sE [] 0 E,rfl⟩
  refine G2 5 [] [5] [] E ?_;cases h223;exact Ce E ⟨_,rfl,fE E,sE [] 0 E,rfl⟩
 rintro _ _ _ _ h _ ⟨v1,rfl,hF223,hS223,rfl⟩;refine Atn 0 hF223 hS223 E E ?_;cases h;exact Rt [] E E (Ug [] 0 hR)
theorem ZP  {t1:Int}  {res1:Bool}
   (h:Yw t1=some res1)
  (hR:R (.bool res1) μ (L)) :
  Fn Try.prog 29 [.int .i64 t1] μ (L) R:=by
 unfold Yw at h;refine FnS Try.func29 (by kernel_rfl) E Try.ntmps29 E E ?_;refine G0 5 E ?_;refine Cut h (fun f l o_ f_ μ_ l_=> ∃(v1:Bool),v1=o_∧Qi ((2,.bool v1)::[]) f_∧Qd l l_∧μ=μ_) ?_ ?_
 ·intro _ h224 h;refine G0 4 E ?_;refine Br h224 5 E E (fun hc1 h224=> ?_) (fun hc1 h224=> ?_)
  ·refine G2 5 [5] [] [] E ?_;cases h224;exact Ce E ⟨_,rfl,fE E,sE [] 0 E,rfl⟩
  refine G2 5 [] [5] [] E ?_;cases h224;exact Ce E ⟨_,rfl,fE E,sE [] 0 E,rfl⟩
 rintro _ _ _ _ h _ ⟨v1,rfl,hF224,hS224,rfl⟩;refine Atn 0 hF224 hS224 E E ?_;cases h;exact Rt [] E E (Ug [] 0 hR)
theorem Zs  {h_1:Qe} {block1:Int} {pv1:Value} {so1:Seg} {res1:Int} {res2:Bool}
  (hP1:Qf μ pv1 h_1 so1) (h:QC h_1 block1=some (res1,res2))
  (hR:R (.tuple #[.int .i64 res1,.bool res2]) μ (so1::L)) :
  Fn Try.prog 30 [pv1,.int .i64 block1] μ (so1::L) R:=by
 unfold QC at h;refine FnS Try.func30 (by kernel_rfl) E Try.ntmps30 E E ?_;obtain ⟨_,_,_,_,_,_,_,_,_,_,_,_,_,hv1,rfl,hO1,hO2,_,_⟩:=hP1;subst hv1;refine G0 7 E (In Qf.fl 0 5 E E E (G1 8 [0] E ?_));refine Cut h (fun f l o_ f_ μ_ l_=>(.inl ())=o_∧Qi ([]) f_∧Qd l l_∧μ=μ_) ?_ ?_
 ·intro _ h240 h;refine Lp h240 (fun f l (v1:Int) f_ μ_ l_=>Qi ((13,.int .i64 v1)::Qo [0,1,11,12] f) f_∧Qd l l_∧μ=μ_) ⟨fE E,sE [some 0,some 1,some 2,some 3,some 4] 5 E,E⟩ ?_;rintro v1 _ _ _ _ _ ⟨hF252,hS252,rfl⟩ hb252 hq252;unfold QU at hb252;refine Atn 5 hF252 hS252 E E (G0 5 E ?_);refine Br hb252 14 E E (fun hc1 hb252=> ?_) (fun hc1 hb252=> ?_)
  ·refine G2 7 [14] [] [] E (IxA hb252 (Own.rds hO1 1 E) E E fun _ _ _ _ hr1 hc2 _ hb252=> ?_);obtain ⟨_,_,rfl,_,_⟩:=hr1;refine Q3 1 [] [] [64] (Z1 hc2) E (Al E fun _=>Q1 4 [0] E ?_);refine Cut hb252 (fun f l o_ f_ μ_ l_=> ∃(v2:Bool),v2=o_∧Qi ((31,.bool v2)::Qo [0,1,6,11,12,13] f) f_∧Qd (YJ [] 1 l) l_∧μ=μ_) ?_ ?_
   ·intro _ h260 hb252;refine G1 6 [0] E ?_;refine Br h260 22 E E (fun hc3 h260=> ?_) (fun hc3 h260=> ?_)
    ·refine G2 5 [22] [] [1] E (IxA h260 (Own.rds hO2 3 E) E E fun _ _ _ _ hr2 hc4 _ h260=> ?_);obtain rfl:=hr2;refine Q3 4 [22] [] [64] (Z1 hc4) E ?_;cases h260;exact Ce E ⟨_,rfl,fE E,sE [some 1,some 2,some 3,some 4,some 5] 6 E,rfl⟩
    refine G2 10 [] [22] [] E ?_;cases h260;exact Ce E ⟨_,rfl,fE E,sE [some 1,some 2,some 3,some 4,some 5] 6 E,rfl⟩
   rintro _ _ _ _ hb252 _ ⟨v2,rfl,hF260,hS260,rfl⟩;refine Atn 5 hF260 hS260 E E ?_;refine Br hb252 31 E E (fun hc5 hb252=> ?_) (fun hc5 hb252=> ?_)
   ·refine G2 7 [31] [] [] E ?_;cases hb252;have hq_:=hq252 _ E;subst hq_;replace h:=QD h;cases h;exact Rt [] E E (Ug [[0,1,2,3,4]] 5 hR)
   refine G2 7 [] [31] [] E ?_;cases hb252;exact Ce E ⟨_,rfl,fE E,sE [some 0,some 1,some 2,some 3,some 4] 5 E,rfl⟩
  refine G2 2 [] [14] [] E ?_;cases hb252;have hq_:=hq252 _ E;subst hq_;exact Ce E ⟨rfl,fE E,sE [some 0,some 1,some 2,some 3,some 4] 5 E,rfl⟩
 rintro _ _ _ _ h _ ⟨rfl,hF240,hS240,rfl⟩;replace h:=YQ h;refine Atn 5 hF240 hS240 E E (G0 5 E ?_);cases h;exact Rt [] E E (Ug [[0,1,2,3,4]] 5 hR)
theorem Vl  {x1:Qg} {s1:Int}  {res1:Bool}
   (h:ZQ x1 s1=some res1)
  (hR:R (.bool res1) μ (L)) :
  Fn Try.prog 78 [.agg #[.int .i64 x1.Product,.int .i64 x1.First,.int .i64 x1.Count,.int .i64 x1.Retailer,.int .i64 x1.At],.int .i64 s1] μ (L) R:=by
 unfold ZQ at h;refine FnS Try.func78 (by kernel_rfl) E Try.ntmps78 E E ?_;refine G0 2 E (Al E fun _=>Q0 3 E ?_);refine Cut h (fun f l o_ f_ μ_ l_=> ∃(v1:Bool),v1=o_∧Qi ((4,.bool v1)::[]) f_∧Qd (YJ [] 1 l) l_∧μ=μ_) ?_ ?_
 ·intro _ h295 h;refine G1 6 [0] E ?_;refine Br h295 9 E E (fun hc1 h295=> ?_) (fun hc1 h295=> ?_)
  ·refine G2 5 [9] [] [0] E ?_;refine Br h295 14 E E (fun hc2 h295=> ?_) (fun hc2 h295=> ?_)
   ·refine G2 13 [14] [] [0,0] E ?_;cases h295;exact Ce E ⟨_,rfl,fE E,sE [] 1 E,rfl⟩
   refine G2 13 [] [14] [] E ?_;cases h295;exact Ce E ⟨_,rfl,fE E,sE [] 1 E,rfl⟩
  refine G2 18 [] [9,14] [] E ?_;cases h295;exact Ce E ⟨_,rfl,fE E,sE [] 1 E,rfl⟩
 rintro _ _ _ _ h _ ⟨v1,rfl,hF295,hS295,rfl⟩;refine Atn 0 hF295 hS295 E E ?_;cases h;exact Rt [] E E (Ug [] 0 hR)
theorem Qa0  {l1:(List Qg)} {serial1:Int} {A1:Option Addr} {c1:Nat} {res1:Int} {res2:Bool}
  (hl1:l1.length≤c1∧c1≤maxLen) (hA1:Rds Y6 μ L A1 l1) (h:Zw l1 serial1=some (res1,res2))
  (hR:R (.tuple #[.int .i64 res1,.bool res2]) μ (L)) :
  Fn Try.prog 58 [.slice A1 l1.length c1,.int .i64 serial1] μ (L) R:=by
 unfold Zw at h;refine FnS Try.func58 (by kernel_rfl) E Try.ntmps58 E E ?_;refine G0 12 E ?_;refine Cut h (fun f l o_ f_ μ_ l_=>(.inl ())=o_∧Qi ([]) f_∧Qd l l_∧μ=μ_) ?_ ?_
 ·intro _ h290 h;refine Lp h290 (fun f l (v1:Int) f_ μ_ l_=>Qi ((10,.int .i64 v1)::Qo [1,8,9] f) f_∧Qd l l_∧μ=μ_) ⟨fE E,sE [] 0 E,E⟩ ?_;rintro v1 _ _ _ _ _ ⟨hF296,hS296,rfl⟩ hb296 hq296;unfold Zx at hb296;refine Atn 0 hF296 hS296 E E (G0 5 E ?_);refine Br hb296 11 E E (fun hc1 hb296=> ?_) (fun hc1 hb296=> ?_)
  ·refine G2 7 [11] [] [] E (Ix hb296 hA1 E E fun _ _ _ _ hr1 hc2 _ hb296=> ?_);obtain rfl:=hr1;refine Q3 1 [] [] [64] (Z1 hc2) E (Al E fun _=>Q1 7 [0,0] E (Cl E ?_));obtain ⟨_,hx2,hb296⟩:=Qj hb296;refine Vl  hx2 ((Q0 1 E ?_));refine Br hb296 17 E E (fun hc3 hb296=> ?_) (fun hc3 hb296=> ?_)
   ·refine G2 7 [17] [] [] E ?_;cases hb296;have hq_:=hq296 _ E;subst hq_;replace h:=QD h;cases h;exact Rt [] E E (Ug [] 1 hR)
   refine G2 7 [] [17] [] E ?_;cases hb296;exact Ce E ⟨_,rfl,fE E,sE [] 1 E,rfl⟩
  refine G2 2 [] [11] [] E ?_;cases hb296;have hq_:=hq296 _ E;subst hq_;exact Ce E ⟨rfl,fE E,sE [] 0 E,rfl⟩
 rintro _ _ _ _ h _ ⟨rfl,hF290,hS290,rfl⟩;replace h:=YQ h;refine Atn 0 hF290 hS290 E E (G0 5 E ?_);cases h;exact Rt [] E E (Ug [] 0 hR)
theorem W3  {s1:(List Int)} {v1:Int} {A1:Option Addr} {c1:Nat} {res1:Int}
  (hl1:s1.length≤c1∧c1≤maxLen) (hA1:Rds Zd μ L A1 s1) (h:ZD s1 v1=some res1)
  (hR:R (.int .i64 res1) μ (L)) :
  Fn Try.prog 65 [.slice A1 s1.length c1,.int .i64 v1] μ (L) R:=by
 unfold ZD at h;refine FnS Try.func65 (by kernel_rfl) E Try.ntmps65 E E ?_;refine G0 11 E ?_;refine Cut h (fun f l o_ f_ μ_ l_=>(.inl ())=o_∧Qi ([]) f_∧Qd l l_∧μ=μ_) ?_ ?_
 ·intro _ h302 h;refine Lp h302 (fun f l (v2:Int) f_ μ_ l_=>Qi ((8,.int .i64 v2)::Qo [0,1,7] f) f_∧Qd l l_∧μ=μ_) ⟨fE E,sE [] 0 E,E⟩ ?_;rintro v2 _ _ _ _ _ ⟨hF304,hS304,rfl⟩ hb304 hq304;unfold YF at hb304;refine Atn 0 hF304 hS304 E E (G0 5 E ?_);refine Br hb304 9 E E (fun hc1 hb304=> ?_) (fun hc1 hb304=> ?_)
  ·refine G2 14 [9] [] [] E (Ix hb304 hA1 E E fun _ _ _ _ hr1 hc2 _ hb304=> ?_);obtain rfl:=hr1;refine Q3 3 [] [] [64] (Z1 hc2) E ?_;refine Br hb304 16 E E (fun hc3 hb304=> ?_) (fun hc3 hb304=> ?_)
   ·refine G2 6 [16] [] [] E ?_;cases hb304;have hq_:=hq304 _ E;subst hq_;replace h:=QD h;cases h;exact Rt [] E E (Ug [] 0 hR)
   refine G2 7 [] [16] [] E ?_;cases hb304;exact Ce E ⟨_,rfl,fE E,sE [] 0 E,rfl⟩
  refine G2 2 [] [9] [] E ?_;cases hb304;have hq_:=hq304 _ E;subst hq_;exact Ce E ⟨rfl,fE E,sE [] 0 E,rfl⟩
 rintro _ _ _ _ h _ ⟨rfl,hF302,hS302,rfl⟩;replace h:=YQ h;refine Atn 0 hF302 hS302 E E (G0 4 E ?_);cases h;exact Rt [] E E (Ug [] 0 hR)
theorem Zg  {s1:(List Int)} {v1:Int} {A1:Option Addr} {c1:Nat} {res1:Bool}
  (hl1:s1.length≤c1∧c1≤maxLen) (hA1:Rds Zd μ L A1 s1) (h:Ya s1 v1=some res1)
  (hR:R (.bool res1) μ (L)) :
  Fn Try.prog 42 [.slice A1 s1.length c1,.int .i64 v1] μ (L) R:=by
 unfold Ya at h;refine FnS Try.func42 (by kernel_rfl) E Try.ntmps42 E E ?_;refine G0 8 E (Cl E ?_);obtain ⟨_,hx1,h⟩:=Qj h;refine W3 hl1 hA1 hx1 ((Q0 3 E ?_));cases h;exact Rt [] E E (Ug [] 0 hR)
theorem Qa1  {l1:(List Qg)} {paid1:(List Int)} {block1:Int} {A1:Option Addr} {c1:Nat} {A2:Option Addr} {c2:Nat} {res1:(List Int)} {res2:Int}
  (hl1:l1.length≤c1∧c1≤maxLen) (hA1:Rds Y6 μ L A1 l1) (hl2:paid1.length≤c2∧c2≤maxLen) (hA2:Rds Zd μ L A2 paid1) (h:Ju l1 paid1 block1=some (res1,res2))
  (hR: ∀(A0:Option Addr) (c0:Nat) (ch0:Seg),Own Zd 3 μ (.slice A0 res1.length c0) res1 ch0→R (.tuple #[.slice A0 res1.length c0,.int .i64 res2]) μ (ch0::L)) :
  Fn Try.prog 31 [.slice A1 l1.length c1,.slice A2 paid1.length c2,.int .i64 block1] μ (L) R:=by
 unfold Ju at h;refine FnS Try.func31 (by kernel_rfl) E Try.ntmps31 E E ?_;refine G0 7 E ?_;refine Cut h (fun f l o_ f_ μ_ l_=> ∃(v1:Bool),v1=o_∧Qi ((18,.bool v1)::Qo [0,1,2] f) f_∧Qd l l_∧μ=μ_) ?_ ?_
 ·intro _ h281 h;refine G0 4 E ?_;refine Br h281 15 E E (fun hc1 h281=> ?_) (fun hc1 h281=> ?_)
  ·refine G2 4 [15] [] [] E ?_;cases h281;exact Ce E ⟨_,rfl,fE E,sE [] 0 E,rfl⟩
  refine G2 4 [] [15] [] E ?_;cases h281;exact Ce E ⟨_,rfl,fE E,sE [] 0 E,rfl⟩
 rintro _ _ _ _ h _ ⟨v1,rfl,hF281,hS281,rfl⟩;refine Atn 0 hF281 hS281 E E ?_;refine Br h 18 E E (fun hc2 h=> ?_) (fun hc2 h=> ?_)
 ·refine G2 6 [18] [] [] E ?_;cases h;exact Rt [] E E (Ug [[]] 0 (hR none 0 [] Own.nil))
 refine G2 11 [] [18] [] E ?_;refine Cut h (fun f l o_ f_ μ_ l_=> ∃(out3:(List Int)) (A6:Option Addr) (c6:Nat) (ch4:Seg),out3=o_∧Qi ((8,.slice A6 out3.length c6)::[]) f_∧Qd (ch4::l) l_∧Own Zd 3 μ_ (.slice A6 out3.length c6) out3 ch4∧μ=μ_) ?_ ?_
 ·intro _ h286 h;refine Lp h286 (fun f l (j_:(List Int)×Int) f_ μ_ l_=>VJ j_ fun out1 v2=> ∃(A3:Option Addr) (c3:Nat) (ch1:Seg),Qi ((8,.slice A3 out1.length c3)::(19,.int .i64 v2)::Qo [0,1,2] f) f_∧Qd (ch1::l) l_∧Own Zd 3 μ_ (.slice A3 out1.length c3) out1 ch1∧μ=μ_) ⟨none,0,[],fE E,sE [none] 0 E,(Own.nil),E⟩ ?_;rintro ⟨out1,v2⟩ _ _ _ _ _ ⟨A3,c3,ch1,hF309,hS309,hO1,rfl⟩ hb309 hq309;unfold Zy at hb309;replace hb309:=Ql hb309;refine Atn 1 hF309 hS309 E E (G0 5 E ?_);refine Br hb309 20 E E (fun hc3 hb309=> ?_) (fun hc3 hb309=> ?_)
  ·refine G2 3 [20] [] [] E ?_;refine Cut hb309 (fun f l o_ f_ μ_ l_=> ∃(out2:(List Int)) (A5:Option Addr) (c5:Nat) (ch3:Seg),out2=o_∧Qi ((8,.slice A5 out2.length c5)::Qo [0,1,2,19] f) f_∧Qd (ch3::YJ [] 1 l) l_∧Own Zd 3 μ_ (.slice A5 out2.length c5) out2 ch3∧μ=μ_) ?_ ?_
   ·intro _ h312 hb309;refine G0 18 E (Cl E ?_);obtain ⟨⟨_,_⟩,hx1,h312⟩:=Qj h312;replace h312:=Ql h312;refine Qa0 hl1 (Rds.push hA1) hx1 ((Q0 7 E ?_));refine Cut h312 (fun f l o_ f_ μ_ l_=> ∃(s1:Int) (v3:Bool),(s1,v3)=o_∧Qi ((10,.int .i64 s1)::(38,.bool v3)::Qo [0,1,2,8,19] f) f_∧Qd l l_∧μ=μ_) ?_ ?_
    ·intro _ h313 h312;refine G0 3 E ?_;refine Br h313 33 E E (fun hc4 h313=> ?_) (fun hc4 h313=> ?_)
     ·refine G2 2 [33] [] [] E (Cl E ?_);obtain ⟨_,hx2,h313⟩:=Qj h313;refine Zg hl2 (Rds.push hA2) hx2 ((Q2 3 [33] [] [] E ?_));cases h313;exact Ce E ⟨_,_,rfl,fE E,sE [some 0] 1 E,rfl⟩
     refine G2 6 [] [33] [] E ?_;cases h313;exact Ce E ⟨_,_,rfl,fE E,sE [some 0] 1 E,rfl⟩
    rintro _ _ _ _ h312 _ ⟨s1,v3,rfl,hF313,hS313,rfl⟩;replace h312:=Ql h312;refine Atn 1 hF313 hS313 E E ?_;refine Br h312 38 E E (fun hc5 h312=> ?_) (fun hc5 h312=> ?_)
    ·refine G2 4 [38] [] [] E (So E (Jf (z:=[.int .i64 0]) E E E E E E E (Qv (cells':=[.int .i64 s1]) E E E E (Zi (fun g1=>Q0 0 E (So E (YL E ?_)))))));obtain ⟨_,hz1,h312⟩:=Qj h312;refine Jc (r:=Zd) QB E E E E (by decide) E E 1 E hO1 E (Own.rds (Own.lit (r:=Zd) (e:=3) (g:=g1) (xs:=[s1]) (cs:=[.int .i64 s1]) (css:=[[.int .i64 s1]]) E (QY.cons (E) (QY.nil)) E E) 0 E) hz1 fun A4 c4 ch2 hO2=>Q0 3 E ?_;cases h312;exact Ce E ⟨_,A4,c4,ch2,rfl,fE E,sE [some 1] 2 E,(hO2),rfl⟩
    refine G2 3 [] [38] [] E ?_;cases h312;exact Ce E ⟨_,A3,c3,ch1,rfl,fE E,sE [some 0] 1 E,(hO1),rfl⟩
   rintro _ _ _ _ hb309 _ ⟨out2,A5,c5,ch3,rfl,hF312,hS312,hO3,rfl⟩;refine Atn 1 hF312 hS312 E E (G0 4 E ?_);cases hb309;exact Ce E ⟨_,rfl,A5,c5,ch3,fE E,sE [some 0] 1 E,(hO3),rfl⟩
  refine G2 2 [] [20] [] E ?_;cases hb309;have hq_:=hq309 _ E;subst hq_;exact Ce E ⟨_,A3,c3,ch1,rfl,fE E,sE [some 0] 1 E,(hO1),rfl⟩
 rintro _ _ _ _ h _ ⟨out3,A6,c6,ch4,rfl,hF286,hS286,hO4,rfl⟩;refine Atn 1 hF286 hS286 E E (G0 6 E ?_);cases h;exact Rt [] E E (Ug [[0]] 1 (hR A6 c6 ch4 hO4))
theorem Zt  {h_1:Qe} {block1:Int} {pv1:Value} {so1:Seg} {res1:Int}
  (hP1:Qf μ pv1 h_1 so1) (h:Yg h_1 block1=some res1)
  (hR:R (.int .i64 res1) μ (so1::L)) :
  Fn Try.prog 33 [pv1,.int .i64 block1] μ (so1::L) R:=by
 unfold Yg at h;refine FnS Try.func33 (by kernel_rfl) E Try.ntmps33 E E ?_;obtain ⟨_,_,_,_,_,_,_,_,_,_,_,_,_,hv1,rfl,hO1,_,_,_⟩:=hP1;subst hv1;refine G0 10 E (In Qf.fl 0 5 E E E (G1 8 [0] E ?_));refine Cut h (fun f l o_ f_ μ_ l_=> ∃(n3:Int),n3=o_∧Qi ((5,.int .i64 n3)::[]) f_∧Qd l l_∧μ=μ_) ?_ ?_
 ·intro _ h356 h;refine Lp h356 (fun f l (j_:Int×Int) f_ μ_ l_=>VJ j_ fun n1 v1=>Qi ((5,.int .i64 n1)::(13,.int .i64 v1)::Qo [1,11,12] f) f_∧Qd (YJ [some 1,some 0,some 2,some 3,some 4] 5 l) l_∧μ=μ_) ⟨fE E,sE [some 1,some 0,some 2,some 3,some 4] 5 E,E⟩ ?_;rintro ⟨n1,v1⟩ _ _ _ _ _ ⟨hF368,hS368,rfl⟩ hb368 hq368;unfold QV at hb368;replace hb368:=Ql hb368;refine Atn 5 hF368 hS368 E E (G0 5 E ?_);refine Br hb368 14 E E (fun hc1 hb368=> ?_) (fun hc1 hb368=> ?_)
  ·refine G2 3 [14] [] [] E ?_;refine Cut hb368 (fun f l o_ f_ μ_ l_=> ∃(n2:Int),n2=o_∧Qi ((5,.int .i64 n2)::Qo [1,11,12,13] f) f_∧Qd l l_∧μ=μ_) ?_ ?_
   ·intro _ h372 hb368;refine G0 3 E (IxA h372 (Own.rds hO1 0 E) E E fun _ _ _ _ hr1 hc2 _ h372=> ?_);obtain ⟨_,_,rfl,_,_⟩:=hr1;refine Q3 1 [] [] [64] (Z1 hc2) E (Al E fun _=>Q1 9 [0,0] E ?_);refine Br h372 20 E E (fun hc3 h372=> ?_) (fun hc3 h372=> ?_)
    ·refine G2 7 [20] [] [] E ?_;cases h372;exact Ce E ⟨_,rfl,fE E,sE [some 1,some 2,some 3,some 4,some 5] 6 E,rfl⟩
    refine G2 3 [] [20] [] E ?_;cases h372;exact Ce E ⟨_,rfl,fE E,sE [some 1,some 2,some 3,some 4,some 5] 6 E,rfl⟩
   rintro _ _ _ _ hb368 _ ⟨n2,rfl,hF372,hS372,rfl⟩;refine Atn 5 hF372 hS372 E E (G0 4 E ?_);cases hb368;exact Ce E ⟨_,rfl,fE E,sE [some 0,some 1,some 2,some 3,some 4] 5 E,rfl⟩
  refine G2 2 [] [14] [] E ?_;cases hb368;have hq_:=hq368 _ E;subst hq_;exact Ce E ⟨_,rfl,fE E,sE [some 1,some 0,some 2,some 3,some 4] 5 E,rfl⟩
 rintro _ _ _ _ h _ ⟨n3,rfl,hF356,hS356,rfl⟩;refine Atn 5 hF356 hS356 E E (G0 5 E ?_);cases h;exact Rt [] E E (Ug [[0,1,2,3,4]] 5 hR)
theorem V7  {l1:Qh} {A1:Option Addr} {c1:Nat} {res1:Qh}
  (hl1:l1.Open.length≤c1∧c1≤maxLen) (hA1:Zc Zd μ A1 l1.Open) (h:JG l1=some res1)
  (hR: ∀(μ':Gh) (A0_5:Option Addr) (c0_5:Nat),μ.le μ'→(res1.Open.length≤c0_5∧c0_5≤maxLen)→Zc Zd μ' A0_5 res1.Open→R (.agg #[.int .i64 res1.Block,.int .i64 res1.Machine,.int .i64 res1.Epoch,.int .i64 res1.When.From,.int .i64 res1.When.To,.slice A0_5 res1.Open.length c0_5]) μ' (L)) :
  Fn Try.prog 34 [.agg #[.int .i64 l1.Block,.int .i64 l1.Machine,.int .i64 l1.Epoch,.int .i64 l1.When.From,.int .i64 l1.When.To,.slice A1 l1.Open.length c1]] μ (L) R:=by
 unfold JG at h;refine FnS Try.func34 (by kernel_rfl) E Try.ntmps34 E E ?_;refine G0 2 E (Al E fun _=>Q0 0 E (Al E fun _=>Q1 5 [1] E (Cl E ?_)));obtain ⟨_,hs1,h⟩:=Qj h;refine QbS (r:=Zd) Qbl E E (Zc.rds hA1 _) hs1 fun A2 c2 _ hO1=> ?_;have hl2:=Own.lenOk hO1;refine Q0 1 E (KS.upd E (Upd.frzOwn 0 E hO1 fun _ hm_1 hA2=>Upd.done ?_));refine G1 7 [2,2,1] E ?_;cases h;exact Rt [1] E E (Ug [] 3 (hR _ A2 c2 hm_1 hl2 hA2))
theorem Zl  {o1:Qe} {b1:Int} {machine1:Int} {now1:Int} {pv1:Value} {so1:Seg} {res1:Qh} {res2:Int} {res3:Qe}
  (hP1:Qf μ pv1 o1 so1) (h:Qy o1 b1 machine1 now1=some (res1,res2,res3))
  (hR: ∀(μ':Gh) (A0_5:Option Addr) (c0_5:Nat) (sp0:Seg),μ.le μ'→(res1.Open.length≤c0_5∧c0_5≤maxLen)→Zc Zd μ' A0_5 res1.Open→Qf μ' pv1 res3 sp0→R (.tuple #[.agg #[.int .i64 res1.Block,.int .i64 res1.Machine,.int .i64 res1.Epoch,.int .i64 res1.When.From,.int .i64 res1.When.To,.slice A0_5 res1.Open.length c0_5],.int .i64 res2]) μ' (sp0::L)) :
  Fn Try.prog 10 [pv1,.int .i64 b1,.int .i64 machine1,.int .i64 now1] μ (so1::L) R:=by
 unfold Qy at h;refine FnS Try.func10 (by kernel_rfl) E Try.ntmps10 E E ?_;refine G0 2 E (Al E fun g1=> ?_);obtain ⟨g2,A1,c1,ch1,A2,c2,ch2,A3,c3,ch3,g3,es1,cn1,hv1,rfl,hO1,hO2,hO3,hM1⟩:=hP1;subst hv1;refine Q0 4 E (In Qf.fl 1 6 E E E (G2 8 [] [16] [] E ?_));refine Cut h (fun f l o_ f_ μ_ l_=> ∃(v1:Bool),v1=o_∧Qi ((33,.bool v1)::Qo [0,1,2,3,8] f) f_∧Qd (YJ [some 1,some 2,some 3,some 4,some 5,some 0] 6 l) l_) ?_ ?_
 ·intro _ h673 h;refine G0 2 E (Cl E ?_);obtain ⟨_,hx1,h673⟩:=Qj h673;refine WK  hx1 ((Q0 2 E ?_));refine Br h673 21 E E (fun hc1 h673=> ?_) (fun hc1 h673=> ?_)
  ·refine G2 13 [21,25,29] [] [] E ?_;cases h673;exact Ce E ⟨_,rfl,fE E,sE [some 1,some 2,some 3,some 4,some 5,some 0] 6 E⟩
  refine G2 4 [] [21] [] E ?_;refine Br h673 25 E E (fun hc2 h673=> ?_) (fun hc2 h673=> ?_)
  ·refine G2 9 [25,29] [] [] E ?_;cases h673;exact Ce E ⟨_,rfl,fE E,sE [some 1,some 2,some 3,some 4,some 5,some 0] 6 E⟩
  refine G2 4 [] [25] [] E ?_;refine Br h673 29 E E (fun hc3 h673=> ?_) (fun hc3 h673=> ?_)
  ·refine G2 5 [29] [] [] E ?_;cases h673;exact Ce E ⟨_,rfl,fE E,sE [some 1,some 2,some 3,some 4,some 5,some 0] 6 E⟩
  refine G2 1 [] [29] [] E (Cl E ?_);obtain ⟨_,hx2,h673⟩:=Qj h673;refine ZP  hx2 ((Q2 3 [] [29] [] E ?_));cases h673;exact Ce E ⟨_,rfl,fE E,sE [some 1,some 2,some 3,some 4,some 5,some 0] 6 E⟩
 rintro _ _ μ673 _ h hm673 ⟨v1,rfl,hF673,hS673⟩;replace hO1:=hO1.mono hm673;replace hO2:=hO2.mono hm673;replace hO3:=hO3.mono hm673;refine Atn 6 hF673 hS673 E E ?_;refine Br h 33 E E (fun hc4 h=> ?_) (fun hc4 h=> ?_)
 ·refine G2 7 [33] [] [5] E ?_;cases h;exact Rt [5] E E (Ug [[0,1,2,3,4]] 6 (hR _ none 0 _ hm673 ⟨Nat.le_refl _,Nat.zero_le _⟩ Zc.nil ⟨g2,A1,c1,ch1,A2,c2,ch2,A3,c3,ch3,g3,es1,cn1,rfl,rfl,hO1,hO2,hO3,hM1⟩))
 refine G2 12 [] [33] [0] E ?_;refine Br h 40 E E (fun hc5 h=> ?_) (fun hc5 h=> ?_)
 ·refine G2 7 [40] [] [5] E ?_;cases h;exact Rt [5] E E (Ug [[0,1,2,3,4]] 6 (hR _ none 0 _ hm673 ⟨Nat.le_refl _,Nat.zero_le _⟩ Zc.nil ⟨g2,A1,c1,ch1,A2,c2,ch2,A3,c3,ch3,g3,es1,cn1,rfl,rfl,hO1,hO2,hO3,hM1⟩))
 refine G2 9 [] [40] [] E (Cl E ?_);have hP2:Qf μ673 (.pointer (some ⟨g2,0,none⟩)) o1 _:=⟨g2,A1,c1,ch1,A2,c2,ch2,A3,c3,ch3,g3,es1,cn1,rfl,rfl,hO1,hO2,hO3,hM1⟩
 refine Fn.gp (L2:=(((g2,Obj.cells #[.slice A1 o1.history.leases.length c1,.slice A2 o1.history.returned.length c2,.slice A3 o1.sales.length c3,.int .i64 o1.length,.int .i64 o1.now,.map (some g3)] 83 (0,0))::(ch1++(ch2++(ch3++((g3,Obj.map es1 cn1)::[])))))::[(g1,.cells #[.int .i64 0,.int .i64 0,.int .i64 0,.int .i64 0,.int .i64 0,.slice none 0 0] 43 (0,0))]::L)) [[0,1,2,3,4],[5]] 6 2 (by kernel_rfl) ?_;obtain ⟨⟨_,_⟩,hx3,h⟩:=Qj h;replace h:=Ql h;refine Fn.regroup (Zs hP2 hx3 (?_));refine ⟨([(g2,.cells #[.slice A1 o1.history.leases.length c1,.slice A2 o1.history.returned.length c2,.slice A3 o1.sales.length c3,.int .i64 o1.length,.int .i64 o1.now,.map (some g3)] 83 (0,0))]::ch1::ch2::ch3::[(g3,.map es1 cn1)]::[(g1,.cells #[.int .i64 0,.int .i64 0,.int .i64 0,.int .i64 0,.int .i64 0,.slice none 0 0] 43 (0,0))]::L),Qd.ins (i:=0) Qf.fl E,?_⟩;refine Q0 10 E ?_;refine Br h 50 E E (fun hc6 h=> ?_) (fun hc6 h=> ?_)
 ·refine G2 7 [50] [] [5] E ?_;cases h;exact Rt [5] E E (Ug [[0,1,2,3,4]] 6 (hR _ none 0 _ hm673 ⟨Nat.le_refl _,Nat.zero_le _⟩ Zc.nil ⟨g2,A1,c1,ch1,A2,c2,ch2,A3,c3,ch3,g3,es1,cn1,rfl,rfl,hO1,hO2,hO3,hM1⟩))
 refine G2 13 [] [50] [0] E ?_;refine Br h 58 E E (fun hc7 h=> ?_) (fun hc7 h=> ?_)
 ·refine G2 7 [58] [] [5] E ?_;cases h;exact Rt [5] E E (Ug [[0,1,2,3,4]] 6 (hR _ none 0 _ hm673 ⟨Nat.le_refl _,Nat.zero_le _⟩ Zc.nil ⟨g2,A1,c1,ch1,A2,c2,ch2,A3,c3,ch3,g3,es1,cn1,rfl,rfl,hO1,hO2,hO3,hM1⟩))
 refine G2 3 [] [58] [] E (Dr _ QP.refl [(true,0),(true,1),(true,2),(true,3),(true,4),(true,6),(false,5),(false,7),(true,8),(true,9),(true,10),(true,11),(true,12)] (by kernel_rfl) (G1 6 [0] E (Cl E (FnS Try.func32 (by kernel_rfl) E Try.ntmps32 E E (G2 18 [] [4] [0] E (Cl E (QeN fun _=>Q0 0 E (Cl E ?_))))))));obtain ⟨_,hs1,h⟩:=Qj h;refine Qa2 0 5 E E hM1 hs1 fun _ _ _ hO4=>Q0 2 E (Rt [] E E (Upd.done ?_));refine ⟨QP.more (QP.more (QP.refl)),?_⟩;refine Q0 0 E (Cl E ?_);obtain ⟨⟨r5,_⟩,hx4,h⟩:=Qj h;replace h:=Ql h;refine Qa1 (Own.lenOk hO3) (Own.rds hO3 5 E) (Own.lenOk hO4) (Own.rds hO4 0 E) hx4 (fun A5 c5 ch5 hO5=> ?_);refine ⟨QP.more (QP.more (QP.more (QP.refl))),?_⟩;refine Q0 12 E ?_;refine Br h 72 E E (fun hc8 h=> ?_) (fun hc8 h=> ?_)
 ·refine G2 8 [72] [] [8] E ?_;cases h;exact Rt [8] E E (Ug [[3,4,5,6,7]] 9 (hR _ none 0 _ hm673 ⟨Nat.le_refl _,Nat.zero_le _⟩ Zc.nil ⟨g2,A1,c1,ch1,A2,c2,ch2,A3,c3,ch3,g3,es1,cn1,rfl,rfl,hO1,hO2,hO3,hM1⟩))
 refine G2 3 [] [72] [] E (Gp (L2:=(ch5::[(g2,.cells #[.slice A1 o1.history.leases.length c1,.slice A2 o1.history.returned.length c2,.slice A3 o1.sales.length c3,.int .i64 o1.length,.int .i64 o1.now,.map (some g3)] 83 (0,0))]::ch1::ch2::ch3::[(g3,.map es1 cn1)]::[(g1,.cells #[.int .i64 0,.int .i64 0,.int .i64 0,.int .i64 0,.int .i64 0,.slice none 0 0] 43 (0,0))]::L)) [[0],[3],[4],[5],[6],[7],[8]] 9 7 E (by kernel_rfl) ?_);refine Cut h (fun f l o_ f_ μ_ l_=> ∃(f1:Int) (f2:Int) (g6:Nat),(f1,f2)=o_∧Qi ((14,.pointer (some ⟨g6,0,none⟩))::Qo [0,3,8] f) f_∧Qd ([(g2,.cells #[.slice A1 o1.history.leases.length c1,.slice A2 o1.history.returned.length c2,.slice A3 o1.sales.length c3,.int .i64 o1.length,.int .i64 o1.now,.map (some g3)] 83 (0,0))]::ch1::ch2::ch3::[(g3,.map es1 cn1)]::[(g1,.cells #[.int .i64 0,.int .i64 0,.int .i64 0,.int .i64 0,.int .i64 0,.slice none 0 0] 43 (0,0))]::[(g6,.cells #[.int .i64 b1,.int .i64 machine1,.int .i64 f1,.int .i64 now1,.int .i64 f2,.slice A5 r5.length c5] 43 (0,0))]::YJ [some 0] 7 l) l_) ?_ ?_
 ·intro _ h781 h;refine Cd (WP.draw (id:=15) QcR _ QP.refl E (AN.run (fuel:=5) (listed':=[true,true,true,true,true,true,false,false,true,true,true,true,true,true,true,true,true,true,false,false,false]) QB [(true,0),(true,1),(true,2),(true,3),(true,4),(true,5),(true,8),(true,9),(true,10),(true,11),(true,12),(true,13),(true,14),(true,15),(true,16),(true,17)] (by kernel_rfl) (by kernel_rfl) E (Vq E (QK E (Pt E E (QK E (Pt E E (QK E (Pt E E (YY E (Pt E E (Y9 (o':=0) E E E E E E (QR E ?_)))))))))))));refine Vq E (QK E (Pt E E (QK E (Pt E E (QK E (Pt E E (QK E (Pt E E (YY E (Pt E E (Y9 (o':=3) E E E E E E (QR E ?_))))))))))));refine Vq E (YX E E E (Ex.mk _ (Y7.seg 1 0 E E E) (Pt E E (Qdm E E (Pt E E (QcU E (Pt E E (Wf E E E E (Qv (cells':=[.int .i64 now1,.int .i64 0]) E E E E (Qv (cells':=[.int .i64 now1,.int .i64 (min (w64 (now1+o1.length)) 3155760000)]) E E E E (Zi (Pt E E (QK E ?_)))))))))))));refine QR E (We ?_);refine QgP QB (a:=6) (b:=19) (by kernel_rfl) ?_ ?_
  ·refine FO_ E E (QcT (all:=[.pointer (some ⟨g2,0,none⟩),.int .i64 b1]) E E E ?_);have hP3:Qf μ673 (.pointer (some ⟨g2,0,none⟩)) o1 _:=⟨g2,A1,c1,ch1,A2,c2,ch2,A3,c3,ch3,g3,es1,cn1,rfl,rfl,hO1,hO2,hO3,hM1⟩
   refine Fn.gp (L2:=(((g2,Obj.cells #[.slice A1 o1.history.leases.length c1,.slice A2 o1.history.returned.length c2,.slice A3 o1.sales.length c3,.int .i64 o1.length,.int .i64 o1.now,.map (some g3)] 83 (0,0))::(ch1++(ch2++(ch3++((g3,Obj.map es1 cn1)::[])))))::ch5::[(g1,.cells #[.int .i64 0,.int .i64 0,.int .i64 0,.int .i64 0,.int .i64 0,.slice none 0 0] 43 (0,0))]::L)) [[1,2,3,4,5],[0],[6]] 7 3 (by kernel_rfl) ?_;obtain ⟨r7,hx5,h781⟩:=Qj h781;refine Fn.regroup (Zt hP3 hx5 (?_));refine ⟨([(g2,.cells #[.slice A1 o1.history.leases.length c1,.slice A2 o1.history.returned.length c2,.slice A3 o1.sales.length c3,.int .i64 o1.length,.int .i64 o1.now,.map (some g3)] 83 (0,0))]::ch1::ch2::ch3::[(g3,.map es1 cn1)]::ch5::[(g1,.cells #[.int .i64 0,.int .i64 0,.int .i64 0,.int .i64 0,.int .i64 0,.slice none 0 0] 43 (0,0))]::L),Qd.ins (i:=0) Qf.fl E,?_⟩;refine ⟨Kp [5,0,1,2,3,4,6] 7 E,?_⟩;refine QR E (AN.run (fuel:=0) (listed':=[true,true,true,true,true,true,true,true,true,true,true,true,true,true,true,true,true,true,true,true,true]) QB [(true,7),(true,18),(false,19),(false,20)] (by kernel_rfl) (by kernel_rfl) E (Vq E (Qdm E E (Pt E E (Wf E E E E (Qv (cells':=[.int .i64 b1,.int .i64 0,.int .i64 0,.int .i64 0,.int .i64 0,.slice none 0 0]) E E E E (Qv (cells':=[.int .i64 b1,.int .i64 machine1,.int .i64 0,.int .i64 0,.int .i64 0,.slice none 0 0]) E E E E (Qv (cells':=[.int .i64 b1,.int .i64 machine1,.int .i64 (w64 (r7+1)),.int .i64 0,.int .i64 0,.slice none 0 0]) E E E E (Qv (cells':=[.int .i64 b1,.int .i64 machine1,.int .i64 (w64 (r7+1)),.int .i64 now1,.int .i64 (min (w64 (now1+o1.length)) 3155760000),.slice none 0 0]) E E E E ?_)))))))));refine Qv (cells':=[.int .i64 b1,.int .i64 machine1,.int .i64 (w64 (r7+1)),.int .i64 now1,.int .i64 (min (w64 (now1+o1.length)) 3155760000),.slice A5 r5.length c5]) E E E E (Zi (QR E (Vp E (QbN (cs:= #[.int .i64 0,.int .i64 0,.int .i64 0,.int .i64 0,.int .i64 0,.slice none 0 0]) E E (fun g5=> ?_)))));refine ⟨Kp [6,1,2,3,4,5,7] 8 E,?_⟩;refine QR E (Vp E (Jm (vs:=[.int .i64 b1,.int .i64 machine1,.int .i64 (w64 (r7+1)),.int .i64 now1,.int .i64 (min (w64 (now1+o1.length)) 3155760000),.slice A5 r5.length c5]) E E E E E E (ST_ (L':=([(g5,.cells #[.int .i64 b1,.int .i64 machine1,.int .i64 (w64 (r7+1)),.int .i64 now1,.int .i64 (min (w64 (now1+o1.length)) 3155760000),.slice A5 r5.length c5] 43 (0,0))]::[(g2,.cells #[.slice A1 o1.history.leases.length c1,.slice A2 o1.history.returned.length c2,.slice A3 o1.sales.length c3,.int .i64 o1.length,.int .i64 o1.now,.map (some g3)] 83 (0,0))]::ch1::ch2::ch3::[(g3,.map es1 cn1)]::ch5::[(g1,.cells #[.int .i64 0,.int .i64 0,.int .i64 0,.int .i64 0,.int .i64 0,.slice none 0 0] 43 (0,0))]::L)) 0 0 E E E E ?_)));refine ⟨Kp [6,1,2,3,4,5,7] 8 E,?_⟩;refine ZR (We (AN.done0 (by kernel_rfl) ?_));cases h781;exact Ce E ⟨_,_,g5,rfl,fE E,sE [some 1,some 2,some 3,some 4,some 5,some 7,some 0,some 6] 8 E⟩
  obtain ⟨r7,hx5,h781⟩:=Qj h781;refine FO_ E E (QbN (cs:= #[.int .i64 0,.int .i64 0,.int .i64 0,.int .i64 0,.int .i64 0,.slice none 0 0]) E E (fun g5=> ?_));refine ⟨QP.more (QP.refl),?_⟩;refine QR E (AN.run (fuel:=0) (listed':=[true,true,true,true,true,true,true,true,true,true,true,true,true,true,true,true,true,true,true,true,true]) QB [(false,6),(true,7),(true,18),(false,20)] (by kernel_rfl) (by kernel_rfl) E (Vp E (QcT (all:=[.pointer (some ⟨g2,0,none⟩),.int .i64 b1]) E E E ?_)));have hP3:Qf μ673 (.pointer (some ⟨g2,0,none⟩)) o1 _:=⟨g2,A1,c1,ch1,A2,c2,ch2,A3,c3,ch3,g3,es1,cn1,rfl,rfl,hO1,hO2,hO3,hM1⟩
  refine Fn.gp (L2:=(((g2,Obj.cells #[.slice A1 o1.history.leases.length c1,.slice A2 o1.history.returned.length c2,.slice A3 o1.sales.length c3,.int .i64 o1.length,.int .i64 o1.now,.map (some g3)] 83 (0,0))::(ch1++(ch2++(ch3++((g3,Obj.map es1 cn1)::[])))))::[(g5,.cells #[.int .i64 0,.int .i64 0,.int .i64 0,.int .i64 0,.int .i64 0,.slice none 0 0] 43 (0,0))]::ch5::[(g1,.cells #[.int .i64 0,.int .i64 0,.int .i64 0,.int .i64 0,.int .i64 0,.slice none 0 0] 43 (0,0))]::L)) [[2,3,4,5,6],[0],[1],[7]] 8 4 (by kernel_rfl) (Fn.regroup (Zt hP3 hx5 (?_)));refine ⟨([(g2,.cells #[.slice A1 o1.history.leases.length c1,.slice A2 o1.history.returned.length c2,.slice A3 o1.sales.length c3,.int .i64 o1.length,.int .i64 o1.now,.map (some g3)] 83 (0,0))]::ch1::ch2::ch3::[(g3,.map es1 cn1)]::[(g5,.cells #[.int .i64 0,.int .i64 0,.int .i64 0,.int .i64 0,.int .i64 0,.slice none 0 0] 43 (0,0))]::ch5::[(g1,.cells #[.int .i64 0,.int .i64 0,.int .i64 0,.int .i64 0,.int .i64 0,.slice none 0 0] 43 (0,0))]::L),Qd.ins (i:=0) Qf.fl E,?_⟩;refine ⟨Kp [6,0,1,2,3,4,7] 8 E,?_⟩;refine Pt E E (Qdm E E (Pt E E (Wf E E E E (Qv (cells':=[.int .i64 b1,.int .i64 0,.int .i64 0,.int .i64 0,.int .i64 0,.slice none 0 0]) E E E E (Qv (cells':=[.int .i64 b1,.int .i64 machine1,.int .i64 0,.int .i64 0,.int .i64 0,.slice none 0 0]) E E E E (Qv (cells':=[.int .i64 b1,.int .i64 machine1,.int .i64 (w64 (r7+1)),.int .i64 0,.int .i64 0,.slice none 0 0]) E E E E (Qv (cells':=[.int .i64 b1,.int .i64 machine1,.int .i64 (w64 (r7+1)),.int .i64 now1,.int .i64 (min (w64 (now1+o1.length)) 3155760000),.slice none 0 0]) E E E E (Qv (cells':=[.int .i64 b1,.int .i64 machine1,.int .i64 (w64 (r7+1)),.int .i64 now1,.int .i64 (min (w64 (now1+o1.length)) 3155760000),.slice A5 r5.length c5]) E E E E ?_))))))));refine Zi (QR E (Vp E (Jm (vs:=[.int .i64 b1,.int .i64 machine1,.int .i64 (w64 (r7+1)),.int .i64 now1,.int .i64 (min (w64 (now1+o1.length)) 3155760000),.slice A5 r5.length c5]) E E E E E E (ST_ (L':=([(g2,.cells #[.slice A1 o1.history.leases.length c1,.slice A2 o1.history.returned.length c2,.slice A3 o1.sales.length c3,.int .i64 o1.length,.int .i64 o1.now,.map (some g3)] 83 (0,0))]::ch1::ch2::ch3::[(g3,.map es1 cn1)]::[(g5,.cells #[.int .i64 b1,.int .i64 machine1,.int .i64 (w64 (r7+1)),.int .i64 now1,.int .i64 (min (w64 (now1+o1.length)) 3155760000),.slice A5 r5.length c5] 43 (0,0))]::ch5::[(g1,.cells #[.int .i64 0,.int .i64 0,.int .i64 0,.int .i64 0,.int .i64 0,.slice none 0 0] 43 (0,0))]::L)) 5 0 E E E E ?_))));refine ⟨Kp [6,0,1,2,3,4,7] 8 E,?_⟩;refine ZR (We (AN.done0 (by kernel_rfl) ?_));cases h781;exact Ce E ⟨_,_,g5,rfl,fE E,sE [some 0,some 1,some 2,some 3,some 4,some 7,some 5,some 6] 8 E⟩
 rintro _ _ _ _ h hm781 ⟨f1,f2,g6,rfl,hF781,hS781⟩;replace h:=Ql h;replace hO1:=hO1.mono hm781;replace hO2:=hO2.mono hm781;replace hO3:=hO3.mono hm781;replace hO5:=hO5.mono hm781;refine Atn 8 hF781 hS781 E E (G0 1 E (Cd (WP.drawB (id:=16) (l':=List.replicate 12 true++[false]) QcR QB ([(g2,.cells #[.slice A1 o1.history.leases.length c1,.slice A2 o1.history.returned.length c2,.slice A3 o1.sales.length c3,.int .i64 o1.length,.int .i64 o1.now,.map (some g3)] 83 (0,0))]::ch2::ch3::[(g3,.map es1 cn1)]::[(g1,.cells #[.int .i64 0,.int .i64 0,.int .i64 0,.int .i64 0,.int .i64 0,.slice none 0 0] 43 (0,0))]::[(g6,.cells #[.int .i64 b1,.int .i64 machine1,.int .i64 f1,.int .i64 now1,.int .i64 f2,.slice A5 r5.length c5] 43 (0,0))]::L) (Kp [0,2,3,4,5,6] 8 E) 12 [] [(true,0),(true,1),(true,2),(true,3),(true,4),(true,5),(true,6),(false,7),(false,8),(true,9),(true,10),(true,11)] (by kernel_rfl) (by kernel_rfl) [] E (by kernel_rfl) (by kernel_rfl) ?_)));refine Vq E (QK E (Pt E E (QK E (Pt E E (YY E (Pt E E (Y9 (o':=0) E E E E E E (Pt E E (Y9 (o':=0) E E E E E E (Pt E E (YX E E E (Ex.mk _ (Y7.seg 0 0 E E E) ?_))))))))))));refine Pt E E (Qdn E E E E (LA_ (vs:=[.int .i64 b1,.int .i64 machine1,.int .i64 f1,.int .i64 now1,.int .i64 f2,.slice A5 r5.length c5]) 5 0 E E E E (QR E (Vp E (Jf (z:=[.int .i64 0,.int .i64 0,.int .i64 0,.int .i64 0,.int .i64 0,.slice none 0 0]) E E E E E E E (Qv (cells':=[.int .i64 b1,.int .i64 machine1,.int .i64 f1,.int .i64 now1,.int .i64 f2,.slice A5 r5.length c5]) E E E E (Zi (fun g7=> ?_))))))));refine ⟨Kp [1,3,4,5,6,7] 9 E,?_⟩;refine QR E (Vp E (YL E ?_));have hl1:=Own.lenOk hO5;refine Q5.pre (Upd.frzOwn 8 E hO5 fun _ hm_1 hA1=>Upd.done ?_);replace hO1:=hO1.mono hm_1;replace hO2:=hO2.mono hm_1;replace hO3:=hO3.mono hm_1;obtain ⟨l2,hz1,h⟩:=Qj h;refine Jc (r:=JT) QB E E E E (by decide) E E 2 E hO1 E (Own.rds (Own.lit (r:=JT) (e:=43) (g:=g7) (xs:=[(Qh.mk b1 machine1 f1 (QJ.mk now1 f2) r5)]) (cs:=[.int .i64 b1,.int .i64 machine1,.int .i64 f1,.int .i64 now1,.int .i64 f2,.slice A5 r5.length c5]) (css:=[[.int .i64 b1,.int .i64 machine1,.int .i64 f1,.int .i64 now1,.int .i64 f2,.slice A5 r5.length c5]]) E (QY.cons (⟨A5,c5,E,hl1,hA1⟩) (QY.nil)) E E) 0 E) hz1 fun A6 c6 ch6 hO6=> ?_;refine ⟨Kp [1,3,4,5,6,7] 9 E,?_⟩;refine Pt E E (YY E (Pt E E (Y9 (o':=0) E E E E E E (Pt E E (Y9 (o':=0) E E E E E E (QR E (We (Qbx E (Jm (vs:=[.slice A6 l2.length c6]) E E E E E E (ST_ (L':=([(g7,.cells #[.int .i64 b1,.int .i64 machine1,.int .i64 f1,.int .i64 now1,.int .i64 f2,.slice A5 r5.length c5] 43 (0,0))]::[(g2,.cells #[.slice A6 l2.length c6,.slice A2 o1.history.returned.length c2,.slice A3 o1.sales.length c3,.int .i64 o1.length,.int .i64 o1.now,.map (some g3)] 83 (0,0))]::ch6::ch2::ch3::[(g3,.map es1 cn1)]::[(g1,.cells #[.int .i64 0,.int .i64 0,.int .i64 0,.int .i64 0,.int .i64 0,.slice none 0 0] 43 (0,0))]::[(g6,.cells #[.int .i64 b1,.int .i64 machine1,.int .i64 f1,.int .i64 now1,.int .i64 f2,.slice A5 r5.length c5] 43 (0,0))]::[]::L)) 1 0 E E E E ?_))))))))));refine ZR (G1 8 [1] E (So E (Jf (z:=[.bool false]) E E E E E E E (Qv (cells':=[.bool false]) E E E E (Zi (fun g8=>Q0 0 E (So E (YL E ?_))))))));obtain ⟨l3,hz2,h⟩:=Qj h;refine Jc (r:=Qdx) QB E E E E (by decide) E E 4 E hO2 E (Own.rds (Own.lit (r:=Qdx) (e:=4) (g:=g8) (xs:=[false]) (cs:=[.bool false]) (css:=[[.bool false]]) E (QY.cons (E) (QY.nil)) E E) 0 E) hz2 fun A7 c7 ch7 hO7=>Q1 16 [2,2,8] E (Cl E ?_);obtain ⟨_,hx6,h⟩:=Qj h;refine V7 hl1 hA1 hx6 (fun _ A8 c8 hm_2 hl2 hA2=> ?_);replace hO3:=hO3.mono hm_2;replace hO6:=hO6.mono hm_2;replace hO7:=hO7.mono hm_2;refine Q1 3 [7] E (Rt [7] E E (UgK (L2:=(([(g2,.cells #[.slice A6 l2.length c6,.slice A7 l3.length c7,.slice A3 o1.sales.length c3,.int .i64 o1.length,.int .i64 now1,.map (some g3)] 83 (0,0))]++(ch6++(ch7++(ch3++([(g3,.map es1 cn1)])))))::L)) [[2,3,4,5,6]] 10 (by kernel_rfl) ?_));cases h;exact ((hR _ A8 c8 _ (hm673.trans (hm781.trans (hm_1.trans hm_2))) hl2 hA2 ⟨g2,A6,c6,ch6,A7,c7,ch7,A3,c3,ch3,g3,es1,cn1,rfl,rfl,hO6,hO7,hO3,hM1⟩))
theorem Wz  {serial1:Int}  {res1:Int}
   (h:ZC serial1=some res1)
  (hR:R (.int .i64 res1) μ (L)) :
  Fn Try.prog 35 [.int .i64 serial1] μ (L) R:=by
 unfold ZC at h;refine FnS Try.func35 (by kernel_rfl) E Try.ntmps35 E E ?_;refine G0 10 E ?_;refine Br h 4 E E (fun hc1 h=> ?_) (fun hc1 h=> ?_)
 ·refine G2 5 [4] [] [] E ?_;cases h;exact Rt [] E E (Ug [] 0 hR)
 refine G2 8 [] [4] [0] E ?_;cases h;exact Rt [] E E (Ug [] 0 hR)
theorem Zz {F:Nat} {m1:Qa} {l1:Qh} {pv1:Value} {so1:Seg} {A1:Option Addr} {c1:Nat} {res1:Int} {res2:Qa}
  (hP1:Qc μ pv1 m1 so1) (hl1:l1.Open.length≤c1∧c1≤maxLen) (hA1:Zc Zd μ A1 l1.Open) (h:QQ F m1 l1=some (res1,res2))
  (hR: ∀(μ':Gh) (sp0:Seg),μ.le μ'→Qc μ' pv1 res2 sp0→R (.int .i64 res1) μ' (sp0::L)) :
  Fn Try.prog 11 [pv1,.agg #[.int .i64 l1.Block,.int .i64 l1.Machine,.int .i64 l1.Epoch,.int .i64 l1.When.From,.int .i64 l1.When.To,.slice A1 l1.Open.length c1]] μ (so1::L) R:=by
 unfold QQ at h;refine FnS Try.func11 (by kernel_rfl) E Try.ntmps11 E E ?_;refine G0 2 E (Al E fun g1=> ?_);obtain ⟨g2,A2,c2,ch1,g3,es1,cn1,so2,A3,c3,ch2,hv1,rfl,hO1,hM1,hO2⟩:=hP1;subst hv1;refine Q0 4 E (In Qc.fl 1 6 E E E (G2 13 [] [9] [0] E ?_));refine Br h 13 E E (fun hc1 h=> ?_) (fun hc1 h=> ?_)
 ·refine G2 36 [13,18,23,29,38,43] [] [] E ?_;cases h;exact Rt [] E E (Ug [[1,2,3,4,5]] 6 (hR _ _ (Gh.le.refl _) ⟨g2,A2,c2,ch1,g3,es1,cn1,so2,A3,c3,ch2,rfl,rfl,hO1,hM1,hO2⟩))
 refine G2 5 [] [13] [0] E ?_;refine Br h 18 E E (fun hc2 h=> ?_) (fun hc2 h=> ?_)
 ·refine G2 31 [18,23,29,38,43] [] [] E ?_;cases h;exact Rt [] E E (Ug [[1,2,3,4,5]] 6 (hR _ _ (Gh.le.refl _) ⟨g2,A2,c2,ch1,g3,es1,cn1,so2,A3,c3,ch2,rfl,rfl,hO1,hM1,hO2⟩))
 refine G2 5 [] [18] [0] E ?_;refine Br h 23 E E (fun hc3 h=> ?_) (fun hc3 h=> ?_)
 ·refine G2 26 [23,29,38,43] [] [] E ?_;cases h;exact Rt [] E E (Ug [[1,2,3,4,5]] 6 (hR _ _ (Gh.le.refl _) ⟨g2,A2,c2,ch1,g3,es1,cn1,so2,A3,c3,ch2,rfl,rfl,hO1,hM1,hO2⟩))
 refine G2 6 [] [23] [0] E ?_;refine Br h 29 E E (fun hc4 h=> ?_) (fun hc4 h=> ?_)
 ·refine G2 20 [29,38,43] [] [] E ?_;cases h;exact Rt [] E E (Ug [[1,2,3,4,5]] 6 (hR _ _ (Gh.le.refl _) ⟨g2,A2,c2,ch1,g3,es1,cn1,so2,A3,c3,ch2,rfl,rfl,hO1,hM1,hO2⟩))
 refine G2 9 [] [29] [0,0] E ?_;refine Br h 38 E E (fun hc5 h=> ?_) (fun hc5 h=> ?_)
 ·refine G2 11 [38,43] [] [] E ?_;cases h;exact Rt [] E E (Ug [[1,2,3,4,5]] 6 (hR _ _ (Gh.le.refl _) ⟨g2,A2,c2,ch1,g3,es1,cn1,so2,A3,c3,ch2,rfl,rfl,hO1,hM1,hO2⟩))
 refine G2 6 [] [38] [0] E ?_;refine Br h 43 E E (fun hc6 h=> ?_) (fun hc6 h=> ?_)
 ·refine G2 5 [43] [] [] E ?_;cases h;exact Rt [] E E (Ug [[1,2,3,4,5]] 6 (hR _ _ (Gh.le.refl _) ⟨g2,A2,c2,ch1,g3,es1,cn1,so2,A3,c3,ch2,rfl,rfl,hO1,hM1,hO2⟩))
 have hP2:Qc μ (.pointer (some ⟨g2,0,none⟩)) m1 _:=⟨g2,A2,c2,ch1,g3,es1,cn1,so2,A3,c3,ch2,rfl,rfl,hO1,hM1,hO2⟩
 refine G2 10 [] [43] [0] E (Gp (L2:=(((g2,Obj.cells #[.int .i64 m1.id,.int .i64 m1.skew,.slice A2 m1.products.length c2,.map (some g3),.slice A3 m1.log.length c3,.int .i64 m1.total] 88 (0,0))::(ch1++((g3,Obj.map es1 cn1)::(ch2++so2))))::[(g1,.cells #[.int .i64 l1.Block,.int .i64 l1.Machine,.int .i64 l1.Epoch,.int .i64 l1.When.From,.int .i64 l1.When.To,.slice A1 l1.Open.length c1] 43 (0,0))]::L)) [[1,2,3,4,5],[0]] 6 2 E (by kernel_rfl) ?_);refine Cut h (fun f l o_ f_ μ_ l_=>(.inl ())=o_∧Qi (Qo [0,3] f) f_∧Qd l l_) ?_ ?_
 ·intro _ h1110 h;refine Lp h1110 (fun f l (v1:Int) f_ μ_ l_=>Qi ((47,.int .i64 v1)::Qo [0,3,45,46] f) f_∧Qd l l_) ⟨fE E,sE [some 0,some 1] 2 E⟩ ?_;rintro v1 _ _ _ _ hm1115 ⟨hF1115,hS1115⟩ hb1115 hq1115;unfold YB at hb1115;replace hA1:=hA1.mono hm1115;replace hP2:=hP2.mono hm1115;refine Atn 2 hF1115 hS1115 E E (G0 5 E ?_);refine Br hb1115 48 E E (fun hc7 hb1115=> ?_) (fun hc7 hb1115=> ?_)
  ·refine G2 6 [48] [] [] E (Ix hb1115 (Zc.rds hA1 L) E E fun _ _ _ _ hr1 hc8 _ hb1115=> ?_);obtain rfl:=hr1;refine Q3 4 [] [] [64] (Z1 (hc8.push.push)) E (Dr _ QP.refl [(true,0),(true,2),(true,3),(false,1),(true,4)] (by kernel_rfl) (G1 3 [1] E (Cl E ?_)));obtain ⟨_,hx2,hb1115⟩:=Qj hb1115;refine Wz  hx2 (?_);refine ⟨QP.refl,?_⟩;refine Q0 2 E ?_;refine Br hb1115 55 E E (fun hc9 hb1115=> ?_) (fun hc9 hb1115=> ?_)
   ·refine G2 5 [55] [] [] E ?_;cases hb1115;have hq_:=hq1115 _ E;subst hq_;replace h:=QD h;cases h;exact Rt [] E E (Ug [[0]] 2 (hR _ _ hm1115 hP2))
   refine G2 7 [] [55] [] E ?_;cases hb1115;exact Ce E ⟨_,rfl,fE E,sE [some 0,some 1] 2 E⟩
  refine G2 2 [] [48] [] E ?_;cases hb1115;have hq_:=hq1115 _ E;subst hq_;exact Ce E ⟨rfl,fE E,sE [some 0,some 1] 2 E⟩
 rintro _ _ _ _ h hm1110 ⟨rfl,hF1110,hS1110⟩;replace h:=YQ h;replace hA1:=hA1.mono hm1110;replace hP2:=hP2.mono hm1110;refine Atn 2 hF1110 hS1110 E E (G0 5 E ?_);refine Cut h (fun f l o_ f_ μ_ l_=>(.inl ())=o_∧Qi (Qo [0,3] f) f_∧Qd l l_) ?_ ?_
 ·intro _ h1121 h;refine Lp h1121 (fun f l (i1:Int) f_ μ_ l_=>Qi ((7,.int .i64 i1)::Qo [0,3] f) f_∧Qd l l_) ⟨fE E,sE [some 0,some 1] 2 E⟩ ?_;rintro i1 _ _ _ _ hm1126 ⟨hF1126,hS1126⟩ hb1126 hq1126;unfold Ym at hb1126;replace hA1:=hA1.mono hm1126;replace hP2:=hP2.mono hm1126;refine Atn 2 hF1126 hS1126 E E (G1 9 [1] E ?_);refine Br hb1126 61 E E (fun hc10 hb1126=> ?_) (fun hc10 hb1126=> ?_)
  ·refine G2 5 [61] [] [] E (Dr _ QP.refl [(true,0),(true,1),(true,2),(true,3),(true,4),(true,5),(true,6),(true,7),(true,8),(true,9),(true,10),(true,11)] (by kernel_rfl) (G1 3 [1] E (Ix hb1126 (Zc.rds hA1 L) E E fun _ _ _ _ hr2 hc11 _ hb1126=> ?_)));obtain rfl:=hr2;refine Q3 5 [] [] [64,1] (Z1 (hc11.push.push)) E (Ix hb1126 (Zc.rds hA1 L) E E fun _ _ _ _ hr3 hc12 _ hb1126=> ?_);obtain rfl:=hr3;refine Q3 3 [] [] [64] (Z1 (hc12.push.push)) E ?_;refine Br hb1126 75 E E (fun hc13 hb1126=> ?_) (fun hc13 hb1126=> ?_)
   ·refine G2 5 [75] [] [] E ?_;cases hb1126;have hq_:=hq1126 _ E;subst hq_;replace h:=QD h;cases h;exact Rt [] E E (Ug [[0]] 2 (hR _ _ (hm1110.trans hm1126) hP2))
   refine G2 8 [] [75] [] E ?_;cases hb1126;exact Ce E ⟨_,rfl,fE E,sE [some 0,some 1] 2 E⟩
  refine G2 2 [] [61] [] E ?_;cases hb1126;have hq_:=hq1126 _ E;subst hq_;exact Ce E ⟨rfl,fE E,sE [some 0,some 1] 2 E⟩
 rintro _ _ _ _ h hm1121 ⟨rfl,hF1121,hS1121⟩;replace h:=YQ h;replace hA1:=hA1.mono hm1121;replace hP2:=hP2.mono hm1121;obtain ⟨_,A4,c4,ch3,g5,es2,cn2,so3,A5,c5,ch4,hv2,hs1,hO3,hM2,hO4⟩:=hP2;replace hv2:=Qai hv2;subst hv2;refine Atn 2 hF1121 hS1121 E E (G0 2 E (In (Qc.fl.trans hs1.symm) 0 6 E E E (Dr _ QP.refl [(true,0),(true,1),(true,2),(true,3),(true,4),(true,5),(true,6),(true,7),(true,8),(true,9),(true,10),(true,11),(true,12),(true,13),(true,14),(true,15),(true,16)] (by kernel_rfl) (G1 8 [5,0] E ?_))));refine Br h 83 E E (fun hc14 h=> ?_) (fun hc14 h=> ?_)
 ·refine G2 15 [83,92] [] [] E ?_;cases h;exact Rt [] E E (Ug [[0,1,2,3,4]] 6 (hR _ _ (hm1110.trans hm1121) ⟨g2,A4,c4,ch3,g5,es2,cn2,so3,A5,c5,ch4,rfl,rfl,hO3,hM2,hO4⟩))
 refine G2 6 [] [83] [0,5] E ?_;refine QeD h (fun hc15 h=> ?_) (fun hc15 h=> ?_)
 ·obtain ⟨_,hx5,h⟩:=Qj h;obtain ⟨_,hl2⟩:=Zj.look hM2 hx5;refine Rdo E E ?_;obtain ⟨_,hx6⟩:=LkP.look (L:=([(g2,.cells #[.int .i64 m1.id,.int .i64 m1.skew,.slice A4 m1.products.length c4,.map (some g5),.slice A5 m1.log.length c5,.int .i64 m1.total] 88 (0,0))]::ch3::[(g5,.map es2 cn2)]::ch4::so3::[(g1,.cells #[.int .i64 l1.Block,.int .i64 l1.Machine,.int .i64 l1.Epoch,.int .i64 l1.When.From,.int .i64 l1.When.To,.slice A1 l1.Open.length c1] 43 (0,0))]::L)) (g:=g5) hl2 (YV.seg 2 0 rfl rfl);refine Vb E E E E E E E E (Ex.mk _ hx6 (Q2 8 [92] [83] [] E ?_));cases h;exact Rt [] E E (Ug [[0,1,2,3,4]] 6 (hR _ _ (hm1110.trans hm1121) ⟨g2,A4,c4,ch3,g5,es2,cn2,so3,A5,c5,ch4,rfl,rfl,hO3,hM2,hO4⟩))
 refine Rdo E E ?_;obtain ⟨_,hx7⟩:=LkP.look (L:=([(g2,.cells #[.int .i64 m1.id,.int .i64 m1.skew,.slice A4 m1.products.length c4,.map (some g5),.slice A5 m1.log.length c5,.int .i64 m1.total] 88 (0,0))]::ch3::[(g5,.map es2 cn2)]::ch4::so3::[(g1,.cells #[.int .i64 l1.Block,.int .i64 l1.Machine,.int .i64 l1.Epoch,.int .i64 l1.When.From,.int .i64 l1.When.To,.slice A1 l1.Open.length c1] 43 (0,0))]::L)) (g:=g5) (Zj.look0 hM2 hc15) (YV.seg 2 0 rfl rfl);refine Vb E E E E E E E E (Ex.mk _ hx7 (Q2 9 [] [83,92] [5] E (Cl E ?_)));obtain ⟨l2,hs2,h⟩:=Qj h;refine QbS (r:=Zd) Qbl E E (Zc.rds hA1 _) hs2 fun A6 c6 _ hO5=> ?_;have hl3:=Own.lenOk hO5;refine Q0 1 E (KS.upd E (Upd.frzOwn 0 E hO5 fun _ hm_1 hA5=>Upd.done ?_));replace hO3:=hO3.mono hm_1;replace hM2:=hM2.mono hm_1;replace hO4:=hO4.mono hm_1;refine G1 3 [6] E (Drk [3] 6 E [(true,0),(true,1),(true,2),(true,3),(true,4),(true,5),(true,6),(true,7),(false,8),(false,9)] (by kernel_rfl) (G1 8 [1,5,5] E (Al E fun g7=> ?_)));refine ⟨Kp [1,2,3,5,6,7] 8 E,?_⟩;refine Q0 0 E (So E (WF E E E (Qed QB E E E E 4 E hM2 hc15 fun es3 cn3 hM3 hl4=> ?_)));refine ⟨Kp [1,2,3,5,6,7] 8 E,?_⟩;refine Q0 5 E ?_;cases h;exact Rt [] E E (Ug [[2,3,4,5,6,0,99]] 8 (hR _ _ (hm1110.trans (hm1121.trans hm_1)) ⟨g2,A4,c4,ch3,g5,es3,cn3,(so3++((g7,Obj.cells #[.int .i64 l1.Block,.int .i64 l1.Machine,.int .i64 l1.Epoch,.int .i64 l1.When.From,.int .i64 l1.When.To,.slice A6 l2.length c6,.slice none 0 0] 99 (0,0))::[])),A5,c5,ch4,rfl,rfl,hO3,(Zj.back hM3 hl4 ⟨g7,A6,c6,none,0,[],rfl,rfl,⟨hl3,hA5⟩,Own.nil⟩),hO4⟩))
theorem WD  {m1:Qa} {x1:Qw} {pv1:Value} {so1:Seg} {res1:Int}
  (hP1:Qc μ pv1 m1 so1) (h:YU m1 x1=some res1)
  (hR:R (.int .i64 res1) μ (so1::L)) :
  Fn Try.prog 38 [pv1,.agg #[.int .i64 x1.Serial,.int .i64 x1.Product,.int .i64 x1.Grams,.int .i64 x1.At]] μ (so1::L) R:=by
 unfold YU at h;refine FnS Try.func38 (by kernel_rfl) E Try.ntmps38 E E ?_;refine G0 2 E (Al E fun _=> ?_);obtain ⟨_,_,_,_,_,_,_,_,_,_,_,hv1,rfl,_,_,_⟩:=hP1;subst hv1;refine Q0 4 E (In Qc.fl 1 6 E E E ?_);refine Cut h (fun f l o_ f_ μ_ l_=> ∃(v1:Bool),v1=o_∧Qi ((17,.bool v1)::[]) f_∧Qd (YJ [some 1,some 2,some 3,some 5,some 4] 6 l) l_∧μ=μ_) ?_ ?_
 ·intro _ h1244 h;refine Dr _ QP.refl [(true,0),(true,1),(true,2),(true,3),(true,4),(true,5),(true,6),(true,7),(true,8),(true,9),(true,10),(true,11),(true,12)] (by kernel_rfl) (G1 4 [0] E ?_);refine Br h1244 8 E E (fun hc1 h1244=> ?_) (fun hc1 h1244=> ?_)
  ·refine G2 10 [8] [] [] E ?_;cases h1244;exact Ce E ⟨_,rfl,fE E,sE [some 1,some 2,some 3,some 5,some 4] 6 E,rfl⟩
  refine G2 10 [] [8] [0,1] E ?_;cases h1244;exact Ce E ⟨_,rfl,fE E,sE [some 1,some 2,some 3,some 5,some 4] 6 E,rfl⟩
 rintro _ _ _ _ h _ ⟨v1,rfl,hF1244,hS1244,rfl⟩;refine Atn 5 hF1244 hS1244 E E ?_;refine Br h 17 E E (fun hc2 h=> ?_) (fun hc2 h=> ?_)
 ·refine G2 5 [17] [] [] E ?_;cases h;exact Rt [] E E (Ug [[0,1,2,4,3]] 5 hR)
 refine G2 6 [] [17] [] E ?_;cases h;exact Rt [] E E (Ug [[0,1,2,4,3]] 5 hR)
theorem Qad  {x1:Qb} {grams1:Int}  {res1:Bool}
   (h:Z7 x1 grams1=some res1)
  (hR:R (.bool res1) μ (L)) :
  Fn Try.prog 61 [.agg #[.string x1.Code,.int .i64 x1.Producer,.int .i64 x1.Deposit,.int .i64 x1.Material,.int .i64 x1.Grams],.int .i64 grams1] μ (L) R:=by
 unfold Z7 at h;refine FnS Try.func61 (by kernel_rfl) E Try.ntmps61 E E ?_;refine G0 2 E (Al E fun _=>Q0 4 E ?_);refine Cut h (fun f l o_ f_ μ_ l_=> ∃(v1:Bool),v1=o_∧Qi ((11,.bool v1)::Qo [1,2] f) f_∧Qd l l_∧μ=μ_) ?_ ?_
 ·intro _ h1263 h;refine G1 5 [0] E ?_;refine Br h1263 8 E E (fun hc1 h1263=> ?_) (fun hc1 h1263=> ?_)
  ·refine G2 4 [8] [] [] E ?_;cases h1263;exact Ce E ⟨_,rfl,fE E,sE [some 0] 1 E,rfl⟩
  refine G2 4 [] [8] [] E ?_;cases h1263;exact Ce E ⟨_,rfl,fE E,sE [some 0] 1 E,rfl⟩
 rintro _ _ _ _ h _ ⟨v1,rfl,hF1263,hS1263,rfl⟩;refine Atn 1 hF1263 hS1263 E E ?_;refine Br h 11 E E (fun hc2 h=> ?_) (fun hc2 h=> ?_)
 ·refine G2 5 [11] [] [] E ?_;cases h;exact Rt [] E E (Ug [] 1 hR)
 refine G2 19 [] [11] [0,0,0,0] E ?_;cases h;exact Rt [] E E (Ug [] 1 hR)
theorem Wv  {m1:Qa} {x1:Qw} {pv1:Value} {so1:Seg} {res1:Int}
  (hP1:Qc μ pv1 m1 so1) (h:YG m1 x1=some res1)
  (hR:R (.int .i64 res1) μ (so1::L)) :
  Fn Try.prog 39 [pv1,.agg #[.int .i64 x1.Serial,.int .i64 x1.Product,.int .i64 x1.Grams,.int .i64 x1.At]] μ (so1::L) R:=by
 unfold YG at h;refine FnS Try.func39 (by kernel_rfl) E Try.ntmps39 E E ?_;refine G0 2 E (Al E fun g1=> ?_);obtain ⟨g2,A1,c1,ch1,g3,es1,cn1,so2,A2,c2,ch2,hv1,rfl,hO1,_,_⟩:=hP1;subst hv1;refine Q0 4 E (In Qc.fl 1 6 E E E (Dr _ QP.refl [(true,0),(true,1),(true,2),(true,3),(true,4),(true,5),(true,6),(true,7),(true,8),(true,9),(false,10),(true,11)] (by kernel_rfl) (G1 6 [1,0] E (Ix h (Own.rds (L:=([(g1,.cells #[.int .i64 x1.Serial,.int .i64 x1.Product,.int .i64 x1.Grams,.int .i64 x1.At] 52 (0,0))]::[(g2,.cells #[.int .i64 m1.id,.int .i64 m1.skew,.slice A1 m1.products.length c1,.map (some g3),.slice A2 m1.log.length c2,.int .i64 m1.total] 88 (0,0))]::ch1::[(g3,.map es1 cn1)]::ch2::so2::L)) hO1 2 E) E E fun _ _ _ _ hr1 hc1 _ h=> ?_))));obtain rfl:=hr1;refine Q3 3 [] [] [64,0] (Z1 hc1) E (Cl E ?_);obtain ⟨_,hx2,h⟩:=Qj h;refine Qad  hx2 (?_);refine ⟨QP.refl,?_⟩;refine Q0 2 E ?_;refine Br h 16 E E (fun hc2 h=> ?_) (fun hc2 h=> ?_)
 ·refine G2 5 [16] [] [] E ?_;cases h;exact Rt [] E E (Ug [[1,2,3,4,5]] 6 hR)
 refine G2 6 [] [16] [] E ?_;cases h;exact Rt [] E E (Ug [[1,2,3,4,5]] 6 hR)
theorem Wa  {c1:Qz} {b1:Qw} {g1:Nat} {res1:Bool}
   (h:Y4 c1 b1=some res1)
  (hR:R (.bool res1) μ ([(g1,.cells #[.int .i64 b1.Serial,.int .i64 b1.Product,.int .i64 b1.Grams,.int .i64 b1.At] 52 (0,0))]::L)) :
  Fn Try.prog 63 [.agg #[.int .i64 c1.Serial,.int .i64 c1.Machine,.int .i64 c1.Seq,.int .i64 c1.At,.bool c1.Paid],.pointer (some ⟨g1,0,none⟩)] μ ([(g1,.cells #[.int .i64 b1.Serial,.int .i64 b1.Product,.int .i64 b1.Grams,.int .i64 b1.At] 52 (0,0))]::L) R:=by
 unfold Y4 at h;refine FnS Try.func63 (by kernel_rfl) E Try.ntmps63 E E ?_;refine G0 2 E (Al E fun _=>Q1 11 [0,1] E ?_);cases h;exact Rt [] E E (Ug [[1]] 2 hR)
theorem Jv  {s1:(List Qz)} {b1:Qw} {A1:Option Addr} {c1:Nat} {g1:Nat} {res1:Int}
  (hl1:s1.length≤c1∧c1≤maxLen) (hA1:Rds Y3 μ L A1 s1) (h:Yr s1 b1=some res1)
  (hR:R (.int .i64 res1) μ ([(g1,.cells #[.int .i64 b1.Serial,.int .i64 b1.Product,.int .i64 b1.Grams,.int .i64 b1.At] 52 (0,0))]::L)) :
  Fn Try.prog 81 [.slice A1 s1.length c1,.func (.func 63) #[] #[.pointer (some ⟨g1,0,none⟩)]] μ ([(g1,.cells #[.int .i64 b1.Serial,.int .i64 b1.Product,.int .i64 b1.Grams,.int .i64 b1.At] 52 (0,0))]::L) R:=by
 unfold Yr at h;refine FnS Try.func81 (by kernel_rfl) E Try.ntmps81 E E ?_;refine G0 11 E ?_;refine Cut h (fun f l o_ f_ μ_ l_=>(.inl ())=o_∧Qi ([]) f_∧Qd l l_∧μ=μ_) ?_ ?_
 ·intro _ h1293 h;refine Lp h1293 (fun f l (v1:Int) f_ μ_ l_=>Qi ((8,.int .i64 v1)::Qo [0,1,7] f) f_∧Qd l l_∧μ=μ_) ⟨fE E,sE [some 0] 1 E,E⟩ ?_;rintro v1 _ _ _ _ _ ⟨hF1301,hS1301,rfl⟩ hb1301 hq1301;unfold QI at hb1301;refine Atn 1 hF1301 hS1301 E E (G0 5 E ?_);refine Br hb1301 9 E E (fun hc1 hb1301=> ?_) (fun hc1 hb1301=> ?_)
  ·refine G2 14 [9] [] [] E (Ix hb1301 hA1 E E fun _ _ _ _ hr1 hc2 _ hb1301=> ?_);obtain rfl:=hr1;refine Q3 1 [] [] [64] (Z1 (hc2.push)) E (Cl E ?_);obtain ⟨_,hx2,hb1301⟩:=Qj hb1301;refine Wa  hx2 ((Q0 1 E ?_));refine Br hb1301 16 E E (fun hc3 hb1301=> ?_) (fun hc3 hb1301=> ?_)
   ·refine G2 6 [16] [] [] E ?_;cases hb1301;have hq_:=hq1301 _ E;subst hq_;replace h:=QD h;cases h;exact Rt [] E E (Ug [[0]] 1 hR)
   refine G2 7 [] [16] [] E ?_;cases hb1301;exact Ce E ⟨_,rfl,fE E,sE [some 0] 1 E,rfl⟩
  refine G2 2 [] [9] [] E ?_;cases hb1301;have hq_:=hq1301 _ E;subst hq_;exact Ce E ⟨rfl,fE E,sE [some 0] 1 E,rfl⟩
 rintro _ _ _ _ h _ ⟨rfl,hF1293,hS1293,rfl⟩;replace h:=YQ h;refine Atn 1 hF1293 hS1293 E E (G0 4 E ?_);cases h;exact Rt [] E E (Ug [[0]] 1 hR)
theorem Jd  {s1:(List Qz)} {b1:Qw} {A1:Option Addr} {c1:Nat} {g1:Nat} {res1:Bool}
  (hl1:s1.length≤c1∧c1≤maxLen) (hA1:Rds Y3 μ L A1 s1) (h:Yc s1 b1=some res1)
  (hR:R (.bool res1) μ ([(g1,.cells #[.int .i64 b1.Serial,.int .i64 b1.Product,.int .i64 b1.Grams,.int .i64 b1.At] 52 (0,0))]::L)) :
  Fn Try.prog 62 [.slice A1 s1.length c1,.func (.func 63) #[] #[.pointer (some ⟨g1,0,none⟩)]] μ ([(g1,.cells #[.int .i64 b1.Serial,.int .i64 b1.Product,.int .i64 b1.Grams,.int .i64 b1.At] 52 (0,0))]::L) R:=by
 unfold Yc at h;refine FnS Try.func62 (by kernel_rfl) E Try.ntmps62 E E ?_;refine G0 8 E (Cl E ?_);obtain ⟨_,hx1,h⟩:=Qj h;refine Jv hl1 hA1 hx1 ((Q0 3 E ?_));cases h;exact Rt [] E E (Ug [[0]] 1 hR)
theorem WC  {m1:Qa} {x1:Qw} {pv1:Value} {so1:Seg} {res1:Int}
  (hP1:Qc μ pv1 m1 so1) (h:Yv m1 x1=some res1)
  (hR:R (.int .i64 res1) μ (so1::L)) :
  Fn Try.prog 40 [pv1,.agg #[.int .i64 x1.Serial,.int .i64 x1.Product,.int .i64 x1.Grams,.int .i64 x1.At]] μ (so1::L) R:=by
 unfold Yv at h;refine FnS Try.func40 (by kernel_rfl) E Try.ntmps40 E E ?_;refine G0 2 E (Al E fun _=> ?_);obtain ⟨_,_,_,_,_,_,_,_,_,_,_,hv1,rfl,_,_,hO2⟩:=hP1;subst hv1;refine Q0 4 E (In Qc.fl 1 6 E E E (G1 6 [1] E (Cl E ?_)));obtain ⟨_,hx1,h⟩:=Qj h;refine Jd (Own.lenOk hO2) (Own.rds hO2 3 E) hx1 ((Q0 1 E ?_));refine Br h 10 E E (fun hc1 h=> ?_) (fun hc1 h=> ?_)
 ·refine G2 5 [10] [] [] E ?_;cases h;exact Rt [] E E (Ug [[1,2,3,4,5]] 6 hR)
 refine G2 6 [] [10] [] E ?_;cases h;exact Rt [] E E (Ug [[1,2,3,4,5]] 6 hR)
theorem V8  {w1:QJ}  {res1:Bool}
   (h:Z4 w1=some res1)
  (hR:R (.bool res1) μ (L)) :
  Fn Try.prog 82 [.agg #[.int .i64 w1.From,.int .i64 w1.To]] μ (L) R:=by
 unfold Z4 at h;refine FnS Try.func82 (by kernel_rfl) E Try.ntmps82 E E ?_;refine G0 2 E (Al E fun _=>Q0 3 E ?_);refine Cut h (fun f l o_ f_ μ_ l_=> ∃(v1:Bool),v1=o_∧Qi ((2,.bool v1)::[]) f_∧Qd (YJ [] 1 l) l_∧μ=μ_) ?_ ?_
 ·intro _ h1382 h;refine G1 5 [0] E ?_;refine Br h1382 6 E E (fun hc1 h1382=> ?_) (fun hc1 h1382=> ?_)
  ·refine G2 7 [6] [] [0,0] E ?_;refine Br h1382 13 E E (fun hc2 h1382=> ?_) (fun hc2 h1382=> ?_)
   ·refine G2 6 [13] [] [0] E ?_;cases h1382;exact Ce E ⟨_,rfl,fE E,sE [] 1 E,rfl⟩
   refine G2 6 [] [13] [] E ?_;cases h1382;exact Ce E ⟨_,rfl,fE E,sE [] 1 E,rfl⟩
  refine G2 13 [] [6,13] [] E ?_;cases h1382;exact Ce E ⟨_,rfl,fE E,sE [] 1 E,rfl⟩
 rintro _ _ _ _ h _ ⟨v1,rfl,hF1382,hS1382,rfl⟩;refine Atn 0 hF1382 hS1382 E E ?_;cases h;exact Rt [] E E (Ug [] 0 hR)
theorem QbY  {l1:Qh} {skew1:Int} {f_local1:Int} {A1:Option Addr} {c1:Nat} {res1:Bool}
  (hl1:l1.Open.length≤c1∧c1≤maxLen) (hA1:Zc Zd μ A1 l1.Open) (h:J2 l1 skew1 f_local1=some res1)
  (hR:R (.bool res1) μ (L)) :
  Fn Try.prog 64 [.agg #[.int .i64 l1.Block,.int .i64 l1.Machine,.int .i64 l1.Epoch,.int .i64 l1.When.From,.int .i64 l1.When.To,.slice A1 l1.Open.length c1],.int .i64 skew1,.int .i64 f_local1] μ (L) R:=by
 unfold J2 at h;refine FnS Try.func64 (by kernel_rfl) E Try.ntmps64 E E ?_;refine G0 2 E (Al E fun _=>Q0 3 E ?_);refine Cut h (fun f l o_ f_ μ_ l_=> ∃(v1:Bool),v1=o_∧Qi ((6,.bool v1)::[]) f_∧Qd (YJ [] 1 l) l_∧μ=μ_) ?_ ?_
 ·intro _ h1380 h;refine G0 2 E (Cl E ?_);obtain ⟨_,hx1,h1380⟩:=Qj h1380;refine ZP  hx1 ((Q0 1 E ?_));refine Br h1380 9 E E (fun hc1 h1380=> ?_) (fun hc1 h1380=> ?_)
  ·refine G2 2 [9] [] [0] E (Cl E ?_);obtain ⟨_,hx2,h1380⟩:=Qj h1380;refine V8  hx2 ((Q2 2 [9] [] [] E ?_));refine Br h1380 14 E E (fun hc2 h1380=> ?_) (fun hc2 h1380=> ?_)
   ·refine G2 1 [14] [] [] E (Cl E ?_);obtain ⟨_,hx3,h1380⟩:=Qj h1380;refine ZP  hx3 ((Q2 2 [14] [] [] E ?_));refine Br h1380 18 E E (fun hc3 h1380=> ?_) (fun hc3 h1380=> ?_)
    ·refine G2 9 [18] [] [0] E ?_;refine Br h1380 27 E E (fun hc4 h1380=> ?_) (fun hc4 h1380=> ?_)
     ·refine G2 10 [27] [] [0] E ?_;cases h1380;exact Ce E ⟨_,rfl,fE E,sE [] 1 E,rfl⟩
     refine G2 10 [] [27] [] E ?_;cases h1380;exact Ce E ⟨_,rfl,fE E,sE [] 1 E,rfl⟩
    refine G2 19 [] [18,27] [] E ?_;cases h1380;exact Ce E ⟨_,rfl,fE E,sE [] 1 E,rfl⟩
   refine G2 23 [] [14,18,27] [] E ?_;cases h1380;exact Ce E ⟨_,rfl,fE E,sE [] 1 E,rfl⟩
  refine G2 28 [] [9,14,18,27] [] E ?_;cases h1380;exact Ce E ⟨_,rfl,fE E,sE [] 1 E,rfl⟩
 rintro _ _ _ _ h _ ⟨v1,rfl,hF1380,hS1380,rfl⟩;refine Atn 0 hF1380 hS1380 E E ?_;cases h;exact Rt [] E E (Ug [] 0 hR)
theorem Zh  {m1:Qa} {x1:Qw} {pv1:Value} {so1:Seg} {res1:Qp} {res2:Int} {res3:Qa}
  (hP1:Qc μ pv1 m1 so1) (h:QN m1 x1=some (res1,res2,res3))
  (hR: ∀(sp0:Seg),Qc μ pv1 res3 sp0→R (.tuple #[.agg #[.int .i64 res1.Kind,.int .i64 res1.Amount,.int .i64 res1.Err],.int .i64 res2]) μ (sp0::L)) :
  Fn Try.prog 12 [pv1,.agg #[.int .i64 x1.Serial,.int .i64 x1.Product,.int .i64 x1.Grams,.int .i64 x1.At]] μ (so1::L) R:=by
 unfold QN at h;refine FnS Try.func12 (by kernel_rfl) E Try.ntmps12 E E ?_;refine G0 2 E (Al E fun g1=>Q0 0 E (Al E fun g2=> ?_));obtain ⟨g3,A1,c1,ch1,g4,es1,cn1,so2,A2,c2,ch2,hv1,rfl,hO1,hM1,hO2⟩:=hP1;subst hv1;refine Q0 4 E (In Qc.fl 2 7 E E E (G2 13 [] [10] [1] E ?_));refine Br h 15 E E (fun hc1 h=> ?_) (fun hc1 h=> ?_)
 ·refine G2 32 [15,20,25,30,35,39] [] [0] E ?_;cases h;exact Rt [0] E E (Ug [[2,3,4,5,6]] 7 (hR _ ⟨g3,A1,c1,ch1,g4,es1,cn1,so2,A2,c2,ch2,rfl,rfl,hO1,hM1,hO2⟩))
 refine G2 5 [] [15] [1] E ?_;refine Br h 20 E E (fun hc2 h=> ?_) (fun hc2 h=> ?_)
 ·refine G2 27 [20,25,30,35,39] [] [0] E ?_;cases h;exact Rt [0] E E (Ug [[2,3,4,5,6]] 7 (hR _ ⟨g3,A1,c1,ch1,g4,es1,cn1,so2,A2,c2,ch2,rfl,rfl,hO1,hM1,hO2⟩))
 refine G2 5 [] [20] [1] E ?_;refine Br h 25 E E (fun hc3 h=> ?_) (fun hc3 h=> ?_)
 ·refine G2 22 [25,30,35,39] [] [0] E ?_;cases h;exact Rt [0] E E (Ug [[2,3,4,5,6]] 7 (hR _ ⟨g3,A1,c1,ch1,g4,es1,cn1,so2,A2,c2,ch2,rfl,rfl,hO1,hM1,hO2⟩))
 refine G2 5 [] [25] [1] E ?_;refine Br h 30 E E (fun hc4 h=> ?_) (fun hc4 h=> ?_)
 ·refine G2 17 [30,35,39] [] [0] E ?_;cases h;exact Rt [0] E E (Ug [[2,3,4,5,6]] 7 (hR _ ⟨g3,A1,c1,ch1,g4,es1,cn1,so2,A2,c2,ch2,rfl,rfl,hO1,hM1,hO2⟩))
 refine G2 5 [] [30] [1] E ?_;refine Br h 35 E E (fun hc5 h=> ?_) (fun hc5 h=> ?_)
 ·refine G2 12 [35,39] [] [0] E ?_;cases h;exact Rt [0] E E (Ug [[2,3,4,5,6]] 7 (hR _ ⟨g3,A1,c1,ch1,g4,es1,cn1,so2,A2,c2,ch2,rfl,rfl,hO1,hM1,hO2⟩))
 refine G2 5 [] [35] [1] E ?_;refine Br h 39 E E (fun hc6 h=> ?_) (fun hc6 h=> ?_)
 ·refine G2 7 [39] [] [0] E ?_;cases h;exact Rt [0] E E (Ug [[2,3,4,5,6]] 7 (hR _ ⟨g3,A1,c1,ch1,g4,es1,cn1,so2,A2,c2,ch2,rfl,rfl,hO1,hM1,hO2⟩))
 refine G2 12 [] [39] [1] E (Cl E (FnS Try.func37 (by kernel_rfl) E Try.ntmps37 E E (G0 2 E (Al E fun g5=>Q1 7 [0] E (Cl E ?_)))));have hP2:Qc μ (.pointer (some ⟨g3,0,none⟩)) m1 _:=⟨g3,A1,c1,ch1,g4,es1,cn1,so2,A2,c2,ch2,rfl,rfl,hO1,hM1,hO2⟩
 refine Fn.gp (L2:=(((g3,Obj.cells #[.int .i64 m1.id,.int .i64 m1.skew,.slice A1 m1.products.length c1,.map (some g4),.slice A2 m1.log.length c2,.int .i64 m1.total] 88 (0,0))::(ch1++((g4,Obj.map es1 cn1)::(ch2++so2))))::[(g5,.cells #[.int .i64 x1.Serial,.int .i64 x1.Product,.int .i64 x1.Grams,.int .i64 x1.At] 52 (0,0))]::[(g2,.cells #[.int .i64 0,.int .i64 0,.int .i64 0] 48 (0,0))]::[(g1,.cells #[.int .i64 x1.Serial,.int .i64 x1.Product,.int .i64 x1.Grams,.int .i64 x1.At] 52 (0,0))]::L)) [[3,4,5,6,7],[0],[1],[2]] 8 4 (by kernel_rfl) ?_;obtain ⟨_,hx1,h⟩:=Qj h;refine WD hP2 hx1 ((Q0 7 E ?_));refine Br h 15 E E (fun hc7 h=> ?_) (fun hc7 h=> ?_)
 ·refine G2 6 [15] [] [] E (Rt [] E E (Upd.done (Q0 7 E (Kn hc7 50 E E (G2 8 [50] [] [2] E ?_)))));cases h;exact Rt [2] E E (Ug [[0]] 4 (hR _ hP2))
 refine G2 7 [] [15] [1] E (Cl E ?_);obtain ⟨_,hx2,h⟩:=Qj h;refine Wv hP2 hx2 ((Q0 7 E ?_));refine Br h 21 E E (fun hc8 h=> ?_) (fun hc8 h=> ?_)
 ·refine G2 6 [21] [] [] E (Rt [] E E (Upd.done (Q0 7 E (Kn hc8 50 E E (G2 8 [50] [] [2] E ?_)))));cases h;exact Rt [2] E E (Ug [[0]] 4 (hR _ hP2))
 refine G2 6 [] [21] [1] E (Cl E ?_);obtain ⟨_,hx3,h⟩:=Qj h;refine WC hP2 hx3 ((Q0 2 E (Rt [] E E (Upd.done (Q0 7 E ?_)))));refine Br h 50 E E (fun hc9 h=> ?_) (fun hc9 h=> ?_)
 ·refine G2 8 [50] [] [2] E ?_;cases h;exact Rt [2] E E (Ug [[0]] 4 (hR _ hP2))
 refine G2 6 [] [50] [3] E (Cl E (FnS Try.func41 (by kernel_rfl) E Try.ntmps41 E E (G0 2 E (Al E fun g6=> ?_))));obtain ⟨_,A3,c3,ch3,g8,es2,cn2,so3,A4,c4,ch4,hv2,hs1,hO3,hM2,hO4⟩:=hP2;replace hv2:=Qai hv2;subst hv2;refine Q0 3 E (In (Qc.fl.trans hs1.symm) 1 9 E E E (Dr _ QP.refl [(true,0),(true,1),(true,2),(true,3),(true,4),(true,5),(false,6),(true,7),(true,8)] (by kernel_rfl) (G1 6 [1,0] E (Cl E ?_))));obtain ⟨_,hx4,h⟩:=Qj h;refine Wz  hx4 (?_);refine ⟨QP.refl,?_⟩;refine Q0 0 E ?_;refine QeD h (fun hc10 h=> ?_) (fun hc10 h=> ?_)
 ·obtain ⟨x2,hx5,h⟩:=Qj h;obtain ⟨g9,hl1⟩:=Zj.look hM2 hx5;refine Rdo E E ?_;obtain ⟨_,hx6⟩:=LkP.look (L:=([(g6,.cells #[.int .i64 x1.Serial,.int .i64 x1.Product,.int .i64 x1.Grams,.int .i64 x1.At] 52 (0,0))]::[(g3,.cells #[.int .i64 m1.id,.int .i64 m1.skew,.slice A3 m1.products.length c3,.map (some g8),.slice A4 m1.log.length c4,.int .i64 m1.total] 88 (0,0))]::ch3::[(g8,.map es2 cn2)]::ch4::so3::[(g5,.cells #[.int .i64 x1.Serial,.int .i64 x1.Product,.int .i64 x1.Grams,.int .i64 x1.At] 52 (0,0))]::[(g2,.cells #[.int .i64 0,.int .i64 0,.int .i64 0] 48 (0,0))]::[(g1,.cells #[.int .i64 x1.Serial,.int .i64 x1.Product,.int .i64 x1.Grams,.int .i64 x1.At] 52 (0,0))]::L)) (g:=g8) hl1 (YV.seg 3 0 rfl rfl);refine Vb E E E E E E E E (Ex.mk _ hx6 (Q0 4 E ?_));obtain ⟨_,so4,hp1,hP3,hM3⟩:=Zj.take hM2 hx5 hl1;refine InP hp1 5 10 E E E ?_;obtain ⟨_,A5,c5,A6,c6,ch6,hv3,rfl,⟨hl2,hA1⟩,hO5⟩:=hP3;replace hv3:=Qai hv3;subst hv3;refine In Yo.fl 5 11 E E E (Dr _ QP.refl [(true,0),(true,1),(true,2),(true,3),(true,4),(true,5),(true,6),(true,7),(true,8),(true,9),(true,10),(true,11),(true,12),(false,13),(true,14),(true,15)] (by kernel_rfl) (G2 13 [] [16] [5,1,0] E (Cl E ?_)));obtain ⟨_,hx8,h⟩:=Qj h;refine QbY hl2 hA1 hx8 (?_);refine ⟨QP.refl,?_⟩;refine Q2 3 [] [16] [] E ?_;refine Br h 29 E E (fun hc11 h=> ?_) (fun hc11 h=> ?_)
  ·refine G2 5 [29] [] [] E (Rt [] E E (Upd.done (Q0 4 E (Dr _ QP.refl [(true,0),(true,1),(true,2),(true,3),(true,4),(true,5),(true,6),(true,7),(true,8),(true,9),(false,10),(true,11),(true,12)] (by kernel_rfl) (G2 26 [] [58,68] [1] E ?_)))));refine Br h 75 E E (fun hc12 h=> ?_) (fun hc12 h=> ?_)
   ·refine G2 7 [75] [] [9] E (Rt [9] E E (UgK (L2:=(([(g3,.cells #[.int .i64 m1.id,.int .i64 m1.skew,.slice A3 m1.products.length c3,.map (some g8),.slice A4 m1.log.length c4,.int .i64 m1.total] 88 (0,0))]++(ch3++([(g8,.map es2 cn2)]++(ch4++(so4++([(g9,.cells #[.int .i64 x2.lease.Block,.int .i64 x2.lease.Machine,.int .i64 x2.lease.Epoch,.int .i64 x2.lease.When.From,.int .i64 x2.lease.When.To,.slice A5 x2.lease.Open.length c5,.slice A6 x2.paid.length c6] 99 (0,0))]++(ch6)))))))::L)) [[1,2,3,4,7,5,6]] 11 (by kernel_rfl) ?_));cases h;exact ((hR _ ⟨g3,A3,c3,ch3,g8,es2,cn2,(so4++((g9,Obj.cells #[.int .i64 x2.lease.Block,.int .i64 x2.lease.Machine,.int .i64 x2.lease.Epoch,.int .i64 x2.lease.When.From,.int .i64 x2.lease.When.To,.slice A5 x2.lease.Open.length c5,.slice A6 x2.paid.length c6] 99 (0,0))::ch6)),A4,c4,ch4,rfl,rfl,hO3,(Zj.back0 hM3 hl1 ⟨g9,A5,c5,A6,c6,ch6,rfl,rfl,⟨hl2,hA1⟩,hO5⟩ hx5),hO4⟩))
   refine G2 3 [] [75] [] E (Cd (WP.drawB (id:=13) (l':=List.replicate 25 true++[false]) QcR QB ([(g6,.cells #[.int .i64 x1.Serial,.int .i64 x1.Product,.int .i64 x1.Grams,.int .i64 x1.At] 52 (0,0))]::[(g3,.cells #[.int .i64 m1.id,.int .i64 m1.skew,.slice A3 m1.products.length c3,.map (some g8),.slice A4 m1.log.length c4,.int .i64 m1.total] 88 (0,0))]::ch3::[(g8,.map es2 cn2)]::[(g9,.cells #[.int .i64 x2.lease.Block,.int .i64 x2.lease.Machine,.int .i64 x2.lease.Epoch,.int .i64 x2.lease.When.From,.int .i64 x2.lease.When.To,.slice A5 x2.lease.Open.length c5,.slice A6 x2.paid.length c6] 99 (0,0))]::ch6::so4::[(g5,.cells #[.int .i64 x1.Serial,.int .i64 x1.Product,.int .i64 x1.Grams,.int .i64 x1.At] 52 (0,0))]::[(g2,.cells #[.int .i64 0,.int .i64 0,.int .i64 0] 48 (0,0))]::[(g1,.cells #[.int .i64 x1.Serial,.int .i64 x1.Product,.int .i64 x1.Grams,.int .i64 x1.At] 52 (0,0))]::L) (Kp [0,1,2,3,5,6,7,8,9,10] 11 E) 25 [] [(true,0),(true,1),(true,2),(true,3),(true,4),(true,5),(true,6),(true,7),(true,8),(true,9),(true,10),(true,11),(true,12),(true,13),(true,14),(true,15),(true,16),(true,17),(true,18),(true,19),(true,20),(false,21),(false,22),(true,23),(true,24)] (by kernel_rfl) (by kernel_rfl) [] E (by kernel_rfl) (by kernel_rfl) ?_));refine Vq E (QK E (Pt E E (QK E (Pt E E (YY E (Pt E E (Y9 (o':=4) E E E E E E (Pt E E (YX E E E (Ex.mk _ (Y7.seg 1 0 E E E) (Pt E E (Y9 (o':=0) E E E E E E ?_))))))))))));refine Pt E E (YX E E E (Ex.mk _ (Y7.seg 9 0 E E E) (Pt E E (QK E (Pt E E (YY E (Pt E E (Y9 (o':=0) E E E E E E (Pt E E (YX E E E (Ex.mk _ (Y7.seg 1 0 E E E) (QR E ?_))))))))))));refine Vq E (QK E (Pt E E (YY E (Pt E E (Y9 (o':=4) E E E E E E (Pt E E (YX E E E (Ex.mk _ (Y7.seg 1 0 E E E) (Pt E E (QbP E E E (Pt E E (Y9 (o':=3) E E E E E E ?_))))))))))));refine Pt E E (YX E E E (Ex.mk _ (Y7.seg 9 0 E E E) (Pt E E (QK E (Pt E E (QcV E E E E (Pt E E (Wf E E E E (Qv (cells':=[.int .i64 x1.Serial,.int .i64 0,.int .i64 0,.int .i64 0,.bool false]) E E E E (Qv (cells':=[.int .i64 x1.Serial,.int .i64 m1.id,.int .i64 0,.int .i64 0,.bool false]) E E E E (Qv (cells':=[.int .i64 x1.Serial,.int .i64 m1.id,.int .i64 ((m1.log.length:Nat):Int),.int .i64 0,.bool false]) E E E E (Qv (cells':=[.int .i64 x1.Serial,.int .i64 m1.id,.int .i64 ((m1.log.length:Nat):Int),.int .i64 x1.At,.bool false]) E E E E (Qv (cells':=[.int .i64 x1.Serial,.int .i64 m1.id,.int .i64 ((m1.log.length:Nat):Int),.int .i64 x1.At,.bool false]) E E E E ?_)))))))))))));refine Zi (QR E (Vp E (Jf (z:=[.int .i64 0,.int .i64 0,.int .i64 0,.int .i64 0,.bool false]) E E E E E E E (Qv (cells':=[.int .i64 x1.Serial,.int .i64 m1.id,.int .i64 ((m1.log.length:Nat):Int),.int .i64 x1.At,.bool false]) E E E E (Zi (fun g11=> ?_))))));refine ⟨Kp [1,2,3,4,6,7,8,9,10,11] 12 E,?_⟩;refine QR E (Vp E (YL E ?_));obtain ⟨l1,hz1,h⟩:=Qj h;refine Jc (r:=Y3) QB E E E E (by decide) E E 5 E hO4 E (Own.rds (Own.lit (r:=Y3) (e:=105) (g:=g11) (xs:=[(Qz.mk x1.Serial m1.id ((m1.log.length:Nat):Int) x1.At false)]) (cs:=[.int .i64 x1.Serial,.int .i64 m1.id,.int .i64 ((m1.log.length:Nat):Int),.int .i64 x1.At,.bool false]) (css:=[[.int .i64 x1.Serial,.int .i64 m1.id,.int .i64 ((m1.log.length:Nat):Int),.int .i64 x1.At,.bool false]]) E (QY.cons (E) (QY.nil)) E E) 0 E) hz1 fun A7 c7 ch7 hO6=> ?_;refine ⟨Kp [1,2,3,4,6,7,8,9,10,11] 12 E,?_⟩
   refine Pt E E (YY E (Pt E E (Y9 (o':=4) E E E E E E (QR E (We (Qbx E (Jm (vs:=[.slice A7 l1.length c7]) E E E E E E (ST_ (L':=([(g11,.cells #[.int .i64 x1.Serial,.int .i64 m1.id,.int .i64 ((m1.log.length:Nat):Int),.int .i64 x1.At,.bool false] 105 (0,0))]::[(g6,.cells #[.int .i64 x1.Serial,.int .i64 x1.Product,.int .i64 x1.Grams,.int .i64 x1.At] 52 (0,0))]::[(g3,.cells #[.int .i64 m1.id,.int .i64 m1.skew,.slice A3 m1.products.length c3,.map (some g8),.slice A7 l1.length c7,.int .i64 m1.total] 88 (0,0))]::ch3::[(g8,.map es2 cn2)]::ch7::[(g9,.cells #[.int .i64 x2.lease.Block,.int .i64 x2.lease.Machine,.int .i64 x2.lease.Epoch,.int .i64 x2.lease.When.From,.int .i64 x2.lease.When.To,.slice A5 x2.lease.Open.length c5,.slice A6 x2.paid.length c6] 99 (0,0))]::ch6::so4::[(g5,.cells #[.int .i64 x1.Serial,.int .i64 x1.Product,.int .i64 x1.Grams,.int .i64 x1.At] 52 (0,0))]::[(g2,.cells #[.int .i64 0,.int .i64 0,.int .i64 0] 48 (0,0))]::[(g1,.cells #[.int .i64 x1.Serial,.int .i64 x1.Product,.int .i64 x1.Grams,.int .i64 x1.At] 52 (0,0))]::L)) 2 0 E E E E ?_))))))));refine ZR (G2 13 [103] [] [10] E (Rt [10] E E (UgK (L2:=(([(g3,.cells #[.int .i64 m1.id,.int .i64 m1.skew,.slice A3 m1.products.length c3,.map (some g8),.slice A7 l1.length c7,.int .i64 m1.total] 88 (0,0))]++(ch3++([(g8,.map es2 cn2)]++(ch7++(so4++([(g9,.cells #[.int .i64 x2.lease.Block,.int .i64 x2.lease.Machine,.int .i64 x2.lease.Epoch,.int .i64 x2.lease.When.From,.int .i64 x2.lease.When.To,.slice A5 x2.lease.Open.length c5,.slice A6 x2.paid.length c6] 99 (0,0))]++(ch6)))))))::L)) [[2,3,4,5,8,6,7]] 12 (by kernel_rfl) ?_)));cases h;exact ((hR _ ⟨g3,A3,c3,ch3,g8,es2,cn2,(so4++((g9,Obj.cells #[.int .i64 x2.lease.Block,.int .i64 x2.lease.Machine,.int .i64 x2.lease.Epoch,.int .i64 x2.lease.When.From,.int .i64 x2.lease.When.To,.slice A5 x2.lease.Open.length c5,.slice A6 x2.paid.length c6] 99 (0,0))::ch6)),A7,c7,ch7,rfl,rfl,hO3,(Zj.back0 hM3 hl1 ⟨g9,A5,c5,A6,c6,ch6,rfl,rfl,⟨hl2,hA1⟩,hO5⟩ hx5),hO6⟩))
  refine G2 7 [] [29] [] E (Rt [] E E (Upd.done (Q0 4 E (Dr _ QP.refl [(true,0),(true,1),(true,2),(true,3),(true,4),(true,5),(true,6),(true,7),(true,8),(true,9),(false,10),(true,11),(true,12)] (by kernel_rfl) (G2 10 [58] [] [5,10] E (Cl E ?_))))));obtain ⟨_,hx9,h⟩:=Qj h;refine Zg hl2 (Zc.rds hA1 _) hx9 (?_);refine ⟨QP.refl,?_⟩;refine Q2 3 [58] [] [] E ?_;refine Br h 68 E E (fun hc13 h=> ?_) (fun hc13 h=> ?_)
  ·refine G2 7 [68] [] [9] E (Rt [9] E E (UgK (L2:=(([(g3,.cells #[.int .i64 m1.id,.int .i64 m1.skew,.slice A3 m1.products.length c3,.map (some g8),.slice A4 m1.log.length c4,.int .i64 m1.total] 88 (0,0))]++(ch3++([(g8,.map es2 cn2)]++(ch4++(so4++([(g9,.cells #[.int .i64 x2.lease.Block,.int .i64 x2.lease.Machine,.int .i64 x2.lease.Epoch,.int .i64 x2.lease.When.From,.int .i64 x2.lease.When.To,.slice A5 x2.lease.Open.length c5,.slice A6 x2.paid.length c6] 99 (0,0))]++(ch6)))))))::L)) [[1,2,3,4,7,5,6]] 11 (by kernel_rfl) ?_));cases h;exact ((hR _ ⟨g3,A3,c3,ch3,g8,es2,cn2,(so4++((g9,Obj.cells #[.int .i64 x2.lease.Block,.int .i64 x2.lease.Machine,.int .i64 x2.lease.Epoch,.int .i64 x2.lease.When.From,.int .i64 x2.lease.When.To,.slice A5 x2.lease.Open.length c5,.slice A6 x2.paid.length c6] 99 (0,0))::ch6)),A4,c4,ch4,rfl,rfl,hO3,(Zj.back0 hM3 hl1 ⟨g9,A5,c5,A6,c6,ch6,rfl,rfl,⟨hl2,hA1⟩,hO5⟩ hx5),hO4⟩))
  refine G2 12 [] [68] [1] E ?_;refine Br h 75 E E (fun hc14 h=> ?_) (fun hc14 h=> ?_)
  ·refine G2 7 [75] [] [9] E (Rt [9] E E (UgK (L2:=(([(g3,.cells #[.int .i64 m1.id,.int .i64 m1.skew,.slice A3 m1.products.length c3,.map (some g8),.slice A4 m1.log.length c4,.int .i64 m1.total] 88 (0,0))]++(ch3++([(g8,.map es2 cn2)]++(ch4++(so4++([(g9,.cells #[.int .i64 x2.lease.Block,.int .i64 x2.lease.Machine,.int .i64 x2.lease.Epoch,.int .i64 x2.lease.When.From,.int .i64 x2.lease.When.To,.slice A5 x2.lease.Open.length c5,.slice A6 x2.paid.length c6] 99 (0,0))]++(ch6)))))))::L)) [[1,2,3,4,7,5,6]] 11 (by kernel_rfl) ?_));cases h;exact ((hR _ ⟨g3,A3,c3,ch3,g8,es2,cn2,(so4++((g9,Obj.cells #[.int .i64 x2.lease.Block,.int .i64 x2.lease.Machine,.int .i64 x2.lease.Epoch,.int .i64 x2.lease.When.From,.int .i64 x2.lease.When.To,.slice A5 x2.lease.Open.length c5,.slice A6 x2.paid.length c6] 99 (0,0))::ch6)),A4,c4,ch4,rfl,rfl,hO3,(Zj.back0 hM3 hl1 ⟨g9,A5,c5,A6,c6,ch6,rfl,rfl,⟨hl2,hA1⟩,hO5⟩ hx5),hO4⟩))
  refine G2 3 [] [75] [] E (Cd (WP.drawB (id:=13) (l':=List.replicate 25 true++[false]) QcR QB ([(g6,.cells #[.int .i64 x1.Serial,.int .i64 x1.Product,.int .i64 x1.Grams,.int .i64 x1.At] 52 (0,0))]::[(g3,.cells #[.int .i64 m1.id,.int .i64 m1.skew,.slice A3 m1.products.length c3,.map (some g8),.slice A4 m1.log.length c4,.int .i64 m1.total] 88 (0,0))]::ch3::[(g8,.map es2 cn2)]::[(g9,.cells #[.int .i64 x2.lease.Block,.int .i64 x2.lease.Machine,.int .i64 x2.lease.Epoch,.int .i64 x2.lease.When.From,.int .i64 x2.lease.When.To,.slice A5 x2.lease.Open.length c5,.slice A6 x2.paid.length c6] 99 (0,0))]::ch6::so4::[(g5,.cells #[.int .i64 x1.Serial,.int .i64 x1.Product,.int .i64 x1.Grams,.int .i64 x1.At] 52 (0,0))]::[(g2,.cells #[.int .i64 0,.int .i64 0,.int .i64 0] 48 (0,0))]::[(g1,.cells #[.int .i64 x1.Serial,.int .i64 x1.Product,.int .i64 x1.Grams,.int .i64 x1.At] 52 (0,0))]::L) (Kp [0,1,2,3,5,6,7,8,9,10] 11 E) 25 [] [(true,0),(true,1),(true,2),(true,3),(true,4),(true,5),(true,6),(true,7),(true,8),(true,9),(true,10),(true,11),(true,12),(true,13),(true,14),(true,15),(true,16),(true,17),(true,18),(true,19),(true,20),(false,21),(false,22),(true,23),(true,24)] (by kernel_rfl) (by kernel_rfl) [] E (by kernel_rfl) (by kernel_rfl) ?_));refine Vq E (QK E (Pt E E (QK E (Pt E E (YY E (Pt E E (Y9 (o':=4) E E E E E E (Pt E E (YX E E E (Ex.mk _ (Y7.seg 1 0 E E E) (Pt E E (Y9 (o':=0) E E E E E E ?_))))))))))));refine Pt E E (YX E E E (Ex.mk _ (Y7.seg 9 0 E E E) (Pt E E (QK E (Pt E E (YY E (Pt E E (Y9 (o':=0) E E E E E E (Pt E E (YX E E E (Ex.mk _ (Y7.seg 1 0 E E E) (QR E ?_))))))))))));refine Vq E (QK E (Pt E E (YY E (Pt E E (Y9 (o':=4) E E E E E E (Pt E E (YX E E E (Ex.mk _ (Y7.seg 1 0 E E E) (Pt E E (QbP E E E (Pt E E (Y9 (o':=3) E E E E E E ?_))))))))))));refine Pt E E (YX E E E (Ex.mk _ (Y7.seg 9 0 E E E) (Pt E E (QK E (Pt E E (Qew E E E E (Pt E E (Wf E E E E (Qv (cells':=[.int .i64 x1.Serial,.int .i64 0,.int .i64 0,.int .i64 0,.bool false]) E E E E (Qv (cells':=[.int .i64 x1.Serial,.int .i64 m1.id,.int .i64 0,.int .i64 0,.bool false]) E E E E (Qv (cells':=[.int .i64 x1.Serial,.int .i64 m1.id,.int .i64 ((m1.log.length:Nat):Int),.int .i64 0,.bool false]) E E E E (Qv (cells':=[.int .i64 x1.Serial,.int .i64 m1.id,.int .i64 ((m1.log.length:Nat):Int),.int .i64 x1.At,.bool false]) E E E E (Qv (cells':=[.int .i64 x1.Serial,.int .i64 m1.id,.int .i64 ((m1.log.length:Nat):Int),.int .i64 x1.At,.bool true]) E E E E ?_)))))))))))));refine Zi (QR E (Vp E (Jf (z:=[.int .i64 0,.int .i64 0,.int .i64 0,.int .i64 0,.bool false]) E E E E E E E (Qv (cells':=[.int .i64 x1.Serial,.int .i64 m1.id,.int .i64 ((m1.log.length:Nat):Int),.int .i64 x1.At,.bool true]) E E E E (Zi (fun g12=> ?_))))));refine ⟨Kp [1,2,3,4,6,7,8,9,10,11] 12 E,?_⟩;refine QR E (Vp E (YL E ?_));obtain ⟨l2,hz2,h⟩:=Qj h;refine Jc (r:=Y3) QB E E E E (by decide) E E 5 E hO4 E (Own.rds (Own.lit (r:=Y3) (e:=105) (g:=g12) (xs:=[(Qz.mk x1.Serial m1.id ((m1.log.length:Nat):Int) x1.At true)]) (cs:=[.int .i64 x1.Serial,.int .i64 m1.id,.int .i64 ((m1.log.length:Nat):Int),.int .i64 x1.At,.bool true]) (css:=[[.int .i64 x1.Serial,.int .i64 m1.id,.int .i64 ((m1.log.length:Nat):Int),.int .i64 x1.At,.bool true]]) E (QY.cons (E) (QY.nil)) E E) 0 E) hz2 fun A8 c8 ch8 hO7=> ?_;refine ⟨Kp [1,2,3,4,6,7,8,9,10,11] 12 E,?_⟩
  refine Pt E E (YY E (Pt E E (Y9 (o':=4) E E E E E E (QR E (We (Qbx E (Jm (vs:=[.slice A8 l2.length c8]) E E E E E E (ST_ (L':=([(g12,.cells #[.int .i64 x1.Serial,.int .i64 m1.id,.int .i64 ((m1.log.length:Nat):Int),.int .i64 x1.At,.bool true] 105 (0,0))]::[(g6,.cells #[.int .i64 x1.Serial,.int .i64 x1.Product,.int .i64 x1.Grams,.int .i64 x1.At] 52 (0,0))]::[(g3,.cells #[.int .i64 m1.id,.int .i64 m1.skew,.slice A3 m1.products.length c3,.map (some g8),.slice A8 l2.length c8,.int .i64 m1.total] 88 (0,0))]::ch3::[(g8,.map es2 cn2)]::ch8::[(g9,.cells #[.int .i64 x2.lease.Block,.int .i64 x2.lease.Machine,.int .i64 x2.lease.Epoch,.int .i64 x2.lease.When.From,.int .i64 x2.lease.When.To,.slice A5 x2.lease.Open.length c5,.slice A6 x2.paid.length c6] 99 (0,0))]::ch6::so4::[(g5,.cells #[.int .i64 x1.Serial,.int .i64 x1.Product,.int .i64 x1.Grams,.int .i64 x1.At] 52 (0,0))]::[(g2,.cells #[.int .i64 0,.int .i64 0,.int .i64 0] 48 (0,0))]::[(g1,.cells #[.int .i64 x1.Serial,.int .i64 x1.Product,.int .i64 x1.Grams,.int .i64 x1.At] 52 (0,0))]::L)) 2 0 E E E E ?_))))))));refine ZR (G2 9 [] [103] [] E (Cd (WP.drawB (id:=16) (l':=List.replicate 11 true++[false]) QcR QB ([(g12,.cells #[.int .i64 x1.Serial,.int .i64 m1.id,.int .i64 ((m1.log.length:Nat):Int),.int .i64 x1.At,.bool true] 105 (0,0))]::[(g6,.cells #[.int .i64 x1.Serial,.int .i64 x1.Product,.int .i64 x1.Grams,.int .i64 x1.At] 52 (0,0))]::[(g3,.cells #[.int .i64 m1.id,.int .i64 m1.skew,.slice A3 m1.products.length c3,.map (some g8),.slice A8 l2.length c8,.int .i64 m1.total] 88 (0,0))]::ch3::[(g8,.map es2 cn2)]::ch8::[(g9,.cells #[.int .i64 x2.lease.Block,.int .i64 x2.lease.Machine,.int .i64 x2.lease.Epoch,.int .i64 x2.lease.When.From,.int .i64 x2.lease.When.To,.slice A5 x2.lease.Open.length c5,.slice A6 x2.paid.length c6] 99 (0,0))]::so4::[(g5,.cells #[.int .i64 x1.Serial,.int .i64 x1.Product,.int .i64 x1.Grams,.int .i64 x1.At] 52 (0,0))]::[(g2,.cells #[.int .i64 0,.int .i64 0,.int .i64 0] 48 (0,0))]::[(g1,.cells #[.int .i64 x1.Serial,.int .i64 x1.Product,.int .i64 x1.Grams,.int .i64 x1.At] 52 (0,0))]::L) (Kp [0,1,2,3,4,5,6,8,9,10,11] 12 E) 11 [] [(true,0),(true,1),(true,2),(true,3),(true,4),(true,5),(true,6),(false,7),(false,8),(true,9),(true,10)] (by kernel_rfl) (by kernel_rfl) [] E (by kernel_rfl) (by kernel_rfl) ?_)));refine Vq E (QK E (Pt E E (QK E (Pt E E (YY E (Pt E E (Y9 (o':=6) E E E E E E (Pt E E (YX E E E (Ex.mk _ (Y7.seg 6 0 E E E) (Pt E E (Y9 (o':=0) E E E E E E ?_))))))))))));refine Pt E E (YX E E E (Ex.mk _ (Y7.seg 10 0 E E E) (QR E (Vp E (Jf (z:=[.int .i64 0]) E E E E E E E (Qv (cells':=[.int .i64 x1.Serial]) E E E E (Zi (fun g13=> ?_))))))));refine ⟨Kp [1,2,3,4,5,6,7,9,10,11,12] 13 E,?_⟩;refine QR E (Vp E (YL E ?_));obtain ⟨l3,hz3,h⟩:=Qj h;refine Jc (r:=Zd) QB E E E E (by decide) E E 8 E hO5 E (Own.rds (Own.lit (r:=Zd) (e:=3) (g:=g13) (xs:=[x1.Serial]) (cs:=[.int .i64 x1.Serial]) (css:=[[.int .i64 x1.Serial]]) E (QY.cons (E) (QY.nil)) E E) 0 E) hz3 fun A9 c9 ch9 hO8=> ?_;refine ⟨Kp [1,2,3,4,5,6,7,9,10,11,12] 13 E,?_⟩
  refine Pt E E (YY E (Pt E E (Y9 (o':=6) E E E E E E (QR E (We (Qbx E (Jm (vs:=[.slice A9 l3.length c9]) E E E E E E (ST_ (L':=([(g13,.cells #[.int .i64 x1.Serial] 3 (0,0))]::[(g12,.cells #[.int .i64 x1.Serial,.int .i64 m1.id,.int .i64 ((m1.log.length:Nat):Int),.int .i64 x1.At,.bool true] 105 (0,0))]::[(g6,.cells #[.int .i64 x1.Serial,.int .i64 x1.Product,.int .i64 x1.Grams,.int .i64 x1.At] 52 (0,0))]::[(g3,.cells #[.int .i64 m1.id,.int .i64 m1.skew,.slice A3 m1.products.length c3,.map (some g8),.slice A8 l2.length c8,.int .i64 m1.total] 88 (0,0))]::ch3::[(g8,.map es2 cn2)]::ch8::[(g9,.cells #[.int .i64 x2.lease.Block,.int .i64 x2.lease.Machine,.int .i64 x2.lease.Epoch,.int .i64 x2.lease.When.From,.int .i64 x2.lease.When.To,.slice A5 x2.lease.Open.length c5,.slice A9 l3.length c9] 99 (0,0))]::ch9::so4::[(g5,.cells #[.int .i64 x1.Serial,.int .i64 x1.Product,.int .i64 x1.Grams,.int .i64 x1.At] 52 (0,0))]::[(g2,.cells #[.int .i64 0,.int .i64 0,.int .i64 0] 48 (0,0))]::[(g1,.cells #[.int .i64 x1.Serial,.int .i64 x1.Product,.int .i64 x1.Grams,.int .i64 x1.At] 52 (0,0))]::L)) 7 0 E E E E ?_))))))));refine ZR (G0 1 E (Dr _ QP.refl [(true,0),(true,1),(true,2),(true,3),(true,4),(true,5),(true,6),(true,7),(true,8),(true,9)] (by kernel_rfl) (G1 6 [3,12] E (Ix h (Own.rds (L:=([(g13,.cells #[.int .i64 x1.Serial] 3 (0,0))]::[(g12,.cells #[.int .i64 x1.Serial,.int .i64 m1.id,.int .i64 ((m1.log.length:Nat):Int),.int .i64 x1.At,.bool true] 105 (0,0))]::[(g6,.cells #[.int .i64 x1.Serial,.int .i64 x1.Product,.int .i64 x1.Grams,.int .i64 x1.At] 52 (0,0))]::[(g3,.cells #[.int .i64 m1.id,.int .i64 m1.skew,.slice A3 m1.products.length c3,.map (some g8),.slice A8 l2.length c8,.int .i64 m1.total] 88 (0,0))]::ch3::[(g8,.map es2 cn2)]::ch8::[(g9,.cells #[.int .i64 x2.lease.Block,.int .i64 x2.lease.Machine,.int .i64 x2.lease.Epoch,.int .i64 x2.lease.When.From,.int .i64 x2.lease.When.To,.slice A5 x2.lease.Open.length c5,.slice A9 l3.length c9] 99 (0,0))]::ch9::so4::[(g5,.cells #[.int .i64 x1.Serial,.int .i64 x1.Product,.int .i64 x1.Grams,.int .i64 x1.At] 52 (0,0))]::[(g2,.cells #[.int .i64 0,.int .i64 0,.int .i64 0] 48 (0,0))]::[(g1,.cells #[.int .i64 x1.Serial,.int .i64 x1.Product,.int .i64 x1.Grams,.int .i64 x1.At] 52 (0,0))]::L)) hO3 4 E) E E fun x3 _ _ _ hr1 hc15 _ h=> ?_))));obtain rfl:=hr1;refine Q3 23 [] [] [66,3,3,11] (Z1 hc15) E (Rt [11] E E (UgK (L2:=(([(g3,.cells #[.int .i64 m1.id,.int .i64 m1.skew,.slice A3 m1.products.length c3,.map (some g8),.slice A8 l2.length c8,.int .i64 (w64 (m1.total+x3.Deposit))] 88 (0,0))]++(ch3++([(g8,.map es2 cn2)]++(ch8++(so4++([(g9,.cells #[.int .i64 x2.lease.Block,.int .i64 x2.lease.Machine,.int .i64 x2.lease.Epoch,.int .i64 x2.lease.When.From,.int .i64 x2.lease.When.To,.slice A5 x2.lease.Open.length c5,.slice A9 l3.length c9] 99 (0,0))]++(ch9)))))))::L)) [[3,4,5,6,9,7,8]] 13 (by kernel_rfl) ?_));cases h;exact ((hR _ ⟨g3,A3,c3,ch3,g8,es2,cn2,(so4++((g9,Obj.cells #[.int .i64 x2.lease.Block,.int .i64 x2.lease.Machine,.int .i64 x2.lease.Epoch,.int .i64 x2.lease.When.From,.int .i64 x2.lease.When.To,.slice A5 x2.lease.Open.length c5,.slice A9 l3.length c9] 99 (0,0))::ch9)),A8,c8,ch8,rfl,rfl,hO3,(Zj.back hM3 hl1 ⟨g9,A5,c5,A9,c9,ch9,rfl,rfl,⟨hl2,hA1⟩,hO8⟩),hO7⟩))
 refine Rdo E E ?_;obtain ⟨_,hx7⟩:=LkP.look (L:=([(g6,.cells #[.int .i64 x1.Serial,.int .i64 x1.Product,.int .i64 x1.Grams,.int .i64 x1.At] 52 (0,0))]::[(g3,.cells #[.int .i64 m1.id,.int .i64 m1.skew,.slice A3 m1.products.length c3,.map (some g8),.slice A4 m1.log.length c4,.int .i64 m1.total] 88 (0,0))]::ch3::[(g8,.map es2 cn2)]::ch4::so3::[(g5,.cells #[.int .i64 x1.Serial,.int .i64 x1.Product,.int .i64 x1.Grams,.int .i64 x1.At] 52 (0,0))]::[(g2,.cells #[.int .i64 0,.int .i64 0,.int .i64 0] 48 (0,0))]::[(g1,.cells #[.int .i64 x1.Serial,.int .i64 x1.Product,.int .i64 x1.Grams,.int .i64 x1.At] 52 (0,0))]::L)) (g:=g8) (Zj.look0 hM2 hc10) (YV.seg 3 0 rfl rfl);refine Vb E E E E E E E E (Ex.mk _ hx7 (Q0 4 E (Dr _ QP.refl [(true,0),(true,1),(true,2),(true,3),(true,4),(true,5),(true,6),(true,7),(true,8),(true,9),(true,10),(true,11),(true,12),(false,13),(true,14),(true,15)] (by kernel_rfl) (G2 22 [16,29] [] [] E (Rt [] E E (Upd.done (Q0 4 E (Dr _ QP.refl [(true,0),(true,1),(true,2),(true,3),(true,4),(true,5),(true,6),(true,7),(true,8),(true,9),(false,10),(true,11),(true,12)] (by kernel_rfl) (G2 26 [] [58,68] [1] E ?_)))))))));refine Br h 75 E E (fun hc16 h=> ?_) (fun hc16 h=> ?_)
 ·refine G2 7 [75] [] [7] E ?_;cases h;exact Rt [7] E E (Ug [[1,2,3,4,5]] 9 (hR _ ⟨g3,A3,c3,ch3,g8,es2,cn2,so3,A4,c4,ch4,rfl,rfl,hO3,hM2,hO4⟩))
 refine G2 3 [] [75] [] E (Cd (WP.drawB (id:=13) (l':=List.replicate 25 true++[false]) QcR QB ([(g6,.cells #[.int .i64 x1.Serial,.int .i64 x1.Product,.int .i64 x1.Grams,.int .i64 x1.At] 52 (0,0))]::[(g3,.cells #[.int .i64 m1.id,.int .i64 m1.skew,.slice A3 m1.products.length c3,.map (some g8),.slice A4 m1.log.length c4,.int .i64 m1.total] 88 (0,0))]::ch3::[(g8,.map es2 cn2)]::so3::[(g5,.cells #[.int .i64 x1.Serial,.int .i64 x1.Product,.int .i64 x1.Grams,.int .i64 x1.At] 52 (0,0))]::[(g2,.cells #[.int .i64 0,.int .i64 0,.int .i64 0] 48 (0,0))]::[(g1,.cells #[.int .i64 x1.Serial,.int .i64 x1.Product,.int .i64 x1.Grams,.int .i64 x1.At] 52 (0,0))]::L) (Kp [0,1,2,3,5,6,7,8] 9 E) 25 [] [(true,0),(true,1),(true,2),(true,3),(true,4),(true,5),(true,6),(true,7),(true,8),(true,9),(true,10),(true,11),(true,12),(true,13),(true,14),(true,15),(true,16),(true,17),(true,18),(true,19),(true,20),(false,21),(false,22),(true,23),(true,24)] (by kernel_rfl) (by kernel_rfl) [] E (by kernel_rfl) (by kernel_rfl) ?_));refine Vq E (QK E (Pt E E (QK E (Pt E E (YY E (Pt E E (Y9 (o':=4) E E E E E E (Pt E E (YX E E E (Ex.mk _ (Y7.seg 1 0 E E E) (Pt E E (Y9 (o':=0) E E E E E E ?_))))))))))));refine Pt E E (YX E E E (Ex.mk _ (Y7.seg 7 0 E E E) (Pt E E (QK E (Pt E E (YY E (Pt E E (Y9 (o':=0) E E E E E E (Pt E E (YX E E E (Ex.mk _ (Y7.seg 1 0 E E E) (QR E ?_))))))))))));refine Vq E (QK E (Pt E E (YY E (Pt E E (Y9 (o':=4) E E E E E E (Pt E E (YX E E E (Ex.mk _ (Y7.seg 1 0 E E E) (Pt E E (QbP E E E (Pt E E (Y9 (o':=3) E E E E E E ?_))))))))))));refine Pt E E (YX E E E (Ex.mk _ (Y7.seg 7 0 E E E) (Pt E E (QK E (Pt E E (QcV E E E E (Pt E E (Wf E E E E (Qv (cells':=[.int .i64 x1.Serial,.int .i64 0,.int .i64 0,.int .i64 0,.bool false]) E E E E (Qv (cells':=[.int .i64 x1.Serial,.int .i64 m1.id,.int .i64 0,.int .i64 0,.bool false]) E E E E (Qv (cells':=[.int .i64 x1.Serial,.int .i64 m1.id,.int .i64 ((m1.log.length:Nat):Int),.int .i64 0,.bool false]) E E E E (Qv (cells':=[.int .i64 x1.Serial,.int .i64 m1.id,.int .i64 ((m1.log.length:Nat):Int),.int .i64 x1.At,.bool false]) E E E E (Qv (cells':=[.int .i64 x1.Serial,.int .i64 m1.id,.int .i64 ((m1.log.length:Nat):Int),.int .i64 x1.At,.bool false]) E E E E ?_)))))))))))));refine Zi (QR E (Vp E (Jf (z:=[.int .i64 0,.int .i64 0,.int .i64 0,.int .i64 0,.bool false]) E E E E E E E (Qv (cells':=[.int .i64 x1.Serial,.int .i64 m1.id,.int .i64 ((m1.log.length:Nat):Int),.int .i64 x1.At,.bool false]) E E E E (Zi (fun g14=> ?_))))));refine ⟨Kp [1,2,3,4,6,7,8,9] 10 E,?_⟩;refine QR E (Vp E (YL E ?_));obtain ⟨l4,hz4,h⟩:=Qj h;refine Jc (r:=Y3) QB E E E E (by decide) E E 5 E hO4 E (Own.rds (Own.lit (r:=Y3) (e:=105) (g:=g14) (xs:=[(Qz.mk x1.Serial m1.id ((m1.log.length:Nat):Int) x1.At false)]) (cs:=[.int .i64 x1.Serial,.int .i64 m1.id,.int .i64 ((m1.log.length:Nat):Int),.int .i64 x1.At,.bool false]) (css:=[[.int .i64 x1.Serial,.int .i64 m1.id,.int .i64 ((m1.log.length:Nat):Int),.int .i64 x1.At,.bool false]]) E (QY.cons (E) (QY.nil)) E E) 0 E) hz4 fun A10 c10 ch10 hO9=> ?_;refine ⟨Kp [1,2,3,4,6,7,8,9] 10 E,?_⟩;refine Pt E E (YY E (Pt E E (Y9 (o':=4) E E E E E E (QR E (We (Qbx E (Jm (vs:=[.slice A10 l4.length c10]) E E E E E E (ST_ (L':=([(g14,.cells #[.int .i64 x1.Serial,.int .i64 m1.id,.int .i64 ((m1.log.length:Nat):Int),.int .i64 x1.At,.bool false] 105 (0,0))]::[(g6,.cells #[.int .i64 x1.Serial,.int .i64 x1.Product,.int .i64 x1.Grams,.int .i64 x1.At] 52 (0,0))]::[(g3,.cells #[.int .i64 m1.id,.int .i64 m1.skew,.slice A3 m1.products.length c3,.map (some g8),.slice A10 l4.length c10,.int .i64 m1.total] 88 (0,0))]::ch3::[(g8,.map es2 cn2)]::ch10::so3::[(g5,.cells #[.int .i64 x1.Serial,.int .i64 x1.Product,.int .i64 x1.Grams,.int .i64 x1.At] 52 (0,0))]::[(g2,.cells #[.int .i64 0,.int .i64 0,.int .i64 0] 48 (0,0))]::[(g1,.cells #[.int .i64 x1.Serial,.int .i64 x1.Product,.int .i64 x1.Grams,.int .i64 x1.At] 52 (0,0))]::L)) 2 0 E E E E ?_))))))))
 refine ZR (G2 13 [103] [] [8] E (Rt [8] E E (UgK (L2:=(([(g3,.cells #[.int .i64 m1.id,.int .i64 m1.skew,.slice A3 m1.products.length c3,.map (some g8),.slice A10 l4.length c10,.int .i64 m1.total] 88 (0,0))]++(ch3++([(g8,.map es2 cn2)]++(ch10++(so3)))))::L)) [[2,3,4,5,6]] 10 (by kernel_rfl) ?_)));cases h;exact ((hR _ ⟨g3,A3,c3,ch3,g8,es2,cn2,so3,A10,c10,ch10,rfl,rfl,hO3,hM2,hO9⟩))
theorem ZW {F:Nat}   {res1:Bool}
   (h:Yz F=some res1)
  (hR: ∀(μ':Gh) ,μ.le μ'→R (.bool res1) μ' (L)) :
  Fn Try.prog 7 [] μ (L) R:=by
 unfold Yz at h;refine FnS Try.func7 (by kernel_rfl) E Try.ntmps7 E E ?_;refine G0 7 E (So E (Jf (z:=[.string ⟨#[]⟩,.int .i64 0,.int .i64 0,.int .i64 0,.int .i64 0]) E E E E E E E (Qv (cells':=[.string ⟨#[52,48,48,54,51,56,49,51,51,51,57,51,49]⟩,.int .i64 0,.int .i64 25,.int .i64 0,.int .i64 100]) E E E E (Zi (fun g1=>Q0 5 E (So E (Jf (z:=[.int .i64 0,.int .i64 0,.int .i64 0,.int .i64 0,.int .i64 0]) E E E E E E E (Qv (cells':=[.int .i64 0,.int .i64 0,.int .i64 1,.int .i64 0,.int .i64 0]) E E E E (Zi (fun g2=>Q0 0 E (Cl E ?_)))))))))));obtain ⟨⟨_,_⟩,hx1,h⟩:=Qj h;replace h:=Ql h;refine Vu (VH (c:=1) E E) (Own.rds (Own.lit (r:=Y6) (e:=71) (g:=g2) (xs:=[(Qg.mk 0 0 1 0 0)]) (cs:=[.int .i64 0,.int .i64 0,.int .i64 1,.int .i64 0,.int .i64 0]) (css:=[[.int .i64 0,.int .i64 0,.int .i64 1,.int .i64 0,.int .i64 0]]) E (QY.cons (E) (QY.nil)) E E) 0 E) hx1 (fun _ _ hP1=>Q0 9 E (Cl E ?_));obtain ⟨⟨_,_⟩,hx2,h⟩:=Qj h;replace h:=Ql h;refine WV (VH (c:=1) E E) (Own.rds (Own.lit (r:=QG) (e:=23) (g:=g1) (xs:=[(Qb.mk ⟨#[52,48,48,54,51,56,49,51,51,51,57,51,49]⟩ 0 25 0 100)]) (cs:=[.string ⟨#[52,48,48,54,51,56,49,51,51,51,57,51,49]⟩,.int .i64 0,.int .i64 25,.int .i64 0,.int .i64 100]) (css:=[[.string ⟨#[52,48,48,54,51,56,49,51,51,51,57,51,49]⟩,.int .i64 0,.int .i64 25,.int .i64 0,.int .i64 100]]) E (QY.cons (E) (QY.nil)) E E) 2 E) hx2 (fun _ _ hP2=> ?_);obtain ⟨q1,hm_1,h⟩:=Qj h;have hP3:=Wd.get hP2 hm_1;obtain ⟨g3,A1,c1,ch1,g4,es1,cn1,so3,A2,c2,ch2,hv1,rfl,hO1,hM1,hO2⟩:=hP3;subst hv1;refine Q0 8 E (In Qc.fl 0 8 E E E ?_);obtain ⟨q2,hm_2,h⟩:=Qj h;have hP4:=Wd.get hP1 hm_2;obtain ⟨g5,A3,c3,ch3,A4,c4,ch4,A5,c5,ch5,g6,es2,cn2,hv2,rfl,hO3,hO4,hO5,hM2⟩:=hP4;subst hv2;refine In Qf.fl 5 12 E E E ?_;refine Cut h (fun f l o_ f_ μ_ l_=> ∃(v1:Bool),v1=o_∧Qi ((36,.bool v1)::Qo [2,4] f) f_∧Qd (YJ [some 5,some 6,some 7,some 8,some 9,some 0,some 1,some 2,some 4,some 3] 12 l) l_) ?_ ?_
 ·intro _ h2198 h;refine G2 12 [] [25,29] [] E ?_;refine Br h2198 33 E E (fun hc1 h2198=> ?_) (fun hc1 h2198=> ?_)
  ·refine G2 4 [33] [] [] E ?_;cases h2198;exact Ce E ⟨_,rfl,fE E,sE [some 5,some 6,some 7,some 8,some 9,some 0,some 1,some 2,some 4,some 3] 12 E⟩
  refine G2 4 [] [33] [] E ?_;cases h2198;exact Ce E ⟨_,rfl,fE E,sE [some 5,some 6,some 7,some 8,some 9,some 0,some 1,some 2,some 4,some 3] 12 E⟩
 rintro _ _ μ2198 _ h hm2198 ⟨v1,rfl,hF2198,hS2198⟩;replace hO1:=hO1.mono hm2198;replace hM1:=hM1.mono hm2198;replace hO2:=hO2.mono hm2198;replace hO3:=hO3.mono hm2198;replace hO4:=hO4.mono hm2198;replace hO5:=hO5.mono hm2198;refine Atn 10 hF2198 hS2198 E E ?_;refine Br h 36 E E (fun hc2 h=> ?_) (fun hc2 h=> ?_)
 ·refine G2 5 [36] [] [] E (Rt [] E E (UgK (L2:=(L)) [] 10 (by kernel_rfl) ?_));cases h;exact ((hR _ hm2198))
 refine G2 5 [] [36] [] E (Cl E ?_);have hP5:Qf μ2198 (.pointer (some ⟨g5,0,none⟩)) q2 _:=⟨g5,A3,c3,ch3,A4,c4,ch4,A5,c5,ch5,g6,es2,cn2,rfl,rfl,hO3,hO4,hO5,hM2⟩
 refine Fn.gp (L2:=(((g5,Obj.cells #[.slice A3 q2.history.leases.length c3,.slice A4 q2.history.returned.length c4,.slice A5 q2.sales.length c5,.int .i64 q2.length,.int .i64 q2.now,.map (some g6)] 83 (0,0))::(ch3++(ch4++(ch5++((g6,Obj.map es2 cn2)::[])))))::[(g3,.cells #[.int .i64 q1.id,.int .i64 q1.skew,.slice A1 q1.products.length c1,.map (some g4),.slice A2 q1.log.length c2,.int .i64 q1.total] 88 (0,0))]::ch1::[(g4,.map es1 cn1)]::so3::ch2::L)) [[0,1,2,3,4],[5],[6],[7],[8],[9]] 10 6 (by kernel_rfl) ?_;obtain ⟨⟨r5,_,_⟩,hx3,h⟩:=Qj h;replace h:=Ql h;replace h:=Ql h;refine Zl hP5 hx3 (fun v2 A6 c6 _ hm_3 hl1 hA1 _=> ?_);replace hO1:=hO1.mono hm_3;replace hM1:=hM1.mono hm_3;replace hO2:=hO2.mono hm_3;refine Q0 3 E (Al E fun g7=>Q1 5 [0] E (Gp (L2:=([(g7,.cells #[.int .i64 r5.Block,.int .i64 r5.Machine,.int .i64 r5.Epoch,.int .i64 r5.When.From,.int .i64 r5.When.To,.slice A6 r5.Open.length c6] 43 (0,0))]::[(g3,.cells #[.int .i64 q1.id,.int .i64 q1.skew,.slice A1 q1.products.length c1,.map (some g4),.slice A2 q1.log.length c2,.int .i64 q1.total] 88 (0,0))]::ch1::[(g4,.map es1 cn1)]::so3::ch2::L)) [[0],[2],[3],[4],[5],[6]] 7 6 E (by kernel_rfl) ?_));have hP7:Qc v2 (.pointer (some ⟨g3,0,none⟩)) q1 _:=⟨g3,A1,c1,ch1,g4,es1,cn1,so3,A2,c2,ch2,rfl,rfl,hO1,hM1,hO2⟩
 refine Gp (L2:=(((g3,Obj.cells #[.int .i64 q1.id,.int .i64 q1.skew,.slice A1 q1.products.length c1,.map (some g4),.slice A2 q1.log.length c2,.int .i64 q1.total] 88 (0,0))::(ch1++((g4,Obj.map es1 cn1)::(ch2++so3))))::[(g7,.cells #[.int .i64 r5.Block,.int .i64 r5.Machine,.int .i64 r5.Epoch,.int .i64 r5.When.From,.int .i64 r5.When.To,.slice A6 r5.Open.length c6] 43 (0,0))]::L)) [[1,2,3,5,4],[0]] 6 2 E (by kernel_rfl) ?_;refine Cut h (fun f l o_ f_ μ_ l_=> ∃(q3:Qa) (v4:Bool) (so6:Seg),(q3,v4)=o_∧Qi ((49,.bool v4)::Qo [4] f) f_∧Qd (so6::YJ [] 2 l) l_∧Qc μ_ (.pointer (some ⟨g3,0,none⟩)) q3 so6) ?_ ?_
 ·intro _ h2214 h;refine G0 4 E ?_;refine Br h2214 44 E E (fun hc3 h2214=> ?_) (fun hc3 h2214=> ?_)
  ·refine G2 6 [44] [] [] E ?_;cases h2214;exact Ce E ⟨_,_,((g3,Obj.cells #[.int .i64 q1.id,.int .i64 q1.skew,.slice A1 q1.products.length c1,.map (some g4),.slice A2 q1.log.length c2,.int .i64 q1.total] 88 (0,0))::(ch1++((g4,Obj.map es1 cn1)::(ch2++so3)))),rfl,fE E,sE [some 0] 2 E,(hP7)⟩
  refine G2 2 [] [44] [1] E (Cl E ?_);obtain ⟨⟨_,_⟩,hx4,h2214⟩:=Qj h2214;replace h2214:=Ql h2214;refine Zz hP7 hl1 hA1 hx4 (fun _ so5 _ hP8=> ?_);refine Q2 3 [] [44] [] E ?_;cases h2214;exact Ce E ⟨_,_,so5,rfl,fE E,sE [some 0] 2 E,(hP8)⟩
 rintro _ _ _ _ h hm2214 ⟨q3,v4,so6,rfl,hF2214,hS2214,hP9⟩;replace h:=Ql h;refine Atn 1 hF2214 hS2214 E E ?_;refine Br h 49 E E (fun hc4 h=> ?_) (fun hc4 h=> ?_)
 ·refine G2 5 [49] [] [] E ?_;cases h;exact Rt [] E E (Ug [] 1 (hR _ (hm2198.trans (hm_3.trans hm2214))))
 refine G2 6 [] [49] [] E (Cl E ?_);obtain ⟨⟨r10,_,_⟩,hx5,h⟩:=Qj h;replace h:=Ql h;replace h:=Ql h;refine Zh hP9 hx5 (fun _ _=>Q0 3 E (Al E fun _=>Q1 4 [0] E ?_));refine Cut h (fun f l o_ f_ μ_ l_=> ∃(v5:Bool),v5=o_∧Qi ((0,.bool v5)::[]) f_∧Qd (YJ [] 2 l) l_) ?_ ?_
 ·intro _ h2228 h;refine G0 4 E ?_;refine Br h2228 58 E E (fun hc5 h2228=> ?_) (fun hc5 h2228=> ?_)
  ·refine G2 2 [58] [] [0] E (Rdo E E (Qao E E (Ex.mk _ (WH r10 (Qp.mk 1 25 0)) (Q2 3 [58] [] [] E ?_))));cases h2228;exact Ce E ⟨_,rfl,fE E,sE [] 2 E⟩
  refine G2 6 [] [58] [] E ?_;cases h2228;exact Ce E ⟨_,rfl,fE E,sE [] 2 E⟩
 rintro _ _ _ _ h hm2228 ⟨v5,rfl,hF2228,hS2228⟩;refine Atn 0 hF2228 hS2228 E E ?_;cases h;exact Rt [] E E (Ug [] 0 (hR _ (hm2198.trans (hm_3.trans (hm2214.trans hm2228)))))
theorem Z8  {l1:(List Qg)} {serial1:Int} {A1:Option Addr} {c1:Nat} {res1:Int} {res2:Bool}
  (hl1:l1.length≤c1∧c1≤maxLen) (hA1:Rds Y6 μ L A1 l1) (h:YE l1 serial1=some (res1,res2))
  (hR:R (.tuple #[.int .i64 res1,.bool res2]) μ (L)) :
  Fn Try.prog 13 [.slice A1 l1.length c1,.int .i64 serial1] μ (L) R:=by
 unfold YE at h;refine FnS Try.func13 (by kernel_rfl) E Try.ntmps13 E E ?_;refine G0 10 E ?_;refine Cut h (fun f l o_ f_ μ_ l_=>(.inl ())=o_∧Qi ([]) f_∧Qd l l_∧μ=μ_) ?_ ?_
 ·intro _ h2346 h;refine Lp h2346 (fun f l (i1:Int) f_ μ_ l_=>Qi ((6,.int .i64 i1)::Qo [0,1] f) f_∧Qd l l_∧μ=μ_) ⟨fE E,sE [] 0 E,E⟩ ?_;rintro i1 _ _ _ _ _ ⟨hF2348,hS2348,rfl⟩ hb2348 hq2348;unfold Z9 at hb2348;refine Atn 0 hF2348 hS2348 E E (G0 8 E ?_);refine Br hb2348 10 E E (fun hc1 hb2348=> ?_) (fun hc1 hb2348=> ?_)
  ·refine G2 8 [10] [] [] E (Ix hb2348 hA1 E E fun _ _ _ _ hr1 hc2 _ hb2348=> ?_);obtain rfl:=hr1;refine Q3 2 [] [] [64] (Z1 hc2) E (Cl E ?_);obtain ⟨_,hx2,hb2348⟩:=Qj hb2348;refine YR  hx2 ((Q0 1 E ?_));refine Br hb2348 18 E E (fun hc3 hb2348=> ?_) (fun hc3 hb2348=> ?_)
   ·refine G2 7 [18] [] [] E ?_;cases hb2348;have hq_:=hq2348 _ E;subst hq_;replace h:=QD h;cases h;exact Rt [] E E (Ug [] 0 hR)
   refine G2 8 [] [18] [] E ?_;cases hb2348;exact Ce E ⟨_,rfl,fE E,sE [] 0 E,rfl⟩
  refine G2 2 [] [10] [] E ?_;cases hb2348;have hq_:=hq2348 _ E;subst hq_;exact Ce E ⟨rfl,fE E,sE [] 0 E,rfl⟩
 rintro _ _ _ _ h _ ⟨rfl,hF2346,hS2346,rfl⟩;replace h:=YQ h;refine Atn 0 hF2346 hS2346 E E (G0 5 E ?_);cases h;exact Rt [] E E (Ug [] 0 hR)
theorem Jh  {l1:(List Int)} {n1:Int} {A1:Option Addr} {c1:Nat} {res1:Int}
  (hl1:l1.length≤c1∧c1≤maxLen) (hA1:Rds Zd μ L A1 l1) (h:Yu l1 n1=some res1)
  (hR:R (.int .i64 res1) μ (L)) :
  Fn Try.prog 14 [.slice A1 l1.length c1,.int .i64 n1] μ (L) R:=by
 unfold Yu at h;refine FnS Try.func14 (by kernel_rfl) E Try.ntmps14 E E ?_;refine G0 15 E ?_;refine Cut h (fun f l o_ f_ μ_ l_=> ∃(k3:Int),k3=o_∧Qi ((5,.int .i64 k3)::[]) f_∧Qd l l_∧μ=μ_) ?_ ?_
 ·intro _ h2351 h;refine Lp h2351 (fun f l (j_:Int×Int) f_ μ_ l_=>VJ j_ fun k1 v1=>Qi ((5,.int .i64 k1)::(9,.int .i64 v1)::Qo [0,1,8] f) f_∧Qd l l_∧μ=μ_) ⟨fE E,sE [] 0 E,E⟩ ?_;rintro ⟨k1,v1⟩ _ _ _ _ _ ⟨hF2354,hS2354,rfl⟩ hb2354 hq2354;unfold Yt at hb2354;replace hb2354:=Ql hb2354;refine Atn 0 hF2354 hS2354 E E (G0 5 E ?_);refine Br hb2354 10 E E (fun hc1 hb2354=> ?_) (fun hc1 hb2354=> ?_)
  ·refine G2 3 [10] [] [] E ?_;refine Cut hb2354 (fun f l o_ f_ μ_ l_=> ∃(k2:Int),k2=o_∧Qi ((5,.int .i64 k2)::Qo [0,1,8,9] f) f_∧Qd l l_∧μ=μ_) ?_ ?_
   ·intro _ h2355 hb2354;refine G0 10 E (Ix h2355 hA1 E E fun _ _ _ _ hr1 hc2 _ h2355=> ?_);obtain rfl:=hr1;refine Q3 4 [] [] [64] (Z1 hc2) E ?_;refine Br h2355 17 E E (fun hc3 h2355=> ?_) (fun hc3 h2355=> ?_)
    ·refine G2 7 [17] [] [] E ?_;cases h2355;exact Ce E ⟨_,rfl,fE E,sE [] 0 E,rfl⟩
    refine G2 3 [] [17] [] E ?_;cases h2355;exact Ce E ⟨_,rfl,fE E,sE [] 0 E,rfl⟩
   rintro _ _ _ _ hb2354 _ ⟨k2,rfl,hF2355,hS2355,rfl⟩;refine Atn 0 hF2355 hS2355 E E (G0 4 E ?_);cases hb2354;exact Ce E ⟨_,rfl,fE E,sE [] 0 E,rfl⟩
  refine G2 2 [] [10] [] E ?_;cases hb2354;have hq_:=hq2354 _ E;subst hq_;exact Ce E ⟨_,rfl,fE E,sE [] 0 E,rfl⟩
 rintro _ _ _ _ h _ ⟨k3,rfl,hF2351,hS2351,rfl⟩;refine Atn 0 hF2351 hS2351 E E (G0 5 E ?_);cases h;exact Rt [] E E (Ug [] 0 hR)
theorem Jx  {m1:Qa} {block1:Int} {pv1:Value} {so1:Seg} {res1:Int} {res2:(List Int)} {res3:Int} {res4:Qa}
  (hP1:Qc μ pv1 m1 so1) (h:QH m1 block1=some (res1,res2,res3,res4))
  (hR: ∀(A1:Option Addr) (c1:Nat) (ch1:Seg) (sp0:Seg),Own Zd 3 μ (.slice A1 res2.length c1) res2 ch1→Qc μ pv1 res4 sp0→R (.tuple #[.int .i64 res1,.slice A1 res2.length c1,.int .i64 res3]) μ (ch1::sp0::L)) :
  Fn Try.prog 15 [pv1,.int .i64 block1] μ (so1::L) R:=by
 unfold QH at h;refine FnS Try.func15 (by kernel_rfl) E Try.ntmps15 E E ?_;obtain ⟨g1,A1,c1,ch1,g2,es1,cn1,so2,A2,c2,ch2,hv1,rfl,hO1,hM1,hO2⟩:=hP1;subst hv1;refine G0 8 E (In Qc.fl 0 5 E E E (G2 13 [] [9] [0] E ?_));refine QeD h (fun hc1 h=> ?_) (fun hc1 h=> ?_)
 ·obtain ⟨_,hx1,h⟩:=Qj h;obtain ⟨_,hl1⟩:=Zj.look hM1 hx1;refine Rdo E E ?_;obtain ⟨_,hx2⟩:=LkP.look (L:=([(g1,.cells #[.int .i64 m1.id,.int .i64 m1.skew,.slice A1 m1.products.length c1,.map (some g2),.slice A2 m1.log.length c2,.int .i64 m1.total] 88 (0,0))]::ch1::[(g2,.map es1 cn1)]::ch2::so2::L)) (g:=g2) hl1 (YV.seg 2 0 rfl rfl);refine Vb E E E E E E E E (Ex.mk _ hx2 (Q2 11 [] [17] [] E ?_));obtain ⟨_,so3,hp1,hP2,hM2⟩:=Zj.take hM1 hx1 hl1;refine InP hp1 4 6 E E E ?_;obtain ⟨_,_,_,A4,c4,_,hv2,rfl,⟨_,_⟩,hO3⟩:=hP2;replace hv2:=Qai hv2;subst hv2;refine In Yo.fl 4 7 E E E (G1 6 [0] E (So E (Qeq E (Qfa QB E E E E 2 E hM2 fun es2 hM3=>Q1 7 [4] E (Cl E ?_)))));obtain ⟨_,hs1,h⟩:=Qj h;refine Qfd Try.func43 (by kernel_rfl) E Try.slices_Sort_int Try.slices_Sort_int_none 5 E hO3 hs1 fun ch5 hO4=> ?_
  rw[QbZ hs1]
  refine Q0 2 E (Dr _ QP.refl [(true,0),(true,1),(true,2),(true,3),(true,4),(true,5),(true,6),(true,7),(true,8),(true,9),(true,10),(true,11)] (by kernel_rfl) (G1 13 [4,4] E ?_));cases h;exact Rt [] E E (Ug [[5],[0,1,2,3,6]] 7 (hR A4 c4 ch5 _ hO4 ⟨g1,A1,c1,ch1,g2,es2,cn1,so3,A2,c2,ch2,rfl,rfl,hO1,hM3,hO2⟩))
 refine Rdo E E ?_;obtain ⟨_,hx3⟩:=LkP.look (L:=([(g1,.cells #[.int .i64 m1.id,.int .i64 m1.skew,.slice A1 m1.products.length c1,.map (some g2),.slice A2 m1.log.length c2,.int .i64 m1.total] 88 (0,0))]::ch1::[(g2,.map es1 cn1)]::ch2::so2::L)) (g:=g2) (Zj.look0 hM1 hc1) (YV.seg 2 0 rfl rfl);refine Vb E E E E E E E E (Ex.mk _ hx3 (Q2 15 [17] [] [] E ?_));cases h;exact Rt [] E E (Ug [[],[0,1,2,3,4]] 5 (hR none 0 [] _ Own.nil ⟨g1,A1,c1,ch1,g2,es1,cn1,so2,A2,c2,ch2,rfl,rfl,hO1,hM1,hO2⟩))
theorem Qbc  {l1:Qh} {paid1:(List Int)} {A1:Option Addr} {c1:Nat} {A2:Option Addr} {c2:Nat} {res1:Int}
  (hl1:l1.Open.length≤c1∧c1≤maxLen) (hA1:Zc Zd μ A1 l1.Open) (hl2:paid1.length≤c2∧c2≤maxLen) (hA2:Rds Zd μ L A2 paid1) (h:JJ l1 paid1=some res1)
  (hR:R (.int .i64 res1) μ (L)) :
  Fn Try.prog 44 [.agg #[.int .i64 l1.Block,.int .i64 l1.Machine,.int .i64 l1.Epoch,.int .i64 l1.When.From,.int .i64 l1.When.To,.slice A1 l1.Open.length c1],.slice A2 paid1.length c2] μ (L) R:=by
 unfold JJ at h;refine FnS Try.func44 (by kernel_rfl) E Try.ntmps44 E E ?_;refine G0 2 E (Al E fun g1=>Q0 4 E (So E (QbO (fun g2=>Q0 13 E ?_))));refine Cut h (fun f l o_ f_ μ_ l_=> ∃(twice3:Bool),(.inl twice3)=o_∧Qi ((6,.bool twice3)::[]) f_∧Qd (YJ [] 2 l) l_∧μ=μ_) ?_ ?_
 ·intro _ h2456 h;refine Lp h2456 (fun f l (j_:(List (Int×Bool))×Bool×Int) f_ μ_ l_=>VJ j_ fun m1 j_=>VJ j_ fun twice1 v1=> ∃(es1:Array MapEntry) (cn1:Nat),Qi ((6,.bool twice1)::(12,.int .i64 v1)::Qo [2,5,10,11] f) f_∧Qd ([(g1,.cells #[.int .i64 l1.Block,.int .i64 l1.Machine,.int .i64 l1.Epoch,.int .i64 l1.When.From,.int .i64 l1.When.To,.slice A1 l1.Open.length c1] 43 (0,0))]::[(g2,.map es1 cn1)]::YJ [] 2 l) l_∧YK Value.bool es1 cn1 m1∧μ=μ_) ⟨#[],0,fE E,sE [some 1,some 0] 2 E,((YK.nil (enc:=Value.bool))),E⟩ ?_;rintro ⟨m1,twice1,v1⟩ _ _ _ _ _ ⟨es1,cn1,hF2465,hS2465,hM1,rfl⟩ hb2465 hq2465;unfold ZI at hb2465;replace hb2465:=Ql hb2465;replace hb2465:=Ql hb2465;refine Atn 2 hF2465 hS2465 E E (G0 5 E ?_);refine Br hb2465 13 E E (fun hc1 hb2465=> ?_) (fun hc1 hb2465=> ?_)
  ·refine G2 6 [13] [] [] E (Ix hb2465 hA2 E E fun x1 _ _ _ hr1 hc2 _ hb2465=> ?_);obtain rfl:=hr1;refine Q3 9 [] [] [64,0] (Z1 (hc2.push.push)) E (Cl E ?_);obtain ⟨_,hx2,hb2465⟩:=Qj hb2465;refine Zg hl1 (Zc.rds hA1 _) hx2 ((Q0 2 E ?_));refine Br hb2465 20 E E (fun hc3 hb2465=> ?_) (fun hc3 hb2465=> ?_)
   ·refine G2 5 [20] [] [] E ?_;cases hb2465;have hq_:=hq2465 _ E;subst hq_;replace h:=QD h;cases h;exact Rt [] E E (Ug [] 2 hR)
   refine G2 3 [] [20] [] E ?_;refine Cut hb2465 (fun f l o_ f_ μ_ l_=> ∃(twice2:Bool),twice2=o_∧Qi ((6,.bool twice2)::Qo [2,5,8,10,11,12] f) f_∧Qd l l_∧μ=μ_) ?_ ?_
   ·intro _ h2471 hb2465;refine G0 3 E ?_;refine Br h2471 22 E E (fun hc4 h2471=> ?_) (fun hc4 h2471=> ?_)
    ·refine G2 6 [22] [] [] E ?_;cases h2471;exact Ce E ⟨_,rfl,fE E,sE [some 0,some 1] 2 E,rfl⟩
    refine G2 2 [] [22] [] E (Rdo E E (Vb E E E E E E E E (Ex.mk _ (hM1.look (YV.seg 1 0 E E) (zb:=false) E x1) (Q2 3 [] [22] [] E ?_))));cases h2471;exact Ce E ⟨_,rfl,fE E,sE [some 0,some 1] 2 E,rfl⟩
   rintro _ _ _ _ hb2465 _ ⟨twice2,rfl,hF2471,hS2471,rfl⟩;refine Atn 2 hF2471 hS2471 E E (G0 3 E (So E (WF E E E (QbK QB E E E E 1 (b:=true) E hM1 E fun es2 cn2 hM2=>Q0 6 E ?_))));cases hb2465;exact Ce E ⟨_,rfl,es2,cn2,fE E,sE [some 0,some 1] 2 E,(hM2),rfl⟩
  refine G2 2 [] [13] [] E ?_;cases hb2465;have hq_:=hq2465 _ E;subst hq_;exact Ce E ⟨_,rfl,fE E,sE [] 2 E,rfl⟩
 rintro _ _ _ _ h _ ⟨twice3,rfl,hF2456,hS2456,rfl⟩;replace h:=YQ h;refine Atn 0 hF2456 hS2456 E E (G0 5 E ?_);refine Br h 30 E E (fun hc5 h=> ?_) (fun hc5 h=> ?_)
 ·refine G2 5 [30] [] [] E ?_;cases h;exact Rt [] E E (Ug [] 0 hR)
 refine G2 6 [] [30] [] E ?_;cases h;exact Rt [] E E (Ug [] 0 hR)
theorem Z3  {o1:Qe} {b1:Int} {epoch1:Int} {paid1:(List Int)} {now1:Int} {pv1:Value} {so1:Seg} {A1:Option Addr} {c1:Nat} {res1:Int} {res2:Qe}
  (hP1:Qf μ pv1 o1 so1) (hl1:paid1.length≤c1∧c1≤maxLen) (hA1:Rds Zd μ L A1 paid1) (h:Q8 o1 b1 epoch1 paid1 now1=some (res1,res2))
  (hR: ∀(sp0:Seg),Qf μ pv1 res2 sp0→R (.int .i64 res1) μ (sp0::L)) :
  Fn Try.prog 16 [pv1,.int .i64 b1,.int .i64 epoch1,.slice A1 paid1.length c1,.int .i64 now1] μ (so1::L) R:=by
 unfold Q8 at h;refine FnS Try.func16 (by kernel_rfl) E Try.ntmps16 E E ?_;obtain ⟨g1,A2,c2,ch1,A3,c3,ch2,A4,c4,ch3,g2,es1,cn1,hv1,rfl,hO1,hO2,hO3,hM1⟩:=hP1;subst hv1;refine G0 6 E (In Qf.fl 0 5 E E E (G2 8 [] [18] [] E ?_));refine Cut h (fun f l o_ f_ μ_ l_=> ∃(v1:Bool),v1=o_∧Qi ((26,.bool v1)::Qo [0,1,2,3,4] f) f_∧Qd l l_∧μ=μ_) ?_ ?_
 ·intro _ h2536 h;refine G0 2 E (Cl E ?_);obtain ⟨_,hx1,h2536⟩:=Qj h2536;refine WK  hx1 ((Q0 2 E ?_));refine Br h2536 22 E E (fun hc1 h2536=> ?_) (fun hc1 h2536=> ?_)
  ·refine G2 5 [22] [] [] E ?_;cases h2536;exact Ce E ⟨_,rfl,fE E,sE [some 0,some 1,some 2,some 3,some 4] 5 E,rfl⟩
  refine G2 1 [] [22] [] E (Cl E ?_);obtain ⟨_,hx2,h2536⟩:=Qj h2536;refine ZP  hx2 ((Q2 3 [] [22] [] E ?_));cases h2536;exact Ce E ⟨_,rfl,fE E,sE [some 0,some 1,some 2,some 3,some 4] 5 E,rfl⟩
 rintro _ _ _ _ h _ ⟨v1,rfl,hF2536,hS2536,rfl⟩;refine Atn 5 hF2536 hS2536 E E ?_;refine Br h 26 E E (fun hc2 h=> ?_) (fun hc2 h=> ?_)
 ·refine G2 5 [26] [] [] E ?_;cases h;exact Rt [] E E (Ug [[0,1,2,3,4]] 5 (hR _ ⟨g1,A2,c2,ch1,A3,c3,ch2,A4,c4,ch3,g2,es1,cn1,rfl,rfl,hO1,hO2,hO3,hM1⟩))
 refine G2 12 [] [26] [0] E ?_;refine Br h 32 E E (fun hc3 h=> ?_) (fun hc3 h=> ?_)
 ·refine G2 5 [32] [] [] E ?_;cases h;exact Rt [] E E (Ug [[0,1,2,3,4]] 5 (hR _ ⟨g1,A2,c2,ch1,A3,c3,ch2,A4,c4,ch3,g2,es1,cn1,rfl,rfl,hO1,hO2,hO3,hM1⟩))
 refine G2 8 [] [32] [] E (Cl E ?_);have hP2:Qf μ (.pointer (some ⟨g1,0,none⟩)) o1 _:=⟨g1,A2,c2,ch1,A3,c3,ch2,A4,c4,ch3,g2,es1,cn1,rfl,rfl,hO1,hO2,hO3,hM1⟩
 refine Fn.gp (L2:=(((g1,Obj.cells #[.slice A2 o1.history.leases.length c2,.slice A3 o1.history.returned.length c3,.slice A4 o1.sales.length c4,.int .i64 o1.length,.int .i64 o1.now,.map (some g2)] 83 (0,0))::(ch1++(ch2++(ch3++((g2,Obj.map es1 cn1)::[])))))::L)) [[0,1,2,3,4]] 5 1 (by kernel_rfl) ?_;obtain ⟨⟨r3,_⟩,hx3,h⟩:=Qj h;replace h:=Ql h;refine Fn.regroup (Zs hP2 hx3 (?_));refine ⟨([(g1,.cells #[.slice A2 o1.history.leases.length c2,.slice A3 o1.history.returned.length c3,.slice A4 o1.sales.length c4,.int .i64 o1.length,.int .i64 o1.now,.map (some g2)] 83 (0,0))]::ch1::ch2::ch3::[(g2,.map es1 cn1)]::L),Qd.ins (i:=0) Qf.fl E,?_⟩;refine Q0 8 E ?_;refine Cut h (fun f l o_ f_ μ_ l_=> ∃(v2:Bool),v2=o_∧Qi ((55,.bool v2)::Qo [0,3,4,11] f) f_∧Qd l l_∧μ=μ_) ?_ ?_
 ·intro _ h2542 h;refine G0 4 E ?_;refine Br h2542 43 E E (fun hc4 h2542=> ?_) (fun hc4 h2542=> ?_)
  ·refine G2 13 [43] [] [] E ?_;cases h2542;exact Ce E ⟨_,rfl,fE E,sE [some 0,some 1,some 2,some 3,some 4] 5 E,rfl⟩
  refine G2 6 [] [43] [0] E (IxA h2542 (Own.rds hO1 1 E) E E fun _ _ _ _ hr1 hc5 _ h2542=> ?_);obtain ⟨_,_,rfl,_,_⟩:=hr1;refine Q3 6 [] [43] [66] (Z1 hc5) E ?_;cases h2542;exact Ce E ⟨_,rfl,fE E,sE [some 0,some 1,some 2,some 3,some 4] 5 E,rfl⟩
 rintro _ _ _ _ h _ ⟨v2,rfl,hF2542,hS2542,rfl⟩;refine Atn 5 hF2542 hS2542 E E ?_;refine Br h 55 E E (fun hc6 h=> ?_) (fun hc6 h=> ?_)
 ·refine G2 5 [55] [] [] E ?_;cases h;exact Rt [] E E (Ug [[0,1,2,3,4]] 5 (hR _ ⟨g1,A2,c2,ch1,A3,c3,ch2,A4,c4,ch3,g2,es1,cn1,rfl,rfl,hO1,hO2,hO3,hM1⟩))
 refine G2 11 [] [55] [0] E (IxA h (Own.rds hO1 1 E) E E fun _ _ _ _ hr2 hc7 _ h=> ?_);obtain ⟨_,_,rfl,hl3,hA5⟩:=hr2;refine Q3 2 [] [] [64] (Z1 hc7) E (Cl E ?_);obtain ⟨_,hx6,h⟩:=Qj h;refine Qbc hl3 hA5 hl1 (Rds.push (Rds.push (Rds.push (Rds.push (Rds.push hA1))))) hx6 ((Q0 7 E ?_));refine Br h 67 E E (fun hc8 h=> ?_) (fun hc8 h=> ?_)
 ·refine G2 6 [67] [] [] E ?_;cases h;exact Rt [] E E (Ug [[0,1,2,3,4]] 5 (hR _ ⟨g1,A2,c2,ch1,A3,c3,ch2,A4,c4,ch3,g2,es1,cn1,rfl,rfl,hO1,hO2,hO3,hM1⟩))
 refine G2 9 [] [67] [] E ?_;refine Cut h (fun f l o_ f_ μ_ l_=> ∃(m2:(List (Int×Bool))) (es4:Array MapEntry) (cn4:Nat),m2=o_∧Qi (Qo [0,4,11] f) f_∧Qd ([(g1,.cells #[.slice A2 o1.history.leases.length c2,.slice A3 o1.history.returned.length c3,.slice A4 o1.sales.length c4,.int .i64 o1.length,.int .i64 o1.now,.map (some g2)] 83 (0,0))]::ch1::ch2::ch3::[(g2,.map es4 cn4)]::YJ [] 5 l) l_∧YK Value.bool es4 cn4 m2∧μ=μ_) ?_ ?_
 ·intro _ h2547 h;refine Lp h2547 (fun f l (j_:(List (Int×Bool))×Int) f_ μ_ l_=>VJ j_ fun m1 v3=> ∃(es2:Array MapEntry) (cn2:Nat),Qi ((71,.int .i64 v3)::Qo [0,4,11,69,70] f) f_∧Qd ([(g1,.cells #[.slice A2 o1.history.leases.length c2,.slice A3 o1.history.returned.length c3,.slice A4 o1.sales.length c4,.int .i64 o1.length,.int .i64 o1.now,.map (some g2)] 83 (0,0))]::ch1::ch2::ch3::[(g2,.map es2 cn2)]::YJ [] 5 l) l_∧YK Value.bool es2 cn2 m1∧μ=μ_) ⟨es1,cn1,fE E,sE [some 0,some 1,some 2,some 3,some 4] 5 E,(hM1),E⟩ ?_;rintro ⟨m1,v3⟩ _ _ _ _ _ ⟨es2,cn2,hF2553,hS2553,hM2,rfl⟩ hb2553 hq2553;unfold Yp at hb2553;replace hb2553:=Ql hb2553;refine Atn 5 hF2553 hS2553 E E (G0 5 E ?_);refine Br hb2553 72 E E (fun hc9 hb2553=> ?_) (fun hc9 hb2553=> ?_)
  ·refine G2 6 [72] [] [] E (Ix hb2553 hA1 E E fun _ _ _ _ hr3 hc10 _ hb2553=> ?_);obtain rfl:=hr3;refine Q3 9 [] [] [64,0] (Z1 (hc10.push.push.push.push.push)) E (So E (WF E E E (QbK QB E E E E 4 (b:=true) E hM2 E fun es3 cn3 hM3=>Q0 6 E ?_)));cases hb2553;exact Ce E ⟨_,rfl,es3,cn3,fE E,sE [some 0,some 1,some 2,some 3,some 4] 5 E,(hM3),rfl⟩
  refine G2 2 [] [72] [] E ?_;cases hb2553;have hq_:=hq2553 _ E;subst hq_;exact Ce E ⟨_,es2,cn2,rfl,fE E,sE [some 0,some 1,some 2,some 3,some 4] 5 E,(hM2),rfl⟩
 rintro _ _ _ _ h _ ⟨m2,es4,cn4,rfl,hF2547,hS2547,hM4,rfl⟩;refine Atn 5 hF2547 hS2547 E E (G1 8 [0] E (IxA h (Own.rds hO1 1 E) E E fun x4 _ _ hx8 hr4 hc11 hA7 h=> ?_));obtain ⟨_,_,rfl,_,_⟩:=hr4;obtain ⟨_,hn1⟩: ∃n_,n_=o1.history.leases.length:=⟨_,rfl⟩
 rw[←hn1] at hO1 hc11 ⊢
 refine Q0 4 E (Cd (WP.drawB (id:=19) (l':=List.replicate 14 true++[false]) QcR QB _ QP.refl 14 [] [(true,0),(true,1),(true,2),(true,3),(true,4),(true,5),(true,6),(true,7),(true,8),(true,9),(true,10),(true,11),(true,12),(true,13)] (by kernel_rfl) (by kernel_rfl) [] E (by kernel_rfl) (by kernel_rfl) (Vq E (QK E (Pt E E (QK E (Pt E E (YY E (Pt E E (QfJ E E E E E (Pt E E (YX E E E (Ex.mk _ (Y7.of_cells hc11 3 E) ?_)))))))))))));refine Pt E E (QK E (Pt E E (YY E (Pt E E (QfI (k':=4) E E E E E E (Pt E E (YX E E E (Ex.mk _ (Y7.of_cells hc11 4 E) (Pt E E (QK E (Pt E E ?_)))))))))));refine QcU rfl (Pt rfl rfl (Qev rfl (Pt rfl rfl (YY rfl (Pt rfl rfl (QfI (k':=4) rfl rfl rfl rfl rfl rfl (QR rfl (We (Qbx rfl (Jm (vs:=[.int .i64 (max x4.When.From (min x4.When.To now1))]) rfl rfl rfl rfl rfl rfl (Own.store (μ:=μ) (r:=JT) (x':=(Qh.mk x4.Block x4.Machine x4.Epoch (QJ.mk x4.When.From (max x4.When.From (min x4.When.To now1))) x4.Open)) (o:=4) (sz:=6) 1 rfl hO1 hA7 hx8 rfl rfl (by rintro _ ⟨A8,c8,rfl,hl5,hA9⟩;exact ⟨A8,c8,rfl,hl5,hA9⟩) fun ch4 hO4=> ?_)))))))))));have hn2:=hn1.trans (VZ o1.history.leases r3 (Qh.mk x4.Block x4.Machine x4.Epoch (QJ.mk x4.When.From (max x4.When.From (min x4.When.To now1))) x4.Open)).symm;apply ZR;subst hn2;refine G1 8 [0] E (IxA h (Own.rds hO2 2 E) E E fun _ a5 _ hx9 hr5 _ hA10 h=> ?_);obtain rfl:=hr5;refine Q0 0 E (So E (Jm (vs:=[.bool true]) E E E E E E ?_))
 rw[←Addr.add_zero' ((a5.add (r3.toNat*1)))]
 refine Own.store (μ:=μ) (r:=Qdx) (x':=true) (o:=0) (sz:=1) 2 rfl hO2 hA10 hx9 rfl rfl (by rintro _ rfl;rfl) fun ch5 hO5=> ?_
 rw[←VZ o1.history.returned r3 true] at hO5 ⊢
 refine Q1 13 [0] E ?_;cases h;exact Rt [] E E (Ug [[0,1,2,3,4]] 5 (hR _ ⟨g1,A2,c2,ch4,A3,c3,ch5,A4,c4,ch3,g2,es4,cn4,rfl,rfl,hO4,hO5,hO3,hM4⟩))
theorem Ji  {m1:Qa} {pv1:Value} {so1:Seg} {res1:Int}
  (hP1:Qc μ pv1 m1 so1) (h:YT m1=some res1)
  (hR:R (.int .i64 res1) μ (so1::L)) :
  Fn Try.prog 17 [pv1] μ (so1::L) R:=by
 unfold YT at h;refine FnS Try.func17 (by kernel_rfl) E Try.ntmps17 E E ?_;obtain ⟨_,_,_,_,_,_,_,_,_,_,_,hv1,rfl,_,_,_⟩:=hP1;subst hv1;refine G0 6 E (In Qc.fl 0 5 E E E (G2 14 [] [4] [0] E ?_));cases h;exact Rt [] E E (Ug [[0,1,2,3,4]] 5 hR)
end Go.Proofs.Ytfdjjdhnfaklbaa
