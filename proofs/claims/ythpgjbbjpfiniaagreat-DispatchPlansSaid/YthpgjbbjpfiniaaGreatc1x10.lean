/- DispatchPlans: for every input the given law returns true, and its arguments read as before. No condition. -/
import Derived.Test.YthpgjbbjpfiniaaGreatc1x1
import Derived.Test.YthpgjbbjpfiniaaGreatc1x3
import Derived.Test.YthpgjbbjpfiniaaGreatc1x6
namespace Go.Proofs.YthpgjbbjpfiniaaGreat
open Go.RowKit
set_option linter.unusedSimpArgs false
set_option linter.unusedVariables false
set_option maxHeartbeats 2000000
set_option maxRecDepth 4000
attribute [local irreducible] WP Zp Qas Fn AN Upd vcR vcO QbS Jh Jj Qau QaR QbN Qao Wm Qcb QM KS
variable {μ:Gh} {L:List Seg} {R:Value→Gh→List Seg→Prop}
theorem Qa0  {r1:QX} {A1:Option Addr} {c1:Nat} {res1:Int}
  (hl1:r1.Edges.length≤c1∧c1≤maxLen) (hA1:Qz QN μ A1 r1.Edges) (h:JB r1=some res1)
  (hR:R (.int .i64 res1) μ (L)) :
  Fn Tryz.prog 88 [.agg #[.int .i64 r1.Nodes,.slice A1 r1.Edges.length c1]] μ (L) R:=by
 unfold JB at h;refine FnS Tryz.func88 (by kernel_rfl) E Tryz.ntmps88 E E ?_;refine G0 2 E (Al E fun _=>Q0 4 E ?_);refine Cut h (fun f l o_ f_ μ_ l_=> ∃(v1:Bool),v1=o_∧Ql ((12,.bool v1)::Qq [1] f) f_∧Qe l l_∧μ=μ_) ?_ ?_
 ·intro _ h34568 h;refine G1 5 [0] E ?_;refine Br h34568 8 E E (fun hc1 h34568=> ?_) (fun hc1 h34568=> ?_)
  ·refine G2 5 [8] [] [] E ?_;cases h34568;exact Ce E ⟨_,rfl,fE E,sE [some 0] 1 E,rfl⟩
  refine G2 5 [] [8] [0] E ?_;cases h34568;exact Ce E ⟨_,rfl,fE E,sE [some 0] 1 E,rfl⟩
 rintro _ _ _ _ h _ ⟨v1,rfl,hF34568,hS34568,rfl⟩;refine Atn 1 hF34568 hS34568 E E ?_;refine Br h 12 E E (fun hc2 h=> ?_) (fun hc2 h=> ?_)
 ·refine G2 5 [12] [] [] E ?_;cases h;exact Rt [] E E (Ug [] 1 hR)
 refine G2 10 [] [12] [0] E ?_;refine Br h 16 E E (fun hc3 h=> ?_) (fun hc3 h=> ?_)
 ·refine G2 5 [16] [] [] E ?_;cases h;exact Rt [] E E (Ug [] 1 hR)
 refine G2 10 [] [16] [0] E ?_;refine Cut h (fun f l o_ f_ μ_ l_=>(.inl ())=o_∧Ql ([]) f_∧Qe (QI [] 1 l) l_∧μ=μ_) ?_ ?_
 ·intro _ h34571 h;refine Lp h34571 (fun f l (v2:Int) f_ μ_ l_=>Ql ((20,.int .i64 v2)::Qq [1,18,19] f) f_∧Qe l l_∧μ=μ_) ⟨fE E,sE [some 0] 1 E,E⟩ ?_;rintro v2 _ _ _ _ _ ⟨hF34586,hS34586,rfl⟩ hb34586 hq34586;unfold Y3 at hb34586;refine Atn 1 hF34586 hS34586 E E (G0 5 E ?_);refine Br hb34586 21 E E (fun hc4 hb34586=> ?_) (fun hc4 hb34586=> ?_)
  ·refine G2 6 [21] [] [] E (Ix hb34586 (Qz.rds hA1 L) E E fun _ _ _ _ hr1 hc5 _ hb34586=> ?_);obtain rfl:=hr1;refine Q3 1 [] [] [64] (Z1 (hc5.push)) E (Al E fun _=>Q1 4 [0] E ?_);refine Cut hb34586 (fun f l o_ f_ μ_ l_=> ∃(v3:Bool),v3=o_∧Ql ((45,.bool v3)::Qq [1,4,18,19,20] f) f_∧Qe (QI [some 1,some 0] 2 l) l_∧μ=μ_) ?_ ?_
   ·intro _ h34592 hb34586;refine G1 5 [0] E ?_;refine Br h34592 27 E E (fun hc6 h34592=> ?_) (fun hc6 h34592=> ?_)
    ·refine G2 19 [27,34,39] [] [] E ?_;cases h34592;exact Ce E ⟨_,rfl,fE E,sE [some 1,some 0] 2 E,rfl⟩
    refine G2 7 [] [27] [0,1] E ?_;refine Br h34592 34 E E (fun hc7 h34592=> ?_) (fun hc7 h34592=> ?_)
    ·refine G2 12 [34,39] [] [] E ?_;cases h34592;exact Ce E ⟨_,rfl,fE E,sE [some 1,some 0] 2 E,rfl⟩
    refine G2 5 [] [34] [0] E ?_;refine Br h34592 39 E E (fun hc8 h34592=> ?_) (fun hc8 h34592=> ?_)
    ·refine G2 7 [39] [] [] E ?_;cases h34592;exact Ce E ⟨_,rfl,fE E,sE [some 1,some 0] 2 E,rfl⟩
    refine G2 7 [] [39] [0,1] E ?_;cases h34592;exact Ce E ⟨_,rfl,fE E,sE [some 1,some 0] 2 E,rfl⟩
   rintro _ _ _ _ hb34586 _ ⟨v3,rfl,hF34592,hS34592,rfl⟩;refine Atn 2 hF34592 hS34592 E E ?_;refine Br hb34586 45 E E (fun hc9 hb34586=> ?_) (fun hc9 hb34586=> ?_)
   ·refine G2 5 [45] [] [] E ?_;cases hb34586;have hq_:=hq34586 _ E;subst hq_;replace h:=Yn h;cases h;exact Rt [] E E (Ug [] 2 hR)
   refine G2 3 [] [45] [] E ?_;refine Cut hb34586 (fun f l o_ f_ μ_ l_=> ∃(v4:Bool),v4=o_∧Ql ((70,.bool v4)::Qq [1,18,19,20] f) f_∧Qe (QI [some 0] 2 l) l_∧μ=μ_) ?_ ?_
   ·intro _ h34597 hb34586;refine G1 7 [1,1] E ?_;refine Br h34597 51 E E (fun hc10 h34597=> ?_) (fun hc10 h34597=> ?_)
    ·refine G2 20 [51,56,61,66] [] [] E ?_;cases h34597;exact Ce E ⟨_,rfl,fE E,sE [some 0] 2 E,rfl⟩
    refine G2 5 [] [51] [1] E ?_;refine Br h34597 56 E E (fun hc11 h34597=> ?_) (fun hc11 h34597=> ?_)
    ·refine G2 15 [56,61,66] [] [] E ?_;cases h34597;exact Ce E ⟨_,rfl,fE E,sE [some 0] 2 E,rfl⟩
    refine G2 5 [] [56] [1] E ?_;refine Br h34597 61 E E (fun hc12 h34597=> ?_) (fun hc12 h34597=> ?_)
    ·refine G2 10 [61,66] [] [] E ?_;cases h34597;exact Ce E ⟨_,rfl,fE E,sE [some 0] 2 E,rfl⟩
    refine G2 5 [] [61] [1] E ?_;refine Br h34597 66 E E (fun hc13 h34597=> ?_) (fun hc13 h34597=> ?_)
    ·refine G2 5 [66] [] [] E ?_;cases h34597;exact Ce E ⟨_,rfl,fE E,sE [some 0] 2 E,rfl⟩
    refine G2 5 [] [66] [1] E ?_;cases h34597;exact Ce E ⟨_,rfl,fE E,sE [some 0] 2 E,rfl⟩
   rintro _ _ _ _ hb34586 _ ⟨v4,rfl,hF34597,hS34597,rfl⟩;refine Atn 1 hF34597 hS34597 E E ?_;refine Br hb34586 70 E E (fun hc14 hb34586=> ?_) (fun hc14 hb34586=> ?_)
   ·refine G2 5 [70] [] [] E ?_;cases hb34586;have hq_:=hq34586 _ E;subst hq_;replace h:=Yn h;cases h;exact Rt [] E E (Ug [] 1 hR)
   refine G2 7 [] [70] [] E ?_;cases hb34586;exact Ce E ⟨_,rfl,fE E,sE [some 0] 1 E,rfl⟩
  refine G2 2 [] [21] [] E ?_;cases hb34586;have hq_:=hq34586 _ E;subst hq_;exact Ce E ⟨rfl,fE E,sE [] 1 E,rfl⟩
 rintro _ _ _ _ h _ ⟨rfl,hF34571,hS34571,rfl⟩;replace h:=YB h;refine Atn 0 hF34571 hS34571 E E (G0 4 E ?_);cases h;exact Rt [] E E (Ug [] 0 hR)
theorem QaI  {c1:Int}  {res1:Bool}
   (h:YX c1=some res1)
  (hR:R (.bool res1) μ (L)) :
  Fn Tryz.prog 144 [.int .u8 c1] μ (L) R:=by
 unfold YX at h;refine FnS Tryz.func144 (by kernel_rfl) E Tryz.ntmps144 E E ?_;refine G0 5 E ?_;refine Cut h (fun f l o_ f_ μ_ l_=> ∃(v1:Bool),v1=o_∧Ql ((2,.bool v1)::[]) f_∧Qe l l_∧μ=μ_) ?_ ?_
 ·intro _ h34606 h;refine G0 4 E ?_;refine Br h34606 5 E E (fun hc1 h34606=> ?_) (fun hc1 h34606=> ?_)
  ·refine G2 4 [5] [] [] E ?_;refine Br h34606 9 E E (fun hc2 h34606=> ?_) (fun hc2 h34606=> ?_)
   ·refine G2 9 [9] [] [] E ?_;cases h34606;exact Ce E ⟨_,rfl,fE E,sE [] 0 E,rfl⟩
   refine G2 3 [] [9] [] E ?_;refine Br h34606 12 E E (fun hc3 h34606=> ?_) (fun hc3 h34606=> ?_)
   ·refine G2 6 [12] [9] [] E ?_;cases h34606;exact Ce E ⟨_,rfl,fE E,sE [] 0 E,rfl⟩
   refine G2 6 [] [9,12] [] E ?_;cases h34606;exact Ce E ⟨_,rfl,fE E,sE [] 0 E,rfl⟩
  refine G2 7 [] [5,9] [] E ?_;refine Br h34606 12 E E (fun hc4 h34606=> ?_) (fun hc4 h34606=> ?_)
  ·refine G2 6 [12] [9] [] E ?_;cases h34606;exact Ce E ⟨_,rfl,fE E,sE [] 0 E,rfl⟩
  refine G2 6 [] [9,12] [] E ?_;cases h34606;exact Ce E ⟨_,rfl,fE E,sE [] 0 E,rfl⟩
 rintro _ _ _ _ h _ ⟨v1,rfl,hF34606,hS34606,rfl⟩;refine Atn 0 hF34606 hS34606 E E ?_;cases h;exact Rt [] E E (Ug [] 0 hR)
theorem Qdv  {s1:ByteArray}  {res1:Bool}
   (h:ZT s1=some res1)
  (hR:R (.bool res1) μ (L)) :
  Fn Tryz.prog 125 [.string s1] μ (L) R:=by
 unfold ZT at h;refine FnS Tryz.func125 (by kernel_rfl) E Tryz.ntmps125 E E ?_;refine G0 6 E ?_;refine Cut h (fun f l o_ f_ μ_ l_=> ∃(v1:Bool),v1=o_∧Ql ((18,.bool v1)::Qq [0] f) f_∧Qe l l_∧μ=μ_) ?_ ?_
 ·intro _ h34605 h;refine G0 5 E ?_;refine Br h34605 8 E E (fun hc1 h34605=> ?_) (fun hc1 h34605=> ?_)
  ·refine G2 11 [8,13] [] [] E ?_;cases h34605;exact Ce E ⟨_,rfl,fE E,sE [] 0 E,rfl⟩
  refine G2 5 [] [8] [] E ?_;refine Br h34605 13 E E (fun hc2 h34605=> ?_) (fun hc2 h34605=> ?_)
  ·refine G2 6 [13] [] [] E ?_;cases h34605;exact Ce E ⟨_,rfl,fE E,sE [] 0 E,rfl⟩
  obtain ⟨_,hb1,h34605⟩:=Qj h34605;refine G2 1 [] [13] [] E (Rdo E E (QjY QB E E E E hb1 (Q0 0 E (Cl E ?_))));obtain ⟨_,hx1,h34605⟩:=Qj h34605;refine QaI  hx1 ((Q2 3 [] [13] [] E ?_));cases h34605;exact Ce E ⟨_,rfl,fE E,sE [] 0 E,rfl⟩
 rintro _ _ _ _ h _ ⟨v1,rfl,hF34605,hS34605,rfl⟩;refine Atn 0 hF34605 hS34605 E E ?_;refine Br h 18 E E (fun hc3 h=> ?_) (fun hc3 h=> ?_)
 ·refine G2 5 [18] [] [] E ?_;cases h;exact Rt [] E E (Ug [] 0 hR)
 refine G2 7 [] [18] [] E ?_;refine Cut h (fun f l o_ f_ μ_ l_=>(.inl ())=o_∧Ql ([]) f_∧Qe l l_∧μ=μ_) ?_ ?_
 ·intro _ h34607 h;refine Lp h34607 (fun f l (i1:Int) f_ μ_ l_=>Ql ((3,.int .i64 i1)::Qq [0] f) f_∧Qe l l_∧μ=μ_) ⟨fE E,sE [] 0 E,E⟩ ?_;rintro i1 _ _ _ _ _ ⟨hF34610,hS34610,rfl⟩ hb34610 hq34610;unfold Ye at hb34610;refine Atn 0 hF34610 hS34610 E E (G0 8 E ?_);refine Br hb34610 22 E E (fun hc4 hb34610=> ?_) (fun hc4 hb34610=> ?_)
  ·obtain ⟨
       _,hb2,hb34610⟩:=Qj hb34610
   refine G2 8 [22] [] [] E (Rdo E E (QjY QB E E E E hb2 (Q0 3 E ?_)));refine Cut hb34610 (fun f l o_ f_ μ_ l_=> ∃(v2:Bool),v2=o_∧Ql ((50,.bool v2)::Qq [0,3] f) f_∧Qe l l_∧μ=μ_) ?_ ?_
   ·intro _ h34611 hb34610;refine G0 2 E (Cl E ?_);obtain ⟨_,hx2,h34611⟩:=Qj h34611;refine QaI  hx2 ((Q0 2 E ?_));refine Br h34611 31 E E (fun hc5 h34611=> ?_) (fun hc5 h34611=> ?_)
    ·refine G2 3 [31] [] [] E ?_;refine Br h34611 34 E E (fun hc6 h34611=> ?_) (fun hc6 h34611=> ?_)
     ·refine G2 9 [31,34,39] [] [] E ?_;refine Br h34611 43 E E (fun hc7 h34611=> ?_) (fun hc7 h34611=> ?_)
      ·refine G2 4 [43] [] [] E ?_;refine Br h34611 47 E E (fun hc8 h34611=> ?_) (fun hc8 h34611=> ?_)
       ·refine G2 4 [47] [] [] E ?_;cases h34611;exact Ce E ⟨_,rfl,fE E,sE [] 0 E,rfl⟩
       refine G2 4 [] [47] [] E ?_;cases h34611;exact Ce E ⟨_,rfl,fE E,sE [] 0 E,rfl⟩
      refine G2 8 [] [43,47] [] E ?_;cases h34611;exact Ce E ⟨_,rfl,fE E,sE [] 0 E,rfl⟩
     refine G2 5 [31] [34] [] E ?_;refine Br h34611 39 E E (fun hc9 h34611=> ?_) (fun hc9 h34611=> ?_)
     ·refine G2 4 [39] [] [] E ?_;refine Br h34611 43 E E (fun hc10 h34611=> ?_) (fun hc10 h34611=> ?_)
      ·refine G2 4 [43] [] [] E ?_;refine Br h34611 47 E E (fun hc11 h34611=> ?_) (fun hc11 h34611=> ?_)
       ·refine G2 4 [47] [] [] E ?_;cases h34611;exact Ce E ⟨_,rfl,fE E,sE [] 0 E,rfl⟩
       refine G2 4 [] [47] [] E ?_;cases h34611;exact Ce E ⟨_,rfl,fE E,sE [] 0 E,rfl⟩
      refine G2 8 [] [43,47] [] E ?_;cases h34611;exact Ce E ⟨_,rfl,fE E,sE [] 0 E,rfl⟩
     refine G2 12 [] [39,43,47] [] E ?_;cases h34611;exact Ce E ⟨_,rfl,fE E,sE [] 0 E,rfl⟩
    refine G2 20 [] [31,39,43,47] [] E ?_;cases h34611;exact Ce E ⟨_,rfl,fE E,sE [] 0 E,rfl⟩
   rintro _ _ _ _ hb34610 _ ⟨v2,rfl,hF34611,hS34611,rfl⟩;refine Atn 0 hF34611 hS34611 E E ?_;refine Br hb34610 50 E E (fun hc12 hb34610=> ?_) (fun hc12 hb34610=> ?_)
   ·refine G2 5 [50] [] [] E ?_;cases hb34610;have hq_:=hq34610 _ E;subst hq_;replace h:=Yn h;cases h;exact Rt [] E E (Ug [] 0 hR)
   refine G2 8 [] [50] [] E ?_;cases hb34610;exact Ce E ⟨_,rfl,fE E,sE [] 0 E,rfl⟩
  refine G2 2 [] [22] [] E ?_;cases hb34610;have hq_:=hq34610 _ E;subst hq_;exact Ce E ⟨rfl,fE E,sE [] 0 E,rfl⟩
 rintro _ _ _ _ h _ ⟨rfl,hF34607,hS34607,rfl⟩;replace h:=YB h;refine Atn 0 hF34607 hS34607 E E (G0 4 E ?_);cases h;exact Rt [] E E (Ug [] 0 hR)
theorem Qd8  {v1:Qy} {nodes1:Int} {materials1:Int}  {res1:Int}
   (h:Yo v1 nodes1 materials1=some res1)
  (hR:R (.int .i64 res1) μ (L)) :
  Fn Tryz.prog 112 [.agg #[.string v1.ID,.int .i64 v1.Depot,.int .i64 v1.Shift.From,.int .i64 v1.Shift.To,.int .i64 v1.Grams,.int .i64 v1.Kinds],.int .i64 nodes1,.int .i64 materials1] μ (L) R:=by
 unfold Yo at h;refine FnS Tryz.func112 (by kernel_rfl) E Tryz.ntmps112 E E ?_;refine G0 2 E (Al E fun _=>Q1 7 [0] E (Cl E ?_));obtain ⟨_,hx1,h⟩:=Qj h;refine Qdv  hx1 ((Q0 2 E ?_));refine Br h 10 E E (fun hc1 h=> ?_) (fun hc1 h=> ?_)
 ·refine G2 5 [10] [] [] E ?_;cases h;exact Rt [] E E (Ug [] 1 hR)
 refine G2 4 [] [10] [] E ?_;refine Cut h (fun f l o_ f_ μ_ l_=> ∃(v2:Bool),v2=o_∧Ql ((19,.bool v2)::Qq [2,3] f) f_∧Qe l l_∧μ=μ_) ?_ ?_
 ·intro _ h34612 h;refine G1 5 [0] E ?_;refine Br h34612 14 E E (fun hc2 h34612=> ?_) (fun hc2 h34612=> ?_)
  ·refine G2 6 [14] [] [] E ?_;cases h34612;exact Ce E ⟨_,rfl,fE E,sE [some 0] 1 E,rfl⟩
  refine G2 6 [] [14] [0] E ?_;cases h34612;exact Ce E ⟨_,rfl,fE E,sE [some 0] 1 E,rfl⟩
 rintro _ _ _ _ h _ ⟨v2,rfl,hF34612,hS34612,rfl⟩;refine Atn 1 hF34612 hS34612 E E ?_;refine Br h 19 E E (fun hc3 h=> ?_) (fun hc3 h=> ?_)
 ·refine G2 5 [19] [] [] E ?_;cases h;exact Rt [] E E (Ug [] 1 hR)
 refine G2 4 [] [19] [] E ?_;refine Cut h (fun f l o_ f_ μ_ l_=> ∃(v3:Bool),v3=o_∧Ql ((38,.bool v3)::Qq [2,3] f) f_∧Qe l l_∧μ=μ_) ?_ ?_
 ·intro _ h34615 h;refine G1 6 [0] E ?_;refine Br h34615 24 E E (fun hc4 h34615=> ?_) (fun hc4 h34615=> ?_)
  ·refine G2 15 [24,33] [] [] E ?_;cases h34615;exact Ce E ⟨_,rfl,fE E,sE [some 0] 1 E,rfl⟩
  refine G2 9 [] [24] [0,0] E ?_;refine Br h34615 33 E E (fun hc5 h34615=> ?_) (fun hc5 h34615=> ?_)
  ·refine G2 6 [33] [] [] E ?_;cases h34615;exact Ce E ⟨_,rfl,fE E,sE [some 0] 1 E,rfl⟩
  refine G2 6 [] [33] [0] E ?_;cases h34615;exact Ce E ⟨_,rfl,fE E,sE [some 0] 1 E,rfl⟩
 rintro _ _ _ _ h _ ⟨v3,rfl,hF34615,hS34615,rfl⟩;refine Atn 1 hF34615 hS34615 E E ?_;refine Br h 38 E E (fun hc6 h=> ?_) (fun hc6 h=> ?_)
 ·refine G2 5 [38] [] [] E ?_;cases h;exact Rt [] E E (Ug [] 1 hR)
 refine G2 4 [] [38] [] E ?_;refine Cut h (fun f l o_ f_ μ_ l_=> ∃(v4:Bool),v4=o_∧Ql ((46,.bool v4)::Qq [2,3] f) f_∧Qe l l_∧μ=μ_) ?_ ?_
 ·intro _ h34618 h;refine G1 5 [0] E ?_;refine Br h34618 42 E E (fun hc7 h34618=> ?_) (fun hc7 h34618=> ?_)
  ·refine G2 5 [42] [] [] E ?_;cases h34618;exact Ce E ⟨_,rfl,fE E,sE [some 0] 1 E,rfl⟩
  refine G2 5 [] [42] [0] E ?_;cases h34618;exact Ce E ⟨_,rfl,fE E,sE [some 0] 1 E,rfl⟩
 rintro _ _ _ _ h _ ⟨v4,rfl,hF34618,hS34618,rfl⟩;refine Atn 1 hF34618 hS34618 E E ?_;refine Br h 46 E E (fun hc8 h=> ?_) (fun hc8 h=> ?_)
 ·refine G2 5 [46] [] [] E ?_;cases h;exact Rt [] E E (Ug [] 1 hR)
 refine G2 4 [] [46] [] E ?_;refine Cut h (fun f l o_ f_ μ_ l_=> ∃(v5:Bool),v5=o_∧Ql ((56,.bool v5)::[]) f_∧Qe (QI [] 1 l) l_∧μ=μ_) ?_ ?_
 ·intro _ h34621 h;refine Dr _ QM.refl [(true,0),(true,1),(true,2),(true,3),(true,4),(true,5),(true,6),(true,7),(true,8),(true,9)] (by kernel_rfl) (G1 4 [0] E ?_);refine Br h34621 50 E E (fun hc9 h34621=> ?_) (fun hc9 h34621=> ?_)
  ·refine G2 7 [50] [] [] E ?_;cases h34621;exact Ce E ⟨_,rfl,fE E,sE [] 1 E,rfl⟩
  refine G2 3 [] [50] [0] E (Rdo E E ?_);obtain ⟨_,hg1,h34621⟩:=Qj h34621;refine Qok E E E (J1 hg1) (Q2 3 [] [50] [] E ?_);cases h34621;exact Ce E ⟨_,rfl,fE E,sE [] 1 E,rfl⟩
 rintro _ _ _ _ h _ ⟨v5,rfl,hF34621,hS34621,rfl⟩;refine Atn 0 hF34621 hS34621 E E ?_;refine Br h 56 E E (fun hc10 h=> ?_) (fun hc10 h=> ?_)
 ·refine G2 5 [56] [] [] E ?_;cases h;exact Rt [] E E (Ug [] 0 hR)
 refine G2 6 [] [56] [] E ?_;cases h;exact Rt [] E E (Ug [] 0 hR)
theorem Qdn  {l1:(List Qy)} {nodes1:Int} {materials1:Int} {A1:Option Addr} {c1:Nat} {res1:Int}
  (hl1:l1.length≤c1∧c1≤maxLen) (hA1:Rds QF μ L A1 l1) (h:YG l1 nodes1 materials1=some res1)
  (hR:R (.int .i64 res1) μ (L)) :
  Fn Tryz.prog 89 [.slice A1 l1.length c1,.int .i64 nodes1,.int .i64 materials1] μ (L) R:=by
 unfold YG at h;refine FnS Tryz.func89 (by kernel_rfl) E Tryz.ntmps89 E E ?_;refine G0 6 E ?_;refine Cut h (fun f l o_ f_ μ_ l_=> ∃(v1:Bool),v1=o_∧Ql ((24,.bool v1)::Qq [0,1,2] f) f_∧Qe l l_∧μ=μ_) ?_ ?_
 ·intro _ h34601 h;refine G0 4 E ?_;refine Br h34601 13 E E (fun hc1 h34601=> ?_) (fun hc1 h34601=> ?_)
  ·refine G2 12 [13,17,21] [] [] E ?_;cases h34601;exact Ce E ⟨_,rfl,fE E,sE [] 0 E,rfl⟩
  refine G2 4 [] [13] [] E ?_;refine Br h34601 17 E E (fun hc2 h34601=> ?_) (fun hc2 h34601=> ?_)
  ·refine G2 8 [17,21] [] [] E ?_;cases h34601;exact Ce E ⟨_,rfl,fE E,sE [] 0 E,rfl⟩
  refine G2 4 [] [17] [] E ?_;refine Br h34601 21 E E (fun hc3 h34601=> ?_) (fun hc3 h34601=> ?_)
  ·refine G2 4 [21] [] [] E ?_;cases h34601;exact Ce E ⟨_,rfl,fE E,sE [] 0 E,rfl⟩
  refine G2 4 [] [21] [] E ?_;cases h34601;exact Ce E ⟨_,rfl,fE E,sE [] 0 E,rfl⟩
 rintro _ _ _ _ h _ ⟨v1,rfl,hF34601,hS34601,rfl⟩;refine Atn 0 hF34601 hS34601 E E ?_;refine Br h 24 E E (fun hc4 h=> ?_) (fun hc4 h=> ?_)
 ·refine G2 5 [24] [] [] E ?_;cases h;exact Rt [] E E (Ug [] 0 hR)
 refine G2 9 [] [24] [] E ?_;refine Br h 27 E E (fun hc5 h=> ?_) (fun hc5 h=> ?_)
 ·refine G2 5 [27] [] [] E ?_;cases h;exact Rt [] E E (Ug [] 0 hR)
 refine G2 9 [] [27] [] E ?_;refine Br h 30 E E (fun hc6 h=> ?_) (fun hc6 h=> ?_)
 ·refine G2 5 [30] [] [] E ?_;cases h;exact Rt [] E E (Ug [] 0 hR)
 refine G2 7 [] [30] [] E ?_;refine Cut h (fun f l o_ f_ μ_ l_=>(.inl ())=o_∧Ql (Qq [0] f) f_∧Qe l l_∧μ=μ_) ?_ ?_
 ·intro _ h34602 h;refine Lp h34602 (fun f l (i1:Int) f_ μ_ l_=>Ql ((7,.int .i64 i1)::Qq [0,1,2] f) f_∧Qe l l_∧μ=μ_) ⟨fE E,sE [] 0 E,E⟩ ?_;rintro i1 _ _ _ _ _ ⟨hF34622,hS34622,rfl⟩ hb34622 hq34622;unfold Yc at hb34622;refine Atn 0 hF34622 hS34622 E E (G0 8 E ?_);refine Br hb34622 34 E E (fun hc7 hb34622=> ?_) (fun hc7 hb34622=> ?_)
  ·refine G2 8 [34] [] [] E (Ix hb34622 hA1 E E fun _ _ _ _ hr1 hc8 _ hb34622=> ?_);obtain rfl:=hr1;refine Q3 3 [] [] [64] (Z1 hc8) E (Cl E ?_);obtain ⟨_,hx2,hb34622⟩:=Qj hb34622;refine Qd8  hx2 ((Q0 7 E ?_));refine Br hb34622 45 E E (fun hc9 hb34622=> ?_) (fun hc9 hb34622=> ?_)
   ·refine G2 6 [45] [] [] E ?_;cases hb34622;have hq_:=hq34622 _ E;subst hq_;replace h:=Yn h;cases h;exact Rt [] E E (Ug [] 0 hR)
   refine G2 8 [] [45] [] E ?_;cases hb34622;exact Ce E ⟨_,rfl,fE E,sE [] 0 E,rfl⟩
  refine G2 2 [] [34] [] E ?_;cases hb34622;have hq_:=hq34622 _ E;subst hq_;exact Ce E ⟨rfl,fE E,sE [] 0 E,rfl⟩
 rintro _ _ _ _ h _ ⟨rfl,hF34602,hS34602,rfl⟩;replace h:=YB h;refine Atn 0 hF34602 hS34602 E E (G0 5 E ?_);refine Cut h (fun f l o_ f_ μ_ l_=>(.inl ())=o_∧Ql ([]) f_∧Qe l l_∧μ=μ_) ?_ ?_
 ·intro _ h34623 h;refine Lp h34623 (fun f l (i2:Int) f_ μ_ l_=>Ql ((9,.int .i64 i2)::Qq [0] f) f_∧Qe l l_∧μ=μ_) ⟨fE E,sE [] 0 E,E⟩ ?_;rintro i2 _ _ _ _ _ ⟨hF34629,hS34629,rfl⟩ hb34629 hq34629;unfold Jt at hb34629;refine Atn 0 hF34629 hS34629 E E (G0 8 E ?_);refine Br hb34629 50 E E (fun hc10 hb34629=> ?_) (fun hc10 hb34629=> ?_)
  ·refine G2 3 [50] [] [] E ?_;refine Cut hb34629 (fun f l o_ f_ μ_ l_=>(.inl ())=o_∧Ql (Qq [0,9] f) f_∧Qe l l_∧μ=μ_) ?_ ?_
   ·intro _ h34630 hb34629;refine G0 5 E ?_;refine Cut h34630 (fun f l o_ f_ μ_ l_=>(.inl ())=o_∧Ql (Qq [0,9] f) f_∧Qe l l_∧μ=μ_) ?_ ?_
    ·intro _ h34631 h34630;refine Lp h34631 (fun f l (k1:Int) f_ μ_ l_=>Ql ((10,.int .i64 k1)::Qq [0,9] f) f_∧Qe l l_∧μ=μ_) ⟨fE E,sE [] 0 E,E⟩ ?_;rintro k1 _ _ _ _ _ ⟨hF34633,hS34633,rfl⟩ hb34633 hq34633;unfold Jq at hb34633;refine Atn 0 hF34633 hS34633 E E (G0 7 E ?_);refine Br hb34633 55 E E (fun hc11 hb34633=> ?_) (fun hc11 hb34633=> ?_)
     ·refine G2 5 [55] [] [] E (Dr _ QM.refl [(true,0),(true,1),(true,2),(true,3),(true,4),(true,5),(true,6),(true,7),(true,8),(true,9),(true,10)] (by kernel_rfl) (G0 2 E (Ix hb34633 hA1 E E fun _ _ _ _ hr2 hc12 _ hb34633=> ?_)));obtain rfl:=hr2;refine Q3 4 [] [] [64] (Z1 hc12) E (Ix hb34633 hA1 E E fun _ _ _ _ hr3 hc13 _ hb34633=> ?_);obtain rfl:=hr3;refine Q3 2 [] [] [64] (Z1 hc13) E (Rdo E E (QpS QB E E E E (Q0 1 E ?_)));refine Br hb34633 68 E E (fun hc14 hb34633=> ?_) (fun hc14 hb34633=> ?_)
      ·refine G2 5 [68] [] [] E ?_;cases hb34633;have hq_:=hq34633 _ E;subst hq_;replace h34630:=Yn h34630;cases h34630;replace hb34629:=Yn hb34629;cases hb34629;have hq_:=hq34629 _ E;subst hq_;replace h:=Yn h;cases h;exact Rt [] E E (Ug [] 0 hR)
      refine G2 8 [] [68] [] E ?_;cases hb34633;exact Ce E ⟨_,rfl,fE E,sE [] 0 E,rfl⟩
     refine G2 2 [] [55] [] E ?_;cases hb34633;have hq_:=hq34633 _ E;subst hq_;exact Ce E ⟨rfl,fE E,sE [] 0 E,rfl⟩
    rintro _ _ _ _ h34630 _ ⟨rfl,hF34631,hS34631,rfl⟩;replace h34630:=YB h34630;refine G0 1 E ?_;cases h34630;exact Ce E ⟨rfl,hF34631.tr E,hS34631.tr (sE [] 0 E),rfl⟩
   rintro _ _ _ _ hb34629 _ ⟨rfl,hF34630,hS34630,rfl⟩;replace hb34629:=YB hb34629;refine Atn 0 hF34630 hS34630 E E (G0 5 E ?_);cases hb34629;exact Ce E ⟨_,rfl,fE E,sE [] 0 E,rfl⟩
  refine G2 2 [] [50] [] E ?_;cases hb34629;have hq_:=hq34629 _ E;subst hq_;exact Ce E ⟨rfl,fE E,sE [] 0 E,rfl⟩
 rintro _ _ _ _ h _ ⟨rfl,hF34623,hS34623,rfl⟩;replace h:=YB h;refine Atn 0 hF34623 hS34623 E E (G0 4 E ?_);cases h;exact Rt [] E E (Ug [] 0 hR)
theorem Qdw  {l1:(List QG)} {nodes1:Int} {materials1:Int} {A1:Option Addr} {c1:Nat} {res1:Int}
  (hl1:l1.length≤c1∧c1≤maxLen) (hA1:Rds QK μ L A1 l1) (h:YF l1 nodes1 materials1=some res1)
  (hR:R (.int .i64 res1) μ (L)) :
  Fn Tryz.prog 90 [.slice A1 l1.length c1,.int .i64 nodes1,.int .i64 materials1] μ (L) R:=by
 unfold YF at h;refine FnS Tryz.func90 (by kernel_rfl) E Tryz.ntmps90 E E ?_;refine G0 11 E ?_;refine Br h 13 E E (fun hc1 h=> ?_) (fun hc1 h=> ?_)
 ·refine G2 5 [13] [] [] E ?_;cases h;exact Rt [] E E (Ug [] 0 hR)
 refine G2 7 [] [13] [] E ?_;refine Cut h (fun f l o_ f_ μ_ l_=>(.inl ())=o_∧Ql (Qq [0] f) f_∧Qe l l_∧μ=μ_) ?_ ?_
 ·intro _ h34635 h;refine Lp h34635 (fun f l (i1:Int) f_ μ_ l_=>Ql ((7,.int .i64 i1)::Qq [0,1,2] f) f_∧Qe l l_∧μ=μ_) ⟨fE E,sE [] 0 E,E⟩ ?_;rintro i1 _ _ _ _ _ ⟨hF34643,hS34643,rfl⟩ hb34643 hq34643;unfold Yj at hb34643;refine Atn 0 hF34643 hS34643 E E (G0 8 E ?_);refine Br hb34643 17 E E (fun hc2 hb34643=> ?_) (fun hc2 hb34643=> ?_)
  ·refine G2 8 [17] [] [] E (Ix hb34643 hA1 E E fun _ _ _ _ hr1 hc3 _ hb34643=> ?_);obtain rfl:=hr1;refine Q3 1 [] [] [64] (Z1 hc3) E (Al E fun _=>Q1 4 [0] E ?_);refine Cut hb34643 (fun f l o_ f_ μ_ l_=> ∃(v1:Bool),v1=o_∧Ql ((53,.bool v1)::Qq [0,1,2,7,8] f) f_∧Qe l l_∧μ=μ_) ?_ ?_
   ·intro _ h34646 hb34643;refine G1 5 [0] E ?_;refine Br h34646 27 E E (fun hc4 h34646=> ?_) (fun hc4 h34646=> ?_)
    ·refine G2 27 [27,32,37,43,48] [] [] E ?_;cases h34646;exact Ce E ⟨_,rfl,fE E,sE [some 0] 1 E,rfl⟩
    refine G2 5 [] [27] [0] E ?_;refine Br h34646 32 E E (fun hc5 h34646=> ?_) (fun hc5 h34646=> ?_)
    ·refine G2 22 [32,37,43,48] [] [] E ?_;cases h34646;exact Ce E ⟨_,rfl,fE E,sE [some 0] 1 E,rfl⟩
    refine G2 5 [] [32] [0] E ?_;refine Br h34646 37 E E (fun hc6 h34646=> ?_) (fun hc6 h34646=> ?_)
    ·refine G2 17 [37,43,48] [] [] E ?_;cases h34646;exact Ce E ⟨_,rfl,fE E,sE [some 0] 1 E,rfl⟩
    refine G2 6 [] [37] [0] E ?_;refine Br h34646 43 E E (fun hc7 h34646=> ?_) (fun hc7 h34646=> ?_)
    ·refine G2 11 [43,48] [] [] E ?_;cases h34646;exact Ce E ⟨_,rfl,fE E,sE [some 0] 1 E,rfl⟩
    refine G2 5 [] [43] [0] E ?_;refine Br h34646 48 E E (fun hc8 h34646=> ?_) (fun hc8 h34646=> ?_)
    ·refine G2 6 [48] [] [] E ?_;cases h34646;exact Ce E ⟨_,rfl,fE E,sE [some 0] 1 E,rfl⟩
    refine G2 6 [] [48] [0] E ?_;cases h34646;exact Ce E ⟨_,rfl,fE E,sE [some 0] 1 E,rfl⟩
   rintro _ _ _ _ hb34643 _ ⟨v1,rfl,hF34646,hS34646,rfl⟩;refine Atn 1 hF34646 hS34646 E E ?_;refine Br hb34643 53 E E (fun hc9 hb34643=> ?_) (fun hc9 hb34643=> ?_)
   ·refine G2 5 [53] [] [] E ?_;cases hb34643;have hq_:=hq34643 _ E;subst hq_;replace h:=Yn h;cases h;exact Rt [] E E (Ug [] 1 hR)
   refine G2 3 [] [53] [] E ?_;refine Cut hb34643 (fun f l o_ f_ μ_ l_=> ∃(v2:Bool),v2=o_∧Ql ((92,.bool v2)::Qq [0,1,2,7] f) f_∧Qe (QI [] 1 l) l_∧μ=μ_) ?_ ?_
   ·intro _ h34649 hb34643;refine G1 5 [0] E ?_;refine Br h34649 57 E E (fun hc10 h34649=> ?_) (fun hc10 h34649=> ?_)
    ·refine G2 36 [57,62,68,77,83,88] [] [] E ?_;cases h34649;exact Ce E ⟨_,rfl,fE E,sE [] 1 E,rfl⟩
    refine G2 5 [] [57] [0] E ?_;refine Br h34649 62 E E (fun hc11 h34649=> ?_) (fun hc11 h34649=> ?_)
    ·refine G2 31 [62,68,77,83,88] [] [] E ?_;cases h34649;exact Ce E ⟨_,rfl,fE E,sE [] 1 E,rfl⟩
    refine G2 6 [] [62] [0] E ?_;refine Br h34649 68 E E (fun hc12 h34649=> ?_) (fun hc12 h34649=> ?_)
    ·refine G2 25 [68,77,83,88] [] [] E ?_;cases h34649;exact Ce E ⟨_,rfl,fE E,sE [] 1 E,rfl⟩
    refine G2 9 [] [68] [0,0] E ?_;refine Br h34649 77 E E (fun hc13 h34649=> ?_) (fun hc13 h34649=> ?_)
    ·refine G2 16 [77,83,88] [] [] E ?_;cases h34649;exact Ce E ⟨_,rfl,fE E,sE [] 1 E,rfl⟩
    refine G2 6 [] [77] [0] E ?_;refine Br h34649 83 E E (fun hc14 h34649=> ?_) (fun hc14 h34649=> ?_)
    ·refine G2 10 [83,88] [] [] E ?_;cases h34649;exact Ce E ⟨_,rfl,fE E,sE [] 1 E,rfl⟩
    refine G2 5 [] [83] [0] E ?_;refine Br h34649 88 E E (fun hc15 h34649=> ?_) (fun hc15 h34649=> ?_)
    ·refine G2 5 [88] [] [] E ?_;cases h34649;exact Ce E ⟨_,rfl,fE E,sE [] 1 E,rfl⟩
    refine G2 5 [] [88] [0] E ?_;cases h34649;exact Ce E ⟨_,rfl,fE E,sE [] 1 E,rfl⟩
   rintro _ _ _ _ hb34643 _ ⟨v2,rfl,hF34649,hS34649,rfl⟩;refine Atn 0 hF34649 hS34649 E E ?_;refine Br hb34643 92 E E (fun hc16 hb34643=> ?_) (fun hc16 hb34643=> ?_)
   ·refine G2 5 [92] [] [] E ?_;cases hb34643;have hq_:=hq34643 _ E;subst hq_;replace h:=Yn h;cases h;exact Rt [] E E (Ug [] 0 hR)
   refine G2 8 [] [92] [] E ?_;cases hb34643;exact Ce E ⟨_,rfl,fE E,sE [] 0 E,rfl⟩
  refine G2 2 [] [17] [] E ?_;cases hb34643;have hq_:=hq34643 _ E;subst hq_;exact Ce E ⟨rfl,fE E,sE [] 0 E,rfl⟩
 rintro _ _ _ _ h _ ⟨rfl,hF34635,hS34635,rfl⟩;replace h:=YB h;refine Atn 0 hF34635 hS34635 E E (G0 5 E ?_);refine Cut h (fun f l o_ f_ μ_ l_=>(.inl ())=o_∧Ql ([]) f_∧Qe l l_∧μ=μ_) ?_ ?_
 ·intro _ h34650 h;refine Lp h34650 (fun f l (i2:Int) f_ μ_ l_=>Ql ((9,.int .i64 i2)::Qq [0] f) f_∧Qe l l_∧μ=μ_) ⟨fE E,sE [] 0 E,E⟩ ?_;rintro i2 _ _ _ _ _ ⟨hF34656,hS34656,rfl⟩ hb34656 hq34656;unfold YL at hb34656;refine Atn 0 hF34656 hS34656 E E (G0 8 E ?_);refine Br hb34656 96 E E (fun hc17 hb34656=> ?_) (fun hc17 hb34656=> ?_)
  ·refine G2 3 [96] [] [] E ?_;refine Cut hb34656 (fun f l o_ f_ μ_ l_=>(.inl ())=o_∧Ql (Qq [0,9] f) f_∧Qe l l_∧μ=μ_) ?_ ?_
   ·intro _ h34657 hb34656;refine G0 5 E ?_;refine Cut h34657 (fun f l o_ f_ μ_ l_=>(.inl ())=o_∧Ql (Qq [0,9] f) f_∧Qe l l_∧μ=μ_) ?_ ?_
    ·intro _ h34658 h34657;refine Lp h34658 (fun f l (k1:Int) f_ μ_ l_=>Ql ((10,.int .i64 k1)::Qq [0,9] f) f_∧Qe l l_∧μ=μ_) ⟨fE E,sE [] 0 E,E⟩ ?_;rintro k1 _ _ _ _ _ ⟨hF34660,hS34660,rfl⟩ hb34660 hq34660;unfold YN at hb34660;refine Atn 0 hF34660 hS34660 E E (G0 7 E ?_);refine Br hb34660 101 E E (fun hc18 hb34660=> ?_) (fun hc18 hb34660=> ?_)
     ·refine G2 5 [101] [] [] E (Dr _ QM.refl [(true,0),(true,1),(true,2),(true,3),(true,4),(true,5),(true,6),(true,7),(true,8),(true,9),(true,10)] (by kernel_rfl) (G0 2 E (Ix hb34660 hA1 E E fun _ _ _ _ hr2 hc19 _ hb34660=> ?_)));obtain rfl:=hr2;refine Q3 4 [] [] [64] (Z1 hc19) E (Ix hb34660 hA1 E E fun _ _ _ _ hr3 hc20 _ hb34660=> ?_);obtain rfl:=hr3;refine Q3 4 [] [] [64] (Z1 hc20) E ?_;refine Br hb34660 114 E E (fun hc21 hb34660=> ?_) (fun hc21 hb34660=> ?_)
      ·refine G2 5 [114] [] [] E ?_;cases hb34660;have hq_:=hq34660 _ E;subst hq_;replace h34657:=Yn h34657;cases h34657;replace hb34656:=Yn hb34656;cases hb34656;have hq_:=hq34656 _ E;subst hq_;replace h:=Yn h;cases h;exact Rt [] E E (Ug [] 0 hR)
      refine G2 8 [] [114] [] E ?_;cases hb34660;exact Ce E ⟨_,rfl,fE E,sE [] 0 E,rfl⟩
     refine G2 2 [] [101] [] E ?_;cases hb34660;have hq_:=hq34660 _ E;subst hq_;exact Ce E ⟨rfl,fE E,sE [] 0 E,rfl⟩
    rintro _ _ _ _ h34657 _ ⟨rfl,hF34658,hS34658,rfl⟩;replace h34657:=YB h34657;refine G0 1 E ?_;cases h34657;exact Ce E ⟨rfl,hF34658.tr E,hS34658.tr (sE [] 0 E),rfl⟩
   rintro _ _ _ _ hb34656 _ ⟨rfl,hF34657,hS34657,rfl⟩;replace hb34656:=YB hb34656;refine Atn 0 hF34657 hS34657 E E (G0 5 E ?_);cases hb34656;exact Ce E ⟨_,rfl,fE E,sE [] 0 E,rfl⟩
  refine G2 2 [] [96] [] E ?_;cases hb34656;have hq_:=hq34656 _ E;subst hq_;exact Ce E ⟨rfl,fE E,sE [] 0 E,rfl⟩
 rintro _ _ _ _ h _ ⟨rfl,hF34650,hS34650,rfl⟩;replace h:=YB h;refine Atn 0 hF34650 hS34650 E E (G0 4 E ?_);cases h;exact Rt [] E E (Ug [] 0 hR)
theorem Wy  {p1:Qh} {A1:Option Addr} {c1:Nat} {A2:Option Addr} {c2:Nat} {A3:Option Addr} {c3:Nat} {res1:Int}
  (hl1:p1.Road.Edges.length≤c1∧c1≤maxLen) (hA1:Qz QN μ A1 p1.Road.Edges) (hl2:p1.Vehicles.length≤c2∧c2≤maxLen) (hA2:Qz QF μ A2 p1.Vehicles) (hl3:p1.Demands.length≤c3∧c3≤maxLen) (hA3:Qz QK μ A3 p1.Demands) (h:Qv p1=some res1)
  (hR:R (.int .i64 res1) μ (L)) :
  Fn Tryz.prog 56 [.agg #[.int .i64 p1.Road.Nodes,.slice A1 p1.Road.Edges.length c1,.slice A2 p1.Vehicles.length c2,.slice A3 p1.Demands.length c3,.int .i64 p1.Unload,.int .i64 p1.UnloadSecs]] μ (L) R:=by
 unfold Qv at h;refine FnS Tryz.func56 (by kernel_rfl) E Tryz.ntmps56 E E ?_;refine G0 2 E (Al E fun _=>Q1 7 [0] E (Cl E ?_));obtain ⟨_,hx1,h⟩:=Qj h;refine Qa0 hl1 hA1 hx1 ((Q0 7 E ?_));refine Br h 10 E E (fun hc1 h=> ?_) (fun hc1 h=> ?_)
 ·refine G2 6 [10] [] [] E ?_;cases h;exact Rt [] E E (Ug [] 1 hR)
 refine G2 10 [] [10] [0,0] E (Cl E ?_);obtain ⟨_,hx2,h⟩:=Qj h;refine Qdn hl2 (Qz.rds hA2 _) hx2 ((Q0 7 E ?_));refine Br h 19 E E (fun hc2 h=> ?_) (fun hc2 h=> ?_)
 ·refine G2 6 [19] [] [] E ?_;cases h;exact Rt [] E E (Ug [] 1 hR)
 refine G2 10 [] [19] [0,0] E (Cl E ?_);obtain ⟨_,hx3,h⟩:=Qj h;refine Qdw hl3 (Qz.rds hA3 _) hx3 ((Q0 7 E ?_));refine Br h 28 E E (fun hc3 h=> ?_) (fun hc3 h=> ?_)
 ·refine G2 6 [28] [] [] E ?_;cases h;exact Rt [] E E (Ug [] 1 hR)
 refine G2 4 [] [28] [] E ?_;refine Cut h (fun f l o_ f_ μ_ l_=> ∃(v1:Bool),v1=o_∧Ql ((40,.bool v1)::Qq [1] f) f_∧Qe l l_∧μ=μ_) ?_ ?_
 ·intro _ h34661 h;refine G1 5 [0] E ?_;refine Br h34661 33 E E (fun hc4 h34661=> ?_) (fun hc4 h34661=> ?_)
  ·refine G2 8 [33] [] [] E ?_;cases h34661;exact Ce E ⟨_,rfl,fE E,sE [some 0] 1 E,rfl⟩
  refine G2 8 [] [33] [0,0] E ?_;cases h34661;exact Ce E ⟨_,rfl,fE E,sE [some 0] 1 E,rfl⟩
 rintro _ _ _ _ h _ ⟨v1,rfl,hF34661,hS34661,rfl⟩;refine Atn 1 hF34661 hS34661 E E ?_;refine Br h 40 E E (fun hc5 h=> ?_) (fun hc5 h=> ?_)
 ·refine G2 5 [40] [] [] E ?_;cases h;exact Rt [] E E (Ug [] 1 hR)
 refine G2 4 [] [40] [] E ?_;refine Cut h (fun f l o_ f_ μ_ l_=> ∃(v2:Bool),v2=o_∧Ql ((48,.bool v2)::[]) f_∧Qe (QI [] 1 l) l_∧μ=μ_) ?_ ?_
 ·intro _ h34664 h;refine G1 5 [0] E ?_;refine Br h34664 44 E E (fun hc6 h34664=> ?_) (fun hc6 h34664=> ?_)
  ·refine G2 5 [44] [] [] E ?_;cases h34664;exact Ce E ⟨_,rfl,fE E,sE [] 1 E,rfl⟩
  refine G2 5 [] [44] [0] E ?_;cases h34664;exact Ce E ⟨_,rfl,fE E,sE [] 1 E,rfl⟩
 rintro _ _ _ _ h _ ⟨v2,rfl,hF34664,hS34664,rfl⟩;refine Atn 0 hF34664 hS34664 E E ?_;refine Br h 48 E E (fun hc7 h=> ?_) (fun hc7 h=> ?_)
 ·refine G2 5 [48] [] [] E ?_;cases h;exact Rt [] E E (Ug [] 0 hR)
 refine G2 6 [] [48] [] E ?_;cases h;exact Rt [] E E (Ug [] 0 hR)
theorem V6  {stops1:(List Int)} {d1:Int} {k1:Int} {unload1:Bool} {A1:Option Addr} {c1:Nat} {res1:(List Int)}
  (hl1:stops1.length≤c1∧c1≤maxLen) (hA1:Rds QP μ L A1 stops1) (h:ZC stops1 d1 k1 unload1=some res1)
  (hR: ∀(A0:Option Addr) (c0:Nat) (ch0:Seg),Own QP 3 μ (.slice A0 res1.length c0) res1 ch0→R (.slice A0 res1.length c0) μ (ch0::L)) :
  Fn Tryz.prog 101 [.slice A1 stops1.length c1,.int .i64 d1,.int .i64 k1,.bool unload1] μ (L) R:=by
 unfold ZC at h;refine FnS Tryz.func101 (by kernel_rfl) E Tryz.ntmps101 E E ?_;obtain ⟨_,hs1,h⟩:=Qj h;refine G0 13 E (Rdo E E (Qa9 E E E E E E hl1.1 hs1 ?_));have hA2:=Rds.pre hA1 hs1;have hl2:=Qcv hl1 hs1;refine Q0 0 E (So E (Yf E (Zp.pre (Upd.nilseg (Upd.done ?_)))));obtain ⟨_,hz1,h⟩:=Qj h;refine Yh (r:=QP) QB E E E E (by decide) E E 0 E (Own.nil (r:=QP) (e:=3)) E (Rds.push hA2) hz1 fun _ _ _ hO1=>Q0 6 E (So E (YW (z:=[.int .i64 0]) E E E E E E E (QZ (cells':=[.int .i64 d1]) E E E E (YH (fun g1=>Q0 0 E (So E (Yf E ?_)))))));obtain ⟨_,hz2,h⟩:=Qj h;refine Yh (r:=QP) QB E E E E (by decide) E E 1 E hO1 E (Own.rds (Own.lit (r:=QP) (e:=3) (g:=g1) (xs:=[d1]) (cs:=[.int .i64 d1]) (css:=[[.int .i64 d1]]) E (All2.cons (E) (All2.nil)) E E) 0 E) hz2 fun A3 c3 ch2 hO2=>Q0 7 E ?_;refine Cut h (fun f l o_ f_ μ_ l_=> ∃(l5:(List Int)) (A5:Option Addr) (c5:Nat) (ch4:Seg),l5=o_∧Ql ((9,.slice A5 l5.length c5)::Qq [0,2] f) f_∧Qe (ch4::QI [] 2 l) l_∧Own QP 3 μ_ (.slice A5 l5.length c5) l5 ch4∧μ=μ_) ?_ ?_
 ·intro _ h34805 h;refine Br h34805 19 E E (fun hc1 h34805=> ?_) (fun hc1 h34805=> ?_)
  ·refine G2 3 [19] [] [] E (So E (YW (z:=[.int .i64 0]) E E E E E E E (QZ (cells':=[.int .i64 (-1)]) E E E E (YH (fun g2=>Q0 0 E (So E (Yf E ?_)))))));obtain ⟨_,hz3,h34805⟩:=Qj h34805;refine Yh (r:=QP) QB E E E E (by decide) E E 2 E hO2 E (Own.rds (Own.lit (r:=QP) (e:=3) (g:=g2) (xs:=[(-1)]) (cs:=[.int .i64 (-1)]) (css:=[[.int .i64 (-1)]]) E (All2.cons (E) (All2.nil)) E E) 0 E) hz3 fun A4 c4 ch3 hO3=>Q0 2 E ?_;cases h34805;exact Ce E ⟨_,A4,c4,ch3,rfl,fE E,sE [some 2] 3 E,(hO3),rfl⟩
  refine G2 2 [] [19] [] E ?_;cases h34805;exact Ce E ⟨_,A3,c3,ch2,rfl,fE E,sE [some 1] 2 E,(hO2),rfl⟩
 rintro _ _ _ _ h _ ⟨l5,A5,c5,ch4,rfl,hF34805,hS34805,hO4,rfl⟩;obtain ⟨_,hs2,h⟩:=Qj h;refine Atn 1 hF34805 hS34805 E E (G0 5 E (Rdo E E (QcH (r:=QP) E E E E E E E hl1.1 hs2 fun _ hAe1=> ?_)));have hA3:=Rds.sub hA1 hl1.1 hs2 hAe1;have hl3:=Qel hl1 hs2;refine Q0 0 E (So E (Yf E ?_));obtain ⟨_,hz4,h⟩:=Qj h;refine Yh (r:=QP) QB E E E E (by decide) E E 0 E hO4 E (Rds.push hA3) hz4 fun A7 c6 ch5 hO5=>Q0 9 E (IxA h (Own.rds hO5 0 E) E E fun _ _ _ _ hr1 hc2 _ h=> ?_);obtain rfl:=hr1;refine Q3 3 [] [] [64] (Z1 hc2) E ?_;refine Cut h (fun f l o_ f_ μ_ l_=> ∃(l9:(List Int)) (A9:Option Addr) (c8:Nat) (ch7:Seg),l9=o_∧Ql ((9,.slice A9 l9.length c8)::[]) f_∧Qe (ch7::QI [] 1 l) l_∧Own QP 3 μ_ (.slice A9 l9.length c8) l9 ch7∧μ=μ_) ?_ ?_
 ·intro _ h34811 h;refine Br h34811 34 E E (fun hc3 h34811=> ?_) (fun hc3 h34811=> ?_)
  ·refine G2 3 [34] [] [] E (So E (YW (z:=[.int .i64 0]) E E E E E E E (QZ (cells':=[.int .i64 (-1)]) E E E E (YH (fun g3=>Q0 0 E (So E (Yf E ?_)))))));obtain ⟨_,hz5,h34811⟩:=Qj h34811;refine Yh (r:=QP) QB E E E E (by decide) E E 1 E hO5 E (Own.rds (Own.lit (r:=QP) (e:=3) (g:=g3) (xs:=[(-1)]) (cs:=[.int .i64 (-1)]) (css:=[[.int .i64 (-1)]]) E (All2.cons (E) (All2.nil)) E E) 0 E) hz5 fun A8 c7 ch6 hO6=>Q0 2 E ?_;cases h34811;exact Ce E ⟨_,A8,c7,ch6,rfl,fE E,sE [some 1] 2 E,(hO6),rfl⟩
  refine G2 2 [] [34] [] E ?_;cases h34811;exact Ce E ⟨_,A7,c6,ch5,rfl,fE E,sE [some 0] 1 E,(hO5),rfl⟩
 rintro _ _ _ _ h _ ⟨l9,A9,c8,ch7,rfl,hF34811,hS34811,hO7,rfl⟩;refine Atn 1 hF34811 hS34811 E E (G0 5 E ?_);cases h;exact Rt [] E E (Ug [[0]] 1 (hR A9 c8 ch7 hO7))
theorem QcE  {v1:Qy} {kind1:Int}  {res1:Bool}
   (h:Z0 v1 kind1=some res1)
  (hR:R (.bool res1) μ (L)) :
  Fn Tryz.prog 70 [.agg #[.string v1.ID,.int .i64 v1.Depot,.int .i64 v1.Shift.From,.int .i64 v1.Shift.To,.int .i64 v1.Grams,.int .i64 v1.Kinds],.int .i64 kind1] μ (L) R:=by
 unfold Z0 at h;refine FnS Tryz.func70 (by kernel_rfl) E Tryz.ntmps70 E E ?_;refine G0 2 E (Al E fun _=>Q0 4 E ?_);refine Cut h (fun f l o_ f_ μ_ l_=> ∃(v2:Bool),v2=o_∧Ql ((10,.bool v2)::Qq [1,2] f) f_∧Qe l l_∧μ=μ_) ?_ ?_
 ·intro _ h34953 h;refine G0 4 E ?_;refine Br h34953 7 E E (fun hc1 h34953=> ?_) (fun hc1 h34953=> ?_)
  ·refine G2 4 [7] [] [] E ?_;cases h34953;exact Ce E ⟨_,rfl,fE E,sE [some 0] 1 E,rfl⟩
  refine G2 4 [] [7] [] E ?_;cases h34953;exact Ce E ⟨_,rfl,fE E,sE [some 0] 1 E,rfl⟩
 rintro _ _ _ _ h _ ⟨v2,rfl,hF34953,hS34953,rfl⟩;refine Atn 1 hF34953 hS34953 E E ?_;refine Br h 10 E E (fun hc2 h=> ?_) (fun hc2 h=> ?_)
 ·refine G2 5 [10] [] [] E ?_;cases h;exact Rt [] E E (Ug [] 1 hR)
 refine G2 8 [] [10] [0] E (Rdo E E ?_);obtain ⟨_,hg1,h⟩:=Qj h;refine Qc3 E E E (J1 hg1) (Q1 4 [0] E ?_);cases h;exact Rt [] E E (Ug [] 1 hR)
theorem Qdu  {p1:Qh} {v1:Qy} {stops1:(List Int)} {i1:Int} {A1:Option Addr} {c1:Nat} {A2:Option Addr} {c2:Nat} {A3:Option Addr} {c3:Nat} {A4:Option Addr} {c4:Nat} {res1:Int}
  (hl1:p1.Road.Edges.length≤c1∧c1≤maxLen) (hA1:Qz QN μ A1 p1.Road.Edges) (hl2:p1.Vehicles.length≤c2∧c2≤maxLen) (hA2:Qz QF μ A2 p1.Vehicles) (hl3:p1.Demands.length≤c3∧c3≤maxLen) (hA3:Qz QK μ A3 p1.Demands) (hl4:stops1.length≤c4∧c4≤maxLen) (hA4:Rds QP μ L A4 stops1) (h:Vx p1 v1 stops1 i1=some res1)
  (hR:R (.int .i64 res1) μ (L)) :
  Fn Tryz.prog 98 [.agg #[.int .i64 p1.Road.Nodes,.slice A1 p1.Road.Edges.length c1,.slice A2 p1.Vehicles.length c2,.slice A3 p1.Demands.length c3,.int .i64 p1.Unload,.int .i64 p1.UnloadSecs],.agg #[.string v1.ID,.int .i64 v1.Depot,.int .i64 v1.Shift.From,.int .i64 v1.Shift.To,.int .i64 v1.Grams,.int .i64 v1.Kinds],.slice A4 stops1.length c4,.int .i64 i1] μ (L) R:=by
 unfold Vx at h;refine FnS Tryz.func98 (by kernel_rfl) E Tryz.ntmps98 E E ?_;refine G0 2 E (Al E fun _=>Q0 0 E (Al E fun _=>Q0 6 E (Ix h hA4 E E fun _ _ _ _ hr1 hc1 _ h=> ?_)));obtain rfl:=hr1;refine Q3 9 [] [] [64] (Z1 (hc1.push.push)) E ?_;refine Br h 16 E E (fun hc2 h=> ?_) (fun hc2 h=> ?_)
 ·refine G2 5 [16] [] [] E ?_;cases h;exact Rt [] E E (Ug [] 2 hR)
 refine G2 4 [] [16] [] E ?_;refine Cut h (fun f l o_ f_ μ_ l_=> ∃(v2:Bool),v2=o_∧Ql ((25,.bool v2)::Qq [2,3,4,5,9] f) f_∧Qe (QI [some 1,some 0] 2 l) l_∧μ=μ_) ?_ ?_
 ·intro _ h34928 h;refine G0 4 E ?_;refine Br h34928 19 E E (fun hc3 h34928=> ?_) (fun hc3 h34928=> ?_)
  ·refine G2 7 [19] [] [] E ?_;cases h34928;exact Ce E ⟨_,rfl,fE E,sE [some 1,some 0] 2 E,rfl⟩
  refine G2 7 [] [19] [1] E ?_;cases h34928;exact Ce E ⟨_,rfl,fE E,sE [some 1,some 0] 2 E,rfl⟩
 rintro _ _ _ _ h _ ⟨v2,rfl,hF34928,hS34928,rfl⟩;refine Atn 2 hF34928 hS34928 E E ?_;refine Br h 25 E E (fun hc4 h=> ?_) (fun hc4 h=> ?_)
 ·refine G2 5 [25] [] [] E ?_;cases h;exact Rt [] E E (Ug [] 2 hR)
 refine G2 7 [] [25] [] E ?_;refine Cut h (fun f l o_ f_ μ_ l_=>(.inl ())=o_∧Ql (Qq [4,5,9] f) f_∧Qe l l_∧μ=μ_) ?_ ?_
 ·intro _ h34933 h;refine Lp h34933 (fun f l (k1:Int) f_ μ_ l_=>Ql ((10,.int .i64 k1)::Qq [2,3,4,5,9] f) f_∧Qe l l_∧μ=μ_) ⟨fE E,sE [some 0,some 1] 2 E,E⟩ ?_;rintro k1 _ _ _ _ _ ⟨hF34941,hS34941,rfl⟩ hb34941 hq34941;unfold ZP at hb34941;refine Atn 2 hF34941 hS34941 E E (G0 7 E ?_);refine Br hb34941 28 E E (fun hc5 hb34941=> ?_) (fun hc5 hb34941=> ?_)
  ·refine G2 8 [28] [] [] E (Ix hb34941 hA4 E E fun _ _ _ _ hr2 hc6 _ hb34941=> ?_);obtain rfl:=hr2;refine Q3 4 [] [] [64] (Z1 (hc6.push.push)) E ?_;refine Br hb34941 36 E E (fun hc7 hb34941=> ?_) (fun hc7 hb34941=> ?_)
   ·refine G2 5 [36] [] [] E ?_;cases hb34941;have hq_:=hq34941 _ E;subst hq_;replace h:=Yn h;cases h;exact Rt [] E E (Ug [] 2 hR)
   refine G2 8 [] [36] [] E ?_;cases hb34941;exact Ce E ⟨_,rfl,fE E,sE [some 0,some 1] 2 E,rfl⟩
  refine G2 2 [] [28] [] E ?_;cases hb34941;have hq_:=hq34941 _ E;subst hq_;exact Ce E ⟨rfl,fE E,sE [some 0,some 1] 2 E,rfl⟩
 rintro _ _ _ _ h _ ⟨rfl,hF34933,hS34933,rfl⟩;replace h:=YB h;refine Atn 2 hF34933 hS34933 E E (G0 2 E (Dr _ QM.refl [(true,0),(true,1),(true,2),(true,3),(true,4),(true,5),(true,6),(false,7),(true,8)] (by kernel_rfl) (G1 4 [1,0] E (Ix h (Qz.rds hA3 L) E E fun _ _ _ _ hr3 hc8 _ h=> ?_))));obtain rfl:=hr3;refine Q3 2 [] [] [66] (Z1 (hc8.push.push)) E (Cl E ?_);obtain ⟨_,hx4,h⟩:=Qj h;refine QcE  hx4 (?_);refine ⟨QM.refl,?_⟩;refine Q0 2 E ?_;refine Br h 45 E E (fun hc9 h=> ?_) (fun hc9 h=> ?_)
 ·refine G2 5 [45] [] [] E ?_;cases h;exact Rt [] E E (Ug [] 2 hR)
 refine G2 6 [] [45] [] E ?_;cases h;exact Rt [] E E (Ug [] 2 hR)
theorem QdK  {r1:QX} {n1:Int} {A1:Option Addr} {c1:Nat} {res1:Bool}
  (hl1:r1.Edges.length≤c1∧c1≤maxLen) (hA1:Qz QN μ A1 r1.Edges) (h:VE r1 n1=some res1)
  (hR:R (.bool res1) μ (L)) :
  Fn Tryz.prog 126 [.agg #[.int .i64 r1.Nodes,.slice A1 r1.Edges.length c1],.int .i64 n1] μ (L) R:=by
 unfold VE at h;refine FnS Tryz.func126 (by kernel_rfl) E Tryz.ntmps126 E E ?_;refine G0 2 E (Al E fun _=>Q0 3 E ?_);refine Cut h (fun f l o_ f_ μ_ l_=> ∃(v1:Bool),v1=o_∧Ql ((4,.bool v1)::[]) f_∧Qe (QI [] 1 l) l_∧μ=μ_) ?_ ?_
 ·intro _ h34991 h;refine G0 4 E ?_;refine Br h34991 7 E E (fun hc1 h34991=> ?_) (fun hc1 h34991=> ?_)
  ·refine G2 7 [7] [] [0] E ?_;cases h34991;exact Ce E ⟨_,rfl,fE E,sE [] 1 E,rfl⟩
  refine G2 7 [] [7] [] E ?_;cases h34991;exact Ce E ⟨_,rfl,fE E,sE [] 1 E,rfl⟩
 rintro _ _ _ _ h _ ⟨v1,rfl,hF34991,hS34991,rfl⟩;refine Atn 0 hF34991 hS34991 E E ?_;cases h;exact Rt [] E E (Ug [] 0 hR)
theorem QaZ  {a1:Qr} {b1:Qr}  {res1:Qr}
   (h:VA a1 b1=some res1)
  (hR:R (.agg #[.int .i64 res1.Secs,.int .i64 res1.Meters]) μ (L)) :
  Fn Tryz.prog 127 [.agg #[.int .i64 a1.Secs,.int .i64 a1.Meters],.agg #[.int .i64 b1.Secs,.int .i64 b1.Meters]] μ (L) R:=by
 unfold VA at h;refine FnS Tryz.func127 (by kernel_rfl) E Tryz.ntmps127 E E ?_;refine G0 2 E (Al E fun _=>Q0 0 E (Al E fun _=>Q0 0 E (Al E fun _=>Q1 16 [2,1,2,1,0] E ?_)));cases h;exact Rt [0] E E (Ug [] 3 hR)
theorem QcY  {a1:Qr} {b1:Qr}  {res1:Bool}
   (h:Jb a1 b1=some res1)
  (hR:R (.bool res1) μ (L)) :
  Fn Tryz.prog 128 [.agg #[.int .i64 a1.Secs,.int .i64 a1.Meters],.agg #[.int .i64 b1.Secs,.int .i64 b1.Meters]] μ (L) R:=by
 unfold Jb at h;refine FnS Tryz.func128 (by kernel_rfl) E Tryz.ntmps128 E E ?_;refine G0 2 E (Al E fun _=>Q0 0 E (Al E fun _=>Q0 4 E ?_));refine Cut h (fun f l o_ f_ μ_ l_=> ∃(v1:Bool),v1=o_∧Ql ((12,.bool v1)::Qq [2,3] f) f_∧Qe (QI [some 1,some 0] 2 l) l_∧μ=μ_) ?_ ?_
 ·intro _ h35062 h;refine G1 5 [1] E ?_;refine Br h35062 8 E E (fun hc1 h35062=> ?_) (fun hc1 h35062=> ?_)
  ·refine G2 5 [8] [] [] E ?_;cases h35062;exact Ce E ⟨_,rfl,fE E,sE [some 1,some 0] 2 E,rfl⟩
  refine G2 5 [] [8] [0] E ?_;cases h35062;exact Ce E ⟨_,rfl,fE E,sE [some 1,some 0] 2 E,rfl⟩
 rintro _ _ _ _ h _ ⟨v1,rfl,hF35062,hS35062,rfl⟩;refine Atn 2 hF35062 hS35062 E E ?_;refine Br h 12 E E (fun hc2 h=> ?_) (fun hc2 h=> ?_)
 ·refine G2 8 [12] [] [0] E ?_;cases h;exact Rt [] E E (Ug [] 2 hR)
 refine G2 3 [] [12] [] E ?_;refine Cut h (fun f l o_ f_ μ_ l_=> ∃(v2:Bool),v2=o_∧Ql ((4,.bool v2)::[]) f_∧Qe (QI [] 2 l) l_∧μ=μ_) ?_ ?_
 ·intro _ h35067 h;refine G1 7 [0,1] E ?_;refine Br h35067 21 E E (fun hc3 h35067=> ?_) (fun hc3 h35067=> ?_)
  ·refine G2 15 [21] [] [] E ?_;cases h35067;exact Ce E ⟨_,rfl,fE E,sE [] 2 E,rfl⟩
  refine G2 6 [] [21] [0,1] E ?_;refine Br h35067 27 E E (fun hc4 h35067=> ?_) (fun hc4 h35067=> ?_)
  ·refine G2 9 [27] [21] [0,1] E ?_;cases h35067;exact Ce E ⟨_,rfl,fE E,sE [] 2 E,rfl⟩
  refine G2 9 [] [21,27] [] E ?_;cases h35067;exact Ce E ⟨_,rfl,fE E,sE [] 2 E,rfl⟩
 rintro _ _ _ _ h _ ⟨v2,rfl,hF35067,hS35067,rfl⟩;refine Atn 0 hF35067 hS35067 E E ?_;cases h;exact Rt [] E E (Ug [] 0 hR)
theorem QdC  {r1:QX} {f_from1:Int} {A1:Option Addr} {c1:Nat} {res1:(List Qr)} {res2:Int}
  (hl1:r1.Edges.length≤c1∧c1≤maxLen) (hA1:Qz QN μ A1 r1.Edges) (h:ZD r1 f_from1=some (res1,res2))
  (hR: ∀(A0:Option Addr) (c0:Nat) (ch0:Seg),Own Yw 137 μ (.slice A0 res1.length c0) res1 ch0→R (.tuple #[.slice A0 res1.length c0,.int .i64 res2]) μ (ch0::L)) :
  Fn Tryz.prog 113 [.agg #[.int .i64 r1.Nodes,.slice A1 r1.Edges.length c1],.int .i64 f_from1] μ (L) R:=by
 unfold ZD at h;refine FnS Tryz.func113 (by kernel_rfl) E Tryz.ntmps113 E E ?_;refine G0 2 E (Al E fun g1=>Q1 7 [0] E (Cl E ?_));obtain ⟨_,hx1,h⟩:=Qj h;refine Qa0 hl1 hA1 hx1 ((Q0 7 E ?_));refine Br h 16 E E (fun hc1 h=> ?_) (fun hc1 h=> ?_)
 ·refine G2 7 [16] [] [] E ?_;cases h;exact Rt [] E E (Ug [[]] 1 (hR none 0 [] Own.nil))
 refine G2 7 [] [16] [0] E (Cl E ?_);obtain ⟨_,hx2,h⟩:=Qj h;refine QdK hl1 hA1 hx2 ((Q0 2 E ?_));refine Br h 21 E E (fun hc2 h=> ?_) (fun hc2 h=> ?_)
 ·refine G2 6 [21] [] [] E ?_;cases h;exact Rt [] E E (Ug [[]] 1 (hR none 0 [] Own.nil))
 refine G2 6 [] [21] [0] E (So E (Qhx E E ?_));obtain ⟨_,hn1,h⟩:=Qj h;refine Qf7 (r:=Yw) (z:=(Qr.mk 0 0)) (zc:=[.int .i64 0,.int .i64 0]) QB E E E E E (E) E hn1 fun A2 c2 ch1 hO1=>Q0 9 E ?_;refine Cut h (fun f l o_ f_ μ_ l_=> ∃(out2:(List Qr)) (A4:Option Addr) (c4:Nat) (ch4:Seg),out2=o_∧Ql ((7,.slice A4 out2.length c4)::Qq [1,2] f) f_∧Qe ([(g1,.cells #[.int .i64 r1.Nodes,.slice A1 r1.Edges.length c1] 24 (0,0))]::ch4::QI [] 2 l) l_∧Own Yw 137 μ_ (.slice A4 out2.length c4) out2 ch4∧μ=μ_) ?_ ?_
 ·intro _ h34995 h;refine Lp h34995 (fun f l (j_:(List Qr)×Int) f_ μ_ l_=>Yt j_ fun out1 v1=> ∃(A3:Option Addr) (c3:Nat) (ch2:Seg),Ql ((7,.slice A3 out1.length c3)::(27,.int .i64 v1)::Qq [1,2,26] f) f_∧Qe ([(g1,.cells #[.int .i64 r1.Nodes,.slice A1 r1.Edges.length c1] 24 (0,0))]::ch2::QI [] 2 l) l_∧Own Yw 137 μ_ (.slice A3 out1.length c3) out1 ch2∧μ=μ_) ⟨A2,c2,ch1,fE E,sE [some 1,some 0] 2 E,(hO1),E⟩ ?_;rintro ⟨out1,v1⟩ _ _ _ _ _ ⟨A3,c3,ch2,hF35002,hS35002,hO2,rfl⟩ hb35002 hq35002;unfold ZY at hb35002;replace hb35002:=Qp hb35002;refine Atn 2 hF35002 hS35002 E E (G0 5 E ?_);refine Br hb35002 28 E E (fun hc3 hb35002=> ?_) (fun hc3 hb35002=> ?_)
  ·refine G2 12 [28] [] [] E (IxA hb35002 (Own.rds hO2 1 E) E E fun x1 a1 _ hx3 hr1 _ hA2 hb35002=> ?_);obtain rfl:=hr1;refine Q0 1 E (So E (Qs (vs:=[.int .i64 (-1)]) E E E E E E ?_))
   rw[←Addr.add_zero' ((a1.add (v1.toNat*2)))]
   refine Own.store (μ:=μ) (r:=Yw) (x':=(Qr.mk (-1) x1.Meters)) (o:=0) (sz:=2) 1 rfl hO2 hA2 hx3 rfl rfl (by rintro _ rfl;rfl) fun ch3 hO3=> ?_
   rw[←Qn out1 v1 (Qr.mk (-1) x1.Meters)] at hO3 ⊢
   refine Q0 6 E ?_;cases hb35002;exact Ce E ⟨_,rfl,A3,c3,ch3,fE E,sE [some 0,some 1] 2 E,(hO3),rfl⟩
  refine G2 2 [] [28] [] E ?_;cases hb35002;have hq_:=hq35002 _ E;subst hq_;exact Ce E ⟨_,A3,c3,ch2,rfl,fE E,sE [some 0,some 1] 2 E,(hO2),rfl⟩
 rintro _ _ _ _ h _ ⟨out2,A4,c4,ch4,rfl,hF34995,hS34995,hO4,rfl⟩;refine Atn 2 hF34995 hS34995 E E (G0 4 E (IxA h (Own.rds hO4 1 E) E E fun x2 a2 _ hx4 hr2 _ hA3 h=> ?_));obtain rfl:=hr2;refine Q0 1 E (So E (Qs (vs:=[.int .i64 0]) E E E E E E ?_))
 rw[←Addr.add_zero' ((a2.add (f_from1.toNat*2)))]
 refine Own.store (μ:=μ) (r:=Yw) (x':=(Qr.mk 0 x2.Meters)) (o:=0) (sz:=2) 1 rfl hO4 hA3 hx4 rfl rfl (by rintro _ rfl;rfl) fun ch5 hO5=> ?_
 rw[←Qn out2 f_from1 (Qr.mk 0 x2.Meters)] at hO5 ⊢
 refine Q0 6 E ?_;refine Cut h (fun f l o_ f_ μ_ l_=> ∃(out8:(List Qr)) (A10:Option Addr) (c10:Nat) (ch12:Seg),out8=o_∧Ql ((7,.slice A10 out8.length c10)::[]) f_∧Qe (ch12::QI [] 2 l) l_∧Own Yw 137 μ_ (.slice A10 out8.length c10) out8 ch12∧μ=μ_) ?_ ?_
 ·intro _ h35014 h;refine Lp h35014 (fun f l (j_:(List Qr)×Int) f_ μ_ l_=>Yt j_ fun out3 n1=> ∃(A5:Option Addr) (c5:Nat) (ch6:Seg),Ql ((7,.slice A5 out3.length c5)::(9,.int .i64 n1)::Qq [2] f) f_∧Qe ([(g1,.cells #[.int .i64 r1.Nodes,.slice A1 r1.Edges.length c1] 24 (0,0))]::ch6::QI [] 2 l) l_∧Own Yw 137 μ_ (.slice A5 out3.length c5) out3 ch6∧μ=μ_) ⟨A4,c4,ch5,fE E,sE [some 0,some 1] 2 E,(hO5),E⟩ ?_;rintro ⟨out3,n1⟩ _ _ _ _ _ ⟨A5,c5,ch6,hF35124,hS35124,hO6,rfl⟩ hb35124 hq35124;unfold JL at hb35124;replace hb35124:=Qp hb35124;refine Atn 2 hF35124 hS35124 E E (G1 8 [0] E ?_);refine Br hb35124 42 E E (fun hc6 hb35124=> ?_) (fun hc6 hb35124=> ?_)
  ·refine G2 3 [42] [] [] E ?_;refine Cut hb35124 (fun f l o_ f_ μ_ l_=> ∃(out7:(List Qr)) (A9:Option Addr) (c9:Nat) (ch11:Seg),out7=o_∧Ql ((7,.slice A9 out7.length c9)::Qq [2,9] f) f_∧Qe ([(g1,.cells #[.int .i64 r1.Nodes,.slice A1 r1.Edges.length c1] 24 (0,0))]::ch11::QI [] 2 l) l_∧Own Yw 137 μ_ (.slice A9 out7.length c9) out7 ch11∧μ=μ_) ?_ ?_
   ·intro _ h35129 hb35124;refine G1 8 [0] E ?_;refine Cut h35129 (fun f l o_ f_ μ_ l_=> ∃(out6:(List Qr)) (A8:Option Addr) (c8:Nat) (ch10:Seg),out6=o_∧Ql ((7,.slice A8 out6.length c8)::Qq [2,9] f) f_∧Qe ([(g1,.cells #[.int .i64 r1.Nodes,.slice A1 r1.Edges.length c1] 24 (0,0))]::ch10::QI [] 2 l) l_∧Own Yw 137 μ_ (.slice A8 out6.length c8) out6 ch10∧μ=μ_) ?_ ?_
    ·intro _ h35130 h35129;refine Lp h35130 (fun f l (j_:(List Qr)×Int) f_ μ_ l_=>Yt j_ fun out4 v2=> ∃(A6:Option Addr) (c6:Nat) (ch7:Seg),Ql ((7,.slice A6 out4.length c6)::(48,.int .i64 v2)::Qq [2,9,46,47] f) f_∧Qe ([(g1,.cells #[.int .i64 r1.Nodes,.slice A1 r1.Edges.length c1] 24 (0,0))]::ch7::QI [] 2 l) l_∧Own Yw 137 μ_ (.slice A6 out4.length c6) out4 ch7∧μ=μ_) ⟨A5,c5,ch6,fE E,sE [some 0,some 1] 2 E,(hO6),E⟩ ?_;rintro ⟨out4,v2⟩ _ _ _ _ _ ⟨A6,c6,ch7,hF35173,hS35173,hO7,rfl⟩ hb35173 hq35173;unfold Z3 at hb35173;replace hb35173:=Qp hb35173;refine Atn 2 hF35173 hS35173 E E (G0 5 E ?_);refine Br hb35173 49 E E (fun hc7 hb35173=> ?_) (fun hc7 hb35173=> ?_)
     ·refine G2 3 [49] [] [] E ?_;refine Cut hb35173 (fun f l o_ f_ μ_ l_=> ∃(out5:(List Qr)) (A7:Option Addr) (c7:Nat) (ch9:Seg),out5=o_∧Ql ((7,.slice A7 out5.length c7)::Qq [2,9,46,47,48] f) f_∧Qe ([(g1,.cells #[.int .i64 r1.Nodes,.slice A1 r1.Edges.length c1] 24 (0,0))]::ch9::QI [] 2 l) l_∧Own Yw 137 μ_ (.slice A7 out5.length c7) out5 ch9∧μ=μ_) ?_ ?_
      ·intro _ h35178 hb35173;refine G0 3 E (Ix h35178 (Qz.rds hA1 L) E E fun x3 _ _ _ hr3 hc8 _ h35178=> ?_);obtain rfl:=hr3;refine Q3 1 [] [] [64] (Z1 (hc8.push.push)) E (Al E fun g2=>Q1 7 [0,0] E (IxA h35178 (Own.rds hO7 2 E) E E fun _ _ _ _ hr4 hc9 _ h35178=> ?_));obtain rfl:=hr4;refine Q3 4 [] [] [64] (Z1 hc9) E ?_;refine Br h35178 58 E E (fun hc10 h35178=> ?_) (fun hc10 h35178=> ?_)
       ·refine G2 2 [58] [] [] E ?_;refine Cut h35178 (fun f l o_ f_ μ_ l_=> ∃(f1:Int) (f2:Int) (g4:Nat),(f1,f2)=o_∧Ql ((12,.pointer (some ⟨g4,0,none⟩))::Qq [2,7,9,11,46,47,48] f) f_∧Qe ([(g1,.cells #[.int .i64 r1.Nodes,.slice A1 r1.Edges.length c1] 24 (0,0))]::ch7::[(g2,.cells #[.int .i64 x3.From,.int .i64 x3.To,.int .i64 x3.Meters,.int .i64 x3.Secs] 106 (0,0))]::[(g4,.cells #[.int .i64 f1,.int .i64 f2] 137 (0,0))]::QI [] 3 l) l_∧μ=μ_) ?_ ?_
        ·intro _ h35188 h35178;refine Cd (WP.draw (id:=20) Qc7 _ QM.refl E (AN.run (fuel:=3) (listed':=[true,true,true,true,true,true,true,true,true,true,false,false,false]) QB [(true,0),(true,1),(true,2),(true,3),(true,4),(true,5),(true,6),(true,7),(true,8),(true,9)] (by kernel_rfl) (by kernel_rfl) E (VC E (QL E (Pt E E (Wu (o':=0) E E E E E E (Pt E E (JI E E E (Ex.mk _ (Wm.seg 0 0 E E E) (Pt E E ?_))))))))));obtain ⟨x5,hx7,h35188⟩:=Qj h35188;obtain ⟨_,_,hA6,hr5,_,hc11⟩:=Rds.getI (Own.rds (L:=([(g2,.cells #[.int .i64 x3.From,.int .i64 x3.To,.int .i64 x3.Meters,.int .i64 x3.Secs] 106 (0,0))]::[(g1,.cells #[.int .i64 r1.Nodes,.slice A1 r1.Edges.length c1] 24 (0,0))]::ch7::L)) hO7 2 rfl) hx7;obtain rfl:=hr5;refine QJ E E E E E E ⟨(Qd hx7).1,(Qd hx7).2.1⟩ hA6 (Pt E E (QC E E E E (Ex.mk [.int .i64 x5.Secs,.int .i64 x5.Meters] ⟨rfl,hc11⟩ (Pt E E (Wu (o':=3) E E E E E E (Pt E E (JI E E E (Ex.mk _ (Wm.seg 0 0 E E E) (Pt E E (Wu (o':=2) E E E E E E (Pt E E (JI E E E ?_))))))))))));refine Ex.mk _ (Wm.seg 0 0 E E E) (Pt E E (Qb3 E E E E (QZ (cells':=[.int .i64 x3.Secs,.int .i64 0]) E E E E (QZ (cells':=[.int .i64 x3.Secs,.int .i64 x3.Meters]) E E E E (YH (Qf E (QU ?_)))))));refine Ws QB (a:=10) (b:=11) (by kernel_rfl) ?_ ?_
         ·refine FO_ E E (Qaj (all:=[.agg #[.int .i64 x5.Secs,.int .i64 x5.Meters],.agg #[.int .i64 x3.Secs,.int .i64 x3.Meters]]) E E E ?_);obtain ⟨r4,hx8,h35188⟩:=Qj h35188;refine QaZ  hx8 (?_);refine ⟨QM.refl,?_⟩;refine Qf E (AN.run (fuel:=0) (listed':=[true,true,true,true,true,true,true,true,true,true,true,true,true]) QB [(false,11),(false,12)] (by kernel_rfl) (by kernel_rfl) E (QA E (VP (cs:= #[.int .i64 0,.int .i64 0]) E E (fun g3=> ?_))));refine ⟨QM.more (QM.refl),?_⟩;refine Qf E (QA E (Qs (vs:=[.int .i64 r4.Secs,.int .i64 r4.Meters]) E E E E E E (ST_ (L':=([(g3,.cells #[.int .i64 r4.Secs,.int .i64 r4.Meters] 137 (0,0))]::[(g2,.cells #[.int .i64 x3.From,.int .i64 x3.To,.int .i64 x3.Meters,.int .i64 x3.Secs] 106 (0,0))]::[(g1,.cells #[.int .i64 r1.Nodes,.slice A1 r1.Edges.length c1] 24 (0,0))]::ch7::L)) 0 0 E E E E ?_)));refine ⟨QM.more (QM.refl),?_⟩;refine QH (QU (AN.done0 (by kernel_rfl) ?_));cases h35188;exact Ce E ⟨_,_,g3,rfl,fE E,sE [some 2,some 3,some 1,some 0] 4 E,rfl⟩
         obtain ⟨r4,hx8,h35188⟩:=Qj h35188;refine FO_ E E (VP (cs:= #[.int .i64 0,.int .i64 0]) E E (fun g3=> ?_));refine ⟨QM.more (QM.refl),?_⟩;refine Qf E (AN.run (fuel:=0) (listed':=[true,true,true,true,true,true,true,true,true,true,true,true,true]) QB [(false,10),(false,12)] (by kernel_rfl) (by kernel_rfl) E (QA E (Qaj (all:=[.agg #[.int .i64 x5.Secs,.int .i64 x5.Meters],.agg #[.int .i64 x3.Secs,.int .i64 x3.Meters]]) E E E (QaZ  hx8 (?_)))));refine ⟨QM.more (QM.refl),?_⟩;refine Qf E (QA E (Qs (vs:=[.int .i64 r4.Secs,.int .i64 r4.Meters]) E E E E E E (ST_ (L':=([(g3,.cells #[.int .i64 r4.Secs,.int .i64 r4.Meters] 137 (0,0))]::[(g2,.cells #[.int .i64 x3.From,.int .i64 x3.To,.int .i64 x3.Meters,.int .i64 x3.Secs] 106 (0,0))]::[(g1,.cells #[.int .i64 r1.Nodes,.slice A1 r1.Edges.length c1] 24 (0,0))]::ch7::L)) 0 0 E E E E ?_)));refine ⟨QM.more (QM.refl),?_⟩;refine QH (QU (AN.done0 (by kernel_rfl) ?_));cases h35188;exact Ce E ⟨_,_,g3,rfl,fE E,sE [some 2,some 3,some 1,some 0] 4 E,rfl⟩
        rintro _ _ _ _ h35178 _ ⟨f1,f2,g4,rfl,hF35188,hS35188,rfl⟩;replace h35178:=Qp h35178;refine Atn 4 hF35188 hS35188 E E (G0 1 E (Dr _ QM.refl [(true,0),(true,1),(true,2),(true,3),(true,4),(true,5),(false,6)] (by kernel_rfl) (G1 4 [3,2] E (Ix h35178 (Own.rds (L:=([(g1,.cells #[.int .i64 r1.Nodes,.slice A1 r1.Edges.length c1] 24 (0,0))]::ch7::[(g2,.cells #[.int .i64 x3.From,.int .i64 x3.To,.int .i64 x3.Meters,.int .i64 x3.Secs] 106 (0,0))]::[(g4,.cells #[.int .i64 f1,.int .i64 f2] 137 (0,0))]::L)) hO7 1 E) E E fun _ _ _ _ hr6 hc12 _ h35178=> ?_))));obtain rfl:=hr6;refine Q3 1 [] [] [64] (Z1 hc12) E (Cl E ?_);obtain ⟨_,hx10,h35178⟩:=Qj h35178;refine QcY  hx10 (?_);refine ⟨QM.refl,?_⟩;refine Q0 1 E ?_;refine Br h35178 76 E E (fun hc13 h35178=> ?_) (fun hc13 h35178=> ?_)
        ·refine G2 6 [76] [] [2,3] E (IxA h35178 (Own.rds hO7 1 E) E E fun _ a7 _ hx11 hr7 _ hA8 h35178=> ?_);obtain rfl:=hr7;refine Q0 0 E (So E (Qs (vs:=[.int .i64 f1,.int .i64 f2]) E E E E E E ?_))
         rw[←Addr.add_zero' ((a7.add (x3.To.toNat*2)))]
         refine Own.store (μ:=μ) (r:=Yw) (x':=(Qr.mk f1 f2)) (o:=0) (sz:=2) 1 rfl hO7 hA8 hx11 rfl rfl (by rintro _ rfl;rfl) fun ch8 hO8=> ?_
         rw[←Qn out4 x3.To (Qr.mk f1 f2)] at hO8 ⊢
         refine Q0 2 E ?_;cases h35178;exact Ce E ⟨_,A6,c6,ch8,rfl,fE E,sE [some 0,some 1] 4 E,(hO8),rfl⟩
        refine G2 3 [] [76] [] E ?_;cases h35178;exact Ce E ⟨_,A6,c6,ch7,rfl,fE E,sE [some 0,some 1] 4 E,(hO7),rfl⟩
       refine G2 3 [] [58] [] E ?_;cases h35178;exact Ce E ⟨_,A6,c6,ch7,rfl,fE E,sE [some 1,some 2] 3 E,(hO7),rfl⟩
      rintro _ _ _ _ hb35173 _ ⟨out5,A7,c7,ch9,rfl,hF35178,hS35178,hO9,rfl⟩;refine Atn 2 hF35178 hS35178 E E (G0 4 E ?_);cases hb35173;exact Ce E ⟨_,rfl,A7,c7,ch9,fE E,sE [some 0,some 1] 2 E,(hO9),rfl⟩
     refine G2 2 [] [49] [] E ?_;cases hb35173;have hq_:=hq35173 _ E;subst hq_;exact Ce E ⟨_,A6,c6,ch7,rfl,fE E,sE [some 0,some 1] 2 E,(hO7),rfl⟩
    rintro _ _ _ _ h35129 _ ⟨out6,A8,c8,ch10,rfl,hF35130,hS35130,hO10,rfl⟩;refine G0 1 E ?_;cases h35129;exact Ce E ⟨_,A8,c8,ch10,rfl,hF35130.tr E,hS35130.tr (sE [some 0,some 1] 2 E),(hO10),rfl⟩
   rintro _ _ _ _ hb35124 _ ⟨out7,A9,c9,ch11,rfl,hF35129,hS35129,hO11,rfl⟩;refine Atn 2 hF35129 hS35129 E E (G0 5 E ?_);cases hb35124;exact Ce E ⟨_,rfl,A9,c9,ch11,fE E,sE [some 0,some 1] 2 E,(hO11),rfl⟩
  refine G2 2 [] [42] [] E ?_;cases hb35124;have hq_:=hq35124 _ E;subst hq_;exact Ce E ⟨_,A5,c5,ch6,rfl,fE E,sE [some 1] 2 E,(hO6),rfl⟩
 rintro _ _ _ _ h _ ⟨out8,A10,c10,ch12,rfl,hF35014,hS35014,hO12,rfl⟩;refine Atn 1 hF35014 hS35014 E E (G0 6 E ?_);cases h;exact Rt [] E E (Ug [[0]] 1 (hR A10 c10 ch12 hO12))
theorem V5  {p1:Qh} {f_from1:Int} {f_to1:Int} {A1:Option Addr} {c1:Nat} {A2:Option Addr} {c2:Nat} {A3:Option Addr} {c3:Nat} {res1:Qr}
  (hl1:p1.Road.Edges.length≤c1∧c1≤maxLen) (hA1:Qz QN μ A1 p1.Road.Edges) (hl2:p1.Vehicles.length≤c2∧c2≤maxLen) (hA2:Qz QF μ A2 p1.Vehicles) (hl3:p1.Demands.length≤c3∧c3≤maxLen) (hA3:Qz QK μ A3 p1.Demands) (h:Jn p1 f_from1 f_to1=some res1)
  (hR:R (.agg #[.int .i64 res1.Secs,.int .i64 res1.Meters]) μ (L)) :
  Fn Tryz.prog 91 [.agg #[.int .i64 p1.Road.Nodes,.slice A1 p1.Road.Edges.length c1,.slice A2 p1.Vehicles.length c2,.slice A3 p1.Demands.length c3,.int .i64 p1.Unload,.int .i64 p1.UnloadSecs],.int .i64 f_from1,.int .i64 f_to1] μ (L) R:=by
 unfold Jn at h;refine FnS Tryz.func91 (by kernel_rfl) E Tryz.ntmps91 E E ?_;refine G0 2 E (Al E fun _=>Q0 0 E (Al E fun _=>Q1 6 [1] E (Cl E ?_)));obtain ⟨⟨_,_⟩,hx1,h⟩:=Qj h;replace h:=Qp h;refine QdC hl1 hA1 hx1 (fun _ _ _ hO1=>Q0 8 E ?_);refine Cut h (fun f l o_ f_ μ_ l_=> ∃(v1:Bool),v1=o_∧Ql ((27,.bool v1)::Qq [2,6,7] f) f_∧Qe (QI [some 1,some 0] 3 l) l_∧μ=μ_) ?_ ?_
 ·intro _ h35224 h;refine G0 4 E ?_;refine Br h35224 18 E E (fun hc1 h35224=> ?_) (fun hc1 h35224=> ?_)
  ·refine G2 10 [18,22] [] [] E ?_;cases h35224;exact Ce E ⟨_,rfl,fE E,sE [some 1,some 0] 3 E,rfl⟩
  refine G2 4 [] [18] [] E ?_;refine Br h35224 22 E E (fun hc2 h35224=> ?_) (fun hc2 h35224=> ?_)
  ·refine G2 6 [22] [] [] E ?_;cases h35224;exact Ce E ⟨_,rfl,fE E,sE [some 1,some 0] 3 E,rfl⟩
  refine G2 6 [] [22] [] E ?_;cases h35224;exact Ce E ⟨_,rfl,fE E,sE [some 1,some 0] 3 E,rfl⟩
 rintro _ _ _ _ h _ ⟨v1,rfl,hF35224,hS35224,rfl⟩;refine Atn 2 hF35224 hS35224 E E ?_;refine Br h 27 E E (fun hc3 h=> ?_) (fun hc3 h=> ?_)
 ·refine G2 6 [27] [] [0] E ?_;cases h;exact Rt [0] E E (Ug [] 2 hR)
 refine G2 6 [] [27] [] E (IxA h (Own.rds hO1 1 E) E E fun _ _ _ _ hr1 hc4 _ h=> ?_);obtain rfl:=hr1;refine Q3 3 [] [] [64,0] (Z1 hc4) E ?_;cases h;exact Rt [0] E E (Ug [] 2 hR)
theorem Qdi  {p1:Qh} {v1:Qy} {x1:QY} {s1:Int} {A1:Option Addr} {c1:Nat} {A2:Option Addr} {c2:Nat} {A3:Option Addr} {c3:Nat} {res1:QY} {res2:Int}
  (hl1:p1.Road.Edges.length≤c1∧c1≤maxLen) (hA1:Qz QN μ A1 p1.Road.Edges) (hl2:p1.Vehicles.length≤c2∧c2≤maxLen) (hA2:Qz QF μ A2 p1.Vehicles) (hl3:p1.Demands.length≤c3∧c3≤maxLen) (hA3:Qz QK μ A3 p1.Demands) (h:Wo p1 v1 x1 s1=some (res1,res2))
  (hR:R (.tuple #[.agg #[.int .i64 res1.Stop,.int .i64 res1.Node,.int .i64 res1.Arrive,.int .i64 res1.Start,.int .i64 res1.Leave,.int .i64 res1.Load],.int .i64 res2]) μ (L)) :
  Fn Tryz.prog 99 [.agg #[.int .i64 p1.Road.Nodes,.slice A1 p1.Road.Edges.length c1,.slice A2 p1.Vehicles.length c2,.slice A3 p1.Demands.length c3,.int .i64 p1.Unload,.int .i64 p1.UnloadSecs],.agg #[.string v1.ID,.int .i64 v1.Depot,.int .i64 v1.Shift.From,.int .i64 v1.Shift.To,.int .i64 v1.Grams,.int .i64 v1.Kinds],.agg #[.int .i64 x1.Stop,.int .i64 x1.Node,.int .i64 x1.Arrive,.int .i64 x1.Start,.int .i64 x1.Leave,.int .i64 x1.Load],.int .i64 s1] μ (L) R:=by
 unfold Wo at h;refine FnS Tryz.func99 (by kernel_rfl) E Tryz.ntmps99 E E ?_;refine G0 2 E (Al E fun g1=>Q0 0 E (Al E fun g2=>Q0 0 E (Al E fun g3=>Q0 0 E (Al E fun g4=>Q1 8 [3] E (Al E fun g5=>Q1 8 [0] E ?_)))));refine Cut h (fun f l o_ f_ μ_ l_=> ∃(f1:Int),f1=o_∧Ql (Qq [3,4,5,6,8,10] f) f_∧Qe ([(g1,.cells #[.int .i64 p1.Road.Nodes,.slice A1 p1.Road.Edges.length c1,.slice A2 p1.Vehicles.length c2,.slice A3 p1.Demands.length c3,.int .i64 p1.Unload,.int .i64 p1.UnloadSecs] 28 (0,0))]::[(g2,.cells #[.string v1.ID,.int .i64 v1.Depot,.int .i64 v1.Shift.From,.int .i64 v1.Shift.To,.int .i64 v1.Grams,.int .i64 v1.Kinds] 61 (0,0))]::[(g3,.cells #[.int .i64 x1.Stop,.int .i64 x1.Node,.int .i64 x1.Arrive,.int .i64 x1.Start,.int .i64 x1.Leave,.int .i64 x1.Load] 135 (0,0))]::[(g4,.cells #[.int .i64 0,.int .i64 0,.int .i64 0,.int .i64 0,.int .i64 0,.int .i64 0] 135 (0,0))]::[(g5,.cells #[.int .i64 s1,.int .i64 f1,.int .i64 0,.int .i64 0,.int .i64 0,.int .i64 0] 135 (0,0))]::QI [] 5 l) l_∧μ=μ_) ?_ ?_
 ·intro _ h34966 h;refine Br h34966 18 E E (fun hc1 h34966=> ?_) (fun hc1 h34966=> ?_)
  ·refine G2 5 [18] [] [4] E (Ix h34966 (Qz.rds hA3 L) E E fun _ _ _ _ hr1 hc2 _ h34966=> ?_);obtain rfl:=hr1;refine Q3 5 [] [] [65,0] (Z1 (hc2.push.push.push.push.push)) E ?_;cases h34966;exact Ce E ⟨_,rfl,fE E,sE [some 4,some 3,some 2,some 1,some 0] 5 E,rfl⟩
  refine G2 2 [] [18] [] E ?_;cases h34966;exact Ce E ⟨_,rfl,fE E,sE [some 4,some 3,some 2,some 1,some 0] 5 E,rfl⟩
 rintro _ _ _ _ h _ ⟨f1,rfl,hF34966,hS34966,rfl⟩;refine Atn 5 hF34966 hS34966 E E (G1 7 [0,2,4] E (Cl E ?_));obtain ⟨_,hx2,h⟩:=Qj h;refine V5 hl1 hA1 hl2 hA2 hl3 hA3 hx2 ((Q0 0 E (Al E fun _=>Q1 9 [0,0] E ?_)));refine Br h 34 E E (fun hc3 h=> ?_) (fun hc3 h=> ?_)
 ·refine G2 7 [34] [] [4] E ?_;cases h;exact Rt [4] E E (Ug [] 6 hR)
 refine G2 25 [] [34] [3,0,5,5,5] E ?_;refine Br h 46 E E (fun hc4 h=> ?_) (fun hc4 h=> ?_)
 ·refine G2 17 [46] [] [5,1,5,5,4] E ?_;cases h;exact Rt [4] E E (Ug [] 6 hR)
 refine G2 7 [] [46] [1] E (Ix h (Qz.rds hA3 L) E E fun _ _ _ _ hr2 hc5 _ h=> ?_);obtain rfl:=hr2;refine Q3 1 [] [] [64] (Z1 (hc5.push.push.push.push.push.push)) E (Al E fun _=>Q1 23 [0,6,0,6,6,0] E ?_);refine Br h 71 E E (fun hc6 h=> ?_) (fun hc6 h=> ?_)
 ·refine G2 7 [71] [] [5] E ?_;cases h;exact Rt [5] E E (Ug [] 7 hR)
 refine G2 31 [] [71] [6,0,6,4,0,6,6,3] E ?_;refine Br h 89 E E (fun hc7 h=> ?_) (fun hc7 h=> ?_)
 ·refine G2 7 [89] [] [5] E ?_;cases h;exact Rt [5] E E (Ug [] 7 hR)
 refine G2 8 [] [89] [6,5] E ?_;cases h;exact Rt [5] E E (Ug [] 7 hR)
theorem QdI  {p1:Qh} {v1:Qy} {x1:QY} {A1:Option Addr} {c1:Nat} {A2:Option Addr} {c2:Nat} {A3:Option Addr} {c3:Nat} {res1:QY} {res2:Int}
  (hl1:p1.Road.Edges.length≤c1∧c1≤maxLen) (hA1:Qz QN μ A1 p1.Road.Edges) (hl2:p1.Vehicles.length≤c2∧c2≤maxLen) (hA2:Qz QF μ A2 p1.Vehicles) (hl3:p1.Demands.length≤c3∧c3≤maxLen) (hA3:Qz QK μ A3 p1.Demands) (h:JS p1 v1 x1=some (res1,res2))
  (hR:R (.tuple #[.agg #[.int .i64 res1.Stop,.int .i64 res1.Node,.int .i64 res1.Arrive,.int .i64 res1.Start,.int .i64 res1.Leave,.int .i64 res1.Load],.int .i64 res2]) μ (L)) :
  Fn Tryz.prog 100 [.agg #[.int .i64 p1.Road.Nodes,.slice A1 p1.Road.Edges.length c1,.slice A2 p1.Vehicles.length c2,.slice A3 p1.Demands.length c3,.int .i64 p1.Unload,.int .i64 p1.UnloadSecs],.agg #[.string v1.ID,.int .i64 v1.Depot,.int .i64 v1.Shift.From,.int .i64 v1.Shift.To,.int .i64 v1.Grams,.int .i64 v1.Kinds],.agg #[.int .i64 x1.Stop,.int .i64 x1.Node,.int .i64 x1.Arrive,.int .i64 x1.Start,.int .i64 x1.Leave,.int .i64 x1.Load]] μ (L) R:=by
 unfold JS at h;refine FnS Tryz.func100 (by kernel_rfl) E Tryz.ntmps100 E E ?_;refine G0 2 E (Al E fun _=>Q0 0 E (Al E fun _=>Q0 0 E (Al E fun _=>Q0 0 E (Al E fun _=>Q1 9 [3,1,2] E (Cl E ?_)))));obtain ⟨_,hx1,h⟩:=Qj h;refine V5 hl1 hA1 hl2 hA2 hl3 hA3 hx1 ((Q0 0 E (Al E fun _=>Q1 9 [0,0] E ?_)));refine Br h 18 E E (fun hc1 h=> ?_) (fun hc1 h=> ?_)
 ·refine G2 7 [18] [] [1] E ?_;cases h;exact Rt [1] E E (Ug [] 5 hR)
 refine G2 9 [] [18] [2] E ?_;refine Br h 22 E E (fun hc2 h=> ?_) (fun hc2 h=> ?_)
 ·refine G2 7 [22] [] [1] E ?_;cases h;exact Rt [1] E E (Ug [] 5 hR)
 refine G2 20 [] [22] [2,0,3] E ?_;refine Br h 33 E E (fun hc3 h=> ?_) (fun hc3 h=> ?_)
 ·refine G2 7 [33] [] [1] E ?_;cases h;exact Rt [1] E E (Ug [] 5 hR)
 refine G2 13 [] [33] [3,1] E ?_;cases h;exact Rt [1] E E (Ug [] 5 hR)
theorem Qbj  {p1:Qh} {t1:Qa} {A1:Option Addr} {c1:Nat} {A2:Option Addr} {c2:Nat} {A3:Option Addr} {c3:Nat} {A4:Option Addr} {c4:Nat} {res1:(List QY)} {res2:Int} {res3:Int}
  (hl1:p1.Road.Edges.length≤c1∧c1≤maxLen) (hA1:Qz QN μ A1 p1.Road.Edges) (hl2:p1.Vehicles.length≤c2∧c2≤maxLen) (hA2:Qz QF μ A2 p1.Vehicles) (hl3:p1.Demands.length≤c3∧c3≤maxLen) (hA3:Qz QK μ A3 p1.Demands) (hl4:t1.Stops.length≤c4∧c4≤maxLen) (hA4:Qz QP μ A4 t1.Stops) (h:Z9 p1 t1=some (res1,res2,res3))
  (hR: ∀(A0:Option Addr) (c0:Nat) (ch0:Seg),Own Wq 135 μ (.slice A0 res1.length c0) res1 ch0→R (.tuple #[.slice A0 res1.length c0,.int .i64 res2,.int .i64 res3]) μ (ch0::L)) :
  Fn Tryz.prog 64 [.agg #[.int .i64 p1.Road.Nodes,.slice A1 p1.Road.Edges.length c1,.slice A2 p1.Vehicles.length c2,.slice A3 p1.Demands.length c3,.int .i64 p1.Unload,.int .i64 p1.UnloadSecs],.agg #[.int .i64 t1.Vehicle,.slice A4 t1.Stops.length c4]] μ (L) R:=by
 unfold Z9 at h;refine FnS Tryz.func64 (by kernel_rfl) E Tryz.ntmps64 E E ?_;refine G0 2 E (Al E fun g1=>Q0 0 E (Al E fun g2=>Q1 8 [1] E (Cl E ?_)));obtain ⟨_,hx1,h⟩:=Qj h;refine Wy hl1 hA1 hl2 hA2 hl3 hA3 hx1 ((Q0 7 E ?_));refine Br h 18 E E (fun hc1 h=> ?_) (fun hc1 h=> ?_)
 ·refine G2 8 [18] [] [] E ?_;cases h;exact Rt [] E E (Ug [[]] 2 (hR none 0 [] Own.nil))
 refine G2 4 [] [18] [] E ?_;refine Cut h (fun f l o_ f_ μ_ l_=> ∃(v1:Bool),v1=o_∧Ql ((30,.bool v1)::Qq [2,3] f) f_∧Qe (QI [some 1,some 0] 2 l) l_∧μ=μ_) ?_ ?_
 ·intro _ h34893 h;refine G1 5 [0] E ?_;refine Br h34893 23 E E (fun hc2 h34893=> ?_) (fun hc2 h34893=> ?_)
  ·refine G2 8 [23] [] [] E ?_;cases h34893;exact Ce E ⟨_,rfl,fE E,sE [some 1,some 0] 2 E,rfl⟩
  refine G2 8 [] [23] [0,1] E ?_;cases h34893;exact Ce E ⟨_,rfl,fE E,sE [some 1,some 0] 2 E,rfl⟩
 rintro _ _ _ _ h _ ⟨v1,rfl,hF34893,hS34893,rfl⟩;refine Atn 2 hF34893 hS34893 E E ?_;refine Br h 30 E E (fun hc3 h=> ?_) (fun hc3 h=> ?_)
 ·refine G2 7 [30] [] [] E ?_;cases h;exact Rt [] E E (Ug [[]] 2 (hR none 0 [] Own.nil))
 refine G2 10 [] [30] [1] E ?_;refine Br h 34 E E (fun hc4 h=> ?_) (fun hc4 h=> ?_)
 ·refine G2 7 [34] [] [] E ?_;cases h;exact Rt [] E E (Ug [[]] 2 (hR none 0 [] Own.nil))
 refine G2 8 [] [34] [0,1] E (Ix h (Qz.rds hA2 L) E E fun x1 _ _ _ hr1 hc5 _ h=> ?_);obtain rfl:=hr1;refine Q3 1 [] [] [64] (Z1 (hc5.push.push)) E (Al E fun g3=>Q1 10 [0,0,0] E (Al E fun g4=>Q1 14 [0,3] E ?_));refine Cut h (fun f l o_ f_ μ_ l_=> ∃(f13:Int) (f14:Int) (f15:Int) (f16:Int) (f17:Int) (f18:Int) (out2:(List QY)) (A7:Option Addr) (c7:Nat) (ch3:Seg),(.inl (f13,f14,f15,f16,f17,f18,out2))=o_∧Ql ((10,.slice A7 out2.length c7)::Qq [2,3,8,9] f) f_∧Qe ([(g1,.cells #[.int .i64 p1.Road.Nodes,.slice A1 p1.Road.Edges.length c1,.slice A2 p1.Vehicles.length c2,.slice A3 p1.Demands.length c3,.int .i64 p1.Unload,.int .i64 p1.UnloadSecs] 28 (0,0))]::[(g2,.cells #[.int .i64 t1.Vehicle,.slice A4 t1.Stops.length c4] 51 (0,0))]::[(g3,.cells #[.string x1.ID,.int .i64 x1.Depot,.int .i64 x1.Shift.From,.int .i64 x1.Shift.To,.int .i64 x1.Grams,.int .i64 x1.Kinds] 61 (0,0))]::[(g4,.cells #[.int .i64 f13,.int .i64 f14,.int .i64 f15,.int .i64 f16,.int .i64 f17,.int .i64 f18] 135 (0,0))]::ch3::QI [] 4 l) l_∧Own Wq 135 μ_ (.slice A7 out2.length c7) out2 ch3∧μ=μ_) ?_ ?_
 ·intro _ h34908 h;refine Lp h34908 (fun f l (j_:Int×Int×Int×Int×Int×Int×(List QY)×Int) f_ μ_ l_=>Yt j_ fun f1 j_=>Yt j_ fun f2 j_=>Yt j_ fun f3 j_=>Yt j_ fun f4 j_=>Yt j_ fun f5 j_=>Yt j_ fun f6 j_=>Yt j_ fun out1 v2=> ∃(A5:Option Addr) (c5:Nat) (ch1:Seg),Ql ((10,.slice A5 out1.length c5)::(50,.int .i64 v2)::Qq [2,3,8,9,48,49] f) f_∧Qe ([(g1,.cells #[.int .i64 p1.Road.Nodes,.slice A1 p1.Road.Edges.length c1,.slice A2 p1.Vehicles.length c2,.slice A3 p1.Demands.length c3,.int .i64 p1.Unload,.int .i64 p1.UnloadSecs] 28 (0,0))]::[(g2,.cells #[.int .i64 t1.Vehicle,.slice A4 t1.Stops.length c4] 51 (0,0))]::[(g3,.cells #[.string x1.ID,.int .i64 x1.Depot,.int .i64 x1.Shift.From,.int .i64 x1.Shift.To,.int .i64 x1.Grams,.int .i64 x1.Kinds] 61 (0,0))]::[(g4,.cells #[.int .i64 f1,.int .i64 f2,.int .i64 f3,.int .i64 f4,.int .i64 f5,.int .i64 f6] 135 (0,0))]::ch1::QI [] 4 l) l_∧Own Wq 135 μ_ (.slice A5 out1.length c5) out1 ch1∧μ=μ_) ⟨none,0,[],fE E,sE [some 2,some 3,some 1,some 0,none] 4 E,(Own.nil),E⟩ ?_;rintro ⟨f1,f2,f3,f4,f5,f6,out1,v2⟩ _ _ _ _ _ ⟨A5,c5,ch1,hF35258,hS35258,hO1,rfl⟩ hb35258 hq35258;unfold Zn at hb35258;replace hb35258:=Qp hb35258;replace hb35258:=Qp hb35258;replace hb35258:=Qp hb35258;replace hb35258:=Qp hb35258;replace hb35258:=Qp hb35258;replace hb35258:=Qp hb35258;replace hb35258:=Qp hb35258;refine Atn 5 hF35258 hS35258 E E (G0 5 E ?_);refine Br hb35258 51 E E (fun hc6 hb35258=> ?_) (fun hc6 hb35258=> ?_)
  ·refine G2 7 [51] [] [] E (Ix hb35258 (Qz.rds hA4 L) E E fun _ _ _ _ hr2 hc7 _ hb35258=> ?_);obtain rfl:=hr2;refine Q3 11 [] [] [64,0,2,1] (Z1 (hc7.push.push.push.push.push)) E (Cl E ?_);obtain ⟨_,hx4,hb35258⟩:=Qj hb35258;refine Qdu hl1 hA1 hl2 hA2 hl3 hA3 hl4 (Qz.rds hA4 _) hx4 ((Q0 8 E ?_));refine Cut hb35258 (fun f l o_ f_ μ_ l_=> ∃(f7:Int) (f8:Int) (f9:Int) (f10:Int) (f11:Int) (f12:Int) (e1:Int),(f7,f8,f9,f10,f11,f12,e1)=o_∧Ql ((13,.int .i64 e1)::Qq [2,3,8,9,10,11,48,49,50] f) f_∧Qe ([(g1,.cells #[.int .i64 p1.Road.Nodes,.slice A1 p1.Road.Edges.length c1,.slice A2 p1.Vehicles.length c2,.slice A3 p1.Demands.length c3,.int .i64 p1.Unload,.int .i64 p1.UnloadSecs] 28 (0,0))]::[(g2,.cells #[.int .i64 t1.Vehicle,.slice A4 t1.Stops.length c4] 51 (0,0))]::[(g3,.cells #[.string x1.ID,.int .i64 x1.Depot,.int .i64 x1.Shift.From,.int .i64 x1.Shift.To,.int .i64 x1.Grams,.int .i64 x1.Kinds] 61 (0,0))]::[(g4,.cells #[.int .i64 f7,.int .i64 f8,.int .i64 f9,.int .i64 f10,.int .i64 f11,.int .i64 f12] 135 (0,0))]::QI [] 4 l) l_∧μ=μ_) ?_ ?_
   ·intro _ h35273 hb35258;refine Br h35273 62 E E (fun hc8 h35273=> ?_) (fun hc8 h35273=> ?_)
    ·refine G2 6 [62] [] [0,2,3] E (Cl E ?_);obtain ⟨⟨_,_⟩,hx5,h35273⟩:=Qj h35273;replace h35273:=Qp h35273;refine Qdi hl1 hA1 hl2 hA2 hl3 hA3 hx5 ((Q1 6 [3] E ?_));cases h35273;exact Ce E ⟨_,_,_,_,_,_,_,rfl,fE E,sE [some 0,some 1,some 2,some 3,some 4] 5 E,rfl⟩
    refine G2 2 [] [62] [] E ?_;cases h35273;exact Ce E ⟨_,_,_,_,_,_,_,rfl,fE E,sE [some 0,some 1,some 2,some 3,some 4] 5 E,rfl⟩
   rintro _ _ _ _ hb35258 _ ⟨f7,f8,f9,f10,f11,f12,e1,rfl,hF35273,hS35273,rfl⟩;replace hb35258:=Qp hb35258;replace hb35258:=Qp hb35258;replace hb35258:=Qp hb35258;replace hb35258:=Qp hb35258;replace hb35258:=Qp hb35258;replace hb35258:=Qp hb35258;refine Atn 5 hF35273 hS35273 E E (G0 6 E ?_);refine Br hb35258 72 E E (fun hc9 hb35258=> ?_) (fun hc9 hb35258=> ?_)
   ·refine G2 9 [72] [] [] E ?_;cases hb35258;have hq_:=hq35258 _ E;subst hq_;replace h:=Yn h;cases h;exact Rt [] E E (Ug [[]] 5 (hR none 0 [] Own.nil))
   refine G2 5 [] [72] [3] E (So E (YW (z:=[.int .i64 0,.int .i64 0,.int .i64 0,.int .i64 0,.int .i64 0,.int .i64 0]) E E E E E E E (QZ (cells':=[.int .i64 f7,.int .i64 f8,.int .i64 f9,.int .i64 f10,.int .i64 f11,.int .i64 f12]) E E E E (YH (fun g5=>Q0 0 E (So E (Yf E ?_)))))));obtain ⟨_,hz1,hb35258⟩:=Qj hb35258;refine Yh (r:=Wq) QB E E E E (by decide) E E 5 E hO1 E (Own.rds (Own.lit (r:=Wq) (e:=135) (g:=g5) (xs:=[(QY.mk f7 f8 f9 f10 f11 f12)]) (cs:=[.int .i64 f7,.int .i64 f8,.int .i64 f9,.int .i64 f10,.int .i64 f11,.int .i64 f12]) (css:=[[.int .i64 f7,.int .i64 f8,.int .i64 f9,.int .i64 f10,.int .i64 f11,.int .i64 f12]]) E (All2.cons (E) (All2.nil)) E E) 0 E) hz1 fun A6 c6 ch2 hO2=>Q0 7 E ?_;cases hb35258;exact Ce E ⟨_,rfl,A6,c6,ch2,fE E,sE [some 1,some 2,some 3,some 4,some 5] 6 E,(hO2),rfl⟩
  refine G2 2 [] [51] [] E ?_;cases hb35258;have hq_:=hq35258 _ E;subst hq_;exact Ce E ⟨_,_,_,_,_,_,_,A5,c5,ch1,rfl,fE E,sE [some 0,some 1,some 2,some 3,some 4] 5 E,(hO1),rfl⟩
 rintro _ _ _ _ h _ ⟨f13,f14,f15,f16,f17,f18,out2,A7,c7,ch3,rfl,hF34908,hS34908,hO3,rfl⟩;replace h:=YB h;replace h:=Qp h;replace h:=Qp h;replace h:=Qp h;replace h:=Qp h;replace h:=Qp h;replace h:=Qp h;refine Atn 5 hF34908 hS34908 E E (G1 5 [0,2,3] E (Cl E ?_));obtain ⟨⟨r5,_⟩,hx6,h⟩:=Qj h;replace h:=Qp h;refine QdI hl1 hA1 hl2 hA2 hl3 hA3 hx6 ((Q1 12 [3] E ?_));refine Br h 88 E E (fun hc10 h=> ?_) (fun hc10 h=> ?_)
 ·refine G2 2 [88] [] [] E (Dr _ QM.refl [(true,0),(true,1),(true,2),(true,3),(true,4),(true,5),(true,6)] (by kernel_rfl) (G1 8 [1] E ?_));cases h;exact Rt [] E E (Ug [[]] 5 (hR none 0 [] Own.nil))
 refine G2 6 [] [88] [3] E (So E (YW (z:=[.int .i64 0,.int .i64 0,.int .i64 0,.int .i64 0,.int .i64 0,.int .i64 0]) E E E E E E E (QZ (cells':=[.int .i64 r5.Stop,.int .i64 r5.Node,.int .i64 r5.Arrive,.int .i64 r5.Start,.int .i64 r5.Leave,.int .i64 r5.Load]) E E E E (YH (fun g6=>Q0 0 E (So E (Yf E ?_)))))));obtain ⟨_,hz2,h⟩:=Qj h;refine Yh (r:=Wq) QB E E E E (by decide) E E 5 E hO3 E (Own.rds (Own.lit (r:=Wq) (e:=135) (g:=g6) (xs:=[r5]) (cs:=[.int .i64 r5.Stop,.int .i64 r5.Node,.int .i64 r5.Arrive,.int .i64 r5.Start,.int .i64 r5.Leave,.int .i64 r5.Load]) (css:=[[.int .i64 r5.Stop,.int .i64 r5.Node,.int .i64 r5.Arrive,.int .i64 r5.Start,.int .i64 r5.Leave,.int .i64 r5.Load]]) E (All2.cons (E) (All2.nil)) E E) 0 E) hz2 fun A8 c8 ch4 hO4=>Q0 4 E ?_;cases h;exact Rt [] E E (Ug [[5]] 6 (hR A8 c8 ch4 hO4))
theorem WU  {p1:Qh} {t1:Qa} {A1:Option Addr} {c1:Nat} {A2:Option Addr} {c2:Nat} {A3:Option Addr} {c3:Nat} {A4:Option Addr} {c4:Nat} {res1:Int} {res2:Int}
  (hl1:p1.Road.Edges.length≤c1∧c1≤maxLen) (hA1:Qz QN μ A1 p1.Road.Edges) (hl2:p1.Vehicles.length≤c2∧c2≤maxLen) (hA2:Qz QF μ A2 p1.Vehicles) (hl3:p1.Demands.length≤c3∧c3≤maxLen) (hA3:Qz QK μ A3 p1.Demands) (hl4:t1.Stops.length≤c4∧c4≤maxLen) (hA4:Qz QP μ A4 t1.Stops) (h:YC p1 t1=some (res1,res2))
  (hR:R (.tuple #[.int .i64 res1,.int .i64 res2]) μ (L)) :
  Fn Tryz.prog 58 [.agg #[.int .i64 p1.Road.Nodes,.slice A1 p1.Road.Edges.length c1,.slice A2 p1.Vehicles.length c2,.slice A3 p1.Demands.length c3,.int .i64 p1.Unload,.int .i64 p1.UnloadSecs],.agg #[.int .i64 t1.Vehicle,.slice A4 t1.Stops.length c4]] μ (L) R:=by
 unfold YC at h;refine FnS Tryz.func58 (by kernel_rfl) E Tryz.ntmps58 E E ?_;refine G0 2 E (Al E fun _=>Q0 0 E (Al E fun _=>Q1 7 [1,0] E (Cl E ?_)));obtain ⟨⟨_,_,_⟩,hx1,h⟩:=Qj h;replace h:=Qp h;replace h:=Qp h;refine Qbj hl1 hA1 hl2 hA2 hl3 hA3 hl4 hA4 hx1 (fun _ _ _ hO1=>Q0 14 E ?_);refine Br h 21 E E (fun hc1 h=> ?_) (fun hc1 h=> ?_)
 ·refine G2 7 [21] [] [] E ?_;cases h;exact Rt [] E E (Ug [] 3 hR)
 refine G2 12 [] [21] [2,1] E (Ix h (Qz.rds hA2 L) E E fun _ _ _ _ hr1 hc2 _ h=> ?_);obtain rfl:=hr1;refine Q3 11 [] [] [65] (Z1 (hc2.push.push.push)) E ?_;refine Cut h (fun f l o_ f_ μ_ l_=> ∃(sum2:Int),sum2=o_∧Ql ((9,.int .i64 sum2)::[]) f_∧Qe (QI [] 3 l) l_∧μ=μ_) ?_ ?_
 ·intro _ h35325 h;refine Lp h35325 (fun f l (j_:Int×Int×Int) f_ μ_ l_=>Yt j_ fun sum1 j_=>Yt j_ fun f_at1 v1=>Ql ((9,.int .i64 sum1)::(10,.int .i64 f_at1)::(32,.int .i64 v1)::Qq [2,30,31] f) f_∧Qe (QI [some 2,some 0] 3 l) l_∧μ=μ_) ⟨fE E,sE [some 2,some 0] 3 E,E⟩ ?_;rintro ⟨sum1,f_at1,v1⟩ _ _ _ _ _ ⟨hF35333,hS35333,rfl⟩ hb35333 hq35333;unfold ZX at hb35333;replace hb35333:=Qp hb35333;replace hb35333:=Qp hb35333;refine Atn 2 hF35333 hS35333 E E (G0 5 E ?_);refine Br hb35333 33 E E (fun hc3 hb35333=> ?_) (fun hc3 hb35333=> ?_)
  ·refine G2 6 [33] [] [] E (IxA hb35333 (Own.rds hO1 1 E) E E fun _ _ _ _ hr2 hc4 _ hb35333=> ?_);obtain rfl:=hr2;refine Q3 1 [] [] [64] (Z1 hc4) E (Al E fun _=>Q1 9 [0,1,0] E (Cl E ?_));obtain ⟨_,hx4,hb35333⟩:=Qj hb35333;refine V5 hl1 hA1 hl2 hA2 hl3 hA3 hx4 ((Q1 14 [0] E ?_));cases hb35333;exact Ce E ⟨_,rfl,fE E,sE [some 1,some 2] 3 E,rfl⟩
  refine G2 2 [] [33] [] E ?_;cases hb35333;have hq_:=hq35333 _ E;subst hq_;exact Ce E ⟨_,rfl,fE E,sE [] 2 E,rfl⟩
 rintro _ _ _ _ h _ ⟨sum2,rfl,hF35325,hS35325,rfl⟩;refine Atn 0 hF35325 hS35325 E E (G0 6 E ?_);cases h;exact Rt [] E E (Ug [] 0 hR)
theorem QcA {F:Nat} {p1:Qh} {t1:Qa} {d1:Int} {A1:Option Addr} {c1:Nat} {A2:Option Addr} {c2:Nat} {A3:Option Addr} {c3:Nat} {A4:Option Addr} {c4:Nat} {res1:(List Qa)} {res2:Int}
  (hl1:p1.Road.Edges.length≤c1∧c1≤maxLen) (hA1:Qz QN μ A1 p1.Road.Edges) (hl2:p1.Vehicles.length≤c2∧c2≤maxLen) (hA2:Qz QF μ A2 p1.Vehicles) (hl3:p1.Demands.length≤c3∧c3≤maxLen) (hA3:Qz QK μ A3 p1.Demands) (hl4:t1.Stops.length≤c4∧c4≤maxLen) (hA4:Qz QP μ A4 t1.Stops) (h:YE F p1 t1 d1=some (res1,res2))
  (hR: ∀(μ':Gh) (A0:Option Addr) (c0:Nat) (ch0:Seg),μ.le μ'→Own Qw 51 μ' (.slice A0 res1.length c0) res1 ch0→R (.tuple #[.slice A0 res1.length c0,.int .i64 res2]) μ' (ch0::L)) :
  Fn Tryz.prog 71 [.agg #[.int .i64 p1.Road.Nodes,.slice A1 p1.Road.Edges.length c1,.slice A2 p1.Vehicles.length c2,.slice A3 p1.Demands.length c3,.int .i64 p1.Unload,.int .i64 p1.UnloadSecs],.agg #[.int .i64 t1.Vehicle,.slice A4 t1.Stops.length c4],.int .i64 d1] μ (L) R:=by
 unfold YE at h;refine FnS Tryz.func71 (by kernel_rfl) E Tryz.ntmps71 E E ?_;refine G0 2 E (Al E fun g1=>Q0 0 E (Al E fun g2=>Q1 6 [1] E (Cl E ?_)));obtain ⟨_,hx1,h⟩:=Qj h;refine Wy hl1 hA1 hl2 hA2 hl3 hA3 hx1 ((Q0 8 E ?_));refine Br h 22 E E (fun hc1 h=> ?_) (fun hc1 h=> ?_)
 ·refine G2 7 [22] [] [] E ?_;cases h;exact Rt [] E E (Ug [[]] 2 (hR _ none 0 [] (Gh.le.refl _) Own.nil))
 refine G2 4 [] [22] [] E ?_;refine Cut h (fun f l o_ f_ μ_ l_=> ∃(v1:Bool),v1=o_∧Ql ((45,.bool v1)::Qq [2,3,4] f) f_∧Qe (QI [some 1,some 0] 2 l) l_) ?_ ?_
 ·intro _ h35569 h;refine G1 5 [0] E ?_;refine Br h35569 27 E E (fun hc2 h35569=> ?_) (fun hc2 h35569=> ?_)
  ·refine G2 19 [27,35,39] [] [] E ?_;cases h35569;exact Ce E ⟨_,rfl,fE E,sE [some 1,some 0] 2 E⟩
  refine G2 8 [] [27] [0,1] E ?_;refine Br h35569 35 E E (fun hc3 h35569=> ?_) (fun hc3 h35569=> ?_)
  ·refine G2 11 [35,39] [] [] E ?_;cases h35569;exact Ce E ⟨_,rfl,fE E,sE [some 1,some 0] 2 E⟩
  refine G2 4 [] [35] [] E ?_;refine Br h35569 39 E E (fun hc4 h35569=> ?_) (fun hc4 h35569=> ?_)
  ·refine G2 7 [39] [] [] E ?_;cases h35569;exact Ce E ⟨_,rfl,fE E,sE [some 1,some 0] 2 E⟩
  refine G2 7 [] [39] [1] E ?_;cases h35569;exact Ce E ⟨_,rfl,fE E,sE [some 1,some 0] 2 E⟩
 rintro _ _ _ _ h hm35569 ⟨v1,rfl,hF35569,hS35569⟩;replace hA1:=hA1.mono hm35569;replace hA2:=hA2.mono hm35569;replace hA3:=hA3.mono hm35569;replace hA4:=hA4.mono hm35569;refine Atn 2 hF35569 hS35569 E E ?_;refine Br h 45 E E (fun hc5 h=> ?_) (fun hc5 h=> ?_)
 ·refine G2 6 [45] [] [] E ?_;cases h;exact Rt [] E E (Ug [[]] 2 (hR _ none 0 [] hm35569 Own.nil))
 refine G2 7 [] [45] [] E ?_;refine Cut h (fun f l o_ f_ μ_ l_=>(.inl ())=o_∧Ql (Qq [2,3,4] f) f_∧Qe l l_) ?_ ?_
 ·intro _ h35576 h;refine Lp h35576 (fun f l (i1:Int) f_ μ_ l_=>Ql ((9,.int .i64 i1)::Qq [2,3,4] f) f_∧Qe l l_) ⟨fE E,sE [some 0,some 1] 2 E⟩ ?_;rintro i1 _ _ _ _ hm35586 ⟨hF35586,hS35586⟩ hb35586 hq35586;unfold Zf at hb35586;replace hA1:=hA1.mono hm35586;replace hA2:=hA2.mono hm35586;replace hA3:=hA3.mono hm35586;replace hA4:=hA4.mono hm35586;refine Atn 2 hF35586 hS35586 E E (G1 9 [1] E ?_);refine Br hb35586 50 E E (fun hc6 hb35586=> ?_) (fun hc6 hb35586=> ?_)
  ·refine G2 9 [50] [] [1] E (Ix hb35586 (Qz.rds hA4 L) E E fun _ _ _ _ hr1 hc7 _ hb35586=> ?_);obtain rfl:=hr1;refine Q3 4 [] [] [64] (Z1 (hc7.push.push)) E ?_;refine Br hb35586 59 E E (fun hc8 hb35586=> ?_) (fun hc8 hb35586=> ?_)
   ·refine G2 6 [59] [] [] E ?_;cases hb35586;have hq_:=hq35586 _ E;subst hq_;replace h:=Yn h;cases h;exact Rt [] E E (Ug [[]] 2 (hR _ none 0 [] (hm35569.trans hm35586) Own.nil))
   refine G2 8 [] [59] [] E ?_;cases hb35586;exact Ce E ⟨_,rfl,fE E,sE [some 0,some 1] 2 E⟩
  refine G2 2 [] [50] [] E ?_;cases hb35586;have hq_:=hq35586 _ E;subst hq_;exact Ce E ⟨rfl,fE E,sE [some 0,some 1] 2 E⟩
 rintro _ _ _ _ h hm35576 ⟨rfl,hF35576,hS35576⟩;replace h:=YB h;replace hA1:=hA1.mono hm35576;replace hA2:=hA2.mono hm35576;replace hA3:=hA3.mono hm35576;replace hA4:=hA4.mono hm35576;refine Atn 2 hF35576 hS35576 E E (G0 13 E ?_);refine Cut h (fun f l o_ f_ μ_ l_=> ∃(out3:(List Qa)) (A19:Option Addr) (c17:Nat) (ch13:Seg),out3=o_∧Ql ((10,.slice A19 out3.length c17)::[]) f_∧Qe (ch13::QI [] 2 l) l_∧Own Qw 51 μ_ (.slice A19 out3.length c17) out3 ch13) ?_ ?_
 ·intro _ h35603 h;refine Lp h35603 (fun f l (j_:(List Qa)×(List Int)×Int) f_ μ_ l_=>Yt j_ fun out1 j_=>Yt j_ fun costs1 i2=> ∃(A5:Option Addr) (c5:Nat) (ch1:Seg) (A6:Option Addr) (c6:Nat) (ch2:Seg),Ql ((10,.slice A5 out1.length c5)::(11,.slice A6 costs1.length c6)::(12,.int .i64 i2)::Qq [2,3,4] f) f_∧Qe ([(g1,.cells #[.int .i64 p1.Road.Nodes,.slice A1 p1.Road.Edges.length c1,.slice A2 p1.Vehicles.length c2,.slice A3 p1.Demands.length c3,.int .i64 p1.Unload,.int .i64 p1.UnloadSecs] 28 (0,0))]::[(g2,.cells #[.int .i64 t1.Vehicle,.slice A4 t1.Stops.length c4] 51 (0,0))]::ch1::ch2::QI [] 2 l) l_∧Own Qw 51 μ_ (.slice A5 out1.length c5) out1 ch1∧Own QP 3 μ_ (.slice A6 costs1.length c6) costs1 ch2) ⟨none,0,[],none,0,[],fE E,sE [some 0,some 1,none,none] 2 E,(Own.nil),(Own.nil)⟩ ?_;rintro ⟨out1,costs1,i2⟩ _ _ _ _ hm35747 ⟨A5,c5,ch1,A6,c6,ch2,hF35747,hS35747,hO1,hO2⟩ hb35747 hq35747;unfold Zg at hb35747;replace hb35747:=Qp hb35747;replace hb35747:=Qp hb35747;replace hA1:=hA1.mono hm35747;replace hA2:=hA2.mono hm35747;replace hA3:=hA3.mono hm35747;replace hA4:=hA4.mono hm35747;refine Atn 4 hF35747 hS35747 E E (G1 10 [1] E ?_);refine Br hb35747 65 E E (fun hc9 hb35747=> ?_) (fun hc9 hb35747=> ?_)
  ·refine G2 3 [65] [] [] E ?_;refine Cut hb35747 (fun f l o_ f_ μ_ l_=> ∃(out2:(List Qa)) (costs2:(List Int)) (A17:Option Addr) (c15:Nat) (ch11:Seg) (A18:Option Addr) (c16:Nat) (ch12:Seg),(out2,costs2)=o_∧Ql ((10,.slice A17 out2.length c15)::(11,.slice A18 costs2.length c16)::Qq [2,3,4,12] f) f_∧Qe ([(g1,.cells #[.int .i64 p1.Road.Nodes,.slice A1 p1.Road.Edges.length c1,.slice A2 p1.Vehicles.length c2,.slice A3 p1.Demands.length c3,.int .i64 p1.Unload,.int .i64 p1.UnloadSecs] 28 (0,0))]::[(g2,.cells #[.int .i64 t1.Vehicle,.slice A4 t1.Stops.length c4] 51 (0,0))]::ch11::ch12::QI [] 4 l) l_∧Own Qw 51 μ_ (.slice A17 out2.length c15) out2 ch11∧Own QP 3 μ_ (.slice A18 costs2.length c16) costs2 ch12) ?_ ?_
   ·intro _ h35758 hb35747;refine G0 2 E ?_;refine Cut h35758 (fun f l o_ f_ μ_ l_=> ∃(f1:(List Int)) (g4:Nat) (A8:Option Addr) (c8:Nat) (ch4:Seg),f1=o_∧Ql ((13,.pointer (some ⟨g4,0,none⟩))::Qq [2,3,4,10,11,12] f) f_∧Qe ([(g1,.cells #[.int .i64 p1.Road.Nodes,.slice A1 p1.Road.Edges.length c1,.slice A2 p1.Vehicles.length c2,.slice A3 p1.Demands.length c3,.int .i64 p1.Unload,.int .i64 p1.UnloadSecs] 28 (0,0))]::[(g2,.cells #[.int .i64 t1.Vehicle,.slice A4 t1.Stops.length c4] 51 (0,0))]::ch1::ch2::[(g4,.cells #[.int .i64 t1.Vehicle,.slice A8 f1.length c8] 51 (0,0))]::ch4::QI [] 4 l) l_∧Own QP 3 μ_ (.slice A8 f1.length c8) f1 ch4) ?_ ?_
    ·intro _ h35778 h35758;refine Cd (WP.draw (id:=16) Qc7 _ QM.refl E (AN.run (fuel:=4) (listed':=[true,true,true,true,true,true,true,true,true,true,false,false,false,false]) QB [(true,0),(true,1),(true,2),(true,3),(true,4),(true,5),(true,6),(true,7),(true,8),(true,9)] (by kernel_rfl) (by kernel_rfl) E (VC E (Wu (o':=0) E E E E E E (Pt E E (JI E E E (Ex.mk _ (Wm.seg 1 0 E E E) (Pt E E (Wu (o':=1) E E E E E E (Pt E E (JI E E E (Ex.mk _ (Wm.seg 1 0 E E E) (Pt E E ?_)))))))))))));refine QL E (Pt E E (QL E (Pt E E (QpG E E ?_))));refine ⟨by decide,?_⟩;refine Pt E E (QL E (Pt E E (QpF E E ?_)));refine ⟨by decide,?_⟩;refine Pt E E (Qof E E (Qf E (QU ?_)));refine Ws QB (a:=10) (b:=12) (by kernel_rfl) ?_ ?_
     ·refine FO_ E E (Qaj (all:=[.slice A4 t1.Stops.length c4,.int .i64 d1,.int .i64 (w64 (Int.tdiv i2 2)),.bool (decide ((Int.tmod i2 2)=1))]) E E E ?_);obtain ⟨r2,hx3,h35778⟩:=Qj h35778;refine V6 hl4 (Qz.rds hA4 _) hx3 (fun A7 c7 ch3 hO3=> ?_);refine ⟨QM.more (QM.refl),?_⟩;refine Qf E (AN.run (fuel:=0) (listed':=[true,true,true,true,true,true,true,true,true,true,true,true,true,true]) QB [(true,11),(false,12),(false,13)] (by kernel_rfl) (by kernel_rfl) E (VC E (Qb3 E E E E (QZ (cells':=[.int .i64 t1.Vehicle,.slice none 0 0]) E E E E (QZ (cells':=[.int .i64 t1.Vehicle,.slice A7 r2.length c7]) E E E E (YH (Qf E (QA E (VP (cs:= #[.int .i64 0,.slice none 0 0]) E E (fun g3=> ?_))))))))));refine ⟨QM.more (QM.more (QM.refl)),?_⟩;refine Qf E (QA E (Qs (vs:=[.int .i64 t1.Vehicle,.slice A7 r2.length c7]) E E E E E E (ST_ (L':=([(g3,.cells #[.int .i64 t1.Vehicle,.slice A7 r2.length c7] 51 (0,0))]::ch3::[(g1,.cells #[.int .i64 p1.Road.Nodes,.slice A1 p1.Road.Edges.length c1,.slice A2 p1.Vehicles.length c2,.slice A3 p1.Demands.length c3,.int .i64 p1.Unload,.int .i64 p1.UnloadSecs] 28 (0,0))]::[(g2,.cells #[.int .i64 t1.Vehicle,.slice A4 t1.Stops.length c4] 51 (0,0))]::ch1::ch2::L)) 0 0 E E E E ?_)));refine ⟨QM.more (QM.more (QM.refl)),?_⟩;refine QH (QU (AN.done0 (by kernel_rfl) ?_));cases h35778;exact Ce E ⟨_,g3,A7,c7,ch3,rfl,fE E,sE [some 2,some 3,some 4,some 5,some 0,some 1] 6 E,(hO3)⟩
     obtain ⟨r2,hx3,h35778⟩:=Qj h35778;refine FO_ E E (VP (cs:= #[.int .i64 0,.slice none 0 0]) E E (fun g3=> ?_));refine ⟨QM.more (QM.refl),?_⟩;refine Qf E (AN.run (fuel:=0) (listed':=[true,true,true,true,true,true,true,true,true,true,true,true,true,true]) QB [(false,10),(true,11),(false,13)] (by kernel_rfl) (by kernel_rfl) E (QA E (Qaj (all:=[.slice A4 t1.Stops.length c4,.int .i64 d1,.int .i64 (w64 (Int.tdiv i2 2)),.bool (decide ((Int.tmod i2 2)=1))]) E E E (V6 hl4 (Qz.rds hA4 _) hx3 (fun A7 c7 ch3 hO3=> ?_)))));refine ⟨QM.more (QM.more (QM.refl)),?_⟩;refine Pt E E (Qb3 E E E E (QZ (cells':=[.int .i64 t1.Vehicle,.slice none 0 0]) E E E E (QZ (cells':=[.int .i64 t1.Vehicle,.slice A7 r2.length c7]) E E E E (YH (Qf E (QA E (Qs (vs:=[.int .i64 t1.Vehicle,.slice A7 r2.length c7]) E E E E E E (ST_ (L':=(ch3::[(g3,.cells #[.int .i64 t1.Vehicle,.slice A7 r2.length c7] 51 (0,0))]::[(g1,.cells #[.int .i64 p1.Road.Nodes,.slice A1 p1.Road.Edges.length c1,.slice A2 p1.Vehicles.length c2,.slice A3 p1.Demands.length c3,.int .i64 p1.Unload,.int .i64 p1.UnloadSecs] 28 (0,0))]::[(g2,.cells #[.int .i64 t1.Vehicle,.slice A4 t1.Stops.length c4] 51 (0,0))]::ch1::ch2::L)) 1 0 E E E E ?_))))))));refine ⟨QM.more (QM.more (QM.refl)),?_⟩;refine QH (QU (AN.done0 (by kernel_rfl) ?_));cases h35778;exact Ce E ⟨_,g3,A7,c7,ch3,rfl,fE E,sE [some 2,some 3,some 4,some 5,some 1,some 0] 6 E,(hO3)⟩
    rintro _ _ _ _ h35758 hm35778 ⟨f1,g4,A8,c8,ch4,rfl,hF35778,hS35778,hO4⟩;replace hA1:=hA1.mono hm35778;replace hA2:=hA2.mono hm35778;replace hA3:=hA3.mono hm35778;replace hO1:=hO1.mono hm35778;replace hO2:=hO2.mono hm35778;refine Atn 6 hF35778 hS35778 E E (G1 4 [0,4] E (Cl E ?_));have hl5:=Own.lenOk hO4;refine Fn.pre Tryz.func58 (by kernel_rfl) E (Upd.frzOwn 5 E hO4 fun _ hm_1 hA6=>Upd.done ?_);replace hA1:=hA1.mono hm_1;replace hA2:=hA2.mono hm_1;replace hA3:=hA3.mono hm_1;replace hO1:=hO1.mono hm_1;replace hO2:=hO2.mono hm_1;obtain ⟨⟨r3,_⟩,hx4,h35758⟩:=Qj h35758;replace h35758:=Qp h35758;refine WU hl1 hA1 hl2 hA2 hl3 hA3 hl5 hA6 hx4 ((Q0 12 E ?_));refine Br h35758 87 E E (fun hc10 h35758=> ?_) (fun hc10 h35758=> ?_)
    ·refine G2 2 [87] [] [] E ?_;cases h35758;exact Ce E ⟨_,_,A5,c5,ch1,A6,c6,ch2,rfl,fE E,sE [some 0,some 1,some 2,some 3] 6 E,(hO1),(hO2)⟩
    refine G2 9 [] [87] [] E ?_;refine Cut h35758 (fun f l o_ f_ μ_ l_=> ∃(f_at2:Int),f_at2=o_∧Ql ((16,.int .i64 f_at2)::Qq [2,3,4,10,11,12,13,14] f) f_∧Qe (QI [some 0,some 1,some 2,some 3,some 4] 6 l) l_) ?_ ?_
    ·intro _ h35826 h35758;refine Lp h35826 (fun f l (f_at1:Int) f_ μ_ l_=>Ql ((16,.int .i64 f_at1)::Qq [2,3,4,10,11,12,13,14] f) f_∧Qe (QI [some 0,some 1,some 2,some 3,some 4] 6 l) l_) ⟨fE E,sE [some 0,some 1,some 2,some 3,some 4] 6 E⟩ ?_;rintro f_at1 _ _ _ _ hm35844 ⟨hF35844,hS35844⟩ hb35844 hq35844;unfold Zc at hb35844;replace hO1:=hO1.mono hm35844;replace hO2:=hO2.mono hm35844;replace hA6:=hA6.mono hm35844;refine Atn 5 hF35844 hS35844 E E (G0 2 E ?_);refine Cut hb35844 (fun f l o_ f_ μ_ l_=> ∃(v3:Bool),v3=o_∧Ql ((100,.bool v3)::Qq [2,3,4,10,11,12,13,14,16] f) f_∧Qe l l_) ?_ ?_
     ·intro _ h35854 hb35844;refine G0 4 E ?_;refine Br h35854 92 E E (fun hc11 h35854=> ?_) (fun hc11 h35854=> ?_)
      ·refine G2 4 [92] [] [] E (IxA h35854 (Own.rds hO2 3 E) E E fun _ _ _ _ hr2 hc12 _ h35854=> ?_);obtain rfl:=hr2;refine Q3 4 [92] [] [64] (Z1 hc12) E ?_;cases h35854;exact Ce E ⟨_,rfl,fE E,sE [some 0,some 1,some 2,some 3,some 4] 5 E⟩
      refine G2 9 [] [92] [] E ?_;cases h35854;exact Ce E ⟨_,rfl,fE E,sE [some 0,some 1,some 2,some 3,some 4] 5 E⟩
     rintro _ _ _ _ hb35844 hm35854 ⟨v3,rfl,hF35854,hS35854⟩;replace hO1:=hO1.mono hm35854;replace hO2:=hO2.mono hm35854;replace hA6:=hA6.mono hm35854;refine Atn 5 hF35854 hS35854 E E ?_;refine Br hb35844 100 E E (fun hc13 hb35844=> ?_) (fun hc13 hb35844=> ?_)
     ·refine G2 9 [100] [] [] E ?_;cases hb35844;exact Ce E ⟨_,rfl,fE E,sE [some 0,some 1,some 2,some 3,some 4] 5 E⟩
     refine G2 2 [] [100] [] E ?_;cases hb35844;have hq_:=hq35844 _ E;subst hq_;exact Ce E ⟨_,rfl,fE E,sE [some 0,some 1,some 2,some 3,some 4] 5 E⟩
    rintro _ _ _ _ h35758 hm35826 ⟨f_at2,rfl,hF35826,hS35826⟩;replace hO1:=hO1.mono hm35826;replace hO2:=hO2.mono hm35826;replace hA6:=hA6.mono hm35826;obtain ⟨_,hs1,h35758⟩:=Qj h35758;refine Atn 5 hF35826 hS35826 E E (G0 9 E (Rdo E E (Qa9 E E E E E E (Own.lenOk hO1).1 hs1 ?_)));have hA8:=Rds.pre (Own.rds (L:=([(g1,.cells #[.int .i64 p1.Road.Nodes,.slice A1 p1.Road.Edges.length c1,.slice A2 p1.Vehicles.length c2,.slice A3 p1.Demands.length c3,.int .i64 p1.Unload,.int .i64 p1.UnloadSecs] 28 (0,0))]::[(g2,.cells #[.int .i64 t1.Vehicle,.slice A4 t1.Stops.length c4] 51 (0,0))]::ch1::ch2::[(g4,.cells #[.int .i64 t1.Vehicle,.slice A8 f1.length c8] 51 (0,0))]::L)) hO1 2 E) hs1;have hl6:=Qcv (Own.lenOk hO1) hs1;refine Q0 0 E (So E (Yf E (Zp.pre (Upd.nilseg (Upd.done ?_)))));obtain ⟨_,hz1,h35758⟩:=Qj h35758;refine Yh (r:=Qw) QB E E E E (by decide) E E 0 E (Own.nil (r:=Qw) (e:=51)) E (Rds.push hA8) hz1 fun _ _ _ hO5=>Q1 6 [5] E (So E (YW (z:=[.int .i64 0,.slice none 0 0]) E E E E E E E (QZ (cells':=[.int .i64 t1.Vehicle,.slice A8 f1.length c8]) E E E E (YH (fun g5=>Q0 0 E (So E (Yf E ?_)))))));obtain ⟨_,hz2,h35758⟩:=Qj h35758;refine Yh (r:=Qw) QB E E E E (by decide) E E 1 E hO5 E (Own.rds (Own.lit (r:=Qw) (e:=51) (g:=g5) (xs:=[(Qa.mk t1.Vehicle f1)]) (cs:=[.int .i64 t1.Vehicle,.slice A8 f1.length c8]) (css:=[[.int .i64 t1.Vehicle,.slice A8 f1.length c8]]) E (All2.cons (⟨A8,c8,E,hl5,hA6⟩) (All2.nil)) E E) 0 E) hz2 fun _ _ ch6 hO6=> ?_;obtain ⟨_,hs2,h35758⟩:=Qj h35758;refine Q0 7 E (Rdo E E (QcH (r:=Qw) E E E E E E E (Own.lenOk hO1).1 hs2 fun _ hAe1=> ?_));have hA9:=Rds.sub (Own.rds (L:=([(g5,.cells #[.int .i64 t1.Vehicle,.slice A8 f1.length c8] 51 (0,0))]::ch6::[(g1,.cells #[.int .i64 p1.Road.Nodes,.slice A1 p1.Road.Edges.length c1,.slice A2 p1.Vehicles.length c2,.slice A3 p1.Demands.length c3,.int .i64 p1.Unload,.int .i64 p1.UnloadSecs] 28 (0,0))]::[(g2,.cells #[.int .i64 t1.Vehicle,.slice A4 t1.Stops.length c4] 51 (0,0))]::ch1::ch2::[(g4,.cells #[.int .i64 t1.Vehicle,.slice A8 f1.length c8] 51 (0,0))]::L)) hO1 4 E) (Own.lenOk hO1).1 hs2 hAe1;have hl7:=Qel (Own.lenOk hO1) hs2;refine Q0 0 E (So E (Yf E ?_));obtain ⟨_,hz3,h35758⟩:=Qj h35758;refine Yh (r:=Qw) QB E E E E (by decide) E E 1 E hO6 E hA9 hz3 fun A12 c11 ch7 hO7=> ?_;obtain ⟨_,hs3,h35758⟩:=Qj h35758;refine Q0 11 E (Rdo E E (Qa9 E E E E E E (Own.lenOk hO2).1 hs3 ?_));have hA10:=Rds.pre (Own.rds (L:=([(g5,.cells #[.int .i64 t1.Vehicle,.slice A8 f1.length c8] 51 (0,0))]::ch7::[(g1,.cells #[.int .i64 p1.Road.Nodes,.slice A1 p1.Road.Edges.length c1,.slice A2 p1.Vehicles.length c2,.slice A3 p1.Demands.length c3,.int .i64 p1.Unload,.int .i64 p1.UnloadSecs] 28 (0,0))]::[(g2,.cells #[.int .i64 t1.Vehicle,.slice A4 t1.Stops.length c4] 51 (0,0))]::ch1::ch2::[(g4,.cells #[.int .i64 t1.Vehicle,.slice A8 f1.length c8] 51 (0,0))]::L)) hO2 5 E) hs3;have hl8:=Qcv (Own.lenOk hO2) hs3;refine Q0 0 E (So E (Yf E (Zp.pre (Upd.nilseg (Upd.done ?_)))));obtain ⟨_,hz4,h35758⟩:=Qj h35758;refine Yh (r:=QP) QB E E E E (by decide) E E 0 E (Own.nil (r:=QP) (e:=3)) E (Rds.push hA10) hz4 fun _ _ _ hO8=>Q0 6 E (So E (YW (z:=[.int .i64 0]) E E E E E E E (QZ (cells':=[.int .i64 r3]) E E E E (YH (fun g6=>Q0 0 E (So E (Yf E ?_)))))));obtain ⟨_,hz5,h35758⟩:=Qj h35758;refine Yh (r:=QP) QB E E E E (by decide) E E 1 E hO8 E (Own.rds (Own.lit (r:=QP) (e:=3) (g:=g6) (xs:=[r3]) (cs:=[.int .i64 r3]) (css:=[[.int .i64 r3]]) E (All2.cons (E) (All2.nil)) E E) 0 E) hz5 fun _ _ ch9 hO9=> ?_;obtain ⟨_,hs4,h35758⟩:=Qj h35758;refine Q0 6 E (Rdo E E (QcH (r:=QP) E E E E E E E (Own.lenOk hO2).1 hs4 fun _ hAe2=> ?_))
    have hA11:=Rds.sub (Own.rds (L:=([(g6,.cells #[.int .i64 r3] 3 (0,0))]::ch9::[(g5,.cells #[.int .i64 t1.Vehicle,.slice A8 f1.length c8] 51 (0,0))]::ch7::[(g1,.cells #[.int .i64 p1.Road.Nodes,.slice A1 p1.Road.Edges.length c1,.slice A2 p1.Vehicles.length c2,.slice A3 p1.Demands.length c3,.int .i64 p1.Unload,.int .i64 p1.UnloadSecs] 28 (0,0))]::[(g2,.cells #[.int .i64 t1.Vehicle,.slice A4 t1.Stops.length c4] 51 (0,0))]::ch1::ch2::[(g4,.cells #[.int .i64 t1.Vehicle,.slice A8 f1.length c8] 51 (0,0))]::L)) hO2 7 E) (Own.lenOk hO2).1 hs4 hAe2;have hl9:=Qel (Own.lenOk hO2) hs4;refine Q0 0 E (So E (Yf E ?_));obtain ⟨_,hz6,h35758⟩:=Qj h35758;refine Yh (r:=QP) QB E E E E (by decide) E E 1 E hO9 E hA11 hz6 fun A16 c14 ch10 hO10=>Q0 3 E ?_;cases h35758;exact Ce E ⟨_,_,A12,c11,ch7,A16,c14,ch10,rfl,fE E,sE [some 4,some 5,some 3,some 1] 9 E,(hO7),(hO10)⟩
   rintro _ _ _ _ hb35747 hm35758 ⟨out2,costs2,A17,c15,ch11,A18,c16,ch12,rfl,hF35758,hS35758,hO11,hO12⟩;replace hb35747:=Qp hb35747;replace hO1:=hO1.mono hm35758;refine Atn 4 hF35758 hS35758 E E (G0 5 E ?_);cases hb35747;exact Ce E ⟨_,rfl,A17,c15,ch11,A18,c16,ch12,fE E,sE [some 0,some 1,some 2,some 3] 4 E,(hO11),(hO12)⟩
  refine G2 2 [] [65] [] E ?_;cases hb35747;have hq_:=hq35747 _ E;subst hq_;exact Ce E ⟨_,A5,c5,ch1,rfl,fE E,sE [some 2] 4 E,(hO1)⟩
 rintro _ _ _ _ h hm35603 ⟨out3,A19,c17,ch13,rfl,hF35603,hS35603,hO13⟩;refine Atn 1 hF35603 hS35603 E E (G0 6 E ?_);cases h;exact Rt [] E E (Ug [[0]] 1 (hR _ A19 c17 ch13 (hm35569.trans (hm35576.trans hm35603)) hO13))
theorem Qc4  {p1:Qh} {x1:Qk} {A1:Option Addr} {c1:Nat} {A2:Option Addr} {c2:Nat} {A3:Option Addr} {c3:Nat} {A4:Option Addr} {c4:Nat} {A5:Option Addr} {c5:Nat} {res1:(List Int)} {res2:Int}
  (hl1:p1.Road.Edges.length≤c1∧c1≤maxLen) (hA1:Qz QN μ A1 p1.Road.Edges) (hl2:p1.Vehicles.length≤c2∧c2≤maxLen) (hA2:Qz QF μ A2 p1.Vehicles) (hl3:p1.Demands.length≤c3∧c3≤maxLen) (hA3:Qz QK μ A3 p1.Demands) (hl4:x1.Tours.length≤c4∧c4≤maxLen) (hA4:Qz Qw μ A4 x1.Tours) (hl5:x1.Left.length≤c5∧c5≤maxLen) (hA5:Qz QP μ A5 x1.Left) (h:Vh p1 x1=some (res1,res2))
  (hR: ∀(A0:Option Addr) (c0:Nat) (ch0:Seg),Own QP 3 μ (.slice A0 res1.length c0) res1 ch0→R (.tuple #[.slice A0 res1.length c0,.int .i64 res2]) μ (ch0::L)) :
  Fn Tryz.prog 65 [.agg #[.int .i64 p1.Road.Nodes,.slice A1 p1.Road.Edges.length c1,.slice A2 p1.Vehicles.length c2,.slice A3 p1.Demands.length c3,.int .i64 p1.Unload,.int .i64 p1.UnloadSecs],.agg #[.slice A4 x1.Tours.length c4,.slice A5 x1.Left.length c5]] μ (L) R:=by
 unfold Vh at h;refine FnS Tryz.func65 (by kernel_rfl) E Tryz.ntmps65 E E ?_;refine G0 2 E (Al E fun _=>Q0 0 E (Al E fun g2=>Q1 8 [1] E (So E (Qhx E E ?_))));obtain ⟨_,hn1,h⟩:=Qj h;refine Qf7 (r:=QP) (z:=0) (zc:=[.int .i64 0]) QB E E E E E (E) E hn1 fun A6 c6 ch1 hO1=>Q1 10 [1] E ?_;refine Cut h (fun f l o_ f_ μ_ l_=> ∃(out6:(List Int)) (A13:Option Addr) (c13:Nat) (ch8:Seg),out6=o_∧Ql ((6,.slice A13 out6.length c13)::Qq [3] f) f_∧Qe ([(g2,.cells #[.slice A4 x1.Tours.length c4,.slice A5 x1.Left.length c5] 33 (0,0))]::ch8::QI [] 3 l) l_∧Own QP 3 μ_ (.slice A13 out6.length c13) out6 ch8∧μ=μ_) ?_ ?_
 ·intro _ h37336 h;refine Lp h37336 (fun f l (j_:(List Int)×Int) f_ μ_ l_=>Yt j_ fun out1 v1=> ∃(A7:Option Addr) (c7:Nat) (ch2:Seg),Ql ((6,.slice A7 out1.length c7)::(20,.int .i64 v1)::Qq [3,18,19] f) f_∧Qe ([(g2,.cells #[.slice A4 x1.Tours.length c4,.slice A5 x1.Left.length c5] 33 (0,0))]::ch2::QI [] 3 l) l_∧Own QP 3 μ_ (.slice A7 out1.length c7) out1 ch2∧μ=μ_) ⟨A6,c6,ch1,fE E,sE [some 1,some 0] 3 E,(hO1),E⟩ ?_;rintro ⟨out1,v1⟩ _ _ _ _ _ ⟨A7,c7,ch2,hF37377,hS37377,hO2,rfl⟩ hb37377 hq37377;unfold Zx at hb37377;replace hb37377:=Qp hb37377;refine Atn 2 hF37377 hS37377 E E (G0 5 E ?_);refine Br hb37377 21 E E (fun hc1 hb37377=> ?_) (fun hc1 hb37377=> ?_)
  ·refine G2 3 [21] [] [] E ?_;refine Cut hb37377 (fun f l o_ f_ μ_ l_=> ∃(out5:(List Int)) (A12:Option Addr) (c12:Nat) (ch7:Seg),out5=o_∧Ql ((6,.slice A12 out5.length c12)::Qq [3,18,19,20] f) f_∧Qe ([(g2,.cells #[.slice A4 x1.Tours.length c4,.slice A5 x1.Left.length c5] 33 (0,0))]::ch7::QI [] 2 l) l_∧Own QP 3 μ_ (.slice A12 out5.length c12) out5 ch7∧μ=μ_) ?_ ?_
   ·intro _ h37383 hb37377;refine G0 3 E (Ix h37383 (Qz.rds hA4 L) E E fun _ _ _ _ hr1 hc2 _ h37383=> ?_);obtain ⟨_,_,rfl,_,hA7⟩:=hr1;refine Q3 1 [] [] [64] (Z1 (hc2.push.push)) E (Al E fun _=>Q1 9 [0,0] E ?_);refine Cut h37383 (fun f l o_ f_ μ_ l_=> ∃(out4:(List Int)) (A11:Option Addr) (c11:Nat) (ch6:Seg),out4=o_∧Ql ((6,.slice A11 out4.length c11)::Qq [3,18,19,20] f) f_∧Qe ([(g2,.cells #[.slice A4 x1.Tours.length c4,.slice A5 x1.Left.length c5] 33 (0,0))]::ch6::QI [] 3 l) l_∧Own QP 3 μ_ (.slice A11 out4.length c11) out4 ch6∧μ=μ_) ?_ ?_
    ·intro _ h37388 h37383;refine Lp h37388 (fun f l (j_:(List Int)×Int) f_ μ_ l_=>Yt j_ fun out2 v2=> ∃(A9:Option Addr) (c9:Nat) (ch3:Seg),Ql ((6,.slice A9 out2.length c9)::(27,.int .i64 v2)::Qq [3,18,19,20,25,26] f) f_∧Qe ([(g2,.cells #[.slice A4 x1.Tours.length c4,.slice A5 x1.Left.length c5] 33 (0,0))]::ch3::QI [] 3 l) l_∧Own QP 3 μ_ (.slice A9 out2.length c9) out2 ch3∧μ=μ_) ⟨A7,c7,ch2,fE E,sE [some 1,some 2] 3 E,(hO2),E⟩ ?_;rintro ⟨out2,v2⟩ _ _ _ _ _ ⟨A9,c9,ch3,hF37400,hS37400,hO3,rfl⟩ hb37400 hq37400;unfold ZA at hb37400;replace hb37400:=Qp hb37400;refine Atn 2 hF37400 hS37400 E E (G0 5 E ?_);refine Br hb37400 28 E E (fun hc3 hb37400=> ?_) (fun hc3 hb37400=> ?_)
     ·refine G2 3 [28] [] [] E ?_;refine Cut hb37400 (fun f l o_ f_ μ_ l_=> ∃(out3:(List Int)) (A10:Option Addr) (c10:Nat) (ch5:Seg),out3=o_∧Ql ((6,.slice A10 out3.length c10)::Qq [3,18,19,20,25,26,27] f) f_∧Qe ([(g2,.cells #[.slice A4 x1.Tours.length c4,.slice A5 x1.Left.length c5] 33 (0,0))]::ch5::QI [] 2 l) l_∧Own QP 3 μ_ (.slice A10 out3.length c10) out3 ch5∧μ=μ_) ?_ ?_
      ·intro _ h37406 hb37400;refine G0 3 E (Ix h37406 (Qz.rds hA7 L) E E fun x3 _ _ _ hr2 hc4 _ h37406=> ?_);obtain rfl:=hr2;refine Q3 8 [] [] [64] (Z1 (hc4.push.push)) E ?_;refine Br h37406 32 E E (fun hc5 h37406=> ?_) (fun hc5 h37406=> ?_)
       ·refine G2 4 [32] [] [] E (IxA h37406 (Own.rds hO3 1 E) E E fun x4 _ _ _ hr3 hc6 _ h37406=> ?_);obtain rfl:=hr3;refine Q3 2 [] [] [64] (Z1 hc6) E (IxA h37406 (Own.rds hO3 1 E) E E fun _ a4 _ hx4 hr4 _ hA10 h37406=> ?_);obtain rfl:=hr4;refine Q0 0 E (So E (Qs (vs:=[.int .i64 (w64 (x4+1))]) E E E E E E ?_))
        rw[←Addr.add_zero' ((a4.add (x3.toNat*1)))]
        refine Own.store (μ:=μ) (r:=QP) (x':=w64 (x4+1)) (o:=0) (sz:=1) 1 rfl hO3 hA10 hx4 rfl rfl (by rintro _ rfl;rfl) fun ch4 hO4=> ?_
        rw[←Qn out2 x3 (w64 (x4+1))] at hO4 ⊢
        refine Q0 2 E ?_;cases h37406;exact Ce E ⟨_,A9,c9,ch4,rfl,fE E,sE [some 0,some 1] 2 E,(hO4),rfl⟩
       refine G2 3 [] [32] [] E ?_;cases h37406;exact Ce E ⟨_,A9,c9,ch3,rfl,fE E,sE [some 0,some 1] 2 E,(hO3),rfl⟩
      rintro _ _ _ _ hb37400 _ ⟨out3,A10,c10,ch5,rfl,hF37406,hS37406,hO5,rfl⟩;refine Atn 2 hF37406 hS37406 E E (G0 4 E ?_);cases hb37400;exact Ce E ⟨_,rfl,A10,c10,ch5,fE E,sE [some 0,some 1] 2 E,(hO5),rfl⟩
     refine G2 2 [] [28] [] E ?_;cases hb37400;have hq_:=hq37400 _ E;subst hq_;exact Ce E ⟨_,A9,c9,ch3,rfl,fE E,sE [some 0,some 1] 2 E,(hO3),rfl⟩
    rintro _ _ _ _ h37383 _ ⟨out4,A11,c11,ch6,rfl,hF37388,hS37388,hO6,rfl⟩;refine G0 1 E ?_;cases h37383;exact Ce E ⟨_,A11,c11,ch6,rfl,hF37388.tr E,hS37388.tr (sE [some 0,some 1] 2 E),(hO6),rfl⟩
   rintro _ _ _ _ hb37377 _ ⟨out5,A12,c12,ch7,rfl,hF37383,hS37383,hO7,rfl⟩;refine Atn 2 hF37383 hS37383 E E (G0 4 E ?_);cases hb37377;exact Ce E ⟨_,rfl,A12,c12,ch7,fE E,sE [some 0,some 1] 2 E,(hO7),rfl⟩
  refine G2 2 [] [21] [] E ?_;cases hb37377;have hq_:=hq37377 _ E;subst hq_;exact Ce E ⟨_,A7,c7,ch2,rfl,fE E,sE [some 0,some 1] 2 E,(hO2),rfl⟩
 rintro _ _ _ _ h _ ⟨out6,A13,c13,ch8,rfl,hF37336,hS37336,hO8,rfl⟩;refine Atn 2 hF37336 hS37336 E E (G1 8 [0] E ?_);refine Cut h (fun f l o_ f_ μ_ l_=> ∃(out8:(List Int)) (A15:Option Addr) (c15:Nat) (ch11:Seg),(.inl out8)=o_∧Ql ((6,.slice A15 out8.length c15)::[]) f_∧Qe (ch11::QI [] 2 l) l_∧Own QP 3 μ_ (.slice A15 out8.length c15) out8 ch11∧μ=μ_) ?_ ?_
 ·intro _ h37421 h;refine Lp h37421 (fun f l (j_:(List Int)×Int) f_ μ_ l_=>Yt j_ fun out7 v3=> ∃(A14:Option Addr) (c14:Nat) (ch9:Seg),Ql ((6,.slice A14 out7.length c14)::(44,.int .i64 v3)::Qq [42,43] f) f_∧Qe (ch9::QI [] 2 l) l_∧Own QP 3 μ_ (.slice A14 out7.length c14) out7 ch9∧μ=μ_) ⟨A13,c13,ch8,fE E,sE [some 1] 2 E,(hO8),E⟩ ?_;rintro ⟨out7,v3⟩ _ _ _ _ _ ⟨A14,c14,ch9,hF37428,hS37428,hO9,rfl⟩ hb37428 hq37428;unfold Zy at hb37428;replace hb37428:=Qp hb37428;refine Atn 1 hF37428 hS37428 E E (G0 5 E ?_);refine Br hb37428 45 E E (fun hc8 hb37428=> ?_) (fun hc8 hb37428=> ?_)
  ·refine G2 6 [45] [] [] E (Ix hb37428 (Qz.rds hA5 L) E E fun x6 _ _ _ hr5 hc9 _ hb37428=> ?_);obtain rfl:=hr5;refine Q3 5 [] [] [64] (Z1 (hc9.push)) E ?_;refine Cut hb37428 (fun f l o_ f_ μ_ l_=> ∃(v4:Bool),v4=o_∧Ql ((55,.bool v4)::Qq [6,12,42,43,44] f) f_∧Qe l l_∧μ=μ_) ?_ ?_
   ·intro _ h37431 hb37428;refine G0 4 E ?_;refine Br h37431 50 E E (fun hc10 h37431=> ?_) (fun hc10 h37431=> ?_)
    ·refine G2 6 [50] [] [] E ?_;cases h37431;exact Ce E ⟨_,rfl,fE E,sE [some 0] 1 E,rfl⟩
    refine G2 6 [] [50] [] E ?_;cases h37431;exact Ce E ⟨_,rfl,fE E,sE [some 0] 1 E,rfl⟩
   rintro _ _ _ _ hb37428 _ ⟨v4,rfl,hF37431,hS37431,rfl⟩;refine Atn 1 hF37431 hS37431 E E ?_;refine Br hb37428 55 E E (fun hc11 hb37428=> ?_) (fun hc11 hb37428=> ?_)
   ·refine G2 6 [55] [] [] E ?_;cases hb37428;have hq_:=hq37428 _ E;subst hq_;replace h:=Yn h;cases h;exact Rt [] E E (Ug [[]] 1 (hR none 0 [] Own.nil))
   refine G2 5 [] [55] [] E (IxA hb37428 (Own.rds hO9 0 E) E E fun x7 _ _ _ hr6 hc12 _ hb37428=> ?_);obtain rfl:=hr6;refine Q3 2 [] [] [64] (Z1 hc12) E (IxA hb37428 (Own.rds hO9 0 E) E E fun _ a7 _ hx7 hr7 _ hA13 hb37428=> ?_);obtain rfl:=hr7;refine Q0 0 E (So E (Qs (vs:=[.int .i64 (w64 (x7+1))]) E E E E E E ?_))
   rw[←Addr.add_zero' ((a7.add (x6.toNat*1)))]
   refine Own.store (μ:=μ) (r:=QP) (x':=w64 (x7+1)) (o:=0) (sz:=1) 0 rfl hO9 hA13 hx7 rfl rfl (by rintro _ rfl;rfl) fun ch10 hO10=> ?_
   rw[←Qn out7 x6 (w64 (x7+1))] at hO10 ⊢
   refine Q0 6 E ?_;cases hb37428;exact Ce E ⟨_,rfl,A14,c14,ch10,fE E,sE [some 0] 1 E,(hO10),rfl⟩
  refine G2 2 [] [45] [] E ?_;cases hb37428;have hq_:=hq37428 _ E;subst hq_;exact Ce E ⟨_,A14,c14,ch9,rfl,fE E,sE [some 0] 1 E,(hO9),rfl⟩
 rintro _ _ _ _ h _ ⟨out8,A15,c15,ch11,rfl,hF37421,hS37421,hO11,rfl⟩;replace h:=YB h;refine Atn 1 hF37421 hS37421 E E (G0 6 E ?_);cases h;exact Rt [] E E (Ug [[0]] 1 (hR A15 c15 ch11 hO11))
theorem Qac  {p1:Qh} {x1:Qk} {A1:Option Addr} {c1:Nat} {A2:Option Addr} {c2:Nat} {A3:Option Addr} {c3:Nat} {A4:Option Addr} {c4:Nat} {A5:Option Addr} {c5:Nat} {res1:Int}
  (hl1:p1.Road.Edges.length≤c1∧c1≤maxLen) (hA1:Qz QN μ A1 p1.Road.Edges) (hl2:p1.Vehicles.length≤c2∧c2≤maxLen) (hA2:Qz QF μ A2 p1.Vehicles) (hl3:p1.Demands.length≤c3∧c3≤maxLen) (hA3:Qz QK μ A3 p1.Demands) (hl4:x1.Tours.length≤c4∧c4≤maxLen) (hA4:Qz Qw μ A4 x1.Tours) (hl5:x1.Left.length≤c5∧c5≤maxLen) (hA5:Qz QP μ A5 x1.Left) (h:Q4 p1 x1=some res1)
  (hR:R (.int .i64 res1) μ (L)) :
  Fn Tryz.prog 42 [.agg #[.int .i64 p1.Road.Nodes,.slice A1 p1.Road.Edges.length c1,.slice A2 p1.Vehicles.length c2,.slice A3 p1.Demands.length c3,.int .i64 p1.Unload,.int .i64 p1.UnloadSecs],.agg #[.slice A4 x1.Tours.length c4,.slice A5 x1.Left.length c5]] μ (L) R:=by
 unfold Q4 at h;refine FnS Tryz.func42 (by kernel_rfl) E Tryz.ntmps42 E E ?_;refine G0 2 E (Al E fun _=>Q0 0 E (Al E fun _=>Q1 6 [1] E (Cl E ?_)));obtain ⟨_,hx1,h⟩:=Qj h;refine Wy hl1 hA1 hl2 hA2 hl3 hA3 hx1 ((Q0 7 E ?_));refine Br h 20 E E (fun hc1 h=> ?_) (fun hc1 h=> ?_)
 ·refine G2 6 [20] [] [] E ?_;cases h;exact Rt [] E E (Ug [] 2 hR)
 refine G2 10 [] [20] [0] E ?_;refine Cut h (fun f l o_ f_ μ_ l_=>(.inl ())=o_∧Ql (Qq [2,3] f) f_∧Qe (QI [some 1,some 0] 2 l) l_∧μ=μ_) ?_ ?_
 ·intro _ h37209 h;refine Lp h37209 (fun f l (v1:Int) f_ μ_ l_=>Ql ((25,.int .i64 v1)::Qq [2,3,23,24] f) f_∧Qe (QI [some 1,some 0] 2 l) l_∧μ=μ_) ⟨fE E,sE [some 1,some 0] 2 E,E⟩ ?_;rintro v1 _ _ _ _ _ ⟨hF37266,hS37266,rfl⟩ hb37266 hq37266;unfold Y8 at hb37266;refine Atn 2 hF37266 hS37266 E E (G0 5 E ?_);refine Br hb37266 26 E E (fun hc2 hb37266=> ?_) (fun hc2 hb37266=> ?_)
  ·refine G2 3 [26] [] [] E ?_;refine Cut hb37266 (fun f l o_ f_ μ_ l_=>(.inl ())=o_∧Ql (Qq [2,3,23,24,25] f) f_∧Qe l l_∧μ=μ_) ?_ ?_
   ·intro _ h37273 hb37266;refine G0 4 E (Ix h37273 (Qz.rds hA4 L) E E fun _ _ _ _ hr1 hc3 _ h37273=> ?_);obtain ⟨_,_,rfl,hl6,hA7⟩:=hr1;refine Q3 1 [] [] [64] (Z1 (hc3.push.push)) E (Al E fun _=>Q1 8 [0] E ?_);refine Cut h37273 (fun f l o_ f_ μ_ l_=>(.inl ())=o_∧Ql (Qq [2,3,7,23,24,25] f) f_∧Qe (QI [some 1,some 2,some 0] 3 l) l_∧μ=μ_) ?_ ?_
    ·intro _ h37278 h37273;refine Lp h37278 (fun f l (k1:Int) f_ μ_ l_=>Ql ((8,.int .i64 k1)::Qq [2,3,6,7,23,24,25] f) f_∧Qe (QI [some 1,some 2,some 0] 3 l) l_∧μ=μ_) ⟨fE E,sE [some 1,some 2,some 0] 3 E,E⟩ ?_;rintro k1 _ _ _ _ _ ⟨hF37295,hS37295,rfl⟩ hb37295 hq37295;unfold ZS at hb37295;refine Atn 3 hF37295 hS37295 E E (G0 7 E ?_);refine Br hb37295 32 E E (fun hc4 hb37295=> ?_) (fun hc4 hb37295=> ?_)
     ·refine G2 5 [32] [] [] E (Dr _ QM.refl [(true,0),(true,1),(true,2),(true,3),(true,4),(true,5),(true,6),(true,7),(true,8)] (by kernel_rfl) (G1 3 [1] E (Ix hb37295 (Qz.rds hA4 L) E E fun _ _ _ _ hr2 hc5 _ hb37295=> ?_)));obtain ⟨_,_,rfl,_,_⟩:=hr2;refine Q3 6 [] [] [64,2] (Z1 (hc5.push.push.push)) E ?_;refine Br hb37295 43 E E (fun hc6 hb37295=> ?_) (fun hc6 hb37295=> ?_)
      ·refine G2 5 [43] [] [] E ?_;cases hb37295;have hq_:=hq37295 _ E;subst hq_;replace h37273:=Yn h37273;cases h37273;replace hb37266:=Yn hb37266;cases hb37266;have hq_:=hq37266 _ E;subst hq_;replace h:=Yn h;cases h;exact Rt [] E E (Ug [] 3 hR)
      refine G2 8 [] [43] [] E ?_;cases hb37295;exact Ce E ⟨_,rfl,fE E,sE [some 0,some 1,some 2] 3 E,rfl⟩
     refine G2 2 [] [32] [] E ?_;cases hb37295;have hq_:=hq37295 _ E;subst hq_;exact Ce E ⟨rfl,fE E,sE [some 0,some 1,some 2] 3 E,rfl⟩
    rintro _ _ _ _ h37273 _ ⟨rfl,hF37278,hS37278,rfl⟩;replace h37273:=YB h37273;refine Atn 3 hF37278 hS37278 E E (G1 4 [0,2] E (Cl E ?_));obtain ⟨⟨_,_,_⟩,hx4,h37273⟩:=Qj h37273;replace h37273:=Qp h37273;replace h37273:=Qp h37273;refine Qbj hl1 hA1 hl2 hA2 hl3 hA3 hl6 hA7 hx4 (fun _ _ _ _=>Q0 13 E ?_);refine Br h37273 52 E E (fun hc7 h37273=> ?_) (fun hc7 h37273=> ?_)
    ·refine G2 6 [52] [] [] E ?_;cases h37273;replace hb37266:=Yn hb37266;cases hb37266;have hq_:=hq37266 _ E;subst hq_;replace h:=Yn h;cases h;exact Rt [] E E (Ug [] 4 hR)
    refine G2 3 [] [52] [] E ?_;cases h37273;exact Ce E ⟨rfl,fE E,sE [some 1,some 2] 4 E,rfl⟩
   rintro _ _ _ _ hb37266 _ ⟨rfl,hF37273,hS37273,rfl⟩;replace hb37266:=YB hb37266;refine Atn 2 hF37273 hS37273 E E (G0 4 E ?_);cases hb37266;exact Ce E ⟨_,rfl,fE E,sE [some 0,some 1] 2 E,rfl⟩
  refine G2 2 [] [26] [] E ?_;cases hb37266;have hq_:=hq37266 _ E;subst hq_;exact Ce E ⟨rfl,fE E,sE [some 0,some 1] 2 E,rfl⟩
 rintro _ _ _ _ h _ ⟨rfl,hF37209,hS37209,rfl⟩;replace h:=YB h;refine Atn 2 hF37209 hS37209 E E (G1 4 [0,1] E (Cl E ?_));obtain ⟨⟨_,_⟩,hx5,h⟩:=Qj h;replace h:=Qp h;refine Qc4 hl1 hA1 hl2 hA2 hl3 hA3 hl4 hA4 hl5 hA5 hx5 (fun _ _ _ hO2=>Q0 12 E ?_);refine Br h 62 E E (fun hc8 h=> ?_) (fun hc8 h=> ?_)
 ·refine G2 6 [62] [] [] E ?_;cases h;exact Rt [] E E (Ug [] 3 hR)
 refine G2 13 [] [62] [] E ?_;refine Cut h (fun f l o_ f_ μ_ l_=> ∃(missing3:Bool),(.inl missing3)=o_∧Ql ((14,.bool missing3)::[]) f_∧Qe (QI [] 3 l) l_∧μ=μ_) ?_ ?_
 ·intro _ h37437 h;refine Lp h37437 (fun f l (j_:Bool×Int) f_ μ_ l_=>Yt j_ fun missing1 v2=>Ql ((14,.bool missing1)::(66,.int .i64 v2)::Qq [64,65] f) f_∧Qe (QI [some 0] 3 l) l_∧μ=μ_) ⟨fE E,sE [some 0] 3 E,E⟩ ?_;rintro ⟨missing1,v2⟩ _ _ _ _ _ ⟨hF37442,hS37442,rfl⟩ hb37442 hq37442;unfold Y1 at hb37442;replace hb37442:=Qp hb37442;refine Atn 1 hF37442 hS37442 E E (G0 5 E ?_);refine Br hb37442 67 E E (fun hc9 hb37442=> ?_) (fun hc9 hb37442=> ?_)
  ·refine G2 3 [67] [] [] E ?_;refine Cut hb37442 (fun f l o_ f_ μ_ l_=> ∃(missing2:Bool),(.inl missing2)=o_∧Ql ((14,.bool missing2)::Qq [64,65,66] f) f_∧Qe l l_∧μ=μ_) ?_ ?_
   ·intro _ h37445 hb37442;refine G0 3 E (IxA h37445 (Own.rds hO2 0 E) E E fun _ _ _ _ hr3 hc10 _ h37445=> ?_);obtain rfl:=hr3;refine Q3 9 [] [] [64] (Z1 hc10) E ?_;refine Br h37445 71 E E (fun hc11 h37445=> ?_) (fun hc11 h37445=> ?_)
    ·refine G2 5 [71] [] [] E ?_;cases h37445;replace hb37442:=Yn hb37442;cases hb37442;have hq_:=hq37442 _ E;subst hq_;replace h:=Yn h;cases h;exact Rt [] E E (Ug [] 1 hR)
    refine G2 5 [] [71] [] E ?_;refine Br h37445 73 E E (fun hc12 h37445=> ?_) (fun hc12 h37445=> ?_)
    ·refine G2 6 [73] [] [] E ?_;cases h37445;exact Ce E ⟨_,rfl,fE E,sE [some 0] 1 E,rfl⟩
    refine G2 6 [] [73] [] E ?_;cases h37445;exact Ce E ⟨_,rfl,fE E,sE [some 0] 1 E,rfl⟩
   rintro _ _ _ _ hb37442 _ ⟨missing2,rfl,hF37445,hS37445,rfl⟩;replace hb37442:=YB hb37442;refine Atn 1 hF37445 hS37445 E E (G0 4 E ?_);cases hb37442;exact Ce E ⟨_,rfl,fE E,sE [some 0] 1 E,rfl⟩
  refine G2 2 [] [67] [] E ?_;cases hb37442;have hq_:=hq37442 _ E;subst hq_;exact Ce E ⟨_,rfl,fE E,sE [] 1 E,rfl⟩
 rintro _ _ _ _ h _ ⟨missing3,rfl,hF37437,hS37437,rfl⟩;replace h:=YB h;refine Atn 0 hF37437 hS37437 E E (G0 5 E ?_);refine Br h 78 E E (fun hc13 h=> ?_) (fun hc13 h=> ?_)
 ·refine G2 5 [78] [] [] E ?_;cases h;exact Rt [] E E (Ug [] 0 hR)
 refine G2 6 [] [78] [] E ?_;cases h;exact Rt [] E E (Ug [] 0 hR)
theorem Qea  {l1:(List Int)} {n1:Int} {A1:Option Addr} {c1:Nat} {res1:Bool}
  (hl1:l1.length≤c1∧c1≤maxLen) (hA1:Rds QP μ L A1 l1) (h:Wd l1 n1=some res1)
  (hR:R (.bool res1) μ (L)) :
  Fn Tryz.prog 47 [.slice A1 l1.length c1,.int .i64 n1] μ (L) R:=by
 unfold Wd at h;refine FnS Tryz.func47 (by kernel_rfl) E Tryz.ntmps47 E E ?_;refine G0 11 E ?_;refine Cut h (fun f l o_ f_ μ_ l_=>(.inl ())=o_∧Ql ([]) f_∧Qe l l_∧μ=μ_) ?_ ?_
 ·intro _ h37749 h;refine Lp h37749 (fun f l (v1:Int) f_ μ_ l_=>Ql ((9,.int .i64 v1)::Qq [1,7,8] f) f_∧Qe l l_∧μ=μ_) ⟨fE E,sE [] 0 E,E⟩ ?_;rintro v1 _ _ _ _ _ ⟨hF37751,hS37751,rfl⟩ hb37751 hq37751;unfold Vj at hb37751;refine Atn 0 hF37751 hS37751 E E (G0 5 E ?_);refine Br hb37751 10 E E (fun hc1 hb37751=> ?_) (fun hc1 hb37751=> ?_)
  ·refine G2 6 [10] [] [] E (Ix hb37751 hA1 E E fun _ _ _ _ hr1 hc2 _ hb37751=> ?_);obtain rfl:=hr1;refine Q3 9 [] [] [64] (Z1 hc2) E ?_;refine Br hb37751 15 E E (fun hc3 hb37751=> ?_) (fun hc3 hb37751=> ?_)
   ·refine G2 5 [15] [] [] E ?_;cases hb37751;have hq_:=hq37751 _ E;subst hq_;replace h:=Yn h;cases h;exact Rt [] E E (Ug [] 0 hR)
   refine G2 7 [] [15] [] E ?_;cases hb37751;exact Ce E ⟨_,rfl,fE E,sE [] 0 E,rfl⟩
  refine G2 2 [] [10] [] E ?_;cases hb37751;have hq_:=hq37751 _ E;subst hq_;exact Ce E ⟨rfl,fE E,sE [] 0 E,rfl⟩
 rintro _ _ _ _ h _ ⟨rfl,hF37749,hS37749,rfl⟩;replace h:=YB h;refine Atn 0 hF37749 hS37749 E E (G0 4 E ?_);cases h;exact Rt [] E E (Ug [] 0 hR)
end Go.Proofs.YthpgjbbjpfiniaaGreat
