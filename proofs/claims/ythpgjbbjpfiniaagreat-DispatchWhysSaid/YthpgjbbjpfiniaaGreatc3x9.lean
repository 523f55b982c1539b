/- DispatchWhys: for every input the given law returns true, and its arguments read as before. No condition. -/
import Derived.Test.YthpgjbbjpfiniaaGreatc3x1
import Derived.Test.YthpgjbbjpfiniaaGreatc3x3
import Derived.Test.YthpgjbbjpfiniaaGreatc3x6
namespace Go.Proofs.YthpgjbbjpfiniaaGreat
open Go.RowKit
set_option linter.unusedSimpArgs false
set_option linter.unusedVariables false
set_option maxHeartbeats 2000000
set_option maxRecDepth 4000
attribute [local irreducible] WP Zt Qap Fn AN Upd vcR vcO Qcq Jp Z8 QaL Qbc Qci Qa5 Ws Qct Qz KS
variable {μ:Gh} {L:List Seg} {R:Value→Gh→List Seg→Prop}
theorem QaQ  {r1:QM} {A1:Option Addr} {c1:Nat} {res1:Int}
  (hl1:r1.Edges.length≤c1∧c1≤maxLen) (hA1:Qr QF μ A1 r1.Edges) (h:Jg r1=some res1)
  (hR:R (.int .i64 res1) μ (L)) :
  Fn Tryz.prog 88 [.agg #[.int .i64 r1.Nodes,.slice A1 r1.Edges.length c1]] μ (L) R:=by
 unfold Jg at h;refine FnS Tryz.func88 (by kernel_rfl) E Tryz.ntmps88 E E ?_;refine G0 2 E (Al E fun _=>Q0 4 E ?_);refine Cut h (fun f l o_ f_ μ_ l_=> ∃(v1:Bool),v1=o_∧Qh ((12,.bool v1)::Qk [1] f) f_∧Qd l l_∧μ=μ_) ?_ ?_
 ·intro _ h21196 h;refine G1 5 [0] E ?_;refine Br h21196 8 E E (fun hc1 h21196=> ?_) (fun hc1 h21196=> ?_)
  ·refine G2 5 [8] [] [] E ?_;cases h21196;exact Ce E ⟨_,rfl,fE E,sE [some 0] 1 E,rfl⟩
  refine G2 5 [] [8] [0] E ?_;cases h21196;exact Ce E ⟨_,rfl,fE E,sE [some 0] 1 E,rfl⟩
 rintro _ _ _ _ h _ ⟨v1,rfl,hF21196,hS21196,rfl⟩;refine Atn 1 hF21196 hS21196 E E ?_;refine Br h 12 E E (fun hc2 h=> ?_) (fun hc2 h=> ?_)
 ·refine G2 5 [12] [] [] E ?_;cases h;exact Rt [] E E (Ug [] 1 hR)
 refine G2 10 [] [12] [0] E ?_;refine Br h 16 E E (fun hc3 h=> ?_) (fun hc3 h=> ?_)
 ·refine G2 5 [16] [] [] E ?_;cases h;exact Rt [] E E (Ug [] 1 hR)
 refine G2 10 [] [16] [0] E ?_;refine Cut h (fun f l o_ f_ μ_ l_=>(.inl ())=o_∧Qh ([]) f_∧Qd (QC [] 1 l) l_∧μ=μ_) ?_ ?_
 ·intro _ h21199 h;refine Lp h21199 (fun f l (v2:Int) f_ μ_ l_=>Qh ((20,.int .i64 v2)::Qk [1,18,19] f) f_∧Qd l l_∧μ=μ_) ⟨fE E,sE [some 0] 1 E,E⟩ ?_;rintro v2 _ _ _ _ _ ⟨hF21214,hS21214,rfl⟩ hb21214 hq21214;unfold YQ at hb21214;refine Atn 1 hF21214 hS21214 E E (G0 5 E ?_);refine Br hb21214 21 E E (fun hc4 hb21214=> ?_) (fun hc4 hb21214=> ?_)
  ·refine G2 6 [21] [] [] E (Ix hb21214 (Qr.rds hA1 L) E E fun _ _ _ _ hr1 hc5 _ hb21214=> ?_);obtain rfl:=hr1;refine Q3 1 [] [] [64] (Z1 (hc5.push)) E (Al E fun _=>Q1 4 [0] E ?_);refine Cut hb21214 (fun f l o_ f_ μ_ l_=> ∃(v3:Bool),v3=o_∧Qh ((45,.bool v3)::Qk [1,4,18,19,20] f) f_∧Qd (QC [some 1,some 0] 2 l) l_∧μ=μ_) ?_ ?_
   ·intro _ h21220 hb21214;refine G1 5 [0] E ?_;refine Br h21220 27 E E (fun hc6 h21220=> ?_) (fun hc6 h21220=> ?_)
    ·refine G2 19 [27,34,39] [] [] E ?_;cases h21220;exact Ce E ⟨_,rfl,fE E,sE [some 1,some 0] 2 E,rfl⟩
    refine G2 7 [] [27] [0,1] E ?_;refine Br h21220 34 E E (fun hc7 h21220=> ?_) (fun hc7 h21220=> ?_)
    ·refine G2 12 [34,39] [] [] E ?_;cases h21220;exact Ce E ⟨_,rfl,fE E,sE [some 1,some 0] 2 E,rfl⟩
    refine G2 5 [] [34] [0] E ?_;refine Br h21220 39 E E (fun hc8 h21220=> ?_) (fun hc8 h21220=> ?_)
    ·refine G2 7 [39] [] [] E ?_;cases h21220;exact Ce E ⟨_,rfl,fE E,sE [some 1,some 0] 2 E,rfl⟩
    refine G2 7 [] [39] [0,1] E ?_;cases h21220;exact Ce E ⟨_,rfl,fE E,sE [some 1,some 0] 2 E,rfl⟩
   rintro _ _ _ _ hb21214 _ ⟨v3,rfl,hF21220,hS21220,rfl⟩;refine Atn 2 hF21220 hS21220 E E ?_;refine Br hb21214 45 E E (fun hc9 hb21214=> ?_) (fun hc9 hb21214=> ?_)
   ·refine G2 5 [45] [] [] E ?_;cases hb21214;have hq_:=hq21214 _ E;subst hq_;replace h:=Ye h;cases h;exact Rt [] E E (Ug [] 2 hR)
   refine G2 3 [] [45] [] E ?_;refine Cut hb21214 (fun f l o_ f_ μ_ l_=> ∃(v4:Bool),v4=o_∧Qh ((70,.bool v4)::Qk [1,18,19,20] f) f_∧Qd (QC [some 0] 2 l) l_∧μ=μ_) ?_ ?_
   ·intro _ h21225 hb21214;refine G1 7 [1,1] E ?_;refine Br h21225 51 E E (fun hc10 h21225=> ?_) (fun hc10 h21225=> ?_)
    ·refine G2 20 [51,56,61,66] [] [] E ?_;cases h21225;exact Ce E ⟨_,rfl,fE E,sE [some 0] 2 E,rfl⟩
    refine G2 5 [] [51] [1] E ?_;refine Br h21225 56 E E (fun hc11 h21225=> ?_) (fun hc11 h21225=> ?_)
    ·refine G2 15 [56,61,66] [] [] E ?_;cases h21225;exact Ce E ⟨_,rfl,fE E,sE [some 0] 2 E,rfl⟩
    refine G2 5 [] [56] [1] E ?_;refine Br h21225 61 E E (fun hc12 h21225=> ?_) (fun hc12 h21225=> ?_)
    ·refine G2 10 [61,66] [] [] E ?_;cases h21225;exact Ce E ⟨_,rfl,fE E,sE [some 0] 2 E,rfl⟩
    refine G2 5 [] [61] [1] E ?_;refine Br h21225 66 E E (fun hc13 h21225=> ?_) (fun hc13 h21225=> ?_)
    ·refine G2 5 [66] [] [] E ?_;cases h21225;exact Ce E ⟨_,rfl,fE E,sE [some 0] 2 E,rfl⟩
    refine G2 5 [] [66] [1] E ?_;cases h21225;exact Ce E ⟨_,rfl,fE E,sE [some 0] 2 E,rfl⟩
   rintro _ _ _ _ hb21214 _ ⟨v4,rfl,hF21225,hS21225,rfl⟩;refine Atn 1 hF21225 hS21225 E E ?_;refine Br hb21214 70 E E (fun hc14 hb21214=> ?_) (fun hc14 hb21214=> ?_)
   ·refine G2 5 [70] [] [] E ?_;cases hb21214;have hq_:=hq21214 _ E;subst hq_;replace h:=Ye h;cases h;exact Rt [] E E (Ug [] 1 hR)
   refine G2 7 [] [70] [] E ?_;cases hb21214;exact Ce E ⟨_,rfl,fE E,sE [some 0] 1 E,rfl⟩
  refine G2 2 [] [21] [] E ?_;cases hb21214;have hq_:=hq21214 _ E;subst hq_;exact Ce E ⟨rfl,fE E,sE [] 1 E,rfl⟩
 rintro _ _ _ _ h _ ⟨rfl,hF21199,hS21199,rfl⟩;replace h:=YB h;refine Atn 0 hF21199 hS21199 E E (G0 4 E ?_);cases h;exact Rt [] E E (Ug [] 0 hR)
theorem Qav  {c1:Int}  {res1:Bool}
   (h:YO c1=some res1)
  (hR:R (.bool res1) μ (L)) :
  Fn Tryz.prog 144 [.int .u8 c1] μ (L) R:=by
 unfold YO at h;refine FnS Tryz.func144 (by kernel_rfl) E Tryz.ntmps144 E E ?_;refine G0 5 E ?_;refine Cut h (fun f l o_ f_ μ_ l_=> ∃(v1:Bool),v1=o_∧Qh ((2,.bool v1)::[]) f_∧Qd l l_∧μ=μ_) ?_ ?_
 ·intro _ h21234 h;refine G0 4 E ?_;refine Br h21234 5 E E (fun hc1 h21234=> ?_) (fun hc1 h21234=> ?_)
  ·refine G2 4 [5] [] [] E ?_;refine Br h21234 9 E E (fun hc2 h21234=> ?_) (fun hc2 h21234=> ?_)
   ·refine G2 9 [9] [] [] E ?_;cases h21234;exact Ce E ⟨_,rfl,fE E,sE [] 0 E,rfl⟩
   refine G2 3 [] [9] [] E ?_;refine Br h21234 12 E E (fun hc3 h21234=> ?_) (fun hc3 h21234=> ?_)
   ·refine G2 6 [12] [9] [] E ?_;cases h21234;exact Ce E ⟨_,rfl,fE E,sE [] 0 E,rfl⟩
   refine G2 6 [] [9,12] [] E ?_;cases h21234;exact Ce E ⟨_,rfl,fE E,sE [] 0 E,rfl⟩
  refine G2 7 [] [5,9] [] E ?_;refine Br h21234 12 E E (fun hc4 h21234=> ?_) (fun hc4 h21234=> ?_)
  ·refine G2 6 [12] [9] [] E ?_;cases h21234;exact Ce E ⟨_,rfl,fE E,sE [] 0 E,rfl⟩
  refine G2 6 [] [9,12] [] E ?_;cases h21234;exact Ce E ⟨_,rfl,fE E,sE [] 0 E,rfl⟩
 rintro _ _ _ _ h _ ⟨v1,rfl,hF21234,hS21234,rfl⟩;refine Atn 0 hF21234 hS21234 E E ?_;cases h;exact Rt [] E E (Ug [] 0 hR)
theorem Qdb  {s1:ByteArray}  {res1:Bool}
   (h:ZG s1=some res1)
  (hR:R (.bool res1) μ (L)) :
  Fn Tryz.prog 125 [.string s1] μ (L) R:=by
 unfold ZG at h;refine FnS Tryz.func125 (by kernel_rfl) E Tryz.ntmps125 E E ?_;refine G0 6 E ?_;refine Cut h (fun f l o_ f_ μ_ l_=> ∃(v1:Bool),v1=o_∧Qh ((18,.bool v1)::Qk [0] f) f_∧Qd l l_∧μ=μ_) ?_ ?_
 ·intro _ h21233 h;refine G0 5 E ?_;refine Br h21233 8 E E (fun hc1 h21233=> ?_) (fun hc1 h21233=> ?_)
  ·refine G2 11 [8,13] [] [] E ?_;cases h21233;exact Ce E ⟨_,rfl,fE E,sE [] 0 E,rfl⟩
  refine G2 5 [] [8] [] E ?_;refine Br h21233 13 E E (fun hc2 h21233=> ?_) (fun hc2 h21233=> ?_)
  ·refine G2 6 [13] [] [] E ?_;cases h21233;exact Ce E ⟨_,rfl,fE E,sE [] 0 E,rfl⟩
  obtain ⟨_,hb1,h21233⟩:=Qi h21233;refine G2 1 [] [13] [] E (Rdo E E (Qjw QU E E E E hb1 (Q0 0 E (Cl E ?_))));obtain ⟨_,hx1,h21233⟩:=Qi h21233;refine Qav  hx1 ((Q2 3 [] [13] [] E ?_));cases h21233;exact Ce E ⟨_,rfl,fE E,sE [] 0 E,rfl⟩
 rintro _ _ _ _ h _ ⟨v1,rfl,hF21233,hS21233,rfl⟩;refine Atn 0 hF21233 hS21233 E E ?_;refine Br h 18 E E (fun hc3 h=> ?_) (fun hc3 h=> ?_)
 ·refine G2 5 [18] [] [] E ?_;cases h;exact Rt [] E E (Ug [] 0 hR)
 refine G2 7 [] [18] [] E ?_;refine Cut h (fun f l o_ f_ μ_ l_=>(.inl ())=o_∧Qh ([]) f_∧Qd l l_∧μ=μ_) ?_ ?_
 ·intro _ h21235 h;refine Lp h21235 (fun f l (i1:Int) f_ μ_ l_=>Qh ((3,.int .i64 i1)::Qk [0] f) f_∧Qd l l_∧μ=μ_) ⟨fE E,sE [] 0 E,E⟩ ?_;rintro i1 _ _ _ _ _ ⟨hF21238,hS21238,rfl⟩ hb21238 hq21238;unfold QZ at hb21238;refine Atn 0 hF21238 hS21238 E E (G0 8 E ?_);refine Br hb21238 22 E E (fun hc4 hb21238=> ?_) (fun hc4 hb21238=> ?_)
  ·obtain ⟨
       _,hb2,hb21238⟩:=Qi hb21238
   refine G2 8 [22] [] [] E (Rdo E E (Qjw QU E E E E hb2 (Q0 3 E ?_)));refine Cut hb21238 (fun f l o_ f_ μ_ l_=> ∃(v2:Bool),v2=o_∧Qh ((50,.bool v2)::Qk [0,3] f) f_∧Qd l l_∧μ=μ_) ?_ ?_
   ·intro _ h21239 hb21238;refine G0 2 E (Cl E ?_);obtain ⟨_,hx2,h21239⟩:=Qi h21239;refine Qav  hx2 ((Q0 2 E ?_));refine Br h21239 31 E E (fun hc5 h21239=> ?_) (fun hc5 h21239=> ?_)
    ·refine G2 3 [31] [] [] E ?_;refine Br h21239 34 E E (fun hc6 h21239=> ?_) (fun hc6 h21239=> ?_)
     ·refine G2 9 [31,34,39] [] [] E ?_;refine Br h21239 43 E E (fun hc7 h21239=> ?_) (fun hc7 h21239=> ?_)
      ·refine G2 4 [43] [] [] E ?_;refine Br h21239 47 E E (fun hc8 h21239=> ?_) (fun hc8 h21239=> ?_)
       ·refine G2 4 [47] [] [] E ?_;cases h21239;exact Ce E ⟨_,rfl,fE E,sE [] 0 E,rfl⟩
       refine G2 4 [] [47] [] E ?_;cases h21239;exact Ce E ⟨_,rfl,fE E,sE [] 0 E,rfl⟩
      refine G2 8 [] [43,47] [] E ?_;cases h21239;exact Ce E ⟨_,rfl,fE E,sE [] 0 E,rfl⟩
     refine G2 5 [31] [34] [] E ?_;refine Br h21239 39 E E (fun hc9 h21239=> ?_) (fun hc9 h21239=> ?_)
     ·refine G2 4 [39] [] [] E ?_;refine Br h21239 43 E E (fun hc10 h21239=> ?_) (fun hc10 h21239=> ?_)
      ·refine G2 4 [43] [] [] E ?_;refine Br h21239 47 E E (fun hc11 h21239=> ?_) (fun hc11 h21239=> ?_)
       ·refine G2 4 [47] [] [] E ?_;cases h21239;exact Ce E ⟨_,rfl,fE E,sE [] 0 E,rfl⟩
       refine G2 4 [] [47] [] E ?_;cases h21239;exact Ce E ⟨_,rfl,fE E,sE [] 0 E,rfl⟩
      refine G2 8 [] [43,47] [] E ?_;cases h21239;exact Ce E ⟨_,rfl,fE E,sE [] 0 E,rfl⟩
     refine G2 12 [] [39,43,47] [] E ?_;cases h21239;exact Ce E ⟨_,rfl,fE E,sE [] 0 E,rfl⟩
    refine G2 20 [] [31,39,43,47] [] E ?_;cases h21239;exact Ce E ⟨_,rfl,fE E,sE [] 0 E,rfl⟩
   rintro _ _ _ _ hb21238 _ ⟨v2,rfl,hF21239,hS21239,rfl⟩;refine Atn 0 hF21239 hS21239 E E ?_;refine Br hb21238 50 E E (fun hc12 hb21238=> ?_) (fun hc12 hb21238=> ?_)
   ·refine G2 5 [50] [] [] E ?_;cases hb21238;have hq_:=hq21238 _ E;subst hq_;replace h:=Ye h;cases h;exact Rt [] E E (Ug [] 0 hR)
   refine G2 8 [] [50] [] E ?_;cases hb21238;exact Ce E ⟨_,rfl,fE E,sE [] 0 E,rfl⟩
  refine G2 2 [] [22] [] E ?_;cases hb21238;have hq_:=hq21238 _ E;subst hq_;exact Ce E ⟨rfl,fE E,sE [] 0 E,rfl⟩
 rintro _ _ _ _ h _ ⟨rfl,hF21235,hS21235,rfl⟩;replace h:=YB h;refine Atn 0 hF21235 hS21235 E E (G0 4 E ?_);cases h;exact Rt [] E E (Ug [] 0 hR)
theorem QdX  {v1:Qp} {nodes1:Int} {materials1:Int}  {res1:Int}
   (h:Yd v1 nodes1 materials1=some res1)
  (hR:R (.int .i64 res1) μ (L)) :
  Fn Tryz.prog 112 [.agg #[.string v1.ID,.int .i64 v1.Depot,.int .i64 v1.Shift.From,.int .i64 v1.Shift.To,.int .i64 v1.Grams,.int .i64 v1.Kinds],.int .i64 nodes1,.int .i64 materials1] μ (L) R:=by
 unfold Yd at h;refine FnS Tryz.func112 (by kernel_rfl) E Tryz.ntmps112 E E ?_;refine G0 2 E (Al E fun _=>Q1 7 [0] E (Cl E ?_));obtain ⟨_,hx1,h⟩:=Qi h;refine Qdb  hx1 ((Q0 2 E ?_));refine Br h 10 E E (fun hc1 h=> ?_) (fun hc1 h=> ?_)
 ·refine G2 5 [10] [] [] E ?_;cases h;exact Rt [] E E (Ug [] 1 hR)
 refine G2 4 [] [10] [] E ?_;refine Cut h (fun f l o_ f_ μ_ l_=> ∃(v2:Bool),v2=o_∧Qh ((19,.bool v2)::Qk [2,3] f) f_∧Qd l l_∧μ=μ_) ?_ ?_
 ·intro _ h21240 h;refine G1 5 [0] E ?_;refine Br h21240 14 E E (fun hc2 h21240=> ?_) (fun hc2 h21240=> ?_)
  ·refine G2 6 [14] [] [] E ?_;cases h21240;exact Ce E ⟨_,rfl,fE E,sE [some 0] 1 E,rfl⟩
  refine G2 6 [] [14] [0] E ?_;cases h21240;exact Ce E ⟨_,rfl,fE E,sE [some 0] 1 E,rfl⟩
 rintro _ _ _ _ h _ ⟨v2,rfl,hF21240,hS21240,rfl⟩;refine Atn 1 hF21240 hS21240 E E ?_;refine Br h 19 E E (fun hc3 h=> ?_) (fun hc3 h=> ?_)
 ·refine G2 5 [19] [] [] E ?_;cases h;exact Rt [] E E (Ug [] 1 hR)
 refine G2 4 [] [19] [] E ?_;refine Cut h (fun f l o_ f_ μ_ l_=> ∃(v3:Bool),v3=o_∧Qh ((38,.bool v3)::Qk [2,3] f) f_∧Qd l l_∧μ=μ_) ?_ ?_
 ·intro _ h21243 h;refine G1 6 [0] E ?_;refine Br h21243 24 E E (fun hc4 h21243=> ?_) (fun hc4 h21243=> ?_)
  ·refine G2 15 [24,33] [] [] E ?_;cases h21243;exact Ce E ⟨_,rfl,fE E,sE [some 0] 1 E,rfl⟩
  refine G2 9 [] [24] [0,0] E ?_;refine Br h21243 33 E E (fun hc5 h21243=> ?_) (fun hc5 h21243=> ?_)
  ·refine G2 6 [33] [] [] E ?_;cases h21243;exact Ce E ⟨_,rfl,fE E,sE [some 0] 1 E,rfl⟩
  refine G2 6 [] [33] [0] E ?_;cases h21243;exact Ce E ⟨_,rfl,fE E,sE [some 0] 1 E,rfl⟩
 rintro _ _ _ _ h _ ⟨v3,rfl,hF21243,hS21243,rfl⟩;refine Atn 1 hF21243 hS21243 E E ?_;refine Br h 38 E E (fun hc6 h=> ?_) (fun hc6 h=> ?_)
 ·refine G2 5 [38] [] [] E ?_;cases h;exact Rt [] E E (Ug [] 1 hR)
 refine G2 4 [] [38] [] E ?_;refine Cut h (fun f l o_ f_ μ_ l_=> ∃(v4:Bool),v4=o_∧Qh ((46,.bool v4)::Qk [2,3] f) f_∧Qd l l_∧μ=μ_) ?_ ?_
 ·intro _ h21246 h;refine G1 5 [0] E ?_;refine Br h21246 42 E E (fun hc7 h21246=> ?_) (fun hc7 h21246=> ?_)
  ·refine G2 5 [42] [] [] E ?_;cases h21246;exact Ce E ⟨_,rfl,fE E,sE [some 0] 1 E,rfl⟩
  refine G2 5 [] [42] [0] E ?_;cases h21246;exact Ce E ⟨_,rfl,fE E,sE [some 0] 1 E,rfl⟩
 rintro _ _ _ _ h _ ⟨v4,rfl,hF21246,hS21246,rfl⟩;refine Atn 1 hF21246 hS21246 E E ?_;refine Br h 46 E E (fun hc8 h=> ?_) (fun hc8 h=> ?_)
 ·refine G2 5 [46] [] [] E ?_;cases h;exact Rt [] E E (Ug [] 1 hR)
 refine G2 4 [] [46] [] E ?_;refine Cut h (fun f l o_ f_ μ_ l_=> ∃(v5:Bool),v5=o_∧Qh ((56,.bool v5)::[]) f_∧Qd (QC [] 1 l) l_∧μ=μ_) ?_ ?_
 ·intro _ h21249 h;refine Dr _ Qz.refl [(true,0),(true,1),(true,2),(true,3),(true,4),(true,5),(true,6),(true,7),(true,8),(true,9)] (by kernel_rfl) (G1 4 [0] E ?_);refine Br h21249 50 E E (fun hc9 h21249=> ?_) (fun hc9 h21249=> ?_)
  ·refine G2 7 [50] [] [] E ?_;cases h21249;exact Ce E ⟨_,rfl,fE E,sE [] 1 E,rfl⟩
  refine G2 3 [] [50] [0] E (Rdo E E ?_);obtain ⟨_,hg1,h21249⟩:=Qi h21249;refine QnI E E E (JJ hg1) (Q2 3 [] [50] [] E ?_);cases h21249;exact Ce E ⟨_,rfl,fE E,sE [] 1 E,rfl⟩
 rintro _ _ _ _ h _ ⟨v5,rfl,hF21249,hS21249,rfl⟩;refine Atn 0 hF21249 hS21249 E E ?_;refine Br h 56 E E (fun hc10 h=> ?_) (fun hc10 h=> ?_)
 ·refine G2 5 [56] [] [] E ?_;cases h;exact Rt [] E E (Ug [] 0 hR)
 refine G2 6 [] [56] [] E ?_;cases h;exact Rt [] E E (Ug [] 0 hR)
theorem Qdc  {l1:(List Qp)} {nodes1:Int} {materials1:Int} {A1:Option Addr} {c1:Nat} {res1:Int}
  (hl1:l1.length≤c1∧c1≤maxLen) (hA1:Rds Qy μ L A1 l1) (h:Ys l1 nodes1 materials1=some res1)
  (hR:R (.int .i64 res1) μ (L)) :
  Fn Tryz.prog 89 [.slice A1 l1.length c1,.int .i64 nodes1,.int .i64 materials1] μ (L) R:=by
 unfold Ys at h;refine FnS Tryz.func89 (by kernel_rfl) E Tryz.ntmps89 E E ?_;refine G0 6 E ?_;refine Cut h (fun f l o_ f_ μ_ l_=> ∃(v1:Bool),v1=o_∧Qh ((24,.bool v1)::Qk [0,1,2] f) f_∧Qd l l_∧μ=μ_) ?_ ?_
 ·intro _ h21229 h;refine G0 4 E ?_;refine Br h21229 13 E E (fun hc1 h21229=> ?_) (fun hc1 h21229=> ?_)
  ·refine G2 12 [13,17,21] [] [] E ?_;cases h21229;exact Ce E ⟨_,rfl,fE E,sE [] 0 E,rfl⟩
  refine G2 4 [] [13] [] E ?_;refine Br h21229 17 E E (fun hc2 h21229=> ?_) (fun hc2 h21229=> ?_)
  ·refine G2 8 [17,21] [] [] E ?_;cases h21229;exact Ce E ⟨_,rfl,fE E,sE [] 0 E,rfl⟩
  refine G2 4 [] [17] [] E ?_;refine Br h21229 21 E E (fun hc3 h21229=> ?_) (fun hc3 h21229=> ?_)
  ·refine G2 4 [21] [] [] E ?_;cases h21229;exact Ce E ⟨_,rfl,fE E,sE [] 0 E,rfl⟩
  refine G2 4 [] [21] [] E ?_;cases h21229;exact Ce E ⟨_,rfl,fE E,sE [] 0 E,rfl⟩
 rintro _ _ _ _ h _ ⟨v1,rfl,hF21229,hS21229,rfl⟩;refine Atn 0 hF21229 hS21229 E E ?_;refine Br h 24 E E (fun hc4 h=> ?_) (fun hc4 h=> ?_)
 ·refine G2 5 [24] [] [] E ?_;cases h;exact Rt [] E E (Ug [] 0 hR)
 refine G2 9 [] [24] [] E ?_;refine Br h 27 E E (fun hc5 h=> ?_) (fun hc5 h=> ?_)
 ·refine G2 5 [27] [] [] E ?_;cases h;exact Rt [] E E (Ug [] 0 hR)
 refine G2 9 [] [27] [] E ?_;refine Br h 30 E E (fun hc6 h=> ?_) (fun hc6 h=> ?_)
 ·refine G2 5 [30] [] [] E ?_;cases h;exact Rt [] E E (Ug [] 0 hR)
 refine G2 7 [] [30] [] E ?_;refine Cut h (fun f l o_ f_ μ_ l_=>(.inl ())=o_∧Qh (Qk [0] f) f_∧Qd l l_∧μ=μ_) ?_ ?_
 ·intro _ h21230 h;refine Lp h21230 (fun f l (i1:Int) f_ μ_ l_=>Qh ((7,.int .i64 i1)::Qk [0,1,2] f) f_∧Qd l l_∧μ=μ_) ⟨fE E,sE [] 0 E,E⟩ ?_;rintro i1 _ _ _ _ _ ⟨hF21250,hS21250,rfl⟩ hb21250 hq21250;unfold Q4 at hb21250;refine Atn 0 hF21250 hS21250 E E (G0 8 E ?_);refine Br hb21250 34 E E (fun hc7 hb21250=> ?_) (fun hc7 hb21250=> ?_)
  ·refine G2 8 [34] [] [] E (Ix hb21250 hA1 E E fun _ _ _ _ hr1 hc8 _ hb21250=> ?_);obtain rfl:=hr1;refine Q3 3 [] [] [64] (Z1 hc8) E (Cl E ?_);obtain ⟨_,hx2,hb21250⟩:=Qi hb21250;refine QdX  hx2 ((Q0 7 E ?_));refine Br hb21250 45 E E (fun hc9 hb21250=> ?_) (fun hc9 hb21250=> ?_)
   ·refine G2 6 [45] [] [] E ?_;cases hb21250;have hq_:=hq21250 _ E;subst hq_;replace h:=Ye h;cases h;exact Rt [] E E (Ug [] 0 hR)
   refine G2 8 [] [45] [] E ?_;cases hb21250;exact Ce E ⟨_,rfl,fE E,sE [] 0 E,rfl⟩
  refine G2 2 [] [34] [] E ?_;cases hb21250;have hq_:=hq21250 _ E;subst hq_;exact Ce E ⟨rfl,fE E,sE [] 0 E,rfl⟩
 rintro _ _ _ _ h _ ⟨rfl,hF21230,hS21230,rfl⟩;replace h:=YB h;refine Atn 0 hF21230 hS21230 E E (G0 5 E ?_);refine Cut h (fun f l o_ f_ μ_ l_=>(.inl ())=o_∧Qh ([]) f_∧Qd l l_∧μ=μ_) ?_ ?_
 ·intro _ h21251 h;refine Lp h21251 (fun f l (i2:Int) f_ μ_ l_=>Qh ((9,.int .i64 i2)::Qk [0] f) f_∧Qd l l_∧μ=μ_) ⟨fE E,sE [] 0 E,E⟩ ?_;rintro i2 _ _ _ _ _ ⟨hF21257,hS21257,rfl⟩ hb21257 hq21257;unfold Ji at hb21257;refine Atn 0 hF21257 hS21257 E E (G0 8 E ?_);refine Br hb21257 50 E E (fun hc10 hb21257=> ?_) (fun hc10 hb21257=> ?_)
  ·refine G2 3 [50] [] [] E ?_;refine Cut hb21257 (fun f l o_ f_ μ_ l_=>(.inl ())=o_∧Qh (Qk [0,9] f) f_∧Qd l l_∧μ=μ_) ?_ ?_
   ·intro _ h21258 hb21257;refine G0 5 E ?_;refine Cut h21258 (fun f l o_ f_ μ_ l_=>(.inl ())=o_∧Qh (Qk [0,9] f) f_∧Qd l l_∧μ=μ_) ?_ ?_
    ·intro _ h21259 h21258;refine Lp h21259 (fun f l (k1:Int) f_ μ_ l_=>Qh ((10,.int .i64 k1)::Qk [0,9] f) f_∧Qd l l_∧μ=μ_) ⟨fE E,sE [] 0 E,E⟩ ?_;rintro k1 _ _ _ _ _ ⟨hF21261,hS21261,rfl⟩ hb21261 hq21261;unfold Jh at hb21261;refine Atn 0 hF21261 hS21261 E E (G0 7 E ?_);refine Br hb21261 55 E E (fun hc11 hb21261=> ?_) (fun hc11 hb21261=> ?_)
     ·refine G2 5 [55] [] [] E (Dr _ Qz.refl [(true,0),(true,1),(true,2),(true,3),(true,4),(true,5),(true,6),(true,7),(true,8),(true,9),(true,10)] (by kernel_rfl) (G0 2 E (Ix hb21261 hA1 E E fun _ _ _ _ hr2 hc12 _ hb21261=> ?_)));obtain rfl:=hr2;refine Q3 4 [] [] [64] (Z1 hc12) E (Ix hb21261 hA1 E E fun _ _ _ _ hr3 hc13 _ hb21261=> ?_);obtain rfl:=hr3;refine Q3 2 [] [] [64] (Z1 hc13) E (Rdo E E (QpR QU E E E E (Q0 1 E ?_)));refine Br hb21261 68 E E (fun hc14 hb21261=> ?_) (fun hc14 hb21261=> ?_)
      ·refine G2 5 [68] [] [] E ?_;cases hb21261;have hq_:=hq21261 _ E;subst hq_;replace h21258:=Ye h21258;cases h21258;replace hb21257:=Ye hb21257;cases hb21257;have hq_:=hq21257 _ E;subst hq_;replace h:=Ye h;cases h;exact Rt [] E E (Ug [] 0 hR)
      refine G2 8 [] [68] [] E ?_;cases hb21261;exact Ce E ⟨_,rfl,fE E,sE [] 0 E,rfl⟩
     refine G2 2 [] [55] [] E ?_;cases hb21261;have hq_:=hq21261 _ E;subst hq_;exact Ce E ⟨rfl,fE E,sE [] 0 E,rfl⟩
    rintro _ _ _ _ h21258 _ ⟨rfl,hF21259,hS21259,rfl⟩;replace h21258:=YB h21258;refine G0 1 E ?_;cases h21258;exact Ce E ⟨rfl,hF21259.tr E,hS21259.tr (sE [] 0 E),rfl⟩
   rintro _ _ _ _ hb21257 _ ⟨rfl,hF21258,hS21258,rfl⟩;replace hb21257:=YB hb21257;refine Atn 0 hF21258 hS21258 E E (G0 5 E ?_);cases hb21257;exact Ce E ⟨_,rfl,fE E,sE [] 0 E,rfl⟩
  refine G2 2 [] [50] [] E ?_;cases hb21257;have hq_:=hq21257 _ E;subst hq_;exact Ce E ⟨rfl,fE E,sE [] 0 E,rfl⟩
 rintro _ _ _ _ h _ ⟨rfl,hF21251,hS21251,rfl⟩;replace h:=YB h;refine Atn 0 hF21251 hS21251 E E (G0 4 E ?_);cases h;exact Rt [] E E (Ug [] 0 hR)
theorem Qdd  {l1:(List Qw)} {nodes1:Int} {materials1:Int} {A1:Option Addr} {c1:Nat} {res1:Int}
  (hl1:l1.length≤c1∧c1≤maxLen) (hA1:Rds QB μ L A1 l1) (h:Yt l1 nodes1 materials1=some res1)
  (hR:R (.int .i64 res1) μ (L)) :
  Fn Tryz.prog 90 [.slice A1 l1.length c1,.int .i64 nodes1,.int .i64 materials1] μ (L) R:=by
 unfold Yt at h;refine FnS Tryz.func90 (by kernel_rfl) E Tryz.ntmps90 E E ?_;refine G0 11 E ?_;refine Br h 13 E E (fun hc1 h=> ?_) (fun hc1 h=> ?_)
 ·refine G2 5 [13] [] [] E ?_;cases h;exact Rt [] E E (Ug [] 0 hR)
 refine G2 7 [] [13] [] E ?_;refine Cut h (fun f l o_ f_ μ_ l_=>(.inl ())=o_∧Qh (Qk [0] f) f_∧Qd l l_∧μ=μ_) ?_ ?_
 ·intro _ h21263 h;refine Lp h21263 (fun f l (i1:Int) f_ μ_ l_=>Qh ((7,.int .i64 i1)::Qk [0,1,2] f) f_∧Qd l l_∧μ=μ_) ⟨fE E,sE [] 0 E,E⟩ ?_;rintro i1 _ _ _ _ _ ⟨hF21271,hS21271,rfl⟩ hb21271 hq21271;unfold Q7 at hb21271;refine Atn 0 hF21271 hS21271 E E (G0 8 E ?_);refine Br hb21271 17 E E (fun hc2 hb21271=> ?_) (fun hc2 hb21271=> ?_)
  ·refine G2 8 [17] [] [] E (Ix hb21271 hA1 E E fun _ _ _ _ hr1 hc3 _ hb21271=> ?_);obtain rfl:=hr1;refine Q3 1 [] [] [64] (Z1 hc3) E (Al E fun _=>Q1 4 [0] E ?_);refine Cut hb21271 (fun f l o_ f_ μ_ l_=> ∃(v1:Bool),v1=o_∧Qh ((53,.bool v1)::Qk [0,1,2,7,8] f) f_∧Qd l l_∧μ=μ_) ?_ ?_
   ·intro _ h21274 hb21271;refine G1 5 [0] E ?_;refine Br h21274 27 E E (fun hc4 h21274=> ?_) (fun hc4 h21274=> ?_)
    ·refine G2 27 [27,32,37,43,48] [] [] E ?_;cases h21274;exact Ce E ⟨_,rfl,fE E,sE [some 0] 1 E,rfl⟩
    refine G2 5 [] [27] [0] E ?_;refine Br h21274 32 E E (fun hc5 h21274=> ?_) (fun hc5 h21274=> ?_)
    ·refine G2 22 [32,37,43,48] [] [] E ?_;cases h21274;exact Ce E ⟨_,rfl,fE E,sE [some 0] 1 E,rfl⟩
    refine G2 5 [] [32] [0] E ?_;refine Br h21274 37 E E (fun hc6 h21274=> ?_) (fun hc6 h21274=> ?_)
    ·refine G2 17 [37,43,48] [] [] E ?_;cases h21274;exact Ce E ⟨_,rfl,fE E,sE [some 0] 1 E,rfl⟩
    refine G2 6 [] [37] [0] E ?_;refine Br h21274 43 E E (fun hc7 h21274=> ?_) (fun hc7 h21274=> ?_)
    ·refine G2 11 [43,48] [] [] E ?_;cases h21274;exact Ce E ⟨_,rfl,fE E,sE [some 0] 1 E,rfl⟩
    refine G2 5 [] [43] [0] E ?_;refine Br h21274 48 E E (fun hc8 h21274=> ?_) (fun hc8 h21274=> ?_)
    ·refine G2 6 [48] [] [] E ?_;cases h21274;exact Ce E ⟨_,rfl,fE E,sE [some 0] 1 E,rfl⟩
    refine G2 6 [] [48] [0] E ?_;cases h21274;exact Ce E ⟨_,rfl,fE E,sE [some 0] 1 E,rfl⟩
   rintro _ _ _ _ hb21271 _ ⟨v1,rfl,hF21274,hS21274,rfl⟩;refine Atn 1 hF21274 hS21274 E E ?_;refine Br hb21271 53 E E (fun hc9 hb21271=> ?_) (fun hc9 hb21271=> ?_)
   ·refine G2 5 [53] [] [] E ?_;cases hb21271;have hq_:=hq21271 _ E;subst hq_;replace h:=Ye h;cases h;exact Rt [] E E (Ug [] 1 hR)
   refine G2 3 [] [53] [] E ?_;refine Cut hb21271 (fun f l o_ f_ μ_ l_=> ∃(v2:Bool),v2=o_∧Qh ((92,.bool v2)::Qk [0,1,2,7] f) f_∧Qd (QC [] 1 l) l_∧μ=μ_) ?_ ?_
   ·intro _ h21277 hb21271;refine G1 5 [0] E ?_;refine Br h21277 57 E E (fun hc10 h21277=> ?_) (fun hc10 h21277=> ?_)
    ·refine G2 36 [57,62,68,77,83,88] [] [] E ?_;cases h21277;exact Ce E ⟨_,rfl,fE E,sE [] 1 E,rfl⟩
    refine G2 5 [] [57] [0] E ?_;refine Br h21277 62 E E (fun hc11 h21277=> ?_) (fun hc11 h21277=> ?_)
    ·refine G2 31 [62,68,77,83,88] [] [] E ?_;cases h21277;exact Ce E ⟨_,rfl,fE E,sE [] 1 E,rfl⟩
    refine G2 6 [] [62] [0] E ?_;refine Br h21277 68 E E (fun hc12 h21277=> ?_) (fun hc12 h21277=> ?_)
    ·refine G2 25 [68,77,83,88] [] [] E ?_;cases h21277;exact Ce E ⟨_,rfl,fE E,sE [] 1 E,rfl⟩
    refine G2 9 [] [68] [0,0] E ?_;refine Br h21277 77 E E (fun hc13 h21277=> ?_) (fun hc13 h21277=> ?_)
    ·refine G2 16 [77,83,88] [] [] E ?_;cases h21277;exact Ce E ⟨_,rfl,fE E,sE [] 1 E,rfl⟩
    refine G2 6 [] [77] [0] E ?_;refine Br h21277 83 E E (fun hc14 h21277=> ?_) (fun hc14 h21277=> ?_)
    ·refine G2 10 [83,88] [] [] E ?_;cases h21277;exact Ce E ⟨_,rfl,fE E,sE [] 1 E,rfl⟩
    refine G2 5 [] [83] [0] E ?_;refine Br h21277 88 E E (fun hc15 h21277=> ?_) (fun hc15 h21277=> ?_)
    ·refine G2 5 [88] [] [] E ?_;cases h21277;exact Ce E ⟨_,rfl,fE E,sE [] 1 E,rfl⟩
    refine G2 5 [] [88] [0] E ?_;cases h21277;exact Ce E ⟨_,rfl,fE E,sE [] 1 E,rfl⟩
   rintro _ _ _ _ hb21271 _ ⟨v2,rfl,hF21277,hS21277,rfl⟩;refine Atn 0 hF21277 hS21277 E E ?_;refine Br hb21271 92 E E (fun hc16 hb21271=> ?_) (fun hc16 hb21271=> ?_)
   ·refine G2 5 [92] [] [] E ?_;cases hb21271;have hq_:=hq21271 _ E;subst hq_;replace h:=Ye h;cases h;exact Rt [] E E (Ug [] 0 hR)
   refine G2 8 [] [92] [] E ?_;cases hb21271;exact Ce E ⟨_,rfl,fE E,sE [] 0 E,rfl⟩
  refine G2 2 [] [17] [] E ?_;cases hb21271;have hq_:=hq21271 _ E;subst hq_;exact Ce E ⟨rfl,fE E,sE [] 0 E,rfl⟩
 rintro _ _ _ _ h _ ⟨rfl,hF21263,hS21263,rfl⟩;replace h:=YB h;refine Atn 0 hF21263 hS21263 E E (G0 5 E ?_);refine Cut h (fun f l o_ f_ μ_ l_=>(.inl ())=o_∧Qh ([]) f_∧Qd l l_∧μ=μ_) ?_ ?_
 ·intro _ h21278 h;refine Lp h21278 (fun f l (i2:Int) f_ μ_ l_=>Qh ((9,.int .i64 i2)::Qk [0] f) f_∧Qd l l_∧μ=μ_) ⟨fE E,sE [] 0 E,E⟩ ?_;rintro i2 _ _ _ _ _ ⟨hF21284,hS21284,rfl⟩ hb21284 hq21284;unfold Yy at hb21284;refine Atn 0 hF21284 hS21284 E E (G0 8 E ?_);refine Br hb21284 96 E E (fun hc17 hb21284=> ?_) (fun hc17 hb21284=> ?_)
  ·refine G2 3 [96] [] [] E ?_;refine Cut hb21284 (fun f l o_ f_ μ_ l_=>(.inl ())=o_∧Qh (Qk [0,9] f) f_∧Qd l l_∧μ=μ_) ?_ ?_
   ·intro _ h21285 hb21284;refine G0 5 E ?_;refine Cut h21285 (fun f l o_ f_ μ_ l_=>(.inl ())=o_∧Qh (Qk [0,9] f) f_∧Qd l l_∧μ=μ_) ?_ ?_
    ·intro _ h21286 h21285;refine Lp h21286 (fun f l (k1:Int) f_ μ_ l_=>Qh ((10,.int .i64 k1)::Qk [0,9] f) f_∧Qd l l_∧μ=μ_) ⟨fE E,sE [] 0 E,E⟩ ?_;rintro k1 _ _ _ _ _ ⟨hF21288,hS21288,rfl⟩ hb21288 hq21288;unfold Yx at hb21288;refine Atn 0 hF21288 hS21288 E E (G0 7 E ?_);refine Br hb21288 101 E E (fun hc18 hb21288=> ?_) (fun hc18 hb21288=> ?_)
     ·refine G2 5 [101] [] [] E (Dr _ Qz.refl [(true,0),(true,1),(true,2),(true,3),(true,4),(true,5),(true,6),(true,7),(true,8),(true,9),(true,10)] (by kernel_rfl) (G0 2 E (Ix hb21288 hA1 E E fun _ _ _ _ hr2 hc19 _ hb21288=> ?_)));obtain rfl:=hr2;refine Q3 4 [] [] [64] (Z1 hc19) E (Ix hb21288 hA1 E E fun _ _ _ _ hr3 hc20 _ hb21288=> ?_);obtain rfl:=hr3;refine Q3 4 [] [] [64] (Z1 hc20) E ?_;refine Br hb21288 114 E E (fun hc21 hb21288=> ?_) (fun hc21 hb21288=> ?_)
      ·refine G2 5 [114] [] [] E ?_;cases hb21288;have hq_:=hq21288 _ E;subst hq_;replace h21285:=Ye h21285;cases h21285;replace hb21284:=Ye hb21284;cases hb21284;have hq_:=hq21284 _ E;subst hq_;replace h:=Ye h;cases h;exact Rt [] E E (Ug [] 0 hR)
      refine G2 8 [] [114] [] E ?_;cases hb21288;exact Ce E ⟨_,rfl,fE E,sE [] 0 E,rfl⟩
     refine G2 2 [] [101] [] E ?_;cases hb21288;have hq_:=hq21288 _ E;subst hq_;exact Ce E ⟨rfl,fE E,sE [] 0 E,rfl⟩
    rintro _ _ _ _ h21285 _ ⟨rfl,hF21286,hS21286,rfl⟩;replace h21285:=YB h21285;refine G0 1 E ?_;cases h21285;exact Ce E ⟨rfl,hF21286.tr E,hS21286.tr (sE [] 0 E),rfl⟩
   rintro _ _ _ _ hb21284 _ ⟨rfl,hF21285,hS21285,rfl⟩;replace hb21284:=YB hb21284;refine Atn 0 hF21285 hS21285 E E (G0 5 E ?_);cases hb21284;exact Ce E ⟨_,rfl,fE E,sE [] 0 E,rfl⟩
  refine G2 2 [] [96] [] E ?_;cases hb21284;have hq_:=hq21284 _ E;subst hq_;exact Ce E ⟨rfl,fE E,sE [] 0 E,rfl⟩
 rintro _ _ _ _ h _ ⟨rfl,hF21278,hS21278,rfl⟩;replace h:=YB h;refine Atn 0 hF21278 hS21278 E E (G0 4 E ?_);cases h;exact Rt [] E E (Ug [] 0 hR)
theorem Vu  {p1:Qe} {A1:Option Addr} {c1:Nat} {A2:Option Addr} {c2:Nat} {A3:Option Addr} {c3:Nat} {res1:Int}
  (hl1:p1.Road.Edges.length≤c1∧c1≤maxLen) (hA1:Qr QF μ A1 p1.Road.Edges) (hl2:p1.Vehicles.length≤c2∧c2≤maxLen) (hA2:Qr Qy μ A2 p1.Vehicles) (hl3:p1.Demands.length≤c3∧c3≤maxLen) (hA3:Qr QB μ A3 p1.Demands) (h:Qo p1=some res1)
  (hR:R (.int .i64 res1) μ (L)) :
  Fn Tryz.prog 56 [.agg #[.int .i64 p1.Road.Nodes,.slice A1 p1.Road.Edges.length c1,.slice A2 p1.Vehicles.length c2,.slice A3 p1.Demands.length c3,.int .i64 p1.Unload,.int .i64 p1.UnloadSecs]] μ (L) R:=by
 unfold Qo at h;refine FnS Tryz.func56 (by kernel_rfl) E Tryz.ntmps56 E E ?_;refine G0 2 E (Al E fun _=>Q1 7 [0] E (Cl E ?_));obtain ⟨_,hx1,h⟩:=Qi h;refine QaQ hl1 hA1 hx1 ((Q0 7 E ?_));refine Br h 10 E E (fun hc1 h=> ?_) (fun hc1 h=> ?_)
 ·refine G2 6 [10] [] [] E ?_;cases h;exact Rt [] E E (Ug [] 1 hR)
 refine G2 10 [] [10] [0,0] E (Cl E ?_);obtain ⟨_,hx2,h⟩:=Qi h;refine Qdc hl2 (Qr.rds hA2 _) hx2 ((Q0 7 E ?_));refine Br h 19 E E (fun hc2 h=> ?_) (fun hc2 h=> ?_)
 ·refine G2 6 [19] [] [] E ?_;cases h;exact Rt [] E E (Ug [] 1 hR)
 refine G2 10 [] [19] [0,0] E (Cl E ?_);obtain ⟨_,hx3,h⟩:=Qi h;refine Qdd hl3 (Qr.rds hA3 _) hx3 ((Q0 7 E ?_));refine Br h 28 E E (fun hc3 h=> ?_) (fun hc3 h=> ?_)
 ·refine G2 6 [28] [] [] E ?_;cases h;exact Rt [] E E (Ug [] 1 hR)
 refine G2 4 [] [28] [] E ?_;refine Cut h (fun f l o_ f_ μ_ l_=> ∃(v1:Bool),v1=o_∧Qh ((40,.bool v1)::Qk [1] f) f_∧Qd l l_∧μ=μ_) ?_ ?_
 ·intro _ h21289 h;refine G1 5 [0] E ?_;refine Br h21289 33 E E (fun hc4 h21289=> ?_) (fun hc4 h21289=> ?_)
  ·refine G2 8 [33] [] [] E ?_;cases h21289;exact Ce E ⟨_,rfl,fE E,sE [some 0] 1 E,rfl⟩
  refine G2 8 [] [33] [0,0] E ?_;cases h21289;exact Ce E ⟨_,rfl,fE E,sE [some 0] 1 E,rfl⟩
 rintro _ _ _ _ h _ ⟨v1,rfl,hF21289,hS21289,rfl⟩;refine Atn 1 hF21289 hS21289 E E ?_;refine Br h 40 E E (fun hc5 h=> ?_) (fun hc5 h=> ?_)
 ·refine G2 5 [40] [] [] E ?_;cases h;exact Rt [] E E (Ug [] 1 hR)
 refine G2 4 [] [40] [] E ?_;refine Cut h (fun f l o_ f_ μ_ l_=> ∃(v2:Bool),v2=o_∧Qh ((48,.bool v2)::[]) f_∧Qd (QC [] 1 l) l_∧μ=μ_) ?_ ?_
 ·intro _ h21292 h;refine G1 5 [0] E ?_;refine Br h21292 44 E E (fun hc6 h21292=> ?_) (fun hc6 h21292=> ?_)
  ·refine G2 5 [44] [] [] E ?_;cases h21292;exact Ce E ⟨_,rfl,fE E,sE [] 1 E,rfl⟩
  refine G2 5 [] [44] [0] E ?_;cases h21292;exact Ce E ⟨_,rfl,fE E,sE [] 1 E,rfl⟩
 rintro _ _ _ _ h _ ⟨v2,rfl,hF21292,hS21292,rfl⟩;refine Atn 0 hF21292 hS21292 E E ?_;refine Br h 48 E E (fun hc7 h=> ?_) (fun hc7 h=> ?_)
 ·refine G2 5 [48] [] [] E ?_;cases h;exact Rt [] E E (Ug [] 0 hR)
 refine G2 6 [] [48] [] E ?_;cases h;exact Rt [] E E (Ug [] 0 hR)
theorem VZ  {stops1:(List Int)} {d1:Int} {k1:Int} {unload1:Bool} {A1:Option Addr} {c1:Nat} {res1:(List Int)}
  (hl1:stops1.length≤c1∧c1≤maxLen) (hA1:Rds QS μ L A1 stops1) (h:Zk stops1 d1 k1 unload1=some res1)
  (hR: ∀(A0:Option Addr) (c0:Nat) (ch0:Seg),Own QS 3 μ (.slice A0 res1.length c0) res1 ch0→R (.slice A0 res1.length c0) μ (ch0::L)) :
  Fn Tryz.prog 101 [.slice A1 stops1.length c1,.int .i64 d1,.int .i64 k1,.bool unload1] μ (L) R:=by
 unfold Zk at h;refine FnS Tryz.func101 (by kernel_rfl) E Tryz.ntmps101 E E ?_;obtain ⟨_,hs1,h⟩:=Qi h;refine G0 13 E (Rdo E E (QbU E E E E E E hl1.1 hs1 ?_));have hA2:=Rds.pre hA1 hs1;have hl2:=QdC hl1 hs1;refine Q0 0 E (So E (Yo E (Zt.pre (Upd.nilseg (Upd.done ?_)))));obtain ⟨_,hz1,h⟩:=Qi h;refine Yu (r:=QS) QU E E E E (by decide) E E 0 E (Own.nil (r:=QS) (e:=3)) E (Rds.push hA2) hz1 fun _ _ _ hO1=>Q0 6 E (So E (Zs (z:=[.int .i64 0]) E E E E E E E (QR (cells':=[.int .i64 d1]) E E E E (YM (fun g1=>Q0 0 E (So E (Yo E ?_)))))));obtain ⟨_,hz2,h⟩:=Qi h;refine Yu (r:=QS) QU E E E E (by decide) E E 1 E hO1 E (Own.rds (Own.lit (r:=QS) (e:=3) (g:=g1) (xs:=[d1]) (cs:=[.int .i64 d1]) (css:=[[.int .i64 d1]]) E (All2.cons (E) (All2.nil)) E E) 0 E) hz2 fun A3 c3 ch2 hO2=>Q0 7 E ?_;refine Cut h (fun f l o_ f_ μ_ l_=> ∃(l5:(List Int)) (A5:Option Addr) (c5:Nat) (ch4:Seg),l5=o_∧Qh ((9,.slice A5 l5.length c5)::Qk [0,2] f) f_∧Qd (ch4::QC [] 2 l) l_∧Own QS 3 μ_ (.slice A5 l5.length c5) l5 ch4∧μ=μ_) ?_ ?_
 ·intro _ h21433 h;refine Br h21433 19 E E (fun hc1 h21433=> ?_) (fun hc1 h21433=> ?_)
  ·refine G2 3 [19] [] [] E (So E (Zs (z:=[.int .i64 0]) E E E E E E E (QR (cells':=[.int .i64 (-1)]) E E E E (YM (fun g2=>Q0 0 E (So E (Yo E ?_)))))));obtain ⟨_,hz3,h21433⟩:=Qi h21433;refine Yu (r:=QS) QU E E E E (by decide) E E 2 E hO2 E (Own.rds (Own.lit (r:=QS) (e:=3) (g:=g2) (xs:=[(-1)]) (cs:=[.int .i64 (-1)]) (css:=[[.int .i64 (-1)]]) E (All2.cons (E) (All2.nil)) E E) 0 E) hz3 fun A4 c4 ch3 hO3=>Q0 2 E ?_;cases h21433;exact Ce E ⟨_,A4,c4,ch3,rfl,fE E,sE [some 2] 3 E,(hO3),rfl⟩
  refine G2 2 [] [19] [] E ?_;cases h21433;exact Ce E ⟨_,A3,c3,ch2,rfl,fE E,sE [some 1] 2 E,(hO2),rfl⟩
 rintro _ _ _ _ h _ ⟨l5,A5,c5,ch4,rfl,hF21433,hS21433,hO4,rfl⟩;obtain ⟨_,hs2,h⟩:=Qi h;refine Atn 1 hF21433 hS21433 E E (G0 5 E (Rdo E E (QeJ (r:=QS) E E E E E E E hl1.1 hs2 fun _ hAe1=> ?_)));have hA3:=Rds.sub hA1 hl1.1 hs2 hAe1;have hl3:=Qgy hl1 hs2;refine Q0 0 E (So E (Yo E ?_));obtain ⟨_,hz4,h⟩:=Qi h;refine Yu (r:=QS) QU E E E E (by decide) E E 0 E hO4 E (Rds.push hA3) hz4 fun A7 c6 ch5 hO5=>Q0 9 E (IxA h (Own.rds hO5 0 E) E E fun _ _ _ _ hr1 hc2 _ h=> ?_);obtain rfl:=hr1;refine Q3 3 [] [] [64] (Z1 hc2) E ?_;refine Cut h (fun f l o_ f_ μ_ l_=> ∃(l9:(List Int)) (A9:Option Addr) (c8:Nat) (ch7:Seg),l9=o_∧Qh ((9,.slice A9 l9.length c8)::[]) f_∧Qd (ch7::QC [] 1 l) l_∧Own QS 3 μ_ (.slice A9 l9.length c8) l9 ch7∧μ=μ_) ?_ ?_
 ·intro _ h21439 h;refine Br h21439 34 E E (fun hc3 h21439=> ?_) (fun hc3 h21439=> ?_)
  ·refine G2 3 [34] [] [] E (So E (Zs (z:=[.int .i64 0]) E E E E E E E (QR (cells':=[.int .i64 (-1)]) E E E E (YM (fun g3=>Q0 0 E (So E (Yo E ?_)))))));obtain ⟨_,hz5,h21439⟩:=Qi h21439;refine Yu (r:=QS) QU E E E E (by decide) E E 1 E hO5 E (Own.rds (Own.lit (r:=QS) (e:=3) (g:=g3) (xs:=[(-1)]) (cs:=[.int .i64 (-1)]) (css:=[[.int .i64 (-1)]]) E (All2.cons (E) (All2.nil)) E E) 0 E) hz5 fun A8 c7 ch6 hO6=>Q0 2 E ?_;cases h21439;exact Ce E ⟨_,A8,c7,ch6,rfl,fE E,sE [some 1] 2 E,(hO6),rfl⟩
  refine G2 2 [] [34] [] E ?_;cases h21439;exact Ce E ⟨_,A7,c6,ch5,rfl,fE E,sE [some 0] 1 E,(hO5),rfl⟩
 rintro _ _ _ _ h _ ⟨l9,A9,c8,ch7,rfl,hF21439,hS21439,hO7,rfl⟩;refine Atn 1 hF21439 hS21439 E E (G0 5 E ?_);cases h;exact Rt [] E E (Ug [[0]] 1 (hR A9 c8 ch7 hO7))
theorem Qao  {v1:Qp} {kind1:Int}  {res1:Bool}
   (h:ZN v1 kind1=some res1)
  (hR:R (.bool res1) μ (L)) :
  Fn Tryz.prog 70 [.agg #[.string v1.ID,.int .i64 v1.Depot,.int .i64 v1.Shift.From,.int .i64 v1.Shift.To,.int .i64 v1.Grams,.int .i64 v1.Kinds],.int .i64 kind1] μ (L) R:=by
 unfold ZN at h;refine FnS Tryz.func70 (by kernel_rfl) E Tryz.ntmps70 E E ?_;refine G0 2 E (Al E fun _=>Q0 4 E ?_);refine Cut h (fun f l o_ f_ μ_ l_=> ∃(v2:Bool),v2=o_∧Qh ((10,.bool v2)::Qk [1,2] f) f_∧Qd l l_∧μ=μ_) ?_ ?_
 ·intro _ h21581 h;refine G0 4 E ?_;refine Br h21581 7 E E (fun hc1 h21581=> ?_) (fun hc1 h21581=> ?_)
  ·refine G2 4 [7] [] [] E ?_;cases h21581;exact Ce E ⟨_,rfl,fE E,sE [some 0] 1 E,rfl⟩
  refine G2 4 [] [7] [] E ?_;cases h21581;exact Ce E ⟨_,rfl,fE E,sE [some 0] 1 E,rfl⟩
 rintro _ _ _ _ h _ ⟨v2,rfl,hF21581,hS21581,rfl⟩;refine Atn 1 hF21581 hS21581 E E ?_;refine Br h 10 E E (fun hc2 h=> ?_) (fun hc2 h=> ?_)
 ·refine G2 5 [10] [] [] E ?_;cases h;exact Rt [] E E (Ug [] 1 hR)
 refine G2 8 [] [10] [0] E (Rdo E E ?_);obtain ⟨_,hg1,h⟩:=Qi h;refine QcL E E E (JJ hg1) (Q1 4 [0] E ?_);cases h;exact Rt [] E E (Ug [] 1 hR)
theorem Qdf  {p1:Qe} {v1:Qp} {stops1:(List Int)} {i1:Int} {A1:Option Addr} {c1:Nat} {A2:Option Addr} {c2:Nat} {A3:Option Addr} {c3:Nat} {A4:Option Addr} {c4:Nat} {res1:Int}
  (hl1:p1.Road.Edges.length≤c1∧c1≤maxLen) (hA1:Qr QF μ A1 p1.Road.Edges) (hl2:p1.Vehicles.length≤c2∧c2≤maxLen) (hA2:Qr Qy μ A2 p1.Vehicles) (hl3:p1.Demands.length≤c3∧c3≤maxLen) (hA3:Qr QB μ A3 p1.Demands) (hl4:stops1.length≤c4∧c4≤maxLen) (hA4:Rds QS μ L A4 stops1) (h:Vj p1 v1 stops1 i1=some res1)
  (hR:R (.int .i64 res1) μ (L)) :
  Fn Tryz.prog 98 [.agg #[.int .i64 p1.Road.Nodes,.slice A1 p1.Road.Edges.length c1,.slice A2 p1.Vehicles.length c2,.slice A3 p1.Demands.length c3,.int .i64 p1.Unload,.int .i64 p1.UnloadSecs],.agg #[.string v1.ID,.int .i64 v1.Depot,.int .i64 v1.Shift.From,.int .i64 v1.Shift.To,.int .i64 v1.Grams,.int .i64 v1.Kinds],.slice A4 stops1.length c4,.int .i64 i1] μ (L) R:=by
 unfold Vj at h;refine FnS Tryz.func98 (by kernel_rfl) E Tryz.ntmps98 E E ?_;refine G0 2 E (Al E fun _=>Q0 0 E (Al E fun _=>Q0 6 E (Ix h hA4 E E fun _ _ _ _ hr1 hc1 _ h=> ?_)));obtain rfl:=hr1;refine Q3 9 [] [] [64] (Z1 (hc1.push.push)) E ?_;refine Br h 16 E E (fun hc2 h=> ?_) (fun hc2 h=> ?_)
 ·refine G2 5 [16] [] [] E ?_;cases h;exact Rt [] E E (Ug [] 2 hR)
 refine G2 4 [] [16] [] E ?_;refine Cut h (fun f l o_ f_ μ_ l_=> ∃(v2:Bool),v2=o_∧Qh ((25,.bool v2)::Qk [2,3,4,5,9] f) f_∧Qd (QC [some 1,some 0] 2 l) l_∧μ=μ_) ?_ ?_
 ·intro _ h21556 h;refine G0 4 E ?_;refine Br h21556 19 E E (fun hc3 h21556=> ?_) (fun hc3 h21556=> ?_)
  ·refine G2 7 [19] [] [] E ?_;cases h21556;exact Ce E ⟨_,rfl,fE E,sE [some 1,some 0] 2 E,rfl⟩
  refine G2 7 [] [19] [1] E ?_;cases h21556;exact Ce E ⟨_,rfl,fE E,sE [some 1,some 0] 2 E,rfl⟩
 rintro _ _ _ _ h _ ⟨v2,rfl,hF21556,hS21556,rfl⟩;refine Atn 2 hF21556 hS21556 E E ?_;refine Br h 25 E E (fun hc4 h=> ?_) (fun hc4 h=> ?_)
 ·refine G2 5 [25] [] [] E ?_;cases h;exact Rt [] E E (Ug [] 2 hR)
 refine G2 7 [] [25] [] E ?_;refine Cut h (fun f l o_ f_ μ_ l_=>(.inl ())=o_∧Qh (Qk [4,5,9] f) f_∧Qd l l_∧μ=μ_) ?_ ?_
 ·intro _ h21561 h;refine Lp h21561 (fun f l (k1:Int) f_ μ_ l_=>Qh ((10,.int .i64 k1)::Qk [2,3,4,5,9] f) f_∧Qd l l_∧μ=μ_) ⟨fE E,sE [some 0,some 1] 2 E,E⟩ ?_;rintro k1 _ _ _ _ _ ⟨hF21569,hS21569,rfl⟩ hb21569 hq21569;unfold ZA at hb21569;refine Atn 2 hF21569 hS21569 E E (G0 7 E ?_);refine Br hb21569 28 E E (fun hc5 hb21569=> ?_) (fun hc5 hb21569=> ?_)
  ·refine G2 8 [28] [] [] E (Ix hb21569 hA4 E E fun _ _ _ _ hr2 hc6 _ hb21569=> ?_);obtain rfl:=hr2;refine Q3 4 [] [] [64] (Z1 (hc6.push.push)) E ?_;refine Br hb21569 36 E E (fun hc7 hb21569=> ?_) (fun hc7 hb21569=> ?_)
   ·refine G2 5 [36] [] [] E ?_;cases hb21569;have hq_:=hq21569 _ E;subst hq_;replace h:=Ye h;cases h;exact Rt [] E E (Ug [] 2 hR)
   refine G2 8 [] [36] [] E ?_;cases hb21569;exact Ce E ⟨_,rfl,fE E,sE [some 0,some 1] 2 E,rfl⟩
  refine G2 2 [] [28] [] E ?_;cases hb21569;have hq_:=hq21569 _ E;subst hq_;exact Ce E ⟨rfl,fE E,sE [some 0,some 1] 2 E,rfl⟩
 rintro _ _ _ _ h _ ⟨rfl,hF21561,hS21561,rfl⟩;replace h:=YB h;refine Atn 2 hF21561 hS21561 E E (G0 2 E (Dr _ Qz.refl [(true,0),(true,1),(true,2),(true,3),(true,4),(true,5),(true,6),(false,7),(true,8)] (by kernel_rfl) (G1 4 [1,0] E (Ix h (Qr.rds hA3 L) E E fun _ _ _ _ hr3 hc8 _ h=> ?_))));obtain rfl:=hr3;refine Q3 2 [] [] [66] (Z1 (hc8.push.push)) E (Cl E ?_);obtain ⟨_,hx4,h⟩:=Qi h;refine Qao  hx4 (?_);refine ⟨Qz.refl,?_⟩;refine Q0 2 E ?_;refine Br h 45 E E (fun hc9 h=> ?_) (fun hc9 h=> ?_)
 ·refine G2 5 [45] [] [] E ?_;cases h;exact Rt [] E E (Ug [] 2 hR)
 refine G2 6 [] [45] [] E ?_;cases h;exact Rt [] E E (Ug [] 2 hR)
theorem QdF  {r1:QM} {n1:Int} {A1:Option Addr} {c1:Nat} {res1:Bool}
  (hl1:r1.Edges.length≤c1∧c1≤maxLen) (hA1:Qr QF μ A1 r1.Edges) (h:Vo r1 n1=some res1)
  (hR:R (.bool res1) μ (L)) :
  Fn Tryz.prog 126 [.agg #[.int .i64 r1.Nodes,.slice A1 r1.Edges.length c1],.int .i64 n1] μ (L) R:=by
 unfold Vo at h;refine FnS Tryz.func126 (by kernel_rfl) E Tryz.ntmps126 E E ?_;refine G0 2 E (Al E fun _=>Q0 3 E ?_);refine Cut h (fun f l o_ f_ μ_ l_=> ∃(v1:Bool),v1=o_∧Qh ((4,.bool v1)::[]) f_∧Qd (QC [] 1 l) l_∧μ=μ_) ?_ ?_
 ·intro _ h21619 h;refine G0 4 E ?_;refine Br h21619 7 E E (fun hc1 h21619=> ?_) (fun hc1 h21619=> ?_)
  ·refine G2 7 [7] [] [0] E ?_;cases h21619;exact Ce E ⟨_,rfl,fE E,sE [] 1 E,rfl⟩
  refine G2 7 [] [7] [] E ?_;cases h21619;exact Ce E ⟨_,rfl,fE E,sE [] 1 E,rfl⟩
 rintro _ _ _ _ h _ ⟨v1,rfl,hF21619,hS21619,rfl⟩;refine Atn 0 hF21619 hS21619 E E ?_;cases h;exact Rt [] E E (Ug [] 0 hR)
theorem QaP  {a1:Ql} {b1:Ql}  {res1:Ql}
   (h:Vh a1 b1=some res1)
  (hR:R (.agg #[.int .i64 res1.Secs,.int .i64 res1.Meters]) μ (L)) :
  Fn Tryz.prog 127 [.agg #[.int .i64 a1.Secs,.int .i64 a1.Meters],.agg #[.int .i64 b1.Secs,.int .i64 b1.Meters]] μ (L) R:=by
 unfold Vh at h;refine FnS Tryz.func127 (by kernel_rfl) E Tryz.ntmps127 E E ?_;refine G0 2 E (Al E fun _=>Q0 0 E (Al E fun _=>Q0 0 E (Al E fun _=>Q1 16 [2,1,2,1,0] E ?_)));cases h;exact Rt [0] E E (Ug [] 3 hR)
theorem QcP  {a1:Ql} {b1:Ql}  {res1:Bool}
   (h:ZY a1 b1=some res1)
  (hR:R (.bool res1) μ (L)) :
  Fn Tryz.prog 128 [.agg #[.int .i64 a1.Secs,.int .i64 a1.Meters],.agg #[.int .i64 b1.Secs,.int .i64 b1.Meters]] μ (L) R:=by
 unfold ZY at h;refine FnS Tryz.func128 (by kernel_rfl) E Tryz.ntmps128 E E ?_;refine G0 2 E (Al E fun _=>Q0 0 E (Al E fun _=>Q0 4 E ?_));refine Cut h (fun f l o_ f_ μ_ l_=> ∃(v1:Bool),v1=o_∧Qh ((12,.bool v1)::Qk [2,3] f) f_∧Qd (QC [some 1,some 0] 2 l) l_∧μ=μ_) ?_ ?_
 ·intro _ h21690 h;refine G1 5 [1] E ?_;refine Br h21690 8 E E (fun hc1 h21690=> ?_) (fun hc1 h21690=> ?_)
  ·refine G2 5 [8] [] [] E ?_;cases h21690;exact Ce E ⟨_,rfl,fE E,sE [some 1,some 0] 2 E,rfl⟩
  refine G2 5 [] [8] [0] E ?_;cases h21690;exact Ce E ⟨_,rfl,fE E,sE [some 1,some 0] 2 E,rfl⟩
 rintro _ _ _ _ h _ ⟨v1,rfl,hF21690,hS21690,rfl⟩;refine Atn 2 hF21690 hS21690 E E ?_;refine Br h 12 E E (fun hc2 h=> ?_) (fun hc2 h=> ?_)
 ·refine G2 8 [12] [] [0] E ?_;cases h;exact Rt [] E E (Ug [] 2 hR)
 refine G2 3 [] [12] [] E ?_;refine Cut h (fun f l o_ f_ μ_ l_=> ∃(v2:Bool),v2=o_∧Qh ((4,.bool v2)::[]) f_∧Qd (QC [] 2 l) l_∧μ=μ_) ?_ ?_
 ·intro _ h21695 h;refine G1 7 [0,1] E ?_;refine Br h21695 21 E E (fun hc3 h21695=> ?_) (fun hc3 h21695=> ?_)
  ·refine G2 15 [21] [] [] E ?_;cases h21695;exact Ce E ⟨_,rfl,fE E,sE [] 2 E,rfl⟩
  refine G2 6 [] [21] [0,1] E ?_;refine Br h21695 27 E E (fun hc4 h21695=> ?_) (fun hc4 h21695=> ?_)
  ·refine G2 9 [27] [21] [0,1] E ?_;cases h21695;exact Ce E ⟨_,rfl,fE E,sE [] 2 E,rfl⟩
  refine G2 9 [] [21,27] [] E ?_;cases h21695;exact Ce E ⟨_,rfl,fE E,sE [] 2 E,rfl⟩
 rintro _ _ _ _ h _ ⟨v2,rfl,hF21695,hS21695,rfl⟩;refine Atn 0 hF21695 hS21695 E E ?_;cases h;exact Rt [] E E (Ug [] 0 hR)
theorem QdE  {r1:QM} {f_from1:Int} {A1:Option Addr} {c1:Nat} {res1:(List Ql)} {res2:Int}
  (hl1:r1.Edges.length≤c1∧c1≤maxLen) (hA1:Qr QF μ A1 r1.Edges) (h:Zn r1 f_from1=some (res1,res2))
  (hR: ∀(A0:Option Addr) (c0:Nat) (ch0:Seg),Own Yl 137 μ (.slice A0 res1.length c0) res1 ch0→R (.tuple #[.slice A0 res1.length c0,.int .i64 res2]) μ (ch0::L)) :
  Fn Tryz.prog 113 [.agg #[.int .i64 r1.Nodes,.slice A1 r1.Edges.length c1],.int .i64 f_from1] μ (L) R:=by
 unfold Zn at h;refine FnS Tryz.func113 (by kernel_rfl) E Tryz.ntmps113 E E ?_;refine G0 2 E (Al E fun g1=>Q1 7 [0] E (Cl E ?_));obtain ⟨_,hx1,h⟩:=Qi h;refine QaQ hl1 hA1 hx1 ((Q0 7 E ?_));refine Br h 16 E E (fun hc1 h=> ?_) (fun hc1 h=> ?_)
 ·refine G2 7 [16] [] [] E ?_;cases h;exact Rt [] E E (Ug [[]] 1 (hR none 0 [] Own.nil))
 refine G2 7 [] [16] [0] E (Cl E ?_);obtain ⟨_,hx2,h⟩:=Qi h;refine QdF hl1 hA1 hx2 ((Q0 2 E ?_));refine Br h 21 E E (fun hc2 h=> ?_) (fun hc2 h=> ?_)
 ·refine G2 6 [21] [] [] E ?_;cases h;exact Rt [] E E (Ug [[]] 1 (hR none 0 [] Own.nil))
 refine G2 6 [] [21] [0] E (So E (Qho E E ?_));obtain ⟨_,hn1,h⟩:=Qi h;refine Qf3 (r:=Yl) (z:=(Ql.mk 0 0)) (zc:=[.int .i64 0,.int .i64 0]) QU E E E E E (E) E hn1 fun A2 c2 ch1 hO1=>Q0 9 E ?_;refine Cut h (fun f l o_ f_ μ_ l_=> ∃(out2:(List Ql)) (A4:Option Addr) (c4:Nat) (ch4:Seg),out2=o_∧Qh ((7,.slice A4 out2.length c4)::Qk [1,2] f) f_∧Qd ([(g1,.cells #[.int .i64 r1.Nodes,.slice A1 r1.Edges.length c1] 24 (0,0))]::ch4::QC [] 2 l) l_∧Own Yl 137 μ_ (.slice A4 out2.length c4) out2 ch4∧μ=μ_) ?_ ?_
 ·intro _ h21623 h;refine Lp h21623 (fun f l (j_:(List Ql)×Int) f_ μ_ l_=>YG j_ fun out1 v1=> ∃(A3:Option Addr) (c3:Nat) (ch2:Seg),Qh ((7,.slice A3 out1.length c3)::(27,.int .i64 v1)::Qk [1,2,26] f) f_∧Qd ([(g1,.cells #[.int .i64 r1.Nodes,.slice A1 r1.Edges.length c1] 24 (0,0))]::ch2::QC [] 2 l) l_∧Own Yl 137 μ_ (.slice A3 out1.length c3) out1 ch2∧μ=μ_) ⟨A2,c2,ch1,fE E,sE [some 1,some 0] 2 E,(hO1),E⟩ ?_;rintro ⟨out1,v1⟩ _ _ _ _ _ ⟨A3,c3,ch2,hF21630,hS21630,hO2,rfl⟩ hb21630 hq21630;unfold ZL at hb21630;replace hb21630:=Qj hb21630;refine Atn 2 hF21630 hS21630 E E (G0 5 E ?_);refine Br hb21630 28 E E (fun hc3 hb21630=> ?_) (fun hc3 hb21630=> ?_)
  ·refine G2 12 [28] [] [] E (IxA hb21630 (Own.rds hO2 1 E) E E fun x1 a1 _ hx3 hr1 _ hA2 hb21630=> ?_);obtain rfl:=hr1;refine Q0 1 E (So E (QY (vs:=[.int .i64 (-1)]) E E E E E E ?_))
   rw[←Addr.add_zero' ((a1.add (v1.toNat*2)))]
   refine Own.store (μ:=μ) (r:=Yl) (x':=(Ql.mk (-1) x1.Meters)) (o:=0) (sz:=2) 1 rfl hO2 hA2 hx3 rfl rfl (by rintro _ rfl;rfl) fun ch3 hO3=> ?_
   rw[←QX out1 v1 (Ql.mk (-1) x1.Meters)] at hO3 ⊢
   refine Q0 6 E ?_;cases hb21630;exact Ce E ⟨_,rfl,A3,c3,ch3,fE E,sE [some 0,some 1] 2 E,(hO3),rfl⟩
  refine G2 2 [] [28] [] E ?_;cases hb21630;have hq_:=hq21630 _ E;subst hq_;exact Ce E ⟨_,A3,c3,ch2,rfl,fE E,sE [some 0,some 1] 2 E,(hO2),rfl⟩
 rintro _ _ _ _ h _ ⟨out2,A4,c4,ch4,rfl,hF21623,hS21623,hO4,rfl⟩;refine Atn 2 hF21623 hS21623 E E (G0 4 E (IxA h (Own.rds hO4 1 E) E E fun x2 a2 _ hx4 hr2 _ hA3 h=> ?_));obtain rfl:=hr2;refine Q0 1 E (So E (QY (vs:=[.int .i64 0]) E E E E E E ?_))
 rw[←Addr.add_zero' ((a2.add (f_from1.toNat*2)))]
 refine Own.store (μ:=μ) (r:=Yl) (x':=(Ql.mk 0 x2.Meters)) (o:=0) (sz:=2) 1 rfl hO4 hA3 hx4 rfl rfl (by rintro _ rfl;rfl) fun ch5 hO5=> ?_
 rw[←QX out2 f_from1 (Ql.mk 0 x2.Meters)] at hO5 ⊢
 refine Q0 6 E ?_;refine Cut h (fun f l o_ f_ μ_ l_=> ∃(out8:(List Ql)) (A10:Option Addr) (c10:Nat) (ch12:Seg),out8=o_∧Qh ((7,.slice A10 out8.length c10)::[]) f_∧Qd (ch12::QC [] 2 l) l_∧Own Yl 137 μ_ (.slice A10 out8.length c10) out8 ch12∧μ=μ_) ?_ ?_
 ·intro _ h21642 h;refine Lp h21642 (fun f l (j_:(List Ql)×Int) f_ μ_ l_=>YG j_ fun out3 n1=> ∃(A5:Option Addr) (c5:Nat) (ch6:Seg),Qh ((7,.slice A5 out3.length c5)::(9,.int .i64 n1)::Qk [2] f) f_∧Qd ([(g1,.cells #[.int .i64 r1.Nodes,.slice A1 r1.Edges.length c1] 24 (0,0))]::ch6::QC [] 2 l) l_∧Own Yl 137 μ_ (.slice A5 out3.length c5) out3 ch6∧μ=μ_) ⟨A4,c4,ch5,fE E,sE [some 0,some 1] 2 E,(hO5),E⟩ ?_;rintro ⟨out3,n1⟩ _ _ _ _ _ ⟨A5,c5,ch6,hF21752,hS21752,hO6,rfl⟩ hb21752 hq21752;unfold Jy at hb21752;replace hb21752:=Qj hb21752;refine Atn 2 hF21752 hS21752 E E (G1 8 [0] E ?_);refine Br hb21752 42 E E (fun hc6 hb21752=> ?_) (fun hc6 hb21752=> ?_)
  ·refine G2 3 [42] [] [] E ?_;refine Cut hb21752 (fun f l o_ f_ μ_ l_=> ∃(out7:(List Ql)) (A9:Option Addr) (c9:Nat) (ch11:Seg),out7=o_∧Qh ((7,.slice A9 out7.length c9)::Qk [2,9] f) f_∧Qd ([(g1,.cells #[.int .i64 r1.Nodes,.slice A1 r1.Edges.length c1] 24 (0,0))]::ch11::QC [] 2 l) l_∧Own Yl 137 μ_ (.slice A9 out7.length c9) out7 ch11∧μ=μ_) ?_ ?_
   ·intro _ h21757 hb21752;refine G1 8 [0] E ?_;refine Cut h21757 (fun f l o_ f_ μ_ l_=> ∃(out6:(List Ql)) (A8:Option Addr) (c8:Nat) (ch10:Seg),out6=o_∧Qh ((7,.slice A8 out6.length c8)::Qk [2,9] f) f_∧Qd ([(g1,.cells #[.int .i64 r1.Nodes,.slice A1 r1.Edges.length c1] 24 (0,0))]::ch10::QC [] 2 l) l_∧Own Yl 137 μ_ (.slice A8 out6.length c8) out6 ch10∧μ=μ_) ?_ ?_
    ·intro _ h21758 h21757;refine Lp h21758 (fun f l (j_:(List Ql)×Int) f_ μ_ l_=>YG j_ fun out4 v2=> ∃(A6:Option Addr) (c6:Nat) (ch7:Seg),Qh ((7,.slice A6 out4.length c6)::(48,.int .i64 v2)::Qk [2,9,46,47] f) f_∧Qd ([(g1,.cells #[.int .i64 r1.Nodes,.slice A1 r1.Edges.length c1] 24 (0,0))]::ch7::QC [] 2 l) l_∧Own Yl 137 μ_ (.slice A6 out4.length c6) out4 ch7∧μ=μ_) ⟨A5,c5,ch6,fE E,sE [some 0,some 1] 2 E,(hO6),E⟩ ?_;rintro ⟨out4,v2⟩ _ _ _ _ _ ⟨A6,c6,ch7,hF21801,hS21801,hO7,rfl⟩ hb21801 hq21801;unfold ZM at hb21801;replace hb21801:=Qj hb21801;refine Atn 2 hF21801 hS21801 E E (G0 5 E ?_);refine Br hb21801 49 E E (fun hc7 hb21801=> ?_) (fun hc7 hb21801=> ?_)
     ·refine G2 3 [49] [] [] E ?_;refine Cut hb21801 (fun f l o_ f_ μ_ l_=> ∃(out5:(List Ql)) (A7:Option Addr) (c7:Nat) (ch9:Seg),out5=o_∧Qh ((7,.slice A7 out5.length c7)::Qk [2,9,46,47,48] f) f_∧Qd ([(g1,.cells #[.int .i64 r1.Nodes,.slice A1 r1.Edges.length c1] 24 (0,0))]::ch9::QC [] 2 l) l_∧Own Yl 137 μ_ (.slice A7 out5.length c7) out5 ch9∧μ=μ_) ?_ ?_
      ·intro _ h21806 hb21801;refine G0 3 E (Ix h21806 (Qr.rds hA1 L) E E fun x3 _ _ _ hr3 hc8 _ h21806=> ?_);obtain rfl:=hr3;refine Q3 1 [] [] [64] (Z1 (hc8.push.push)) E (Al E fun g2=>Q1 7 [0,0] E (IxA h21806 (Own.rds hO7 2 E) E E fun _ _ _ _ hr4 hc9 _ h21806=> ?_));obtain rfl:=hr4;refine Q3 4 [] [] [64] (Z1 hc9) E ?_;refine Br h21806 58 E E (fun hc10 h21806=> ?_) (fun hc10 h21806=> ?_)
       ·refine G2 2 [58] [] [] E ?_;refine Cut h21806 (fun f l o_ f_ μ_ l_=> ∃(f1:Int) (f2:Int) (g4:Nat),(f1,f2)=o_∧Qh ((12,.pointer (some ⟨g4,0,none⟩))::Qk [2,7,9,11,46,47,48] f) f_∧Qd ([(g1,.cells #[.int .i64 r1.Nodes,.slice A1 r1.Edges.length c1] 24 (0,0))]::ch7::[(g2,.cells #[.int .i64 x3.From,.int .i64 x3.To,.int .i64 x3.Meters,.int .i64 x3.Secs] 106 (0,0))]::[(g4,.cells #[.int .i64 f1,.int .i64 f2] 137 (0,0))]::QC [] 3 l) l_∧μ=μ_) ?_ ?_
        ·intro _ h21816 h21806;refine Cd (WP.draw (id:=20) Qd2 _ Qz.refl E (AN.run (fuel:=3) (listed':=[true,true,true,true,true,true,true,true,true,true,false,false,false]) QU [(true,0),(true,1),(true,2),(true,3),(true,4),(true,5),(true,6),(true,7),(true,8),(true,9)] (by kernel_rfl) (by kernel_rfl) E (Vx E (QA E (Pt E E (WJ (o':=0) E E E E E E (Pt E E (JN E E E (Ex.mk _ (Ws.seg 0 0 E E E) (Pt E E ?_))))))))));obtain ⟨x5,hx7,h21816⟩:=Qi h21816;obtain ⟨_,_,hA6,hr5,_,hc11⟩:=Rds.getI (Own.rds (L:=([(g2,.cells #[.int .i64 x3.From,.int .i64 x3.To,.int .i64 x3.Meters,.int .i64 x3.Secs] 106 (0,0))]::[(g1,.cells #[.int .i64 r1.Nodes,.slice A1 r1.Edges.length c1] 24 (0,0))]::ch7::L)) hO7 2 rfl) hx7;obtain rfl:=hr5;refine Jq E E E E E E ⟨(QE hx7).1,(QE hx7).2.1⟩ hA6 (Pt E E (Z3 E E E E (Ex.mk [.int .i64 x5.Secs,.int .i64 x5.Meters] ⟨rfl,hc11⟩ (Pt E E (WJ (o':=3) E E E E E E (Pt E E (JN E E E (Ex.mk _ (Ws.seg 0 0 E E E) (Pt E E (WJ (o':=2) E E E E E E (Pt E E (JN E E E ?_))))))))))));refine Ex.mk _ (Ws.seg 0 0 E E E) (Pt E E (QbT E E E E (QR (cells':=[.int .i64 x3.Secs,.int .i64 0]) E E E E (QR (cells':=[.int .i64 x3.Secs,.int .i64 x3.Meters]) E E E E (YM (QP E (Js ?_)))))));refine QmV QU (a:=10) (b:=11) (by kernel_rfl) ?_ ?_
         ·refine FO_ E E (QaC (all:=[.agg #[.int .i64 x5.Secs,.int .i64 x5.Meters],.agg #[.int .i64 x3.Secs,.int .i64 x3.Meters]]) E E E ?_);obtain ⟨r4,hx8,h21816⟩:=Qi h21816;refine QaP  hx8 (?_);refine ⟨Qz.refl,?_⟩;refine QP E (AN.run (fuel:=0) (listed':=[true,true,true,true,true,true,true,true,true,true,true,true,true]) QU [(false,11),(false,12)] (by kernel_rfl) (by kernel_rfl) E (QaX E (Qad (cs:= #[.int .i64 0,.int .i64 0]) E E (fun g3=> ?_))));refine ⟨Qz.more (Qz.refl),?_⟩;refine QP E (QaX E (QY (vs:=[.int .i64 r4.Secs,.int .i64 r4.Meters]) E E E E E E (ST_ (L':=([(g3,.cells #[.int .i64 r4.Secs,.int .i64 r4.Meters] 137 (0,0))]::[(g2,.cells #[.int .i64 x3.From,.int .i64 x3.To,.int .i64 x3.Meters,.int .i64 x3.Secs] 106 (0,0))]::[(g1,.cells #[.int .i64 r1.Nodes,.slice A1 r1.Edges.length c1] 24 (0,0))]::ch7::L)) 0 0 E E E E ?_)));refine ⟨Qz.more (Qz.refl),?_⟩;refine ZF (Js (AN.done0 (by kernel_rfl) ?_));cases h21816;exact Ce E ⟨_,_,g3,rfl,fE E,sE [some 2,some 3,some 1,some 0] 4 E,rfl⟩
         obtain ⟨r4,hx8,h21816⟩:=Qi h21816;refine FO_ E E (Qad (cs:= #[.int .i64 0,.int .i64 0]) E E (fun g3=> ?_));refine ⟨Qz.more (Qz.refl),?_⟩;refine QP E (AN.run (fuel:=0) (listed':=[true,true,true,true,true,true,true,true,true,true,true,true,true]) QU [(false,10),(false,12)] (by kernel_rfl) (by kernel_rfl) E (QaX E (QaC (all:=[.agg #[.int .i64 x5.Secs,.int .i64 x5.Meters],.agg #[.int .i64 x3.Secs,.int .i64 x3.Meters]]) E E E (QaP  hx8 (?_)))));refine ⟨Qz.more (Qz.refl),?_⟩;refine QP E (QaX E (QY (vs:=[.int .i64 r4.Secs,.int .i64 r4.Meters]) E E E E E E (ST_ (L':=([(g3,.cells #[.int .i64 r4.Secs,.int .i64 r4.Meters] 137 (0,0))]::[(g2,.cells #[.int .i64 x3.From,.int .i64 x3.To,.int .i64 x3.Meters,.int .i64 x3.Secs] 106 (0,0))]::[(g1,.cells #[.int .i64 r1.Nodes,.slice A1 r1.Edges.length c1] 24 (0,0))]::ch7::L)) 0 0 E E E E ?_)));refine ⟨Qz.more (Qz.refl),?_⟩;refine ZF (Js (AN.done0 (by kernel_rfl) ?_));cases h21816;exact Ce E ⟨_,_,g3,rfl,fE E,sE [some 2,some 3,some 1,some 0] 4 E,rfl⟩
        rintro _ _ _ _ h21806 _ ⟨f1,f2,g4,rfl,hF21816,hS21816,rfl⟩;replace h21806:=Qj h21806;refine Atn 4 hF21816 hS21816 E E (G0 1 E (Dr _ Qz.refl [(true,0),(true,1),(true,2),(true,3),(true,4),(true,5),(false,6)] (by kernel_rfl) (G1 4 [3,2] E (Ix h21806 (Own.rds (L:=([(g1,.cells #[.int .i64 r1.Nodes,.slice A1 r1.Edges.length c1] 24 (0,0))]::ch7::[(g2,.cells #[.int .i64 x3.From,.int .i64 x3.To,.int .i64 x3.Meters,.int .i64 x3.Secs] 106 (0,0))]::[(g4,.cells #[.int .i64 f1,.int .i64 f2] 137 (0,0))]::L)) hO7 1 E) E E fun _ _ _ _ hr6 hc12 _ h21806=> ?_))));obtain rfl:=hr6;refine Q3 1 [] [] [64] (Z1 hc12) E (Cl E ?_);obtain ⟨_,hx10,h21806⟩:=Qi h21806;refine QcP  hx10 (?_);refine ⟨Qz.refl,?_⟩;refine Q0 1 E ?_;refine Br h21806 76 E E (fun hc13 h21806=> ?_) (fun hc13 h21806=> ?_)
        ·refine G2 6 [76] [] [2,3] E (IxA h21806 (Own.rds hO7 1 E) E E fun _ a7 _ hx11 hr7 _ hA8 h21806=> ?_);obtain rfl:=hr7;refine Q0 0 E (So E (QY (vs:=[.int .i64 f1,.int .i64 f2]) E E E E E E ?_))
         rw[←Addr.add_zero' ((a7.add (x3.To.toNat*2)))]
         refine Own.store (μ:=μ) (r:=Yl) (x':=(Ql.mk f1 f2)) (o:=0) (sz:=2) 1 rfl hO7 hA8 hx11 rfl rfl (by rintro _ rfl;rfl) fun ch8 hO8=> ?_
         rw[←QX out4 x3.To (Ql.mk f1 f2)] at hO8 ⊢
         refine Q0 2 E ?_;cases h21806;exact Ce E ⟨_,A6,c6,ch8,rfl,fE E,sE [some 0,some 1] 4 E,(hO8),rfl⟩
        refine G2 3 [] [76] [] E ?_;cases h21806;exact Ce E ⟨_,A6,c6,ch7,rfl,fE E,sE [some 0,some 1] 4 E,(hO7),rfl⟩
       refine G2 3 [] [58] [] E ?_;cases h21806;exact Ce E ⟨_,A6,c6,ch7,rfl,fE E,sE [some 1,some 2] 3 E,(hO7),rfl⟩
      rintro _ _ _ _ hb21801 _ ⟨out5,A7,c7,ch9,rfl,hF21806,hS21806,hO9,rfl⟩;refine Atn 2 hF21806 hS21806 E E (G0 4 E ?_);cases hb21801;exact Ce E ⟨_,rfl,A7,c7,ch9,fE E,sE [some 0,some 1] 2 E,(hO9),rfl⟩
     refine G2 2 [] [49] [] E ?_;cases hb21801;have hq_:=hq21801 _ E;subst hq_;exact Ce E ⟨_,A6,c6,ch7,rfl,fE E,sE [some 0,some 1] 2 E,(hO7),rfl⟩
    rintro _ _ _ _ h21757 _ ⟨out6,A8,c8,ch10,rfl,hF21758,hS21758,hO10,rfl⟩;refine G0 1 E ?_;cases h21757;exact Ce E ⟨_,A8,c8,ch10,rfl,hF21758.tr E,hS21758.tr (sE [some 0,some 1] 2 E),(hO10),rfl⟩
   rintro _ _ _ _ hb21752 _ ⟨out7,A9,c9,ch11,rfl,hF21757,hS21757,hO11,rfl⟩;refine Atn 2 hF21757 hS21757 E E (G0 5 E ?_);cases hb21752;exact Ce E ⟨_,rfl,A9,c9,ch11,fE E,sE [some 0,some 1] 2 E,(hO11),rfl⟩
  refine G2 2 [] [42] [] E ?_;cases hb21752;have hq_:=hq21752 _ E;subst hq_;exact Ce E ⟨_,A5,c5,ch6,rfl,fE E,sE [some 1] 2 E,(hO6),rfl⟩
 rintro _ _ _ _ h _ ⟨out8,A10,c10,ch12,rfl,hF21642,hS21642,hO12,rfl⟩;refine Atn 1 hF21642 hS21642 E E (G0 6 E ?_);cases h;exact Rt [] E E (Ug [[0]] 1 (hR A10 c10 ch12 hO12))
theorem VU  {p1:Qe} {f_from1:Int} {f_to1:Int} {A1:Option Addr} {c1:Nat} {A2:Option Addr} {c2:Nat} {A3:Option Addr} {c3:Nat} {res1:Ql}
  (hl1:p1.Road.Edges.length≤c1∧c1≤maxLen) (hA1:Qr QF μ A1 p1.Road.Edges) (hl2:p1.Vehicles.length≤c2∧c2≤maxLen) (hA2:Qr Qy μ A2 p1.Vehicles) (hl3:p1.Demands.length≤c3∧c3≤maxLen) (hA3:Qr QB μ A3 p1.Demands) (h:Z9 p1 f_from1 f_to1=some res1)
  (hR:R (.agg #[.int .i64 res1.Secs,.int .i64 res1.Meters]) μ (L)) :
  Fn Tryz.prog 91 [.agg #[.int .i64 p1.Road.Nodes,.slice A1 p1.Road.Edges.length c1,.slice A2 p1.Vehicles.length c2,.slice A3 p1.Demands.length c3,.int .i64 p1.Unload,.int .i64 p1.UnloadSecs],.int .i64 f_from1,.int .i64 f_to1] μ (L) R:=by
 unfold Z9 at h;refine FnS Tryz.func91 (by kernel_rfl) E Tryz.ntmps91 E E ?_;refine G0 2 E (Al E fun _=>Q0 0 E (Al E fun _=>Q1 6 [1] E (Cl E ?_)));obtain ⟨⟨_,_⟩,hx1,h⟩:=Qi h;replace h:=Qj h;refine QdE hl1 hA1 hx1 (fun _ _ _ hO1=>Q0 8 E ?_);refine Cut h (fun f l o_ f_ μ_ l_=> ∃(v1:Bool),v1=o_∧Qh ((27,.bool v1)::Qk [2,6,7] f) f_∧Qd (QC [some 1,some 0] 3 l) l_∧μ=μ_) ?_ ?_
 ·intro _ h21852 h;refine G0 4 E ?_;refine Br h21852 18 E E (fun hc1 h21852=> ?_) (fun hc1 h21852=> ?_)
  ·refine G2 10 [18,22] [] [] E ?_;cases h21852;exact Ce E ⟨_,rfl,fE E,sE [some 1,some 0] 3 E,rfl⟩
  refine G2 4 [] [18] [] E ?_;refine Br h21852 22 E E (fun hc2 h21852=> ?_) (fun hc2 h21852=> ?_)
  ·refine G2 6 [22] [] [] E ?_;cases h21852;exact Ce E ⟨_,rfl,fE E,sE [some 1,some 0] 3 E,rfl⟩
  refine G2 6 [] [22] [] E ?_;cases h21852;exact Ce E ⟨_,rfl,fE E,sE [some 1,some 0] 3 E,rfl⟩
 rintro _ _ _ _ h _ ⟨v1,rfl,hF21852,hS21852,rfl⟩;refine Atn 2 hF21852 hS21852 E E ?_;refine Br h 27 E E (fun hc3 h=> ?_) (fun hc3 h=> ?_)
 ·refine G2 6 [27] [] [0] E ?_;cases h;exact Rt [0] E E (Ug [] 2 hR)
 refine G2 6 [] [27] [] E (IxA h (Own.rds hO1 1 E) E E fun _ _ _ _ hr1 hc4 _ h=> ?_);obtain rfl:=hr1;refine Q3 3 [] [] [64,0] (Z1 hc4) E ?_;cases h;exact Rt [0] E E (Ug [] 2 hR)
theorem Qdg  {p1:Qe} {v1:Qp} {x1:QN} {s1:Int} {A1:Option Addr} {c1:Nat} {A2:Option Addr} {c2:Nat} {A3:Option Addr} {c3:Nat} {res1:QN} {res2:Int}
  (hl1:p1.Road.Edges.length≤c1∧c1≤maxLen) (hA1:Qr QF μ A1 p1.Road.Edges) (hl2:p1.Vehicles.length≤c2∧c2≤maxLen) (hA2:Qr Qy μ A2 p1.Vehicles) (hl3:p1.Demands.length≤c3∧c3≤maxLen) (hA3:Qr QB μ A3 p1.Demands) (h:Wb p1 v1 x1 s1=some (res1,res2))
  (hR:R (.tuple #[.agg #[.int .i64 res1.Stop,.int .i64 res1.Node,.int .i64 res1.Arrive,.int .i64 res1.Start,.int .i64 res1.Leave,.int .i64 res1.Load],.int .i64 res2]) μ (L)) :
  Fn Tryz.prog 99 [.agg #[.int .i64 p1.Road.Nodes,.slice A1 p1.Road.Edges.length c1,.slice A2 p1.Vehicles.length c2,.slice A3 p1.Demands.length c3,.int .i64 p1.Unload,.int .i64 p1.UnloadSecs],.agg #[.string v1.ID,.int .i64 v1.Depot,.int .i64 v1.Shift.From,.int .i64 v1.Shift.To,.int .i64 v1.Grams,.int .i64 v1.Kinds],.agg #[.int .i64 x1.Stop,.int .i64 x1.Node,.int .i64 x1.Arrive,.int .i64 x1.Start,.int .i64 x1.Leave,.int .i64 x1.Load],.int .i64 s1] μ (L) R:=by
 unfold Wb at h;refine FnS Tryz.func99 (by kernel_rfl) E Tryz.ntmps99 E E ?_;refine G0 2 E (Al E fun g1=>Q0 0 E (Al E fun g2=>Q0 0 E (Al E fun g3=>Q0 0 E (Al E fun g4=>Q1 8 [3] E (Al E fun g5=>Q1 8 [0] E ?_)))));refine Cut h (fun f l o_ f_ μ_ l_=> ∃(f1:Int),f1=o_∧Qh (Qk [3,4,5,6,8,10] f) f_∧Qd ([(g1,.cells #[.int .i64 p1.Road.Nodes,.slice A1 p1.Road.Edges.length c1,.slice A2 p1.Vehicles.length c2,.slice A3 p1.Demands.length c3,.int .i64 p1.Unload,.int .i64 p1.UnloadSecs] 28 (0,0))]::[(g2,.cells #[.string v1.ID,.int .i64 v1.Depot,.int .i64 v1.Shift.From,.int .i64 v1.Shift.To,.int .i64 v1.Grams,.int .i64 v1.Kinds] 61 (0,0))]::[(g3,.cells #[.int .i64 x1.Stop,.int .i64 x1.Node,.int .i64 x1.Arrive,.int .i64 x1.Start,.int .i64 x1.Leave,.int .i64 x1.Load] 135 (0,0))]::[(g4,.cells #[.int .i64 0,.int .i64 0,.int .i64 0,.int .i64 0,.int .i64 0,.int .i64 0] 135 (0,0))]::[(g5,.cells #[.int .i64 s1,.int .i64 f1,.int .i64 0,.int .i64 0,.int .i64 0,.int .i64 0] 135 (0,0))]::QC [] 5 l) l_∧μ=μ_) ?_ ?_
 ·intro _ h21594 h;refine Br h21594 18 E E (fun hc1 h21594=> ?_) (fun hc1 h21594=> ?_)
  ·refine G2 5 [18] [] [4] E (Ix h21594 (Qr.rds hA3 L) E E fun _ _ _ _ hr1 hc2 _ h21594=> ?_);obtain rfl:=hr1;refine Q3 5 [] [] [65,0] (Z1 (hc2.push.push.push.push.push)) E ?_;cases h21594;exact Ce E ⟨_,rfl,fE E,sE [some 4,some 3,some 2,some 1,some 0] 5 E,rfl⟩
  refine G2 2 [] [18] [] E ?_;cases h21594;exact Ce E ⟨_,rfl,fE E,sE [some 4,some 3,some 2,some 1,some 0] 5 E,rfl⟩
 rintro _ _ _ _ h _ ⟨f1,rfl,hF21594,hS21594,rfl⟩;refine Atn 5 hF21594 hS21594 E E (G1 7 [0,2,4] E (Cl E ?_));obtain ⟨_,hx2,h⟩:=Qi h;refine VU hl1 hA1 hl2 hA2 hl3 hA3 hx2 ((Q0 0 E (Al E fun _=>Q1 9 [0,0] E ?_)));refine Br h 34 E E (fun hc3 h=> ?_) (fun hc3 h=> ?_)
 ·refine G2 7 [34] [] [4] E ?_;cases h;exact Rt [4] E E (Ug [] 6 hR)
 refine G2 25 [] [34] [3,0,5,5,5] E ?_;refine Br h 46 E E (fun hc4 h=> ?_) (fun hc4 h=> ?_)
 ·refine G2 17 [46] [] [5,1,5,5,4] E ?_;cases h;exact Rt [4] E E (Ug [] 6 hR)
 refine G2 7 [] [46] [1] E (Ix h (Qr.rds hA3 L) E E fun _ _ _ _ hr2 hc5 _ h=> ?_);obtain rfl:=hr2;refine Q3 1 [] [] [64] (Z1 (hc5.push.push.push.push.push.push)) E (Al E fun _=>Q1 23 [0,6,0,6,6,0] E ?_);refine Br h 71 E E (fun hc6 h=> ?_) (fun hc6 h=> ?_)
 ·refine G2 7 [71] [] [5] E ?_;cases h;exact Rt [5] E E (Ug [] 7 hR)
 refine G2 31 [] [71] [6,0,6,4,0,6,6,3] E ?_;refine Br h 89 E E (fun hc7 h=> ?_) (fun hc7 h=> ?_)
 ·refine G2 7 [89] [] [5] E ?_;cases h;exact Rt [5] E E (Ug [] 7 hR)
 refine G2 8 [] [89] [6,5] E ?_;cases h;exact Rt [5] E E (Ug [] 7 hR)
theorem QdH  {p1:Qe} {v1:Qp} {x1:QN} {A1:Option Addr} {c1:Nat} {A2:Option Addr} {c2:Nat} {A3:Option Addr} {c3:Nat} {res1:QN} {res2:Int}
  (hl1:p1.Road.Edges.length≤c1∧c1≤maxLen) (hA1:Qr QF μ A1 p1.Road.Edges) (hl2:p1.Vehicles.length≤c2∧c2≤maxLen) (hA2:Qr Qy μ A2 p1.Vehicles) (hl3:p1.Demands.length≤c3∧c3≤maxLen) (hA3:Qr QB μ A3 p1.Demands) (h:JE p1 v1 x1=some (res1,res2))
  (hR:R (.tuple #[.agg #[.int .i64 res1.Stop,.int .i64 res1.Node,.int .i64 res1.Arrive,.int .i64 res1.Start,.int .i64 res1.Leave,.int .i64 res1.Load],.int .i64 res2]) μ (L)) :
  Fn Tryz.prog 100 [.agg #[.int .i64 p1.Road.Nodes,.slice A1 p1.Road.Edges.length c1,.slice A2 p1.Vehicles.length c2,.slice A3 p1.Demands.length c3,.int .i64 p1.Unload,.int .i64 p1.UnloadSecs],.agg #[.string v1.ID,.int .i64 v1.Depot,.int .i64 v1.Shift.From,.int .i64 v1.Shift.To,.int .i64 v1.Grams,.int .i64 v1.Kinds],.agg #[.int .i64 x1.Stop,.int .i64 x1.Node,.int .i64 x1.Arrive,.int .i64 x1.Start,.int .i64 x1.Leave,.int .i64 x1.Load]] μ (L) R:=by
 unfold JE at h;refine FnS Tryz.func100 (by kernel_rfl) E Tryz.ntmps100 E E ?_;refine G0 2 E (Al E fun _=>Q0 0 E (Al E fun _=>Q0 0 E (Al E fun _=>Q0 0 E (Al E fun _=>Q1 9 [3,1,2] E (Cl E ?_)))));obtain ⟨_,hx1,h⟩:=Qi h;refine VU hl1 hA1 hl2 hA2 hl3 hA3 hx1 ((Q0 0 E (Al E fun _=>Q1 9 [0,0] E ?_)));refine Br h 18 E E (fun hc1 h=> ?_) (fun hc1 h=> ?_)
 ·refine G2 7 [18] [] [1] E ?_;cases h;exact Rt [1] E E (Ug [] 5 hR)
 refine G2 9 [] [18] [2] E ?_;refine Br h 22 E E (fun hc2 h=> ?_) (fun hc2 h=> ?_)
 ·refine G2 7 [22] [] [1] E ?_;cases h;exact Rt [1] E E (Ug [] 5 hR)
 refine G2 20 [] [22] [2,0,3] E ?_;refine Br h 33 E E (fun hc3 h=> ?_) (fun hc3 h=> ?_)
 ·refine G2 7 [33] [] [1] E ?_;cases h;exact Rt [1] E E (Ug [] 5 hR)
 refine G2 13 [] [33] [3,1] E ?_;cases h;exact Rt [1] E E (Ug [] 5 hR)
theorem VE  {p1:Qe} {t1:Qa} {A1:Option Addr} {c1:Nat} {A2:Option Addr} {c2:Nat} {A3:Option Addr} {c3:Nat} {A4:Option Addr} {c4:Nat} {res1:(List QN)} {res2:Int} {res3:Int}
  (hl1:p1.Road.Edges.length≤c1∧c1≤maxLen) (hA1:Qr QF μ A1 p1.Road.Edges) (hl2:p1.Vehicles.length≤c2∧c2≤maxLen) (hA2:Qr Qy μ A2 p1.Vehicles) (hl3:p1.Demands.length≤c3∧c3≤maxLen) (hA3:Qr QB μ A3 p1.Demands) (hl4:t1.Stops.length≤c4∧c4≤maxLen) (hA4:Qr QS μ A4 t1.Stops) (h:ZT p1 t1=some (res1,res2,res3))
  (hR: ∀(A0:Option Addr) (c0:Nat) (ch0:Seg),Own J9 135 μ (.slice A0 res1.length c0) res1 ch0→R (.tuple #[.slice A0 res1.length c0,.int .i64 res2,.int .i64 res3]) μ (ch0::L)) :
  Fn Tryz.prog 64 [.agg #[.int .i64 p1.Road.Nodes,.slice A1 p1.Road.Edges.length c1,.slice A2 p1.Vehicles.length c2,.slice A3 p1.Demands.length c3,.int .i64 p1.Unload,.int .i64 p1.UnloadSecs],.agg #[.int .i64 t1.Vehicle,.slice A4 t1.Stops.length c4]] μ (L) R:=by
 unfold ZT at h;refine FnS Tryz.func64 (by kernel_rfl) E Tryz.ntmps64 E E ?_;refine G0 2 E (Al E fun g1=>Q0 0 E (Al E fun g2=>Q1 8 [1] E (Cl E ?_)));obtain ⟨_,hx1,h⟩:=Qi h;refine Vu hl1 hA1 hl2 hA2 hl3 hA3 hx1 ((Q0 7 E ?_));refine Br h 18 E E (fun hc1 h=> ?_) (fun hc1 h=> ?_)
 ·refine G2 8 [18] [] [] E ?_;cases h;exact Rt [] E E (Ug [[]] 2 (hR none 0 [] Own.nil))
 refine G2 4 [] [18] [] E ?_;refine Cut h (fun f l o_ f_ μ_ l_=> ∃(v1:Bool),v1=o_∧Qh ((30,.bool v1)::Qk [2,3] f) f_∧Qd (QC [some 1,some 0] 2 l) l_∧μ=μ_) ?_ ?_
 ·intro _ h21521 h;refine G1 5 [0] E ?_;refine Br h21521 23 E E (fun hc2 h21521=> ?_) (fun hc2 h21521=> ?_)
  ·refine G2 8 [23] [] [] E ?_;cases h21521;exact Ce E ⟨_,rfl,fE E,sE [some 1,some 0] 2 E,rfl⟩
  refine G2 8 [] [23] [0,1] E ?_;cases h21521;exact Ce E ⟨_,rfl,fE E,sE [some 1,some 0] 2 E,rfl⟩
 rintro _ _ _ _ h _ ⟨v1,rfl,hF21521,hS21521,rfl⟩;refine Atn 2 hF21521 hS21521 E E ?_;refine Br h 30 E E (fun hc3 h=> ?_) (fun hc3 h=> ?_)
 ·refine G2 7 [30] [] [] E ?_;cases h;exact Rt [] E E (Ug [[]] 2 (hR none 0 [] Own.nil))
 refine G2 10 [] [30] [1] E ?_;refine Br h 34 E E (fun hc4 h=> ?_) (fun hc4 h=> ?_)
 ·refine G2 7 [34] [] [] E ?_;cases h;exact Rt [] E E (Ug [[]] 2 (hR none 0 [] Own.nil))
 refine G2 8 [] [34] [0,1] E (Ix h (Qr.rds hA2 L) E E fun x1 _ _ _ hr1 hc5 _ h=> ?_);obtain rfl:=hr1;refine Q3 1 [] [] [64] (Z1 (hc5.push.push)) E (Al E fun g3=>Q1 10 [0,0,0] E (Al E fun g4=>Q1 14 [0,3] E ?_));refine Cut h (fun f l o_ f_ μ_ l_=> ∃(f13:Int) (f14:Int) (f15:Int) (f16:Int) (f17:Int) (f18:Int) (out2:(List QN)) (A7:Option Addr) (c7:Nat) (ch3:Seg),(.inl (f13,f14,f15,f16,f17,f18,out2))=o_∧Qh ((10,.slice A7 out2.length c7)::Qk [2,3,8,9] f) f_∧Qd ([(g1,.cells #[.int .i64 p1.Road.Nodes,.slice A1 p1.Road.Edges.length c1,.slice A2 p1.Vehicles.length c2,.slice A3 p1.Demands.length c3,.int .i64 p1.Unload,.int .i64 p1.UnloadSecs] 28 (0,0))]::[(g2,.cells #[.int .i64 t1.Vehicle,.slice A4 t1.Stops.length c4] 51 (0,0))]::[(g3,.cells #[.string x1.ID,.int .i64 x1.Depot,.int .i64 x1.Shift.From,.int .i64 x1.Shift.To,.int .i64 x1.Grams,.int .i64 x1.Kinds] 61 (0,0))]::[(g4,.cells #[.int .i64 f13,.int .i64 f14,.int .i64 f15,.int .i64 f16,.int .i64 f17,.int .i64 f18] 135 (0,0))]::ch3::QC [] 4 l) l_∧Own J9 135 μ_ (.slice A7 out2.length c7) out2 ch3∧μ=μ_) ?_ ?_
 ·intro _ h21536 h;refine Lp h21536 (fun f l (j_:Int×Int×Int×Int×Int×Int×(List QN)×Int) f_ μ_ l_=>YG j_ fun f1 j_=>YG j_ fun f2 j_=>YG j_ fun f3 j_=>YG j_ fun f4 j_=>YG j_ fun f5 j_=>YG j_ fun f6 j_=>YG j_ fun out1 v2=> ∃(A5:Option Addr) (c5:Nat) (ch1:Seg),Qh ((10,.slice A5 out1.length c5)::(50,.int .i64 v2)::Qk [2,3,8,9,48,49] f) f_∧Qd ([(g1,.cells #[.int .i64 p1.Road.Nodes,.slice A1 p1.Road.Edges.length c1,.slice A2 p1.Vehicles.length c2,.slice A3 p1.Demands.length c3,.int .i64 p1.Unload,.int .i64 p1.UnloadSecs] 28 (0,0))]::[(g2,.cells #[.int .i64 t1.Vehicle,.slice A4 t1.Stops.length c4] 51 (0,0))]::[(g3,.cells #[.string x1.ID,.int .i64 x1.Depot,.int .i64 x1.Shift.From,.int .i64 x1.Shift.To,.int .i64 x1.Grams,.int .i64 x1.Kinds] 61 (0,0))]::[(g4,.cells #[.int .i64 f1,.int .i64 f2,.int .i64 f3,.int .i64 f4,.int .i64 f5,.int .i64 f6] 135 (0,0))]::ch1::QC [] 4 l) l_∧Own J9 135 μ_ (.slice A5 out1.length c5) out1 ch1∧μ=μ_) ⟨none,0,[],fE E,sE [some 2,some 3,some 1,some 0,none] 4 E,(Own.nil),E⟩ ?_;rintro ⟨f1,f2,f3,f4,f5,f6,out1,v2⟩ _ _ _ _ _ ⟨A5,c5,ch1,hF21886,hS21886,hO1,rfl⟩ hb21886 hq21886;unfold Y6 at hb21886;replace hb21886:=Qj hb21886;replace hb21886:=Qj hb21886;replace hb21886:=Qj hb21886;replace hb21886:=Qj hb21886;replace hb21886:=Qj hb21886;replace hb21886:=Qj hb21886;replace hb21886:=Qj hb21886;refine Atn 5 hF21886 hS21886 E E (G0 5 E ?_);refine Br hb21886 51 E E (fun hc6 hb21886=> ?_) (fun hc6 hb21886=> ?_)
  ·refine G2 7 [51] [] [] E (Ix hb21886 (Qr.rds hA4 L) E E fun _ _ _ _ hr2 hc7 _ hb21886=> ?_);obtain rfl:=hr2;refine Q3 11 [] [] [64,0,2,1] (Z1 (hc7.push.push.push.push.push)) E (Cl E ?_);obtain ⟨_,hx4,hb21886⟩:=Qi hb21886;refine Qdf hl1 hA1 hl2 hA2 hl3 hA3 hl4 (Qr.rds hA4 _) hx4 ((Q0 8 E ?_));refine Cut hb21886 (fun f l o_ f_ μ_ l_=> ∃(f7:Int) (f8:Int) (f9:Int) (f10:Int) (f11:Int) (f12:Int) (e1:Int),(f7,f8,f9,f10,f11,f12,e1)=o_∧Qh ((13,.int .i64 e1)::Qk [2,3,8,9,10,11,48,49,50] f) f_∧Qd ([(g1,.cells #[.int .i64 p1.Road.Nodes,.slice A1 p1.Road.Edges.length c1,.slice A2 p1.Vehicles.length c2,.slice A3 p1.Demands.length c3,.int .i64 p1.Unload,.int .i64 p1.UnloadSecs] 28 (0,0))]::[(g2,.cells #[.int .i64 t1.Vehicle,.slice A4 t1.Stops.length c4] 51 (0,0))]::[(g3,.cells #[.string x1.ID,.int .i64 x1.Depot,.int .i64 x1.Shift.From,.int .i64 x1.Shift.To,.int .i64 x1.Grams,.int .i64 x1.Kinds] 61 (0,0))]::[(g4,.cells #[.int .i64 f7,.int .i64 f8,.int .i64 f9,.int .i64 f10,.int .i64 f11,.int .i64 f12] 135 (0,0))]::QC [] 4 l) l_∧μ=μ_) ?_ ?_
   ·intro _ h21901 hb21886;refine Br h21901 62 E E (fun hc8 h21901=> ?_) (fun hc8 h21901=> ?_)
    ·refine G2 6 [62] [] [0,2,3] E (Cl E ?_);obtain ⟨⟨_,_⟩,hx5,h21901⟩:=Qi h21901;replace h21901:=Qj h21901;refine Qdg hl1 hA1 hl2 hA2 hl3 hA3 hx5 ((Q1 6 [3] E ?_));cases h21901;exact Ce E ⟨_,_,_,_,_,_,_,rfl,fE E,sE [some 0,some 1,some 2,some 3,some 4] 5 E,rfl⟩
    refine G2 2 [] [62] [] E ?_;cases h21901;exact Ce E ⟨_,_,_,_,_,_,_,rfl,fE E,sE [some 0,some 1,some 2,some 3,some 4] 5 E,rfl⟩
   rintro _ _ _ _ hb21886 _ ⟨f7,f8,f9,f10,f11,f12,e1,rfl,hF21901,hS21901,rfl⟩;replace hb21886:=Qj hb21886;replace hb21886:=Qj hb21886;replace hb21886:=Qj hb21886;replace hb21886:=Qj hb21886;replace hb21886:=Qj hb21886;replace hb21886:=Qj hb21886;refine Atn 5 hF21901 hS21901 E E (G0 6 E ?_);refine Br hb21886 72 E E (fun hc9 hb21886=> ?_) (fun hc9 hb21886=> ?_)
   ·refine G2 9 [72] [] [] E ?_;cases hb21886;have hq_:=hq21886 _ E;subst hq_;replace h:=Ye h;cases h;exact Rt [] E E (Ug [[]] 5 (hR none 0 [] Own.nil))
   refine G2 5 [] [72] [3] E (So E (Zs (z:=[.int .i64 0,.int .i64 0,.int .i64 0,.int .i64 0,.int .i64 0,.int .i64 0]) E E E E E E E (QR (cells':=[.int .i64 f7,.int .i64 f8,.int .i64 f9,.int .i64 f10,.int .i64 f11,.int .i64 f12]) E E E E (YM (fun g5=>Q0 0 E (So E (Yo E ?_)))))));obtain ⟨_,hz1,hb21886⟩:=Qi hb21886;refine Yu (r:=J9) QU E E E E (by decide) E E 5 E hO1 E (Own.rds (Own.lit (r:=J9) (e:=135) (g:=g5) (xs:=[(QN.mk f7 f8 f9 f10 f11 f12)]) (cs:=[.int .i64 f7,.int .i64 f8,.int .i64 f9,.int .i64 f10,.int .i64 f11,.int .i64 f12]) (css:=[[.int .i64 f7,.int .i64 f8,.int .i64 f9,.int .i64 f10,.int .i64 f11,.int .i64 f12]]) E (All2.cons (E) (All2.nil)) E E) 0 E) hz1 fun A6 c6 ch2 hO2=>Q0 7 E ?_;cases hb21886;exact Ce E ⟨_,rfl,A6,c6,ch2,fE E,sE [some 1,some 2,some 3,some 4,some 5] 6 E,(hO2),rfl⟩
  refine G2 2 [] [51] [] E ?_;cases hb21886;have hq_:=hq21886 _ E;subst hq_;exact Ce E ⟨_,_,_,_,_,_,_,A5,c5,ch1,rfl,fE E,sE [some 0,some 1,some 2,some 3,some 4] 5 E,(hO1),rfl⟩
 rintro _ _ _ _ h _ ⟨f13,f14,f15,f16,f17,f18,out2,A7,c7,ch3,rfl,hF21536,hS21536,hO3,rfl⟩;replace h:=YB h;replace h:=Qj h;replace h:=Qj h;replace h:=Qj h;replace h:=Qj h;replace h:=Qj h;replace h:=Qj h;refine Atn 5 hF21536 hS21536 E E (G1 5 [0,2,3] E (Cl E ?_));obtain ⟨⟨r5,_⟩,hx6,h⟩:=Qi h;replace h:=Qj h;refine QdH hl1 hA1 hl2 hA2 hl3 hA3 hx6 ((Q1 12 [3] E ?_));refine Br h 88 E E (fun hc10 h=> ?_) (fun hc10 h=> ?_)
 ·refine G2 2 [88] [] [] E (Dr _ Qz.refl [(true,0),(true,1),(true,2),(true,3),(true,4),(true,5),(true,6)] (by kernel_rfl) (G1 8 [1] E ?_));cases h;exact Rt [] E E (Ug [[]] 5 (hR none 0 [] Own.nil))
 refine G2 6 [] [88] [3] E (So E (Zs (z:=[.int .i64 0,.int .i64 0,.int .i64 0,.int .i64 0,.int .i64 0,.int .i64 0]) E E E E E E E (QR (cells':=[.int .i64 r5.Stop,.int .i64 r5.Node,.int .i64 r5.Arrive,.int .i64 r5.Start,.int .i64 r5.Leave,.int .i64 r5.Load]) E E E E (YM (fun g6=>Q0 0 E (So E (Yo E ?_)))))));obtain ⟨_,hz2,h⟩:=Qi h;refine Yu (r:=J9) QU E E E E (by decide) E E 5 E hO3 E (Own.rds (Own.lit (r:=J9) (e:=135) (g:=g6) (xs:=[r5]) (cs:=[.int .i64 r5.Stop,.int .i64 r5.Node,.int .i64 r5.Arrive,.int .i64 r5.Start,.int .i64 r5.Leave,.int .i64 r5.Load]) (css:=[[.int .i64 r5.Stop,.int .i64 r5.Node,.int .i64 r5.Arrive,.int .i64 r5.Start,.int .i64 r5.Leave,.int .i64 r5.Load]]) E (All2.cons (E) (All2.nil)) E E) 0 E) hz2 fun A8 c8 ch4 hO4=>Q0 4 E ?_;cases h;exact Rt [] E E (Ug [[5]] 6 (hR A8 c8 ch4 hO4))
theorem QdG  {p1:Qe} {t1:Qa} {A1:Option Addr} {c1:Nat} {A2:Option Addr} {c2:Nat} {A3:Option Addr} {c3:Nat} {A4:Option Addr} {c4:Nat} {res1:Int} {res2:Int}
  (hl1:p1.Road.Edges.length≤c1∧c1≤maxLen) (hA1:Qr QF μ A1 p1.Road.Edges) (hl2:p1.Vehicles.length≤c2∧c2≤maxLen) (hA2:Qr Qy μ A2 p1.Vehicles) (hl3:p1.Demands.length≤c3∧c3≤maxLen) (hA3:Qr QB μ A3 p1.Demands) (hl4:t1.Stops.length≤c4∧c4≤maxLen) (hA4:Qr QS μ A4 t1.Stops) (h:Yp p1 t1=some (res1,res2))
  (hR:R (.tuple #[.int .i64 res1,.int .i64 res2]) μ (L)) :
  Fn Tryz.prog 58 [.agg #[.int .i64 p1.Road.Nodes,.slice A1 p1.Road.Edges.length c1,.slice A2 p1.Vehicles.length c2,.slice A3 p1.Demands.length c3,.int .i64 p1.Unload,.int .i64 p1.UnloadSecs],.agg #[.int .i64 t1.Vehicle,.slice A4 t1.Stops.length c4]] μ (L) R:=by
 unfold Yp at h;refine FnS Tryz.func58 (by kernel_rfl) E Tryz.ntmps58 E E ?_;refine G0 2 E (Al E fun _=>Q0 0 E (Al E fun _=>Q1 7 [1,0] E (Cl E ?_)));obtain ⟨⟨_,_,_⟩,hx1,h⟩:=Qi h;replace h:=Qj h;replace h:=Qj h;refine VE hl1 hA1 hl2 hA2 hl3 hA3 hl4 hA4 hx1 (fun _ _ _ hO1=>Q0 14 E ?_);refine Br h 21 E E (fun hc1 h=> ?_) (fun hc1 h=> ?_)
 ·refine G2 7 [21] [] [] E ?_;cases h;exact Rt [] E E (Ug [] 3 hR)
 refine G2 12 [] [21] [2,1] E (Ix h (Qr.rds hA2 L) E E fun _ _ _ _ hr1 hc2 _ h=> ?_);obtain rfl:=hr1;refine Q3 11 [] [] [65] (Z1 (hc2.push.push.push)) E ?_;refine Cut h (fun f l o_ f_ μ_ l_=> ∃(sum2:Int),sum2=o_∧Qh ((9,.int .i64 sum2)::[]) f_∧Qd (QC [] 3 l) l_∧μ=μ_) ?_ ?_
 ·intro _ h21953 h;refine Lp h21953 (fun f l (j_:Int×Int×Int) f_ μ_ l_=>YG j_ fun sum1 j_=>YG j_ fun f_at1 v1=>Qh ((9,.int .i64 sum1)::(10,.int .i64 f_at1)::(32,.int .i64 v1)::Qk [2,30,31] f) f_∧Qd (QC [some 2,some 0] 3 l) l_∧μ=μ_) ⟨fE E,sE [some 2,some 0] 3 E,E⟩ ?_;rintro ⟨sum1,f_at1,v1⟩ _ _ _ _ _ ⟨hF21961,hS21961,rfl⟩ hb21961 hq21961;unfold ZO at hb21961;replace hb21961:=Qj hb21961;replace hb21961:=Qj hb21961;refine Atn 2 hF21961 hS21961 E E (G0 5 E ?_);refine Br hb21961 33 E E (fun hc3 hb21961=> ?_) (fun hc3 hb21961=> ?_)
  ·refine G2 6 [33] [] [] E (IxA hb21961 (Own.rds hO1 1 E) E E fun _ _ _ _ hr2 hc4 _ hb21961=> ?_);obtain rfl:=hr2;refine Q3 1 [] [] [64] (Z1 hc4) E (Al E fun _=>Q1 9 [0,1,0] E (Cl E ?_));obtain ⟨_,hx4,hb21961⟩:=Qi hb21961;refine VU hl1 hA1 hl2 hA2 hl3 hA3 hx4 ((Q1 14 [0] E ?_));cases hb21961;exact Ce E ⟨_,rfl,fE E,sE [some 1,some 2] 3 E,rfl⟩
  refine G2 2 [] [33] [] E ?_;cases hb21961;have hq_:=hq21961 _ E;subst hq_;exact Ce E ⟨_,rfl,fE E,sE [] 2 E,rfl⟩
 rintro _ _ _ _ h _ ⟨sum2,rfl,hF21953,hS21953,rfl⟩;refine Atn 0 hF21953 hS21953 E E (G0 6 E ?_);cases h;exact Rt [] E E (Ug [] 0 hR)
theorem Qcw {F:Nat} {p1:Qe} {t1:Qa} {d1:Int} {A1:Option Addr} {c1:Nat} {A2:Option Addr} {c2:Nat} {A3:Option Addr} {c3:Nat} {A4:Option Addr} {c4:Nat} {res1:(List Qa)} {res2:Int}
  (hl1:p1.Road.Edges.length≤c1∧c1≤maxLen) (hA1:Qr QF μ A1 p1.Road.Edges) (hl2:p1.Vehicles.length≤c2∧c2≤maxLen) (hA2:Qr Qy μ A2 p1.Vehicles) (hl3:p1.Demands.length≤c3∧c3≤maxLen) (hA3:Qr QB μ A3 p1.Demands) (hl4:t1.Stops.length≤c4∧c4≤maxLen) (hA4:Qr QS μ A4 t1.Stops) (h:Yr F p1 t1 d1=some (res1,res2))
  (hR: ∀(μ':Gh) (A0:Option Addr) (c0:Nat) (ch0:Seg),μ.le μ'→Own Qv 51 μ' (.slice A0 res1.length c0) res1 ch0→R (.tuple #[.slice A0 res1.length c0,.int .i64 res2]) μ' (ch0::L)) :
  Fn Tryz.prog 71 [.agg #[.int .i64 p1.Road.Nodes,.slice A1 p1.Road.Edges.length c1,.slice A2 p1.Vehicles.length c2,.slice A3 p1.Demands.length c3,.int .i64 p1.Unload,.int .i64 p1.UnloadSecs],.agg #[.int .i64 t1.Vehicle,.slice A4 t1.Stops.length c4],.int .i64 d1] μ (L) R:=by
 unfold Yr at h;refine FnS Tryz.func71 (by kernel_rfl) E Tryz.ntmps71 E E ?_;refine G0 2 E (Al E fun g1=>Q0 0 E (Al E fun g2=>Q1 6 [1] E (Cl E ?_)));obtain ⟨_,hx1,h⟩:=Qi h;refine Vu hl1 hA1 hl2 hA2 hl3 hA3 hx1 ((Q0 8 E ?_));refine Br h 22 E E (fun hc1 h=> ?_) (fun hc1 h=> ?_)
 ·refine G2 7 [22] [] [] E ?_;cases h;exact Rt [] E E (Ug [[]] 2 (hR _ none 0 [] (Gh.le.refl _) Own.nil))
 refine G2 4 [] [22] [] E ?_;refine Cut h (fun f l o_ f_ μ_ l_=> ∃(v1:Bool),v1=o_∧Qh ((45,.bool v1)::Qk [2,3,4] f) f_∧Qd (QC [some 1,some 0] 2 l) l_) ?_ ?_
 ·intro _ h22197 h;refine G1 5 [0] E ?_;refine Br h22197 27 E E (fun hc2 h22197=> ?_) (fun hc2 h22197=> ?_)
  ·refine G2 19 [27,35,39] [] [] E ?_;cases h22197;exact Ce E ⟨_,rfl,fE E,sE [some 1,some 0] 2 E⟩
  refine G2 8 [] [27] [0,1] E ?_;refine Br h22197 35 E E (fun hc3 h22197=> ?_) (fun hc3 h22197=> ?_)
  ·refine G2 11 [35,39] [] [] E ?_;cases h22197;exact Ce E ⟨_,rfl,fE E,sE [some 1,some 0] 2 E⟩
  refine G2 4 [] [35] [] E ?_;refine Br h22197 39 E E (fun hc4 h22197=> ?_) (fun hc4 h22197=> ?_)
  ·refine G2 7 [39] [] [] E ?_;cases h22197;exact Ce E ⟨_,rfl,fE E,sE [some 1,some 0] 2 E⟩
  refine G2 7 [] [39] [1] E ?_;cases h22197;exact Ce E ⟨_,rfl,fE E,sE [some 1,some 0] 2 E⟩
 rintro _ _ _ _ h hm22197 ⟨v1,rfl,hF22197,hS22197⟩;replace hA1:=hA1.mono hm22197;replace hA2:=hA2.mono hm22197;replace hA3:=hA3.mono hm22197;replace hA4:=hA4.mono hm22197;refine Atn 2 hF22197 hS22197 E E ?_;refine Br h 45 E E (fun hc5 h=> ?_) (fun hc5 h=> ?_)
 ·refine G2 6 [45] [] [] E ?_;cases h;exact Rt [] E E (Ug [[]] 2 (hR _ none 0 [] hm22197 Own.nil))
 refine G2 7 [] [45] [] E ?_;refine Cut h (fun f l o_ f_ μ_ l_=>(.inl ())=o_∧Qh (Qk [2,3,4] f) f_∧Qd l l_) ?_ ?_
 ·intro _ h22204 h;refine Lp h22204 (fun f l (i1:Int) f_ μ_ l_=>Qh ((9,.int .i64 i1)::Qk [2,3,4] f) f_∧Qd l l_) ⟨fE E,sE [some 0,some 1] 2 E⟩ ?_;rintro i1 _ _ _ _ hm22214 ⟨hF22214,hS22214⟩ hb22214 hq22214;unfold Y1 at hb22214;replace hA1:=hA1.mono hm22214;replace hA2:=hA2.mono hm22214;replace hA3:=hA3.mono hm22214;replace hA4:=hA4.mono hm22214;refine Atn 2 hF22214 hS22214 E E (G1 9 [1] E ?_);refine Br hb22214 50 E E (fun hc6 hb22214=> ?_) (fun hc6 hb22214=> ?_)
  ·refine G2 9 [50] [] [1] E (Ix hb22214 (Qr.rds hA4 L) E E fun _ _ _ _ hr1 hc7 _ hb22214=> ?_);obtain rfl:=hr1;refine Q3 4 [] [] [64] (Z1 (hc7.push.push)) E ?_;refine Br hb22214 59 E E (fun hc8 hb22214=> ?_) (fun hc8 hb22214=> ?_)
   ·refine G2 6 [59] [] [] E ?_;cases hb22214;have hq_:=hq22214 _ E;subst hq_;replace h:=Ye h;cases h;exact Rt [] E E (Ug [[]] 2 (hR _ none 0 [] (hm22197.trans hm22214) Own.nil))
   refine G2 8 [] [59] [] E ?_;cases hb22214;exact Ce E ⟨_,rfl,fE E,sE [some 0,some 1] 2 E⟩
  refine G2 2 [] [50] [] E ?_;cases hb22214;have hq_:=hq22214 _ E;subst hq_;exact Ce E ⟨rfl,fE E,sE [some 0,some 1] 2 E⟩
 rintro _ _ _ _ h hm22204 ⟨rfl,hF22204,hS22204⟩;replace h:=YB h;replace hA1:=hA1.mono hm22204;replace hA2:=hA2.mono hm22204;replace hA3:=hA3.mono hm22204;replace hA4:=hA4.mono hm22204;refine Atn 2 hF22204 hS22204 E E (G0 13 E ?_);refine Cut h (fun f l o_ f_ μ_ l_=> ∃(out3:(List Qa)) (A19:Option Addr) (c17:Nat) (ch13:Seg),out3=o_∧Qh ((10,.slice A19 out3.length c17)::[]) f_∧Qd (ch13::QC [] 2 l) l_∧Own Qv 51 μ_ (.slice A19 out3.length c17) out3 ch13) ?_ ?_
 ·intro _ h22231 h;refine Lp h22231 (fun f l (j_:(List Qa)×(List Int)×Int) f_ μ_ l_=>YG j_ fun out1 j_=>YG j_ fun costs1 i2=> ∃(A5:Option Addr) (c5:Nat) (ch1:Seg) (A6:Option Addr) (c6:Nat) (ch2:Seg),Qh ((10,.slice A5 out1.length c5)::(11,.slice A6 costs1.length c6)::(12,.int .i64 i2)::Qk [2,3,4] f) f_∧Qd ([(g1,.cells #[.int .i64 p1.Road.Nodes,.slice A1 p1.Road.Edges.length c1,.slice A2 p1.Vehicles.length c2,.slice A3 p1.Demands.length c3,.int .i64 p1.Unload,.int .i64 p1.UnloadSecs] 28 (0,0))]::[(g2,.cells #[.int .i64 t1.Vehicle,.slice A4 t1.Stops.length c4] 51 (0,0))]::ch1::ch2::QC [] 2 l) l_∧Own Qv 51 μ_ (.slice A5 out1.length c5) out1 ch1∧Own QS 3 μ_ (.slice A6 costs1.length c6) costs1 ch2) ⟨none,0,[],none,0,[],fE E,sE [some 0,some 1,none,none] 2 E,(Own.nil),(Own.nil)⟩ ?_;rintro ⟨out1,costs1,i2⟩ _ _ _ _ hm22375 ⟨A5,c5,ch1,A6,c6,ch2,hF22375,hS22375,hO1,hO2⟩ hb22375 hq22375;unfold Y3 at hb22375;replace hb22375:=Qj hb22375;replace hb22375:=Qj hb22375;replace hA1:=hA1.mono hm22375;replace hA2:=hA2.mono hm22375;replace hA3:=hA3.mono hm22375;replace hA4:=hA4.mono hm22375;refine Atn 4 hF22375 hS22375 E E (G1 10 [1] E ?_);refine Br hb22375 65 E E (fun hc9 hb22375=> ?_) (fun hc9 hb22375=> ?_)
  ·refine G2 3 [65] [] [] E ?_;refine Cut hb22375 (fun f l o_ f_ μ_ l_=> ∃(out2:(List Qa)) (costs2:(List Int)) (A17:Option Addr) (c15:Nat) (ch11:Seg) (A18:Option Addr) (c16:Nat) (ch12:Seg),(out2,costs2)=o_∧Qh ((10,.slice A17 out2.length c15)::(11,.slice A18 costs2.length c16)::Qk [2,3,4,12] f) f_∧Qd ([(g1,.cells #[.int .i64 p1.Road.Nodes,.slice A1 p1.Road.Edges.length c1,.slice A2 p1.Vehicles.length c2,.slice A3 p1.Demands.length c3,.int .i64 p1.Unload,.int .i64 p1.UnloadSecs] 28 (0,0))]::[(g2,.cells #[.int .i64 t1.Vehicle,.slice A4 t1.Stops.length c4] 51 (0,0))]::ch11::ch12::QC [] 4 l) l_∧Own Qv 51 μ_ (.slice A17 out2.length c15) out2 ch11∧Own QS 3 μ_ (.slice A18 costs2.length c16) costs2 ch12) ?_ ?_
   ·intro _ h22386 hb22375;refine G0 2 E ?_;refine Cut h22386 (fun f l o_ f_ μ_ l_=> ∃(f1:(List Int)) (g4:Nat) (A8:Option Addr) (c8:Nat) (ch4:Seg),f1=o_∧Qh ((13,.pointer (some ⟨g4,0,none⟩))::Qk [2,3,4,10,11,12] f) f_∧Qd ([(g1,.cells #[.int .i64 p1.Road.Nodes,.slice A1 p1.Road.Edges.length c1,.slice A2 p1.Vehicles.length c2,.slice A3 p1.Demands.length c3,.int .i64 p1.Unload,.int .i64 p1.UnloadSecs] 28 (0,0))]::[(g2,.cells #[.int .i64 t1.Vehicle,.slice A4 t1.Stops.length c4] 51 (0,0))]::ch1::ch2::[(g4,.cells #[.int .i64 t1.Vehicle,.slice A8 f1.length c8] 51 (0,0))]::ch4::QC [] 4 l) l_∧Own QS 3 μ_ (.slice A8 f1.length c8) f1 ch4) ?_ ?_
    ·intro _ h22406 h22386;refine Cd (WP.draw (id:=16) Qd2 _ Qz.refl E (AN.run (fuel:=4) (listed':=[true,true,true,true,true,true,true,true,true,true,false,false,false,false]) QU [(true,0),(true,1),(true,2),(true,3),(true,4),(true,5),(true,6),(true,7),(true,8),(true,9)] (by kernel_rfl) (by kernel_rfl) E (Vx E (WJ (o':=0) E E E E E E (Pt E E (JN E E E (Ex.mk _ (Ws.seg 1 0 E E E) (Pt E E (WJ (o':=1) E E E E E E (Pt E E (JN E E E (Ex.mk _ (Ws.seg 1 0 E E E) (Pt E E ?_)))))))))))));refine QA E (Pt E E (QA E (Pt E E (QpC E E ?_))));refine ⟨by decide,?_⟩;refine Pt E E (QA E (Pt E E (QpD E E ?_)));refine ⟨by decide,?_⟩;refine Pt E E (QnE E E (QP E (Js ?_)));refine QmV QU (a:=10) (b:=12) (by kernel_rfl) ?_ ?_
     ·refine FO_ E E (QaC (all:=[.slice A4 t1.Stops.length c4,.int .i64 d1,.int .i64 (w64 (Int.tdiv i2 2)),.bool (decide ((Int.tmod i2 2)=1))]) E E E ?_);obtain ⟨r2,hx3,h22406⟩:=Qi h22406;refine VZ hl4 (Qr.rds hA4 _) hx3 (fun A7 c7 ch3 hO3=> ?_);refine ⟨Qz.more (Qz.refl),?_⟩;refine QP E (AN.run (fuel:=0) (listed':=[true,true,true,true,true,true,true,true,true,true,true,true,true,true]) QU [(true,11),(false,12),(false,13)] (by kernel_rfl) (by kernel_rfl) E (Vx E (QbT E E E E (QR (cells':=[.int .i64 t1.Vehicle,.slice none 0 0]) E E E E (QR (cells':=[.int .i64 t1.Vehicle,.slice A7 r2.length c7]) E E E E (YM (QP E (QaX E (Qad (cs:= #[.int .i64 0,.slice none 0 0]) E E (fun g3=> ?_))))))))));refine ⟨Qz.more (Qz.more (Qz.refl)),?_⟩;refine QP E (QaX E (QY (vs:=[.int .i64 t1.Vehicle,.slice A7 r2.length c7]) E E E E E E (ST_ (L':=([(g3,.cells #[.int .i64 t1.Vehicle,.slice A7 r2.length c7] 51 (0,0))]::ch3::[(g1,.cells #[.int .i64 p1.Road.Nodes,.slice A1 p1.Road.Edges.length c1,.slice A2 p1.Vehicles.length c2,.slice A3 p1.Demands.length c3,.int .i64 p1.Unload,.int .i64 p1.UnloadSecs] 28 (0,0))]::[(g2,.cells #[.int .i64 t1.Vehicle,.slice A4 t1.Stops.length c4] 51 (0,0))]::ch1::ch2::L)) 0 0 E E E E ?_)));refine ⟨Qz.more (Qz.more (Qz.refl)),?_⟩;refine ZF (Js (AN.done0 (by kernel_rfl) ?_));cases h22406;exact Ce E ⟨_,g3,A7,c7,ch3,rfl,fE E,sE [some 2,some 3,some 4,some 5,some 0,some 1] 6 E,(hO3)⟩
     obtain ⟨r2,hx3,h22406⟩:=Qi h22406;refine FO_ E E (Qad (cs:= #[.int .i64 0,.slice none 0 0]) E E (fun g3=> ?_));refine ⟨Qz.more (Qz.refl),?_⟩;refine QP E (AN.run (fuel:=0) (listed':=[true,true,true,true,true,true,true,true,true,true,true,true,true,true]) QU [(false,10),(true,11),(false,13)] (by kernel_rfl) (by kernel_rfl) E (QaX E (QaC (all:=[.slice A4 t1.Stops.length c4,.int .i64 d1,.int .i64 (w64 (Int.tdiv i2 2)),.bool (decide ((Int.tmod i2 2)=1))]) E E E (VZ hl4 (Qr.rds hA4 _) hx3 (fun A7 c7 ch3 hO3=> ?_)))));refine ⟨Qz.more (Qz.more (Qz.refl)),?_⟩;refine Pt E E (QbT E E E E (QR (cells':=[.int .i64 t1.Vehicle,.slice none 0 0]) E E E E (QR (cells':=[.int .i64 t1.Vehicle,.slice A7 r2.length c7]) E E E E (YM (QP E (QaX E (QY (vs:=[.int .i64 t1.Vehicle,.slice A7 r2.length c7]) E E E E E E (ST_ (L':=(ch3::[(g3,.cells #[.int .i64 t1.Vehicle,.slice A7 r2.length c7] 51 (0,0))]::[(g1,.cells #[.int .i64 p1.Road.Nodes,.slice A1 p1.Road.Edges.length c1,.slice A2 p1.Vehicles.length c2,.slice A3 p1.Demands.length c3,.int .i64 p1.Unload,.int .i64 p1.UnloadSecs] 28 (0,0))]::[(g2,.cells #[.int .i64 t1.Vehicle,.slice A4 t1.Stops.length c4] 51 (0,0))]::ch1::ch2::L)) 1 0 E E E E ?_))))))));refine ⟨Qz.more (Qz.more (Qz.refl)),?_⟩;refine ZF (Js (AN.done0 (by kernel_rfl) ?_));cases h22406;exact Ce E ⟨_,g3,A7,c7,ch3,rfl,fE E,sE [some 2,some 3,some 4,some 5,some 1,some 0] 6 E,(hO3)⟩
    rintro _ _ _ _ h22386 hm22406 ⟨f1,g4,A8,c8,ch4,rfl,hF22406,hS22406,hO4⟩;replace hA1:=hA1.mono hm22406;replace hA2:=hA2.mono hm22406;replace hA3:=hA3.mono hm22406;replace hO1:=hO1.mono hm22406;replace hO2:=hO2.mono hm22406;refine Atn 6 hF22406 hS22406 E E (G1 4 [0,4] E (Cl E ?_));have hl5:=Own.lenOk hO4;refine Fn.pre Tryz.func58 (by kernel_rfl) E (Upd.frzOwn 5 E hO4 fun _ hm_1 hA6=>Upd.done ?_);replace hA1:=hA1.mono hm_1;replace hA2:=hA2.mono hm_1;replace hA3:=hA3.mono hm_1;replace hO1:=hO1.mono hm_1;replace hO2:=hO2.mono hm_1;obtain ⟨⟨r3,_⟩,hx4,h22386⟩:=Qi h22386;replace h22386:=Qj h22386;refine QdG hl1 hA1 hl2 hA2 hl3 hA3 hl5 hA6 hx4 ((Q0 12 E ?_));refine Br h22386 87 E E (fun hc10 h22386=> ?_) (fun hc10 h22386=> ?_)
    ·refine G2 2 [87] [] [] E ?_;cases h22386;exact Ce E ⟨_,_,A5,c5,ch1,A6,c6,ch2,rfl,fE E,sE [some 0,some 1,some 2,some 3] 6 E,(hO1),(hO2)⟩
    refine G2 9 [] [87] [] E ?_;refine Cut h22386 (fun f l o_ f_ μ_ l_=> ∃(f_at2:Int),f_at2=o_∧Qh ((16,.int .i64 f_at2)::Qk [2,3,4,10,11,12,13,14] f) f_∧Qd (QC [some 0,some 1,some 2,some 3,some 4] 6 l) l_) ?_ ?_
    ·intro _ h22454 h22386;refine Lp h22454 (fun f l (f_at1:Int) f_ μ_ l_=>Qh ((16,.int .i64 f_at1)::Qk [2,3,4,10,11,12,13,14] f) f_∧Qd (QC [some 0,some 1,some 2,some 3,some 4] 6 l) l_) ⟨fE E,sE [some 0,some 1,some 2,some 3,some 4] 6 E⟩ ?_;rintro f_at1 _ _ _ _ hm22472 ⟨hF22472,hS22472⟩ hb22472 hq22472;unfold Y2 at hb22472;replace hO1:=hO1.mono hm22472;replace hO2:=hO2.mono hm22472;replace hA6:=hA6.mono hm22472;refine Atn 5 hF22472 hS22472 E E (G0 2 E ?_);refine Cut hb22472 (fun f l o_ f_ μ_ l_=> ∃(v3:Bool),v3=o_∧Qh ((100,.bool v3)::Qk [2,3,4,10,11,12,13,14,16] f) f_∧Qd l l_) ?_ ?_
     ·intro _ h22482 hb22472;refine G0 4 E ?_;refine Br h22482 92 E E (fun hc11 h22482=> ?_) (fun hc11 h22482=> ?_)
      ·refine G2 4 [92] [] [] E (IxA h22482 (Own.rds hO2 3 E) E E fun _ _ _ _ hr2 hc12 _ h22482=> ?_);obtain rfl:=hr2;refine Q3 4 [92] [] [64] (Z1 hc12) E ?_;cases h22482;exact Ce E ⟨_,rfl,fE E,sE [some 0,some 1,some 2,some 3,some 4] 5 E⟩
      refine G2 9 [] [92] [] E ?_;cases h22482;exact Ce E ⟨_,rfl,fE E,sE [some 0,some 1,some 2,some 3,some 4] 5 E⟩
     rintro _ _ _ _ hb22472 hm22482 ⟨v3,rfl,hF22482,hS22482⟩;replace hO1:=hO1.mono hm22482;replace hO2:=hO2.mono hm22482;replace hA6:=hA6.mono hm22482;refine Atn 5 hF22482 hS22482 E E ?_;refine Br hb22472 100 E E (fun hc13 hb22472=> ?_) (fun hc13 hb22472=> ?_)
     ·refine G2 9 [100] [] [] E ?_;cases hb22472;exact Ce E ⟨_,rfl,fE E,sE [some 0,some 1,some 2,some 3,some 4] 5 E⟩
     refine G2 2 [] [100] [] E ?_;cases hb22472;have hq_:=hq22472 _ E;subst hq_;exact Ce E ⟨_,rfl,fE E,sE [some 0,some 1,some 2,some 3,some 4] 5 E⟩
    rintro _ _ _ _ h22386 hm22454 ⟨f_at2,rfl,hF22454,hS22454⟩;replace hO1:=hO1.mono hm22454;replace hO2:=hO2.mono hm22454;replace hA6:=hA6.mono hm22454;obtain ⟨_,hs1,h22386⟩:=Qi h22386;refine Atn 5 hF22454 hS22454 E E (G0 9 E (Rdo E E (QbU E E E E E E (Own.lenOk hO1).1 hs1 ?_)));have hA8:=Rds.pre (Own.rds (L:=([(g1,.cells #[.int .i64 p1.Road.Nodes,.slice A1 p1.Road.Edges.length c1,.slice A2 p1.Vehicles.length c2,.slice A3 p1.Demands.length c3,.int .i64 p1.Unload,.int .i64 p1.UnloadSecs] 28 (0,0))]::[(g2,.cells #[.int .i64 t1.Vehicle,.slice A4 t1.Stops.length c4] 51 (0,0))]::ch1::ch2::[(g4,.cells #[.int .i64 t1.Vehicle,.slice A8 f1.length c8] 51 (0,0))]::L)) hO1 2 E) hs1;have hl6:=QdC (Own.lenOk hO1) hs1;refine Q0 0 E (So E (Yo E (Zt.pre (Upd.nilseg (Upd.done ?_)))));obtain ⟨_,hz1,h22386⟩:=Qi h22386;refine Yu (r:=Qv) QU E E E E (by decide) E E 0 E (Own.nil (r:=Qv) (e:=51)) E (Rds.push hA8) hz1 fun _ _ _ hO5=>Q1 6 [5] E (So E (Zs (z:=[.int .i64 0,.slice none 0 0]) E E E E E E E (QR (cells':=[.int .i64 t1.Vehicle,.slice A8 f1.length c8]) E E E E (YM (fun g5=>Q0 0 E (So E (Yo E ?_)))))));obtain ⟨_,hz2,h22386⟩:=Qi h22386;refine Yu (r:=Qv) QU E E E E (by decide) E E 1 E hO5 E (Own.rds (Own.lit (r:=Qv) (e:=51) (g:=g5) (xs:=[(Qa.mk t1.Vehicle f1)]) (cs:=[.int .i64 t1.Vehicle,.slice A8 f1.length c8]) (css:=[[.int .i64 t1.Vehicle,.slice A8 f1.length c8]]) E (All2.cons (⟨A8,c8,E,hl5,hA6⟩) (All2.nil)) E E) 0 E) hz2 fun _ _ ch6 hO6=> ?_;obtain ⟨_,hs2,h22386⟩:=Qi h22386;refine Q0 7 E (Rdo E E (QeJ (r:=Qv) E E E E E E E (Own.lenOk hO1).1 hs2 fun _ hAe1=> ?_));have hA9:=Rds.sub (Own.rds (L:=([(g5,.cells #[.int .i64 t1.Vehicle,.slice A8 f1.length c8] 51 (0,0))]::ch6::[(g1,.cells #[.int .i64 p1.Road.Nodes,.slice A1 p1.Road.Edges.length c1,.slice A2 p1.Vehicles.length c2,.slice A3 p1.Demands.length c3,.int .i64 p1.Unload,.int .i64 p1.UnloadSecs] 28 (0,0))]::[(g2,.cells #[.int .i64 t1.Vehicle,.slice A4 t1.Stops.length c4] 51 (0,0))]::ch1::ch2::[(g4,.cells #[.int .i64 t1.Vehicle,.slice A8 f1.length c8] 51 (0,0))]::L)) hO1 4 E) (Own.lenOk hO1).1 hs2 hAe1;have hl7:=Qgy (Own.lenOk hO1) hs2;refine Q0 0 E (So E (Yo E ?_));obtain ⟨_,hz3,h22386⟩:=Qi h22386;refine Yu (r:=Qv) QU E E E E (by decide) E E 1 E hO6 E hA9 hz3 fun A12 c11 ch7 hO7=> ?_;obtain ⟨_,hs3,h22386⟩:=Qi h22386;refine Q0 11 E (Rdo E E (QbU E E E E E E (Own.lenOk hO2).1 hs3 ?_));have hA10:=Rds.pre (Own.rds (L:=([(g5,.cells #[.int .i64 t1.Vehicle,.slice A8 f1.length c8] 51 (0,0))]::ch7::[(g1,.cells #[.int .i64 p1.Road.Nodes,.slice A1 p1.Road.Edges.length c1,.slice A2 p1.Vehicles.length c2,.slice A3 p1.Demands.length c3,.int .i64 p1.Unload,.int .i64 p1.UnloadSecs] 28 (0,0))]::[(g2,.cells #[.int .i64 t1.Vehicle,.slice A4 t1.Stops.length c4] 51 (0,0))]::ch1::ch2::[(g4,.cells #[.int .i64 t1.Vehicle,.slice A8 f1.length c8] 51 (0,0))]::L)) hO2 5 E) hs3;have hl8:=QdC (Own.lenOk hO2) hs3;refine Q0 0 E (So E (Yo E (Zt.pre (Upd.nilseg (Upd.done ?_)))));obtain ⟨_,hz4,h22386⟩:=Qi h22386;refine Yu (r:=QS) QU E E E E (by decide) E E 0 E (Own.nil (r:=QS) (e:=3)) E (Rds.push hA10) hz4 fun _ _ _ hO8=>Q0 6 E (So E (Zs (z:=[.int .i64 0]) E E E E E E E (QR (cells':=[.int .i64 r3]) E E E E (YM (fun g6=>Q0 0 E (So E (Yo E ?_)))))));obtain ⟨_,hz5,h22386⟩:=Qi h22386;refine Yu (r:=QS) QU E E E E (by decide) E E 1 E hO8 E (Own.rds (Own.lit (r:=QS) (e:=3) (g:=g6) (xs:=[r3]) (cs:=[.int .i64 r3]) (css:=[[.int .i64 r3]]) E (All2.cons (E) (All2.nil)) E E) 0 E) hz5 fun _ _ ch9 hO9=> ?_;obtain ⟨_,hs4,h22386⟩:=Qi h22386;refine Q0 6 E (Rdo E E (QeJ (r:=QS) E E E E E E E (Own.lenOk hO2).1 hs4 fun _ hAe2=> ?_))
    have hA11:=Rds.sub (Own.rds (L:=([(g6,.cells #[.int .i64 r3] 3 (0,0))]::ch9::[(g5,.cells #[.int .i64 t1.Vehicle,.slice A8 f1.length c8] 51 (0,0))]::ch7::[(g1,.cells #[.int .i64 p1.Road.Nodes,.slice A1 p1.Road.Edges.length c1,.slice A2 p1.Vehicles.length c2,.slice A3 p1.Demands.length c3,.int .i64 p1.Unload,.int .i64 p1.UnloadSecs] 28 (0,0))]::[(g2,.cells #[.int .i64 t1.Vehicle,.slice A4 t1.Stops.length c4] 51 (0,0))]::ch1::ch2::[(g4,.cells #[.int .i64 t1.Vehicle,.slice A8 f1.length c8] 51 (0,0))]::L)) hO2 7 E) (Own.lenOk hO2).1 hs4 hAe2;have hl9:=Qgy (Own.lenOk hO2) hs4;refine Q0 0 E (So E (Yo E ?_));obtain ⟨_,hz6,h22386⟩:=Qi h22386;refine Yu (r:=QS) QU E E E E (by decide) E E 1 E hO9 E hA11 hz6 fun A16 c14 ch10 hO10=>Q0 3 E ?_;cases h22386;exact Ce E ⟨_,_,A12,c11,ch7,A16,c14,ch10,rfl,fE E,sE [some 4,some 5,some 3,some 1] 9 E,(hO7),(hO10)⟩
   rintro _ _ _ _ hb22375 hm22386 ⟨out2,costs2,A17,c15,ch11,A18,c16,ch12,rfl,hF22386,hS22386,hO11,hO12⟩;replace hb22375:=Qj hb22375;replace hO1:=hO1.mono hm22386;refine Atn 4 hF22386 hS22386 E E (G0 5 E ?_);cases hb22375;exact Ce E ⟨_,rfl,A17,c15,ch11,A18,c16,ch12,fE E,sE [some 0,some 1,some 2,some 3] 4 E,(hO11),(hO12)⟩
  refine G2 2 [] [65] [] E ?_;cases hb22375;have hq_:=hq22375 _ E;subst hq_;exact Ce E ⟨_,A5,c5,ch1,rfl,fE E,sE [some 2] 4 E,(hO1)⟩
 rintro _ _ _ _ h hm22231 ⟨out3,A19,c17,ch13,rfl,hF22231,hS22231,hO13⟩;refine Atn 1 hF22231 hS22231 E E (G0 6 E ?_);cases h;exact Rt [] E E (Ug [[0]] 1 (hR _ A19 c17 ch13 (hm22197.trans (hm22204.trans hm22231)) hO13))
theorem QcQ  {p1:Qe} {x1:Qf} {A1:Option Addr} {c1:Nat} {A2:Option Addr} {c2:Nat} {A3:Option Addr} {c3:Nat} {A4:Option Addr} {c4:Nat} {A5:Option Addr} {c5:Nat} {res1:(List Int)} {res2:Int}
  (hl1:p1.Road.Edges.length≤c1∧c1≤maxLen) (hA1:Qr QF μ A1 p1.Road.Edges) (hl2:p1.Vehicles.length≤c2∧c2≤maxLen) (hA2:Qr Qy μ A2 p1.Vehicles) (hl3:p1.Demands.length≤c3∧c3≤maxLen) (hA3:Qr QB μ A3 p1.Demands) (hl4:x1.Tours.length≤c4∧c4≤maxLen) (hA4:Qr Qv μ A4 x1.Tours) (hl5:x1.Left.length≤c5∧c5≤maxLen) (hA5:Qr QS μ A5 x1.Left) (h:W3 p1 x1=some (res1,res2))
  (hR: ∀(A0:Option Addr) (c0:Nat) (ch0:Seg),Own QS 3 μ (.slice A0 res1.length c0) res1 ch0→R (.tuple #[.slice A0 res1.length c0,.int .i64 res2]) μ (ch0::L)) :
  Fn Tryz.prog 65 [.agg #[.int .i64 p1.Road.Nodes,.slice A1 p1.Road.Edges.length c1,.slice A2 p1.Vehicles.length c2,.slice A3 p1.Demands.length c3,.int .i64 p1.Unload,.int .i64 p1.UnloadSecs],.agg #[.slice A4 x1.Tours.length c4,.slice A5 x1.Left.length c5]] μ (L) R:=by
 unfold W3 at h;refine FnS Tryz.func65 (by kernel_rfl) E Tryz.ntmps65 E E ?_;refine G0 2 E (Al E fun _=>Q0 0 E (Al E fun g2=>Q1 8 [1] E (So E (Qho E E ?_))));obtain ⟨_,hn1,h⟩:=Qi h;refine Qf3 (r:=QS) (z:=0) (zc:=[.int .i64 0]) QU E E E E E (E) E hn1 fun A6 c6 ch1 hO1=>Q1 10 [1] E ?_;refine Cut h (fun f l o_ f_ μ_ l_=> ∃(out6:(List Int)) (A13:Option Addr) (c13:Nat) (ch8:Seg),out6=o_∧Qh ((6,.slice A13 out6.length c13)::Qk [3] f) f_∧Qd ([(g2,.cells #[.slice A4 x1.Tours.length c4,.slice A5 x1.Left.length c5] 33 (0,0))]::ch8::QC [] 3 l) l_∧Own QS 3 μ_ (.slice A13 out6.length c13) out6 ch8∧μ=μ_) ?_ ?_
 ·intro _ h24028 h;refine Lp h24028 (fun f l (j_:(List Int)×Int) f_ μ_ l_=>YG j_ fun out1 v1=> ∃(A7:Option Addr) (c7:Nat) (ch2:Seg),Qh ((6,.slice A7 out1.length c7)::(20,.int .i64 v1)::Qk [3,18,19] f) f_∧Qd ([(g2,.cells #[.slice A4 x1.Tours.length c4,.slice A5 x1.Left.length c5] 33 (0,0))]::ch2::QC [] 3 l) l_∧Own QS 3 μ_ (.slice A7 out1.length c7) out1 ch2∧μ=μ_) ⟨A6,c6,ch1,fE E,sE [some 1,some 0] 3 E,(hO1),E⟩ ?_;rintro ⟨out1,v1⟩ _ _ _ _ _ ⟨A7,c7,ch2,hF24069,hS24069,hO2,rfl⟩ hb24069 hq24069;unfold Zi at hb24069;replace hb24069:=Qj hb24069;refine Atn 2 hF24069 hS24069 E E (G0 5 E ?_);refine Br hb24069 21 E E (fun hc1 hb24069=> ?_) (fun hc1 hb24069=> ?_)
  ·refine G2 3 [21] [] [] E ?_;refine Cut hb24069 (fun f l o_ f_ μ_ l_=> ∃(out5:(List Int)) (A12:Option Addr) (c12:Nat) (ch7:Seg),out5=o_∧Qh ((6,.slice A12 out5.length c12)::Qk [3,18,19,20] f) f_∧Qd ([(g2,.cells #[.slice A4 x1.Tours.length c4,.slice A5 x1.Left.length c5] 33 (0,0))]::ch7::QC [] 2 l) l_∧Own QS 3 μ_ (.slice A12 out5.length c12) out5 ch7∧μ=μ_) ?_ ?_
   ·intro _ h24075 hb24069;refine G0 3 E (Ix h24075 (Qr.rds hA4 L) E E fun _ _ _ _ hr1 hc2 _ h24075=> ?_);obtain ⟨_,_,rfl,_,hA7⟩:=hr1;refine Q3 1 [] [] [64] (Z1 (hc2.push.push)) E (Al E fun _=>Q1 9 [0,0] E ?_);refine Cut h24075 (fun f l o_ f_ μ_ l_=> ∃(out4:(List Int)) (A11:Option Addr) (c11:Nat) (ch6:Seg),out4=o_∧Qh ((6,.slice A11 out4.length c11)::Qk [3,18,19,20] f) f_∧Qd ([(g2,.cells #[.slice A4 x1.Tours.length c4,.slice A5 x1.Left.length c5] 33 (0,0))]::ch6::QC [] 3 l) l_∧Own QS 3 μ_ (.slice A11 out4.length c11) out4 ch6∧μ=μ_) ?_ ?_
    ·intro _ h24080 h24075;refine Lp h24080 (fun f l (j_:(List Int)×Int) f_ μ_ l_=>YG j_ fun out2 v2=> ∃(A9:Option Addr) (c9:Nat) (ch3:Seg),Qh ((6,.slice A9 out2.length c9)::(27,.int .i64 v2)::Qk [3,18,19,20,25,26] f) f_∧Qd ([(g2,.cells #[.slice A4 x1.Tours.length c4,.slice A5 x1.Left.length c5] 33 (0,0))]::ch3::QC [] 3 l) l_∧Own QS 3 μ_ (.slice A9 out2.length c9) out2 ch3∧μ=μ_) ⟨A7,c7,ch2,fE E,sE [some 1,some 2] 3 E,(hO2),E⟩ ?_;rintro ⟨out2,v2⟩ _ _ _ _ _ ⟨A9,c9,ch3,hF24092,hS24092,hO3,rfl⟩ hb24092 hq24092;unfold Zh at hb24092;replace hb24092:=Qj hb24092;refine Atn 2 hF24092 hS24092 E E (G0 5 E ?_);refine Br hb24092 28 E E (fun hc3 hb24092=> ?_) (fun hc3 hb24092=> ?_)
     ·refine G2 3 [28] [] [] E ?_;refine Cut hb24092 (fun f l o_ f_ μ_ l_=> ∃(out3:(List Int)) (A10:Option Addr) (c10:Nat) (ch5:Seg),out3=o_∧Qh ((6,.slice A10 out3.length c10)::Qk [3,18,19,20,25,26,27] f) f_∧Qd ([(g2,.cells #[.slice A4 x1.Tours.length c4,.slice A5 x1.Left.length c5] 33 (0,0))]::ch5::QC [] 2 l) l_∧Own QS 3 μ_ (.slice A10 out3.length c10) out3 ch5∧μ=μ_) ?_ ?_
      ·intro _ h24098 hb24092;refine G0 3 E (Ix h24098 (Qr.rds hA7 L) E E fun x3 _ _ _ hr2 hc4 _ h24098=> ?_);obtain rfl:=hr2;refine Q3 8 [] [] [64] (Z1 (hc4.push.push)) E ?_;refine Br h24098 32 E E (fun hc5 h24098=> ?_) (fun hc5 h24098=> ?_)
       ·refine G2 4 [32] [] [] E (IxA h24098 (Own.rds hO3 1 E) E E fun x4 _ _ _ hr3 hc6 _ h24098=> ?_);obtain rfl:=hr3;refine Q3 2 [] [] [64] (Z1 hc6) E (IxA h24098 (Own.rds hO3 1 E) E E fun _ a4 _ hx4 hr4 _ hA10 h24098=> ?_);obtain rfl:=hr4;refine Q0 0 E (So E (QY (vs:=[.int .i64 (w64 (x4+1))]) E E E E E E ?_))
        rw[←Addr.add_zero' ((a4.add (x3.toNat*1)))]
        refine Own.store (μ:=μ) (r:=QS) (x':=w64 (x4+1)) (o:=0) (sz:=1) 1 rfl hO3 hA10 hx4 rfl rfl (by rintro _ rfl;rfl) fun ch4 hO4=> ?_
        rw[←QX out2 x3 (w64 (x4+1))] at hO4 ⊢
        refine Q0 2 E ?_;cases h24098;exact Ce E ⟨_,A9,c9,ch4,rfl,fE E,sE [some 0,some 1] 2 E,(hO4),rfl⟩
       refine G2 3 [] [32] [] E ?_;cases h24098;exact Ce E ⟨_,A9,c9,ch3,rfl,fE E,sE [some 0,some 1] 2 E,(hO3),rfl⟩
      rintro _ _ _ _ hb24092 _ ⟨out3,A10,c10,ch5,rfl,hF24098,hS24098,hO5,rfl⟩;refine Atn 2 hF24098 hS24098 E E (G0 4 E ?_);cases hb24092;exact Ce E ⟨_,rfl,A10,c10,ch5,fE E,sE [some 0,some 1] 2 E,(hO5),rfl⟩
     refine G2 2 [] [28] [] E ?_;cases hb24092;have hq_:=hq24092 _ E;subst hq_;exact Ce E ⟨_,A9,c9,ch3,rfl,fE E,sE [some 0,some 1] 2 E,(hO3),rfl⟩
    rintro _ _ _ _ h24075 _ ⟨out4,A11,c11,ch6,rfl,hF24080,hS24080,hO6,rfl⟩;refine G0 1 E ?_;cases h24075;exact Ce E ⟨_,A11,c11,ch6,rfl,hF24080.tr E,hS24080.tr (sE [some 0,some 1] 2 E),(hO6),rfl⟩
   rintro _ _ _ _ hb24069 _ ⟨out5,A12,c12,ch7,rfl,hF24075,hS24075,hO7,rfl⟩;refine Atn 2 hF24075 hS24075 E E (G0 4 E ?_);cases hb24069;exact Ce E ⟨_,rfl,A12,c12,ch7,fE E,sE [some 0,some 1] 2 E,(hO7),rfl⟩
  refine G2 2 [] [21] [] E ?_;cases hb24069;have hq_:=hq24069 _ E;subst hq_;exact Ce E ⟨_,A7,c7,ch2,rfl,fE E,sE [some 0,some 1] 2 E,(hO2),rfl⟩
 rintro _ _ _ _ h _ ⟨out6,A13,c13,ch8,rfl,hF24028,hS24028,hO8,rfl⟩;refine Atn 2 hF24028 hS24028 E E (G1 8 [0] E ?_);refine Cut h (fun f l o_ f_ μ_ l_=> ∃(out8:(List Int)) (A15:Option Addr) (c15:Nat) (ch11:Seg),(.inl out8)=o_∧Qh ((6,.slice A15 out8.length c15)::[]) f_∧Qd (ch11::QC [] 2 l) l_∧Own QS 3 μ_ (.slice A15 out8.length c15) out8 ch11∧μ=μ_) ?_ ?_
 ·intro _ h24113 h;refine Lp h24113 (fun f l (j_:(List Int)×Int) f_ μ_ l_=>YG j_ fun out7 v3=> ∃(A14:Option Addr) (c14:Nat) (ch9:Seg),Qh ((6,.slice A14 out7.length c14)::(44,.int .i64 v3)::Qk [42,43] f) f_∧Qd (ch9::QC [] 2 l) l_∧Own QS 3 μ_ (.slice A14 out7.length c14) out7 ch9∧μ=μ_) ⟨A13,c13,ch8,fE E,sE [some 1] 2 E,(hO8),E⟩ ?_;rintro ⟨out7,v3⟩ _ _ _ _ _ ⟨A14,c14,ch9,hF24120,hS24120,hO9,rfl⟩ hb24120 hq24120;unfold Zj at hb24120;replace hb24120:=Qj hb24120;refine Atn 1 hF24120 hS24120 E E (G0 5 E ?_);refine Br hb24120 45 E E (fun hc8 hb24120=> ?_) (fun hc8 hb24120=> ?_)
  ·refine G2 6 [45] [] [] E (Ix hb24120 (Qr.rds hA5 L) E E fun x6 _ _ _ hr5 hc9 _ hb24120=> ?_);obtain rfl:=hr5;refine Q3 5 [] [] [64] (Z1 (hc9.push)) E ?_;refine Cut hb24120 (fun f l o_ f_ μ_ l_=> ∃(v4:Bool),v4=o_∧Qh ((55,.bool v4)::Qk [6,12,42,43,44] f) f_∧Qd l l_∧μ=μ_) ?_ ?_
   ·intro _ h24123 hb24120;refine G0 4 E ?_;refine Br h24123 50 E E (fun hc10 h24123=> ?_) (fun hc10 h24123=> ?_)
    ·refine G2 6 [50] [] [] E ?_;cases h24123;exact Ce E ⟨_,rfl,fE E,sE [some 0] 1 E,rfl⟩
    refine G2 6 [] [50] [] E ?_;cases h24123;exact Ce E ⟨_,rfl,fE E,sE [some 0] 1 E,rfl⟩
   rintro _ _ _ _ hb24120 _ ⟨v4,rfl,hF24123,hS24123,rfl⟩;refine Atn 1 hF24123 hS24123 E E ?_;refine Br hb24120 55 E E (fun hc11 hb24120=> ?_) (fun hc11 hb24120=> ?_)
   ·refine G2 6 [55] [] [] E ?_;cases hb24120;have hq_:=hq24120 _ E;subst hq_;replace h:=Ye h;cases h;exact Rt [] E E (Ug [[]] 1 (hR none 0 [] Own.nil))
   refine G2 5 [] [55] [] E (IxA hb24120 (Own.rds hO9 0 E) E E fun x7 _ _ _ hr6 hc12 _ hb24120=> ?_);obtain rfl:=hr6;refine Q3 2 [] [] [64] (Z1 hc12) E (IxA hb24120 (Own.rds hO9 0 E) E E fun _ a7 _ hx7 hr7 _ hA13 hb24120=> ?_);obtain rfl:=hr7;refine Q0 0 E (So E (QY (vs:=[.int .i64 (w64 (x7+1))]) E E E E E E ?_))
   rw[←Addr.add_zero' ((a7.add (x6.toNat*1)))]
   refine Own.store (μ:=μ) (r:=QS) (x':=w64 (x7+1)) (o:=0) (sz:=1) 0 rfl hO9 hA13 hx7 rfl rfl (by rintro _ rfl;rfl) fun ch10 hO10=> ?_
   rw[←QX out7 x6 (w64 (x7+1))] at hO10 ⊢
   refine Q0 6 E ?_;cases hb24120;exact Ce E ⟨_,rfl,A14,c14,ch10,fE E,sE [some 0] 1 E,(hO10),rfl⟩
  refine G2 2 [] [45] [] E ?_;cases hb24120;have hq_:=hq24120 _ E;subst hq_;exact Ce E ⟨_,A14,c14,ch9,rfl,fE E,sE [some 0] 1 E,(hO9),rfl⟩
 rintro _ _ _ _ h _ ⟨out8,A15,c15,ch11,rfl,hF24113,hS24113,hO11,rfl⟩;replace h:=YB h;refine Atn 1 hF24113 hS24113 E E (G0 6 E ?_);cases h;exact Rt [] E E (Ug [[0]] 1 (hR A15 c15 ch11 hO11))
theorem Qcl  {p1:Qe} {x1:Qf} {A1:Option Addr} {c1:Nat} {A2:Option Addr} {c2:Nat} {A3:Option Addr} {c3:Nat} {A4:Option Addr} {c4:Nat} {A5:Option Addr} {c5:Nat} {res1:Int}
  (hl1:p1.Road.Edges.length≤c1∧c1≤maxLen) (hA1:Qr QF μ A1 p1.Road.Edges) (hl2:p1.Vehicles.length≤c2∧c2≤maxLen) (hA2:Qr Qy μ A2 p1.Vehicles) (hl3:p1.Demands.length≤c3∧c3≤maxLen) (hA3:Qr QB μ A3 p1.Demands) (hl4:x1.Tours.length≤c4∧c4≤maxLen) (hA4:Qr Qv μ A4 x1.Tours) (hl5:x1.Left.length≤c5∧c5≤maxLen) (hA5:Qr QS μ A5 x1.Left) (h:QO p1 x1=some res1)
  (hR:R (.int .i64 res1) μ (L)) :
  Fn Tryz.prog 42 [.agg #[.int .i64 p1.Road.Nodes,.slice A1 p1.Road.Edges.length c1,.slice A2 p1.Vehicles.length c2,.slice A3 p1.Demands.length c3,.int .i64 p1.Unload,.int .i64 p1.UnloadSecs],.agg #[.slice A4 x1.Tours.length c4,.slice A5 x1.Left.length c5]] μ (L) R:=by
 unfold QO at h;refine FnS Tryz.func42 (by kernel_rfl) E Tryz.ntmps42 E E ?_;refine G0 2 E (Al E fun _=>Q0 0 E (Al E fun _=>Q1 6 [1] E (Cl E ?_)));obtain ⟨_,hx1,h⟩:=Qi h;refine Vu hl1 hA1 hl2 hA2 hl3 hA3 hx1 ((Q0 7 E ?_));refine Br h 20 E E (fun hc1 h=> ?_) (fun hc1 h=> ?_)
 ·refine G2 6 [20] [] [] E ?_;cases h;exact Rt [] E E (Ug [] 2 hR)
 refine G2 10 [] [20] [0] E ?_;refine Cut h (fun f l o_ f_ μ_ l_=>(.inl ())=o_∧Qh (Qk [2,3] f) f_∧Qd (QC [some 1,some 0] 2 l) l_∧μ=μ_) ?_ ?_
 ·intro _ h23901 h;refine Lp h23901 (fun f l (v1:Int) f_ μ_ l_=>Qh ((25,.int .i64 v1)::Qk [2,3,23,24] f) f_∧Qd (QC [some 1,some 0] 2 l) l_∧μ=μ_) ⟨fE E,sE [some 1,some 0] 2 E,E⟩ ?_;rintro v1 _ _ _ _ _ ⟨hF23958,hS23958,rfl⟩ hb23958 hq23958;unfold YR at hb23958;refine Atn 2 hF23958 hS23958 E E (G0 5 E ?_);refine Br hb23958 26 E E (fun hc2 hb23958=> ?_) (fun hc2 hb23958=> ?_)
  ·refine G2 3 [26] [] [] E ?_;refine Cut hb23958 (fun f l o_ f_ μ_ l_=>(.inl ())=o_∧Qh (Qk [2,3,23,24,25] f) f_∧Qd l l_∧μ=μ_) ?_ ?_
   ·intro _ h23965 hb23958;refine G0 4 E (Ix h23965 (Qr.rds hA4 L) E E fun _ _ _ _ hr1 hc3 _ h23965=> ?_);obtain ⟨_,_,rfl,hl6,hA7⟩:=hr1;refine Q3 1 [] [] [64] (Z1 (hc3.push.push)) E (Al E fun _=>Q1 8 [0] E ?_);refine Cut h23965 (fun f l o_ f_ μ_ l_=>(.inl ())=o_∧Qh (Qk [2,3,7,23,24,25] f) f_∧Qd (QC [some 1,some 2,some 0] 3 l) l_∧μ=μ_) ?_ ?_
    ·intro _ h23970 h23965;refine Lp h23970 (fun f l (k1:Int) f_ μ_ l_=>Qh ((8,.int .i64 k1)::Qk [2,3,6,7,23,24,25] f) f_∧Qd (QC [some 1,some 2,some 0] 3 l) l_∧μ=μ_) ⟨fE E,sE [some 1,some 2,some 0] 3 E,E⟩ ?_;rintro k1 _ _ _ _ _ ⟨hF23987,hS23987,rfl⟩ hb23987 hq23987;unfold ZH at hb23987;refine Atn 3 hF23987 hS23987 E E (G0 7 E ?_);refine Br hb23987 32 E E (fun hc4 hb23987=> ?_) (fun hc4 hb23987=> ?_)
     ·refine G2 5 [32] [] [] E (Dr _ Qz.refl [(true,0),(true,1),(true,2),(true,3),(true,4),(true,5),(true,6),(true,7),(true,8)] (by kernel_rfl) (G1 3 [1] E (Ix hb23987 (Qr.rds hA4 L) E E fun _ _ _ _ hr2 hc5 _ hb23987=> ?_)));obtain ⟨_,_,rfl,_,_⟩:=hr2;refine Q3 6 [] [] [64,2] (Z1 (hc5.push.push.push)) E ?_;refine Br hb23987 43 E E (fun hc6 hb23987=> ?_) (fun hc6 hb23987=> ?_)
      ·refine G2 5 [43] [] [] E ?_;cases hb23987;have hq_:=hq23987 _ E;subst hq_;replace h23965:=Ye h23965;cases h23965;replace hb23958:=Ye hb23958;cases hb23958;have hq_:=hq23958 _ E;subst hq_;replace h:=Ye h;cases h;exact Rt [] E E (Ug [] 3 hR)
      refine G2 8 [] [43] [] E ?_;cases hb23987;exact Ce E ⟨_,rfl,fE E,sE [some 0,some 1,some 2] 3 E,rfl⟩
     refine G2 2 [] [32] [] E ?_;cases hb23987;have hq_:=hq23987 _ E;subst hq_;exact Ce E ⟨rfl,fE E,sE [some 0,some 1,some 2] 3 E,rfl⟩
    rintro _ _ _ _ h23965 _ ⟨rfl,hF23970,hS23970,rfl⟩;replace h23965:=YB h23965;refine Atn 3 hF23970 hS23970 E E (G1 4 [0,2] E (Cl E ?_));obtain ⟨⟨_,_,_⟩,hx4,h23965⟩:=Qi h23965;replace h23965:=Qj h23965;replace h23965:=Qj h23965;refine VE hl1 hA1 hl2 hA2 hl3 hA3 hl6 hA7 hx4 (fun _ _ _ _=>Q0 13 E ?_);refine Br h23965 52 E E (fun hc7 h23965=> ?_) (fun hc7 h23965=> ?_)
    ·refine G2 6 [52] [] [] E ?_;cases h23965;replace hb23958:=Ye hb23958;cases hb23958;have hq_:=hq23958 _ E;subst hq_;replace h:=Ye h;cases h;exact Rt [] E E (Ug [] 4 hR)
    refine G2 3 [] [52] [] E ?_;cases h23965;exact Ce E ⟨rfl,fE E,sE [some 1,some 2] 4 E,rfl⟩
   rintro _ _ _ _ hb23958 _ ⟨rfl,hF23965,hS23965,rfl⟩;replace hb23958:=YB hb23958;refine Atn 2 hF23965 hS23965 E E (G0 4 E ?_);cases hb23958;exact Ce E ⟨_,rfl,fE E,sE [some 0,some 1] 2 E,rfl⟩
  refine G2 2 [] [26] [] E ?_;cases hb23958;have hq_:=hq23958 _ E;subst hq_;exact Ce E ⟨rfl,fE E,sE [some 0,some 1] 2 E,rfl⟩
 rintro _ _ _ _ h _ ⟨rfl,hF23901,hS23901,rfl⟩;replace h:=YB h;refine Atn 2 hF23901 hS23901 E E (G1 4 [0,1] E (Cl E ?_));obtain ⟨⟨_,_⟩,hx5,h⟩:=Qi h;replace h:=Qj h;refine QcQ hl1 hA1 hl2 hA2 hl3 hA3 hl4 hA4 hl5 hA5 hx5 (fun _ _ _ hO2=>Q0 12 E ?_);refine Br h 62 E E (fun hc8 h=> ?_) (fun hc8 h=> ?_)
 ·refine G2 6 [62] [] [] E ?_;cases h;exact Rt [] E E (Ug [] 3 hR)
 refine G2 13 [] [62] [] E ?_;refine Cut h (fun f l o_ f_ μ_ l_=> ∃(missing3:Bool),(.inl missing3)=o_∧Qh ((14,.bool missing3)::[]) f_∧Qd (QC [] 3 l) l_∧μ=μ_) ?_ ?_
 ·intro _ h24129 h;refine Lp h24129 (fun f l (j_:Bool×Int) f_ μ_ l_=>YG j_ fun missing1 v2=>Qh ((14,.bool missing1)::(66,.int .i64 v2)::Qk [64,65] f) f_∧Qd (QC [some 0] 3 l) l_∧μ=μ_) ⟨fE E,sE [some 0] 3 E,E⟩ ?_;rintro ⟨missing1,v2⟩ _ _ _ _ _ ⟨hF24134,hS24134,rfl⟩ hb24134 hq24134;unfold YS at hb24134;replace hb24134:=Qj hb24134;refine Atn 1 hF24134 hS24134 E E (G0 5 E ?_);refine Br hb24134 67 E E (fun hc9 hb24134=> ?_) (fun hc9 hb24134=> ?_)
  ·refine G2 3 [67] [] [] E ?_;refine Cut hb24134 (fun f l o_ f_ μ_ l_=> ∃(missing2:Bool),(.inl missing2)=o_∧Qh ((14,.bool missing2)::Qk [64,65,66] f) f_∧Qd l l_∧μ=μ_) ?_ ?_
   ·intro _ h24137 hb24134;refine G0 3 E (IxA h24137 (Own.rds hO2 0 E) E E fun _ _ _ _ hr3 hc10 _ h24137=> ?_);obtain rfl:=hr3;refine Q3 9 [] [] [64] (Z1 hc10) E ?_;refine Br h24137 71 E E (fun hc11 h24137=> ?_) (fun hc11 h24137=> ?_)
    ·refine G2 5 [71] [] [] E ?_;cases h24137;replace hb24134:=Ye hb24134;cases hb24134;have hq_:=hq24134 _ E;subst hq_;replace h:=Ye h;cases h;exact Rt [] E E (Ug [] 1 hR)
    refine G2 5 [] [71] [] E ?_;refine Br h24137 73 E E (fun hc12 h24137=> ?_) (fun hc12 h24137=> ?_)
    ·refine G2 6 [73] [] [] E ?_;cases h24137;exact Ce E ⟨_,rfl,fE E,sE [some 0] 1 E,rfl⟩
    refine G2 6 [] [73] [] E ?_;cases h24137;exact Ce E ⟨_,rfl,fE E,sE [some 0] 1 E,rfl⟩
   rintro _ _ _ _ hb24134 _ ⟨missing2,rfl,hF24137,hS24137,rfl⟩;replace hb24134:=YB hb24134;refine Atn 1 hF24137 hS24137 E E (G0 4 E ?_);cases hb24134;exact Ce E ⟨_,rfl,fE E,sE [some 0] 1 E,rfl⟩
  refine G2 2 [] [67] [] E ?_;cases hb24134;have hq_:=hq24134 _ E;subst hq_;exact Ce E ⟨_,rfl,fE E,sE [] 1 E,rfl⟩
 rintro _ _ _ _ h _ ⟨missing3,rfl,hF24129,hS24129,rfl⟩;replace h:=YB h;refine Atn 0 hF24129 hS24129 E E (G0 5 E ?_);refine Br h 78 E E (fun hc13 h=> ?_) (fun hc13 h=> ?_)
 ·refine G2 5 [78] [] [] E ?_;cases h;exact Rt [] E E (Ug [] 0 hR)
 refine G2 6 [] [78] [] E ?_;cases h;exact Rt [] E E (Ug [] 0 hR)
theorem QdZ  {l1:(List Int)} {n1:Int} {A1:Option Addr} {c1:Nat} {res1:Bool}
  (hl1:l1.length≤c1∧c1≤maxLen) (hA1:Rds QS μ L A1 l1) (h:J2 l1 n1=some res1)
  (hR:R (.bool res1) μ (L)) :
  Fn Tryz.prog 47 [.slice A1 l1.length c1,.int .i64 n1] μ (L) R:=by
 unfold J2 at h;refine FnS Tryz.func47 (by kernel_rfl) E Tryz.ntmps47 E E ?_;refine G0 11 E ?_;refine Cut h (fun f l o_ f_ μ_ l_=>(.inl ())=o_∧Qh ([]) f_∧Qd l l_∧μ=μ_) ?_ ?_
 ·intro _ h24441 h;refine Lp h24441 (fun f l (v1:Int) f_ μ_ l_=>Qh ((9,.int .i64 v1)::Qk [1,7,8] f) f_∧Qd l l_∧μ=μ_) ⟨fE E,sE [] 0 E,E⟩ ?_;rintro v1 _ _ _ _ _ ⟨hF24443,hS24443,rfl⟩ hb24443 hq24443;unfold W4 at hb24443;refine Atn 0 hF24443 hS24443 E E (G0 5 E ?_);refine Br hb24443 10 E E (fun hc1 hb24443=> ?_) (fun hc1 hb24443=> ?_)
  ·refine G2 6 [10] [] [] E (Ix hb24443 hA1 E E fun _ _ _ _ hr1 hc2 _ hb24443=> ?_);obtain rfl:=hr1;refine Q3 9 [] [] [64] (Z1 hc2) E ?_;refine Br hb24443 15 E E (fun hc3 hb24443=> ?_) (fun hc3 hb24443=> ?_)
   ·refine G2 5 [15] [] [] E ?_;cases hb24443;have hq_:=hq24443 _ E;subst hq_;replace h:=Ye h;cases h;exact Rt [] E E (Ug [] 0 hR)
   refine G2 7 [] [15] [] E ?_;cases hb24443;exact Ce E ⟨_,rfl,fE E,sE [] 0 E,rfl⟩
  refine G2 2 [] [10] [] E ?_;cases hb24443;have hq_:=hq24443 _ E;subst hq_;exact Ce E ⟨rfl,fE E,sE [] 0 E,rfl⟩
 rintro _ _ _ _ h _ ⟨rfl,hF24441,hS24441,rfl⟩;replace h:=YB h;refine Atn 0 hF24441 hS24441 E E (G0 4 E ?_);cases h;exact Rt [] E E (Ug [] 0 hR)
end Go.Proofs.YthpgjbbjpfiniaaGreat
