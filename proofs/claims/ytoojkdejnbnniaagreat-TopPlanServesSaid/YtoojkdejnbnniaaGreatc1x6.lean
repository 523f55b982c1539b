/- TopPlanServes: for every input the given law returns true, and its arguments read as before. No condition. -/
import Derived.Laws.StructEq
import Derived.Test.YtoojkdejnbnniaaGreatc1x1
import Derived.Test.YtoojkdejnbnniaaGreatc1x3
import Derived.Test.YtoojkdejnbnniaaGreatc1x4
import Derived.Test.YtoojkdejnbnniaaGreatc1x2
import Derived.Test.YtoojkdejnbnniaaGreatc1x5
namespace Go.Proofs.YtoojkdejnbnniaaGreat
open Go.RowKit
set_option linter.unusedSimpArgs false
set_option linter.unusedVariables false
set_option maxHeartbeats 2000000
set_option maxRecDepth 4000
attribute [local irreducible] WP Z3 QbL Fn AN Upd vcR vcO Qfk Wg Jr Qcq Qcj QeW Qed VN QeB QF KS
theorem Qgf (a b:QL):Vg Tryz.prog (do eqGuard .neq 52 (.tmp 0) (.tmp 0) (.agg #[.int .i64 a.Vehicle,.int .i64 a.Err]) (.agg #[.int .i64 b.Vehicle,.int .i64 b.Err]);binOp .neq 52 (.agg #[.int .i64 a.Vehicle,.int .i64 a.Err]) (.agg #[.int .i64 b.Vehicle,.int .i64 b.Err])) (.bool (!(decide (a=b)))):=by
 obtain ⟨x0,x1⟩:=a;obtain ⟨y0,y1⟩:=b;intro w
 rw[Sem.run_bind,run_eqGuard_agg w _ _ _ _ _ _ (by kernel_rfl),Result.andThen_ok]
 simp only[binOp,Op.equal,Op.maxDepth,Sem.run_bind]
 rw[run_equalIn_struct w 9999 _ _ _ (by kernel_rfl) (by kernel_rfl)]
 by_cases h0:x0=y0
 case neg=>simp[Program.fieldsOf,Tryz.underlying52,go_sem,h0]
 by_cases h1:x1=y1
 case neg=>simp[Program.fieldsOf,Tryz.underlying52,go_sem,h0,h1]
 simp[Program.fieldsOf,Tryz.underlying52,go_sem,h0,h1]
theorem QhZ (a b:Qr):Vg Tryz.prog (do eqGuard .eql 171 (.tmp 0) (.tmp 0) (.agg #[.int .i64 a.Secs,.int .i64 a.Meters]) (.agg #[.int .i64 b.Secs,.int .i64 b.Meters]);binOp .eql 171 (.agg #[.int .i64 a.Secs,.int .i64 a.Meters]) (.agg #[.int .i64 b.Secs,.int .i64 b.Meters])) (.bool (decide (a=b))):=by
 obtain ⟨x0,x1⟩:=a;obtain ⟨y0,y1⟩:=b;intro w
 rw[Sem.run_bind,run_eqGuard_agg w _ _ _ _ _ _ (by kernel_rfl),Result.andThen_ok]
 simp only[binOp,Op.equal,Op.maxDepth,Sem.run_bind]
 rw[run_equalIn_struct w 9999 _ _ _ (by kernel_rfl) (by kernel_rfl)]
 by_cases h0:x0=y0
 case neg=>simp[Program.fieldsOf,Tryz.underlying171,go_sem,h0]
 by_cases h1:x1=y1
 case neg=>simp[Program.fieldsOf,Tryz.underlying171,go_sem,h0,h1]
 simp[Program.fieldsOf,Tryz.underlying171,go_sem,h0,h1]
theorem Qey (a b:Qr):Vg Tryz.prog (do eqGuard .neq 171 (.tmp 0) (.tmp 0) (.agg #[.int .i64 a.Secs,.int .i64 a.Meters]) (.agg #[.int .i64 b.Secs,.int .i64 b.Meters]);binOp .neq 171 (.agg #[.int .i64 a.Secs,.int .i64 a.Meters]) (.agg #[.int .i64 b.Secs,.int .i64 b.Meters])) (.bool (!(decide (a=b)))):=by
 obtain ⟨x0,x1⟩:=a;obtain ⟨y0,y1⟩:=b;intro w
 rw[Sem.run_bind,run_eqGuard_agg w _ _ _ _ _ _ (by kernel_rfl),Result.andThen_ok]
 simp only[binOp,Op.equal,Op.maxDepth,Sem.run_bind]
 rw[run_equalIn_struct w 9999 _ _ _ (by kernel_rfl) (by kernel_rfl)]
 by_cases h0:x0=y0
 case neg=>simp[Program.fieldsOf,Tryz.underlying171,go_sem,h0]
 by_cases h1:x1=y1
 case neg=>simp[Program.fieldsOf,Tryz.underlying171,go_sem,h0,h1]
 simp[Program.fieldsOf,Tryz.underlying171,go_sem,h0,h1]
variable {μ:Gh} {L:List Seg} {R:Value→Gh→List Seg→Prop}
theorem Qew  {c1:Int}  {res1:Bool}
   (h:QaP c1=some res1)
  (hR:R (.bool res1) μ (L)) :
  Fn Tryz.prog 97 [.int .u8 c1] μ (L) R:=by
 unfold QaP at h;refine FnS Tryz.func97 (by kernel_rfl) E Tryz.ntmps97 E E ?_;refine G0 5 E ?_;refine Cut h (fun f l o_ f_ μ_ l_=> ∃(v1:Bool),v1=o_∧Qg ((2,.bool v1)::[]) f_∧Qd l l_∧μ=μ_) ?_ ?_
 ·intro _ h40 h;refine G0 4 E ?_;refine Br h40 5 E E (fun hc1 h40=> ?_) (fun hc1 h40=> ?_)
  ·refine G2 4 [5] [] [] E ?_;refine Br h40 9 E E (fun hc2 h40=> ?_) (fun hc2 h40=> ?_)
   ·refine G2 9 [9] [] [] E ?_;cases h40;exact Ce E ⟨_,rfl,fE E,sE [] 0 E,rfl⟩
   refine G2 3 [] [9] [] E ?_;refine Br h40 12 E E (fun hc3 h40=> ?_) (fun hc3 h40=> ?_)
   ·refine G2 6 [12] [9] [] E ?_;cases h40;exact Ce E ⟨_,rfl,fE E,sE [] 0 E,rfl⟩
   refine G2 6 [] [9,12] [] E ?_;cases h40;exact Ce E ⟨_,rfl,fE E,sE [] 0 E,rfl⟩
  refine G2 7 [] [5,9] [] E ?_;refine Br h40 12 E E (fun hc4 h40=> ?_) (fun hc4 h40=> ?_)
  ·refine G2 6 [12] [9] [] E ?_;cases h40;exact Ce E ⟨_,rfl,fE E,sE [] 0 E,rfl⟩
  refine G2 6 [] [9,12] [] E ?_;cases h40;exact Ce E ⟨_,rfl,fE E,sE [] 0 E,rfl⟩
 rintro _ _ _ _ h _ ⟨v1,rfl,hF40,hS40,rfl⟩;refine Atn 0 hF40 hS40 E E ?_;cases h;exact Rt [] E E (Ug [] 0 hR)
theorem QeV {F:Nat} {s1:ByteArray}  {res1:Bool}
   (h:Qbo F s1=some res1)
  (hR:R (.bool res1) μ (L)) :
  Fn Tryz.prog 75 [.string s1] μ (L) R:=by
 unfold Qbo at h;refine FnS Tryz.func75 (by kernel_rfl) E Tryz.ntmps75 E E ?_;refine G0 6 E ?_;refine Cut h (fun f l o_ f_ μ_ l_=> ∃(v1:Bool),v1=o_∧Qg ((18,.bool v1)::Ql [0] f) f_∧Qd l l_∧μ=μ_) ?_ ?_
 ·intro _ h39 h;refine G0 5 E ?_;refine Br h39 8 E E (fun hc1 h39=> ?_) (fun hc1 h39=> ?_)
  ·refine G2 11 [8,13] [] [] E ?_;cases h39;exact Ce E ⟨_,rfl,fE E,sE [] 0 E,rfl⟩
  refine G2 5 [] [8] [] E ?_;refine Br h39 13 E E (fun hc2 h39=> ?_) (fun hc2 h39=> ?_)
  ·refine G2 6 [13] [] [] E ?_;cases h39;exact Ce E ⟨_,rfl,fE E,sE [] 0 E,rfl⟩
  obtain ⟨_,hb1,h39⟩:=Qi h39;refine G2 1 [] [13] [] E (Rdo E E (Qkq Q9 E E E E hb1 (Q0 0 E (Cl E ?_))));obtain ⟨_,hx1,h39⟩:=Qi h39;refine Qew  hx1 ((Q2 3 [] [13] [] E ?_));cases h39;exact Ce E ⟨_,rfl,fE E,sE [] 0 E,rfl⟩
 rintro _ _ _ _ h _ ⟨v1,rfl,hF39,hS39,rfl⟩;refine Atn 0 hF39 hS39 E E ?_;refine Br h 18 E E (fun hc3 h=> ?_) (fun hc3 h=> ?_)
 ·refine G2 5 [18] [] [] E ?_;cases h;exact Rt [] E E (Ug [] 0 hR)
 refine G2 7 [] [18] [] E ?_;refine Cut h (fun f l o_ f_ μ_ l_=>(.inl ())=o_∧Qg ([]) f_∧Qd l l_∧μ=μ_) ?_ ?_
 ·intro _ h41 h;refine Lp h41 (fun f l (i1:Int) f_ μ_ l_=>Qg ((3,.int .i64 i1)::Ql [0] f) f_∧Qd l l_∧μ=μ_) ⟨fE E,sE [] 0 E,E⟩ ?_;rintro i1 _ _ _ _ _ ⟨hF44,hS44,rfl⟩ hb44 hq44;unfold QbB at hb44;refine Atn 0 hF44 hS44 E E (G0 8 E ?_);refine Br hb44 22 E E (fun hc4 hb44=> ?_) (fun hc4 hb44=> ?_)
  ·obtain ⟨
       _,hb2,hb44⟩:=Qi hb44
   refine G2 8 [22] [] [] E (Rdo E E (Qkq Q9 E E E E hb2 (Q0 3 E ?_)));refine Cut hb44 (fun f l o_ f_ μ_ l_=> ∃(v2:Bool),v2=o_∧Qg ((50,.bool v2)::Ql [0,3] f) f_∧Qd l l_∧μ=μ_) ?_ ?_
   ·intro _ h45 hb44;refine G0 2 E (Cl E ?_);obtain ⟨_,hx2,h45⟩:=Qi h45;refine Qew  hx2 ((Q0 2 E ?_));refine Br h45 31 E E (fun hc5 h45=> ?_) (fun hc5 h45=> ?_)
    ·refine G2 3 [31] [] [] E ?_;refine Br h45 34 E E (fun hc6 h45=> ?_) (fun hc6 h45=> ?_)
     ·refine G2 9 [31,34,39] [] [] E ?_;refine Br h45 43 E E (fun hc7 h45=> ?_) (fun hc7 h45=> ?_)
      ·refine G2 4 [43] [] [] E ?_;refine Br h45 47 E E (fun hc8 h45=> ?_) (fun hc8 h45=> ?_)
       ·refine G2 4 [47] [] [] E ?_;cases h45;exact Ce E ⟨_,rfl,fE E,sE [] 0 E,rfl⟩
       refine G2 4 [] [47] [] E ?_;cases h45;exact Ce E ⟨_,rfl,fE E,sE [] 0 E,rfl⟩
      refine G2 8 [] [43,47] [] E ?_;cases h45;exact Ce E ⟨_,rfl,fE E,sE [] 0 E,rfl⟩
     refine G2 5 [31] [34] [] E ?_;refine Br h45 39 E E (fun hc9 h45=> ?_) (fun hc9 h45=> ?_)
     ·refine G2 4 [39] [] [] E ?_;refine Br h45 43 E E (fun hc10 h45=> ?_) (fun hc10 h45=> ?_)
      ·refine G2 4 [43] [] [] E ?_;refine Br h45 47 E E (fun hc11 h45=> ?_) (fun hc11 h45=> ?_)
       ·refine G2 4 [47] [] [] E ?_;cases h45;exact Ce E ⟨_,rfl,fE E,sE [] 0 E,rfl⟩
       refine G2 4 [] [47] [] E ?_;cases h45;exact Ce E ⟨_,rfl,fE E,sE [] 0 E,rfl⟩
      refine G2 8 [] [43,47] [] E ?_;cases h45;exact Ce E ⟨_,rfl,fE E,sE [] 0 E,rfl⟩
     refine G2 12 [] [39,43,47] [] E ?_;cases h45;exact Ce E ⟨_,rfl,fE E,sE [] 0 E,rfl⟩
    refine G2 20 [] [31,39,43,47] [] E ?_;cases h45;exact Ce E ⟨_,rfl,fE E,sE [] 0 E,rfl⟩
   rintro _ _ _ _ hb44 _ ⟨v2,rfl,hF45,hS45,rfl⟩;refine Atn 0 hF45 hS45 E E ?_;refine Br hb44 50 E E (fun hc12 hb44=> ?_) (fun hc12 hb44=> ?_)
   ·refine G2 5 [50] [] [] E ?_;cases hb44;have hq_:=hq44 _ E;subst hq_;replace h:=QZ h;cases h;exact Rt [] E E (Ug [] 0 hR)
   refine G2 8 [] [50] [] E ?_;cases hb44;exact Ce E ⟨_,rfl,fE E,sE [] 0 E,rfl⟩
  refine G2 2 [] [22] [] E ?_;cases hb44;have hq_:=hq44 _ E;subst hq_;exact Ce E ⟨rfl,fE E,sE [] 0 E,rfl⟩
 rintro _ _ _ _ h _ ⟨rfl,hF41,hS41,rfl⟩;replace h:=Yp h;refine Atn 0 hF41 hS41 E E (G0 4 E ?_);cases h;exact Rt [] E E (Ug [] 0 hR)
theorem Qf2 {F:Nat} {c1:QA} {materials1:Int} {nodes1:Int}  {res1:Int}
   (h:JG F c1 materials1 nodes1=some res1)
  (hR:R (.int .i64 res1) μ (L)) :
  Fn Tryz.prog 50 [.agg #[.string c1.ID,.int .i64 c1.Kind,.int .i64 c1.Litres,.int .i64 c1.Grams,.int .i64 c1.Node],.int .i64 materials1,.int .i64 nodes1] μ (L) R:=by
 unfold JG at h;refine FnS Tryz.func50 (by kernel_rfl) E Tryz.ntmps50 E E ?_;refine G0 2 E (Al E fun _=>Q1 8 [0] E (Cl E ?_));obtain ⟨_,hx1,h⟩:=Qi h;refine QeV  hx1 ((Q0 3 E ?_));refine Br h 7 E E (fun hc1 h=> ?_) (fun hc1 h=> ?_)
 ·refine G2 5 [7] [] [] E ?_;cases h;exact Rt [] E E (Ug [] 1 hR)
 refine G2 2 [] [7] [] E ?_;refine Cut h (fun f l o_ f_ μ_ l_=> ∃(v1:Bool),v1=o_∧Qg ((12,.bool v1)::Ql [2,3] f) f_∧Qd l l_∧μ=μ_) ?_ ?_
 ·intro _ h46 h;refine G1 5 [0] E ?_;refine Br h46 16 E E (fun hc2 h46=> ?_) (fun hc2 h46=> ?_)
  ·refine G2 7 [16] [] [] E ?_;cases h46;exact Ce E ⟨_,rfl,fE E,sE [some 0] 1 E,rfl⟩
  refine G2 7 [] [16] [0] E ?_;cases h46;exact Ce E ⟨_,rfl,fE E,sE [some 0] 1 E,rfl⟩
 rintro _ _ _ _ h _ ⟨v1,rfl,hF46,hS46,rfl⟩;refine Atn 1 hF46 hS46 E E ?_;refine Br h 12 E E (fun hc3 h=> ?_) (fun hc3 h=> ?_)
 ·refine G2 5 [12] [] [] E ?_;cases h;exact Rt [] E E (Ug [] 1 hR)
 refine G2 2 [] [12] [] E ?_;refine Cut h (fun f l o_ f_ μ_ l_=> ∃(v2:Bool),v2=o_∧Qg ((22,.bool v2)::Ql [2,3] f) f_∧Qd l l_∧μ=μ_) ?_ ?_
 ·intro _ h49 h;refine G1 5 [0] E ?_;refine Br h49 26 E E (fun hc4 h49=> ?_) (fun hc4 h49=> ?_)
  ·refine G2 16 [26,31,36] [] [] E ?_;cases h49;exact Ce E ⟨_,rfl,fE E,sE [some 0] 1 E,rfl⟩
  refine G2 5 [] [26] [0] E ?_;refine Br h49 31 E E (fun hc5 h49=> ?_) (fun hc5 h49=> ?_)
  ·refine G2 11 [31,36] [] [] E ?_;cases h49;exact Ce E ⟨_,rfl,fE E,sE [some 0] 1 E,rfl⟩
  refine G2 5 [] [31] [0] E ?_;refine Br h49 36 E E (fun hc6 h49=> ?_) (fun hc6 h49=> ?_)
  ·refine G2 6 [36] [] [] E ?_;cases h49;exact Ce E ⟨_,rfl,fE E,sE [some 0] 1 E,rfl⟩
  refine G2 6 [] [36] [0] E ?_;cases h49;exact Ce E ⟨_,rfl,fE E,sE [some 0] 1 E,rfl⟩
 rintro _ _ _ _ h _ ⟨v2,rfl,hF49,hS49,rfl⟩;refine Atn 1 hF49 hS49 E E ?_;refine Br h 22 E E (fun hc7 h=> ?_) (fun hc7 h=> ?_)
 ·refine G2 5 [22] [] [] E ?_;cases h;exact Rt [] E E (Ug [] 1 hR)
 refine G2 2 [] [22] [] E ?_;refine Cut h (fun f l o_ f_ μ_ l_=> ∃(v3:Bool),v3=o_∧Qg ((41,.bool v3)::[]) f_∧Qd (QB [] 1 l) l_∧μ=μ_) ?_ ?_
 ·intro _ h52 h;refine G1 5 [0] E ?_;refine Br h52 45 E E (fun hc8 h52=> ?_) (fun hc8 h52=> ?_)
  ·refine G2 7 [45] [] [] E ?_;cases h52;exact Ce E ⟨_,rfl,fE E,sE [] 1 E,rfl⟩
  refine G2 7 [] [45] [0] E ?_;cases h52;exact Ce E ⟨_,rfl,fE E,sE [] 1 E,rfl⟩
 rintro _ _ _ _ h _ ⟨v3,rfl,hF52,hS52,rfl⟩;refine Atn 0 hF52 hS52 E E ?_;refine Br h 41 E E (fun hc9 h=> ?_) (fun hc9 h=> ?_)
 ·refine G2 5 [41] [] [] E ?_;cases h;exact Rt [] E E (Ug [] 0 hR)
 refine G2 7 [] [41] [] E ?_;cases h;exact Rt [] E E (Ug [] 0 hR)
theorem Qf0 {F:Nat} {l1:(List QA)} {materials1:Int} {nodes1:Int} {A1:Option Addr} {c1:Nat} {res1:Int}
  (hl1:l1.length≤c1∧c1≤maxLen) (hA1:Rds Yq μ L A1 l1) (h:JF F l1 materials1 nodes1=some res1)
  (hR:R (.int .i64 res1) μ (L)) :
  Fn Tryz.prog 24 [.slice A1 l1.length c1,.int .i64 materials1,.int .i64 nodes1] μ (L) R:=by
 unfold JF at h;refine FnS Tryz.func24 (by kernel_rfl) E Tryz.ntmps24 E E ?_;refine G0 11 E ?_;refine Br h 15 E E (fun hc1 h=> ?_) (fun hc1 h=> ?_)
 ·refine G2 5 [15] [] [] E ?_;cases h;exact Rt [] E E (Ug [] 0 hR)
 refine G2 9 [] [15] [] E ?_;refine Cut h (fun f l o_ f_ μ_ l_=>(.inl ())=o_∧Qg (Ql [0] f) f_∧Qd l l_∧μ=μ_) ?_ ?_
 ·intro _ h34 h;refine Lp h34 (fun f l (v1:Int) f_ μ_ l_=>Qg ((18,.int .i64 v1)::Ql [0,1,2,16,17] f) f_∧Qd l l_∧μ=μ_) ⟨fE E,sE [] 0 E,E⟩ ?_;rintro v1 _ _ _ _ _ ⟨hF53,hS53,rfl⟩ hb53 hq53;unfold Z5 at hb53;refine Atn 0 hF53 hS53 E E (G0 5 E ?_);refine Br hb53 19 E E (fun hc2 hb53=> ?_) (fun hc2 hb53=> ?_)
  ·refine G2 6 [19] [] [] E (Ix hb53 hA1 E E fun _ _ _ _ hr1 hc3 _ hb53=> ?_);obtain rfl:=hr1;refine Q3 1 [] [] [64] (Z1 hc3) E (Al E fun _=>Q1 7 [0,0] E (Cl E ?_));obtain ⟨_,hx2,hb53⟩:=Qi hb53;refine Qf2  hx2 ((Q0 7 E ?_));refine Br hb53 27 E E (fun hc4 hb53=> ?_) (fun hc4 hb53=> ?_)
   ·refine G2 6 [27] [] [] E ?_;cases hb53;have hq_:=hq53 _ E;subst hq_;replace h:=QZ h;cases h;exact Rt [] E E (Ug [] 1 hR)
   refine G2 7 [] [27] [] E ?_;cases hb53;exact Ce E ⟨_,rfl,fE E,sE [] 1 E,rfl⟩
  refine G2 2 [] [19] [] E ?_;cases hb53;have hq_:=hq53 _ E;subst hq_;exact Ce E ⟨rfl,fE E,sE [] 0 E,rfl⟩
 rintro _ _ _ _ h _ ⟨rfl,hF34,hS34,rfl⟩;replace h:=Yp h;refine Atn 0 hF34 hS34 E E (G0 2 E (So E (Qfq (fun g2=>Q0 9 E ?_))));refine Cut h (fun f l o_ f_ μ_ l_=>(.inl ())=o_∧Qg ([]) f_∧Qd (QB [] 1 l) l_∧μ=μ_) ?_ ?_
 ·intro _ h57 h;refine Lp h57 (fun f l (j_:(List (ByteArray×Bool))×Int) f_ μ_ l_=>Y5 j_ fun m1 v2=> ∃(es1:Array MapEntry) (cn1:Nat),Qg ((33,.int .i64 v2)::Ql [10,31,32] f) f_∧Qd ([(g2,.map es1 cn1)]::QB [] 1 l) l_∧QeH Value.bool es1 cn1 m1∧μ=μ_) ⟨#[],0,fE E,sE [some 0] 1 E,((QeH.nil (enc:=Value.bool))),E⟩ ?_;rintro ⟨m1,v2⟩ _ _ _ _ _ ⟨es1,cn1,hF62,hS62,hM1,rfl⟩ hb62 hq62;unfold W7 at hb62;replace hb62:=Qn hb62;refine Atn 1 hF62 hS62 E E (G0 5 E ?_);refine Br hb62 34 E E (fun hc5 hb62=> ?_) (fun hc5 hb62=> ?_)
  ·refine G2 6 [34] [] [] E (Ix hb62 hA1 E E fun _ _ _ _ hr2 hc6 _ hb62=> ?_);obtain rfl:=hr2;refine Q3 1 [] [] [64] (Z1 (hc6.push)) E (Al E fun _=>Q1 8 [0,0] E (Rdo E E (Qnh (zb:=false) Q9 E E E E E E E E (VH.seg 1 0 E E) hM1 (Q0 1 E ?_))));refine Br hb62 40 E E (fun hc7 hb62=> ?_) (fun hc7 hb62=> ?_)
   ·refine G2 5 [40] [] [] E ?_;cases hb62;have hq_:=hq62 _ E;subst hq_;replace h:=QZ h;cases h;exact Rt [] E E (Ug [] 2 hR)
   refine G2 6 [] [40] [0] E (So E (QaA E E E (Qjg Q9 E E E E 1 (b:=true) E hM1 E fun es2 cn2 hM2=>Q0 6 E ?_)));cases hb62;exact Ce E ⟨_,rfl,es2,cn2,fE E,sE [some 1] 2 E,(hM2),rfl⟩
  refine G2 2 [] [34] [] E ?_;cases hb62;have hq_:=hq62 _ E;subst hq_;exact Ce E ⟨rfl,fE E,sE [] 1 E,rfl⟩
 rintro _ _ _ _ h _ ⟨rfl,hF57,hS57,rfl⟩;replace h:=Yp h;refine Atn 0 hF57 hS57 E E (G0 4 E ?_);cases h;exact Rt [] E E (Ug [] 0 hR)
theorem Qb7  {t1:QJ} {i1:Int} {A1:Option Addr} {c1:Nat} {A2:Option Addr} {c2:Nat} {A3:Option Addr} {c3:Nat} {res1:Bool}
  (hl1:t1.c.length≤c1∧c1≤maxLen) (hA1:Qs Yq μ A1 t1.c) (hl2:t1.s.length≤c2∧c2≤maxLen) (hA2:Qs Yr μ A2 t1.s) (hl3:t1.f.length≤c3∧c3≤maxLen) (hA3:Qs J3 μ A3 t1.f) (h:Wh t1 i1=some res1)
  (hR:R (.bool res1) μ (L)) :
  Fn Tryz.prog 51 [.agg #[.slice A1 t1.c.length c1,.slice A2 t1.s.length c2,.slice A3 t1.f.length c3,.int .i64 t1.day,.int .i64 t1.level],.int .i64 i1] μ (L) R:=by
 unfold Wh at h;refine FnS Tryz.func51 (by kernel_rfl) E Tryz.ntmps51 E E ?_;refine G0 2 E (Al E fun _=>Q0 3 E ?_);refine Cut h (fun f l o_ f_ μ_ l_=> ∃(v1:Bool),v1=o_∧Qg ((4,.bool v1)::[]) f_∧Qd (QB [] 1 l) l_∧μ=μ_) ?_ ?_
 ·intro _ h85 h;refine G0 4 E ?_;refine Br h85 7 E E (fun hc1 h85=> ?_) (fun hc1 h85=> ?_)
  ·refine G2 8 [7] [] [0] E ?_;cases h85;exact Ce E ⟨_,rfl,fE E,sE [] 1 E,rfl⟩
  refine G2 8 [] [7] [] E ?_;cases h85;exact Ce E ⟨_,rfl,fE E,sE [] 1 E,rfl⟩
 rintro _ _ _ _ h _ ⟨v1,rfl,hF85,hS85,rfl⟩;refine Atn 0 hF85 hS85 E E ?_;cases h;exact Rt [] E E (Ug [] 0 hR)
theorem Qck  {d1:Int}  {res1:Bool}
   (h:Qab d1=some res1)
  (hR:R (.bool res1) μ (L)) :
  Fn Tryz.prog 76 [.int .i64 d1] μ (L) R:=by
 unfold Qab at h;refine FnS Tryz.func76 (by kernel_rfl) E Tryz.ntmps76 E E ?_;refine G0 5 E ?_;refine Cut h (fun f l o_ f_ μ_ l_=> ∃(v1:Bool),v1=o_∧Qg ((2,.bool v1)::[]) f_∧Qd l l_∧μ=μ_) ?_ ?_
 ·intro _ h89 h;refine G0 4 E ?_;refine Br h89 5 E E (fun hc1 h89=> ?_) (fun hc1 h89=> ?_)
  ·refine G2 5 [5] [] [] E ?_;cases h89;exact Ce E ⟨_,rfl,fE E,sE [] 0 E,rfl⟩
  refine G2 5 [] [5] [] E ?_;cases h89;exact Ce E ⟨_,rfl,fE E,sE [] 0 E,rfl⟩
 rintro _ _ _ _ h _ ⟨v1,rfl,hF89,hS89,rfl⟩;refine Atn 0 hF89 hS89 E E ?_;cases h;exact Rt [] E E (Ug [] 0 hR)
theorem QaZ  {s1:Qv} {d1:Int} {A1:Option Addr} {c1:Nat} {res1:Bool}
  (hl1:s1.Moves.length≤c1∧c1≤maxLen) (hA1:Qs QaK μ A1 s1.Moves) (h:J4 s1 d1=some res1)
  (hR:R (.bool res1) μ (L)) :
  Fn Tryz.prog 77 [.agg #[.int .i64 s1.Container,.int .i64 s1.Start,.int .i64 s1.Every,.slice A1 s1.Moves.length c1],.int .i64 d1] μ (L) R:=by
 unfold J4 at h;refine FnS Tryz.func77 (by kernel_rfl) E Tryz.ntmps77 E E ?_;refine G0 2 E (Al E fun _=>Q0 3 E ?_);refine Cut h (fun f l o_ f_ μ_ l_=> ∃(v1:Bool),v1=o_∧Qg ((4,.bool v1)::[]) f_∧Qd (QB [] 1 l) l_∧μ=μ_) ?_ ?_
 ·intro _ h101 h;refine G0 2 E (Cl E ?_);obtain ⟨_,hx1,h101⟩:=Qi h101;refine Qck  hx1 ((Q0 1 E ?_));refine Br h101 7 E E (fun hc1 h101=> ?_) (fun hc1 h101=> ?_)
  ·refine G2 6 [7] [] [0] E ?_;refine Br h101 13 E E (fun hc2 h101=> ?_) (fun hc2 h101=> ?_)
   ·obtain ⟨_,hg1,h101⟩:=Qi h101;refine G2 6 [13] [] [0,0] E (Rdo E E (Qqz E E ?_));refine ⟨Ja hg1,?_⟩;refine Q2 4 [13] [] [] E ?_;cases h101;exact Ce E ⟨_,rfl,fE E,sE [] 1 E,rfl⟩
   refine G2 11 [] [13] [] E ?_;cases h101;exact Ce E ⟨_,rfl,fE E,sE [] 1 E,rfl⟩
  refine G2 17 [] [7,13] [] E ?_;cases h101;exact Ce E ⟨_,rfl,fE E,sE [] 1 E,rfl⟩
 rintro _ _ _ _ h _ ⟨v1,rfl,hF101,hS101,rfl⟩;refine Atn 0 hF101 hS101 E E ?_;cases h;exact Rt [] E E (Ug [] 0 hR)
theorem Qdk  {s1:Qv} {A1:Option Addr} {c1:Nat} {res1:Int}
  (hl1:s1.Moves.length≤c1∧c1≤maxLen) (hA1:Qs QaK μ A1 s1.Moves) (h:VV s1=some res1)
  (hR:R (.int .i64 res1) μ (L)) :
  Fn Tryz.prog 52 [.agg #[.int .i64 s1.Container,.int .i64 s1.Start,.int .i64 s1.Every,.slice A1 s1.Moves.length c1]] μ (L) R:=by
 unfold VV at h;refine FnS Tryz.func52 (by kernel_rfl) E Tryz.ntmps52 E E ?_;refine G0 2 E (Al E fun _=>Q0 4 E ?_);refine Cut h (fun f l o_ f_ μ_ l_=> ∃(v1:Bool),v1=o_∧Qg ((32,.bool v1)::Ql [1] f) f_∧Qd l l_∧μ=μ_) ?_ ?_
 ·intro _ h88 h;refine G1 5 [0] E ?_;refine Br h88 12 E E (fun hc1 h88=> ?_) (fun hc1 h88=> ?_)
  ·refine G2 21 [12,17,23,28] [] [] E ?_;cases h88;exact Ce E ⟨_,rfl,fE E,sE [some 0] 1 E,rfl⟩
  refine G2 5 [] [12] [0] E ?_;refine Br h88 17 E E (fun hc2 h88=> ?_) (fun hc2 h88=> ?_)
  ·refine G2 16 [17,23,28] [] [] E ?_;cases h88;exact Ce E ⟨_,rfl,fE E,sE [some 0] 1 E,rfl⟩
  refine G2 2 [] [17] [0] E (Cl E ?_);obtain ⟨_,hx1,h88⟩:=Qi h88;refine Qck  hx1 ((Q2 3 [] [17] [] E ?_));refine Br h88 23 E E (fun hc3 h88=> ?_) (fun hc3 h88=> ?_)
  ·refine G2 10 [23,28] [] [] E ?_;cases h88;exact Ce E ⟨_,rfl,fE E,sE [some 0] 1 E,rfl⟩
  refine G2 5 [] [23] [0] E ?_;refine Br h88 28 E E (fun hc4 h88=> ?_) (fun hc4 h88=> ?_)
  ·refine G2 5 [28] [] [] E ?_;cases h88;exact Ce E ⟨_,rfl,fE E,sE [some 0] 1 E,rfl⟩
  refine G2 5 [] [28] [0] E ?_;cases h88;exact Ce E ⟨_,rfl,fE E,sE [some 0] 1 E,rfl⟩
 rintro _ _ _ _ h _ ⟨v1,rfl,hF88,hS88,rfl⟩;refine Atn 1 hF88 hS88 E E ?_;refine Br h 32 E E (fun hc5 h=> ?_) (fun hc5 h=> ?_)
 ·refine G2 5 [32] [] [] E ?_;cases h;exact Rt [] E E (Ug [] 1 hR)
 refine G2 10 [] [32] [0] E ?_;refine Br h 36 E E (fun hc6 h=> ?_) (fun hc6 h=> ?_)
 ·refine G2 5 [36] [] [] E ?_;cases h;exact Rt [] E E (Ug [] 1 hR)
 refine G2 10 [] [36] [0] E ?_;refine Cut h (fun f l o_ f_ μ_ l_=>(.inl ())=o_∧Qg (Ql [1] f) f_∧Qd l l_∧μ=μ_) ?_ ?_
 ·intro _ h92 h;refine Lp h92 (fun f l (v2:Int) f_ μ_ l_=>Qg ((40,.int .i64 v2)::Ql [1,38,39] f) f_∧Qd l l_∧μ=μ_) ⟨fE E,sE [some 0] 1 E,E⟩ ?_;rintro v2 _ _ _ _ _ ⟨hF102,hS102,rfl⟩ hb102 hq102;unfold VC at hb102;refine Atn 1 hF102 hS102 E E (G0 5 E ?_);refine Br hb102 41 E E (fun hc7 hb102=> ?_) (fun hc7 hb102=> ?_)
  ·refine G2 6 [41] [] [] E (Ix hb102 (Qs.rds hA1 L) E E fun _ _ _ _ hr1 hc8 _ hb102=> ?_);obtain rfl:=hr1;refine Q3 1 [] [] [64] (Z1 (hc8.push)) E (Al E fun _=>Q1 8 [0,1,0] E (Cl E ?_));obtain ⟨_,hx3,hb102⟩:=Qi hb102;refine QaZ hl1 hA1 hx3 ((Q0 2 E ?_));refine Br hb102 48 E E (fun hc9 hb102=> ?_) (fun hc9 hb102=> ?_)
   ·refine G2 5 [48] [] [] E ?_;cases hb102;have hq_:=hq102 _ E;subst hq_;replace h:=QZ h;cases h;exact Rt [] E E (Ug [] 2 hR)
   refine G2 7 [] [48] [0] E (Cl E ?_);obtain ⟨_,hx4,hb102⟩:=Qi hb102;refine Qck  hx4 ((Q0 2 E ?_));refine Br hb102 52 E E (fun hc10 hb102=> ?_) (fun hc10 hb102=> ?_)
   ·refine G2 5 [52] [] [] E ?_;cases hb102;have hq_:=hq102 _ E;subst hq_;replace h:=QZ h;cases h;exact Rt [] E E (Ug [] 2 hR)
   refine G2 7 [] [52] [1,0] E (Cl E ?_);obtain ⟨_,hx5,hb102⟩:=Qi hb102;refine QaZ hl1 hA1 hx5 ((Q0 1 E ?_));refine Br hb102 56 E E (fun hc11 hb102=> ?_) (fun hc11 hb102=> ?_)
   ·refine G2 5 [56] [] [] E ?_;cases hb102;have hq_:=hq102 _ E;subst hq_;replace h:=QZ h;cases h;exact Rt [] E E (Ug [] 2 hR)
   refine G2 7 [] [56] [] E ?_;cases hb102;exact Ce E ⟨_,rfl,fE E,sE [some 1] 2 E,rfl⟩
  refine G2 2 [] [41] [] E ?_;cases hb102;have hq_:=hq102 _ E;subst hq_;exact Ce E ⟨rfl,fE E,sE [some 0] 1 E,rfl⟩
 rintro _ _ _ _ h _ ⟨rfl,hF92,hS92,rfl⟩;replace h:=Yp h;refine Atn 1 hF92 hS92 E E (G0 2 E (So E (Qfq (fun g3=>Q0 0 E (So E (Qfq (fun g4=>Q1 11 [2] E ?_)))))));refine Cut h (fun f l o_ f_ μ_ l_=>(.inl ())=o_∧Qg ([]) f_∧Qd (QB [] 3 l) l_∧μ=μ_) ?_ ?_
 ·intro _ h112 h;refine Lp h112 (fun f l (j_:(List (Int×Bool))×(List (Int×Bool))×Int) f_ μ_ l_=>Y5 j_ fun m1 j_=>Y5 j_ fun m2 v3=> ∃(es1:Array MapEntry) (cn1:Nat) (es2:Array MapEntry) (cn2:Nat),Qg ((63,.int .i64 v3)::Ql [5,6,61,62] f) f_∧Qd ([(g3,.map es1 cn1)]::[(g4,.map es2 cn2)]::QB [] 3 l) l_∧Qc3 Value.bool es1 cn1 m1∧Qc3 Value.bool es2 cn2 m2∧μ=μ_) ⟨#[],0, #[],0,fE E,sE [some 1,some 0] 3 E,((Qc3.nil (enc:=Value.bool))),((Qc3.nil (enc:=Value.bool))),E⟩ ?_;rintro ⟨m1,m2,v3⟩ _ _ _ _ _ ⟨es1,cn1,es2,cn2,hF132,hS132,hM1,hM2,rfl⟩ hb132 hq132;unfold Wo at hb132;replace hb132:=Qn hb132;replace hb132:=Qn hb132;refine Atn 2 hF132 hS132 E E (G0 5 E ?_);refine Br hb132 64 E E (fun hc12 hb132=> ?_) (fun hc12 hb132=> ?_)
  ·refine G2 6 [64] [] [] E (Ix hb132 (Qs.rds hA1 L) E E fun x2 _ _ _ hr2 hc13 _ hb132=> ?_);obtain rfl:=hr2;refine Q3 1 [] [] [64] (Z1 (hc13.push.push)) E (Al E fun _=>Q1 4 [0] E ?_);refine Cut hb132 (fun f l o_ f_ μ_ l_=> ∃(v4:Bool),v4=o_∧Qg ((76,.bool v4)::Ql [5,6,8,61,62,63] f) f_∧Qd (QB [some 1,some 2,some 0] 3 l) l_∧μ=μ_) ?_ ?_
   ·intro _ h140 hb132;refine G1 4 [0] E (Rdo E E (Qkr E E E E E E E E (Ex.mk _ (hM1.look (VH.seg 1 0 E E) (zb:=false) E x2.From) (Q0 1 E ?_))));refine Br h140 71 E E (fun hc14 h140=> ?_) (fun hc14 h140=> ?_)
    ·refine G2 6 [71] [] [] E ?_;cases h140;exact Ce E ⟨_,rfl,fE E,sE [some 1,some 2,some 0] 3 E,rfl⟩
    refine G2 3 [] [71] [0] E (Rdo E E (Qkr E E E E E E E E (Ex.mk _ (hM2.look (VH.seg 2 0 E E) (zb:=false) E x2.To) (Q2 2 [] [71] [] E ?_))));cases h140;exact Ce E ⟨_,rfl,fE E,sE [some 1,some 2,some 0] 3 E,rfl⟩
   rintro _ _ _ _ hb132 _ ⟨v4,rfl,hF140,hS140,rfl⟩;refine Atn 3 hF140 hS140 E E ?_;refine Br hb132 76 E E (fun hc15 hb132=> ?_) (fun hc15 hb132=> ?_)
   ·refine G2 5 [76] [] [] E ?_;cases hb132;have hq_:=hq132 _ E;subst hq_;replace h:=QZ h;cases h;exact Rt [] E E (Ug [] 3 hR)
   refine G2 2 [] [76] [] E (Drk [1,0] 1 E [(true,0),(true,1),(true,2),(true,3),(true,4),(true,5),(false,6),(false,7)] (by kernel_rfl) (G1 6 [0,0] E (So E (QaA E E E (QdU Q9 E E E E 0 (b:=true) E hM1 E fun es3 cn3 hM3=> ?_)))));refine ⟨Kp [2] 3 E,?_⟩;refine Q0 0 E (So E (QaA E E E (QdU Q9 E E E E 1 (b:=true) E hM2 E fun es4 cn4 hM4=> ?_)));refine ⟨Kp [2] 3 E,?_⟩;refine Q0 6 E ?_;cases hb132;exact Ce E ⟨_,rfl,es3,cn3,es4,cn4,fE E,sE [some 0,some 1] 3 E,(hM3),(hM4),rfl⟩
  refine G2 2 [] [64] [] E ?_;cases hb132;have hq_:=hq132 _ E;subst hq_;exact Ce E ⟨rfl,fE E,sE [] 2 E,rfl⟩
 rintro _ _ _ _ h _ ⟨rfl,hF112,hS112,rfl⟩;replace h:=Yp h;refine Atn 0 hF112 hS112 E E (G0 4 E ?_);cases h;exact Rt [] E E (Ug [] 0 hR)
theorem Qdr  {t1:QJ} {A1:Option Addr} {c1:Nat} {A2:Option Addr} {c2:Nat} {A3:Option Addr} {c3:Nat} {res1:Int}
  (hl1:t1.c.length≤c1∧c1≤maxLen) (hA1:Qs Yq μ A1 t1.c) (hl2:t1.s.length≤c2∧c2≤maxLen) (hA2:Qs Yr μ A2 t1.s) (hl3:t1.f.length≤c3∧c3≤maxLen) (hA3:Qs J3 μ A3 t1.f) (h:JS t1=some res1)
  (hR:R (.int .i64 res1) μ (L)) :
  Fn Tryz.prog 25 [.agg #[.slice A1 t1.c.length c1,.slice A2 t1.s.length c2,.slice A3 t1.f.length c3,.int .i64 t1.day,.int .i64 t1.level]] μ (L) R:=by
 unfold JS at h;refine FnS Tryz.func25 (by kernel_rfl) E Tryz.ntmps25 E E ?_;refine G0 2 E (Al E fun _=>Q1 10 [0] E ?_);refine Br h 9 E E (fun hc1 h=> ?_) (fun hc1 h=> ?_)
 ·refine G2 5 [9] [] [] E ?_;cases h;exact Rt [] E E (Ug [] 1 hR)
 refine G2 10 [] [9] [0] E ?_;refine Cut h (fun f l o_ f_ μ_ l_=>(.inl ())=o_∧Qg ([]) f_∧Qd (QB [] 1 l) l_∧μ=μ_) ?_ ?_
 ·intro _ h72 h;refine Lp h72 (fun f l (v1:Int) f_ μ_ l_=>Qg ((13,.int .i64 v1)::Ql [1,11,12] f) f_∧Qd l l_∧μ=μ_) ⟨fE E,sE [some 0] 1 E,E⟩ ?_;rintro v1 _ _ _ _ _ ⟨hF155,hS155,rfl⟩ hb155 hq155;unfold J6 at hb155;refine Atn 1 hF155 hS155 E E (G0 5 E ?_);refine Br hb155 14 E E (fun hc2 hb155=> ?_) (fun hc2 hb155=> ?_)
  ·refine G2 6 [14] [] [] E (Ix hb155 (Qs.rds hA2 L) E E fun _ _ _ _ hr1 hc3 _ hb155=> ?_);obtain ⟨_,_,rfl,hl4,hA5⟩:=hr1;refine Q3 1 [] [] [64] (Z1 (hc3.push)) E (Al E fun _=>Q1 8 [0,1,0] E (Cl E ?_));obtain ⟨_,hx2,hb155⟩:=Qi hb155;refine Qb7 hl1 hA1 hl2 hA2 hl3 hA3 hx2 ((Q0 2 E ?_));refine Br hb155 21 E E (fun hc4 hb155=> ?_) (fun hc4 hb155=> ?_)
   ·refine G2 5 [21] [] [] E ?_;cases hb155;have hq_:=hq155 _ E;subst hq_;replace h:=QZ h;cases h;exact Rt [] E E (Ug [] 2 hR)
   refine G2 5 [] [21] [0] E (Cl E ?_);obtain ⟨_,hx3,hb155⟩:=Qi hb155;refine Qdk hl4 hA5 hx3 ((Q0 7 E ?_));refine Br hb155 25 E E (fun hc5 hb155=> ?_) (fun hc5 hb155=> ?_)
   ·refine G2 6 [25] [] [] E ?_;cases hb155;have hq_:=hq155 _ E;subst hq_;replace h:=QZ h;cases h;exact Rt [] E E (Ug [] 2 hR)
   refine G2 7 [] [25] [] E ?_;cases hb155;exact Ce E ⟨_,rfl,fE E,sE [some 1] 2 E,rfl⟩
  refine G2 2 [] [14] [] E ?_;cases hb155;have hq_:=hq155 _ E;subst hq_;exact Ce E ⟨rfl,fE E,sE [] 1 E,rfl⟩
 rintro _ _ _ _ h _ ⟨rfl,hF72,hS72,rfl⟩;replace h:=Yp h;refine Atn 0 hF72 hS72 E E (G0 4 E ?_);cases h;exact Rt [] E E (Ug [] 0 hR)
theorem Qd7  {y1:Q8} {b1:Q8} {g1:Nat} {res1:Bool}
   (h:QaW y1 b1=some res1)
  (hR:R (.bool res1) μ ([(g1,.cells #[.int .i64 b1.Container,.int .i64 b1.Mass.Lo,.int .i64 b1.Mass.Hi] 89 (0,0))]::L)) :
  Fn Tryz.prog 54 [.agg #[.int .i64 y1.Container,.int .i64 y1.Mass.Lo,.int .i64 y1.Mass.Hi],.pointer (some ⟨g1,0,none⟩)] μ ([(g1,.cells #[.int .i64 b1.Container,.int .i64 b1.Mass.Lo,.int .i64 b1.Mass.Hi] 89 (0,0))]::L) R:=by
 unfold QaW at h;refine FnS Tryz.func54 (by kernel_rfl) E Tryz.ntmps54 E E ?_;refine G0 2 E (Al E fun _=>Q1 11 [0,1] E ?_);cases h;exact Rt [] E E (Ug [[1]] 2 hR)
theorem Qcm  {s1:(List Q8)} {b1:Q8} {A1:Option Addr} {c1:Nat} {g1:Nat} {res1:Int}
  (hl1:s1.length≤c1∧c1≤maxLen) (hA1:Rds J3 μ L A1 s1) (h:Vm s1 b1=some res1)
  (hR:R (.int .i64 res1) μ ([(g1,.cells #[.int .i64 b1.Container,.int .i64 b1.Mass.Lo,.int .i64 b1.Mass.Hi] 89 (0,0))]::L)) :
  Fn Tryz.prog 31 [.slice A1 s1.length c1,.func (.func 54) #[] #[.pointer (some ⟨g1,0,none⟩)]] μ ([(g1,.cells #[.int .i64 b1.Container,.int .i64 b1.Mass.Lo,.int .i64 b1.Mass.Hi] 89 (0,0))]::L) R:=by
 unfold Vm at h;refine FnS Tryz.func31 (by kernel_rfl) E Tryz.ntmps31 E E ?_;refine G0 11 E ?_;refine Cut h (fun f l o_ f_ μ_ l_=>(.inl ())=o_∧Qg ([]) f_∧Qd l l_∧μ=μ_) ?_ ?_
 ·intro _ h200 h;refine Lp h200 (fun f l (v1:Int) f_ μ_ l_=>Qg ((8,.int .i64 v1)::Ql [0,1,7] f) f_∧Qd l l_∧μ=μ_) ⟨fE E,sE [some 0] 1 E,E⟩ ?_;rintro v1 _ _ _ _ _ ⟨hF208,hS208,rfl⟩ hb208 hq208;unfold Qai at hb208;refine Atn 1 hF208 hS208 E E (G0 5 E ?_);refine Br hb208 9 E E (fun hc1 hb208=> ?_) (fun hc1 hb208=> ?_)
  ·refine G2 14 [9] [] [] E (Ix hb208 hA1 E E fun _ _ _ _ hr1 hc2 _ hb208=> ?_);obtain rfl:=hr1;refine Q3 1 [] [] [64] (Z1 (hc2.push)) E (Cl E ?_);obtain ⟨_,hx2,hb208⟩:=Qi hb208;refine Qd7  hx2 ((Q0 1 E ?_));refine Br hb208 16 E E (fun hc3 hb208=> ?_) (fun hc3 hb208=> ?_)
   ·refine G2 6 [16] [] [] E ?_;cases hb208;have hq_:=hq208 _ E;subst hq_;replace h:=QZ h;cases h;exact Rt [] E E (Ug [[0]] 1 hR)
   refine G2 7 [] [16] [] E ?_;cases hb208;exact Ce E ⟨_,rfl,fE E,sE [some 0] 1 E,rfl⟩
  refine G2 2 [] [9] [] E ?_;cases hb208;have hq_:=hq208 _ E;subst hq_;exact Ce E ⟨rfl,fE E,sE [some 0] 1 E,rfl⟩
 rintro _ _ _ _ h _ ⟨rfl,hF200,hS200,rfl⟩;replace h:=Yp h;refine Atn 1 hF200 hS200 E E (G0 4 E ?_);cases h;exact Rt [] E E (Ug [[0]] 1 hR)
theorem QbO  {s1:(List Q8)} {b1:Q8} {A1:Option Addr} {c1:Nat} {g1:Nat} {res1:Bool}
  (hl1:s1.length≤c1∧c1≤maxLen) (hA1:Rds J3 μ L A1 s1) (h:Ws s1 b1=some res1)
  (hR:R (.bool res1) μ ([(g1,.cells #[.int .i64 b1.Container,.int .i64 b1.Mass.Lo,.int .i64 b1.Mass.Hi] 89 (0,0))]::L)) :
  Fn Tryz.prog 53 [.slice A1 s1.length c1,.func (.func 54) #[] #[.pointer (some ⟨g1,0,none⟩)]] μ ([(g1,.cells #[.int .i64 b1.Container,.int .i64 b1.Mass.Lo,.int .i64 b1.Mass.Hi] 89 (0,0))]::L) R:=by
 unfold Ws at h;refine FnS Tryz.func53 (by kernel_rfl) E Tryz.ntmps53 E E ?_;refine G0 8 E (Cl E ?_);obtain ⟨_,hx1,h⟩:=Qi h;refine Qcm hl1 hA1 hx1 ((Q0 3 E ?_));cases h;exact Rt [] E E (Ug [[0]] 1 hR)
theorem QeL  {t1:QJ} {A1:Option Addr} {c1:Nat} {A2:Option Addr} {c2:Nat} {A3:Option Addr} {c3:Nat} {res1:Int}
  (hl1:t1.c.length≤c1∧c1≤maxLen) (hA1:Qs Yq μ A1 t1.c) (hl2:t1.s.length≤c2∧c2≤maxLen) (hA2:Qs Yr μ A2 t1.s) (hl3:t1.f.length≤c3∧c3≤maxLen) (hA3:Qs J3 μ A3 t1.f) (h:Vv t1=some res1)
  (hR:R (.int .i64 res1) μ (L)) :
  Fn Tryz.prog 26 [.agg #[.slice A1 t1.c.length c1,.slice A2 t1.s.length c2,.slice A3 t1.f.length c3,.int .i64 t1.day,.int .i64 t1.level]] μ (L) R:=by
 unfold Vv at h;refine FnS Tryz.func26 (by kernel_rfl) E Tryz.ntmps26 E E ?_;refine G0 2 E (Al E fun _=>Q1 10 [0] E ?_);refine Br h 10 E E (fun hc1 h=> ?_) (fun hc1 h=> ?_)
 ·refine G2 5 [10] [] [] E ?_;cases h;exact Rt [] E E (Ug [] 1 hR)
 refine G2 10 [] [10] [0] E ?_;refine Cut h (fun f l o_ f_ μ_ l_=>(.inl ())=o_∧Qg (Ql [1] f) f_∧Qd l l_∧μ=μ_) ?_ ?_
 ·intro _ h167 h;refine Lp h167 (fun f l (v1:Int) f_ μ_ l_=>Qg ((14,.int .i64 v1)::Ql [1,12,13] f) f_∧Qd l l_∧μ=μ_) ⟨fE E,sE [some 0] 1 E,E⟩ ?_;rintro v1 _ _ _ _ _ ⟨hF177,hS177,rfl⟩ hb177 hq177;unfold J9 at hb177;refine Atn 1 hF177 hS177 E E (G0 5 E ?_);refine Br hb177 15 E E (fun hc2 hb177=> ?_) (fun hc2 hb177=> ?_)
  ·refine G2 6 [15] [] [] E (Ix hb177 (Qs.rds hA3 L) E E fun _ _ _ _ hr1 hc3 _ hb177=> ?_);obtain rfl:=hr1;refine Q3 1 [] [] [64] (Z1 (hc3.push)) E (Al E fun _=>Q1 8 [0,1,0] E (Cl E ?_));obtain ⟨_,hx2,hb177⟩:=Qi hb177;refine Qb7 hl1 hA1 hl2 hA2 hl3 hA3 hx2 ((Q0 2 E ?_));refine Br hb177 22 E E (fun hc4 hb177=> ?_) (fun hc4 hb177=> ?_)
   ·refine G2 5 [22] [] [] E ?_;cases hb177;have hq_:=hq177 _ E;subst hq_;replace h:=QZ h;cases h;exact Rt [] E E (Ug [] 2 hR)
   refine G2 3 [] [22] [] E ?_;refine Cut hb177 (fun f l o_ f_ μ_ l_=> ∃(v2:Bool),v2=o_∧Qg ((48,.bool v2)::Ql [1,12,13,14] f) f_∧Qd (QB [] 1 l) l_∧μ=μ_) ?_ ?_
   ·intro _ h183 hb177;refine Dr _ QF.refl [(true,0),(true,1),(true,2),(true,3),(true,4),(true,5),(true,6),(true,7),(true,8),(true,9),(true,10),(true,11),(true,12),(true,13),(true,14),(true,15),(true,16),(true,17),(true,18),(true,19),(true,20),(true,21),(true,22),(true,23),(true,24),(true,25)] (by kernel_rfl) (G1 5 [0] E ?_);refine Br h183 27 E E (fun hc5 h183=> ?_) (fun hc5 h183=> ?_)
    ·refine G2 22 [27,36] [] [] E ?_;cases h183;exact Ce E ⟨_,rfl,fE E,sE [some 1] 2 E,rfl⟩
    refine G2 9 [] [27] [0,0] E ?_;refine Br h183 36 E E (fun hc6 h183=> ?_) (fun hc6 h183=> ?_)
    ·refine G2 13 [36] [] [] E ?_;cases h183;exact Ce E ⟨_,rfl,fE E,sE [some 1] 2 E,rfl⟩
    refine G2 7 [] [36] [0,1,0] E (Ix h183 (Qs.rds hA1 L) E E fun _ _ _ _ hr2 hc7 _ h183=> ?_);obtain rfl:=hr2;refine Q3 5 [] [36] [67] (Z1 (hc7.push.push)) E ?_;cases h183;exact Ce E ⟨_,rfl,fE E,sE [some 1] 2 E,rfl⟩
   rintro _ _ _ _ hb177 _ ⟨v2,rfl,hF183,hS183,rfl⟩;refine Atn 1 hF183 hS183 E E ?_;refine Br hb177 48 E E (fun hc8 hb177=> ?_) (fun hc8 hb177=> ?_)
   ·refine G2 5 [48] [] [] E ?_;cases hb177;have hq_:=hq177 _ E;subst hq_;replace h:=QZ h;cases h;exact Rt [] E E (Ug [] 1 hR)
   refine G2 7 [] [48] [] E ?_;cases hb177;exact Ce E ⟨_,rfl,fE E,sE [some 0] 1 E,rfl⟩
  refine G2 2 [] [15] [] E ?_;cases hb177;have hq_:=hq177 _ E;subst hq_;exact Ce E ⟨rfl,fE E,sE [some 0] 1 E,rfl⟩
 rintro _ _ _ _ h _ ⟨rfl,hF167,hS167,rfl⟩;replace h:=Yp h;refine Atn 1 hF167 hS167 E E (G1 8 [0] E ?_);refine Cut h (fun f l o_ f_ μ_ l_=>(.inl ())=o_∧Qg ([]) f_∧Qd (QB [] 1 l) l_∧μ=μ_) ?_ ?_
 ·intro _ h188 h;refine Lp h188 (fun f l (v3:Int) f_ μ_ l_=>Qg ((53,.int .i64 v3)::Ql [1,51,52] f) f_∧Qd l l_∧μ=μ_) ⟨fE E,sE [some 0] 1 E,E⟩ ?_;rintro v3 _ _ _ _ _ ⟨hF218,hS218,rfl⟩ hb218 hq218;unfold Wb at hb218;refine Atn 1 hF218 hS218 E E (G0 5 E ?_);refine Br hb218 54 E E (fun hc9 hb218=> ?_) (fun hc9 hb218=> ?_)
  ·refine G2 7 [54] [] [] E (Ix hb218 (Qs.rds hA3 L) E E fun _ _ _ _ hr3 hc10 _ hb218=> ?_);obtain rfl:=hr3;refine Q3 1 [] [] [64] (Z1 (hc10.push)) E (Al E fun _=> ?_);obtain ⟨_,hs1,hb218⟩:=Qi hb218;refine Q1 8 [0,1] E (Rdo E E (Qd4 E E E E E E hl3.1 hs1 ?_));have hA7:=Qs.pre hA3 hs1;have hl4:=Qgh hl3 hs1;refine Q0 1 E (Cl E ?_);obtain ⟨_,hx5,hb218⟩:=Qi hb218;refine QbO hl4 (Qs.rds hA7 _) hx5 ((Q0 1 E ?_));refine Br hb218 63 E E (fun hc11 hb218=> ?_) (fun hc11 hb218=> ?_)
   ·refine G2 5 [63] [] [] E ?_;cases hb218;have hq_:=hq218 _ E;subst hq_;replace h:=QZ h;cases h;exact Rt [] E E (Ug [] 2 hR)
   refine G2 7 [] [63] [] E ?_;cases hb218;exact Ce E ⟨_,rfl,fE E,sE [some 1] 2 E,rfl⟩
  refine G2 2 [] [54] [] E ?_;cases hb218;have hq_:=hq218 _ E;subst hq_;exact Ce E ⟨rfl,fE E,sE [] 1 E,rfl⟩
 rintro _ _ _ _ h _ ⟨rfl,hF188,hS188,rfl⟩;replace h:=Yp h;refine Atn 0 hF188 hS188 E E (G0 4 E ?_);cases h;exact Rt [] E E (Ug [] 0 hR)
theorem W2  {n1:Int} {low1:Int} {high1:Int}  {res1:Bool}
   (h:Zx n1 low1 high1=some res1)
  (hR:R (.bool res1) μ (L)) :
  Fn Tryz.prog 12 [.int .i64 n1,.int .i64 low1,.int .i64 high1] μ (L) R:=by
 unfold Zx at h;refine FnS Tryz.func12 (by kernel_rfl) E Tryz.ntmps12 E E ?_;refine G0 5 E ?_;refine Cut h (fun f l o_ f_ μ_ l_=> ∃(v1:Bool),v1=o_∧Qg ((6,.bool v1)::[]) f_∧Qd l l_∧μ=μ_) ?_ ?_
 ·intro _ h228 h;refine G0 5 E ?_;refine Br h228 10 E E (fun hc1 h228=> ?_) (fun hc1 h228=> ?_)
  ·refine G2 6 [10] [] [] E ?_;cases h228;exact Ce E ⟨_,rfl,fE E,sE [] 0 E,rfl⟩
  refine G2 6 [] [10] [] E ?_;cases h228;exact Ce E ⟨_,rfl,fE E,sE [] 0 E,rfl⟩
 rintro _ _ _ _ h _ ⟨v1,rfl,hF228,hS228,rfl⟩;refine Atn 0 hF228 hS228 E E ?_;cases h;exact Rt [] E E (Ug [] 0 hR)
theorem QeK {F:Nat} {t1:QJ} {A1:Option Addr} {c1:Nat} {A2:Option Addr} {c2:Nat} {A3:Option Addr} {c3:Nat} {res1:Int}
  (hl1:t1.c.length≤c1∧c1≤maxLen) (hA1:Qs Yq μ A1 t1.c) (hl2:t1.s.length≤c2∧c2≤maxLen) (hA2:Qs Yr μ A2 t1.s) (hl3:t1.f.length≤c3∧c3≤maxLen) (hA3:Qs J3 μ A3 t1.f) (h:ZJ F t1=some res1)
  (hR:R (.int .i64 res1) μ (L)) :
  Fn Tryz.prog 11 [.agg #[.slice A1 t1.c.length c1,.slice A2 t1.s.length c2,.slice A3 t1.f.length c3,.int .i64 t1.day,.int .i64 t1.level]] μ (L) R:=by
 unfold ZJ at h;refine FnS Tryz.func11 (by kernel_rfl) E Tryz.ntmps11 E E ?_;refine G0 2 E (Al E fun _=>Q1 7 [0] E (Cl E ?_));obtain ⟨_,hx1,h⟩:=Qi h;refine Qf0 hl1 (Qs.rds hA1 _) hx1 ((Q0 7 E ?_));refine Br h 10 E E (fun hc1 h=> ?_) (fun hc1 h=> ?_)
 ·refine G2 6 [10] [] [] E ?_;cases h;exact Rt [] E E (Ug [] 1 hR)
 refine G2 6 [] [10] [0] E (Cl E ?_);obtain ⟨_,hx2,h⟩:=Qi h;refine Qdr hl1 hA1 hl2 hA2 hl3 hA3 hx2 ((Q0 7 E ?_));refine Br h 15 E E (fun hc2 h=> ?_) (fun hc2 h=> ?_)
 ·refine G2 6 [15] [] [] E ?_;cases h;exact Rt [] E E (Ug [] 1 hR)
 refine G2 6 [] [15] [0] E (Cl E ?_);obtain ⟨_,hx3,h⟩:=Qi h;refine QeL hl1 hA1 hl2 hA2 hl3 hA3 hx3 ((Q0 7 E ?_));refine Br h 20 E E (fun hc3 h=> ?_) (fun hc3 h=> ?_)
 ·refine G2 6 [20] [] [] E ?_;cases h;exact Rt [] E E (Ug [] 1 hR)
 refine G2 4 [] [20] [] E ?_;refine Cut h (fun f l o_ f_ μ_ l_=> ∃(v1:Bool),v1=o_∧Qg ((31,.bool v1)::[]) f_∧Qd (QB [] 1 l) l_∧μ=μ_) ?_ ?_
 ·intro _ h227 h;refine G1 3 [0] E (Cl E ?_);obtain ⟨_,hx4,h227⟩:=Qi h227;refine W2  hx4 ((Q0 2 E ?_));refine Br h227 26 E E (fun hc4 h227=> ?_) (fun hc4 h227=> ?_)
  ·refine G2 6 [26] [] [] E ?_;cases h227;exact Ce E ⟨_,rfl,fE E,sE [] 1 E,rfl⟩
  refine G2 2 [] [26] [0] E (Cl E ?_);obtain ⟨_,hx5,h227⟩:=Qi h227;refine W2  hx5 ((Q2 3 [] [26] [] E ?_));cases h227;exact Ce E ⟨_,rfl,fE E,sE [] 1 E,rfl⟩
 rintro _ _ _ _ h _ ⟨v1,rfl,hF227,hS227,rfl⟩;refine Atn 0 hF227 hS227 E E ?_;refine Br h 31 E E (fun hc5 h=> ?_) (fun hc5 h=> ?_)
 ·refine G2 5 [31] [] [] E ?_;cases h;exact Rt [] E E (Ug [] 0 hR)
 refine G2 6 [] [31] [] E ?_;cases h;exact Rt [] E E (Ug [] 0 hR)
theorem Qhq  {s1:Qv} {A1:Option Addr} {c1:Nat} {res1:(List (Int×Bool))}
  (hl1:s1.Moves.length≤c1∧c1≤maxLen) (hA1:Qs QaK μ A1 s1.Moves) (h:Qa6 s1=some res1)
  (hR: ∀(g0:Nat) (es0:Array MapEntry) (cn0:Nat),Qc3 Value.bool es0 cn0 res1→R (.map (some g0)) μ ([(g0,.map es0 cn0)]::L)) :
  Fn Tryz.prog 57 [.agg #[.int .i64 s1.Container,.int .i64 s1.Start,.int .i64 s1.Every,.slice A1 s1.Moves.length c1]] μ (L) R:=by
 unfold Qa6 at h;refine FnS Tryz.func57 (by kernel_rfl) E Tryz.ntmps57 E E ?_;refine G0 2 E (Al E fun _=>Q0 4 E (So E (Qfq (fun g2=>Q1 10 [1] E ?_))));refine Cut h (fun f l o_ f_ μ_ l_=> ∃(m2:(List (Int×Bool))) (es4:Array MapEntry) (cn4:Nat),m2=o_∧Qg (Ql [3] f) f_∧Qd ([(g2,.map es4 cn4)]::QB [] 2 l) l_∧Qc3 Value.bool es4 cn4 m2∧μ=μ_) ?_ ?_
 ·intro _ h332 h;refine Lp h332 (fun f l (j_:(List (Int×Bool))×Int) f_ μ_ l_=>Y5 j_ fun m1 v1=> ∃(es1:Array MapEntry) (cn1:Nat),Qg ((10,.int .i64 v1)::Ql [3,8,9] f) f_∧Qd ([(g2,.map es1 cn1)]::QB [] 2 l) l_∧Qc3 Value.bool es1 cn1 m1∧μ=μ_) ⟨#[],0,fE E,sE [some 0] 2 E,((Qc3.nil (enc:=Value.bool))),E⟩ ?_;rintro ⟨m1,v1⟩ _ _ _ _ _ ⟨es1,cn1,hF349,hS349,hM1,rfl⟩ hb349 hq349;unfold VW at hb349;replace hb349:=Qn hb349;refine Atn 1 hF349 hS349 E E (G0 5 E ?_);refine Br hb349 11 E E (fun hc1 hb349=> ?_) (fun hc1 hb349=> ?_)
  ·refine G2 6 [11] [] [] E (Ix hb349 (Qs.rds hA1 L) E E fun _ _ _ _ hr1 hc2 _ hb349=> ?_);obtain rfl:=hr1;refine Q3 1 [] [] [64] (Z1 (hc2.push)) E (Al E fun _=>Q1 2 [0] E (Drk [1] 1 E [(true,0),(true,1),(true,2),(true,3),(true,4),(true,5),(false,6),(false,7)] (by kernel_rfl) (G1 6 [0,0] E (So E (QaA E E E (QdU Q9 E E E E 1 (b:=false) E hM1 E fun _ _ hM2=> ?_))))));refine ⟨Kp [0] 2 E,?_⟩;refine Q0 0 E (So E (QaA E E E (QdU Q9 E E E E 1 (b:=true) E hM2 E fun es3 cn3 hM3=> ?_)));refine ⟨Kp [0] 2 E,?_⟩;refine Q0 6 E ?_;cases hb349;exact Ce E ⟨_,rfl,es3,cn3,fE E,sE [some 1] 2 E,(hM3),rfl⟩
  refine G2 2 [] [11] [] E ?_;cases hb349;have hq_:=hq349 _ E;subst hq_;exact Ce E ⟨_,es1,cn1,rfl,fE E,sE [some 0] 1 E,(hM1),rfl⟩
 rintro _ _ _ _ h _ ⟨m2,es4,cn4,rfl,hF332,hS332,hM4,rfl⟩;refine Atn 1 hF332 hS332 E E (G0 5 E ?_);cases h;exact Rt [] E E (Ug [[0]] 1 (hR g2 es4 cn4 hM4))
theorem Qh8  {s1:Qv} {moved1:(List (Int×Bool))} {d1:Int} {A1:Option Addr} {c1:Nat} {g1:Nat} {es1:Array MapEntry} {cn1:Nat} {res1:Bool}
  (hl1:s1.Moves.length≤c1∧c1≤maxLen) (hA1:Qs QaK μ A1 s1.Moves) (ho1:VH μ L g1 (.map es1 cn1)) (hM1:Qc3 Value.bool es1 cn1 moved1) (h:QbH s1 moved1 d1=some res1)
  (hR:R (.bool res1) μ (L)) :
  Fn Tryz.prog 56 [.agg #[.int .i64 s1.Container,.int .i64 s1.Start,.int .i64 s1.Every,.slice A1 s1.Moves.length c1],.map (some g1),.int .i64 d1] μ (L) R:=by
 unfold QbH at h;refine FnS Tryz.func56 (by kernel_rfl) E Tryz.ntmps56 E E ?_;refine G0 2 E (Al E fun _=>Q0 7 E (Rdo E E (Qkr E E E E E E E E (Ex.mk _ (hM1.look (VH.push ho1) (zb:=false) E d1) (Q0 10 E ?_)))));refine Br h 15 E E (fun hc1 h=> ?_) (fun hc1 h=> ?_)
 ·refine G2 6 [15] [] [] E ?_;cases h;exact Rt [] E E (Ug [] 1 hR)
 refine G2 6 [] [15] [0] E (Cl E ?_);obtain ⟨_,hx1,h⟩:=Qi h;refine QaZ hl1 hA1 hx1 ((Q0 2 E ?_));cases h;exact Rt [] E E (Ug [] 1 hR)
theorem Qh7  {s1:Qv} {d1:Int} {A1:Option Addr} {c1:Nat} {res1:Bool}
  (hl1:s1.Moves.length≤c1∧c1≤maxLen) (hA1:Qs QaK μ A1 s1.Moves) (h:QbG s1 d1=some res1)
  (hR:R (.bool res1) μ (L)) :
  Fn Tryz.prog 29 [.agg #[.int .i64 s1.Container,.int .i64 s1.Start,.int .i64 s1.Every,.slice A1 s1.Moves.length c1],.int .i64 d1] μ (L) R:=by
 unfold QbG at h;refine FnS Tryz.func29 (by kernel_rfl) E Tryz.ntmps29 E E ?_;refine G0 2 E (Al E fun _=>Q0 3 E ?_);refine Cut h (fun f l o_ f_ μ_ l_=> ∃(v1:Bool),v1=o_∧Qg ((4,.bool v1)::[]) f_∧Qd (QB [] 1 l) l_∧μ=μ_) ?_ ?_
 ·intro _ h373 h;refine Dr _ QF.refl [(true,0),(false,1),(true,2),(true,3),(true,4),(true,5),(true,7),(false,6),(false,8),(true,9),(true,10)] (by kernel_rfl) (G1 1 [0] E (Cl E ?_));obtain ⟨_,hx1,h373⟩:=Qi h373;refine Qdk hl1 hA1 hx1 (?_);refine ⟨QF.refl,?_⟩;refine Q0 2 E ?_;refine Br h373 8 E E (fun hc1 h373=> ?_) (fun hc1 h373=> ?_)
  ·refine G2 3 [8] [] [0,0] E (Cl E ?_);obtain ⟨_,hx2,h373⟩:=Qi h373;refine Qhq hl1 hA1 hx2 (fun _ _ _ hM1=> ?_);refine ⟨QF.more (QF.refl),?_⟩;refine Q0 0 E (Cl E ?_);obtain ⟨_,hx3,h373⟩:=Qi h373;refine Qh8 hl1 hA1 (VH.seg 0 0 E E) hM1 hx3 (?_);refine ⟨QF.more (QF.refl),?_⟩;refine Q2 3 [8] [] [] E ?_;cases h373;exact Ce E ⟨_,rfl,fE E,sE [] 2 E,rfl⟩
  refine G2 8 [] [8] [] E ?_;cases h373;exact Ce E ⟨_,rfl,fE E,sE [] 1 E,rfl⟩
 rintro _ _ _ _ h _ ⟨v1,rfl,hF373,hS373,rfl⟩;refine Atn 0 hF373 hS373 E E ?_;cases h;exact Rt [] E E (Ug [] 0 hR)
theorem Qdq  {x1:Qv} {b1:Int} {b2:QJ} {A1:Option Addr} {c1:Nat} {g1:Nat} {g2:Nat} {A2:Option Addr} {c2:Nat} {A3:Option Addr} {c3:Nat} {A4:Option Addr} {c4:Nat} {res1:Bool}
  (hl1:x1.Moves.length≤c1∧c1≤maxLen) (hA1:Qs QaK μ A1 x1.Moves) (hl2:b2.c.length≤c2∧c2≤maxLen) (hA2:Qs Yq μ A2 b2.c) (hl3:b2.s.length≤c3∧c3≤maxLen) (hA3:Qs Yr μ A3 b2.s) (hl4:b2.f.length≤c4∧c4≤maxLen) (hA4:Qs J3 μ A4 b2.f) (h:JR x1 b1 b2=some res1)
  (hR:R (.bool res1) μ ([(g1,.cells #[.int .i64 b1] 3 (0,0))]::[(g2,.cells #[.slice A2 b2.c.length c2,.slice A3 b2.s.length c3,.slice A4 b2.f.length c4,.int .i64 b2.day,.int .i64 b2.level] 63 (0,0))]::L)) :
  Fn Tryz.prog 28 [.agg #[.int .i64 x1.Container,.int .i64 x1.Start,.int .i64 x1.Every,.slice A1 x1.Moves.length c1],.pointer (some ⟨g1,0,none⟩),.pointer (some ⟨g2,0,none⟩)] μ ([(g1,.cells #[.int .i64 b1] 3 (0,0))]::[(g2,.cells #[.slice A2 b2.c.length c2,.slice A3 b2.s.length c3,.slice A4 b2.f.length c4,.int .i64 b2.day,.int .i64 b2.level] 63 (0,0))]::L) R:=by
 unfold JR at h;refine FnS Tryz.func28 (by kernel_rfl) E Tryz.ntmps28 E E ?_;refine G0 2 E (Al E fun _=>Q0 3 E ?_);refine Cut h (fun f l o_ f_ μ_ l_=> ∃(v1:Bool),v1=o_∧Qg ((4,.bool v1)::[]) f_∧Qd (QB [] 1 l) l_∧μ=μ_) ?_ ?_
 ·intro _ h326 h;refine G1 6 [0,1] E ?_;refine Br h326 9 E E (fun hc1 h326=> ?_) (fun hc1 h326=> ?_)
  ·refine G2 3 [9] [] [0,2] E (Cl E ?_);obtain ⟨_,hx1,h326⟩:=Qi h326;refine Qh7 hl1 hA1 hx1 ((Q2 3 [9] [] [] E ?_));cases h326;exact Ce E ⟨_,rfl,fE E,sE [some 1,some 2] 3 E,rfl⟩
  refine G2 7 [] [9] [] E ?_;cases h326;exact Ce E ⟨_,rfl,fE E,sE [some 1,some 2] 3 E,rfl⟩
 rintro _ _ _ _ h _ ⟨v1,rfl,hF326,hS326,rfl⟩;refine Atn 2 hF326 hS326 E E ?_;cases h;exact Rt [] E E (Ug [[0],[1]] 2 hR)
theorem QbI  {s1:(List Qv)} {b1:Int} {b2:QJ} {A1:Option Addr} {c1:Nat} {g1:Nat} {g2:Nat} {A2:Option Addr} {c2:Nat} {A3:Option Addr} {c3:Nat} {A4:Option Addr} {c4:Nat} {res1:Int}
  (hl1:s1.length≤c1∧c1≤maxLen) (hA1:Rds Yr μ L A1 s1) (hl2:b2.c.length≤c2∧c2≤maxLen) (hA2:Qs Yq μ A2 b2.c) (hl3:b2.s.length≤c3∧c3≤maxLen) (hA3:Qs Yr μ A3 b2.s) (hl4:b2.f.length≤c4∧c4≤maxLen) (hA4:Qs J3 μ A4 b2.f) (h:ZN s1 b1 b2=some res1)
  (hR:R (.int .i64 res1) μ ([(g1,.cells #[.int .i64 b1] 3 (0,0))]::[(g2,.cells #[.slice A2 b2.c.length c2,.slice A3 b2.s.length c3,.slice A4 b2.f.length c4,.int .i64 b2.day,.int .i64 b2.level] 63 (0,0))]::L)) :
  Fn Tryz.prog 55 [.slice A1 s1.length c1,.func (.func 28) #[] #[.pointer (some ⟨g1,0,none⟩),.pointer (some ⟨g2,0,none⟩)]] μ ([(g1,.cells #[.int .i64 b1] 3 (0,0))]::[(g2,.cells #[.slice A2 b2.c.length c2,.slice A3 b2.s.length c3,.slice A4 b2.f.length c4,.int .i64 b2.day,.int .i64 b2.level] 63 (0,0))]::L) R:=by
 unfold ZN at h;refine FnS Tryz.func55 (by kernel_rfl) E Tryz.ntmps55 E E ?_;refine G0 11 E ?_;refine Cut h (fun f l o_ f_ μ_ l_=>(.inl ())=o_∧Qg ([]) f_∧Qd l l_∧μ=μ_) ?_ ?_
 ·intro _ h310 h;refine Lp h310 (fun f l (v1:Int) f_ μ_ l_=>Qg ((8,.int .i64 v1)::Ql [0,1,7] f) f_∧Qd l l_∧μ=μ_) ⟨fE E,sE [some 0,some 1] 2 E,E⟩ ?_;rintro v1 _ _ _ _ _ ⟨hF386,hS386,rfl⟩ hb386 hq386;unfold Zk at hb386;refine Atn 2 hF386 hS386 E E (G0 5 E ?_);refine Br hb386 9 E E (fun hc1 hb386=> ?_) (fun hc1 hb386=> ?_)
  ·refine G2 14 [9] [] [] E (Ix hb386 hA1 E E fun _ _ _ _ hr1 hc2 _ hb386=> ?_);obtain ⟨_,_,rfl,hl5,hA6⟩:=hr1;refine Q3 1 [] [] [64] (Z1 (hc2.push.push)) E (Cl E ?_);obtain ⟨_,hx2,hb386⟩:=Qi hb386;refine Qdq hl5 hA6 hl2 hA2 hl3 hA3 hl4 hA4 hx2 ((Q0 1 E ?_));refine Br hb386 16 E E (fun hc3 hb386=> ?_) (fun hc3 hb386=> ?_)
   ·refine G2 6 [16] [] [] E ?_;cases hb386;have hq_:=hq386 _ E;subst hq_;replace h:=QZ h;cases h;exact Rt [] E E (Ug [[0],[1]] 2 hR)
   refine G2 7 [] [16] [] E ?_;cases hb386;exact Ce E ⟨_,rfl,fE E,sE [some 0,some 1] 2 E,rfl⟩
  refine G2 2 [] [9] [] E ?_;cases hb386;have hq_:=hq386 _ E;subst hq_;exact Ce E ⟨rfl,fE E,sE [some 0,some 1] 2 E,rfl⟩
 rintro _ _ _ _ h _ ⟨rfl,hF310,hS310,rfl⟩;replace h:=Yp h;refine Atn 2 hF310 hS310 E E (G0 4 E ?_);cases h;exact Rt [] E E (Ug [[0],[1]] 2 hR)
theorem Qa7  {s1:(List Qv)} {b1:Int} {b2:QJ} {A1:Option Addr} {c1:Nat} {g1:Nat} {g2:Nat} {A2:Option Addr} {c2:Nat} {A3:Option Addr} {c3:Nat} {A4:Option Addr} {c4:Nat} {res1:Bool}
  (hl1:s1.length≤c1∧c1≤maxLen) (hA1:Rds Yr μ L A1 s1) (hl2:b2.c.length≤c2∧c2≤maxLen) (hA2:Qs Yq μ A2 b2.c) (hl3:b2.s.length≤c3∧c3≤maxLen) (hA3:Qs Yr μ A3 b2.s) (hl4:b2.f.length≤c4∧c4≤maxLen) (hA4:Qs J3 μ A4 b2.f) (h:Zi s1 b1 b2=some res1)
  (hR:R (.bool res1) μ ([(g1,.cells #[.int .i64 b1] 3 (0,0))]::[(g2,.cells #[.slice A2 b2.c.length c2,.slice A3 b2.s.length c3,.slice A4 b2.f.length c4,.int .i64 b2.day,.int .i64 b2.level] 63 (0,0))]::L)) :
  Fn Tryz.prog 27 [.slice A1 s1.length c1,.func (.func 28) #[] #[.pointer (some ⟨g1,0,none⟩),.pointer (some ⟨g2,0,none⟩)]] μ ([(g1,.cells #[.int .i64 b1] 3 (0,0))]::[(g2,.cells #[.slice A2 b2.c.length c2,.slice A3 b2.s.length c3,.slice A4 b2.f.length c4,.int .i64 b2.day,.int .i64 b2.level] 63 (0,0))]::L) R:=by
 unfold Zi at h;refine FnS Tryz.func27 (by kernel_rfl) E Tryz.ntmps27 E E ?_;refine G0 8 E (Cl E ?_);obtain ⟨_,hx1,h⟩:=Qi h;refine QbI hl1 hA1 hl2 hA2 hl3 hA3 hl4 hA4 hx1 ((Q0 3 E ?_));cases h;exact Rt [] E E (Ug [[0],[1]] 2 hR)
theorem Qc5  {x1:Q8} {b1:Int} {g1:Nat} {res1:Bool}
   (h:V5 x1 b1=some res1)
  (hR:R (.bool res1) μ ([(g1,.cells #[.int .i64 b1] 3 (0,0))]::L)) :
  Fn Tryz.prog 32 [.agg #[.int .i64 x1.Container,.int .i64 x1.Mass.Lo,.int .i64 x1.Mass.Hi],.pointer (some ⟨g1,0,none⟩)] μ ([(g1,.cells #[.int .i64 b1] 3 (0,0))]::L) R:=by
 unfold V5 at h;refine FnS Tryz.func32 (by kernel_rfl) E Tryz.ntmps32 E E ?_;refine G0 2 E (Al E fun _=>Q1 10 [0,1] E ?_);cases h;exact Rt [] E E (Ug [[1]] 2 hR)
theorem Qcl  {s1:(List Q8)} {b1:Int} {A1:Option Addr} {c1:Nat} {g1:Nat} {res1:Int}
  (hl1:s1.length≤c1∧c1≤maxLen) (hA1:Rds J3 μ L A1 s1) (h:JN s1 b1=some res1)
  (hR:R (.int .i64 res1) μ ([(g1,.cells #[.int .i64 b1] 3 (0,0))]::L)) :
  Fn Tryz.prog 31 [.slice A1 s1.length c1,.func (.func 32) #[] #[.pointer (some ⟨g1,0,none⟩)]] μ ([(g1,.cells #[.int .i64 b1] 3 (0,0))]::L) R:=by
 unfold JN at h;refine FnS Tryz.func31 (by kernel_rfl) E Tryz.ntmps31 E E ?_;refine G0 11 E ?_;refine Cut h (fun f l o_ f_ μ_ l_=>(.inl ())=o_∧Qg ([]) f_∧Qd l l_∧μ=μ_) ?_ ?_
 ·intro _ h422 h;refine Lp h422 (fun f l (v1:Int) f_ μ_ l_=>Qg ((8,.int .i64 v1)::Ql [0,1,7] f) f_∧Qd l l_∧μ=μ_) ⟨fE E,sE [some 0] 1 E,E⟩ ?_;rintro v1 _ _ _ _ _ ⟨hF430,hS430,rfl⟩ hb430 hq430;unfold Wt at hb430;refine Atn 1 hF430 hS430 E E (G0 5 E ?_);refine Br hb430 9 E E (fun hc1 hb430=> ?_) (fun hc1 hb430=> ?_)
  ·refine G2 14 [9] [] [] E (Ix hb430 hA1 E E fun _ _ _ _ hr1 hc2 _ hb430=> ?_);obtain rfl:=hr1;refine Q3 1 [] [] [64] (Z1 (hc2.push)) E (Cl E ?_);obtain ⟨_,hx2,hb430⟩:=Qi hb430;refine Qc5  hx2 ((Q0 1 E ?_));refine Br hb430 16 E E (fun hc3 hb430=> ?_) (fun hc3 hb430=> ?_)
   ·refine G2 6 [16] [] [] E ?_;cases hb430;have hq_:=hq430 _ E;subst hq_;replace h:=QZ h;cases h;exact Rt [] E E (Ug [[0]] 1 hR)
   refine G2 7 [] [16] [] E ?_;cases hb430;exact Ce E ⟨_,rfl,fE E,sE [some 0] 1 E,rfl⟩
  refine G2 2 [] [9] [] E ?_;cases hb430;have hq_:=hq430 _ E;subst hq_;exact Ce E ⟨rfl,fE E,sE [some 0] 1 E,rfl⟩
 rintro _ _ _ _ h _ ⟨rfl,hF422,hS422,rfl⟩;replace h:=Yp h;refine Atn 1 hF422 hS422 E E (G0 4 E ?_);cases h;exact Rt [] E E (Ug [[0]] 1 hR)
theorem Qbl  {t1:QJ} {i1:Int} {A1:Option Addr} {c1:Nat} {A2:Option Addr} {c2:Nat} {A3:Option Addr} {c3:Nat} {res1:Int} {res2:Bool}
  (hl1:t1.c.length≤c1∧c1≤maxLen) (hA1:Qs Yq μ A1 t1.c) (hl2:t1.s.length≤c2∧c2≤maxLen) (hA2:Qs Yr μ A2 t1.s) (hl3:t1.f.length≤c3∧c3≤maxLen) (hA3:Qs J3 μ A3 t1.f) (h:Z8 t1 i1=some (res1,res2))
  (hR:R (.tuple #[.int .i64 res1,.bool res2]) μ (L)) :
  Fn Tryz.prog 14 [.agg #[.slice A1 t1.c.length c1,.slice A2 t1.s.length c2,.slice A3 t1.f.length c3,.int .i64 t1.day,.int .i64 t1.level],.int .i64 i1] μ (L) R:=by
 unfold Z8 at h;refine FnS Tryz.func14 (by kernel_rfl) E Tryz.ntmps14 E E ?_;refine G0 2 E (Al E fun _=>Q0 0 E (Al E fun _=>Q1 8 [1] E (Cl E ?_)));obtain ⟨_,hx1,h⟩:=Qi h;refine Qcl hl3 (Qs.rds hA3 _) hx1 ((Q0 8 E ?_));refine Br h 12 E E (fun hc1 h=> ?_) (fun hc1 h=> ?_)
 ·refine G2 6 [12] [] [1,0] E (Ix h (Qs.rds hA1 L) E E fun _ _ _ _ hr1 hc2 _ h=> ?_);obtain rfl:=hr1;refine Q3 5 [] [] [67] (Z1 (hc2.push.push)) E ?_;cases h;exact Rt [] E E (Ug [] 2 hR)
 refine G2 7 [] [12] [1] E (Ix h (Qs.rds hA3 L) E E fun _ _ _ _ hr2 hc3 _ h=> ?_);obtain rfl:=hr2;refine Q3 6 [] [] [66] (Z1 (hc3.push.push)) E ?_;cases h;exact Rt [] E E (Ug [] 2 hR)
theorem Qf1  {c1:QA} {grams1:Int}  {res1:Int} {res2:Int}
   (h:Qaf c1 grams1=some (res1,res2))
  (hR:R (.tuple #[.int .i64 res1,.int .i64 res2]) μ (L)) :
  Fn Tryz.prog 30 [.agg #[.string c1.ID,.int .i64 c1.Kind,.int .i64 c1.Litres,.int .i64 c1.Grams,.int .i64 c1.Node],.int .i64 grams1] μ (L) R:=by
 unfold Qaf at h;refine FnS Tryz.func30 (by kernel_rfl) E Tryz.ntmps30 E E ?_;refine G0 2 E (Al E fun _=>Q0 5 E ?_);refine Cut h (fun f l o_ f_ μ_ l_=> ∃(v1:Bool),v1=o_∧Qg ((21,.bool v1)::Ql [1,2] f) f_∧Qd l l_∧μ=μ_) ?_ ?_
 ·intro _ h440 h;refine G1 5 [0] E ?_;refine Br h440 9 E E (fun hc1 h440=> ?_) (fun hc1 h440=> ?_)
  ·refine G2 13 [9,14,18] [] [] E ?_;cases h440;exact Ce E ⟨_,rfl,fE E,sE [some 0] 1 E,rfl⟩
  refine G2 5 [] [9] [0] E ?_;refine Br h440 14 E E (fun hc2 h440=> ?_) (fun hc2 h440=> ?_)
  ·refine G2 8 [14,18] [] [] E ?_;cases h440;exact Ce E ⟨_,rfl,fE E,sE [some 0] 1 E,rfl⟩
  refine G2 4 [] [14] [] E ?_;refine Br h440 18 E E (fun hc3 h440=> ?_) (fun hc3 h440=> ?_)
  ·refine G2 4 [18] [] [] E ?_;cases h440;exact Ce E ⟨_,rfl,fE E,sE [some 0] 1 E,rfl⟩
  refine G2 4 [] [18] [] E ?_;cases h440;exact Ce E ⟨_,rfl,fE E,sE [some 0] 1 E,rfl⟩
 rintro _ _ _ _ h _ ⟨v1,rfl,hF440,hS440,rfl⟩;refine Atn 1 hF440 hS440 E E ?_;refine Br h 21 E E (fun hc4 h=> ?_) (fun hc4 h=> ?_)
 ·refine G2 6 [21] [] [] E ?_;cases h;exact Rt [] E E (Ug [] 1 hR)
 obtain ⟨_,hg1,h⟩:=Qi h;refine G2 12 [] [21] [0,0] E (Rdo E E (Qqy E E ?_));refine ⟨Ja hg1,?_⟩;refine Q0 4 E ?_;cases h;exact Rt [] E E (Ug [] 1 hR)
theorem Qd8  {t1:QJ} {i1:Int} {A1:Option Addr} {c1:Nat} {A2:Option Addr} {c2:Nat} {A3:Option Addr} {c3:Nat} {res1:Int}
  (hl1:t1.c.length≤c1∧c1≤maxLen) (hA1:Qs Yq μ A1 t1.c) (hl2:t1.s.length≤c2∧c2≤maxLen) (hA2:Qs Yr μ A2 t1.s) (hl3:t1.f.length≤c3∧c3≤maxLen) (hA3:Qs J3 μ A3 t1.f) (h:Wx t1 i1=some res1)
  (hR:R (.int .i64 res1) μ (L)) :
  Fn Tryz.prog 13 [.agg #[.slice A1 t1.c.length c1,.slice A2 t1.s.length c2,.slice A3 t1.f.length c3,.int .i64 t1.day,.int .i64 t1.level],.int .i64 i1] μ (L) R:=by
 unfold Wx at h;refine FnS Tryz.func13 (by kernel_rfl) E Tryz.ntmps13 E E ?_;refine G0 2 E (Al E fun _=>Q0 0 E (Al E fun _=>Q1 12 [1] E (Cl E ?_)));obtain ⟨_,hx1,h⟩:=Qi h;refine Qa7 hl2 (Qs.rds hA2 _) hl1 hA1 hl2 hA2 hl3 hA3 hx1 ((Q0 1 E ?_));refine Cut h (fun f l o_ f_ μ_ l_=> ∃(n1:Int),n1=o_∧Qg ((5,.int .i64 n1)::Ql [2,3] f) f_∧Qd (QB [some 1,some 0] 2 l) l_∧μ=μ_) ?_ ?_
 ·intro _ h410 h;refine Br h410 13 E E (fun hc1 h410=> ?_) (fun hc1 h410=> ?_)
  ·refine G2 3 [13] [] [] E (Rdo E E (QrN E E (Q0 2 E ?_)));cases h410;exact Ce E ⟨_,rfl,fE E,sE [some 1,some 0] 2 E,rfl⟩
  refine G2 2 [] [13] [] E ?_;cases h410;exact Ce E ⟨_,rfl,fE E,sE [some 1,some 0] 2 E,rfl⟩
 rintro _ _ _ _ h _ ⟨n1,rfl,hF410,hS410,rfl⟩;refine Atn 2 hF410 hS410 E E (G1 4 [0,1] E (Cl E ?_));obtain ⟨⟨_,_⟩,hx2,h⟩:=Qi h;replace h:=Qn h;refine Qbl hl1 hA1 hl2 hA2 hl3 hA3 hx2 ((Q1 12 [0,1] E (Ix h (Qs.rds hA1 L) E E fun _ _ _ _ hr1 hc2 _ h=> ?_)));obtain rfl:=hr1;refine Q3 2 [] [] [64] (Z1 (hc2.push.push)) E (Cl E ?_);obtain ⟨⟨_,_⟩,hx4,h⟩:=Qi h;replace h:=Qn h;refine Qf1  hx4 ((Q0 7 E ?_));refine Cut h (fun f l o_ f_ μ_ l_=> ∃(v1:Bool),v1=o_∧Qg ((42,.bool v1)::Ql [5] f) f_∧Qd (QB [] 2 l) l_∧μ=μ_) ?_ ?_
 ·intro _ h443 h;refine G0 3 E ?_;refine Br h443 33 E E (fun hc3 h443=> ?_) (fun hc3 h443=> ?_)
  ·refine G2 4 [33] [] [] E ?_;refine Br h443 37 E E (fun hc4 h443=> ?_) (fun hc4 h443=> ?_)
   ·refine G2 6 [37] [] [0] E ?_;cases h443;exact Ce E ⟨_,rfl,fE E,sE [] 2 E,rfl⟩
   refine G2 6 [] [37] [] E ?_;cases h443;exact Ce E ⟨_,rfl,fE E,sE [] 2 E,rfl⟩
  refine G2 10 [] [33,37] [] E ?_;cases h443;exact Ce E ⟨_,rfl,fE E,sE [] 2 E,rfl⟩
 rintro _ _ _ _ h _ ⟨v1,rfl,hF443,hS443,rfl⟩;refine Atn 0 hF443 hS443 E E ?_;refine Cut h (fun f l o_ f_ μ_ l_=> ∃(n2:Int),n2=o_∧Qg ((5,.int .i64 n2)::[]) f_∧Qd l l_∧μ=μ_) ?_ ?_
 ·intro _ h444 h;refine Br h444 42 E E (fun hc5 h444=> ?_) (fun hc5 h444=> ?_)
  ·refine G2 3 [42] [] [] E (Rdo E E (QrN E E (Q0 2 E ?_)));cases h444;exact Ce E ⟨_,rfl,fE E,sE [] 0 E,rfl⟩
  refine G2 2 [] [42] [] E ?_;cases h444;exact Ce E ⟨_,rfl,fE E,sE [] 0 E,rfl⟩
 rintro _ _ _ _ h _ ⟨n2,rfl,hF444,hS444,rfl⟩;refine Atn 0 hF444 hS444 E E (G0 5 E ?_);cases h;exact Rt [] E E (Ug [] 0 hR)
theorem QeJ {F:Nat} {c1:(List QA)} {s1:(List Qv)} {f1:(List Q8)} {day1:Int} {level1:Int} {w1:ZX} {service1:Int} {A1:Option Addr} {c2:Nat} {A2:Option Addr} {c3:Nat} {A3:Option Addr} {c4:Nat} {res1:(List Qt)} {res2:Int}
  (hl1:c1.length≤c2∧c2≤maxLen) (hA1:Qs Yq μ A1 c1) (hl2:s1.length≤c3∧c3≤maxLen) (hA2:Qs Yr μ A2 s1) (hl3:f1.length≤c4∧c4≤maxLen) (hA3:Qs J3 μ A3 f1) (h:Vu F c1 s1 f1 day1 level1 w1 service1=some (res1,res2))
  (hR: ∀(A0:Option Addr) (c0:Nat) (ch0:Seg),Own QH 60 μ (.slice A0 res1.length c0) res1 ch0→R (.tuple #[.slice A0 res1.length c0,.int .i64 res2]) μ (ch0::L)) :
  Fn Tryz.prog 5 [.slice A1 c1.length c2,.slice A2 s1.length c3,.slice A3 f1.length c4,.int .i64 day1,.int .i64 level1,.agg #[.int .i64 w1.From,.int .i64 w1.To],.int .i64 service1] μ (L) R:=by
 unfold Vu at h;refine FnS Tryz.func5 (by kernel_rfl) E Tryz.ntmps5 E E ?_;refine G0 2 E (Al E fun g1=>Q0 11 E (Al E fun g2=>Q1 6 [0,0] E (Cl E ?_)));obtain ⟨_,hx1,h⟩:=Qi h;refine QeK hl1 hA1 hl2 hA2 hl3 hA3 hx1 ((Q0 7 E ?_));refine Br h 32 E E (fun hc1 h=> ?_) (fun hc1 h=> ?_)
 ·refine G2 7 [32] [] [] E ?_;cases h;exact Rt [] E E (Ug [[]] 2 (hR none 0 [] Own.nil))
 refine G2 4 [] [32] [] E ?_;refine Cut h (fun f l o_ f_ μ_ l_=> ∃(v1:Bool),v1=o_∧Qg ((53,.bool v1)::Ql [0,6,12,16] f) f_∧Qd (QB [some 1,some 0] 2 l) l_∧μ=μ_) ?_ ?_
 ·intro _ h273 h;refine G1 5 [1] E ?_;refine Br h273 37 E E (fun hc2 h273=> ?_) (fun hc2 h273=> ?_)
  ·refine G2 17 [37,44,49] [] [] E ?_;cases h273;exact Ce E ⟨_,rfl,fE E,sE [some 1,some 0] 2 E,rfl⟩
  refine G2 7 [] [37] [1,1] E ?_;refine Br h273 44 E E (fun hc3 h273=> ?_) (fun hc3 h273=> ?_)
  ·refine G2 10 [44,49] [] [] E ?_;cases h273;exact Ce E ⟨_,rfl,fE E,sE [some 1,some 0] 2 E,rfl⟩
  refine G2 5 [] [44] [1] E ?_;refine Br h273 49 E E (fun hc4 h273=> ?_) (fun hc4 h273=> ?_)
  ·refine G2 5 [49] [] [] E ?_;cases h273;exact Ce E ⟨_,rfl,fE E,sE [some 1,some 0] 2 E,rfl⟩
  refine G2 1 [] [49] [] E (Cl E ?_);obtain ⟨_,hx2,h273⟩:=Qi h273;refine W2  hx2 ((Q2 3 [] [49] [] E ?_));cases h273;exact Ce E ⟨_,rfl,fE E,sE [some 1,some 0] 2 E,rfl⟩
 rintro _ _ _ _ h _ ⟨v1,rfl,hF273,hS273,rfl⟩;refine Atn 2 hF273 hS273 E E ?_;refine Br h 53 E E (fun hc5 h=> ?_) (fun hc5 h=> ?_)
 ·refine G2 6 [53] [] [] E ?_;cases h;exact Rt [] E E (Ug [[]] 2 (hR none 0 [] Own.nil))
 refine G2 13 [] [53] [] E ?_;refine Cut h (fun f l o_ f_ μ_ l_=> ∃(out3:(List Qt)) (A7:Option Addr) (c8:Nat) (ch4:Seg),out3=o_∧Qg ((18,.slice A7 out3.length c8)::[]) f_∧Qd (ch4::QB [] 2 l) l_∧Own QH 60 μ_ (.slice A7 out3.length c8) out3 ch4∧μ=μ_) ?_ ?_
 ·intro _ h282 h;refine Lp h282 (fun f l (j_:(List Qt)×Int) f_ μ_ l_=>Y5 j_ fun out1 v2=> ∃(A4:Option Addr) (c5:Nat) (ch1:Seg),Qg ((18,.slice A4 out1.length c5)::(56,.int .i64 v2)::Ql [6,12,16,54,55] f) f_∧Qd ([(g1,.cells #[.int .i64 w1.From,.int .i64 w1.To] 36 (0,0))]::[(g2,.cells #[.slice A1 c1.length c2,.slice A2 s1.length c3,.slice A3 f1.length c4,.int .i64 day1,.int .i64 level1] 63 (0,0))]::ch1::QB [] 2 l) l_∧Own QH 60 μ_ (.slice A4 out1.length c5) out1 ch1∧μ=μ_) ⟨none,0,[],fE E,sE [some 0,some 1,none] 2 E,(Own.nil),E⟩ ?_;rintro ⟨out1,v2⟩ _ _ _ _ _ ⟨A4,c5,ch1,hF453,hS453,hO1,rfl⟩ hb453 hq453;unfold QaB at hb453;replace hb453:=Qn hb453;refine Atn 3 hF453 hS453 E E (G0 5 E ?_);refine Br hb453 57 E E (fun hc6 hb453=> ?_) (fun hc6 hb453=> ?_)
  ·refine G2 3 [57] [] [] E ?_;refine Cut hb453 (fun f l o_ f_ μ_ l_=> ∃(out2:(List Qt)) (A6:Option Addr) (c7:Nat) (ch3:Seg),out2=o_∧Qg ((18,.slice A6 out2.length c7)::Ql [6,12,16,54,55,56] f) f_∧Qd ([(g1,.cells #[.int .i64 w1.From,.int .i64 w1.To] 36 (0,0))]::[(g2,.cells #[.slice A1 c1.length c2,.slice A2 s1.length c3,.slice A3 f1.length c4,.int .i64 day1,.int .i64 level1] 63 (0,0))]::ch3::QB [] 3 l) l_∧Own QH 60 μ_ (.slice A6 out2.length c7) out2 ch3∧μ=μ_) ?_ ?_
   ·intro _ h462 hb453;refine G0 4 E (Ix h462 (Qs.rds hA1 L) E E fun x1 _ _ _ hr1 hc7 _ h462=> ?_);obtain rfl:=hr1;refine Q3 1 [] [] [64] (Z1 (hc7.push.push.push)) E (Al E fun _=>Q1 8 [0,2] E (Cl E ?_));obtain ⟨_,hx4,h462⟩:=Qi h462;refine Qd8 hl1 hA1 hl2 hA2 hl3 hA3 hx4 ((Q0 2 E ?_));refine Br h462 64 E E (fun hc8 h462=> ?_) (fun hc8 h462=> ?_)
    ·refine G2 2 [64] [] [] E ?_;cases h462;exact Ce E ⟨_,A4,c5,ch1,rfl,fE E,sE [some 1,some 2,some 3] 4 E,(hO1),rfl⟩
    refine G2 6 [] [64] [2] E (Cl E ?_);obtain ⟨⟨r4,_⟩,hx5,h462⟩:=Qi h462;replace h462:=Qn h462;refine Qbl hl1 hA1 hl2 hA2 hl3 hA3 hx5 ((Q1 17 [0,0,1] E (So E (Qau (z:=[.int .i64 0,.int .i64 0,.int .i64 0,.int .i64 0,.int .i64 0,.int .i64 0,.int .i64 0]) E E E E E E E (YP (cells':=[.int .i64 v2,.int .i64 x1.Node,.int .i64 x1.Kind,.int .i64 r4,.int .i64 w1.From,.int .i64 w1.To,.int .i64 service1]) E E E E (Vt (fun g4=>Q0 0 E (So E (Z7 E ?_)))))))));obtain ⟨_,hz1,h462⟩:=Qi h462;refine JU (r:=QH) Q9 E E E E (by decide) E E 4 E hO1 E (Own.rds (Own.lit (r:=QH) (e:=60) (g:=g4) (xs:=[(Qt.mk v2 x1.Node x1.Kind r4 w1 service1)]) (cs:=[.int .i64 v2,.int .i64 x1.Node,.int .i64 x1.Kind,.int .i64 r4,.int .i64 w1.From,.int .i64 w1.To,.int .i64 service1]) (css:=[[.int .i64 v2,.int .i64 x1.Node,.int .i64 x1.Kind,.int .i64 r4,.int .i64 w1.From,.int .i64 w1.To,.int .i64 service1]]) E (All2.cons (E) (All2.nil)) E E) 0 E) hz1 fun A5 c6 ch2 hO2=>Q0 3 E ?_;cases h462;exact Ce E ⟨_,A5,c6,ch2,rfl,fE E,sE [some 2,some 3,some 4] 5 E,(hO2),rfl⟩
   rintro _ _ _ _ hb453 _ ⟨out2,A6,c7,ch3,rfl,hF462,hS462,hO3,rfl⟩;refine Atn 3 hF462 hS462 E E (G0 4 E ?_);cases hb453;exact Ce E ⟨_,rfl,A6,c7,ch3,fE E,sE [some 0,some 1,some 2] 3 E,(hO3),rfl⟩
  refine G2 2 [] [57] [] E ?_;cases hb453;have hq_:=hq453 _ E;subst hq_;exact Ce E ⟨_,A4,c5,ch1,rfl,fE E,sE [some 2] 3 E,(hO1),rfl⟩
 rintro _ _ _ _ h _ ⟨out3,A7,c8,ch4,rfl,hF282,hS282,hO4,rfl⟩;refine Atn 1 hF282 hS282 E E (G0 7 E ?_);refine Br h 86 E E (fun hc9 h=> ?_) (fun hc9 h=> ?_)
 ·refine G2 6 [86] [] [] E ?_;cases h;exact Rt [] E E (Ug [[]] 1 (hR none 0 [] Own.nil))
 refine G2 8 [] [86] [] E ?_;cases h;exact Rt [] E E (Ug [[0]] 1 (hR A7 c8 ch4 hO4))
theorem Wn {F:Nat}   {res1:Bool}
   (h:Yh F=some res1)
  (hR: ∀(μ':Gh) ,μ.le μ'→R (.bool res1) μ' (L)) :
  Fn Tryz.prog 4 [] μ (L) R:=by
 unfold Yh at h;refine FnS Tryz.func4 (by kernel_rfl) E Tryz.ntmps4 E E ?_;refine G0 7 E (So E (Qau (z:=[.string ⟨#[]⟩,.int .i64 0,.int .i64 0,.int .i64 0,.int .i64 0]) E E E E E E E (YP (cells':=[.string ⟨#[99]⟩,.int .i64 0,.int .i64 100,.int .i64 1000,.int .i64 0]) E E E E (Vt (fun g1=>Q0 1 E (So E (Qau (z:=[.int .i64 0,.int .i64 0,.int .i64 0,.slice none 0 0]) E E E E E E E (YP (cells':=[.int .i64 0,.int .i64 0,.int .i64 7,.slice none 0 0]) E E E E (Vt (fun g2=>Q0 1 E (Cl E ?_)))))))))));have hl1:[(QA.mk ⟨#[99]⟩ 0 100 1000 0)].length≤1∧1≤maxLen:=⟨Nat.le_refl _,by unfold maxLen;omega⟩
 refine Fn.pre Tryz.func5 (by kernel_rfl) E (Upd.frzOwn 1 E (Own.lit (r:=Yq) (e:=55) (g:=g1) (xs:=[(QA.mk ⟨#[99]⟩ 0 100 1000 0)]) (cs:=[.string ⟨#[99]⟩,.int .i64 0,.int .i64 100,.int .i64 1000,.int .i64 0]) (css:=[[.string ⟨#[99]⟩,.int .i64 0,.int .i64 100,.int .i64 1000,.int .i64 0]]) E (All2.cons (E) (All2.nil)) E E) fun _ hm_1 hA1=>Upd.done ?_);have hl2:[(Qv.mk 0 0 7 [])].length≤1∧1≤maxLen:=⟨Nat.le_refl _,by unfold maxLen;omega⟩
 refine Fn.pre Tryz.func5 (by kernel_rfl) E (Upd.frzOwn 0 E (Own.lit (r:=Yr) (e:=58) (g:=g2) (xs:=[(Qv.mk 0 0 7 [])]) (cs:=[.int .i64 0,.int .i64 0,.int .i64 7,.slice none 0 0]) (css:=[[.int .i64 0,.int .i64 0,.int .i64 7,.slice none 0 0]]) E (All2.cons (⟨none,0,E,⟨Nat.le_refl _,Nat.zero_le _⟩,Qs.nil⟩) (All2.nil)) E E) fun _ hm_2 hA2=>Upd.done ?_);replace hA1:=hA1.mono hm_2;obtain ⟨⟨_,_⟩,hx1,h⟩:=Qi h;replace h:=Qn h;refine QeJ hl1 hA1 hl2 hA2 ⟨Nat.le_refl _,Nat.zero_le _⟩ Qs.nil hx1 (fun _ _ _ hO1=>Q0 7 E ?_);refine Cut h (fun f l o_ f_ μ_ l_=> ∃(v3:Bool),v3=o_∧Qg ((0,.bool v3)::[]) f_∧Qd (QB [] 3 l) l_) ?_ ?_
 ·intro _ h491 h;refine G0 4 E ?_;refine Br h491 14 E E (fun hc1 h491=> ?_) (fun hc1 h491=> ?_)
  ·refine G2 5 [14] [] [] E ?_;refine Br h491 19 E E (fun hc2 h491=> ?_) (fun hc2 h491=> ?_)
   ·refine G2 1 [19] [] [] E (IxA h491 (Own.rds hO1 0 E) E E fun _ _ _ _ hr1 hc3 _ h491=> ?_);obtain rfl:=hr1;refine Q3 6 [19] [] [67] (Z1 hc3) E ?_;cases h491;exact Ce E ⟨_,rfl,fE E,sE [] 3 E⟩
   refine G2 8 [] [19] [] E ?_;cases h491;exact Ce E ⟨_,rfl,fE E,sE [] 3 E⟩
  refine G2 13 [] [14,19] [] E ?_;cases h491;exact Ce E ⟨_,rfl,fE E,sE [] 3 E⟩
 rintro _ _ _ _ h hm491 ⟨v3,rfl,hF491,hS491⟩;refine Atn 0 hF491 hS491 E E ?_;cases h;exact Rt [] E E (Ug [] 0 (hR _ (hm_1.trans (hm_2.trans hm491))))
theorem QdP  {r1:QR} {A1:Option Addr} {c1:Nat} {res1:Int}
  (hl1:r1.Edges.length≤c1∧c1≤maxLen) (hA1:Qs QY μ A1 r1.Edges) (h:Jd r1=some res1)
  (hR:R (.int .i64 res1) μ (L)) :
  Fn Tryz.prog 15 [.agg #[.int .i64 r1.Nodes,.slice A1 r1.Edges.length c1]] μ (L) R:=by
 unfold Jd at h;refine FnS Tryz.func15 (by kernel_rfl) E Tryz.ntmps15 E E ?_;refine G0 2 E (Al E fun _=>Q0 4 E ?_);refine Cut h (fun f l o_ f_ μ_ l_=> ∃(v1:Bool),v1=o_∧Qg ((12,.bool v1)::Ql [1] f) f_∧Qd l l_∧μ=μ_) ?_ ?_
 ·intro _ h527 h;refine G1 5 [0] E ?_;refine Br h527 8 E E (fun hc1 h527=> ?_) (fun hc1 h527=> ?_)
  ·refine G2 5 [8] [] [] E ?_;cases h527;exact Ce E ⟨_,rfl,fE E,sE [some 0] 1 E,rfl⟩
  refine G2 5 [] [8] [0] E ?_;cases h527;exact Ce E ⟨_,rfl,fE E,sE [some 0] 1 E,rfl⟩
 rintro _ _ _ _ h _ ⟨v1,rfl,hF527,hS527,rfl⟩;refine Atn 1 hF527 hS527 E E ?_;refine Br h 12 E E (fun hc2 h=> ?_) (fun hc2 h=> ?_)
 ·refine G2 5 [12] [] [] E ?_;cases h;exact Rt [] E E (Ug [] 1 hR)
 refine G2 10 [] [12] [0] E ?_;refine Br h 16 E E (fun hc3 h=> ?_) (fun hc3 h=> ?_)
 ·refine G2 5 [16] [] [] E ?_;cases h;exact Rt [] E E (Ug [] 1 hR)
 refine G2 10 [] [16] [0] E ?_;refine Cut h (fun f l o_ f_ μ_ l_=>(.inl ())=o_∧Qg ([]) f_∧Qd (QB [] 1 l) l_∧μ=μ_) ?_ ?_
 ·intro _ h530 h;refine Lp h530 (fun f l (v2:Int) f_ μ_ l_=>Qg ((20,.int .i64 v2)::Ql [1,18,19] f) f_∧Qd l l_∧μ=μ_) ⟨fE E,sE [some 0] 1 E,E⟩ ?_;rintro v2 _ _ _ _ _ ⟨hF545,hS545,rfl⟩ hb545 hq545;unfold YQ at hb545;refine Atn 1 hF545 hS545 E E (G0 5 E ?_);refine Br hb545 21 E E (fun hc4 hb545=> ?_) (fun hc4 hb545=> ?_)
  ·refine G2 6 [21] [] [] E (Ix hb545 (Qs.rds hA1 L) E E fun _ _ _ _ hr1 hc5 _ hb545=> ?_);obtain rfl:=hr1;refine Q3 1 [] [] [64] (Z1 (hc5.push)) E (Al E fun _=>Q1 4 [0] E ?_);refine Cut hb545 (fun f l o_ f_ μ_ l_=> ∃(v3:Bool),v3=o_∧Qg ((45,.bool v3)::Ql [1,4,18,19,20] f) f_∧Qd (QB [some 1,some 0] 2 l) l_∧μ=μ_) ?_ ?_
   ·intro _ h551 hb545;refine G1 5 [0] E ?_;refine Br h551 27 E E (fun hc6 h551=> ?_) (fun hc6 h551=> ?_)
    ·refine G2 19 [27,34,39] [] [] E ?_;cases h551;exact Ce E ⟨_,rfl,fE E,sE [some 1,some 0] 2 E,rfl⟩
    refine G2 7 [] [27] [0,1] E ?_;refine Br h551 34 E E (fun hc7 h551=> ?_) (fun hc7 h551=> ?_)
    ·refine G2 12 [34,39] [] [] E ?_;cases h551;exact Ce E ⟨_,rfl,fE E,sE [some 1,some 0] 2 E,rfl⟩
    refine G2 5 [] [34] [0] E ?_;refine Br h551 39 E E (fun hc8 h551=> ?_) (fun hc8 h551=> ?_)
    ·refine G2 7 [39] [] [] E ?_;cases h551;exact Ce E ⟨_,rfl,fE E,sE [some 1,some 0] 2 E,rfl⟩
    refine G2 7 [] [39] [0,1] E ?_;cases h551;exact Ce E ⟨_,rfl,fE E,sE [some 1,some 0] 2 E,rfl⟩
   rintro _ _ _ _ hb545 _ ⟨v3,rfl,hF551,hS551,rfl⟩;refine Atn 2 hF551 hS551 E E ?_;refine Br hb545 45 E E (fun hc9 hb545=> ?_) (fun hc9 hb545=> ?_)
   ·refine G2 5 [45] [] [] E ?_;cases hb545;have hq_:=hq545 _ E;subst hq_;replace h:=QZ h;cases h;exact Rt [] E E (Ug [] 2 hR)
   refine G2 3 [] [45] [] E ?_;refine Cut hb545 (fun f l o_ f_ μ_ l_=> ∃(v4:Bool),v4=o_∧Qg ((70,.bool v4)::Ql [1,18,19,20] f) f_∧Qd (QB [some 0] 2 l) l_∧μ=μ_) ?_ ?_
   ·intro _ h556 hb545;refine G1 7 [1,1] E ?_;refine Br h556 51 E E (fun hc10 h556=> ?_) (fun hc10 h556=> ?_)
    ·refine G2 20 [51,56,61,66] [] [] E ?_;cases h556;exact Ce E ⟨_,rfl,fE E,sE [some 0] 2 E,rfl⟩
    refine G2 5 [] [51] [1] E ?_;refine Br h556 56 E E (fun hc11 h556=> ?_) (fun hc11 h556=> ?_)
    ·refine G2 15 [56,61,66] [] [] E ?_;cases h556;exact Ce E ⟨_,rfl,fE E,sE [some 0] 2 E,rfl⟩
    refine G2 5 [] [56] [1] E ?_;refine Br h556 61 E E (fun hc12 h556=> ?_) (fun hc12 h556=> ?_)
    ·refine G2 10 [61,66] [] [] E ?_;cases h556;exact Ce E ⟨_,rfl,fE E,sE [some 0] 2 E,rfl⟩
    refine G2 5 [] [61] [1] E ?_;refine Br h556 66 E E (fun hc13 h556=> ?_) (fun hc13 h556=> ?_)
    ·refine G2 5 [66] [] [] E ?_;cases h556;exact Ce E ⟨_,rfl,fE E,sE [some 0] 2 E,rfl⟩
    refine G2 5 [] [66] [1] E ?_;cases h556;exact Ce E ⟨_,rfl,fE E,sE [some 0] 2 E,rfl⟩
   rintro _ _ _ _ hb545 _ ⟨v4,rfl,hF556,hS556,rfl⟩;refine Atn 1 hF556 hS556 E E ?_;refine Br hb545 70 E E (fun hc14 hb545=> ?_) (fun hc14 hb545=> ?_)
   ·refine G2 5 [70] [] [] E ?_;cases hb545;have hq_:=hq545 _ E;subst hq_;replace h:=QZ h;cases h;exact Rt [] E E (Ug [] 1 hR)
   refine G2 7 [] [70] [] E ?_;cases hb545;exact Ce E ⟨_,rfl,fE E,sE [some 0] 1 E,rfl⟩
  refine G2 2 [] [21] [] E ?_;cases hb545;have hq_:=hq545 _ E;subst hq_;exact Ce E ⟨rfl,fE E,sE [] 1 E,rfl⟩
 rintro _ _ _ _ h _ ⟨rfl,hF530,hS530,rfl⟩;replace h:=Yp h;refine Atn 0 hF530 hS530 E E (G0 4 E ?_);cases h;exact Rt [] E E (Ug [] 0 hR)
theorem Qa5  {c1:Int}  {res1:Bool}
   (h:YM c1=some res1)
  (hR:R (.bool res1) μ (L)) :
  Fn Tryz.prog 78 [.int .u8 c1] μ (L) R:=by
 unfold YM at h;refine FnS Tryz.func78 (by kernel_rfl) E Tryz.ntmps78 E E ?_;refine G0 5 E ?_;refine Cut h (fun f l o_ f_ μ_ l_=> ∃(v1:Bool),v1=o_∧Qg ((2,.bool v1)::[]) f_∧Qd l l_∧μ=μ_) ?_ ?_
 ·intro _ h565 h;refine G0 4 E ?_;refine Br h565 5 E E (fun hc1 h565=> ?_) (fun hc1 h565=> ?_)
  ·refine G2 4 [5] [] [] E ?_;refine Br h565 9 E E (fun hc2 h565=> ?_) (fun hc2 h565=> ?_)
   ·refine G2 9 [9] [] [] E ?_;cases h565;exact Ce E ⟨_,rfl,fE E,sE [] 0 E,rfl⟩
   refine G2 3 [] [9] [] E ?_;refine Br h565 12 E E (fun hc3 h565=> ?_) (fun hc3 h565=> ?_)
   ·refine G2 6 [12] [9] [] E ?_;cases h565;exact Ce E ⟨_,rfl,fE E,sE [] 0 E,rfl⟩
   refine G2 6 [] [9,12] [] E ?_;cases h565;exact Ce E ⟨_,rfl,fE E,sE [] 0 E,rfl⟩
  refine G2 7 [] [5,9] [] E ?_;refine Br h565 12 E E (fun hc4 h565=> ?_) (fun hc4 h565=> ?_)
  ·refine G2 6 [12] [9] [] E ?_;cases h565;exact Ce E ⟨_,rfl,fE E,sE [] 0 E,rfl⟩
  refine G2 6 [] [9,12] [] E ?_;cases h565;exact Ce E ⟨_,rfl,fE E,sE [] 0 E,rfl⟩
 rintro _ _ _ _ h _ ⟨v1,rfl,hF565,hS565,rfl⟩;refine Atn 0 hF565 hS565 E E ?_;cases h;exact Rt [] E E (Ug [] 0 hR)
theorem QdO  {s1:ByteArray}  {res1:Bool}
   (h:YG s1=some res1)
  (hR:R (.bool res1) μ (L)) :
  Fn Tryz.prog 58 [.string s1] μ (L) R:=by
 unfold YG at h;refine FnS Tryz.func58 (by kernel_rfl) E Tryz.ntmps58 E E ?_;refine G0 6 E ?_;refine Cut h (fun f l o_ f_ μ_ l_=> ∃(v1:Bool),v1=o_∧Qg ((18,.bool v1)::Ql [0] f) f_∧Qd l l_∧μ=μ_) ?_ ?_
 ·intro _ h564 h;refine G0 5 E ?_;refine Br h564 8 E E (fun hc1 h564=> ?_) (fun hc1 h564=> ?_)
  ·refine G2 11 [8,13] [] [] E ?_;cases h564;exact Ce E ⟨_,rfl,fE E,sE [] 0 E,rfl⟩
  refine G2 5 [] [8] [] E ?_;refine Br h564 13 E E (fun hc2 h564=> ?_) (fun hc2 h564=> ?_)
  ·refine G2 6 [13] [] [] E ?_;cases h564;exact Ce E ⟨_,rfl,fE E,sE [] 0 E,rfl⟩
  obtain ⟨_,hb1,h564⟩:=Qi h564;refine G2 1 [] [13] [] E (Rdo E E (Qkq Q9 E E E E hb1 (Q0 0 E (Cl E ?_))));obtain ⟨_,hx1,h564⟩:=Qi h564;refine Qa5  hx1 ((Q2 3 [] [13] [] E ?_));cases h564;exact Ce E ⟨_,rfl,fE E,sE [] 0 E,rfl⟩
 rintro _ _ _ _ h _ ⟨v1,rfl,hF564,hS564,rfl⟩;refine Atn 0 hF564 hS564 E E ?_;refine Br h 18 E E (fun hc3 h=> ?_) (fun hc3 h=> ?_)
 ·refine G2 5 [18] [] [] E ?_;cases h;exact Rt [] E E (Ug [] 0 hR)
 refine G2 7 [] [18] [] E ?_;refine Cut h (fun f l o_ f_ μ_ l_=>(.inl ())=o_∧Qg ([]) f_∧Qd l l_∧μ=μ_) ?_ ?_
 ·intro _ h566 h;refine Lp h566 (fun f l (i1:Int) f_ μ_ l_=>Qg ((3,.int .i64 i1)::Ql [0] f) f_∧Qd l l_∧μ=μ_) ⟨fE E,sE [] 0 E,E⟩ ?_;rintro i1 _ _ _ _ _ ⟨hF569,hS569,rfl⟩ hb569 hq569;unfold QU at hb569;refine Atn 0 hF569 hS569 E E (G0 8 E ?_);refine Br hb569 22 E E (fun hc4 hb569=> ?_) (fun hc4 hb569=> ?_)
  ·obtain ⟨
       _,hb2,hb569⟩:=Qi hb569
   refine G2 8 [22] [] [] E (Rdo E E (Qkq Q9 E E E E hb2 (Q0 3 E ?_)));refine Cut hb569 (fun f l o_ f_ μ_ l_=> ∃(v2:Bool),v2=o_∧Qg ((50,.bool v2)::Ql [0,3] f) f_∧Qd l l_∧μ=μ_) ?_ ?_
   ·intro _ h570 hb569;refine G0 2 E (Cl E ?_);obtain ⟨_,hx2,h570⟩:=Qi h570;refine Qa5  hx2 ((Q0 2 E ?_));refine Br h570 31 E E (fun hc5 h570=> ?_) (fun hc5 h570=> ?_)
    ·refine G2 3 [31] [] [] E ?_;refine Br h570 34 E E (fun hc6 h570=> ?_) (fun hc6 h570=> ?_)
     ·refine G2 9 [31,34,39] [] [] E ?_;refine Br h570 43 E E (fun hc7 h570=> ?_) (fun hc7 h570=> ?_)
      ·refine G2 4 [43] [] [] E ?_;refine Br h570 47 E E (fun hc8 h570=> ?_) (fun hc8 h570=> ?_)
       ·refine G2 4 [47] [] [] E ?_;cases h570;exact Ce E ⟨_,rfl,fE E,sE [] 0 E,rfl⟩
       refine G2 4 [] [47] [] E ?_;cases h570;exact Ce E ⟨_,rfl,fE E,sE [] 0 E,rfl⟩
      refine G2 8 [] [43,47] [] E ?_;cases h570;exact Ce E ⟨_,rfl,fE E,sE [] 0 E,rfl⟩
     refine G2 5 [31] [34] [] E ?_;refine Br h570 39 E E (fun hc9 h570=> ?_) (fun hc9 h570=> ?_)
     ·refine G2 4 [39] [] [] E ?_;refine Br h570 43 E E (fun hc10 h570=> ?_) (fun hc10 h570=> ?_)
      ·refine G2 4 [43] [] [] E ?_;refine Br h570 47 E E (fun hc11 h570=> ?_) (fun hc11 h570=> ?_)
       ·refine G2 4 [47] [] [] E ?_;cases h570;exact Ce E ⟨_,rfl,fE E,sE [] 0 E,rfl⟩
       refine G2 4 [] [47] [] E ?_;cases h570;exact Ce E ⟨_,rfl,fE E,sE [] 0 E,rfl⟩
      refine G2 8 [] [43,47] [] E ?_;cases h570;exact Ce E ⟨_,rfl,fE E,sE [] 0 E,rfl⟩
     refine G2 12 [] [39,43,47] [] E ?_;cases h570;exact Ce E ⟨_,rfl,fE E,sE [] 0 E,rfl⟩
    refine G2 20 [] [31,39,43,47] [] E ?_;cases h570;exact Ce E ⟨_,rfl,fE E,sE [] 0 E,rfl⟩
   rintro _ _ _ _ hb569 _ ⟨v2,rfl,hF570,hS570,rfl⟩;refine Atn 0 hF570 hS570 E E ?_;refine Br hb569 50 E E (fun hc12 hb569=> ?_) (fun hc12 hb569=> ?_)
   ·refine G2 5 [50] [] [] E ?_;cases hb569;have hq_:=hq569 _ E;subst hq_;replace h:=QZ h;cases h;exact Rt [] E E (Ug [] 0 hR)
   refine G2 8 [] [50] [] E ?_;cases hb569;exact Ce E ⟨_,rfl,fE E,sE [] 0 E,rfl⟩
  refine G2 2 [] [22] [] E ?_;cases hb569;have hq_:=hq569 _ E;subst hq_;exact Ce E ⟨rfl,fE E,sE [] 0 E,rfl⟩
 rintro _ _ _ _ h _ ⟨rfl,hF566,hS566,rfl⟩;replace h:=Yp h;refine Atn 0 hF566 hS566 E E (G0 4 E ?_);cases h;exact Rt [] E E (Ug [] 0 hR)
theorem QeE  {v1:QD} {nodes1:Int} {materials1:Int}  {res1:Int}
   (h:Ye v1 nodes1 materials1=some res1)
  (hR:R (.int .i64 res1) μ (L)) :
  Fn Tryz.prog 33 [.agg #[.string v1.ID,.int .i64 v1.Depot,.int .i64 v1.Shift.From,.int .i64 v1.Shift.To,.int .i64 v1.Grams,.int .i64 v1.Kinds],.int .i64 nodes1,.int .i64 materials1] μ (L) R:=by
 unfold Ye at h;refine FnS Tryz.func33 (by kernel_rfl) E Tryz.ntmps33 E E ?_;refine G0 2 E (Al E fun _=>Q1 7 [0] E (Cl E ?_));obtain ⟨_,hx1,h⟩:=Qi h;refine QdO  hx1 ((Q0 2 E ?_));refine Br h 10 E E (fun hc1 h=> ?_) (fun hc1 h=> ?_)
 ·refine G2 5 [10] [] [] E ?_;cases h;exact Rt [] E E (Ug [] 1 hR)
 refine G2 4 [] [10] [] E ?_;refine Cut h (fun f l o_ f_ μ_ l_=> ∃(v2:Bool),v2=o_∧Qg ((19,.bool v2)::Ql [2,3] f) f_∧Qd l l_∧μ=μ_) ?_ ?_
 ·intro _ h571 h;refine G1 5 [0] E ?_;refine Br h571 14 E E (fun hc2 h571=> ?_) (fun hc2 h571=> ?_)
  ·refine G2 6 [14] [] [] E ?_;cases h571;exact Ce E ⟨_,rfl,fE E,sE [some 0] 1 E,rfl⟩
  refine G2 6 [] [14] [0] E ?_;cases h571;exact Ce E ⟨_,rfl,fE E,sE [some 0] 1 E,rfl⟩
 rintro _ _ _ _ h _ ⟨v2,rfl,hF571,hS571,rfl⟩;refine Atn 1 hF571 hS571 E E ?_;refine Br h 19 E E (fun hc3 h=> ?_) (fun hc3 h=> ?_)
 ·refine G2 5 [19] [] [] E ?_;cases h;exact Rt [] E E (Ug [] 1 hR)
 refine G2 4 [] [19] [] E ?_;refine Cut h (fun f l o_ f_ μ_ l_=> ∃(v3:Bool),v3=o_∧Qg ((38,.bool v3)::Ql [2,3] f) f_∧Qd l l_∧μ=μ_) ?_ ?_
 ·intro _ h574 h;refine G1 6 [0] E ?_;refine Br h574 24 E E (fun hc4 h574=> ?_) (fun hc4 h574=> ?_)
  ·refine G2 15 [24,33] [] [] E ?_;cases h574;exact Ce E ⟨_,rfl,fE E,sE [some 0] 1 E,rfl⟩
  refine G2 9 [] [24] [0,0] E ?_;refine Br h574 33 E E (fun hc5 h574=> ?_) (fun hc5 h574=> ?_)
  ·refine G2 6 [33] [] [] E ?_;cases h574;exact Ce E ⟨_,rfl,fE E,sE [some 0] 1 E,rfl⟩
  refine G2 6 [] [33] [0] E ?_;cases h574;exact Ce E ⟨_,rfl,fE E,sE [some 0] 1 E,rfl⟩
 rintro _ _ _ _ h _ ⟨v3,rfl,hF574,hS574,rfl⟩;refine Atn 1 hF574 hS574 E E ?_;refine Br h 38 E E (fun hc6 h=> ?_) (fun hc6 h=> ?_)
 ·refine G2 5 [38] [] [] E ?_;cases h;exact Rt [] E E (Ug [] 1 hR)
 refine G2 4 [] [38] [] E ?_;refine Cut h (fun f l o_ f_ μ_ l_=> ∃(v4:Bool),v4=o_∧Qg ((46,.bool v4)::Ql [2,3] f) f_∧Qd l l_∧μ=μ_) ?_ ?_
 ·intro _ h577 h;refine G1 5 [0] E ?_;refine Br h577 42 E E (fun hc7 h577=> ?_) (fun hc7 h577=> ?_)
  ·refine G2 5 [42] [] [] E ?_;cases h577;exact Ce E ⟨_,rfl,fE E,sE [some 0] 1 E,rfl⟩
  refine G2 5 [] [42] [0] E ?_;cases h577;exact Ce E ⟨_,rfl,fE E,sE [some 0] 1 E,rfl⟩
 rintro _ _ _ _ h _ ⟨v4,rfl,hF577,hS577,rfl⟩;refine Atn 1 hF577 hS577 E E ?_;refine Br h 46 E E (fun hc8 h=> ?_) (fun hc8 h=> ?_)
 ·refine G2 5 [46] [] [] E ?_;cases h;exact Rt [] E E (Ug [] 1 hR)
 refine G2 4 [] [46] [] E ?_;refine Cut h (fun f l o_ f_ μ_ l_=> ∃(v5:Bool),v5=o_∧Qg ((56,.bool v5)::[]) f_∧Qd (QB [] 1 l) l_∧μ=μ_) ?_ ?_
 ·intro _ h580 h;refine Dr _ QF.refl [(true,0),(true,1),(true,2),(true,3),(true,4),(true,5),(true,6),(true,7),(true,8),(true,9)] (by kernel_rfl) (G1 4 [0] E ?_);refine Br h580 50 E E (fun hc9 h580=> ?_) (fun hc9 h580=> ?_)
  ·refine G2 7 [50] [] [] E ?_;cases h580;exact Ce E ⟨_,rfl,fE E,sE [] 1 E,rfl⟩
  refine G2 3 [] [50] [0] E (Rdo E E ?_);obtain ⟨_,hg1,h580⟩:=Qi h580;refine QoH E E E (Ja hg1) (Q2 3 [] [50] [] E ?_);cases h580;exact Ce E ⟨_,rfl,fE E,sE [] 1 E,rfl⟩
 rintro _ _ _ _ h _ ⟨v5,rfl,hF580,hS580,rfl⟩;refine Atn 0 hF580 hS580 E E ?_;refine Br h 56 E E (fun hc10 h=> ?_) (fun hc10 h=> ?_)
 ·refine G2 5 [56] [] [] E ?_;cases h;exact Rt [] E E (Ug [] 0 hR)
 refine G2 6 [] [56] [] E ?_;cases h;exact Rt [] E E (Ug [] 0 hR)
theorem QdQ  {l1:(List QD)} {nodes1:Int} {materials1:Int} {A1:Option Addr} {c1:Nat} {res1:Int}
  (hl1:l1.length≤c1∧c1≤maxLen) (hA1:Rds QN μ L A1 l1) (h:Yn l1 nodes1 materials1=some res1)
  (hR:R (.int .i64 res1) μ (L)) :
  Fn Tryz.prog 16 [.slice A1 l1.length c1,.int .i64 nodes1,.int .i64 materials1] μ (L) R:=by
 unfold Yn at h;refine FnS Tryz.func16 (by kernel_rfl) E Tryz.ntmps16 E E ?_;refine G0 6 E ?_;refine Cut h (fun f l o_ f_ μ_ l_=> ∃(v1:Bool),v1=o_∧Qg ((24,.bool v1)::Ql [0,1,2] f) f_∧Qd l l_∧μ=μ_) ?_ ?_
 ·intro _ h560 h;refine G0 4 E ?_;refine Br h560 13 E E (fun hc1 h560=> ?_) (fun hc1 h560=> ?_)
  ·refine G2 12 [13,17,21] [] [] E ?_;cases h560;exact Ce E ⟨_,rfl,fE E,sE [] 0 E,rfl⟩
  refine G2 4 [] [13] [] E ?_;refine Br h560 17 E E (fun hc2 h560=> ?_) (fun hc2 h560=> ?_)
  ·refine G2 8 [17,21] [] [] E ?_;cases h560;exact Ce E ⟨_,rfl,fE E,sE [] 0 E,rfl⟩
  refine G2 4 [] [17] [] E ?_;refine Br h560 21 E E (fun hc3 h560=> ?_) (fun hc3 h560=> ?_)
  ·refine G2 4 [21] [] [] E ?_;cases h560;exact Ce E ⟨_,rfl,fE E,sE [] 0 E,rfl⟩
  refine G2 4 [] [21] [] E ?_;cases h560;exact Ce E ⟨_,rfl,fE E,sE [] 0 E,rfl⟩
 rintro _ _ _ _ h _ ⟨v1,rfl,hF560,hS560,rfl⟩;refine Atn 0 hF560 hS560 E E ?_;refine Br h 24 E E (fun hc4 h=> ?_) (fun hc4 h=> ?_)
 ·refine G2 5 [24] [] [] E ?_;cases h;exact Rt [] E E (Ug [] 0 hR)
 refine G2 9 [] [24] [] E ?_;refine Br h 27 E E (fun hc5 h=> ?_) (fun hc5 h=> ?_)
 ·refine G2 5 [27] [] [] E ?_;cases h;exact Rt [] E E (Ug [] 0 hR)
 refine G2 9 [] [27] [] E ?_;refine Br h 30 E E (fun hc6 h=> ?_) (fun hc6 h=> ?_)
 ·refine G2 5 [30] [] [] E ?_;cases h;exact Rt [] E E (Ug [] 0 hR)
 refine G2 7 [] [30] [] E ?_;refine Cut h (fun f l o_ f_ μ_ l_=>(.inl ())=o_∧Qg (Ql [0] f) f_∧Qd l l_∧μ=μ_) ?_ ?_
 ·intro _ h561 h;refine Lp h561 (fun f l (i1:Int) f_ μ_ l_=>Qg ((7,.int .i64 i1)::Ql [0,1,2] f) f_∧Qd l l_∧μ=μ_) ⟨fE E,sE [] 0 E,E⟩ ?_;rintro i1 _ _ _ _ _ ⟨hF581,hS581,rfl⟩ hb581 hq581;unfold QV at hb581;refine Atn 0 hF581 hS581 E E (G0 8 E ?_);refine Br hb581 34 E E (fun hc7 hb581=> ?_) (fun hc7 hb581=> ?_)
  ·refine G2 8 [34] [] [] E (Ix hb581 hA1 E E fun _ _ _ _ hr1 hc8 _ hb581=> ?_);obtain rfl:=hr1;refine Q3 3 [] [] [64] (Z1 hc8) E (Cl E ?_);obtain ⟨_,hx2,hb581⟩:=Qi hb581;refine QeE  hx2 ((Q0 7 E ?_));refine Br hb581 45 E E (fun hc9 hb581=> ?_) (fun hc9 hb581=> ?_)
   ·refine G2 6 [45] [] [] E ?_;cases hb581;have hq_:=hq581 _ E;subst hq_;replace h:=QZ h;cases h;exact Rt [] E E (Ug [] 0 hR)
   refine G2 8 [] [45] [] E ?_;cases hb581;exact Ce E ⟨_,rfl,fE E,sE [] 0 E,rfl⟩
  refine G2 2 [] [34] [] E ?_;cases hb581;have hq_:=hq581 _ E;subst hq_;exact Ce E ⟨rfl,fE E,sE [] 0 E,rfl⟩
 rintro _ _ _ _ h _ ⟨rfl,hF561,hS561,rfl⟩;replace h:=Yp h;refine Atn 0 hF561 hS561 E E (G0 5 E ?_);refine Cut h (fun f l o_ f_ μ_ l_=>(.inl ())=o_∧Qg ([]) f_∧Qd l l_∧μ=μ_) ?_ ?_
 ·intro _ h582 h;refine Lp h582 (fun f l (i2:Int) f_ μ_ l_=>Qg ((9,.int .i64 i2)::Ql [0] f) f_∧Qd l l_∧μ=μ_) ⟨fE E,sE [] 0 E,E⟩ ?_;rintro i2 _ _ _ _ _ ⟨hF588,hS588,rfl⟩ hb588 hq588;unfold Jf at hb588;refine Atn 0 hF588 hS588 E E (G0 8 E ?_);refine Br hb588 50 E E (fun hc10 hb588=> ?_) (fun hc10 hb588=> ?_)
  ·refine G2 3 [50] [] [] E ?_;refine Cut hb588 (fun f l o_ f_ μ_ l_=>(.inl ())=o_∧Qg (Ql [0,9] f) f_∧Qd l l_∧μ=μ_) ?_ ?_
   ·intro _ h589 hb588;refine G0 5 E ?_;refine Cut h589 (fun f l o_ f_ μ_ l_=>(.inl ())=o_∧Qg (Ql [0,9] f) f_∧Qd l l_∧μ=μ_) ?_ ?_
    ·intro _ h590 h589;refine Lp h590 (fun f l (k1:Int) f_ μ_ l_=>Qg ((10,.int .i64 k1)::Ql [0,9] f) f_∧Qd l l_∧μ=μ_) ⟨fE E,sE [] 0 E,E⟩ ?_;rintro k1 _ _ _ _ _ ⟨hF592,hS592,rfl⟩ hb592 hq592;unfold Je at hb592;refine Atn 0 hF592 hS592 E E (G0 7 E ?_);refine Br hb592 55 E E (fun hc11 hb592=> ?_) (fun hc11 hb592=> ?_)
     ·refine G2 5 [55] [] [] E (Dr _ QF.refl [(true,0),(true,1),(true,2),(true,3),(true,4),(true,5),(true,6),(true,7),(true,8),(true,9),(true,10)] (by kernel_rfl) (G0 2 E (Ix hb592 hA1 E E fun _ _ _ _ hr2 hc12 _ hb592=> ?_)));obtain rfl:=hr2;refine Q3 4 [] [] [64] (Z1 hc12) E (Ix hb592 hA1 E E fun _ _ _ _ hr3 hc13 _ hb592=> ?_);obtain rfl:=hr3;refine Q3 2 [] [] [64] (Z1 hc13) E (Rdo E E (QqK Q9 E E E E (Q0 1 E ?_)));refine Br hb592 68 E E (fun hc14 hb592=> ?_) (fun hc14 hb592=> ?_)
      ·refine G2 5 [68] [] [] E ?_;cases hb592;have hq_:=hq592 _ E;subst hq_;replace h589:=QZ h589;cases h589;replace hb588:=QZ hb588;cases hb588;have hq_:=hq588 _ E;subst hq_;replace h:=QZ h;cases h;exact Rt [] E E (Ug [] 0 hR)
      refine G2 8 [] [68] [] E ?_;cases hb592;exact Ce E ⟨_,rfl,fE E,sE [] 0 E,rfl⟩
     refine G2 2 [] [55] [] E ?_;cases hb592;have hq_:=hq592 _ E;subst hq_;exact Ce E ⟨rfl,fE E,sE [] 0 E,rfl⟩
    rintro _ _ _ _ h589 _ ⟨rfl,hF590,hS590,rfl⟩;replace h589:=Yp h589;refine G0 1 E ?_;cases h589;exact Ce E ⟨rfl,hF590.tr E,hS590.tr (sE [] 0 E),rfl⟩
   rintro _ _ _ _ hb588 _ ⟨rfl,hF589,hS589,rfl⟩;replace hb588:=Yp hb588;refine Atn 0 hF589 hS589 E E (G0 5 E ?_);cases hb588;exact Ce E ⟨_,rfl,fE E,sE [] 0 E,rfl⟩
  refine G2 2 [] [50] [] E ?_;cases hb588;have hq_:=hq588 _ E;subst hq_;exact Ce E ⟨rfl,fE E,sE [] 0 E,rfl⟩
 rintro _ _ _ _ h _ ⟨rfl,hF582,hS582,rfl⟩;replace h:=Yp h;refine Atn 0 hF582 hS582 E E (G0 4 E ?_);cases h;exact Rt [] E E (Ug [] 0 hR)
theorem QdR  {l1:(List Qt)} {nodes1:Int} {materials1:Int} {A1:Option Addr} {c1:Nat} {res1:Int}
  (hl1:l1.length≤c1∧c1≤maxLen) (hA1:Rds QH μ L A1 l1) (h:Yo l1 nodes1 materials1=some res1)
  (hR:R (.int .i64 res1) μ (L)) :
  Fn Tryz.prog 17 [.slice A1 l1.length c1,.int .i64 nodes1,.int .i64 materials1] μ (L) R:=by
 unfold Yo at h;refine FnS Tryz.func17 (by kernel_rfl) E Tryz.ntmps17 E E ?_;refine G0 11 E ?_;refine Br h 13 E E (fun hc1 h=> ?_) (fun hc1 h=> ?_)
 ·refine G2 5 [13] [] [] E ?_;cases h;exact Rt [] E E (Ug [] 0 hR)
 refine G2 7 [] [13] [] E ?_;refine Cut h (fun f l o_ f_ μ_ l_=>(.inl ())=o_∧Qg (Ql [0] f) f_∧Qd l l_∧μ=μ_) ?_ ?_
 ·intro _ h594 h;refine Lp h594 (fun f l (i1:Int) f_ μ_ l_=>Qg ((7,.int .i64 i1)::Ql [0,1,2] f) f_∧Qd l l_∧μ=μ_) ⟨fE E,sE [] 0 E,E⟩ ?_;rintro i1 _ _ _ _ _ ⟨hF602,hS602,rfl⟩ hb602 hq602;unfold Q4 at hb602;refine Atn 0 hF602 hS602 E E (G0 8 E ?_);refine Br hb602 17 E E (fun hc2 hb602=> ?_) (fun hc2 hb602=> ?_)
  ·refine G2 8 [17] [] [] E (Ix hb602 hA1 E E fun _ _ _ _ hr1 hc3 _ hb602=> ?_);obtain rfl:=hr1;refine Q3 1 [] [] [64] (Z1 hc3) E (Al E fun _=>Q1 4 [0] E ?_);refine Cut hb602 (fun f l o_ f_ μ_ l_=> ∃(v1:Bool),v1=o_∧Qg ((53,.bool v1)::Ql [0,1,2,7,8] f) f_∧Qd l l_∧μ=μ_) ?_ ?_
   ·intro _ h605 hb602;refine G1 5 [0] E ?_;refine Br h605 27 E E (fun hc4 h605=> ?_) (fun hc4 h605=> ?_)
    ·refine G2 27 [27,32,37,43,48] [] [] E ?_;cases h605;exact Ce E ⟨_,rfl,fE E,sE [some 0] 1 E,rfl⟩
    refine G2 5 [] [27] [0] E ?_;refine Br h605 32 E E (fun hc5 h605=> ?_) (fun hc5 h605=> ?_)
    ·refine G2 22 [32,37,43,48] [] [] E ?_;cases h605;exact Ce E ⟨_,rfl,fE E,sE [some 0] 1 E,rfl⟩
    refine G2 5 [] [32] [0] E ?_;refine Br h605 37 E E (fun hc6 h605=> ?_) (fun hc6 h605=> ?_)
    ·refine G2 17 [37,43,48] [] [] E ?_;cases h605;exact Ce E ⟨_,rfl,fE E,sE [some 0] 1 E,rfl⟩
    refine G2 6 [] [37] [0] E ?_;refine Br h605 43 E E (fun hc7 h605=> ?_) (fun hc7 h605=> ?_)
    ·refine G2 11 [43,48] [] [] E ?_;cases h605;exact Ce E ⟨_,rfl,fE E,sE [some 0] 1 E,rfl⟩
    refine G2 5 [] [43] [0] E ?_;refine Br h605 48 E E (fun hc8 h605=> ?_) (fun hc8 h605=> ?_)
    ·refine G2 6 [48] [] [] E ?_;cases h605;exact Ce E ⟨_,rfl,fE E,sE [some 0] 1 E,rfl⟩
    refine G2 6 [] [48] [0] E ?_;cases h605;exact Ce E ⟨_,rfl,fE E,sE [some 0] 1 E,rfl⟩
   rintro _ _ _ _ hb602 _ ⟨v1,rfl,hF605,hS605,rfl⟩;refine Atn 1 hF605 hS605 E E ?_;refine Br hb602 53 E E (fun hc9 hb602=> ?_) (fun hc9 hb602=> ?_)
   ·refine G2 5 [53] [] [] E ?_;cases hb602;have hq_:=hq602 _ E;subst hq_;replace h:=QZ h;cases h;exact Rt [] E E (Ug [] 1 hR)
   refine G2 3 [] [53] [] E ?_;refine Cut hb602 (fun f l o_ f_ μ_ l_=> ∃(v2:Bool),v2=o_∧Qg ((92,.bool v2)::Ql [0,1,2,7] f) f_∧Qd (QB [] 1 l) l_∧μ=μ_) ?_ ?_
   ·intro _ h608 hb602;refine G1 5 [0] E ?_;refine Br h608 57 E E (fun hc10 h608=> ?_) (fun hc10 h608=> ?_)
    ·refine G2 36 [57,62,68,77,83,88] [] [] E ?_;cases h608;exact Ce E ⟨_,rfl,fE E,sE [] 1 E,rfl⟩
    refine G2 5 [] [57] [0] E ?_;refine Br h608 62 E E (fun hc11 h608=> ?_) (fun hc11 h608=> ?_)
    ·refine G2 31 [62,68,77,83,88] [] [] E ?_;cases h608;exact Ce E ⟨_,rfl,fE E,sE [] 1 E,rfl⟩
    refine G2 6 [] [62] [0] E ?_;refine Br h608 68 E E (fun hc12 h608=> ?_) (fun hc12 h608=> ?_)
    ·refine G2 25 [68,77,83,88] [] [] E ?_;cases h608;exact Ce E ⟨_,rfl,fE E,sE [] 1 E,rfl⟩
    refine G2 9 [] [68] [0,0] E ?_;refine Br h608 77 E E (fun hc13 h608=> ?_) (fun hc13 h608=> ?_)
    ·refine G2 16 [77,83,88] [] [] E ?_;cases h608;exact Ce E ⟨_,rfl,fE E,sE [] 1 E,rfl⟩
    refine G2 6 [] [77] [0] E ?_;refine Br h608 83 E E (fun hc14 h608=> ?_) (fun hc14 h608=> ?_)
    ·refine G2 10 [83,88] [] [] E ?_;cases h608;exact Ce E ⟨_,rfl,fE E,sE [] 1 E,rfl⟩
    refine G2 5 [] [83] [0] E ?_;refine Br h608 88 E E (fun hc15 h608=> ?_) (fun hc15 h608=> ?_)
    ·refine G2 5 [88] [] [] E ?_;cases h608;exact Ce E ⟨_,rfl,fE E,sE [] 1 E,rfl⟩
    refine G2 5 [] [88] [0] E ?_;cases h608;exact Ce E ⟨_,rfl,fE E,sE [] 1 E,rfl⟩
   rintro _ _ _ _ hb602 _ ⟨v2,rfl,hF608,hS608,rfl⟩;refine Atn 0 hF608 hS608 E E ?_;refine Br hb602 92 E E (fun hc16 hb602=> ?_) (fun hc16 hb602=> ?_)
   ·refine G2 5 [92] [] [] E ?_;cases hb602;have hq_:=hq602 _ E;subst hq_;replace h:=QZ h;cases h;exact Rt [] E E (Ug [] 0 hR)
   refine G2 8 [] [92] [] E ?_;cases hb602;exact Ce E ⟨_,rfl,fE E,sE [] 0 E,rfl⟩
  refine G2 2 [] [17] [] E ?_;cases hb602;have hq_:=hq602 _ E;subst hq_;exact Ce E ⟨rfl,fE E,sE [] 0 E,rfl⟩
 rintro _ _ _ _ h _ ⟨rfl,hF594,hS594,rfl⟩;replace h:=Yp h;refine Atn 0 hF594 hS594 E E (G0 5 E ?_);refine Cut h (fun f l o_ f_ μ_ l_=>(.inl ())=o_∧Qg ([]) f_∧Qd l l_∧μ=μ_) ?_ ?_
 ·intro _ h609 h;refine Lp h609 (fun f l (i2:Int) f_ μ_ l_=>Qg ((9,.int .i64 i2)::Ql [0] f) f_∧Qd l l_∧μ=μ_) ⟨fE E,sE [] 0 E,E⟩ ?_;rintro i2 _ _ _ _ _ ⟨hF615,hS615,rfl⟩ hb615 hq615;unfold Yv at hb615;refine Atn 0 hF615 hS615 E E (G0 8 E ?_);refine Br hb615 96 E E (fun hc17 hb615=> ?_) (fun hc17 hb615=> ?_)
  ·refine G2 3 [96] [] [] E ?_;refine Cut hb615 (fun f l o_ f_ μ_ l_=>(.inl ())=o_∧Qg (Ql [0,9] f) f_∧Qd l l_∧μ=μ_) ?_ ?_
   ·intro _ h616 hb615;refine G0 5 E ?_;refine Cut h616 (fun f l o_ f_ μ_ l_=>(.inl ())=o_∧Qg (Ql [0,9] f) f_∧Qd l l_∧μ=μ_) ?_ ?_
    ·intro _ h617 h616;refine Lp h617 (fun f l (k1:Int) f_ μ_ l_=>Qg ((10,.int .i64 k1)::Ql [0,9] f) f_∧Qd l l_∧μ=μ_) ⟨fE E,sE [] 0 E,E⟩ ?_;rintro k1 _ _ _ _ _ ⟨hF619,hS619,rfl⟩ hb619 hq619;unfold Yu at hb619;refine Atn 0 hF619 hS619 E E (G0 7 E ?_);refine Br hb619 101 E E (fun hc18 hb619=> ?_) (fun hc18 hb619=> ?_)
     ·refine G2 5 [101] [] [] E (Dr _ QF.refl [(true,0),(true,1),(true,2),(true,3),(true,4),(true,5),(true,6),(true,7),(true,8),(true,9),(true,10)] (by kernel_rfl) (G0 2 E (Ix hb619 hA1 E E fun _ _ _ _ hr2 hc19 _ hb619=> ?_)));obtain rfl:=hr2;refine Q3 4 [] [] [64] (Z1 hc19) E (Ix hb619 hA1 E E fun _ _ _ _ hr3 hc20 _ hb619=> ?_);obtain rfl:=hr3;refine Q3 4 [] [] [64] (Z1 hc20) E ?_;refine Br hb619 114 E E (fun hc21 hb619=> ?_) (fun hc21 hb619=> ?_)
      ·refine G2 5 [114] [] [] E ?_;cases hb619;have hq_:=hq619 _ E;subst hq_;replace h616:=QZ h616;cases h616;replace hb615:=QZ hb615;cases hb615;have hq_:=hq615 _ E;subst hq_;replace h:=QZ h;cases h;exact Rt [] E E (Ug [] 0 hR)
      refine G2 8 [] [114] [] E ?_;cases hb619;exact Ce E ⟨_,rfl,fE E,sE [] 0 E,rfl⟩
     refine G2 2 [] [101] [] E ?_;cases hb619;have hq_:=hq619 _ E;subst hq_;exact Ce E ⟨rfl,fE E,sE [] 0 E,rfl⟩
    rintro _ _ _ _ h616 _ ⟨rfl,hF617,hS617,rfl⟩;replace h616:=Yp h616;refine G0 1 E ?_;cases h616;exact Ce E ⟨rfl,hF617.tr E,hS617.tr (sE [] 0 E),rfl⟩
   rintro _ _ _ _ hb615 _ ⟨rfl,hF616,hS616,rfl⟩;replace hb615:=Yp hb615;refine Atn 0 hF616 hS616 E E (G0 5 E ?_);cases hb615;exact Ce E ⟨_,rfl,fE E,sE [] 0 E,rfl⟩
  refine G2 2 [] [96] [] E ?_;cases hb615;have hq_:=hq615 _ E;subst hq_;exact Ce E ⟨rfl,fE E,sE [] 0 E,rfl⟩
 rintro _ _ _ _ h _ ⟨rfl,hF609,hS609,rfl⟩;replace h:=Yp h;refine Atn 0 hF609 hS609 E E (G0 4 E ?_);cases h;exact Rt [] E E (Ug [] 0 hR)
theorem QdS  {p1:Qe} {A1:Option Addr} {c1:Nat} {A2:Option Addr} {c2:Nat} {A3:Option Addr} {c3:Nat} {res1:Int}
  (hl1:p1.Road.Edges.length≤c1∧c1≤maxLen) (hA1:Qs QY μ A1 p1.Road.Edges) (hl2:p1.Vehicles.length≤c2∧c2≤maxLen) (hA2:Qs QN μ A2 p1.Vehicles) (hl3:p1.Demands.length≤c3∧c3≤maxLen) (hA3:Qs QH μ A3 p1.Demands) (h:Qq p1=some res1)
  (hR:R (.int .i64 res1) μ (L)) :
  Fn Tryz.prog 6 [.agg #[.int .i64 p1.Road.Nodes,.slice A1 p1.Road.Edges.length c1,.slice A2 p1.Vehicles.length c2,.slice A3 p1.Demands.length c3,.int .i64 p1.Unload,.int .i64 p1.UnloadSecs]] μ (L) R:=by
 unfold Qq at h;refine FnS Tryz.func6 (by kernel_rfl) E Tryz.ntmps6 E E ?_;refine G0 2 E (Al E fun _=>Q1 7 [0] E (Cl E ?_));obtain ⟨_,hx1,h⟩:=Qi h;refine QdP hl1 hA1 hx1 ((Q0 7 E ?_));refine Br h 10 E E (fun hc1 h=> ?_) (fun hc1 h=> ?_)
 ·refine G2 6 [10] [] [] E ?_;cases h;exact Rt [] E E (Ug [] 1 hR)
 refine G2 10 [] [10] [0,0] E (Cl E ?_);obtain ⟨_,hx2,h⟩:=Qi h;refine QdQ hl2 (Qs.rds hA2 _) hx2 ((Q0 7 E ?_));refine Br h 19 E E (fun hc2 h=> ?_) (fun hc2 h=> ?_)
 ·refine G2 6 [19] [] [] E ?_;cases h;exact Rt [] E E (Ug [] 1 hR)
 refine G2 10 [] [19] [0,0] E (Cl E ?_);obtain ⟨_,hx3,h⟩:=Qi h;refine QdR hl3 (Qs.rds hA3 _) hx3 ((Q0 7 E ?_));refine Br h 28 E E (fun hc3 h=> ?_) (fun hc3 h=> ?_)
 ·refine G2 6 [28] [] [] E ?_;cases h;exact Rt [] E E (Ug [] 1 hR)
 refine G2 4 [] [28] [] E ?_;refine Cut h (fun f l o_ f_ μ_ l_=> ∃(v1:Bool),v1=o_∧Qg ((40,.bool v1)::Ql [1] f) f_∧Qd l l_∧μ=μ_) ?_ ?_
 ·intro _ h620 h;refine G1 5 [0] E ?_;refine Br h620 33 E E (fun hc4 h620=> ?_) (fun hc4 h620=> ?_)
  ·refine G2 8 [33] [] [] E ?_;cases h620;exact Ce E ⟨_,rfl,fE E,sE [some 0] 1 E,rfl⟩
  refine G2 8 [] [33] [0,0] E ?_;cases h620;exact Ce E ⟨_,rfl,fE E,sE [some 0] 1 E,rfl⟩
 rintro _ _ _ _ h _ ⟨v1,rfl,hF620,hS620,rfl⟩;refine Atn 1 hF620 hS620 E E ?_;refine Br h 40 E E (fun hc5 h=> ?_) (fun hc5 h=> ?_)
 ·refine G2 5 [40] [] [] E ?_;cases h;exact Rt [] E E (Ug [] 1 hR)
 refine G2 4 [] [40] [] E ?_;refine Cut h (fun f l o_ f_ μ_ l_=> ∃(v2:Bool),v2=o_∧Qg ((48,.bool v2)::[]) f_∧Qd (QB [] 1 l) l_∧μ=μ_) ?_ ?_
 ·intro _ h623 h;refine G1 5 [0] E ?_;refine Br h623 44 E E (fun hc6 h623=> ?_) (fun hc6 h623=> ?_)
  ·refine G2 5 [44] [] [] E ?_;cases h623;exact Ce E ⟨_,rfl,fE E,sE [] 1 E,rfl⟩
  refine G2 5 [] [44] [0] E ?_;cases h623;exact Ce E ⟨_,rfl,fE E,sE [] 1 E,rfl⟩
 rintro _ _ _ _ h _ ⟨v2,rfl,hF623,hS623,rfl⟩;refine Atn 0 hF623 hS623 E E ?_;refine Br h 48 E E (fun hc7 h=> ?_) (fun hc7 h=> ?_)
 ·refine G2 5 [48] [] [] E ?_;cases h;exact Rt [] E E (Ug [] 0 hR)
 refine G2 6 [] [48] [] E ?_;cases h;exact Rt [] E E (Ug [] 0 hR)
theorem Qh5  {r1:QR} {A1:Option Addr} {c1:Nat} {res1:Qbk}
  (hl1:r1.Edges.length≤c1∧c1≤maxLen) (hA1:Qs QY μ A1 r1.Edges) (h:QbF r1=some res1)
  (hR: ∀(μ':Gh) (A0_1:Option Addr) (c0_1:Nat),μ.le μ'→(res1.Arcs.length≤c0_1∧c0_1≤maxLen)→Qs QcI μ' A0_1 res1.Arcs→R (.agg #[.int .i64 res1.Nodes,.slice A0_1 res1.Arcs.length c0_1]) μ' (L)) :
  Fn Tryz.prog 80 [.agg #[.int .i64 r1.Nodes,.slice A1 r1.Edges.length c1]] μ (L) R:=by
 unfold QbF at h;refine FnS Tryz.func80 (by kernel_rfl) E Tryz.ntmps80 E E ?_;refine G0 2 E (Al E fun _=>Q0 0 E (Al E fun g2=>Q1 6 [1] E (Al E fun g3=>Q1 10 [0,2] E ?_)));refine Cut h (fun f l o_ f_ μ_ l_=> ∃(f2:(List ZP)) (A4:Option Addr) (c4:Nat) (ch3:Seg),f2=o_∧Qg (Ql [2,3] f) f_∧Qd ([(g2,.cells #[.int .i64 0,.slice none 0 0] 157 (0,0))]::[(g3,.cells #[.int .i64 r1.Nodes,.slice A4 f2.length c4] 157 (0,0))]::ch3::QB [] 3 l) l_∧Own QcI 176 μ_ (.slice A4 f2.length c4) f2 ch3) ?_ ?_
 ·intro _ h734 h;refine Lp h734 (fun f l (j_:(List ZP)×Int) f_ μ_ l_=>Y5 j_ fun f1 v1=> ∃(A2:Option Addr) (c2:Nat) (ch1:Seg),Qg ((12,.int .i64 v1)::Ql [2,3,10,11] f) f_∧Qd ([(g2,.cells #[.int .i64 0,.slice none 0 0] 157 (0,0))]::[(g3,.cells #[.int .i64 r1.Nodes,.slice A2 f1.length c2] 157 (0,0))]::ch1::QB [] 3 l) l_∧Own QcI 176 μ_ (.slice A2 f1.length c2) f1 ch1) ⟨none,0,[],fE E,sE [some 1,some 0,none] 3 E,(Own.nil)⟩ ?_;rintro ⟨f1,v1⟩ _ _ _ _ hm749 ⟨A2,c2,ch1,hF749,hS749,hO1⟩ hb749 hq749;unfold Qah at hb749;replace hb749:=Qn hb749;replace hA1:=hA1.mono hm749;refine Atn 3 hF749 hS749 E E (G0 5 E ?_);refine Br hb749 13 E E (fun hc1 hb749=> ?_) (fun hc1 hb749=> ?_)
  ·refine G2 6 [13] [] [] E (Ix hb749 (Qs.rds hA1 L) E E fun x1 _ _ _ hr1 hc2 _ hb749=> ?_);obtain rfl:=hr1;refine Q3 1 [] [] [64] (Z1 (hc2.push.push.push)) E (Al E fun _=>Q1 10 [0,2,0,0] E (So E (Qau (z:=[.int .i64 0,.int .i64 0]) E E E E E E E (YP (cells':=[.int .i64 x1.From,.int .i64 x1.To]) E E E E (Vt (fun g5=>Q0 0 E (So E (Z7 E ?_))))))));obtain ⟨_,hz1,hb749⟩:=Qi hb749;refine JU (r:=QcI) Q9 E E E E (by decide) E E 4 E hO1 E (Own.rds (Own.lit (r:=QcI) (e:=176) (g:=g5) (xs:=[(ZP.mk x1.From x1.To)]) (cs:=[.int .i64 x1.From,.int .i64 x1.To]) (css:=[[.int .i64 x1.From,.int .i64 x1.To]]) E (All2.cons (E) (All2.nil)) E E) 0 E) hz1 fun A3 c3 ch2 hO2=>Q1 8 [3] E ?_;cases hb749;exact Ce E ⟨_,rfl,A3,c3,ch2,fE E,sE [some 2,some 3,some 4] 5 E,(hO2)⟩
  refine G2 2 [] [13] [] E ?_;cases hb749;have hq_:=hq749 _ E;subst hq_;exact Ce E ⟨_,A2,c2,ch1,rfl,fE E,sE [some 0,some 1,some 2] 3 E,(hO1)⟩
 rintro _ _ _ _ h hm734 ⟨f2,A4,c4,ch3,rfl,hF734,hS734,hO3⟩;refine Atn 3 hF734 hS734 E E (G1 5 [1,0] E ?_);cases h;refine Rt [0] E E ?_;have hl2:=Own.lenOk hO3;refine Upd.frzOwn 2 E hO3 fun _ hm_1 hA3=> ?_;exact (Ug [] 3 (hR _ A4 c4 (hm734.trans hm_1) hl2 hA3))
theorem QiV  {g1:Qbk} {A1:Option Addr} {c1:Nat} {res1:Int}
  (hl1:g1.Arcs.length≤c1∧c1≤maxLen) (hA1:Qs QcI μ A1 g1.Arcs) (h:Qb9 g1=some res1)
  (hR:R (.int .i64 res1) μ (L)) :
  Fn Tryz.prog 79 [.agg #[.int .i64 g1.Nodes,.slice A1 g1.Arcs.length c1]] μ (L) R:=by
 unfold Qb9 at h;refine FnS Tryz.func79 (by kernel_rfl) E Tryz.ntmps79 E E ?_;refine G0 2 E (Al E fun _=>Q0 4 E ?_);refine Cut h (fun f l o_ f_ μ_ l_=> ∃(v1:Bool),v1=o_∧Qg ((12,.bool v1)::Ql [1] f) f_∧Qd l l_∧μ=μ_) ?_ ?_
 ·intro _ h777 h;refine G1 5 [0] E ?_;refine Br h777 8 E E (fun hc1 h777=> ?_) (fun hc1 h777=> ?_)
  ·refine G2 5 [8] [] [] E ?_;cases h777;exact Ce E ⟨_,rfl,fE E,sE [some 0] 1 E,rfl⟩
  refine G2 5 [] [8] [0] E ?_;cases h777;exact Ce E ⟨_,rfl,fE E,sE [some 0] 1 E,rfl⟩
 rintro _ _ _ _ h _ ⟨v1,rfl,hF777,hS777,rfl⟩;refine Atn 1 hF777 hS777 E E ?_;refine Br h 12 E E (fun hc2 h=> ?_) (fun hc2 h=> ?_)
 ·refine G2 5 [12] [] [] E ?_;cases h;exact Rt [] E E (Ug [] 1 hR)
 refine G2 10 [] [12] [0] E ?_;refine Br h 16 E E (fun hc3 h=> ?_) (fun hc3 h=> ?_)
 ·refine G2 5 [16] [] [] E ?_;cases h;exact Rt [] E E (Ug [] 1 hR)
 refine G2 10 [] [16] [0] E ?_;refine Cut h (fun f l o_ f_ μ_ l_=>(.inl ())=o_∧Qg ([]) f_∧Qd (QB [] 1 l) l_∧μ=μ_) ?_ ?_
 ·intro _ h780 h;refine Lp h780 (fun f l (v2:Int) f_ μ_ l_=>Qg ((20,.int .i64 v2)::Ql [1,18,19] f) f_∧Qd l l_∧μ=μ_) ⟨fE E,sE [some 0] 1 E,E⟩ ?_;rintro v2 _ _ _ _ _ ⟨hF790,hS790,rfl⟩ hb790 hq790;unfold QaF at hb790;refine Atn 1 hF790 hS790 E E (G0 5 E ?_);refine Br hb790 21 E E (fun hc4 hb790=> ?_) (fun hc4 hb790=> ?_)
  ·refine G2 6 [21] [] [] E (Ix hb790 (Qs.rds hA1 L) E E fun _ _ _ _ hr1 hc5 _ hb790=> ?_);obtain rfl:=hr1;refine Q3 1 [] [] [64] (Z1 (hc5.push)) E (Al E fun _=>Q1 3 [0] E ?_);refine Cut hb790 (fun f l o_ f_ μ_ l_=> ∃(v3:Bool),v3=o_∧Qg ((45,.bool v3)::Ql [1,18,19,20] f) f_∧Qd (QB [] 1 l) l_∧μ=μ_) ?_ ?_
   ·intro _ h796 hb790;refine G1 5 [0] E ?_;refine Br h796 27 E E (fun hc6 h796=> ?_) (fun hc6 h796=> ?_)
    ·refine G2 19 [27,34,39] [] [] E ?_;cases h796;exact Ce E ⟨_,rfl,fE E,sE [some 1] 2 E,rfl⟩
    refine G2 7 [] [27] [0,1] E ?_;refine Br h796 34 E E (fun hc7 h796=> ?_) (fun hc7 h796=> ?_)
    ·refine G2 12 [34,39] [] [] E ?_;cases h796;exact Ce E ⟨_,rfl,fE E,sE [some 1] 2 E,rfl⟩
    refine G2 5 [] [34] [0] E ?_;refine Br h796 39 E E (fun hc8 h796=> ?_) (fun hc8 h796=> ?_)
    ·refine G2 7 [39] [] [] E ?_;cases h796;exact Ce E ⟨_,rfl,fE E,sE [some 1] 2 E,rfl⟩
    refine G2 7 [] [39] [0,1] E ?_;cases h796;exact Ce E ⟨_,rfl,fE E,sE [some 1] 2 E,rfl⟩
   rintro _ _ _ _ hb790 _ ⟨v3,rfl,hF796,hS796,rfl⟩;refine Atn 1 hF796 hS796 E E ?_;refine Br hb790 45 E E (fun hc9 hb790=> ?_) (fun hc9 hb790=> ?_)
   ·refine G2 5 [45] [] [] E ?_;cases hb790;have hq_:=hq790 _ E;subst hq_;replace h:=QZ h;cases h;exact Rt [] E E (Ug [] 1 hR)
   refine G2 7 [] [45] [] E ?_;cases hb790;exact Ce E ⟨_,rfl,fE E,sE [some 0] 1 E,rfl⟩
  refine G2 2 [] [21] [] E ?_;cases hb790;have hq_:=hq790 _ E;subst hq_;exact Ce E ⟨rfl,fE E,sE [] 1 E,rfl⟩
 rintro _ _ _ _ h _ ⟨rfl,hF780,hS780,rfl⟩;replace h:=Yp h;refine Atn 0 hF780 hS780 E E (G0 4 E ?_);cases h;exact Rt [] E E (Ug [] 0 hR)
theorem QfN  {r1:QR} {A1:Option Addr} {c1:Nat} {res1:Int}
  (hl1:r1.Edges.length≤c1∧c1≤maxLen) (hA1:Qs QY μ A1 r1.Edges) (h:Qbg r1=some res1)
  (hR: ∀(μ':Gh) ,μ.le μ'→R (.int .i64 res1) μ' (L)) :
  Fn Tryz.prog 59 [.agg #[.int .i64 r1.Nodes,.slice A1 r1.Edges.length c1]] μ (L) R:=by
 unfold Qbg at h;refine FnS Tryz.func59 (by kernel_rfl) E Tryz.ntmps59 E E ?_;refine G0 2 E (Al E fun _=>Q0 4 E ?_);refine Cut h (fun f l o_ f_ μ_ l_=> ∃(v1:Bool),v1=o_∧Qg ((12,.bool v1)::Ql [1] f) f_∧Qd l l_) ?_ ?_
 ·intro _ h801 h;refine G1 5 [0] E ?_;refine Br h801 8 E E (fun hc1 h801=> ?_) (fun hc1 h801=> ?_)
  ·refine G2 5 [8] [] [] E ?_;cases h801;exact Ce E ⟨_,rfl,fE E,sE [some 0] 1 E⟩
  refine G2 5 [] [8] [0] E ?_;cases h801;exact Ce E ⟨_,rfl,fE E,sE [some 0] 1 E⟩
 rintro _ _ _ _ h hm801 ⟨v1,rfl,hF801,hS801⟩;replace hA1:=hA1.mono hm801;refine Atn 1 hF801 hS801 E E ?_;refine Br h 12 E E (fun hc2 h=> ?_) (fun hc2 h=> ?_)
 ·refine G2 5 [12] [] [] E ?_;cases h;exact Rt [] E E (Ug [] 1 (hR _ hm801))
 refine G2 10 [] [12] [0] E ?_;refine Br h 16 E E (fun hc3 h=> ?_) (fun hc3 h=> ?_)
 ·refine G2 5 [16] [] [] E ?_;cases h;exact Rt [] E E (Ug [] 1 (hR _ hm801))
 refine G2 10 [] [16] [0] E ?_;refine Cut h (fun f l o_ f_ μ_ l_=>(.inl ())=o_∧Qg (Ql [1] f) f_∧Qd l l_) ?_ ?_
 ·intro _ h804 h;refine Lp h804 (fun f l (v2:Int) f_ μ_ l_=>Qg ((20,.int .i64 v2)::Ql [1,18,19] f) f_∧Qd l l_) ⟨fE E,sE [some 0] 1 E⟩ ?_;rintro v2 _ _ _ _ hm819 ⟨hF819,hS819⟩ hb819 hq819;unfold Qb5 at hb819;replace hA1:=hA1.mono hm819;refine Atn 1 hF819 hS819 E E (G0 5 E ?_);refine Br hb819 21 E E (fun hc4 hb819=> ?_) (fun hc4 hb819=> ?_)
  ·refine G2 6 [21] [] [] E (Ix hb819 (Qs.rds hA1 L) E E fun _ _ _ _ hr1 hc5 _ hb819=> ?_);obtain rfl:=hr1;refine Q3 1 [] [] [64] (Z1 (hc5.push)) E (Al E fun _=>Q1 4 [0] E ?_);refine Cut hb819 (fun f l o_ f_ μ_ l_=> ∃(v3:Bool),v3=o_∧Qg ((45,.bool v3)::Ql [1,4,18,19,20] f) f_∧Qd (QB [some 1,some 0] 2 l) l_) ?_ ?_
   ·intro _ h825 hb819;refine G1 5 [0] E ?_;refine Br h825 27 E E (fun hc6 h825=> ?_) (fun hc6 h825=> ?_)
    ·refine G2 19 [27,34,39] [] [] E ?_;cases h825;exact Ce E ⟨_,rfl,fE E,sE [some 1,some 0] 2 E⟩
    refine G2 7 [] [27] [0,1] E ?_;refine Br h825 34 E E (fun hc7 h825=> ?_) (fun hc7 h825=> ?_)
    ·refine G2 12 [34,39] [] [] E ?_;cases h825;exact Ce E ⟨_,rfl,fE E,sE [some 1,some 0] 2 E⟩
    refine G2 5 [] [34] [0] E ?_;refine Br h825 39 E E (fun hc8 h825=> ?_) (fun hc8 h825=> ?_)
    ·refine G2 7 [39] [] [] E ?_;cases h825;exact Ce E ⟨_,rfl,fE E,sE [some 1,some 0] 2 E⟩
    refine G2 7 [] [39] [0,1] E ?_;cases h825;exact Ce E ⟨_,rfl,fE E,sE [some 1,some 0] 2 E⟩
   rintro _ _ _ _ hb819 hm825 ⟨v3,rfl,hF825,hS825⟩;replace hA1:=hA1.mono hm825;refine Atn 2 hF825 hS825 E E ?_;refine Br hb819 45 E E (fun hc9 hb819=> ?_) (fun hc9 hb819=> ?_)
   ·refine G2 5 [45] [] [] E ?_;cases hb819;have hq_:=hq819 _ E;subst hq_;replace h:=QZ h;cases h;exact Rt [] E E (Ug [] 2 (hR _ (hm801.trans (hm819.trans hm825))))
   refine G2 3 [] [45] [] E ?_;refine Cut hb819 (fun f l o_ f_ μ_ l_=> ∃(v4:Bool),v4=o_∧Qg ((70,.bool v4)::Ql [1,18,19,20] f) f_∧Qd (QB [some 0] 2 l) l_) ?_ ?_
   ·intro _ h830 hb819;refine G1 7 [1,1] E ?_;refine Br h830 51 E E (fun hc10 h830=> ?_) (fun hc10 h830=> ?_)
    ·refine G2 20 [51,56,61,66] [] [] E ?_;cases h830;exact Ce E ⟨_,rfl,fE E,sE [some 0] 2 E⟩
    refine G2 5 [] [51] [1] E ?_;refine Br h830 56 E E (fun hc11 h830=> ?_) (fun hc11 h830=> ?_)
    ·refine G2 15 [56,61,66] [] [] E ?_;cases h830;exact Ce E ⟨_,rfl,fE E,sE [some 0] 2 E⟩
    refine G2 5 [] [56] [1] E ?_;refine Br h830 61 E E (fun hc12 h830=> ?_) (fun hc12 h830=> ?_)
    ·refine G2 10 [61,66] [] [] E ?_;cases h830;exact Ce E ⟨_,rfl,fE E,sE [some 0] 2 E⟩
    refine G2 5 [] [61] [1] E ?_;refine Br h830 66 E E (fun hc13 h830=> ?_) (fun hc13 h830=> ?_)
    ·refine G2 5 [66] [] [] E ?_;cases h830;exact Ce E ⟨_,rfl,fE E,sE [some 0] 2 E⟩
    refine G2 5 [] [66] [1] E ?_;cases h830;exact Ce E ⟨_,rfl,fE E,sE [some 0] 2 E⟩
   rintro _ _ _ _ hb819 hm830 ⟨v4,rfl,hF830,hS830⟩;replace hA1:=hA1.mono hm830;refine Atn 1 hF830 hS830 E E ?_;refine Br hb819 70 E E (fun hc14 hb819=> ?_) (fun hc14 hb819=> ?_)
   ·refine G2 5 [70] [] [] E ?_;cases hb819;have hq_:=hq819 _ E;subst hq_;replace h:=QZ h;cases h;exact Rt [] E E (Ug [] 1 (hR _ (hm801.trans (hm819.trans (hm825.trans hm830)))))
   refine G2 7 [] [70] [] E ?_;cases hb819;exact Ce E ⟨_,rfl,fE E,sE [some 0] 1 E⟩
  refine G2 2 [] [21] [] E ?_;cases hb819;have hq_:=hq819 _ E;subst hq_;exact Ce E ⟨rfl,fE E,sE [some 0] 1 E⟩
 rintro _ _ _ _ h hm804 ⟨rfl,hF804,hS804⟩;replace h:=Yp h;replace hA1:=hA1.mono hm804;refine Atn 1 hF804 hS804 E E (G1 3 [0] E (Cl E ?_));obtain ⟨_,hx2,h⟩:=Qi h;refine Qh5 hl1 hA1 hx2 (fun _ _ _ hm_1 hl2 hA3=> ?_);refine Q0 0 E (Cl E ?_);obtain ⟨_,hx3,h⟩:=Qi h;refine QiV hl2 hA3 hx3 ((Q0 2 E ?_));cases h;exact Rt [] E E (Ug [] 1 (hR _ (hm801.trans (hm804.trans hm_1))))
theorem Qhv {F:Nat} {v1:QD} {nodes1:Int} {materials1:Int}  {res1:Int}
   (h:Qbb F v1 nodes1 materials1=some res1)
  (hR:R (.int .i64 res1) μ (L)) :
  Fn Tryz.prog 81 [.agg #[.string v1.ID,.int .i64 v1.Depot,.int .i64 v1.Shift.From,.int .i64 v1.Shift.To,.int .i64 v1.Grams,.int .i64 v1.Kinds],.int .i64 nodes1,.int .i64 materials1] μ (L) R:=by
 unfold Qbb at h;refine FnS Tryz.func81 (by kernel_rfl) E Tryz.ntmps81 E E ?_;refine G0 2 E (Al E fun _=>Q1 8 [0] E (Cl E ?_));obtain ⟨_,hx1,h⟩:=Qi h;refine QeV  hx1 ((Q0 3 E ?_));refine Br h 7 E E (fun hc1 h=> ?_) (fun hc1 h=> ?_)
 ·refine G2 5 [7] [] [] E ?_;cases h;exact Rt [] E E (Ug [] 1 hR)
 refine G2 2 [] [7] [] E ?_;refine Cut h (fun f l o_ f_ μ_ l_=> ∃(v2:Bool),v2=o_∧Qg ((12,.bool v2)::Ql [2,3] f) f_∧Qd l l_∧μ=μ_) ?_ ?_
 ·intro _ h843 h;refine G1 5 [0] E ?_;refine Br h843 16 E E (fun hc2 h843=> ?_) (fun hc2 h843=> ?_)
  ·refine G2 7 [16] [] [] E ?_;cases h843;exact Ce E ⟨_,rfl,fE E,sE [some 0] 1 E,rfl⟩
  refine G2 7 [] [16] [0] E ?_;cases h843;exact Ce E ⟨_,rfl,fE E,sE [some 0] 1 E,rfl⟩
 rintro _ _ _ _ h _ ⟨v2,rfl,hF843,hS843,rfl⟩;refine Atn 1 hF843 hS843 E E ?_;refine Br h 12 E E (fun hc3 h=> ?_) (fun hc3 h=> ?_)
 ·refine G2 5 [12] [] [] E ?_;cases h;exact Rt [] E E (Ug [] 1 hR)
 refine G2 2 [] [12] [] E ?_;refine Cut h (fun f l o_ f_ μ_ l_=> ∃(v3:Bool),v3=o_∧Qg ((22,.bool v3)::Ql [2,3] f) f_∧Qd l l_∧μ=μ_) ?_ ?_
 ·intro _ h846 h;refine G1 6 [0] E ?_;refine Br h846 27 E E (fun hc4 h846=> ?_) (fun hc4 h846=> ?_)
  ·refine G2 16 [27,36] [] [] E ?_;cases h846;exact Ce E ⟨_,rfl,fE E,sE [some 0] 1 E,rfl⟩
  refine G2 9 [] [27] [0,0] E ?_;refine Br h846 36 E E (fun hc5 h846=> ?_) (fun hc5 h846=> ?_)
  ·refine G2 7 [36] [] [] E ?_;cases h846;exact Ce E ⟨_,rfl,fE E,sE [some 0] 1 E,rfl⟩
  refine G2 7 [] [36] [0] E ?_;cases h846;exact Ce E ⟨_,rfl,fE E,sE [some 0] 1 E,rfl⟩
 rintro _ _ _ _ h _ ⟨v3,rfl,hF846,hS846,rfl⟩;refine Atn 1 hF846 hS846 E E ?_;refine Br h 22 E E (fun hc6 h=> ?_) (fun hc6 h=> ?_)
 ·refine G2 5 [22] [] [] E ?_;cases h;exact Rt [] E E (Ug [] 1 hR)
 refine G2 2 [] [22] [] E ?_;refine Cut h (fun f l o_ f_ μ_ l_=> ∃(v4:Bool),v4=o_∧Qg ((42,.bool v4)::Ql [2,3] f) f_∧Qd l l_∧μ=μ_) ?_ ?_
 ·intro _ h849 h;refine G1 5 [0] E ?_;refine Br h849 46 E E (fun hc7 h849=> ?_) (fun hc7 h849=> ?_)
  ·refine G2 6 [46] [] [] E ?_;cases h849;exact Ce E ⟨_,rfl,fE E,sE [some 0] 1 E,rfl⟩
  refine G2 6 [] [46] [0] E ?_;cases h849;exact Ce E ⟨_,rfl,fE E,sE [some 0] 1 E,rfl⟩
 rintro _ _ _ _ h _ ⟨v4,rfl,hF849,hS849,rfl⟩;refine Atn 1 hF849 hS849 E E ?_;refine Br h 42 E E (fun hc8 h=> ?_) (fun hc8 h=> ?_)
 ·refine G2 5 [42] [] [] E ?_;cases h;exact Rt [] E E (Ug [] 1 hR)
 refine G2 2 [] [42] [] E ?_;refine Cut h (fun f l o_ f_ μ_ l_=> ∃(v5:Bool),v5=o_∧Qg ((51,.bool v5)::[]) f_∧Qd (QB [] 1 l) l_∧μ=μ_) ?_ ?_
 ·intro _ h852 h;refine Dr _ QF.refl [(true,0),(true,1),(true,2),(true,3),(true,4),(true,5),(true,6),(true,7),(true,8),(true,9),(true,10)] (by kernel_rfl) (G1 4 [0] E ?_);refine Br h852 55 E E (fun hc9 h852=> ?_) (fun hc9 h852=> ?_)
  ·refine G2 8 [55] [] [] E ?_;cases h852;exact Ce E ⟨_,rfl,fE E,sE [] 1 E,rfl⟩
  refine G2 3 [] [55] [0] E (Rdo E E ?_);obtain ⟨_,hg1,h852⟩:=Qi h852;refine QoH E E E (Ja hg1) (Q2 4 [] [55] [] E ?_);cases h852;exact Ce E ⟨_,rfl,fE E,sE [] 1 E,rfl⟩
 rintro _ _ _ _ h _ ⟨v5,rfl,hF852,hS852,rfl⟩;refine Atn 0 hF852 hS852 E E ?_;refine Br h 51 E E (fun hc10 h=> ?_) (fun hc10 h=> ?_)
 ·refine G2 5 [51] [] [] E ?_;cases h;exact Rt [] E E (Ug [] 0 hR)
 refine G2 7 [] [51] [] E ?_;cases h;exact Rt [] E E (Ug [] 0 hR)
theorem Qhu {F:Nat} {l1:(List QD)} {nodes1:Int} {materials1:Int} {A1:Option Addr} {c1:Nat} {res1:Int}
  (hl1:l1.length≤c1∧c1≤maxLen) (hA1:Rds QN μ L A1 l1) (h:Qap F l1 nodes1 materials1=some res1)
  (hR:R (.int .i64 res1) μ (L)) :
  Fn Tryz.prog 60 [.slice A1 l1.length c1,.int .i64 nodes1,.int .i64 materials1] μ (L) R:=by
 unfold Qap at h;refine FnS Tryz.func60 (by kernel_rfl) E Tryz.ntmps60 E E ?_;refine G0 6 E ?_;refine Cut h (fun f l o_ f_ μ_ l_=> ∃(v1:Bool),v1=o_∧Qg ((26,.bool v1)::Ql [0,1,2] f) f_∧Qd l l_∧μ=μ_) ?_ ?_
 ·intro _ h837 h;refine G0 4 E ?_;refine Br h837 15 E E (fun hc1 h837=> ?_) (fun hc1 h837=> ?_)
  ·refine G2 12 [15,19,23] [] [] E ?_;cases h837;exact Ce E ⟨_,rfl,fE E,sE [] 0 E,rfl⟩
  refine G2 4 [] [15] [] E ?_;refine Br h837 19 E E (fun hc2 h837=> ?_) (fun hc2 h837=> ?_)
  ·refine G2 8 [19,23] [] [] E ?_;cases h837;exact Ce E ⟨_,rfl,fE E,sE [] 0 E,rfl⟩
  refine G2 4 [] [19] [] E ?_;refine Br h837 23 E E (fun hc3 h837=> ?_) (fun hc3 h837=> ?_)
  ·refine G2 4 [23] [] [] E ?_;cases h837;exact Ce E ⟨_,rfl,fE E,sE [] 0 E,rfl⟩
  refine G2 4 [] [23] [] E ?_;cases h837;exact Ce E ⟨_,rfl,fE E,sE [] 0 E,rfl⟩
 rintro _ _ _ _ h _ ⟨v1,rfl,hF837,hS837,rfl⟩;refine Atn 0 hF837 hS837 E E ?_;refine Br h 26 E E (fun hc4 h=> ?_) (fun hc4 h=> ?_)
 ·refine G2 5 [26] [] [] E ?_;cases h;exact Rt [] E E (Ug [] 0 hR)
 refine G2 9 [] [26] [] E ?_;refine Br h 29 E E (fun hc5 h=> ?_) (fun hc5 h=> ?_)
 ·refine G2 5 [29] [] [] E ?_;cases h;exact Rt [] E E (Ug [] 0 hR)
 refine G2 9 [] [29] [] E ?_;refine Br h 32 E E (fun hc6 h=> ?_) (fun hc6 h=> ?_)
 ·refine G2 5 [32] [] [] E ?_;cases h;exact Rt [] E E (Ug [] 0 hR)
 refine G2 9 [] [32] [] E ?_;refine Cut h (fun f l o_ f_ μ_ l_=>(.inl ())=o_∧Qg (Ql [0] f) f_∧Qd l l_∧μ=μ_) ?_ ?_
 ·intro _ h838 h;refine Lp h838 (fun f l (v2:Int) f_ μ_ l_=>Qg ((35,.int .i64 v2)::Ql [0,1,2,33,34] f) f_∧Qd l l_∧μ=μ_) ⟨fE E,sE [] 0 E,E⟩ ?_;rintro v2 _ _ _ _ _ ⟨hF853,hS853,rfl⟩ hb853 hq853;unfold W3 at hb853;refine Atn 0 hF853 hS853 E E (G0 5 E ?_);refine Br hb853 36 E E (fun hc7 hb853=> ?_) (fun hc7 hb853=> ?_)
  ·refine G2 6 [36] [] [] E (Ix hb853 hA1 E E fun _ _ _ _ hr1 hc8 _ hb853=> ?_);obtain rfl:=hr1;refine Q3 1 [] [] [64] (Z1 hc8) E (Al E fun _=>Q1 7 [0,0] E (Cl E ?_));obtain ⟨_,hx2,hb853⟩:=Qi hb853;refine Qhv  hx2 ((Q0 7 E ?_));refine Br hb853 44 E E (fun hc9 hb853=> ?_) (fun hc9 hb853=> ?_)
   ·refine G2 6 [44] [] [] E ?_;cases hb853;have hq_:=hq853 _ E;subst hq_;replace h:=QZ h;cases h;exact Rt [] E E (Ug [] 1 hR)
   refine G2 7 [] [44] [] E ?_;cases hb853;exact Ce E ⟨_,rfl,fE E,sE [] 1 E,rfl⟩
  refine G2 2 [] [36] [] E ?_;cases hb853;have hq_:=hq853 _ E;subst hq_;exact Ce E ⟨rfl,fE E,sE [] 0 E,rfl⟩
 rintro _ _ _ _ h _ ⟨rfl,hF838,hS838,rfl⟩;replace h:=Yp h;refine Atn 0 hF838 hS838 E E (G0 2 E (So E (Qfq (fun g2=>Q0 9 E ?_))));refine Cut h (fun f l o_ f_ μ_ l_=>(.inl ())=o_∧Qg ([]) f_∧Qd (QB [] 1 l) l_∧μ=μ_) ?_ ?_
 ·intro _ h857 h;refine Lp h857 (fun f l (j_:(List (ByteArray×Bool))×Int) f_ μ_ l_=>Y5 j_ fun m1 v3=> ∃(es1:Array MapEntry) (cn1:Nat),Qg ((50,.int .i64 v3)::Ql [10,48,49] f) f_∧Qd ([(g2,.map es1 cn1)]::QB [] 1 l) l_∧QeH Value.bool es1 cn1 m1∧μ=μ_) ⟨#[],0,fE E,sE [some 0] 1 E,((QeH.nil (enc:=Value.bool))),E⟩ ?_;rintro ⟨m1,v3⟩ _ _ _ _ _ ⟨es1,cn1,hF862,hS862,hM1,rfl⟩ hb862 hq862;unfold W4 at hb862;replace hb862:=Qn hb862;refine Atn 1 hF862 hS862 E E (G0 5 E ?_);refine Br hb862 51 E E (fun hc10 hb862=> ?_) (fun hc10 hb862=> ?_)
  ·refine G2 6 [51] [] [] E (Ix hb862 hA1 E E fun _ _ _ _ hr2 hc11 _ hb862=> ?_);obtain rfl:=hr2;refine Q3 1 [] [] [64] (Z1 (hc11.push)) E (Al E fun _=>Q1 8 [0,0] E (Rdo E E (Qnh (zb:=false) Q9 E E E E E E E E (VH.seg 1 0 E E) hM1 (Q0 1 E ?_))));refine Br hb862 57 E E (fun hc12 hb862=> ?_) (fun hc12 hb862=> ?_)
   ·refine G2 5 [57] [] [] E ?_;cases hb862;have hq_:=hq862 _ E;subst hq_;replace h:=QZ h;cases h;exact Rt [] E E (Ug [] 2 hR)
   refine G2 6 [] [57] [0] E (So E (QaA E E E (Qjg Q9 E E E E 1 (b:=true) E hM1 E fun es2 cn2 hM2=>Q0 6 E ?_)));cases hb862;exact Ce E ⟨_,rfl,es2,cn2,fE E,sE [some 1] 2 E,(hM2),rfl⟩
  refine G2 2 [] [51] [] E ?_;cases hb862;have hq_:=hq862 _ E;subst hq_;exact Ce E ⟨rfl,fE E,sE [] 1 E,rfl⟩
 rintro _ _ _ _ h _ ⟨rfl,hF857,hS857,rfl⟩;replace h:=Yp h;refine Atn 0 hF857 hS857 E E (G0 4 E ?_);cases h;exact Rt [] E E (Ug [] 0 hR)
theorem Qjz  {x1:Qt} {nodes1:Int} {materials1:Int}  {res1:Int}
   (h:Qd6 x1 nodes1 materials1=some res1)
  (hR:R (.int .i64 res1) μ (L)) :
  Fn Tryz.prog 82 [.agg #[.int .i64 x1.Container,.int .i64 x1.Node,.int .i64 x1.Kind,.int .i64 x1.Grams,.int .i64 x1.When.From,.int .i64 x1.When.To,.int .i64 x1.Service],.int .i64 nodes1,.int .i64 materials1] μ (L) R:=by
 unfold Qd6 at h;refine FnS Tryz.func82 (by kernel_rfl) E Tryz.ntmps82 E E ?_;refine G0 2 E (Al E fun _=>Q0 5 E ?_);refine Cut h (fun f l o_ f_ μ_ l_=> ∃(v1:Bool),v1=o_∧Qg ((7,.bool v1)::Ql [3] f) f_∧Qd l l_∧μ=μ_) ?_ ?_
 ·intro _ h874 h;refine G1 3 [0] E (Cl E ?_);obtain ⟨_,hx1,h874⟩:=Qi h874;refine W2  hx1 ((Q0 2 E ?_));refine Br h874 12 E E (fun hc1 h874=> ?_) (fun hc1 h874=> ?_)
  ·refine G2 23 [12,17,23,28] [] [] E ?_;cases h874;exact Ce E ⟨_,rfl,fE E,sE [some 0] 1 E,rfl⟩
  refine G2 5 [] [12] [0] E ?_;refine Br h874 17 E E (fun hc2 h874=> ?_) (fun hc2 h874=> ?_)
  ·refine G2 18 [17,23,28] [] [] E ?_;cases h874;exact Ce E ⟨_,rfl,fE E,sE [some 0] 1 E,rfl⟩
  refine G2 6 [] [17] [0] E ?_;refine Br h874 23 E E (fun hc3 h874=> ?_) (fun hc3 h874=> ?_)
  ·refine G2 12 [23,28] [] [] E ?_;cases h874;exact Ce E ⟨_,rfl,fE E,sE [some 0] 1 E,rfl⟩
  refine G2 5 [] [23] [0] E ?_;refine Br h874 28 E E (fun hc4 h874=> ?_) (fun hc4 h874=> ?_)
  ·refine G2 7 [28] [] [] E ?_;cases h874;exact Ce E ⟨_,rfl,fE E,sE [some 0] 1 E,rfl⟩
  refine G2 7 [] [28] [0] E ?_;cases h874;exact Ce E ⟨_,rfl,fE E,sE [some 0] 1 E,rfl⟩
 rintro _ _ _ _ h _ ⟨v1,rfl,hF874,hS874,rfl⟩;refine Atn 1 hF874 hS874 E E ?_;refine Br h 7 E E (fun hc5 h=> ?_) (fun hc5 h=> ?_)
 ·refine G2 5 [7] [] [] E ?_;cases h;exact Rt [] E E (Ug [] 1 hR)
 refine G2 2 [] [7] [] E ?_;refine Cut h (fun f l o_ f_ μ_ l_=> ∃(v2:Bool),v2=o_∧Qg ((34,.bool v2)::[]) f_∧Qd (QB [] 1 l) l_∧μ=μ_) ?_ ?_
 ·intro _ h877 h;refine G1 3 [0] E (Cl E ?_);obtain ⟨_,hx2,h877⟩:=Qi h877;refine W2  hx2 ((Q0 2 E ?_));refine Br h877 39 E E (fun hc6 h877=> ?_) (fun hc6 h877=> ?_)
  ·refine G2 28 [39,45,54,60] [] [] E ?_;cases h877;exact Ce E ⟨_,rfl,fE E,sE [] 1 E,rfl⟩
  refine G2 6 [] [39] [0] E ?_;refine Br h877 45 E E (fun hc7 h877=> ?_) (fun hc7 h877=> ?_)
  ·refine G2 22 [45,54,60] [] [] E ?_;cases h877;exact Ce E ⟨_,rfl,fE E,sE [] 1 E,rfl⟩
  refine G2 9 [] [45] [0,0] E ?_;refine Br h877 54 E E (fun hc8 h877=> ?_) (fun hc8 h877=> ?_)
  ·refine G2 13 [54,60] [] [] E ?_;cases h877;exact Ce E ⟨_,rfl,fE E,sE [] 1 E,rfl⟩
  refine G2 6 [] [54] [0] E ?_;refine Br h877 60 E E (fun hc9 h877=> ?_) (fun hc9 h877=> ?_)
  ·refine G2 7 [60] [] [] E ?_;cases h877;exact Ce E ⟨_,rfl,fE E,sE [] 1 E,rfl⟩
  refine G2 2 [] [60] [0] E (Cl E ?_);obtain ⟨_,hx3,h877⟩:=Qi h877;refine W2  hx3 ((Q2 4 [] [60] [] E ?_));cases h877;exact Ce E ⟨_,rfl,fE E,sE [] 1 E,rfl⟩
 rintro _ _ _ _ h _ ⟨v2,rfl,hF877,hS877,rfl⟩;refine Atn 0 hF877 hS877 E E ?_;refine Br h 34 E E (fun hc10 h=> ?_) (fun hc10 h=> ?_)
 ·refine G2 5 [34] [] [] E ?_;cases h;exact Rt [] E E (Ug [] 0 hR)
 refine G2 7 [] [34] [] E ?_;cases h;exact Rt [] E E (Ug [] 0 hR)
theorem QgB  {y1:Qt} {b1:Qt} {g1:Nat} {res1:Bool}
   (h:Qby y1 b1=some res1)
  (hR:R (.bool res1) μ ([(g1,.cells #[.int .i64 b1.Container,.int .i64 b1.Node,.int .i64 b1.Kind,.int .i64 b1.Grams,.int .i64 b1.When.From,.int .i64 b1.When.To,.int .i64 b1.Service] 60 (0,0))]::L)) :
  Fn Tryz.prog 84 [.agg #[.int .i64 y1.Container,.int .i64 y1.Node,.int .i64 y1.Kind,.int .i64 y1.Grams,.int .i64 y1.When.From,.int .i64 y1.When.To,.int .i64 y1.Service],.pointer (some ⟨g1,0,none⟩)] μ ([(g1,.cells #[.int .i64 b1.Container,.int .i64 b1.Node,.int .i64 b1.Kind,.int .i64 b1.Grams,.int .i64 b1.When.From,.int .i64 b1.When.To,.int .i64 b1.Service] 60 (0,0))]::L) R:=by
 unfold Qby at h;refine FnS Tryz.func84 (by kernel_rfl) E Tryz.ntmps84 E E ?_;refine G0 2 E (Al E fun _=>Q1 11 [0,1] E ?_);cases h;exact Rt [] E E (Ug [[1]] 2 hR)
theorem QbY  {s1:(List Qt)} {b1:Qt} {A1:Option Addr} {c1:Nat} {g1:Nat} {res1:Int}
  (hl1:s1.length≤c1∧c1≤maxLen) (hA1:Rds QH μ L A1 s1) (h:Jk s1 b1=some res1)
  (hR:R (.int .i64 res1) μ ([(g1,.cells #[.int .i64 b1.Container,.int .i64 b1.Node,.int .i64 b1.Kind,.int .i64 b1.Grams,.int .i64 b1.When.From,.int .i64 b1.When.To,.int .i64 b1.Service] 60 (0,0))]::L)) :
  Fn Tryz.prog 98 [.slice A1 s1.length c1,.func (.func 84) #[] #[.pointer (some ⟨g1,0,none⟩)]] μ ([(g1,.cells #[.int .i64 b1.Container,.int .i64 b1.Node,.int .i64 b1.Kind,.int .i64 b1.Grams,.int .i64 b1.When.From,.int .i64 b1.When.To,.int .i64 b1.Service] 60 (0,0))]::L) R:=by
 unfold Jk at h;refine FnS Tryz.func98 (by kernel_rfl) E Tryz.ntmps98 E E ?_;refine G0 11 E ?_;refine Cut h (fun f l o_ f_ μ_ l_=>(.inl ())=o_∧Qg ([]) f_∧Qd l l_∧μ=μ_) ?_ ?_
 ·intro _ h890 h;refine Lp h890 (fun f l (v1:Int) f_ μ_ l_=>Qg ((8,.int .i64 v1)::Ql [0,1,7] f) f_∧Qd l l_∧μ=μ_) ⟨fE E,sE [some 0] 1 E,E⟩ ?_;rintro v1 _ _ _ _ _ ⟨hF898,hS898,rfl⟩ hb898 hq898;unfold YT at hb898;refine Atn 1 hF898 hS898 E E (G0 5 E ?_);refine Br hb898 9 E E (fun hc1 hb898=> ?_) (fun hc1 hb898=> ?_)
  ·refine G2 14 [9] [] [] E (Ix hb898 hA1 E E fun _ _ _ _ hr1 hc2 _ hb898=> ?_);obtain rfl:=hr1;refine Q3 1 [] [] [64] (Z1 (hc2.push)) E (Cl E ?_);obtain ⟨_,hx2,hb898⟩:=Qi hb898;refine QgB  hx2 ((Q0 1 E ?_));refine Br hb898 16 E E (fun hc3 hb898=> ?_) (fun hc3 hb898=> ?_)
   ·refine G2 6 [16] [] [] E ?_;cases hb898;have hq_:=hq898 _ E;subst hq_;replace h:=QZ h;cases h;exact Rt [] E E (Ug [[0]] 1 hR)
   refine G2 7 [] [16] [] E ?_;cases hb898;exact Ce E ⟨_,rfl,fE E,sE [some 0] 1 E,rfl⟩
  refine G2 2 [] [9] [] E ?_;cases hb898;have hq_:=hq898 _ E;subst hq_;exact Ce E ⟨rfl,fE E,sE [some 0] 1 E,rfl⟩
 rintro _ _ _ _ h _ ⟨rfl,hF890,hS890,rfl⟩;replace h:=Yp h;refine Atn 1 hF890 hS890 E E (G0 4 E ?_);cases h;exact Rt [] E E (Ug [[0]] 1 hR)
theorem Qbs  {s1:(List Qt)} {b1:Qt} {A1:Option Addr} {c1:Nat} {g1:Nat} {res1:Bool}
  (hl1:s1.length≤c1∧c1≤maxLen) (hA1:Rds QH μ L A1 s1) (h:YS s1 b1=some res1)
  (hR:R (.bool res1) μ ([(g1,.cells #[.int .i64 b1.Container,.int .i64 b1.Node,.int .i64 b1.Kind,.int .i64 b1.Grams,.int .i64 b1.When.From,.int .i64 b1.When.To,.int .i64 b1.Service] 60 (0,0))]::L)) :
  Fn Tryz.prog 83 [.slice A1 s1.length c1,.func (.func 84) #[] #[.pointer (some ⟨g1,0,none⟩)]] μ ([(g1,.cells #[.int .i64 b1.Container,.int .i64 b1.Node,.int .i64 b1.Kind,.int .i64 b1.Grams,.int .i64 b1.When.From,.int .i64 b1.When.To,.int .i64 b1.Service] 60 (0,0))]::L) R:=by
 unfold YS at h;refine FnS Tryz.func83 (by kernel_rfl) E Tryz.ntmps83 E E ?_;refine G0 8 E (Cl E ?_);obtain ⟨_,hx1,h⟩:=Qi h;refine QbY hl1 hA1 hx1 ((Q0 3 E ?_));cases h;exact Rt [] E E (Ug [[0]] 1 hR)
theorem QhX  {l1:(List Qt)} {nodes1:Int} {materials1:Int} {A1:Option Addr} {c1:Nat} {res1:Int}
  (hl1:l1.length≤c1∧c1≤maxLen) (hA1:Rds QH μ L A1 l1) (h:Qbx l1 nodes1 materials1=some res1)
  (hR:R (.int .i64 res1) μ (L)) :
  Fn Tryz.prog 61 [.slice A1 l1.length c1,.int .i64 nodes1,.int .i64 materials1] μ (L) R:=by
 unfold Qbx at h;refine FnS Tryz.func61 (by kernel_rfl) E Tryz.ntmps61 E E ?_;refine G0 11 E ?_;refine Br h 14 E E (fun hc1 h=> ?_) (fun hc1 h=> ?_)
 ·refine G2 5 [14] [] [] E ?_;cases h;exact Rt [] E E (Ug [] 0 hR)
 refine G2 9 [] [14] [] E ?_;refine Cut h (fun f l o_ f_ μ_ l_=>(.inl ())=o_∧Qg (Ql [0] f) f_∧Qd l l_∧μ=μ_) ?_ ?_
 ·intro _ h869 h;refine Lp h869 (fun f l (v1:Int) f_ μ_ l_=>Qg ((17,.int .i64 v1)::Ql [0,1,2,15,16] f) f_∧Qd l l_∧μ=μ_) ⟨fE E,sE [] 0 E,E⟩ ?_;rintro v1 _ _ _ _ _ ⟨hF878,hS878,rfl⟩ hb878 hq878;unfold Qbd at hb878;refine Atn 0 hF878 hS878 E E (G0 5 E ?_);refine Br hb878 18 E E (fun hc2 hb878=> ?_) (fun hc2 hb878=> ?_)
  ·refine G2 6 [18] [] [] E (Ix hb878 hA1 E E fun _ _ _ _ hr1 hc3 _ hb878=> ?_);obtain rfl:=hr1;refine Q3 1 [] [] [64] (Z1 hc3) E (Al E fun _=>Q1 7 [0,0] E (Cl E ?_));obtain ⟨_,hx2,hb878⟩:=Qi hb878;refine Qjz  hx2 ((Q0 7 E ?_));refine Br hb878 26 E E (fun hc4 hb878=> ?_) (fun hc4 hb878=> ?_)
   ·refine G2 6 [26] [] [] E ?_;cases hb878;have hq_:=hq878 _ E;subst hq_;replace h:=QZ h;cases h;exact Rt [] E E (Ug [] 1 hR)
   refine G2 7 [] [26] [] E ?_;cases hb878;exact Ce E ⟨_,rfl,fE E,sE [] 1 E,rfl⟩
  refine G2 2 [] [18] [] E ?_;cases hb878;have hq_:=hq878 _ E;subst hq_;exact Ce E ⟨rfl,fE E,sE [] 0 E,rfl⟩
 rintro _ _ _ _ h _ ⟨rfl,hF869,hS869,rfl⟩;replace h:=Yp h;refine Atn 0 hF869 hS869 E E (G0 7 E ?_);refine Cut h (fun f l o_ f_ μ_ l_=>(.inl ())=o_∧Qg ([]) f_∧Qd l l_∧μ=μ_) ?_ ?_
 ·intro _ h881 h;refine Lp h881 (fun f l (v2:Int) f_ μ_ l_=>Qg ((31,.int .i64 v2)::Ql [0,29,30] f) f_∧Qd l l_∧μ=μ_) ⟨fE E,sE [] 0 E,E⟩ ?_;rintro v2 _ _ _ _ _ ⟨hF907,hS907,rfl⟩ hb907 hq907;unfold Qag at hb907;refine Atn 0 hF907 hS907 E E (G0 5 E ?_);refine Br hb907 32 E E (fun hc5 hb907=> ?_) (fun hc5 hb907=> ?_)
  ·refine G2 7 [32] [] [] E (Ix hb907 hA1 E E fun _ _ _ _ hr2 hc6 _ hb907=> ?_);obtain rfl:=hr2;refine Q3 1 [] [] [64] (Z1 hc6) E (Al E fun _=> ?_);obtain ⟨_,hs1,hb907⟩:=Qi hb907;refine Q1 7 [0] E (Rdo E E (Qd4 E E E E E E hl1.1 hs1 ?_));have hA4:=Rds.pre hA1 hs1;have hl2:=Qgh hl1 hs1;refine Q0 1 E (Cl E ?_);obtain ⟨_,hx4,hb907⟩:=Qi hb907;refine Qbs hl2 hA4 hx4 ((Q0 1 E ?_));refine Br hb907 40 E E (fun hc7 hb907=> ?_) (fun hc7 hb907=> ?_)
   ·refine G2 5 [40] [] [] E ?_;cases hb907;have hq_:=hq907 _ E;subst hq_;replace h:=QZ h;cases h;exact Rt [] E E (Ug [] 1 hR)
   refine G2 7 [] [40] [] E ?_;cases hb907;exact Ce E ⟨_,rfl,fE E,sE [] 1 E,rfl⟩
  refine G2 2 [] [32] [] E ?_;cases hb907;have hq_:=hq907 _ E;subst hq_;exact Ce E ⟨rfl,fE E,sE [] 0 E,rfl⟩
 rintro _ _ _ _ h _ ⟨rfl,hF881,hS881,rfl⟩;replace h:=Yp h;refine Atn 0 hF881 hS881 E E (G0 4 E ?_);cases h;exact Rt [] E E (Ug [] 0 hR)
theorem Qba {F:Nat} {p1:Qe} {A1:Option Addr} {c1:Nat} {A2:Option Addr} {c2:Nat} {A3:Option Addr} {c3:Nat} {res1:Int}
  (hl1:p1.Road.Edges.length≤c1∧c1≤maxLen) (hA1:Qs QY μ A1 p1.Road.Edges) (hl2:p1.Vehicles.length≤c2∧c2≤maxLen) (hA2:Qs QN μ A2 p1.Vehicles) (hl3:p1.Demands.length≤c3∧c3≤maxLen) (hA3:Qs QH μ A3 p1.Demands) (h:Qad F p1=some res1)
  (hR: ∀(μ':Gh) ,μ.le μ'→R (.int .i64 res1) μ' (L)) :
  Fn Tryz.prog 34 [.agg #[.int .i64 p1.Road.Nodes,.slice A1 p1.Road.Edges.length c1,.slice A2 p1.Vehicles.length c2,.slice A3 p1.Demands.length c3,.int .i64 p1.Unload,.int .i64 p1.UnloadSecs]] μ (L) R:=by
 unfold Qad at h;refine FnS Tryz.func34 (by kernel_rfl) E Tryz.ntmps34 E E ?_;refine G0 2 E (Al E fun _=>Q1 7 [0] E (Cl E ?_));obtain ⟨_,hx1,h⟩:=Qi h;refine QfN hl1 hA1 hx1 (fun _ hm_1=> ?_);replace hA2:=hA2.mono hm_1;replace hA3:=hA3.mono hm_1;refine Q0 7 E ?_;refine Br h 10 E E (fun hc1 h=> ?_) (fun hc1 h=> ?_)
 ·refine G2 6 [10] [] [] E ?_;cases h;exact Rt [] E E (Ug [] 1 (hR _ hm_1))
 refine G2 10 [] [10] [0,0] E (Cl E ?_);obtain ⟨_,hx2,h⟩:=Qi h;refine Qhu hl2 (Qs.rds hA2 _) hx2 ((Q0 7 E ?_));refine Br h 19 E E (fun hc2 h=> ?_) (fun hc2 h=> ?_)
 ·refine G2 6 [19] [] [] E ?_;cases h;exact Rt [] E E (Ug [] 1 (hR _ hm_1))
 refine G2 10 [] [19] [0,0] E (Cl E ?_);obtain ⟨_,hx3,h⟩:=Qi h;refine QhX hl3 (Qs.rds hA3 _) hx3 ((Q0 7 E ?_));refine Br h 28 E E (fun hc3 h=> ?_) (fun hc3 h=> ?_)
 ·refine G2 6 [28] [] [] E ?_;cases h;exact Rt [] E E (Ug [] 1 (hR _ hm_1))
 refine G2 5 [] [28] [] E ?_;refine Cut h (fun f l o_ f_ μ_ l_=> ∃(v2:Bool),v2=o_∧Qg ((30,.bool v2)::Ql [1] f) f_∧Qd l l_) ?_ ?_
 ·intro _ h920 h;refine G1 5 [0] E ?_;refine Br h920 34 E E (fun hc4 h920=> ?_) (fun hc4 h920=> ?_)
  ·refine G2 9 [34] [] [] E ?_;cases h920;exact Ce E ⟨_,rfl,fE E,sE [some 0] 1 E⟩
  refine G2 9 [] [34] [0,0] E ?_;cases h920;exact Ce E ⟨_,rfl,fE E,sE [some 0] 1 E⟩
 rintro _ _ _ _ h hm920 ⟨v2,rfl,hF920,hS920⟩;refine Atn 1 hF920 hS920 E E ?_;refine Br h 30 E E (fun hc5 h=> ?_) (fun hc5 h=> ?_)
 ·refine G2 5 [30] [] [] E ?_;cases h;exact Rt [] E E (Ug [] 1 (hR _ (hm_1.trans hm920)))
 refine G2 2 [] [30] [] E ?_;refine Cut h (fun f l o_ f_ μ_ l_=> ∃(v3:Bool),v3=o_∧Qg ((42,.bool v3)::[]) f_∧Qd (QB [] 1 l) l_) ?_ ?_
 ·intro _ h923 h;refine G1 5 [0] E ?_;refine Br h923 46 E E (fun hc6 h923=> ?_) (fun hc6 h923=> ?_)
  ·refine G2 6 [46] [] [] E ?_;cases h923;exact Ce E ⟨_,rfl,fE E,sE [] 1 E⟩
  refine G2 6 [] [46] [0] E ?_;cases h923;exact Ce E ⟨_,rfl,fE E,sE [] 1 E⟩
 rintro _ _ _ _ h hm923 ⟨v3,rfl,hF923,hS923⟩;refine Atn 0 hF923 hS923 E E ?_;refine Br h 42 E E (fun hc7 h=> ?_) (fun hc7 h=> ?_)
 ·refine G2 5 [42] [] [] E ?_;cases h;exact Rt [] E E (Ug [] 0 (hR _ (hm_1.trans (hm920.trans hm923))))
 refine G2 7 [] [42] [] E ?_;cases h;exact Rt [] E E (Ug [] 0 (hR _ (hm_1.trans (hm920.trans hm923))))
theorem QfJ  {s1:(List Int)} {v1:Int} {A1:Option Addr} {c1:Nat} {res1:Int}
  (hl1:s1.length≤c1∧c1≤maxLen) (hA1:Rds Yc μ L A1 s1) (h:QaQ s1 v1=some res1)
  (hR:R (.int .i64 res1) μ (L)) :
  Fn Tryz.prog 45 [.slice A1 s1.length c1,.int .i64 v1] μ (L) R:=by
 unfold QaQ at h;refine FnS Tryz.func45 (by kernel_rfl) E Tryz.ntmps45 E E ?_;refine G0 11 E ?_;refine Cut h (fun f l o_ f_ μ_ l_=>(.inl ())=o_∧Qg ([]) f_∧Qd l l_∧μ=μ_) ?_ ?_
 ·intro _ h1017 h;refine Lp h1017 (fun f l (v2:Int) f_ μ_ l_=>Qg ((8,.int .i64 v2)::Ql [0,1,7] f) f_∧Qd l l_∧μ=μ_) ⟨fE E,sE [] 0 E,E⟩ ?_;rintro v2 _ _ _ _ _ ⟨hF1019,hS1019,rfl⟩ hb1019 hq1019;unfold WD at hb1019;refine Atn 0 hF1019 hS1019 E E (G0 5 E ?_);refine Br hb1019 9 E E (fun hc1 hb1019=> ?_) (fun hc1 hb1019=> ?_)
  ·refine G2 14 [9] [] [] E (Ix hb1019 hA1 E E fun _ _ _ _ hr1 hc2 _ hb1019=> ?_);obtain rfl:=hr1;refine Q3 3 [] [] [64] (Z1 hc2) E ?_;refine Br hb1019 16 E E (fun hc3 hb1019=> ?_) (fun hc3 hb1019=> ?_)
   ·refine G2 6 [16] [] [] E ?_;cases hb1019;have hq_:=hq1019 _ E;subst hq_;replace h:=QZ h;cases h;exact Rt [] E E (Ug [] 0 hR)
   refine G2 7 [] [16] [] E ?_;cases hb1019;exact Ce E ⟨_,rfl,fE E,sE [] 0 E,rfl⟩
  refine G2 2 [] [9] [] E ?_;cases hb1019;have hq_:=hq1019 _ E;subst hq_;exact Ce E ⟨rfl,fE E,sE [] 0 E,rfl⟩
 rintro _ _ _ _ h _ ⟨rfl,hF1017,hS1017,rfl⟩;replace h:=Yp h;refine Atn 0 hF1017 hS1017 E E (G0 4 E ?_);cases h;exact Rt [] E E (Ug [] 0 hR)
theorem WT  {s1:(List Int)} {v1:Int} {A1:Option Addr} {c1:Nat} {res1:Bool}
  (hl1:s1.length≤c1∧c1≤maxLen) (hA1:Rds Yc μ L A1 s1) (h:YC s1 v1=some res1)
  (hR:R (.bool res1) μ (L)) :
  Fn Tryz.prog 21 [.slice A1 s1.length c1,.int .i64 v1] μ (L) R:=by
 unfold YC at h;refine FnS Tryz.func21 (by kernel_rfl) E Tryz.ntmps21 E E ?_;refine G0 8 E (Cl E ?_);obtain ⟨_,hx1,h⟩:=Qi h;refine QfJ hl1 hA1 hx1 ((Q0 3 E ?_));cases h;exact Rt [] E E (Ug [] 0 hR)
theorem QdI  {stops1:(List Int)} {k1:Int} {more1:(List Int)} {A1:Option Addr} {c1:Nat} {A2:Option Addr} {c2:Nat} {res1:(List Int)}
  (hl1:stops1.length≤c1∧c1≤maxLen) (hA1:Rds Yc μ L A1 stops1) (hl2:more1.length≤c2∧c2≤maxLen) (hA2:Rds Yc μ L A2 more1) (h:WV stops1 k1 more1=some res1)
  (hR: ∀(A0:Option Addr) (c0:Nat) (ch0:Seg),Own Yc 3 μ (.slice A0 res1.length c0) res1 ch0→R (.slice A0 res1.length c0) μ (ch0::L)) :
  Fn Tryz.prog 85 [.slice A1 stops1.length c1,.int .i64 k1,.slice A2 more1.length c2] μ (L) R:=by
 unfold WV at h;refine FnS Tryz.func85 (by kernel_rfl) E Tryz.ntmps85 E E ?_;refine G0 6 E (So E (Qau (z:=[]) E E E E E E E (Vt (fun g1=> ?_))));obtain ⟨_,hs1,h⟩:=Qi h;refine Q0 2 E (Rdo E E (Qd4 E E E E E E hl1.1 hs1 ?_));have hA3:=Rds.pre hA1 hs1;have hl3:=Qgh hl1 hs1;refine Q0 0 E (So E (Z7 E ?_));obtain ⟨_,hz1,h⟩:=Qi h;refine JU (r:=Yc) Q9 E E E E (by decide) E E 0 E (Own.empty (r:=Yc) (e:=3) (g:=g1)) E (Rds.push hA3) hz1 fun _ _ _ hO1=>Q0 6 E (So E (Z7 E ?_));obtain ⟨_,hz2,h⟩:=Qi h;refine JU (r:=Yc) Q9 E E E E (by decide) E E 0 E hO1 E (Rds.push hA2) hz2 fun _ _ _ hO2=> ?_;obtain ⟨_,hs2,h⟩:=Qi h;refine Q0 7 E (Rdo E E (Qks (r:=Yc) E E E E E E E hl1.1 hs2 fun _ hAe1=> ?_));have hA4:=Rds.sub hA1 hl1.1 hs2 hAe1;have hl4:=Qnb hl1 hs2;refine Q0 0 E (So E (Z7 E ?_));obtain ⟨_,hz3,h⟩:=Qi h;refine JU (r:=Yc) Q9 E E E E (by decide) E E 0 E hO2 E (Rds.push hA4) hz3 fun A6 c5 ch3 hO3=>Q0 9 E (IxA h (Own.rds hO3 0 E) E E fun _ _ _ _ hr1 hc1 _ h=> ?_);obtain rfl:=hr1;refine Q3 3 [] [] [64] (Z1 hc1) E ?_;refine Cut h (fun f l o_ f_ μ_ l_=> ∃(out1:(List Int)) (A8:Option Addr) (c7:Nat) (ch5:Seg),out1=o_∧Qg ((7,.slice A8 out1.length c7)::[]) f_∧Qd (ch5::QB [] 1 l) l_∧Own Yc 3 μ_ (.slice A8 out1.length c7) out1 ch5∧μ=μ_) ?_ ?_
 ·intro _ h1049 h;refine Br h1049 27 E E (fun hc2 h1049=> ?_) (fun hc2 h1049=> ?_)
  ·refine G2 3 [27] [] [] E (So E (Qau (z:=[.int .i64 0]) E E E E E E E (YP (cells':=[.int .i64 (-1)]) E E E E (Vt (fun g2=>Q0 0 E (So E (Z7 E ?_)))))));obtain ⟨_,hz4,h1049⟩:=Qi h1049;refine JU (r:=Yc) Q9 E E E E (by decide) E E 1 E hO3 E (Own.rds (Own.lit (r:=Yc) (e:=3) (g:=g2) (xs:=[(-1)]) (cs:=[.int .i64 (-1)]) (css:=[[.int .i64 (-1)]]) E (All2.cons (E) (All2.nil)) E E) 0 E) hz4 fun A7 c6 ch4 hO4=>Q0 2 E ?_;cases h1049;exact Ce E ⟨_,A7,c6,ch4,rfl,fE E,sE [some 1] 2 E,(hO4),rfl⟩
  refine G2 2 [] [27] [] E ?_;cases h1049;exact Ce E ⟨_,A6,c5,ch3,rfl,fE E,sE [some 0] 1 E,(hO3),rfl⟩
 rintro _ _ _ _ h _ ⟨out1,A8,c7,ch5,rfl,hF1049,hS1049,hO5,rfl⟩;refine Atn 1 hF1049 hS1049 E E (G0 5 E ?_);cases h;exact Rt [] E E (Ug [[0]] 1 (hR A8 c7 ch5 hO5))
theorem QeX {F:Nat} {t1:Qb} {d1:Int} {A1:Option Addr} {c1:Nat} {res1:(List Qb)}
  (hl1:t1.Stops.length≤c1∧c1≤maxLen) (hA1:Qs Yc μ A1 t1.Stops) (h:Vx F t1 d1=some res1)
  (hR: ∀(μ':Gh) (A0:Option Addr) (c0:Nat) (ch0:Seg),μ.le μ'→Own QE 46 μ' (.slice A0 res1.length c0) res1 ch0→R (.slice A0 res1.length c0) μ' (ch0::L)) :
  Fn Tryz.prog 62 [.agg #[.int .i64 t1.Vehicle,.slice A1 t1.Stops.length c1],.int .i64 d1] μ (L) R:=by
 unfold Vx at h;refine FnS Tryz.func62 (by kernel_rfl) E Tryz.ntmps62 E E ?_;refine G0 2 E (Al E fun g1=>Q1 15 [0] E ?_);refine Cut h (fun f l o_ f_ μ_ l_=> ∃(out3:(List Qb)) (A8:Option Addr) (c8:Nat) (ch7:Seg),out3=o_∧Qg ((5,.slice A8 out3.length c8)::[]) f_∧Qd (ch7::QB [] 1 l) l_∧Own QE 46 μ_ (.slice A8 out3.length c8) out3 ch7) ?_ ?_
 ·intro _ h1258 h;refine Lp h1258 (fun f l (j_:(List Qb)×Int×Int) f_ μ_ l_=>Y5 j_ fun out1 j_=>Y5 j_ fun v1 v2=> ∃(A2:Option Addr) (c2:Nat) (ch1:Seg),Qg ((5,.slice A2 out1.length c2)::(10,.int .i64 v1)::(11,.int .i64 v2)::Ql [1,2] f) f_∧Qd ([(g1,.cells #[.int .i64 t1.Vehicle,.slice A1 t1.Stops.length c1] 46 (0,0))]::ch1::QB [] 1 l) l_∧Own QE 46 μ_ (.slice A2 out1.length c2) out1 ch1) ⟨none,0,[],fE E,sE [some 0,none] 1 E,(Own.nil)⟩ ?_;rintro ⟨out1,v1,v2⟩ _ _ _ _ hm1363 ⟨A2,c2,ch1,hF1363,hS1363,hO1⟩ hb1363 hq1363;unfold We at hb1363;replace hb1363:=Qn hb1363;replace hb1363:=Qn hb1363;replace hA1:=hA1.mono hm1363;refine Atn 2 hF1363 hS1363 E E (G0 5 E ?_);refine Br hb1363 12 E E (fun hc1 hb1363=> ?_) (fun hc1 hb1363=> ?_)
  ·refine G2 3 [12] [] [] E ?_;refine Cut hb1363 (fun f l o_ f_ μ_ l_=> ∃(out2:(List Qb)) (A7:Option Addr) (c7:Nat) (ch6:Seg),out2=o_∧Qg ((5,.slice A7 out2.length c7)::Ql [1,2,10,11] f) f_∧Qd ([(g1,.cells #[.int .i64 t1.Vehicle,.slice A1 t1.Stops.length c1] 46 (0,0))]::ch6::QB [] 2 l) l_∧Own QE 46 μ_ (.slice A7 out2.length c7) out2 ch6) ?_ ?_
   ·intro _ h1369 hb1363;refine G0 7 E (Drk [1] 1 E [(true,0),(true,1),(true,2),(true,3),(true,4),(true,5),(true,6),(false,7),(false,8),(true,9),(false,10),(false,11),(true,12)] (by kernel_rfl) (G1 7 [0,0] E (So E (Qau (z:=[.int .i64 0]) E E E E E E E (YP (cells':=[.int .i64 d1]) E E E E (Vt (fun g2=> ?_)))))));refine ⟨Kp [1] 3 E,?_⟩;refine Q0 0 E (Cl E ?_);obtain ⟨r1,hx1,h1369⟩:=Qi h1369;refine QdI hl1 (Qs.rds hA1 _) (QmF (c:=1) E E) (Own.rds (Own.lit (r:=Yc) (e:=3) (g:=g2) (xs:=[d1]) (cs:=[.int .i64 d1]) (css:=[[.int .i64 d1]]) E (All2.cons (E) (All2.nil)) E E) 0 E) hx1 (fun A3 c3 _ hO2=> ?_);refine ⟨Kp [2] 4 E,?_⟩;refine Q0 1 E (So E (Qau (z:=[.int .i64 0,.slice none 0 0]) E E E E E E E (YP (cells':=[.int .i64 t1.Vehicle,.slice A3 r1.length c3]) E E E E (Vt (fun g3=> ?_)))));refine ⟨Kp [3] 5 E,?_⟩;refine Q0 0 E (So E (Z7 E ?_));have hl2:=Own.lenOk hO2;refine Z3.pre (Upd.frzOwn 1 E hO2 fun _ hm_1 hA2=>Upd.done ?_);replace hA1:=hA1.mono hm_1;replace hO1:=hO1.mono hm_1;obtain ⟨_,hz1,h1369⟩:=Qi h1369;refine JU (r:=QE) Q9 E E E E (by decide) E E 4 E hO1 E (Own.rds (Own.lit (r:=QE) (e:=46) (g:=g3) (xs:=[(Qb.mk t1.Vehicle r1)]) (cs:=[.int .i64 t1.Vehicle,.slice A3 r1.length c3]) (css:=[[.int .i64 t1.Vehicle,.slice A3 r1.length c3]]) E (All2.cons (⟨A3,c3,E,hl2,hA2⟩) (All2.nil)) E E) 0 E) hz1 fun A4 c4 ch3 hO3=> ?_;refine ⟨Kp [3] 5 E,?_⟩;refine Q1 10 [3] E ?_;refine Br h1369 30 E E (fun hc2 h1369=> ?_) (fun hc2 h1369=> ?_)
    ·refine G2 1 [30] [] [] E (Drk [4] 4 E [(true,0),(true,1),(true,2),(true,3),(true,4),(true,5),(true,6),(false,7),(false,8),(true,9),(false,10),(false,11),(true,12)] (by kernel_rfl) (G1 7 [3,3] E (So E (Qau (z:=[.int .i64 0,.int .i64 0]) E E E E E E E (YP (cells':=[.int .i64 d1,.int .i64 0]) E E E E (YP (cells':=[.int .i64 d1,.int .i64 (-1)]) E E E E (Vt (fun g4=> ?_))))))));refine ⟨Kp [1,2,3,4] 6 E,?_⟩;refine Q0 0 E (Cl E ?_);obtain ⟨r2,hx2,h1369⟩:=Qi h1369;refine QdI hl1 (Qs.rds hA1 _) (QmF (c:=2) E E) (Own.rds (Own.lit (r:=Yc) (e:=3) (g:=g4) (xs:=[d1,(-1)]) (cs:=[.int .i64 d1,.int .i64 (-1)]) (css:=[[.int .i64 d1],[.int .i64 (-1)]]) E (All2.cons (E) (All2.cons (E) (All2.nil))) E E) 0 E) hx2 (fun A5 c5 _ hO4=> ?_);refine ⟨Kp [2,3,4,5] 7 E,?_⟩;refine Q0 1 E (So E (Qau (z:=[.int .i64 0,.slice none 0 0]) E E E E E E E (YP (cells':=[.int .i64 t1.Vehicle,.slice A5 r2.length c5]) E E E E (Vt (fun g5=> ?_)))));refine ⟨Kp [3,4,5,6] 8 E,?_⟩;refine Q0 0 E (So E (Z7 E ?_));have hl3:=Own.lenOk hO4;refine Z3.pre (Upd.frzOwn 1 E hO4 fun _ hm_2 hA3=>Upd.done ?_);replace hO1:=hO1.mono hm_2;replace hO3:=hO3.mono hm_2;obtain ⟨_,hz2,h1369⟩:=Qi h1369;refine JU (r:=QE) Q9 E E E E (by decide) E E 7 E hO3 E (Own.rds (Own.lit (r:=QE) (e:=46) (g:=g5) (xs:=[(Qb.mk t1.Vehicle r2)]) (cs:=[.int .i64 t1.Vehicle,.slice A5 r2.length c5]) (css:=[[.int .i64 t1.Vehicle,.slice A5 r2.length c5]]) E (All2.cons (⟨A5,c5,E,hl3,hA3⟩) (All2.nil)) E E) 0 E) hz2 fun A6 c6 ch5 hO5=> ?_;refine ⟨Kp [3,4,5,6] 8 E,?_⟩;refine Q0 3 E ?_;cases h1369;exact Ce E ⟨_,A6,c6,ch5,rfl,fE E,sE [some 6,some 7] 8 E,(hO5)⟩
    refine G2 3 [] [30] [] E ?_;cases h1369;exact Ce E ⟨_,A4,c4,ch3,rfl,fE E,sE [some 3,some 4] 5 E,(hO3)⟩
   rintro _ _ _ _ hb1363 hm1369 ⟨out2,A7,c7,ch6,rfl,hF1369,hS1369,hO6⟩;replace hO1:=hO1.mono hm1369;refine Atn 2 hF1369 hS1369 E E (G0 4 E ?_);cases hb1363;exact Ce E ⟨_,rfl,A7,c7,ch6,fE E,sE [some 0,some 1] 2 E,(hO6)⟩
  refine G2 2 [] [12] [] E ?_;cases hb1363;have hq_:=hq1363 _ E;subst hq_;exact Ce E ⟨_,A2,c2,ch1,rfl,fE E,sE [some 1] 2 E,(hO1)⟩
 rintro _ _ _ _ h hm1258 ⟨out3,A8,c8,ch7,rfl,hF1258,hS1258,hO7⟩;refine Atn 1 hF1258 hS1258 E E (G0 5 E ?_);cases h;exact Rt [] E E (Ug [[0]] 1 (hR _ A8 c8 ch7 hm1258 hO7))
theorem Qc2  {v1:QD} {kind1:Int}  {res1:Bool}
   (h:Ww v1 kind1=some res1)
  (hR:R (.bool res1) μ (L)) :
  Fn Tryz.prog 46 [.agg #[.string v1.ID,.int .i64 v1.Depot,.int .i64 v1.Shift.From,.int .i64 v1.Shift.To,.int .i64 v1.Grams,.int .i64 v1.Kinds],.int .i64 kind1] μ (L) R:=by
 unfold Ww at h;refine FnS Tryz.func46 (by kernel_rfl) E Tryz.ntmps46 E E ?_;refine G0 2 E (Al E fun _=>Q0 3 E ?_);refine Cut h (fun f l o_ f_ μ_ l_=> ∃(v2:Bool),v2=o_∧Qg ((4,.bool v2)::[]) f_∧Qd (QB [] 1 l) l_∧μ=μ_) ?_ ?_
 ·intro _ h1532 h;refine G0 4 E ?_;refine Br h1532 7 E E (fun hc1 h1532=> ?_) (fun hc1 h1532=> ?_)
  ·refine G2 4 [7] [] [] E ?_;refine Br h1532 11 E E (fun hc2 h1532=> ?_) (fun hc2 h1532=> ?_)
   ·refine G2 3 [11] [] [0] E (Rdo E E ?_);obtain ⟨_,hg1,h1532⟩:=Qi h1532;refine Qd3 E E E (Ja hg1) (Q0 0 E (Rdo E E ?_));refine Qry E E ⟨_,QoL _ _ _,?_⟩;refine Q2 4 [11] [] [] E ?_;cases h1532;exact Ce E ⟨_,rfl,fE E,sE [] 1 E,rfl⟩
   refine G2 9 [] [11] [] E ?_;cases h1532;exact Ce E ⟨_,rfl,fE E,sE [] 1 E,rfl⟩
  refine G2 13 [] [7,11] [] E ?_;cases h1532;exact Ce E ⟨_,rfl,fE E,sE [] 1 E,rfl⟩
 rintro _ _ _ _ h _ ⟨v2,rfl,hF1532,hS1532,rfl⟩;refine Atn 0 hF1532 hS1532 E E ?_;cases h;exact Rt [] E E (Ug [] 0 hR)
theorem QgX    {res1:Qr}
   (h:QcK=some res1)
  (hR:R (.agg #[.int .i64 res1.Secs,.int .i64 res1.Meters]) μ (L)) :
  Fn Tryz.prog 130 [] μ (L) R:=by
 unfold QcK at h;refine FnS Tryz.func130 (by kernel_rfl) E Tryz.ntmps130 E E ?_;refine G0 2 E (Al E fun _=>Q1 6 [0] E ?_);cases h;exact Rt [0] E E (Ug [] 1 hR)
theorem QdN    {res1:Qf}
   (h:Vy=some res1)
  (hR: ∀(v0:Value) (so0:Seg),Qk μ v0 res1 so0→R (v0) μ (so0::L)) :
  Fn Tryz.prog 131 [.func (.func 132) #[] #[]] μ (L) R:=by
 unfold Vy at h;refine FnS Tryz.func131 (by kernel_rfl) E Tryz.ntmps131 E E ?_;refine G0 8 E (Rdo E E (QrA Q9 E E E E (Q2 7 [] [4] [] E (Al E fun g1=>Q0 2 E ?_))));cases h;exact Rt [] E E (Ug [[0,99]] 1 (hR (.pointer (some ⟨g1,0,none⟩)) _ ⟨g1,none,0,[],rfl,rfl,Own.nil⟩))
theorem Qfe  {a1:Qr} {b1:Qr}  {res1:Bool}
   (h:Qbp a1 b1=some res1)
  (hR:R (.bool res1) μ (L)) :
  Fn Tryz.prog 133 [.agg #[.int .i64 a1.Secs,.int .i64 a1.Meters],.agg #[.int .i64 b1.Secs,.int .i64 b1.Meters]] μ (L) R:=by
 unfold Qbp at h;refine FnS Tryz.func133 (by kernel_rfl) E Tryz.ntmps133 E E ?_;refine G0 2 E (Al E fun _=>Q0 0 E (Al E fun _=>Q0 3 E ?_));refine Cut h (fun f l o_ f_ μ_ l_=> ∃(v1:Bool),v1=o_∧Qg ((4,.bool v1)::[]) f_∧Qd (QB [] 2 l) l_∧μ=μ_) ?_ ?_
 ·intro _ h1740 h;refine Dr _ QF.refl [(true,0),(false,1),(true,2),(true,3),(true,4),(true,5),(true,6),(true,7),(true,8),(true,9),(true,10),(true,11),(true,12),(true,13),(true,14),(true,15),(true,16),(true,17),(true,18),(true,19),(true,20),(true,21),(true,22),(true,23),(true,24)] (by kernel_rfl) (G1 1 [0] E (Cl E ?_));obtain ⟨r1,hx1,h1740⟩:=Qi h1740;refine QgX  hx1 (?_);refine ⟨QF.refl,?_⟩;refine Q0 0 E (Rdo E E (QjL E E (Ex.mk _ (QhZ b1 r1) (Q0 1 E ?_))));refine Br h1740 8 E E (fun hc1 h1740=> ?_) (fun hc1 h1740=> ?_)
  ·refine G2 22 [8,15] [] [] E ?_;cases h1740;exact Ce E ⟨_,rfl,fE E,sE [] 2 E,rfl⟩
  refine G2 7 [] [8] [1,0] E ?_;refine Br h1740 15 E E (fun hc2 h1740=> ?_) (fun hc2 h1740=> ?_)
  ·refine G2 15 [15] [] [] E ?_;cases h1740;exact Ce E ⟨_,rfl,fE E,sE [] 2 E,rfl⟩
  refine G2 6 [] [15] [1,0] E ?_;refine Br h1740 21 E E (fun hc3 h1740=> ?_) (fun hc3 h1740=> ?_)
  ·refine G2 9 [21] [15] [1,0] E ?_;cases h1740;exact Ce E ⟨_,rfl,fE E,sE [] 2 E,rfl⟩
  refine G2 9 [] [15,21] [] E ?_;cases h1740;exact Ce E ⟨_,rfl,fE E,sE [] 2 E,rfl⟩
 rintro _ _ _ _ h _ ⟨v1,rfl,hF1740,hS1740,rfl⟩;refine Atn 0 hF1740 hS1740 E E ?_;cases h;exact Rt [] E E (Ug [] 0 hR)
theorem QdT  {a1:Q6} {b1:Q6}  {res1:Bool}
   (h:Qam a1 b1=some res1)
  (hR:R (.bool res1) μ (L)) :
  Fn Tryz.prog 132 [.agg #[.int .i64 a1.node,.int .i64 a1.leg.Secs,.int .i64 a1.leg.Meters],.agg #[.int .i64 b1.node,.int .i64 b1.leg.Secs,.int .i64 b1.leg.Meters]] μ (L) R:=by
 unfold Qam at h;refine FnS Tryz.func132 (by kernel_rfl) E Tryz.ntmps132 E E ?_;refine G0 2 E (Al E fun _=>Q0 0 E (Al E fun _=>Q0 3 E ?_));refine Cut h (fun f l o_ f_ μ_ l_=> ∃(v1:Bool),v1=o_∧Qg ((4,.bool v1)::[]) f_∧Qd (QB [] 2 l) l_∧μ=μ_) ?_ ?_
 ·intro _ h1737 h;refine G1 5 [1,0] E (Rdo E E (QjL E E (Ex.mk _ (Qey a1.leg b1.leg) (Q0 1 E ?_))));refine Br h1737 10 E E (fun hc1 h1737=> ?_) (fun hc1 h1737=> ?_)
  ·refine G2 4 [10] [] [1,0] E (Cl E ?_);obtain ⟨_,hx1,h1737⟩:=Qi h1737;refine Qfe  hx1 ((Q2 3 [10] [] [] E ?_));cases h1737;exact Ce E ⟨_,rfl,fE E,sE [] 2 E,rfl⟩
  refine G2 8 [] [10] [] E ?_;cases h1737;exact Ce E ⟨_,rfl,fE E,sE [] 2 E,rfl⟩
 rintro _ _ _ _ h _ ⟨v1,rfl,hF1737,hS1737,rfl⟩;refine Atn 0 hF1737 hS1737 E E ?_;cases h;exact Rt [] E E (Ug [] 0 hR)
theorem Qaw  {q1:Qf} {i1:Int} {k1:Int} {pv1:Value} {so1:Seg} {res1:Bool}
  (hP1:Qk μ pv1 q1 so1) (h:Zb q1 i1 k1=some res1)
  (hR:R (.bool res1) μ (so1::L)) :
  Fn Tryz.prog 138 [pv1,.int .i64 i1,.int .i64 k1] μ (so1::L) R:=by
 unfold Zb at h;refine FnS Tryz.func138 (by kernel_rfl) E Tryz.ntmps138 E E ?_;obtain ⟨g1,A1,c1,ch1,hv1,rfl,hO1⟩:=hP1;subst hv1;refine G0 5 E (In Qk.fl 0 2 E E E ?_);refine Cut h (fun f l o_ f_ μ_ l_=> ∃(f1:Int) (f2:Int) (f3:Int) (f4:Int) (f5:Int) (f6:Int) (f7:Int) (f8:Int) (g4:Nat) (g5:Nat),(f1,f2,f3,f4,f5,f6,f7,f8)=o_∧Qg ((7,.pointer (some ⟨g4,0,none⟩))::(8,.pointer (some ⟨g5,0,none⟩))::Ql [0] f) f_∧Qd ([(g1,.cells #[.func (.func 132) #[] #[],.slice A1 q1.heap.length c1,.int .i64 q1.count] 228 (0,0))]::ch1::[(g4,.cells #[.int .i64 f1,.int .i64 f2,.int .i64 f3,.int .i64 f4] 230 (0,0))]::[(g5,.cells #[.int .i64 f5,.int .i64 f6,.int .i64 f7,.int .i64 f8] 230 (0,0))]::QB [] 2 l) l_∧μ=μ_) ?_ ?_
 ·intro _ h1693 h;refine Cd (WP.draw (id:=1) QfK _ QF.refl E (AN.run (fuel:=4) (listed':=[true,true,true,true,true,true,true,true,true,true,true,true,true,true,false,false,false,false]) Q9 [(true,0),(true,1),(true,2),(true,3),(true,4),(true,5),(true,6),(true,7),(true,8),(true,9),(true,10),(true,11),(true,12),(true,13)] (by kernel_rfl) (by kernel_rfl) E (Qaq E (Qw E (Pt E E (VP E (Pt E E (VO (o':=1) E E E E E E (Pt E E (W6 E E E (Ex.mk _ (VN.seg 0 0 E E E) (Pt E E (Qw E ?_)))))))))))));refine Pt E E ?_;obtain ⟨x1,hx1,h1693⟩:=Qi h1693;obtain ⟨_,_,hA1,hr1,_,hc1⟩:=Rds.getI (Own.rds (L:=([(g1,.cells #[.func (.func 132) #[] #[],.slice A1 q1.heap.length c1,.int .i64 q1.count] 228 (0,0))]::ch1::L)) hO1 1 rfl) hx1;obtain rfl:=hr1;refine Jl E E E E E E ⟨(Qz hx1).1,(Qz hx1).2.1⟩ hA1 (Pt E E (Jj E E E E (Ex.mk [.int .i64 x1.value.node,.int .i64 x1.value.leg.Secs,.int .i64 x1.value.leg.Meters,.int .i64 x1.n] ⟨rfl,hc1⟩ (Pt E E (Qw E (Pt E E (VP E (Pt E E (VO (o':=1) E E E E E E (Pt E E (W6 E E E (Ex.mk _ (VN.seg 0 0 E E E) ?_))))))))))));refine Pt E E (Qw E (Pt E E ?_));obtain ⟨x2,hx2,h1693⟩:=Qi h1693;obtain ⟨_,_,hA2,hr2,_,hc2⟩:=Rds.getI (Own.rds (L:=([(g1,.cells #[.func (.func 132) #[] #[],.slice A1 q1.heap.length c1,.int .i64 q1.count] 228 (0,0))]::ch1::L)) hO1 1 rfl) hx2;obtain rfl:=hr2;refine Jl E E E E E E ⟨(Qz hx2).1,(Qz hx2).2.1⟩ hA2 (Pt E E (Jj E E E E (Ex.mk [.int .i64 x2.value.node,.int .i64 x2.value.leg.Secs,.int .i64 x2.value.leg.Meters,.int .i64 x2.n] ⟨rfl,hc2⟩ (QP E (W5 ?_)))));refine QpZ Q9 (a:=14) (b:=15) (by kernel_rfl) ?_ ?_
  ·refine FO_ E E (Qct (cs:= #[.int .i64 0,.int .i64 0,.int .i64 0,.int .i64 0]) E E (fun g2=> ?_));refine ⟨QF.more (QF.refl),?_⟩;refine QP E (AN.run (fuel:=0) (listed':=[true,true,true,true,true,true,true,true,true,true,true,true,true,true,true,true,true,true]) Q9 [(false,15),(false,16),(false,17)] (by kernel_rfl) (by kernel_rfl) E (Qdp E (Qct (cs:= #[.int .i64 0,.int .i64 0,.int .i64 0,.int .i64 0]) E E (fun g3=> ?_))));refine ⟨QF.more (QF.more (QF.refl)),?_⟩;refine QP E (Qdp E (Q7 (vs:=[.int .i64 x1.value.node,.int .i64 x1.value.leg.Secs,.int .i64 x1.value.leg.Meters,.int .i64 x1.n]) E E E E E E (ST_ (L':=([(g3,.cells #[.int .i64 0,.int .i64 0,.int .i64 0,.int .i64 0] 230 (0,0))]::[(g2,.cells #[.int .i64 x1.value.node,.int .i64 x1.value.leg.Secs,.int .i64 x1.value.leg.Meters,.int .i64 x1.n] 230 (0,0))]::[(g1,.cells #[.func (.func 132) #[] #[],.slice A1 q1.heap.length c1,.int .i64 q1.count] 228 (0,0))]::ch1::L)) 1 0 E E E E ?_)));refine ⟨QF.more (QF.more (QF.refl)),?_⟩;refine Z4 (Qdp E (Q7 (vs:=[.int .i64 x2.value.node,.int .i64 x2.value.leg.Secs,.int .i64 x2.value.leg.Meters,.int .i64 x2.n]) E E E E E E (ST_ (L':=([(g3,.cells #[.int .i64 x2.value.node,.int .i64 x2.value.leg.Secs,.int .i64 x2.value.leg.Meters,.int .i64 x2.n] 230 (0,0))]::[(g2,.cells #[.int .i64 x1.value.node,.int .i64 x1.value.leg.Secs,.int .i64 x1.value.leg.Meters,.int .i64 x1.n] 230 (0,0))]::[(g1,.cells #[.func (.func 132) #[] #[],.slice A1 q1.heap.length c1,.int .i64 q1.count] 228 (0,0))]::ch1::L)) 0 0 E E E E ?_)));refine ⟨QF.more (QF.more (QF.refl)),?_⟩;refine Z4 (W5 (AN.done0 (by kernel_rfl) ?_));cases h1693;exact Ce E ⟨_,_,_,_,_,_,_,_,g2,g3,rfl,fE E,sE [some 2,some 3,some 1,some 0] 4 E,rfl⟩
  refine FO_ E E (Qct (cs:= #[.int .i64 0,.int .i64 0,.int .i64 0,.int .i64 0]) E E (fun g3=> ?_));refine ⟨QF.more (QF.refl),?_⟩;refine QP E (AN.run (fuel:=0) (listed':=[true,true,true,true,true,true,true,true,true,true,true,true,true,true,true,true,true,true]) Q9 [(false,14),(false,16),(false,17)] (by kernel_rfl) (by kernel_rfl) E (Qdp E (Qct (cs:= #[.int .i64 0,.int .i64 0,.int .i64 0,.int .i64 0]) E E (fun g2=> ?_))));refine ⟨QF.more (QF.more (QF.refl)),?_⟩;refine QP E (Qdp E (Q7 (vs:=[.int .i64 x1.value.node,.int .i64 x1.value.leg.Secs,.int .i64 x1.value.leg.Meters,.int .i64 x1.n]) E E E E E E (ST_ (L':=([(g2,.cells #[.int .i64 x1.value.node,.int .i64 x1.value.leg.Secs,.int .i64 x1.value.leg.Meters,.int .i64 x1.n] 230 (0,0))]::[(g3,.cells #[.int .i64 0,.int .i64 0,.int .i64 0,.int .i64 0] 230 (0,0))]::[(g1,.cells #[.func (.func 132) #[] #[],.slice A1 q1.heap.length c1,.int .i64 q1.count] 228 (0,0))]::ch1::L)) 0 0 E E E E ?_)));refine ⟨QF.more (QF.more (QF.refl)),?_⟩;refine Z4 (Qdp E (Q7 (vs:=[.int .i64 x2.value.node,.int .i64 x2.value.leg.Secs,.int .i64 x2.value.leg.Meters,.int .i64 x2.n]) E E E E E E (ST_ (L':=([(g2,.cells #[.int .i64 x1.value.node,.int .i64 x1.value.leg.Secs,.int .i64 x1.value.leg.Meters,.int .i64 x1.n] 230 (0,0))]::[(g3,.cells #[.int .i64 x2.value.node,.int .i64 x2.value.leg.Secs,.int .i64 x2.value.leg.Meters,.int .i64 x2.n] 230 (0,0))]::[(g1,.cells #[.func (.func 132) #[] #[],.slice A1 q1.heap.length c1,.int .i64 q1.count] 228 (0,0))]::ch1::L)) 1 0 E E E E ?_)));refine ⟨QF.more (QF.more (QF.refl)),?_⟩;refine Z4 (W5 (AN.done0 (by kernel_rfl) ?_));cases h1693;exact Ce E ⟨_,_,_,_,_,_,_,_,g2,g3,rfl,fE E,sE [some 2,some 3,some 0,some 1] 4 E,rfl⟩
 rintro _ _ _ _ h _ ⟨f1,f2,f3,f4,f5,f6,f7,f8,g4,g5,rfl,hF1693,hS1693,rfl⟩;replace h:=Qn h;replace h:=Qn h;replace h:=Qn h;replace h:=Qn h;replace h:=Qn h;replace h:=Qn h;replace h:=Qn h;refine Atn 4 hF1693 hS1693 E E (G0 2 E (Dr _ QF.refl [(true,0),(true,1),(true,2),(true,3),(true,4),(true,5),(true,6),(true,7),(false,8)] (by kernel_rfl) (G1 8 [0,2,3] E (Cl E ?_))));obtain ⟨_,hx3,h⟩:=Qi h;refine QdT  hx3 (?_);refine ⟨QF.refl,?_⟩;refine Q0 1 E ?_;refine Br h 31 E E (fun hc3 h=> ?_) (fun hc3 h=> ?_)
 ·refine G2 5 [31] [] [] E ?_;cases h;exact Rt [] E E (Ug [[0,1]] 4 hR)
 refine G2 3 [] [31] [] E ?_;refine Cut h (fun f l o_ f_ μ_ l_=> ∃(v1:Bool),v1=o_∧Qg ((6,.bool v1)::[]) f_∧Qd (QB [some 0,some 1] 4 l) l_∧μ=μ_) ?_ ?_
 ·intro _ h1741 h;refine Dr _ QF.refl [(true,0),(true,1),(true,2),(true,3),(true,4),(true,5),(true,6),(true,7),(true,8),(true,9),(true,10),(true,11),(true,12),(true,13),(false,14),(true,15),(true,16),(true,17)] (by kernel_rfl) (G1 6 [2,3] E ?_);refine Br h1741 37 E E (fun hc4 h1741=> ?_) (fun hc4 h1741=> ?_)
  ·refine G2 8 [37] [] [0,3,2] E (Cl E ?_);obtain ⟨_,hx4,h1741⟩:=Qi h1741;refine QdT  hx4 (?_);refine ⟨QF.refl,?_⟩;refine Q2 4 [37] [] [] E ?_;cases h1741;exact Ce E ⟨_,rfl,fE E,sE [some 0,some 1] 4 E,rfl⟩
  refine G2 13 [] [37] [] E ?_;cases h1741;exact Ce E ⟨_,rfl,fE E,sE [some 0,some 1] 4 E,rfl⟩
 rintro _ _ _ _ h _ ⟨v1,rfl,hF1741,hS1741,rfl⟩;refine Atn 2 hF1741 hS1741 E E ?_;cases h;exact Rt [] E E (Ug [[0,1]] 2 hR)
theorem Vl  {q1:Qf} {i1:Int} {k1:Int} {pv1:Value} {so1:Seg} {res1:Qf}
  (hP1:Qk μ pv1 q1 so1) (h:YZ q1 i1 k1=some res1)
  (hR: ∀(sp0:Seg),Qk μ pv1 res1 sp0→R (.tuple #[]) μ (sp0::L)) :
  Fn Tryz.prog 139 [pv1,.int .i64 i1,.int .i64 k1] μ (so1::L) R:=by
 unfold YZ at h;refine FnS Tryz.func139 (by kernel_rfl) E Tryz.ntmps139 E E ?_;obtain ⟨g1,A1,c1,ch1,hv1,rfl,hO1⟩:=hP1;subst hv1;refine In Qk.fl 0 2 E E E ?_;obtain ⟨n1,hn1⟩: ∃n_,n_=q1.heap.length:=⟨_,rfl⟩
 rw[←hn1] at hO1 ⊢
 refine Cd (WP.drawB (id:=0) (l':=List.replicate 25 true++[false,false,false]) QfK Q9 _ QF.refl 25 [] [(true,0),(true,1),(true,2),(true,3),(true,4),(true,5),(true,6),(true,7),(true,8),(true,9),(true,10),(true,11),(true,12),(true,13),(true,14),(true,15),(true,16),(true,17),(true,18),(true,19),(true,20),(true,21),(true,22),(true,23),(true,24)] (by kernel_rfl) (by kernel_rfl) [26,27] E (by kernel_rfl) (by kernel_rfl) (Qaq E (Qw E (Pt E E (VP E (Pt E E (VO (o':=1) E E E E E E (Pt E E (W6 E E E (Ex.mk _ (VN.seg 0 0 E E E) (Pt E E (Qw E (QP E ?_)))))))))))));refine Qaq E (Qw E (Pt E E (VP E (Pt E E (VO (o':=1) E E E E E E (Pt E E (W6 E E E (Ex.mk _ (VN.seg 0 0 E E E) (Pt E E (Qw E (Pt E E (Qw E ?_))))))))))));refine Pt E E (VP E (Pt E E (VO (o':=1) E E E E E E (Pt E E (W6 E E E (Ex.mk _ (VN.seg 0 0 E E E) (Pt E E (Qw E (Pt E E ?_)))))))));obtain ⟨x1,hx1,h⟩:=Qi h;obtain ⟨_,_,hA1,hr1,_,hc1⟩:=Rds.getI (Own.rds (L:=([(g1,.cells #[.func (.func 132) #[] #[],.slice A1 n1 c1,.int .i64 q1.count] 228 (0,0))]::ch1::L)) hO1 1 rfl) hx1;obtain rfl:=hr1;refine Jl E E E E E E ⟨(Qz hx1).1,Qay hn1 (Qz hx1).2.1⟩ hA1 (Pt E E (Jj E E E E (Ex.mk [.int .i64 x1.value.node,.int .i64 x1.value.leg.Secs,.int .i64 x1.value.leg.Meters,.int .i64 x1.n] ⟨rfl,hc1⟩ (Pt E E (Qw E (Pt E E (VP E (Pt E E (VO (o':=1) E E E E E E (Pt E E (W6 E E E (Ex.mk _ (VN.seg 0 0 E E E) ?_))))))))))));refine Pt E E (Qw E (Pt E E ?_));obtain ⟨x2,hx2,h⟩:=Qi h;obtain ⟨_,_,hA2,hr2,_,hc2⟩:=Rds.getI (Own.rds (L:=([(g1,.cells #[.func (.func 132) #[] #[],.slice A1 n1 c1,.int .i64 q1.count] 228 (0,0))]::ch1::L)) hO1 1 rfl) hx2;obtain rfl:=hr2;refine Jl E E E E E E ⟨(Qz hx2).1,Qay hn1 (Qz hx2).2.1⟩ hA2 (Pt E E (Jj E E E E (Ex.mk [.int .i64 x2.value.node,.int .i64 x2.value.leg.Secs,.int .i64 x2.value.leg.Meters,.int .i64 x2.n] ⟨rfl,hc2⟩ (Pt E E ?_))));obtain ⟨_,hx3,h⟩:=Qi h;obtain ⟨a3,_,hA3,hr3,_,_⟩:=Rds.getI (Own.rds (L:=([(g1,.cells #[.func (.func 132) #[] #[],.slice A1 n1 c1,.int .i64 q1.count] 228 (0,0))]::ch1::L)) hO1 1 rfl) hx3;obtain rfl:=hr3;refine Jl E E E E E E ⟨(Qz hx3).1,Qay hn1 (Qz hx3).2.1⟩ hA3 (QP E (W5 (QeG E (Q7 (vs:=[.int .i64 x1.value.node,.int .i64 x1.value.leg.Secs,.int .i64 x1.value.leg.Meters,.int .i64 x1.n]) E E E E E E ?_))))
 rw[←Addr.add_zero' ((a3.add (i1.toNat*4)))]
 refine Own.store (μ:=μ) (r:=YJ) (x':=x1) (o:=0) (sz:=4) 1 rfl hO1 hA3 hx3 rfl rfl (by rintro _ rfl;rfl) fun ch2 hO2=> ?_;have hn2:=hn1.trans (QX q1.heap i1 x1).symm;refine Z4 (QeG E ?_);obtain ⟨_,hx4,h⟩:=Qi h;obtain ⟨a4,_,hA4,hr4,_,_⟩:=Rds.getI (Own.rds (L:=([(g1,.cells #[.func (.func 132) #[] #[],.slice A1 n1 c1,.int .i64 q1.count] 228 (0,0))]::ch2::L)) hO2 1 rfl) hx4;obtain rfl:=hr4;refine V3 E (Jl E E E E E E ⟨(Qz hx4).1,Qay hn2 (Qz hx4).2.1⟩ hA4 (QP E (QdJ E (Q7 (vs:=[.int .i64 x2.value.node,.int .i64 x2.value.leg.Secs,.int .i64 x2.value.leg.Meters,.int .i64 x2.n]) E E E E E E ?_))))
 rw[←Addr.add_zero' ((a4.add (k1.toNat*4)))]
 refine Own.store (μ:=μ) (r:=YJ) (x':=x2) (o:=0) (sz:=4) 1 rfl hO2 hA4 hx4 rfl rfl (by rintro _ rfl;rfl) fun ch3 hO3=> ?_;have hn3:=hn2.trans (QX (Yk q1.heap i1 x1) k1 x2).symm;apply Z4;subst hn3;cases h;exact Rt [] E E (Ug [[0,1]] 2 (hR _ ⟨g1,A1,c1,ch3,rfl,rfl,hO3⟩))
theorem QaV {F:Nat} {q1:Qf} {x1:Q6} {pv1:Value} {so1:Seg} {res1:Qf}
  (hP1:Qk μ pv1 q1 so1) (h:Zz F q1 x1=some res1)
  (hR: ∀(sp0:Seg),Qk μ pv1 res1 sp0→R (.tuple #[]) μ (sp0::L)) :
  Fn Tryz.prog 134 [pv1,.agg #[.int .i64 x1.node,.int .i64 x1.leg.Secs,.int .i64 x1.leg.Meters]] μ (so1::L) R:=by
 unfold Zz at h;refine FnS Tryz.func134 (by kernel_rfl) E Tryz.ntmps134 E E ?_;refine G0 2 E (Al E fun g1=> ?_);obtain ⟨g2,A1,c1,_,hv1,rfl,hO1⟩:=hP1;subst hv1;refine Q0 3 E (In Qk.fl 1 3 E E E (G2 7 [] [7] [] E (Cd (WP.drawB (id:=2) (l':=List.replicate 15 true++[false]) QfK Q9 ([(g1,.cells #[.int .i64 x1.node,.int .i64 x1.leg.Secs,.int .i64 x1.leg.Meters] 216 (0,0))]::[(g2,.cells #[.func (.func 132) #[] #[],.slice A1 q1.heap.length c1,.int .i64 q1.count] 228 (0,0))]::L) (Kp [0,1] 3 E) 15 [] [(true,0),(true,1),(true,2),(true,3),(true,4),(true,5),(true,6),(true,7),(true,8),(true,9),(true,10),(false,11),(false,12),(true,13),(true,14)] (by kernel_rfl) (by kernel_rfl) [] E (by kernel_rfl) (by kernel_rfl) (Qaq E (Qw E (Pt E E (Qw E (Pt E E (VP E (Pt E E (VO (o':=1) E E E E E E (Pt E E ?_)))))))))))));refine W6 E E E (Ex.mk _ (VN.seg 1 0 E E E) (Pt E E (Jj E E E E (LA_ (vs:=[.int .i64 x1.node,.int .i64 x1.leg.Secs,.int .i64 x1.leg.Meters]) 0 0 E E E E (Pt E E (Qw E (Pt E E (VP E (Pt E E (VO (o':=2) E E E E E E (Pt E E (W6 E E E ?_))))))))))));refine Ex.mk _ (VN.seg 1 0 E E E) (Pt E E (Qfr E E E E (YP (cells':=[.int .i64 x1.node,.int .i64 x1.leg.Secs,.int .i64 x1.leg.Meters,.int .i64 0]) E E E E (YP (cells':=[.int .i64 x1.node,.int .i64 x1.leg.Secs,.int .i64 x1.leg.Meters,.int .i64 q1.count]) E E E E (Vt (QP E (Qdp E (Qau (z:=[.int .i64 0,.int .i64 0,.int .i64 0,.int .i64 0]) E E E E E E E (YP (cells':=[.int .i64 x1.node,.int .i64 x1.leg.Secs,.int .i64 x1.leg.Meters,.int .i64 q1.count]) E E E E (Vt (fun g3=> ?_)))))))))));refine ⟨Kp [1,2] 4 E,?_⟩;refine QP E (Qdp E (Z7 E ?_));obtain ⟨l1,hz1,h⟩:=Qi h;refine JU (r:=YJ) Q9 E E E E (by decide) E E 3 E hO1 E (Own.rds (Own.lit (r:=YJ) (e:=230) (g:=g3) (xs:=[(QM.mk x1 q1.count)]) (cs:=[.int .i64 x1.node,.int .i64 x1.leg.Secs,.int .i64 x1.leg.Meters,.int .i64 q1.count]) (css:=[[.int .i64 x1.node,.int .i64 x1.leg.Secs,.int .i64 x1.leg.Meters,.int .i64 q1.count]]) E (All2.cons (E) (All2.nil)) E E) 0 E) hz1 fun A2 c2 ch2 hO2=> ?_;refine ⟨Kp [1,2] 4 E,?_⟩;refine Pt E E (VP E (Pt E E (VO (o':=1) E E E E E E (QP E (W5 (QdJ E (Q7 (vs:=[.slice A2 l1.length c2]) E E E E E E (ST_ (L':=([(g3,.cells #[.int .i64 x1.node,.int .i64 x1.leg.Secs,.int .i64 x1.leg.Meters,.int .i64 q1.count] 230 (0,0))]::[(g1,.cells #[.int .i64 x1.node,.int .i64 x1.leg.Secs,.int .i64 x1.leg.Meters] 216 (0,0))]::[(g2,.cells #[.func (.func 132) #[] #[],.slice A2 l1.length c2,.int .i64 q1.count] 228 (0,0))]::ch2::L)) 2 0 E E E E (Z4 ?_)))))))));have hP2:Qk μ (.pointer (some ⟨g2,0,none⟩)) (Qf.mk l1 (w64 (q1.count+1))) _:=⟨g2,A2,c2,ch2,rfl,rfl,hO2⟩
 refine G1 21 [2,2,2] E (Gp [[2,3],[0],[1]] 4 3 E E ?_);refine Cut h (fun f l o_ f_ μ_ l_=> ∃(q3:Qf) (so4:Seg),(.inl q3)=o_∧Qg ([]) f_∧Qd (so4::QB [] 3 l) l_∧Qk μ_ (.pointer (some ⟨g2,0,none⟩)) q3 so4∧μ=μ_) ?_ ?_
 ·intro _ h1982 h;refine Lp h1982 (fun f l (j_:Qf×Int) f_ μ_ l_=>Y5 j_ fun q2 i1=> ∃(so2:Seg),Qg ((4,.int .i64 i1)::Ql [0] f) f_∧Qd (so2::QB [] 3 l) l_∧Qk μ_ (.pointer (some ⟨g2,0,none⟩)) q2 so2∧μ=μ_) ⟨((g2,Obj.cells #[.func (.func 132) #[] #[],.slice A2 l1.length c2,.int .i64 (w64 (q1.count+1))] 228 (0,0))::ch2),fE E,sE [some 0] 3 E,(hP2),E⟩ ?_;rintro ⟨q2,i1⟩ _ _ _ _ _ ⟨so2,hF1987,hS1987,hP3,rfl⟩ hb1987 hq1987;unfold YW at hb1987;replace hb1987:=Qn hb1987;refine Atn 1 hF1987 hS1987 E E (G0 6 E ?_);refine Br hb1987 37 E E (fun hc1 hb1987=> ?_) (fun hc1 hb1987=> ?_)
  ·refine G2 16 [37] [] [0] E (Cl E ?_);obtain ⟨_,hx1,hb1987⟩:=Qi hb1987;refine Qaw hP3 hx1 ((Q0 2 E ?_));refine Br hb1987 45 E E (fun hc2 hb1987=> ?_) (fun hc2 hb1987=> ?_)
   ·refine G2 1 [45] [] [] E ?_;cases hb1987;have hq_:=hq1987 _ E;subst hq_;replace h:=QZ h;cases h;exact Rt [] E E (Ug [[0]] 1 (hR _ hP3))
   refine G2 7 [] [45] [] E (Cl E ?_);obtain ⟨_,hx2,hb1987⟩:=Qi hb1987;refine Vl hP3 hx2 (fun so3 hP4=>Q0 6 E ?_);cases hb1987;exact Ce E ⟨_,rfl,so3,fE E,sE [some 0] 1 E,(hP4),rfl⟩
  refine G2 2 [] [37] [] E ?_;cases hb1987;have hq_:=hq1987 _ E;subst hq_;exact Ce E ⟨_,so2,rfl,fE E,sE [some 0] 1 E,(hP3),rfl⟩
 rintro _ _ _ _ h _ ⟨q3,so4,rfl,hF1982,hS1982,hP5,rfl⟩;replace h:=Yp h;refine Atn 1 hF1982 hS1982 E E ?_;cases h;exact Rt [] E E (Ug [[0]] 1 (hR _ hP5))
theorem Qdt  {q1:Qf} {pv1:Value} {so1:Seg} {res1:Int}
  (hP1:Qk μ pv1 q1 so1) (h:JT q1=some res1)
  (hR:R (.int .i64 res1) μ (so1::L)) :
  Fn Tryz.prog 142 [pv1] μ (so1::L) R:=by
 unfold JT at h;refine FnS Tryz.func142 (by kernel_rfl) E Tryz.ntmps142 E E ?_;obtain ⟨_,_,_,_,hv1,rfl,_⟩:=hP1;subst hv1;refine G0 6 E (In Qk.fl 0 2 E E E (G2 15 [] [4] [0] E ?_));cases h;exact Rt [] E E (Ug [[0,1]] 2 hR)
theorem Qc6  {q1:Qf} {pv1:Value} {so1:Seg} {res1:Q6} {res2:Bool}
  (hP1:Qk μ pv1 q1 so1) (h:Jq q1=some (res1,res2))
  (hR:R (.tuple #[.agg #[.int .i64 res1.node,.int .i64 res1.leg.Secs,.int .i64 res1.leg.Meters],.bool res2]) μ (so1::L)) :
  Fn Tryz.prog 140 [pv1] μ (so1::L) R:=by
 unfold Jq at h;refine FnS Tryz.func140 (by kernel_rfl) E Tryz.ntmps140 E E ?_;refine G0 2 E (Al E fun _=>Q0 6 E (Cl E (Fn.gp [[1],[0]] 2 2 E ?_)));obtain ⟨_,hx1,h⟩:=Qi h;refine Qdt hP1 hx1 ((Q0 2 E ?_));refine Br h 7 E E (fun hc1 h=> ?_) (fun hc1 h=> ?_)
 ·refine G2 3 [7] [] [] E (Al E fun _=>Q1 7 [0,2] E ?_);cases h;exact Rt [2] E E (Ug [[1]] 3 hR)
 obtain ⟨_,_,_,_,hv1,rfl,hO1⟩:=hP1;subst hv1;refine G2 3 [] [7] [] E (In Qk.fl 0 3 E E E (G1 5 [0] E (IxA h (Own.rds hO1 1 E) E E fun _ _ _ _ hr1 hc2 _ h=> ?_)));obtain rfl:=hr1;refine Q3 5 [] [] [64,2] (Z1 hc2) E ?_;cases h;exact Rt [2] E E (Ug [[0,1]] 3 hR)
theorem Qc7 {F:Nat} {q1:Qf} {pv1:Value} {so1:Seg} {res1:Qf}
  (hP1:Qk μ pv1 q1 so1) (h:YY F q1=some res1)
  (hR: ∀(sp0:Seg),Qk μ pv1 res1 sp0→R (.tuple #[]) μ (sp0::L)) :
  Fn Tryz.prog 141 [pv1] μ (so1::L) R:=by
 unfold YY at h;refine FnS Tryz.func141 (by kernel_rfl) E Tryz.ntmps141 E E ?_;obtain ⟨g1,A1,c1,ch1,hv1,rfl,hO1⟩:=hP1;subst hv1;refine G0 4 E (In Qk.fl 0 2 E E E ?_);refine Cut h (fun _ _ _ _ _ _=>False) ?_ ?_
 ·intro _ h2190 h;refine Lp h2190 (fun f l (j_:(List QM)×Int×Int) f_ μ_ l_=>Y5 j_ fun f1 j_=>Y5 j_ fun f2 i1=> ∃(A2:Option Addr) (c2:Nat) (ch2:Seg),Qg ((2,.int .i64 i1)::Ql [0] f) f_∧Qd ([(g1,.cells #[.func (.func 132) #[] #[],.slice A2 f1.length c2,.int .i64 f2] 228 (0,0))]::ch2::QB [] 2 l) l_∧Own YJ 230 μ_ (.slice A2 f1.length c2) f1 ch2∧μ=μ_) ⟨A1,c1,ch1,fE E,sE [some 0,some 1] 2 E,(hO1),E⟩ ?_;rintro ⟨f1,f2,i1⟩ _ _ _ _ _ ⟨A2,c2,ch2,hF2260,hS2260,hO2,rfl⟩ hb2260 hq2260;unfold YX at hb2260;replace hb2260:=Qn hb2260;replace hb2260:=Qn hb2260;refine Atn 2 hF2260 hS2260 E E (G0 14 E ?_);refine Cut hb2260 (fun f l o_ f_ μ_ l_=> ∃(f6:(List QM)) (f7:Int) (next3:Int) (A7:Option Addr) (c7:Nat) (ch7:Seg),(f6,f7,next3)=o_∧Qg ((3,.int .i64 next3)::Ql [0,2] f) f_∧Qd ([(g1,.cells #[.func (.func 132) #[] #[],.slice A7 f6.length c7,.int .i64 f7] 228 (0,0))]::ch7::QB [] 2 l) l_∧Own YJ 230 μ_ (.slice A7 f6.length c7) f6 ch7∧μ=μ_) ?_ ?_
  ·intro _ h2265 hb2260;refine Lp h2265 (fun f l (j_:(List QM)×Int×Int×Int) f_ μ_ l_=>Y5 j_ fun f3 j_=>Y5 j_ fun f4 j_=>Y5 j_ fun next1 k1=> ∃(A3:Option Addr) (c3:Nat) (ch3:Seg),Qg ((3,.int .i64 next1)::(4,.int .i64 k1)::Ql [0,2] f) f_∧Qd ([(g1,.cells #[.func (.func 132) #[] #[],.slice A3 f3.length c3,.int .i64 f4] 228 (0,0))]::ch3::QB [] 2 l) l_∧Own YJ 230 μ_ (.slice A3 f3.length c3) f3 ch3∧μ=μ_) ⟨A2,c2,ch2,fE E,sE [some 0,some 1] 2 E,(hO2),E⟩ ?_;rintro ⟨f3,f4,next1,k1⟩ _ _ _ _ _ ⟨A3,c3,ch3,hF2284,hS2284,hO3,rfl⟩ hb2284 hq2284;unfold pqueue_Queue_stop_sink_l1 at hb2284;replace hb2284:=Qn hb2284;replace hb2284:=Qn hb2284;replace hb2284:=Qn hb2284;refine Atn 2 hF2284 hS2284 E E (G0 2 E ?_);refine Cut hb2284 (fun f l o_ f_ μ_ l_=> ∃(v1:Bool),v1=o_∧Qg ((22,.bool v1)::Ql [0,2,3,4] f) f_∧Qd l l_∧μ=μ_) ?_ ?_
   ·intro _ h2289 hb2284;refine G0 7 E ?_;refine Br h2289 14 E E (fun hc1 h2289=> ?_) (fun hc1 h2289=> ?_)
    ·refine G2 9 [14] [] [0] E ?_;cases h2289;exact Ce E ⟨_,rfl,fE E,sE [some 0,some 1] 2 E,rfl⟩
    refine G2 9 [] [14] [] E ?_;cases h2289;exact Ce E ⟨_,rfl,fE E,sE [some 0,some 1] 2 E,rfl⟩
   rintro _ _ _ _ hb2284 _ ⟨v1,rfl,hF2289,hS2289,rfl⟩;refine Atn 2 hF2289 hS2289 E E ?_;refine Br hb2284 22 E E (fun hc2 hb2284=> ?_) (fun hc2 hb2284=> ?_)
   ·refine G2 3 [22] [] [] E ?_;refine Cut hb2284 (fun f l o_ f_ μ_ l_=> ∃(f5:(List QM)) (next2:Int) (A6:Option Addr) (c6:Nat) (ch6:Seg),(f5,next2)=o_∧Qg ((3,.int .i64 next2)::Ql [0,2,4] f) f_∧Qd ([(g1,.cells #[.func (.func 132) #[] #[],.slice A6 f5.length c6,.int .i64 ((Qf.mk f3 f4).count)] 228 (0,0))]::ch6::QB [] 2 l) l_∧Own YJ 230 μ_ (.slice A6 f5.length c6) f5 ch6∧μ=μ_) ?_ ?_
    ·intro _ h2292 hb2284;refine G0 6 E (Cl E ?_);have hP2:Qk μ (.pointer (some ⟨g1,0,none⟩)) (Qf.mk f3 f4) _:=⟨g1,A3,c3,ch3,rfl,rfl,hO3⟩
     refine Fn.gp [[0,1]] 2 1 E ?_;obtain ⟨_,hx1,h2292⟩:=Qi h2292;refine Qaw hP2 hx1 ((Q0 1 E ?_));refine Br h2292 28 E E (fun hc3 h2292=> ?_) (fun hc3 h2292=> ?_)
     ·refine G2 6 [28] [] [] E ?_;obtain ⟨_,A4,c4,ch4,hv2,hs1,hO4⟩:=hP2;replace hv2:=Qel hv2;subst hv2;cases h2292;exact Ce E ⟨_,_,A4,c4,ch4,rfl,fE E,(Qd.ins (i:=0) (Qk.fl.trans hs1.symm) E).tr (sE [some 0,some 1] 2 E),(hO4),rfl⟩
     refine G2 3 [] [28] [] E ?_;obtain ⟨_,A5,c5,ch5,hv3,hs2,hO5⟩:=hP2;replace hv3:=Qel hv3;subst hv3;cases h2292;exact Ce E ⟨_,_,A5,c5,ch5,rfl,fE E,(Qd.ins (i:=0) (Qk.fl.trans hs2.symm) E).tr (sE [some 0,some 1] 2 E),(hO5),rfl⟩
    rintro _ _ _ _ hb2284 _ ⟨f5,next2,A6,c6,ch6,rfl,hF2292,hS2292,hO6,rfl⟩;replace hb2284:=Qn hb2284;refine Atn 2 hF2292 hS2292 E E (G0 5 E ?_);cases hb2284;exact Ce E ⟨_,rfl,A6,c6,ch6,fE E,sE [some 0,some 1] 2 E,(hO6),rfl⟩
   refine G2 2 [] [22] [] E ?_;cases hb2284;have hq_:=hq2284 _ E;subst hq_;exact Ce E ⟨_,_,_,A3,c3,ch3,rfl,fE E,sE [some 0,some 1] 2 E,(hO3),rfl⟩
  rintro _ _ _ _ hb2260 _ ⟨f6,f7,next3,A7,c7,ch7,rfl,hF2265,hS2265,hO7,rfl⟩;replace hb2260:=Qn hb2260;replace hb2260:=Qn hb2260;refine Atn 2 hF2265 hS2265 E E (G0 7 E ?_);refine Br hb2260 32 E E (fun hc4 hb2260=> ?_) (fun hc4 hb2260=> ?_)
  ·refine G2 1 [32] [] [] E ?_;cases hb2260;have hq_:=hq2260 _ E;subst hq_;cases h;exact Rt [] E E (Ug [[0,1]] 2 (hR _ ⟨g1,A7,c7,ch7,rfl,rfl,hO7⟩))
  refine G2 7 [] [32] [] E (Cl E ?_);have hP3:Qk μ (.pointer (some ⟨g1,0,none⟩)) (Qf.mk f6 f7) _:=⟨g1,A7,c7,ch7,rfl,rfl,hO7⟩
  refine Fn.gp [[0,1]] 2 1 E ?_;obtain ⟨_,hx2,hb2260⟩:=Qi hb2260;refine Vl hP3 hx2 (fun _ hP4=>Q0 6 E ?_);obtain ⟨_,A8,c8,ch8,hv4,rfl,hO8⟩:=hP4;replace hv4:=Qel hv4;subst hv4;cases hb2260;exact Ce E ⟨_,rfl,A8,c8,ch8,fE E,(Qd.ins (i:=0) Qk.fl E).tr (sE [some 0,some 1] 2 E),(hO8),rfl⟩
 exact fun _ _ _ _ _ _ hf_=>hf_.elim
theorem Qdu {F:Nat} {q1:Qf} {pv1:Value} {so1:Seg} {res1:Q6} {res2:Bool} {res3:Qf}
  (hP1:Qk μ pv1 q1 so1) (h:Zg F q1=some (res1,res2,res3))
  (hR: ∀(sp0:Seg),Qk μ pv1 res3 sp0→R (.tuple #[.agg #[.int .i64 res1.node,.int .i64 res1.leg.Secs,.int .i64 res1.leg.Meters],.bool res2]) μ (sp0::L)) :
  Fn Tryz.prog 135 [pv1] μ (so1::L) R:=by
 unfold Zg at h;refine FnS Tryz.func135 (by kernel_rfl) E Tryz.ntmps135 E E ?_;refine G0 2 E (Al E fun g1=>Q0 5 E (Cl E (Fn.gp [[1],[0]] 2 2 E ?_)));obtain ⟨⟨r1,_⟩,hx1,h⟩:=Qi h;replace h:=Qn h;refine Qc6 hP1 hx1 ((Q0 3 E (Al E fun g2=>Q1 9 [0] E ?_)));refine Br h 13 E E (fun hc1 h=> ?_) (fun hc1 h=> ?_)
 ·refine G2 7 [13] [] [0,2] E ?_;cases h;exact Rt [2] E E (Ug [[1]] 3 (hR _ hP1))
 obtain ⟨g3,A1,c1,ch1,hv1,rfl,hO1⟩:=hP1;subst hv1;refine G2 3 [] [13] [] E (In Qk.fl 1 4 E E E (G1 13 [1] E (Cl E ?_)));have hP2:Qk μ (.pointer (some ⟨g3,0,none⟩)) q1 _:=⟨g3,A1,c1,ch1,rfl,rfl,hO1⟩
 refine Fn.gp [[1,2],[0],[3]] 4 3 E ?_;obtain ⟨r3,hx2,h⟩:=Qi h;refine Vl hP2 hx2 (fun _ hP3=> ?_);obtain ⟨_,A2,c2,ch2,hv2,rfl,hO2⟩:=hP3;replace hv2:=Qel hv2;subst hv2;refine Q0 2 E (In Qk.fl 0 4 E E E ?_);obtain ⟨_,hs1,h⟩:=Qi h;refine G1 6 [0] E (Rdo E E (Qks (r:=YJ) E E E E E E E (Own.lenOk hO2).1 hs1 fun _ hAe1=> ?_));have hA1:=Rds.sub (Own.rds (L:=([(g3,.cells #[.func (.func 132) #[] #[],.slice A2 r3.heap.length c2,.int .i64 r3.count] 228 (0,0))]::ch2::[(g2,.cells #[.int .i64 r1.node,.int .i64 r1.leg.Secs,.int .i64 r1.leg.Meters] 216 (0,0))]::[(g1,.cells #[.int .i64 0,.int .i64 0,.int .i64 0] 216 (0,0))]::L)) hO2 1 E) (Own.lenOk hO2).1 hs1 hAe1;have hl1:=Qnb (Own.lenOk hO2) hs1;refine Q0 0 E (So E (Qnf E (Qkg (z:=(QM.mk (Q6.mk 0 (Qr.mk 0 0)) 0)) (zc:=[.int .i64 0,.int .i64 0,.int .i64 0,.int .i64 0]) Q9 E E E E E (E) 1 E hO2 hs1 hAe1 fun ch3 hO3=> ?_)))
 rw[←Qdf r3.heap (w64 (((q1.heap.length:Nat):Int)-1)) (QM.mk (Q6.mk 0 (Qr.mk 0 0)) 0)] at hO3 ⊢
 obtain ⟨l2,hs2,h⟩:=Qi h;refine Q1 9 [0] E (Rdo E E (Qd4 E E E E E E (Own.lenOk hO3).1 hs2 ?_));have hA2:=Rds.pre (Own.rds (L:=([(g3,.cells #[.func (.func 132) #[] #[],.slice A2 ((QfZ r3.heap (w64 (((q1.heap.length:Nat):Int)-1)) (QM.mk (Q6.mk 0 (Qr.mk 0 0)) 0)).length) c2,.int .i64 r3.count] 228 (0,0))]::ch3::[(g2,.cells #[.int .i64 r1.node,.int .i64 r1.leg.Secs,.int .i64 r1.leg.Meters] 216 (0,0))]::[(g1,.cells #[.int .i64 0,.int .i64 0,.int .i64 0] 216 (0,0))]::L)) hO3 1 E) hs2;have hl2:=Qgh (Own.lenOk hO3) hs2;refine Q0 2 E (So E (Q7 (vs:=[.slice A2 l2.length c2]) E E E E E E ?_));have hO4:=Own.cut hO3 hs2;refine ST_ (L':=([(g3,.cells #[.func (.func 132) #[] #[],.slice A2 l2.length c2,.int .i64 r3.count] 228 (0,0))]::ch3::[(g2,.cells #[.int .i64 r1.node,.int .i64 r1.leg.Secs,.int .i64 r1.leg.Meters] 216 (0,0))]::[(g1,.cells #[.int .i64 0,.int .i64 0,.int .i64 0] 216 (0,0))]::L)) 0 0 E E E E (Q0 4 E (Cl E ?_));have hP4:Qk μ (.pointer (some ⟨g3,0,none⟩)) (Qf.mk l2 r3.count) _:=⟨g3,A2,c2,ch3,rfl,rfl,hO4⟩
 refine Fn.gp [[0,1],[2],[3]] 4 3 E ?_;obtain ⟨_,hx3,h⟩:=Qi h;refine Qc7 hP4 hx3 (fun _ hP5=>Q1 7 [1,2] E ?_);cases h;exact Rt [2] E E (Ug [[0]] 3 (hR _ hP5))
theorem Qh4  {x1:Jm}  {res1:Int} {res2:Int}
   (h:Qcz x1=some (res1,res2))
  (hR:R (.tuple #[.int .i64 res1,.int .i64 res2]) μ (L)) :
  Fn Tryz.prog 123 [.agg #[.int .i64 x1.From,.int .i64 x1.To,.int .i64 x1.Meters,.int .i64 x1.Secs]] μ (L) R:=by
 unfold Qcz at h;refine FnS Tryz.func123 (by kernel_rfl) E Tryz.ntmps123 E E ?_;refine G0 2 E (Al E fun _=>Q0 4 E (Dr _ QF.refl [(true,0),(true,1),(true,2),(true,3),(true,4),(true,5)] (by kernel_rfl) (G1 7 [0,0] E ?_)));cases h;exact Rt [] E E (Ug [] 1 hR)
theorem QjF  {l1:Qr} {x1:Jm}  {res1:Qr}
   (h:QcY l1 x1=some res1)
  (hR:R (.agg #[.int .i64 res1.Secs,.int .i64 res1.Meters]) μ (L)) :
  Fn Tryz.prog 136 [.agg #[.int .i64 l1.Secs,.int .i64 l1.Meters],.agg #[.int .i64 x1.From,.int .i64 x1.To,.int .i64 x1.Meters,.int .i64 x1.Secs]] μ (L) R:=by
 unfold QcY at h;refine FnS Tryz.func136 (by kernel_rfl) E Tryz.ntmps136 E E ?_;refine G0 2 E (Al E fun _=>Q0 0 E (Al E fun _=>Q0 0 E (Al E fun _=>Q1 16 [2,1,2,1,0] E ?_)));cases h;exact Rt [0] E E (Ug [] 3 hR)
end Go.Proofs.YtoojkdejnbnniaaGreat
