/- DispatchReasons: for every input the given law returns true, and its arguments read as before. No condition. -/
import Derived.Test.YthpgjbbjpfiniaaGreatc5x11
import Derived.Test.YthpgjbbjpfiniaaGreatc5x2
import Derived.Test.YthpgjbbjpfiniaaGreatc5x1
import Derived.ProofKit
import Derived.Below
import Derived.ChangeSame
import Derived.Carry
import Derived.WideKeyArgs
import Derived.Deep.Slices
import Derived.Deep.Fields
import Derived.OpenShut
namespace Go.Proofs.YthpgjbbjpfiniaaGreat
open Go.RowKit
set_option linter.unusedSimpArgs false
set_option linter.unusedVariables false
theorem Wk.join {r:Rd_} {a b:Int} {k:Nat} {l:Lg} (h:Wk r a k b l): ∀{k':Nat} {c:Int} {l':Lg},Wk r b k' c l'→Wk r a (k+k') c ⟨l.Secs+l'.Secs,l.Meters+l'.Meters⟩
 | _,_,_,.nil=>by simpa using h
 | _,_,_,.cons (l:=m) (x:=x) h2 hx ha=>by
  have h3:=Wk.join h h2;have h4:=Wk.cons h3 hx ha;unfold Wt at h4 ⊢
  simp only[] at h4 ⊢
  rw[show l.Secs+(m.Secs+x.Secs)=l.Secs+m.Secs+x.Secs by omega,show l.Meters+(m.Meters+x.Meters)=l.Meters+m.Meters+x.Meters by omega]
  exact h4
theorem tri {p:Pr} (hp:OkP p) {a b c:Int} (ha:0≤a∧a<p.Road.Nodes) (hb:0≤b∧b<p.Road.Nodes) (hc:0≤c∧c<p.Road.Nodes) (h1:0≤(Y7 p a b).Secs) (h2:0≤(Y7 p b c).Secs) :
  0≤(Y7 p a c).Secs∧(Y7 p a c).Secs≤(Y7 p a b).Secs+(Y7 p b c).Secs:=by
 have hr:=OkR.of hp.road;obtain ⟨La,_⟩:=Qeq hp ha;obtain ⟨Lb,_⟩:=Qeq hp hb;obtain ⟨k,_,w1,_⟩:=Qev hr (La.lb b hb.1 hb.2) (Qf7 h1);obtain ⟨k',_,w2,_⟩:=Qev hr (Lb.lb c hc.1 hc.2) (Qf7 h2);have h3:=La.best _ _ _ (w1.join w2);have h4:=h3.2;unfold Lg.le at h4;refine ⟨h3.1,?_⟩;unfold Y7 at h1 h2 ⊢
 simp only[] at h4
 omega
structure Lax (p:Pr) (x' x:Vi):Prop where
 leg: ∀b,0≤b→b<p.Road.Nodes→0≤(Y7 p x.Node b).Secs→0≤(Y7 p x'.Node b).Secs∧x'.Leave+(Y7 p x'.Node b).Secs≤x.Leave+(Y7 p x.Node b).Secs
 load:x'.Load≤x.Load
theorem Lax.same {p:Pr} {x' x:Vi} (h1:x'.Node=x.Node) (h2:x'.Leave≤x.Leave) (h3:x'.Load≤x.Load):Lax p x' x :=
 ⟨fun b _ _ h=>⟨by rw[h1];exact h,by rw[h1];omega⟩,h3⟩
theorem QnS {p:Pr} {v:Ve} (hp:OkP p) {x' x y:Vi} {pre pre':List Int} {s:Int} (hl:Lax p x' x) (hsub: ∀u∈pre',u∈pre) (hs:VF p v pre x s= .inl y) :
  ∃y',VF p v pre' x' s= .inl y'∧Lax p y' y:=by
 unfold VF at hs
 split at hs
 ·rename_i h1
  split at hs
  ·cases hs
  ·rename_i h2
   injection hs with hs;subst hs
   obtain ⟨g1,g2⟩:=hl.leg _ hp.u0 hp.u1 (by omega);unfold VF
   rw[if_pos h1,if_neg (by omega)]
   exact ⟨_,rfl,Lax.same rfl (by simp only[];omega) (Int.le_refl _)⟩
 ·rename_i h1
  split at hs
  ·cases hs
  ·rename_i h2
   split at hs
   ·cases hs
   ·rename_i h3
    split at hs
    ·cases hs
    ·rename_i d hd
     have hd2:=hp.de d (List.mem_of_getElem? hd)
     split at hs
     ·cases hs
     ·rename_i h4
      split at hs
      ·cases hs
      ·rename_i h5
       split at hs
       ·cases hs
       ·rename_i h6
        split at hs
        ·cases hs
        ·rename_i h7
         injection hs with hs;subst hs
         obtain ⟨g1,g2⟩:=hl.leg _ hd2.n0 hd2.n1 (by omega);have g3:=hl.load;unfold VF
         rw[if_neg h1,if_neg h2,if_neg (fun h=>h3 (hsub _ h)),hd]
         simp only[]
         rw[if_neg h4,if_neg (by omega),if_neg (by omega),if_neg (by omega)]
         exact ⟨_,rfl,Lax.same rfl (by simp only[];omega) (by simp only[];omega)⟩
theorem Qme {p:Pr} {v:Ve} (hp:OkP p): ∀(rest pre pre':List Int) (x x':Vi) (z:Vi×List Vi),Lax p x' x→(∀u∈pre',u∈pre)→Vo p v pre rest x= .inl z→ ∃z',Vo p v pre' rest x'= .inl z'∧Lax p z'.1 z.1
 | [],pre,pre',x,x',z,hl,_,h=>by
  injection h with h;subst h
  exact ⟨_,rfl,hl⟩
 | s::rest,pre,pre',x,x',z,hl,hsub,h=>by
  unfold Vo at h
  split at h
  ·cases h
  ·rename_i y hy
   obtain ⟨y',h1,h2⟩:=QnS hp hl hsub hy
   split at h
   ·rename_i z1 hz
    injection h with h;subst h
    obtain ⟨z',h3,h4⟩:=Qme hp rest (pre++[s]) (pre'++[s]) y y' z1 h2 (fun u hu=>by
     rcases List.mem_append.1 hu with h5 | h5
     ·exact List.mem_append_left _ (hsub u h5)
     ·exact List.mem_append_right _ h5) hz
    unfold Vo
    rw[h1]
    simp only[]
    rw[h3]
    exact ⟨_,rfl,h4⟩
   ·cases h
theorem QnR {p:Pr} {v:Ve} (hv:OkV p.Road.Nodes v) {x x' y:Vi} (hl:Lax p x' x) (h0:0≤x'.Load) (hs:VX p v x= .inl y): ∃y',VX p v x'= .inl y':=by
 unfold VX at hs
 split at hs
 ·cases hs
 ·rename_i h1
  split at hs
  ·cases hs
  ·rename_i h2
   split at hs
   ·cases hs
   ·rename_i h3
    obtain ⟨g1,g2⟩:=hl.leg _ hv.d0 hv.d1 (by omega);have g3:=hl.load;unfold VX
    simp only[ne_eq,Decidable.not_not] at h2
    rw[if_neg (by omega),if_neg (by omega),if_neg (by omega)]
    exact ⟨_,rfl⟩
theorem QnQ {p:Pr} {v:Ve} (hp:OkP p) (hv:OkV p.Road.Nodes v) {k:Nat} {x y:Vi} {pre:List Int} {s:Int} (hx:InV p v k x) (h0:0≤s) (hs:VF p v pre x s= .inl y):Lax p x y:=by
 have hin:=Qeg hp hv hx hs;unfold VF at hs
 rw[if_neg (by omega)] at hs
 split at hs
 ·cases hs
 ·split at hs
  ·cases hs
  ·split at hs
   ·cases hs
   ·rename_i d hd
    have hd2:=hp.de d (List.mem_of_getElem? hd);have a1:=hd2.g0;have a5:=hd2.s0
    split at hs
    ·cases hs
    ·split at hs
     ·cases hs
     ·rename_i h5
      split at hs
      ·cases hs
      ·split at hs
       ·cases hs
       ·injection hs with hs;subst hs
        refine ⟨fun b b0 b1 hb=> ?_,by simp only[];omega⟩
        simp only[] at hb ⊢
        have h6:=tri hp ⟨hx.n0,hx.n1⟩ ⟨hd2.n0,hd2.n1⟩ ⟨b0,b1⟩ (by omega) hb
        omega
theorem Qlf {p:Pr} (hp:OkP p) {t:Qa} {u:Vi×List Vi×Ve} (h:J8 p t= .inl u) {n:Nat} {s:Int} (hn:t.Stops[n]? =some s) (h0:0≤s):(Qch p ⟨t.Vehicle,t.Stops.take n++t.Stops.drop (n+1)⟩).2.1=0:=by
 obtain ⟨z,y,hf,_,_⟩:=QfJ h;have hv:=hp.ve u.2.2 (by
  have:=hf.hv;unfold getI at this
  rw[if_pos hf.t0] at this
  exact List.mem_of_getElem? this)
 have hnl:=Qr hn;have hsl:=hf.sl;have hfol:=hf.fol;have hsplit:t.Stops=t.Stops.take n++(s::t.Stops.drop (n+1)):=by
  conv=>lhs;rw[←List.take_append_drop n t.Stops]
  congr 1
  rw[List.drop_eq_getElem_cons hnl]
  rw[List.getElem?_eq_getElem hnl] at hn
  injection hn with hn
  rw[hn]
 rw[hsplit,QdP] at hfol
 cases hA:Vo p u.2.2 [] (t.Stops.take n) (x0 u.2.2) with
 | inr q=>rw[hA] at hfol;cases hfol
 | inl zA =>
  rw[hA] at hfol
  simp only[List.nil_append] at hfol
  have hzA:=Qdg hp hv (t.Stops.take n) [] _ _ (QgD hv) hA
  simp only[List.length_nil,Nat.zero_add,Yi (Nat.le_of_lt hnl)] at hzA
  cases hB:Vo p u.2.2 (t.Stops.take n) (s::t.Stops.drop (n+1)) zA.1 with
  | inr q=>rw[hB] at hfol;cases hfol
  | inl zB =>
   rw[hB] at hfol
   injection hfol with hfol
   have hB2:=hB;unfold Vo at hB2
   split at hB2
   ·cases hB2
   ·rename_i y1 hy1
    split at hB2
    ·rename_i zC hC
     injection hB2 with hB2
     have hlx:=QnQ hp hv hzA.1 h0 hy1;obtain ⟨z',g1,g2⟩:=Qme hp (t.Stops.drop (n+1)) (t.Stops.take n++[s]) (t.Stops.take n) y1 zA.1 zC hlx (fun w hw=>List.mem_append_left _ hw) hC;have hzn:=Qdg hp hv (t.Stops.drop (n+1)) (t.Stops.take n) _ _ (by rw[Yi (Nat.le_of_lt hnl)];exact hzA.1) g1;have hhom:=hf.hom
     rw[←hfol,←hB2] at hhom
     obtain ⟨y',g3⟩:=QnR hv g2 hzn.1.l0 hhom;have e:=QoE (p:=p) (t:=⟨t.Vehicle,t.Stops.take n++t.Stops.drop (n+1)⟩) hf.t0 hf.t1 hf.hv (by simp;omega)
     simp only[] at e
     rw[QdP,hA] at e
     simp only[List.nil_append,g1,g3] at e
     unfold Qch
     rw[e]
    ·cases hB2
end Go.Proofs.YthpgjbbjpfiniaaGreat
namespace Go.Proofs.YthpgjbbjpfiniaaGreat
open Go.RowKit
set_option linter.unusedSimpArgs false
set_option linter.unusedVariables false
structure Fe (p:Pr) (x:Pl):Prop where
 ok:OkP p
 chk:Ql p=some 0
 drv: ∀t∈x.Tours,(Yv p t).2=0
 dis:x.Tours.Pairwise fun a b=>a.Vehicle≠b.Vehicle
 lft: ∀e∈x.Left,0≤e∧e<((p.Demands.length:Nat):Int)
 one: ∀d,d<p.Demands.length→tn x.Tours d+cn x.Left d=1
theorem Qns {n:Nat} {f:Nat→Nat} (h:QgE (vec n f)=0): ∀d,d<n→f d=1:=fun d hd=>by
 unfold QgE at h;have hm:((f d:Nat):Int)∈vec n f:=List.mem_of_getElem? (QfN f hd);cases h1:(vec n f).any fun c=>decide (1<c) with
 | true=>rw[h1] at h;cases h
 | false =>
  rw[h1] at h
  simp only[cond_false] at h
  cases h2:(vec n f).any fun c=>decide (c=0) with
  | true=>rw[h2] at h;cases h
  | false =>
   rw[List.any_eq_false] at h1 h2
   have a1:=h1 _ hm;have a2:=h2 _ hm
   simp at a1 a2
   omega
theorem Qnu {p:Pr} {ts:List To} (h: ∀(k:Nat) (t:To),ts[k]? =some t→QcL p ts k t=none):ts.Pairwise fun a b=>a.Vehicle≠b.Vehicle:=by
 rw[List.pairwise_iff_getElem]
 intro i j hi hj hij he;have:=h j _ (List.getElem?_eq_getElem hj);unfold QcL at this;have hany:(ts.take j).any (fun u=>decide (u.Vehicle=ts[j].Vehicle))=true:=by
  rw[List.any_eq_true]
  refine ⟨ts[i],?_,by simpa using he⟩;refine List.mem_of_getElem? (i:=i) ?_
  rw[List.getElem?_take,if_pos hij,List.getElem?_eq_getElem hi]
 rw[hany] at this
 cases this
theorem Qfn {p:Pr} {t:To} {u:Vi×List Vi×Ve} (h:J8 p t= .inl u):(Yv p t).2=0:=by unfold Yv;rw[h]
theorem Qd9 {F:Nat} (hF:40000≤F) {p:Pr} (hn:p.Road.Edges.length≤600) (x:Pl) (hx:x.Tours.length≤30) (hl:x.Left.length≤100) :
  ∃s e,Y4 F p x=some (s,e)∧QP p x=some e∧Yc p x=some (s,e)∧(e=0→s=Y5 p x.Tours∧Fe p x):=by
 obtain ⟨s,e,h1,h2,h3⟩:=Qm0 hF hn x hx hl;refine ⟨s,e,h1,h2,h3,fun he=> ?_⟩;subst he;rcases Qcm p hn with ⟨g1,g2⟩ | ⟨e,g1,g2⟩
 ·rcases QeZ (QcL p x.Tours) x.Tours 0 with k1 | ⟨c,i,t,k1,k2⟩
  ·simp only[Nat.zero_add] at k1
   have hdl:=g2.dl;have hall: ∀t∈x.Tours,(∀s∈t.Stops,okS p.Demands.length s)∧t.Stops.length≤40:=fun t htm=>by
    obtain ⟨i,hi⟩:=List.getElem?_of_mem htm;obtain ⟨u,hu⟩:=QcM (k1 i t hi);exact (Vt g2 hu).2.2
   have q1:=Qes hF g2 x hx
   rw[QO _ _ (fun i t hi=>by rw[Nat.zero_add,k1 i t hi];rfl)] at q1
   have q3:=(QcW (n:=p.Demands.length) x (fun _=>0) (by omega) (fun _=>Nat.zero_le _)).1;have q4:=(Qcg (n:=p.Demands.length) x (fun d=>0+cn x.Left d) (by omega) (fun d=>by have:=Qiv x.Left d;omega) (fun t htm=>by have:=(hall t htm).2;omega) (fun t htm=>(hall t htm).1)).1;have hpl:Y4 F p x=some (bif QeP p.Demands.length x.Left then (0,7) else (bif decide (QgE (vec p.Demands.length fun d=>0+cn x.Left d+tn x.Tours d)=0) then Y5 p x.Tours else 0,QgE (vec p.Demands.length fun d=>0+cn x.Left d+tn x.Tours d))):=by
    unfold Y4
    rw[Zo (by omega) _ hn,g1]
    simp only[Option.bind_some,decide_true,Bool.not_true,cond_false]
    rw[q1]
    simp only[Option.bind_some,QD]
    rw[QdW _ (by omega)]
    simp only[Option.bind_some]
    rw[q3]
    cases QeP p.Demands.length x.Left with
    | true=>rfl
    | false =>
     simp only[cond_false,Option.bind_some,QD]
     rw[q4]
     simp only[Option.bind_some]
     rw[QgT _ (by rw[VA];omega),QgX _ (by rw[VA];omega)]
     unfold QgE
     simp only[Option.bind_some]
     generalize (vec p.Demands.length fun d=>0+cn x.Left d+tn x.Tours d).any (fun c=>decide (1<c))=a
     generalize (vec p.Demands.length fun d=>0+cn x.Left d+tn x.Tours d).any (fun c=>decide (c=0))=b
     cases a<;>cases b<;>rfl
   rw[h1] at hpl
   cases hbl:QeP p.Demands.length x.Left with
   | true=>rw[hbl] at hpl;cases hpl
   | false =>
    rw[hbl] at hpl
    simp only[cond_false,Option.some.injEq,Prod.mk.injEq] at hpl
    obtain ⟨p1,p2⟩:=hpl
    rw[←p2] at p1
    simp only[decide_true,cond_true] at p1
    refine ⟨p1,g2,g1,fun t ht=> ?_,Qnu k1,fun e he=> ?_,fun d hd=> ?_⟩
    ·obtain ⟨i,hi⟩:=List.getElem?_of_mem ht;obtain ⟨u,hu⟩:=QcM (k1 i t hi);exact Qfn hu
    ·unfold QeP at hbl
     rw[List.any_eq_false] at hbl
     have:=hbl e he
     simp at this
     omega
    ·have:=Qns p2.symm d hd
     omega
  ·exfalso
   have hc0:=QjW k1;have q1:=Qes hF g2 x hx
   rw[k2] at q1
   unfold Y4 at h1
   rw[Zo (by omega) _ hn,g1] at h1
   simp only[Option.bind_some,decide_true,Bool.not_true,cond_false] at h1
   rw[q1] at h1
   simp only[Option.bind_some,QD,Option.some.injEq,Prod.mk.injEq] at h1
   exact hc0 h1.2
 ·exfalso
  unfold Y4 at h1
  rw[Zo (by omega) _ hn,g2] at h1
  simp only[Option.bind_some] at h1
  rw[show decide (e=0)=false by simpa using g1] at h1
  simp only[Bool.not_false,cond_true,Option.some.injEq,Prod.mk.injEq] at h1
  exact g1 h1.2
theorem Fe.tour {p:Pr} {x:Pl} (h:Fe p x) {t:To} (ht:t∈x.Tours):0≤t.Vehicle∧t.Vehicle<((p.Vehicles.length:Nat):Int)∧t.Stops.length≤40∧(∀s∈t.Stops,okS p.Demands.length s)∧ ∃u,J8 p t= .inl u:=by
 obtain ⟨u,hu⟩:=QcP (h.drv t ht);obtain ⟨z,y,hf,_,_⟩:=QfJ hu;exact ⟨hf.t0,hf.t1,hf.sl,(Vt h.ok hu).2.2.1,u,hu⟩
theorem QgV (x:Pl) (v:Int):(ofP x v∈x.Tours∧(ofP x v).Vehicle=v)∨ofP x v=⟨v,[]⟩:=by
 unfold ofP;cases h:x.Tours.find? fun t=>decide (t.Vehicle=v) with
 | none=>exact .inr rfl
 | some t =>
  have h1:=List.find?_some h;exact .inl ⟨List.mem_of_find?_eq_some h,by simpa using h1⟩
theorem Qmj (x:Pl) (v:Int):(ofP x v).Vehicle=v:=by
 rcases QgV x v with ⟨_,h⟩ | h
 ·exact h
 ·rw[h]
theorem Fe.of_len {p:Pr} {x:Pl} (h:Fe p x) (v:Int):(ofP x v).Stops.length≤40:=by
 rcases QgV x v with ⟨h1,_⟩ | h1
 ·exact (h.tour h1).2.2.1
 ·rw[h1];simp
theorem QjK (d:Int) (l:List Int):(wo d l).length≤l.length:=List.length_filter_le _ _
theorem QlU (d:Int) (l:List Int):d∉wo d l:=fun h=>by
 unfold wo at h
 simp at h
theorem Qia {d e:Int} (l:List Int) (h:e≠d):(wo d l).count e=l.count e:=by
 unfold wo
 rw[List.count_filter (by simpa using h)]
theorem QkR {d:Int}: ∀(l:List Int),l.count d≤1→d∈l→ ∃n,l[n]? =some d∧wo d l=l.take n++l.drop (n+1)
 | [],_,h=>by cases h
 | a::r,hc,h=>by
  by_cases ha:a=d
  ·subst ha;have h0:r.count a=0:=by simp at hc;omega
   have h1:wo a r=r:=QfP fun y hy=>by
    have:a∉r:=List.count_eq_zero.1 h0
    simp only[decide_eq_false_iff_not]
    intro e;rw[e] at hy;exact this hy
   exact ⟨0,rfl,by simp[wo] at h1 ⊢;exact h1⟩
  ·have hr:d∈r:=by rcases List.mem_cons.1 h with e | h;exact absurd e.symm ha;exact h
   have hc2:r.count d≤1:=by rw[List.count_cons] at hc;omega
   obtain ⟨n,h1,h2⟩:=QkR r hc2 hr;refine ⟨n+1,by simpa using h1,?_⟩;unfold wo at h2 ⊢
   simp[ha,h2]
theorem Qpo {ts:List To} {t:To} (h:t∈ts) (d:Nat):cn t.Stops d≤tn ts d:=by
 induction ts with
 | nil=>cases h
 | cons u ts ih =>
  simp only[tn,List.map_cons,List.sum_cons]
  rcases List.mem_cons.1 h with rfl | h
  ·omega
  ·have:=ih h;unfold tn at this;omega
theorem Fe.less {p:Pr} {x:Pl} (h:Fe p x) {d:Int} (h0:0≤d) (h1:d<((p.Demands.length:Nat):Int)) {t:To} (ht:t∈x.Tours):(Yv p ⟨t.Vehicle,wo d t.Stops⟩).2=0:=by
 obtain ⟨_,_,_,_,u,hu⟩:=h.tour ht
 by_cases hd:d∈t.Stops
 ·have hc:t.Stops.count d≤1:=by
   have a1:=h.one d.toNat (by omega);have a2:=Qpo ht d.toNat;unfold cn at a2
   rw[show ((d.toNat:Nat):Int)=d by omega] at a2
   omega
  obtain ⟨n,e1,e2⟩:=QkR t.Stops hc hd;have:=Qlf h.ok hu e1 h0
  rw[←e2] at this
  unfold Qch at this;cases hr:J8 p ⟨t.Vehicle,wo d t.Stops⟩ with
  | inl w=>exact Qfn hr
  | inr q=>rw[hr] at this;exact absurd this (V9 hr)
 ·rw[QfP (fun y hy=>by simp only[decide_eq_false_iff_not];intro e;rw[e] at hy;exact hd hy)]
  exact h.drv t ht
theorem Qms {n k:Nat} (a:Nat) (f:Nat→Nat) (hk:k<n) (h0:f k=0):((List.range n).map fun i=>if k=i then a else f i).sum=a+((List.range n).map f).sum:=by
 induction n with
 | zero=>omega
 | succ n ih =>
  simp only[List.range_succ,List.map_append,List.sum_append,List.map_cons,List.map_nil,List.sum_cons,List.sum_nil]
  by_cases h:k=n
  ·subst h;have:((List.range k).map fun i=>if k=i then a else f i)=(List.range k).map f:=List.map_congr_left fun i hi=>by
    rw[if_neg (by have:=List.mem_range.1 hi;omega)]
   rw[this,if_pos rfl,h0];omega
  ·rw[if_neg h,ih (by omega)];omega
theorem QkK (n:Nat):((List.range n).map fun _=>0).sum=0:=by
 induction n with
 | zero=>rfl
 | succ n ih=>simp only[List.range_succ,List.map_append,List.sum_append,ih];rfl
def gOf (ts:List To) (v:Int):To:=(ts.find? fun t=>decide (t.Vehicle=v)).getD ⟨v,[]⟩
theorem QoD {n:Nat} (e:Nat): ∀{ts:List To},(ts.Pairwise fun a b=>a.Vehicle≠b.Vehicle)→(∀t∈ts,0≤t.Vehicle∧t.Vehicle<(n:Int))→((List.range n).map fun i:Nat=>cn (gOf ts (i:Int)).Stops e).sum=tn ts e
 | [],_,_=>by
  have:((List.range n).map fun i:Nat=>cn (gOf [] (i:Int)).Stops e)=(List.range n).map fun _=>0:=List.map_congr_left fun i _=>by simp[gOf,cn]
  rw[this,QkK]
  simp[tn]
 | t::r,hp,hv=>by
  have hp':=List.pairwise_cons.1 hp;have ih:=QoD (n:=n) e hp'.2 fun u hu=>hv u (List.mem_cons_of_mem _ hu);obtain ⟨v0,v1⟩:=hv t List.mem_cons_self;have hg: ∀i:Nat,cn (gOf (t::r) (i:Int)).Stops e=if t.Vehicle.toNat=i then cn t.Stops e else cn (gOf r (i:Int)).Stops e:=fun i=>by
   unfold gOf
   by_cases h:t.Vehicle.toNat=i
   ·rw[if_pos h,List.find?_cons_of_pos (by simp;omega)];rfl
   ·rw[if_neg h,List.find?_cons_of_neg (by simp;omega)]
  have hz:cn (gOf r (t.Vehicle.toNat:Int)).Stops e=0:=by
   have:r.find? (fun u=>decide (u.Vehicle=(t.Vehicle.toNat:Int)))=none:=by
    rw[List.find?_eq_none]
    intro u hu;have:=hp'.1 u hu
    simp;omega
   unfold gOf
   rw[this]
   simp[cn]
  have e1:((List.range n).map fun i:Nat=>cn (gOf (t::r) (i:Int)).Stops e)=(List.range n).map fun i=>if t.Vehicle.toNat=i then cn t.Stops e else cn (gOf r (i:Int)).Stops e:=List.map_congr_left fun i _=>hg i
  rw[e1,Qms _ (fun i:Nat=>cn (gOf r (i:Int)).Stops e) (by omega) hz,ih]
  simp[tn]
theorem Fe.sum {p:Pr} {x:Pl} (h:Fe p x) (e:Nat):((List.range p.Vehicles.length).map fun i:Nat=>cn (ofP x (i:Int)).Stops e).sum=tn x.Tours e :=
 QoD e h.dis fun t ht=>⟨(h.tour ht).1,(h.tour ht).2.1⟩
def stB (x:Pl) (d v:Int) (b:To) (i:Nat):To:=if (i:Int)=v then b else ⟨(i:Int),wo d (ofP x (i:Int)).Stops⟩
def Qf5 (p:Pr) (x:Pl) (d:Int):List Int:=((List.range p.Demands.length).map fun k:Nat=>(k:Int)).filter fun k=> !decide (k=d)&&decide (k∈x.Left)
def Qa5 (p:Pr) (x:Pl) (d v:Int) (b:To):Pl:=⟨((List.range p.Vehicles.length).map (stB x d v b)).filter Qa8,Qf5 p x d⟩
theorem Qki (p:Pr) (x:Pl) (d:Int):(Qf5 p x d).Pairwise (· < ·):=by
 refine List.Pairwise.filter _ ?_
 rw[List.pairwise_map]
 exact List.Pairwise.imp (fun h=>by omega) List.pairwise_lt_range
theorem QhG {p:Pr} {x:Pl} {d e:Int}:e∈Qf5 p x d↔(0≤e∧e<((p.Demands.length:Nat):Int))∧e≠d∧e∈x.Left:=by
 unfold Qf5
 rw[List.mem_filter]
 constructor
 ·rintro ⟨h1,h2⟩;obtain ⟨k,hk,rfl⟩:=List.mem_map.1 h1;have:=List.mem_range.1 hk
  simp at h2
  exact ⟨by omega,h2⟩
 ·rintro ⟨⟨h1,h2⟩,h3,h4⟩;refine ⟨List.mem_map.2 ⟨e.toNat,List.mem_range.2 (by omega),by omega⟩,?_⟩
  simp[h3,h4]
theorem Fe.left_nodup {p:Pr} {x:Pl} (h:Fe p x):x.Left.Nodup:=by
 rw[List.nodup_iff_count]
 intro e
 by_cases he:e∈x.Left
 ·have:=h.lft e he;have h1:=h.one e.toNat (by omega);unfold cn at h1
  rw[show ((e.toNat:Nat):Int)=e by omega] at h1
  omega
 ·rw[List.count_eq_zero.2 he];omega
theorem QnW {l:List Int} (h:l.Pairwise (· < ·)):l.Nodup:=List.Pairwise.imp (fun h=>by omega) h
theorem Qln {a b:List Int} (ha:a.Nodup) (hb:b.Nodup) (h: ∀e,e∈a↔e∈b):a.Perm b:=(List.perm_ext_iff_of_nodup ha hb).2 h
theorem Fe.left_perm {p:Pr} {x:Pl} (h:Fe p x) (d:Int):(wo d x.Left).Perm (Qf5 p x d):=by
 refine Qln (h.left_nodup.filter _) (QnW (Qki p x d)) fun e=> ?_
 rw[QhG]
 unfold wo
 rw[List.mem_filter]
 simp only[Bool.not_eq_true',decide_eq_false_iff_not]
 exact ⟨fun ⟨h1,h2⟩=>⟨h.lft e h1,h2,h1⟩,fun ⟨_,h1,h2⟩=>⟨h2,h1⟩⟩
theorem Fe.left_sort {p:Pr} {x:Pl} (h:Fe p x) (hl:x.Left.length≤1000) (d:Int):QhY (wo d x.Left)=some (Qf5 p x d):=by
 have h1:=QjK d x.Left;unfold QhY
 rw[if_pos (by omega)]
 congr 1
 refine List.Perm.eq_of_pairwise (le:=(· ≤ ·)) (fun a b _ _=>Int.le_antisymm) (Qdj _) (List.Pairwise.imp (fun h=>by omega) (Qki p x d)) ((Qdi _).trans (h.left_perm d))
end Go.Proofs.YthpgjbbjpfiniaaGreat
namespace Go.Proofs.YthpgjbbjpfiniaaGreat
open Go.RowKit
set_option linter.unusedSimpArgs false
set_option linter.unusedVariables false
abbrev Ra:=Qb
theorem Qof (rec_:List Ra→Int→Int→Int→Option (List Ra)) (F:Nat) (d:List Ra) (a m b:Int):YW rec_ F d a m b=QdQ QV rec_ F d a m b:=rfl
theorem QjC: ∀F:Nat,Q6 F=Qjh QV F
 | 0=>rfl
 | F+1=>by
  funext d a m b
  show YW (Q6 F) F d a m b=QdQ QV (Qjh QV F) F d a m b
  rw[QjC F];exact Qof _ _ _ _ _ _
theorem Qqc (F:Nat) (n s:Int):Y0 F n s=Qgp QV F n s:=by
 funext j
 unfold Y0 Qgp
 rw[QjC]
theorem Qqd (F:Nat) (n:Int):Y1 F n=Qgq QV F n:=by
 funext j
 unfold Y1 Qgq
 simp only[QjC,Qqc]
theorem Qoe (F:Nat) (d:List Ra):Ym F d=QiE QV F d:=by
 unfold Ym QiE Zv gSt
 simp only[Qqd]
 rfl
theorem Qlu {F:Nat} {L:List Ra} (hn:L.length≤1000) (hF:40000≤F) (hb: ∀x∈L,Qbz x): ∃L',Ym F L=some L'∧Srt JO L'∧YC JO L L':=by
 rw[Qoe]
 exact Qkd (α:=Ra) (k:=JO) (cmp:=QV) (Pv:=Qbz) (fun x y hx hy=>Qhc hx hy) (by omega) (by omega) hb
theorem Qhn {α ρ:Type} {step:Nat→α→Option ρ} {fin r:ρ}: ∀(l:List α) (k i:Nat) (y:α),l[i]? =some y→step (k+i) y=some r→(∀(j:Nat) (z:α),j<i→l[j]? =some z→step (k+j) z=none)→Yx step fin k l=r
 | [],_,_,_,h,_,_=>by simp at h
 | x::l,k,0,y,h,hs,_=>by
  simp at h;subst h
  simp only[Yx]
  rw[Nat.add_zero] at hs
  rw[hs]
 | x::l,k,i+1,y,h,hs,hn=>by
  have h0:=hn 0 x (by omega) rfl
  rw[Nat.add_zero] at h0
  simp only[Yx,h0]
  exact Qhn l (k+1) i y (by simpa using h) (by rw[show k+1+i=k+(i+1) by omega];exact hs) fun j z hj hz=>by
   have:=hn (j+1) z (by omega) (by simpa using hz)
   rwa [show k+(j+1)=k+1+j by omega] at this
def tO (x:Pl) (d v:Int):To:=⟨v,wo d (ofP x v).Stops⟩
def bsO (F:Nat) (p:Pr) (x:Pl) (d v:Int):Option Op:=VR F p d ⟨tO x d v,0⟩
def mvR (F:Nat) (p:Pr) (x:Pl) (d v:Int):Option Pl:=(bsO F p x d v).map fun y=>Qa5 p x d v y.tour
def Qjf:Option Pl→Pl×Bool
 | some y=>(y,true)
 | none=>(⟨[],[]⟩,false)
def stK (x:Pl) (d v:Int) (b:To) (k:Nat):List To:=((List.range k).map (stB x d v b)).filter Qa8
theorem Qh1 (x:Pl) (d v:Int) (b:To) (k:Nat):stK x d v b (k+1)=stK x d v b k++if Qa8 (stB x d v b k)=true then [stB x d v b k] else []:=by
 unfold stK
 rw[List.range_succ,List.map_append,List.filter_append]
 simp[List.filter_cons]
theorem Qmq (x:Pl) (d v:Int) (b:To) (k:Nat):(stK x d v b k).length≤k:=Nat.le_trans (List.length_filter_le _ _) (by simp)
theorem Qkn {F:Nat} (hF:40000≤F) {p:Pr} {x:Pl} (hx:x.Tours.length≤1000) (hs: ∀v,(ofP x v).Stops.length≤1000) (hv:p.Vehicles.length≤1000) (d v:Int) {b:To} (hb:b.Stops.length≤1000) :
  iter (JJ F p x d v b.Vehicle b.Stops) (((p.Vehicles.length:Nat):Int).toNat+1) ([],0)=some (stK x d v b p.Vehicles.length):=by
 have:=YE (body:=JJ F p x d v b.Vehicle b.Stops) p.Vehicles (stK x d v b) (fun m k=>(m,k)) (fun _ _=>none) (stK x d v b p.Vehicles.length) (by omega) (fun k y hk _=> ?_) (fun _=>by simp[JJ,oun]) (((p.Vehicles.length:Nat):Int).toNat+1) (by simp)
 ·rw[QO _ _ (fun _ _ _=>rfl)] at this
  exact this
 ·have h0:=Qr hk;have h1:((k:Int)<((p.Vehicles.length:Nat):Int)):=by omega
  have hl:=Qmq x d v b k;have fin: ∀t:To,t=stB x d v b k→t.Stops.length≤1000→(Option.bind (Option.bind (W0 (Qa.mk t.Vehicle t.Stops)) fun r7=>bif r7 then Option.bind (ZI (stK x d v b k) [(Qa.mk t.Vehicle t.Stops)]) fun l1=>some l1 else some (stK x d v b k)) fun f6 =>
    some (Sum.inl (f6,w64 ((k:Int)+1))))=some (Zj none (stK x d v b (k+1),w64 ((k:Int)+1)):(List To×Int)⊕List To):=fun t ht hl2=>by
   rw[(Qga (t:=⟨t.Vehicle,t.Stops⟩) (by simpa using (by omega:t.Stops.length≤1000000))).1,Qh1,←ht]
   cases Qa8 t with
   | true =>
    simp only[Option.bind_some,cond_true]
    rw[Yh (by simp;omega)]
    rfl
   | false=>simp[Zj]
  by_cases h:(k:Int)=v
  ·have ht:b=stB x d v b k:=by unfold stB;rw[if_pos h]
   have h1v:v<((p.Vehicles.length:Nat):Int):=by omega
   simp only[JJ,oun,h1v,decide_true,cond_true,h,Bool.not_true,cond_false,Option.bind_some]
   rw[←h]
   have:=fin b ht hb
   rw[h] at this ⊢
   exact this
  ·have ht:(⟨(k:Int),wo d (ofP x (k:Int)).Stops⟩:To)=stB x d v b k:=by unfold stB;rw[if_neg h]
   simp only[JJ,oun,h1,decide_true,cond_true,h,decide_false,Bool.not_false,(Qgi (x:=x) (k:Int) hx).1,Option.bind_some,Qfc hF d (hs k)]
   exact fin ⟨(k:Int),wo d (ofP x (k:Int)).Stops⟩ ht (Nat.le_trans (QjK _ _) (hs k))
theorem Qko {F:Nat} (hF:40000≤F) {p:Pr} {x:Pl} (hx:x.Tours.length≤1000) (hs: ∀v,(ofP x v).Stops.length≤1000) (hv:p.Vehicles.length≤1000) (d:Int) {v:Nat} (hvv:v<p.Vehicles.length) {b:To} (hb:b.Stops.length≤1000) {e:Int} (hbe:Y6 F p (tO x d v) d=some (b,e)) :
  iter (Zu F p x d v) (((p.Vehicles.length:Nat):Int).toNat+1) ([],0)=some (if e=0 then .inl (stK x d v b p.Vehicles.length) else .inr (⟨[],[]⟩,false)):=by
 have:=YE (body:=Zu F p x d v) p.Vehicles (stK x d v b) (fun m k=>(m,k)) (fun k _=>if k=v∧e≠0 then some (.inr (⟨[],[]⟩,false)) else none) (.inl (stK x d v b p.Vehicles.length)) (by omega) (fun k y hk hno=> ?_) (fun _=>by simp[Zu,oun]) (((p.Vehicles.length:Nat):Int).toNat+1) (by simp)
 ·have e0:(stK x d v b 0,(0:Int))=(([]:List To),(0:Int)):=rfl;refine this.trans ?_
  by_cases he:e=0
  ·rw[if_pos he,QO _ _ (fun i y _=>by simp[he])]
  ·rw[if_neg he,Qhn p.Vehicles 0 v p.Vehicles[v] (List.getElem?_eq_getElem hvv) (r:= .inr (⟨[],[]⟩,false)) (by simp[he]) (fun j z hj _=>by simp;omega)]
 ·have h0:=Qr hk;have h1:((k:Int)<((p.Vehicles.length:Nat):Int)):=by omega
  have hl:=Qmq x d v b k
  by_cases h:k=v
  ·subst h;have ht:b=stB x d k b k:=by unfold stB;rw[if_pos rfl]
   simp only[Zu,oun,h1,decide_true,cond_true,(Qgi (x:=x) (k:Int) hx).2,Option.bind_some,Qkw d (show (ofP x (k:Int)).Stops.length≤1000000 by have:=hs k;omega)]
   have hbe':Y6 F p (Qa.mk (k:Int) (wo d (ofP x (k:Int)).Stops)) d=some (b,e):=hbe
   rw[hbe']
   simp only[Option.bind_some]
   by_cases he:e=0
   ·simp only[he,decide_true,Bool.not_true,cond_false,Option.bind_some,QD]
    rw[(Qga (t:=⟨b.Vehicle,b.Stops⟩) (by simpa using (by omega:b.Stops.length≤1000000))).2,Qh1,←ht]
    cases Qa8 b with
    | true =>
     simp only[Option.bind_some,cond_true]
     rw[Yh (by simp;omega)]
     simp[Zj,QD]
    | false=>simp[Zj,QD]
   ·simp[he,Zj,QD]
  ·have hkv: ¬((k:Int)=(v:Int)):=by omega
   have ht:(⟨(k:Int),wo d (ofP x (k:Int)).Stops⟩:To)=stB x d v b k:=by unfold stB;rw[if_neg hkv]
   have hl2:=Nat.le_trans (QjK d (ofP x (k:Int)).Stops) (hs k)
   simp only[Zu,oun,h1,decide_true,cond_true,(Qgi (x:=x) (k:Int) hx).2,Option.bind_some,Qkw d (show (ofP x (k:Int)).Stops.length≤1000000 by have:=hs k;omega),hkv,decide_false,cond_false,QD]
   rw[(Qga (t:=⟨(k:Int),wo d (ofP x (k:Int)).Stops⟩) (by simpa using (by omega:(wo d (ofP x (k:Int)).Stops).length≤1000000))).2,Qh1,←ht]
   cases Qa8 ⟨(k:Int),wo d (ofP x (k:Int)).Stops⟩ with
   | true =>
    simp only[Option.bind_some,cond_true]
    rw[Yh (by simp;omega)]
    simp[Zj,QD,h]
   | false=>simp[Zj,QD,h]
theorem Qkp {p:Pr} {x:Pl} (hl:x.Left.length≤1000) (hd:p.Demands.length≤1000) (d:Int) :
  iter (Jm p x d) (((p.Demands.length:Nat):Int).toNat+1) ([],0)=some (Qf5 p x d):=by
 have:=YE (body:=Jm p x d) p.Demands (fun k=>((List.range k).map fun k:Nat=>(k:Int)).filter fun k=> !decide (k=d)&&decide (k∈x.Left)) (fun m k=>(m,k)) (fun _ _=>none) (Qf5 p x d) (by omega) (fun k y hk _=> ?_) (fun _=>by simp[Jm,oun,Qf5]) (((p.Demands.length:Nat):Int).toNat+1) (by simp)
 ·rw[QO _ _ (fun _ _ _=>rfl)] at this
  exact this
 ·have h0:=Qr hk;have h1:((k:Int)<((p.Demands.length:Nat):Int)):=by omega
  have hl2:(((List.range k).map fun k:Nat=>(k:Int)).filter fun k=> !decide (k=d)&&decide (k∈x.Left)).length≤k:=Nat.le_trans (List.length_filter_le _ _) (by simp)
  simp only[Jm,oun,h1,decide_true,cond_true,QnL (k:Int) (show x.Left.length≤1000000 by omega)]
  rw[List.range_succ,List.map_append,List.filter_append]
  generalize (((List.range k).map fun k:Nat=>(k:Int)).filter fun k=> !decide (k=d)&&decide (k∈x.Left))=A at *
  by_cases e1:(k:Int)=d
  ·simp[e1,Zj]
  ·by_cases e2:(k:Int)∈x.Left
   ·simp only[e1,e2,decide_false,decide_true,Bool.not_false,cond_true,Option.bind_some]
    rw[Yh (by simp;omega)]
    simp[Zj,e1,e2]
   ·simp[e1,e2,Zj]
theorem QmY {F:Nat} (hF:40000≤F) {p:Pr} (hn:p.Road.Edges.length≤600) {x:Pl} (h:Fe p x) (hx:x.Tours.length≤1000) (hl:x.Left.length≤1000) (hv:p.Vehicles.length≤1000) {d v:Nat} (hdd:d<p.Demands.length) (hvv:v<p.Vehicles.length) :
  VH F p x d v=some (Qjf (mvR F p x d v))∧Vd F p x d v=some (Qjf (mvR F p x d v))∧(∀y,bsO F p x d v=some y→IsO p (tO x d v) d y∧y.tour.Stops.length≤40):=by
 have hs: ∀v,(ofP x v).Stops.length≤1000:=fun v=>by have:=h.of_len v;omega
 have hts:(tO x d v).Stops.length≤1000:=Nat.le_trans (QjK _ _) (hs _);have hdl:=h.ok.dl;obtain ⟨L,e,h1,h2,h3,h4⟩:=QaT hF p hn (tO x d v) hts d;have hbad:Qi9 p (tO x d v) d=false:=by
  unfold Qi9 tO
  simp;omega
 have he:=h4 h.chk hbad
 rw[show decide ((d:Int)∈(tO x d v).Stops)=false from decide_eq_false (QlU (d:Int) _)] at he
 have he:e=0:=he;subst he;rcases h3 with ⟨h3,_⟩ | ⟨_,h3⟩
 ·exact absurd rfl h3
 obtain ⟨e',b1,b2,_,b4⟩:=Qi3 h2 (.inr ⟨rfl,h3⟩);have hB:=(Qg0 hF p hn (tO x d v) hts d).2;have hbs:bsO F p x d v=L.head? :=by
  unfold bsO VR
  rw[h1]
  cases L<;>rfl
 have hisO: ∀y,bsO F p x d v=some y→IsO p (tO x d v) d y∧y.tour.Stops.length≤40:=fun y hy=>QnM (x:=⟨tO x d v,0⟩) hy ⟨L,0,h1,.inr ⟨rfl,h3⟩⟩;have hbl:(hdT L).Stops.length≤1000:=by
  cases L with
  | nil=>simp[hdT]
  | cons y M=>have:=(hisO y (by rw[hbs];rfl)).2;simp only[hdT];omega
 rw[b1] at hB
 have hB':VY F p (Qa.mk (v:Int) (wo (d:Int) (ofP x (v:Int)).Stops)) d=some (hdT L,e'):=hB;refine ⟨?_,?_,hisO⟩
 ·unfold VH
  simp only[(Qgi (x:=x) (v:Int) hx).1,Option.bind_some,Qfc hF (d:Int) (hs v),hB',oun]
  cases L with
  | nil =>
   rw[b4 rfl rfl,mvR,hbs]
   rfl
  | cons y M =>
   have he':e'=0:=b2.2 (by simp)
   simp only[he',decide_true,Bool.not_true,cond_false]
   rw[Qkn hF hx hs hv (d:Int) (v:Int) hbl,Qfc hF (d:Int) hl]
   simp only[Option.bind_some]
   rw[h.left_sort hl,mvR,hbs]
   rfl
 ·unfold Vd
  rw[Qko hF hx hs hv (d:Int) hvv hbl b1]
  cases L with
  | nil =>
   rw[b4 rfl rfl,mvR,hbs]
   rfl
  | cons y M =>
   have he':e'=0:=b2.2 (by simp)
   rw[if_pos he']
   simp only[Option.bind_some,QD]
   rw[Qkp hl (by omega),mvR,hbs]
   rfl
theorem QoX {p:Pr} {x:Pl} (h:Fe p x) {d v:Nat} (hdd:d<p.Demands.length) (hvv:v<p.Vehicles.length) {y:Op} (hy:IsO p (tO x d v) d y) :
  Fe p (Qa5 p x d v y.tour)∧(Qa5 p x d v y.tour).Tours.Pairwise fun a b=>a.Vehicle<b.Vehicle:=by
 have hyv:y.tour.Vehicle=(v:Int):=by
  obtain ⟨i,_,hi⟩:=hy.cand
  rw[hi];rfl
 have hveh: ∀i:Nat,(stB x d v y.tour i).Vehicle=(i:Int):=fun i=>by
  unfold stB
  by_cases e:(i:Int)=(v:Int)
  ·rw[if_pos e,hyv,e]
  ·rw[if_neg e]
 have hasc:(Qa5 p x d v y.tour).Tours.Pairwise fun a b=>a.Vehicle<b.Vehicle:=by
  refine List.Pairwise.filter _ ?_
  rw[List.pairwise_map]
  exact List.Pairwise.imp (fun h=>by rw[hveh,hveh];omega) List.pairwise_lt_range
 have hcnt: ∀e:Nat,tn (Qa5 p x d v y.tour).Tours e=((List.range p.Vehicles.length).map fun i:Nat=>cn (stB x d v y.tour i).Stops e).sum:=fun e=>by
  show tn (((List.range p.Vehicles.length).map (stB x d v y.tour)).filter Qa8) e=_
  have key: ∀ts:List To,tn (ts.filter Qa8) e=(ts.map fun t=>cn t.Stops e).sum:=by
   intro ts
   induction ts with
   | nil=>rfl
   | cons t ts ih =>
    rw[List.filter_cons]
    by_cases hs:Qa8 t=true
    ·rw[if_pos hs]
     simp only[tn,List.map_cons,List.sum_cons] at ih ⊢
     rw[ih]
    ·rw[if_neg hs,ih]
     have:cn t.Stops e=0:=by
      unfold cn
      rw[List.count_eq_zero]
      intro hm;refine hs ?_;unfold Qa8
      rw[List.any_eq_true]
      exact ⟨_,hm,by simp⟩
     simp[this]
  rw[key,List.map_map]
  rfl
 have hcE: ∀e i:Nat,e≠d→cn (stB x d v y.tour i).Stops e=cn (ofP x (i:Int)).Stops e:=fun e i hed=>by
  have hed':(e:Int)≠(d:Int):=by omega
  unfold stB cn
  by_cases hi:(i:Int)=(v:Int)
  ·rw[if_pos hi]
   obtain ⟨j,_,hj⟩:=hy.cand
   rw[hj,QbL _ _ _ (by omega),if_neg hed']
   show (wo (d:Int) (ofP x (v:Int)).Stops).count (e:Int)+0=_
   rw[Qia _ hed',hi];rfl
  ·rw[if_neg hi]
   exact Qia _ hed'
 have hcD: ∀i:Nat,cn (stB x d v y.tour i).Stops d=if v=i then 1 else 0:=fun i=>by
  unfold stB cn
  by_cases hi:(i:Int)=(v:Int)
  ·rw[if_pos hi,if_pos (by omega)]
   obtain ⟨j,_,hj⟩:=hy.cand
   rw[hj,QbL _ _ _ (by omega),if_pos rfl]
   show (wo (d:Int) (ofP x (v:Int)).Stops).count (d:Int)+1=1
   rw[List.count_eq_zero.2 (QlU _ _)]
  ·rw[if_neg hi,if_neg (by omega)]
   exact List.count_eq_zero.2 (QlU _ _)
 refine ⟨⟨h.ok,h.chk,fun t ht=> ?_,List.Pairwise.imp (fun h=>by omega) hasc,fun e he=>(QhG.1 he).1,fun e he=> ?_⟩,hasc⟩
 ·obtain ⟨h1,h2⟩:=List.mem_filter.1 ht;obtain ⟨i,_,rfl⟩:=List.mem_map.1 h1;unfold stB at h2 ⊢
  by_cases hi:(i:Int)=(v:Int)
  ·rw[if_pos hi];exact hy.ok
  ·rw[if_neg hi] at h2 ⊢
   rcases QgV x (i:Int) with ⟨h3,h4⟩ | h3
   ·have:=h.less (d:=(d:Int)) (by omega) (by omega) h3
    rw[h4] at this
    exact this
   ·rw[h3] at h2
    simp[Qa8,wo] at h2
 ·show tn (Qa5 p x d v y.tour).Tours e+cn (Qf5 p x d) e=1
  rw[hcnt]
  by_cases hed:e=d
  ·subst hed;have e1:((List.range p.Vehicles.length).map fun i:Nat=>cn (stB x e v y.tour i).Stops e)=(List.range p.Vehicles.length).map fun i=>if v=i then 1 else (fun _=>0) i:=List.map_congr_left fun i _=>hcD i
   rw[e1,Qms 1 (fun _=>0) hvv rfl,QkK]
   have:cn (Qf5 p x e) e=0:=by
    unfold cn
    rw[List.count_eq_zero]
    exact fun hm=>(QhG.1 hm).2.1 rfl
   omega
  ·have e1:((List.range p.Vehicles.length).map fun i:Nat=>cn (stB x d v y.tour i).Stops e)=(List.range p.Vehicles.length).map fun i:Nat=>cn (ofP x (i:Int)).Stops e:=List.map_congr_left fun i _=>hcE e i hed
   rw[e1,h.sum]
   have h1:=h.one e he;have h2:cn (Qf5 p x d) e=cn x.Left e:=by
    unfold cn
    rw[←(h.left_perm d).count_eq,Qia _ (by omega)]
   rw[h2];exact h1
end Go.Proofs.YthpgjbbjpfiniaaGreat
namespace Go.Proofs.YthpgjbbjpfiniaaGreat
open Go.RowKit
set_option linter.unusedSimpArgs false
set_option linter.unusedVariables false
theorem Qj2 {p:Pr} (hp:OkP p) {ts:List To} (h:ts.length≤30):0≤Y5 p ts∧Y5 p ts<1000000000000:=by
 have:=Qgw (f:=fun t=>(Yv p t).1) (B:=262400000) (l:=ts) (fun t _=>Qgl hp t);unfold Y5
 omega
def ZY (p:Pr) (y:Pl):Ra:=⟨y,Y5 p y.Tours⟩
structure QkW (p:Pr) (z:Ra):Prop where
 eq:z=ZY p z.plan
 fe:Fe p z.plan
 asc:z.plan.Tours.Pairwise fun a b=>a.Vehicle<b.Vehicle
 tl:z.plan.Tours.length≤p.Vehicles.length
 ll:z.plan.Left.length≤p.Demands.length
theorem Qml {p:Pr} (hp:OkP p) {y:Pl} (h:y.Tours.length≤30):Qbz (ZY p y):=Qj2 hp h
theorem QkW.cost {p:Pr} {z:Ra} (h:QkW p z) (hv:p.Vehicles.length≤30):Qbz z:=by
 rw[h.eq]
 exact Qml h.fe.ok (Nat.le_trans h.tl hv)
def mvs (F:Nat) (p:Pr) (x:Pl) (d v:Nat):Option Ra:=(mvR F p x d v).bind fun y=>if JO (ZY p y)<JO (ZY p x) then some (ZY p y) else none
def Qcd (F:Nat) (p:Pr) (x:Pl) (d:Nat):Nat→List Ra
 | 0=>[]
 | n+1=>Qcd F p x d n++(mvs F p x d n).toList
def Qai (F:Nat) (p:Pr) (x:Pl):Nat→List Ra
 | 0=>[]
 | m+1=>Qai F p x m++Qcd F p x m p.Vehicles.length
theorem QfF (F:Nat) (p:Pr) (x:Pl) (d:Nat): ∀n,(Qcd F p x d n).length≤n
 | 0=>Nat.le_refl _
 | n+1=>by
  have:=QfF F p x d n
  simp only[Qcd,List.length_append]
  cases mvs F p x d n<;>simp<;>omega
theorem Qfk (F:Nat) (p:Pr) (x:Pl): ∀m,(Qai F p x m).length≤m*p.Vehicles.length
 | 0=>by simp[Qai]
 | m+1=>by
  have h1:=Qfk F p x m;have h2:=QfF F p x m p.Vehicles.length
  simp only[Qai,List.length_append,Nat.succ_mul]
  omega
theorem QhW {F:Nat} {p:Pr} {x:Pl} {d:Nat} {z:Ra}: ∀{n:Nat},z∈Qcd F p x d n→ ∃v,v<n∧mvs F p x d v=some z
 | 0,h=>by cases h
 | n+1,h=>by
  rcases List.mem_append.1 h with h | h
  ·obtain ⟨v,h1,h2⟩:=QhW h;exact ⟨v,by omega,h2⟩
  ·refine ⟨n,by omega,?_⟩;cases hm:mvs F p x d n with
   | none=>rw[hm] at h;simp at h
   | some y=>rw[hm] at h;simp at h;rw[h]
theorem Qg2 {F:Nat} {p:Pr} {x:Pl} {z:Ra}: ∀{m:Nat},z∈Qai F p x m→ ∃d v,d<m∧v<p.Vehicles.length∧mvs F p x d v=some z
 | 0,h=>by cases h
 | m+1,h=>by
  rcases List.mem_append.1 h with h | h
  ·obtain ⟨d,v,h1,h2⟩:=Qg2 h;exact ⟨d,v,by omega,h2⟩
  ·obtain ⟨v,h1,h2⟩:=QhW h;exact ⟨m,v,by omega,h1,h2⟩
theorem Qkx {F:Nat} {p:Pr} {x:Pl} {d v:Nat} {z:Ra} (h:mvs F p x d v=some z): ∀{n:Nat},v<n→z∈Qcd F p x d n
 | n+1,hv=>by
  simp only[Qcd,List.mem_append]
  by_cases e:v=n
  ·subst e;right;rw[h];simp
  ·left;exact Qkx h (by omega)
theorem QjP {F:Nat} {p:Pr} {x:Pl} {d v:Nat} {z:Ra} (h:mvs F p x d v=some z) (hv:v<p.Vehicles.length): ∀{m:Nat},d<m→z∈Qai F p x m
 | m+1,hd=>by
  simp only[Qai,List.mem_append]
  by_cases e:d=m
  ·subst e;right;exact Qkx h hv
  ·left;exact QjP h hv (by omega)
structure Cx (F:Nat) (p:Pr) (x:Pl):Prop where
 hF:40000≤F
 hn:p.Road.Edges.length≤600
 hv:p.Vehicles.length≤30
 fe:Fe p x
 tl:x.Tours.length≤30
 ll:x.Left.length≤100
theorem QmX (p:Pr) (x:Pl) (d v:Int) (b:To):(Qa5 p x d v b).Tours.length≤p.Vehicles.length∧(Qa5 p x d v b).Left.length≤p.Demands.length :=
 ⟨Nat.le_trans (List.length_filter_le _ _) (by simp),Nat.le_trans (List.length_filter_le _ _) (by simp)⟩
theorem Qls (L:List Ra) (hl:L.length≤10000):iter (JZ L) (((L.length:Nat):Int).toNat+1) ([],0)=some (L.map Qb.plan):=by
 have:=YE (body:=JZ L) L (fun k=>(L.take k).map Qb.plan) (fun m k=>(m,k)) (fun _ _=>none) (L.map Qb.plan) (by omega) (fun k y hk _=> ?_) (fun _=>by simp[JZ,oun]) (((L.length:Nat):Int).toNat+1) (by simp)
 ·rw[QO _ _ (fun _ _ _=>rfl)] at this
  simpa using this
 ·have h0:=Qr hk;have h1:((k:Int)<((L.length:Nat):Int)):=by omega
  simp only[JZ,oun,h1,decide_true,cond_true,Qq,hk,Option.bind_some]
  rw[Yh (by simp;omega),Yz hk]
  simp[Zj]
section
variable {F:Nat} {p:Pr} {x:Pl} (h:Cx F p x)
include h
theorem Cx.move {d v:Nat} (hd:d<p.Demands.length) (hv:v<p.Vehicles.length):VH F p x d v=some (Qjf (mvR F p x d v))∧Vd F p x d v=some (Qjf (mvR F p x d v))∧ ∀y,mvR F p x d v=some y→QkW p (ZY p y)∧Y4 F p y=some (Y5 p y.Tours,0)∧Yc p y=some (Y5 p y.Tours,0):=by
 have htl:=h.tl;have hll:=h.ll;have hvl:=h.hv;obtain ⟨m1,m2,m3⟩:=QmY h.hF h.hn h.fe (by omega) (by omega) (by omega) hd hv;refine ⟨m1,m2,fun y hy=> ?_⟩;unfold mvR at hy;cases hb:bsO F p x d v with
 | none=>rw[hb] at hy;cases hy
 | some o =>
  rw[hb] at hy
  injection hy with hy
  have hy:Qa5 p x d v o.tour=y:=hy;obtain ⟨q1,q2⟩:=QoX h.fe hd hv (m3 o hb).1
  rw[hy] at q1 q2
  have ⟨l1,l2⟩:=QmX p x d v o.tour
  rw[hy] at l1 l2
  have hdl:=h.fe.ok.dl;have hpl:=Qmk h.hF h.hn h.fe.ok h.fe.chk y (by omega) (by omega) q2 q1.drv q1.lft q1.one;refine ⟨⟨rfl,q1,q2,l1,l2⟩,hpl,?_⟩;obtain ⟨s,e,a1,a2,a3,_⟩:=Qd9 h.hF h.hn y (by omega) (by omega)
  rw[hpl] at a1
  injection a1 with a1
  rw[a3,←a1]
theorem Cx.mvs_ok {d v:Nat} (hd:d<p.Demands.length) (hv:v<p.Vehicles.length) {z:Ra} (hz:mvs F p x d v=some z):QkW p z∧JO z<JO (ZY p x):=by
 obtain ⟨_,_,m3⟩:=h.move hd hv;unfold mvs at hz;cases hm:mvR F p x d v with
 | none=>rw[hm] at hz;cases hz
 | some y =>
  rw[hm] at hz
  simp only[Option.bind_some] at hz
  split at hz
  ·injection hz with hz
   subst hz;exact ⟨(m3 y hm).1,by assumption⟩
  ·cases hz
theorem Cx.all_ok {z:Ra} (hz:z∈Qai F p x p.Demands.length):QkW p z∧JO z<JO (ZY p x):=by
 obtain ⟨d,v,h1,h2,h3⟩:=Qg2 hz;exact h.mvs_ok h1 h2 h3
theorem Cx.part_ok {d n:Nat} (hd:d<p.Demands.length) (hn:n≤p.Vehicles.length) {z:Ra} (hz:z∈Qai F p x d++Qcd F p x d n):QkW p z:=by
 rcases List.mem_append.1 hz with hz | hz
 ·obtain ⟨d',v,h1,h2,h3⟩:=Qg2 hz;exact (h.mvs_ok (by omega) h2 h3).1
 ·obtain ⟨v,h1,h2⟩:=QhW hz;exact (h.mvs_ok hd (by omega) h2).1
theorem Cx.part_len {d n:Nat} (hd:d<p.Demands.length) (hn:n≤p.Vehicles.length):(Qai F p x d++Qcd F p x d n).length≤990:=by
 have h1:=Qfk F p x d;have h2:=QfF F p x d n;have h3:=h.fe.ok.dl;have h4:=h.hv;have:d*p.Vehicles.length≤31*30:=Nat.mul_le_mul (by omega) h4
 simp only[List.length_append]
 omega
theorem Cx.xOk:Qbz (ZY p x):=Qml h.fe.ok h.tl
theorem Cx.y_pro {y:Pl} (hy:QkW p (ZY p y)) (hpl:Y4 F p y=some (Y5 p y.Tours,0)) {q:List Ra} (hq:q.length≤1000) :
  Vh F p x (Y5 p x.Tours) q y=some (q++(if JO (ZY p y)<JO (ZY p x) then some (ZY p y) else none).toList):=by
 unfold Vh Qbh
 rw[hpl]
 obtain ⟨z,hz,hzz⟩:=Qhc (hy.cost h.hv) h.xOk;have hz':QV (Qb.mk y (Y5 p y.Tours)) (Qb.mk x (Y5 p x.Tours))=some z:=hz
 simp only[Option.bind_some,oun,decide_true,cond_true,hz']
 by_cases hlt:JO (ZY p y)<JO (ZY p x)
 ·rw[if_pos hlt,decide_eq_true (hzz.2 hlt)]
  simp only[cond_true]
  rw[Yh (by simp;omega)]
  rfl
 ·rw[if_neg hlt,decide_eq_false (fun hh=>hlt (hzz.1 hh))]
  simp
theorem Cx.row_pro {d:Nat} (hd:d<p.Demands.length) {q:List Ra} (hq:q.length≤960) :
  iter (Zd F p x (Y5 p x.Tours) p x d) (((p.Vehicles.length:Nat):Int).toNat+1) (0,q)=some (q++Qcd F p x d p.Vehicles.length):=by
 have hvl:=h.hv;have:=YE (body:=Zd F p x (Y5 p x.Tours) p x d) p.Vehicles (fun k=>q++Qcd F p x d k) (fun m k=>(k,m)) (fun _ _=>none) (q++Qcd F p x d p.Vehicles.length) (by omega) (fun k y hk _=> ?_) (fun _=>by simp[Zd,oun]) (((p.Vehicles.length:Nat):Int).toNat+1) (by simp)
 ·rw[QO _ _ (fun _ _ _=>rfl)] at this
  simpa [Qcd] using this
 ·have h0:=Qr hk;have h1:((k:Int)<((p.Vehicles.length:Nat):Int)):=by omega
  obtain ⟨m1,_,m3⟩:=h.move hd h0;have hrl:=QfF F p x d k
  simp only[Zd,oun,h1,decide_true,cond_true,m1,Option.bind_some]
  cases hm:mvR F p x d k with
  | none=>simp[Qjf,Zj,Qcd,mvs,hm]
  | some y =>
   obtain ⟨a1,a2,_⟩:=m3 y hm
   simp only[Qjf,cond_true]
   rw[h.y_pro a1 a2 (by simp;omega)]
   simp[Zj,Qcd,mvs,hm]
theorem Cx.all_pro:JT F p x (Y5 p x.Tours) [] p x=some (Qai F p x p.Demands.length):=by
 have hdl:=h.fe.ok.dl;unfold JT;have:=YE (body:=ZW F p x (Y5 p x.Tours) p x) p.Demands (fun k=>Qai F p x k) (fun m k=>(k,m)) (fun _ _=>none) (Qai F p x p.Demands.length) (by omega) (fun k y hk _=> ?_) (fun _=>by simp[ZW,oun]) (((p.Demands.length:Nat):Int).toNat+1) (by simp)
 ·rw[QO _ _ (fun _ _ _=>rfl)] at this
  have e:(Qai F p x 0)=[]:=rfl
  rw[e] at this
  rw[this];rfl
 ·have h0:=Qr hk;have h1:((k:Int)<((p.Demands.length:Nat):Int)):=by omega
  have hl:=Qfk F p x k;have hvl:=h.hv;have:k*p.Vehicles.length≤31*30:=Nat.mul_le_mul (by omega) hvl
  simp only[ZW,oun,h1,decide_true,cond_true]
  rw[h.row_pro h0 (by omega)]
  simp[Zj,Qai]
theorem Cx.total:Y4 F p x=some (Y5 p x.Tours,0)∧QP p x=some 0∧Yc p x=some (Y5 p x.Tours,0):=by
 obtain ⟨s,e,a1,a2,a3,a4⟩:=Qd9 h.hF h.hn x h.tl h.ll;have hbad: ∀(k:Nat) (t:To),x.Tours[k]? =some t→QcL p x.Tours k t=none:=fun k t hk=>by
  obtain ⟨u,hu⟩:=QcP (h.fe.drv t (List.mem_of_getElem? hk));have hany:(x.Tours.take k).any (fun u=>decide (u.Vehicle=t.Vehicle))=false:=by
   rw[List.any_eq_false]
   intro y hy he;obtain ⟨j,hj⟩:=List.getElem?_of_mem hy;have hjk:=Qr hj;have hkl:=Qr hk
   rw[Yi (Nat.le_of_lt hkl)] at hjk
   rw[List.getElem?_take,if_pos hjk] at hj
   have:=List.pairwise_iff_getElem.1 h.fe.dis j k (by omega) hkl hjk
   rw[List.getElem?_eq_getElem (by omega)] at hj hk
   injection hj with hj
   injection hk with hk
   rw[hj,hk,of_decide_eq_true he] at this
   exact this rfl
  unfold QcL
  rw[hany,hu]
  rfl
 have he:e=0:=by
  have hp:=h.fe.ok;have hdl:=hp.dl;have htl:=h.tl;have hll:=h.ll;have hall: ∀t∈x.Tours,(∀s∈t.Stops,okS p.Demands.length s)∧t.Stops.length≤40:=fun t htm=>by
   obtain ⟨u,hu⟩:=QcP (h.fe.drv t htm);exact (Vt hp hu).2.2
  have q1:=Qes h.hF hp x h.tl
  rw[QO _ _ (fun i t hi=>by rw[Nat.zero_add,hbad i t hi];rfl)] at q1
  have q3:=(QcW (n:=p.Demands.length) x (fun _=>0) (by omega) (fun _=>Nat.zero_le _)).1;have q4:=(Qcg (n:=p.Demands.length) x (fun d=>0+cn x.Left d) (by omega) (fun d=>by have:=Qiv x.Left d;omega) (fun t htm=>by have:=(hall t htm).2;omega) (fun t htm=>(hall t htm).1)).1;have hbl:QeP p.Demands.length x.Left=false:=by
   unfold QeP
   rw[List.any_eq_false]
   intro e he;have:=h.fe.lft e he
   simp;omega
  have hv:(vec p.Demands.length fun d=>0+cn x.Left d+tn x.Tours d)=vec p.Demands.length fun _=>1:=QbW fun d hd=>by have:=h.fe.one d hd;omega
  rw[hv] at q4
  rw[hbl] at q3
  have hmem: ∀c∈vec p.Demands.length (fun _=>1),c=(1:Int):=fun c hc=>by
   unfold vec at hc;obtain ⟨j,_,rfl⟩:=List.mem_map.1 hc
   rfl
  have b1:(vec p.Demands.length (fun _=>1)).any (fun c=>decide (1<c))=false:=by
   rw[List.any_eq_false];intro c hc;rw[hmem c hc];decide
  have b2:(vec p.Demands.length (fun _=>1)).any (fun c=>decide (c=0))=false:=by
   rw[List.any_eq_false];intro c hc;rw[hmem c hc];decide
  have hF:=h.hF;unfold Y4 at a1
  rw[Zo (by omega) _ h.hn,h.fe.chk] at a1
  simp only[Option.bind_some,decide_true,Bool.not_true,cond_false] at a1
  rw[q1] at a1
  simp only[Option.bind_some,QD] at a1
  rw[QdW _ (by omega)] at a1
  simp only[Option.bind_some] at a1
  rw[q3] at a1
  simp only[cond_false,Option.bind_some,QD] at a1
  rw[q4] at a1
  simp only[Option.bind_some] at a1
  rw[QgT _ (by rw[VA];omega),QgX _ (by rw[VA];omega),b1,b2] at a1
  simp only[Option.bind_some,cond_false,Option.some.injEq,Prod.mk.injEq] at a1
  exact a1.2.symm
 subst he;have:=(a4 rfl).1;subst this;exact ⟨a1,a2,a3⟩
theorem Cx.pro: ∃L,Jd F p x=some (L.map Qb.plan,0)∧Srt JO L∧YC JO (Qai F p x p.Demands.length) L:=by
 have hdl:=h.fe.ok.dl;have hvl:=h.hv;have hl:=Qfk F p x p.Demands.length;have h9:p.Demands.length*p.Vehicles.length≤32*30:=Nat.mul_le_mul (by omega) hvl;obtain ⟨L,s1,s2,s3⟩:=Qlu (F:=F) (L:=Qai F p x p.Demands.length) (by omega) h.hF (fun z hz=>(h.all_ok hz).1.cost hvl);have hl2:=s3.perm.length_eq;refine ⟨L,?_,s2,s3⟩;unfold Jd Qbh
 rw[h.total.1]
 simp only[Option.bind_some,oun,decide_true,Bool.not_true,cond_false]
 rw[h.all_pro]
 simp only[Option.bind_some]
 rw[s1]
 simp only[Option.bind_some]
 rw[Qls L (by omega)]
 rfl
end
end Go.Proofs.YthpgjbbjpfiniaaGreat
namespace Go.Proofs.YthpgjbbjpfiniaaGreat
open Go.RowKit
set_option linter.unusedSimpArgs false
set_option linter.unusedVariables false
abbrev rpl:Ra→Pl:=Qb.plan
abbrev rco:Ra→Int:=Qb.cost
theorem Qmx (a b c d:Int):ZH a b c d=some (decide (a<c)||(decide (a=c)&&decide (b<d))):=by
 unfold ZH
 by_cases h:a<c
 ·simp[h]
 ·by_cases h2:a=c
  ·subst h2;simp
  ·simp[h,h2]
theorem Qg3 {a b:Ra} (ha:Qbz a) (hb:Qbz b):ZH ((a.plan.Left.length:Nat):Int) a.cost ((b.plan.Left.length:Nat):Int) b.cost=some (decide (JO a<JO b)):=by
 rw[Qmx]
 congr 1
 unfold JO;obtain ⟨a0,a1⟩:=ha;obtain ⟨b0,b1⟩:=hb
 rw[Bool.eq_iff_iff]
 simp only[Bool.or_eq_true,Bool.and_eq_true,decide_eq_true_eq]
 omega
theorem Qn7 {c:Ra} (hc:Qbz c): ∀(n:Nat) (Z R:List Ra) (f:Nat),Z.length=n→n<f→n≤100000→Srt JO Z→(∀z∈Z,Qbz z) →
  ∃Z1 Z2,Z=Z1++Z2∧iter (Zg ((Z++R).map rpl) ((Z++R).map rco) c.plan c.cost) f (n:Int)=some ((Z1.length:Nat):Int)∧(∀z∈Z1,JO z≤JO c)∧ ∀z∈Z2,JO c<JO z
 | _,_,_,0,_,h,_,_,_=>by omega
 | 0,Z,R,f+1,hZ,_,_,_,_=>by
  have:Z=[]:=List.eq_nil_of_length_eq_zero hZ;subst this;exact ⟨[],[],rfl,by simp[iter,Zg,QD],by simp,by simp⟩
 | n+1,Z,R,f+1,hZ,hf,hb,hs,ho=>by
  obtain ⟨Y,y,rfl⟩: ∃Y y,Z=Y++[y]:=by
   have:Z≠[]:=by intro e;rw[e] at hZ;simp at hZ
   exact ⟨Z.dropLast,Z.getLast this,(List.dropLast_concat_getLast this).symm⟩
  have hY:Y.length=n:=by simpa using hZ
  have h0:(0:Int)<((n+1:Nat):Int):=by omega
  have e1:w64 (((n+1:Nat):Int)-1)=(n:Int):=by rw[Ye (by omega) (by omega)];omega
  have g0:(Y++[y]++R)[n]? =some y:=by
   rw[List.append_assoc,List.getElem?_append_right (by omega),hY]
   simp
  have g1:((Y++[y]++R).map rpl)[n]? =some y.plan:=by rw[List.getElem?_map,g0];rfl
  have g2:((Y++[y]++R).map rco)[n]? =some y.cost:=by rw[List.getElem?_map,g0];rfl
  have hp:=List.pairwise_append.1 hs;have hk:=Qg3 hc (ho y (by simp))
  by_cases h:JO c<JO y
  ·obtain ⟨Z1,Z2,k1,k2,k3,k4⟩:=Qn7 hc n Y (y::R) f hY (by omega) (by omega) hp.1 (fun z hz=>ho z (by simp[hz]));refine ⟨Z1,Z2++[y],by rw[k1];simp,?_,k3,fun z hz=> ?_⟩
   ·have e2:Y++[y]++R=Y++y::R:=by simp
    rw[e2] at g1 g2 ⊢
    simp only[iter,Zg,h0,decide_true,cond_true,e1,Qq,g1,g2,Option.bind_some,hk,h,QD,k2]
   ·rcases List.mem_append.1 hz with hz | hz
    ·exact k4 z hz
    ·rw[List.mem_singleton.1 hz];exact h
  ·refine ⟨Y++[y],[],by simp,?_,fun z hz=> ?_,by simp⟩
   ·simp only[iter,Zg,h0,decide_true,cond_true,e1,Qq,g1,g2,Option.bind_some,hk,h,decide_false,cond_false,QD]
    rw[hZ]
   ·rcases List.mem_append.1 hz with hz | hz
    ·have:=hp.2.2 z hz y (by simp)
     omega
    ·rw[List.mem_singleton.1 hz];omega
theorem QnX {α β γ:Type} (f:α→β) (g:α→γ) (Z1 Z2:List α) (x:α) (hl:(Z1++Z2).length≤100000):(Option.bind (Wz ((Z1++Z2).map g) 0 ((Z1.length:Nat):Int)) fun l1 =>
      Option.bind (ZI [] l1) fun l2 =>
      Option.bind (ZI l2 [g x]) fun l3 =>
      Option.bind (Wz ((Z1++Z2).map g) ((Z1.length:Nat):Int) ((((Z1++Z2).map g).length:Nat):Int)) fun l4 =>
      Option.bind (ZI l3 l4) fun l5 =>
      Option.bind (Wz ((Z1++Z2).map f) 0 ((Z1.length:Nat):Int)) fun l6 =>
      Option.bind (ZI [] l6) fun l7 =>
      Option.bind (ZI l7 [f x]) fun l8 =>
      Option.bind (Wz ((Z1++Z2).map f) ((Z1.length:Nat):Int) ((((Z1++Z2).map f).length:Nat):Int)) fun l9 =>
      Option.bind (ZI l8 l9) fun l10 =>
      some (l5,l10))=some ((Z1++x::Z2).map g,(Z1++x::Z2).map f):=by
 simp only[List.length_append] at hl
 rw[VJ (by simp),Qbf (by simp),VJ (by simp),Qbf (by simp)]
 simp only[Option.bind_some]
 rw[Yh (by simp;omega)]
 simp only[Option.bind_some]
 rw[Yh (by simp;omega)]
 simp only[Option.bind_some]
 rw[Yh (by simp;omega)]
 simp only[Option.bind_some]
 rw[Yh (by simp;omega)]
 simp only[Option.bind_some]
 rw[Yh (by simp;omega)]
 simp only[Option.bind_some]
 rw[Yh (by simp;omega)]
 simp[List.map_append]
section
variable {F:Nat} {p:Pr} {x:Pl} (h:Cx F p x)
include h
theorem Cx.empty_total: ∃s e,Yc p ⟨[],[]⟩=some (s,e):=by
 obtain ⟨s,e,_,_,a3,_⟩:=Qd9 h.hF h.hn ⟨[],[]⟩ (by simp) (by simp);exact ⟨s,e,a3⟩
theorem Cx.row_ref {d:Nat} (hd:d<p.Demands.length): ∀(r v:Nat) (L:List Ra) (f:Nat),v+r=p.Vehicles.length→r<f→Srt JO L→YC JO (Qai F p x d++Qcd F p x d v) L →
  ∃L',iter (YI F p x (Y5 p x.Tours) d) f (L.map rpl,L.map rco,(v:Int))=some (L'.map rpl,L'.map rco)∧Srt JO L'∧YC JO (Qai F p x d++Qcd F p x d p.Vehicles.length) L'
 | _,_,_,0,_,hf,_,_=>by omega
 | 0,v,L,f+1,hv,_,h1,h2=>by
  have hv:v=p.Vehicles.length:=by omega
  subst hv;refine ⟨L,?_,h1,h2⟩
  simp only[iter,YI,oun,Int.lt_irrefl,decide_false,cond_false,Option.bind_some,QD]
 | r+1,v,L,f+1,hv,hf,h1,h2=>by
  have hvv:v<p.Vehicles.length:=by omega
  have hvl:=h.hv;have hlt:((v:Int)<((p.Vehicles.length:Nat):Int)):=by omega
  have e2:w64 ((v:Int)+1)=((v+1:Nat):Int):=by rw[Ye (by omega) (by omega)];omega
  obtain ⟨_,m2,m3⟩:=h.move hd hvv;have hlen:L.length≤990:=by
   rw[←h2.perm.length_eq]
   exact h.part_len hd (by omega)
  have hok: ∀z∈L,Qbz z:=fun z hz=>(h.part_ok hd (show v≤p.Vehicles.length by omega) (h2.perm.symm.subset hz)).cost hvl;have keep:mvs F p x d v=none→YC JO (Qai F p x d++Qcd F p x d (v+1)) L:=fun hm=>by
   simp only[Qcd,hm,Option.toList_none,List.append_nil]
   exact h2
  cases hm:mvR F p x d v with
  | none =>
   obtain ⟨s,e,ht⟩:=h.empty_total;obtain ⟨L',q1,q2,q3⟩:=Cx.row_ref hd r (v+1) L f (by omega) (by omega) h1 (keep (by unfold mvs;rw[hm];rfl));refine ⟨L',?_,q2,q3⟩
   rw[hm] at m2
   simp only[iter,YI,oun,hlt,decide_true,cond_true,m2,Qjf,Option.bind_some,ht,Bool.not_false,e2,QD,q1]
  | some y =>
   obtain ⟨a1,a2,a3⟩:=m3 y hm
   rw[hm] at m2
   have hyc:=a1.cost hvl;have hb:ZH ((y.Left.length:Nat):Int) (Y5 p y.Tours) ((x.Left.length:Nat):Int) (Y5 p x.Tours)=some (decide (JO (ZY p y)<JO (ZY p x))):=Qg3 hyc h.xOk
   by_cases hlt2:JO (ZY p y)<JO (ZY p x)
   ·have hms:mvs F p x d v=some (ZY p y):=by unfold mvs;rw[hm];simp only[Option.bind_some];rw[if_pos hlt2]
    have hF:=h.hF;obtain ⟨Z1,Z2,k1,k2,k3,k4⟩:=Qn7 (c:=ZY p y) hyc L.length L [] F rfl (by omega) (by omega) h1 hok
    rw[List.append_nil] at k2
    obtain ⟨j1,j2⟩:=Qfv (k:=JO) (x:=ZY p y) (by rw[←k1];exact h1) k4 k3
    rw[←k1] at j2
    have h3:YC JO (Qai F p x d++Qcd F p x d (v+1)) (Z1++ZY p y::Z2):=by
     simp only[Qcd,hms,Option.toList_some]
     rw[←List.append_assoc]
     exact YC.trans (h2.append (YC.refl _)) j2
    obtain ⟨L',q1,q2,q3⟩:=Cx.row_ref hd r (v+1) (Z1++ZY p y::Z2) f (by omega) (by omega) j1 h3;refine ⟨L',?_,q2,q3⟩;have hmi:=QnX rco rpl Z1 Z2 (ZY p y) (by rw[←k1];omega)
    rw[←k1] at hmi
    have hmi':=hmi
    rw[List.length_map,List.length_map] at hmi'
    have k2':iter (Zg (L.map rpl) (L.map rco) y (Y5 p y.Tours)) F ((L.length:Nat):Int)=some ((Z1.length:Nat):Int):=k2
    simp only[iter,YI,oun,hlt,decide_true,cond_true,m2,Qjf,Option.bind_some,a3,Bool.not_true,cond_false,hb,hlt2,List.length_map,k2']
    have hmi2:_=_:=hmi'
    rw[show rpl (ZY p y)=y from rfl,show rco (ZY p y)=Y5 p y.Tours from rfl] at hmi2
    rw[hmi2]
    simp only[Option.bind_some,e2,QD,q1]
   ·have hms:mvs F p x d v=none:=by unfold mvs;rw[hm];simp only[Option.bind_some];rw[if_neg hlt2]
    obtain ⟨L',q1,q2,q3⟩:=Cx.row_ref hd r (v+1) L f (by omega) (by omega) h1 (keep hms);refine ⟨L',?_,q2,q3⟩
    simp only[iter,YI,oun,hlt,decide_true,cond_true,m2,Qjf,Option.bind_some,a3,Bool.not_true,cond_false,hb,hlt2,decide_false,Bool.not_false,e2,QD,q1]
theorem Cx.all_ref: ∀(r d:Nat) (L:List Ra) (f:Nat),d+r=p.Demands.length→r<f→Srt JO L→YC JO (Qai F p x d) L →
  ∃L',iter (Zh F p x (Y5 p x.Tours)) f (L.map rpl,L.map rco,(d:Int))=some (L'.map rpl)∧Srt JO L'∧YC JO (Qai F p x p.Demands.length) L'
 | _,_,_,0,_,hf,_,_=>by omega
 | 0,d,L,f+1,hd,_,h1,h2=>by
  have hd:d=p.Demands.length:=by omega
  subst hd;refine ⟨L,?_,h1,h2⟩
  simp only[iter,Zh,oun,Int.lt_irrefl,decide_false,cond_false,Option.bind_some,QD]
 | r+1,d,L,f+1,hd,hf,h1,h2=>by
  have hdd:d<p.Demands.length:=by omega
  have hdl:=h.fe.ok.dl;have hlt:((d:Int)<((p.Demands.length:Nat):Int)):=by omega
  have e2:w64 ((d:Int)+1)=((d+1:Nat):Int):=by rw[Ye (by omega) (by omega)];omega
  obtain ⟨M,q1,q2,q3⟩:=h.row_ref hdd p.Vehicles.length 0 L (((p.Vehicles.length:Nat):Int).toNat+1) (by omega) (by simp) h1 (by simpa [Qcd] using h2);obtain ⟨L',g1,g2,g3⟩:=Cx.all_ref r (d+1) M f (by omega) (by omega) q2 q3;refine ⟨L',?_,g2,g3⟩;have q1':iter (YI F p x (Y5 p x.Tours) d) (((p.Vehicles.length:Nat):Int).toNat+1) (L.map rpl,L.map rco,0)=some (M.map rpl,M.map rco):=q1;have hb:Zh F p x (Y5 p x.Tours) (L.map rpl,L.map rco,(d:Int))=some (.inl (M.map rpl,M.map rco,((d+1:Nat):Int))):=by
   unfold Zh
   simp only[oun,hlt,decide_true,cond_true]
   rw[q1']
   simp only[Option.bind_some,e2]
  simp only[iter,hb,Option.bind_some,QD,g1]
theorem Cx.both: ∃L,Jd F p x=some (L.map rpl,0)∧Qbu F p x=some (L.map rpl,0)∧Srt JO L∧YC JO (Qai F p x p.Demands.length) L:=by
 obtain ⟨L,h1,h2,h3⟩:=h.pro;obtain ⟨L',g1,g2,g3⟩:=h.all_ref p.Demands.length 0 [] (((p.Demands.length:Nat):Int).toNat+1) (by omega) (by simp) List.Pairwise.nil (YC.refl _);have:L=L':=Srt.unique h2 g2 (h3.symm.trans g3);subst this;refine ⟨L,h1,?_,h2,h3⟩;unfold Qbu
 rw[h.total.2.1,h.total.2.2]
 simp only[Option.bind_some,oun,decide_true,Bool.not_true,cond_false]
 have g1':iter (Zh F p x (Y5 p x.Tours)) (((p.Demands.length:Nat):Int).toNat+1) ([],[],0)=some (L.map rpl):=g1
 rw[g1']
 rfl
end
end Go.Proofs.YthpgjbbjpfiniaaGreat
namespace Go.Proofs.YthpgjbbjpfiniaaGreat
open Go.RowKit
set_option linter.unusedSimpArgs false
set_option linter.unusedVariables false
theorem Cx.next {F:Nat} {p:Pr} {x:Pl} (h:Cx F p x) {z:Ra} (hz:z∈Qai F p x p.Demands.length):Cx F p z.plan∧z=ZY p z.plan∧JO z<JO (ZY p x):=by
 obtain ⟨h1,h2⟩:=h.all_ok hz;have h3:=h1.tl;have h4:=h1.ll;have h5:=h.hv;have h6:=h.fe.ok.dl;exact ⟨⟨h.hF,h.hn,h.hv,h1.fe,by omega,by omega⟩,h1.eq,h2⟩
theorem Qn9 {F:Nat} (hF:40000≤F) {p:Pr} (hn:p.Road.Edges.length≤600) (hv:p.Vehicles.length≤30) (hp:OkP p) (hc:Ql p=some 0):Cx F p (QbG F p):=by
 have h1:=Qoa hF hn hv hp hc;have hi:=Qeu hF hp hn p.Demands.length;have hl1:=Qex (Qcl F p p.Demands.length).1;have hl2:=hi.len;have hl3:=hi.ll;have hdl:=hp.dl;have ht:(QbG F p).Tours.length≤30:=by show (QaY (Qcl F p p.Demands.length).1).length≤30;omega
 have hl:(QbG F p).Left.length≤100:=by show ((Qcl F p p.Demands.length).2).length≤100;omega
 obtain ⟨s,e,a1,_,_,a4⟩:=Qd9 hF hn (QbG F p) ht hl
 rw[h1] at a1
 injection a1 with a1
 injection a1 with a2 a3
 exact ⟨hF,hn,hv,(a4 a3.symm).2,ht,hl⟩
theorem QdG (x:Pl) (h1:x.Tours.length≤1000000) (h2: ∀t∈x.Tours,t.Stops.length≤1000000) (h3:x.Left.length≤1000000):Ys x x=some true:=by
 unfold Ys
 rw[Qk0 _ h1 h2,Qir _ h3]
 rfl
theorem Cx.same {F:Nat} {p:Pr} {x:Pl} (h:Cx F p x):Ys x x=some true:=by
 have h1:=h.tl;have h2:=h.ll;exact QdG x (by omega) (fun t ht=>by have:=(h.fe.tour ht).2.2.1;omega) (by omega)
theorem Qi4 (p:Pr) (x:Pl):(∃b,YO p x=some b)∧(YO p x=some false→p.Road.Edges.length≤100∧p.Vehicles.length≤4∧p.Demands.length≤8∧x.Tours.length≤8∧x.Left.length≤100):=by
 obtain ⟨⟨b,hb⟩,hl⟩:=QkU p;obtain ⟨⟨b2,hb2⟩,hl2⟩:=QgZ x;unfold YO
 rw[hb,hb2]
 cases b with
 | true=>exact ⟨⟨true,rfl⟩,fun e=>by cases e⟩
 | false =>
  cases b2 with
  | true=>exact ⟨⟨true,rfl⟩,fun e=>by cases e⟩
  | false =>
   obtain ⟨g2,g3⟩:=hl2 hb2
   simp only[Option.bind_some,cond_false]
   by_cases h1:(100:Int)<((p.Road.Edges.length:Nat):Int)
   ·simp only[h1,decide_true,cond_true,Option.bind_some]
    exact ⟨⟨true,rfl⟩,fun e=>by cases e⟩
   by_cases h2:(4:Int)<((p.Vehicles.length:Nat):Int)
   ·simp only[h1,h2,decide_true,decide_false,cond_true,cond_false,Option.bind_some]
    exact ⟨⟨true,rfl⟩,fun e=>by cases e⟩
   by_cases h3:(8:Int)<((p.Demands.length:Nat):Int)
   ·simp only[h1,h2,h3,decide_true,decide_false,cond_true,cond_false,Option.bind_some]
    exact ⟨⟨true,rfl⟩,fun e=>by cases e⟩
   by_cases h4:(8:Int)<((x.Tours.length:Nat):Int)
   ·simp only[h1,h2,h3,h4,decide_true,decide_false,cond_true,cond_false,Option.bind_some]
    exact ⟨⟨true,rfl⟩,fun e=>by cases e⟩
   simp only[h1,h2,h3,h4,decide_false,cond_false,Option.bind_some]
   obtain ⟨o,ho⟩:=Qba (body:=Z6 x) (N:=x.Tours.length) (by omega) (fun k hk=>by
    obtain ⟨t,ht⟩: ∃t,x.Tours[k]? =some t:=⟨_,List.getElem?_eq_getElem hk⟩
    have hk2:((k:Int)<((x.Tours.length:Nat):Int)):=by omega
    simp only[Z6,hk2,decide_true,cond_true,Qq,ht,Option.bind_some,J9 (show k<9223372036854775807 by omega)]
    cases decide ((16:Int)<((t.Stops.length:Nat):Int)) with
    | true=>exact .inl ⟨_,rfl⟩
    | false=>exact .inr rfl) ⟨_,by simp[Z6];rfl⟩ x.Tours.length 0 (by omega)
   refine ⟨?_,fun _=>by omega⟩
   rw[show (((x.Tours.length:Nat):Int).toNat+1)=x.Tours.length+1 by simp,show (0:Int)=((0:Nat):Int) from rfl,ho]
   cases o with
   | inl u=>exact ⟨false,rfl⟩
   | inr b=>exact ⟨b,rfl⟩
structure Lt (p:Pr) (x:Pl):Prop where
 ed:p.Road.Edges.length≤600
 ve:p.Vehicles.length≤4
 de:p.Demands.length≤8
 to:x.Tours.length≤8
 le:x.Left.length≤100
theorem QoJ (p:Pr) (x:Pl):YO p x=some true∨(YO p x=some false∧Lt p x):=by
 obtain ⟨⟨b,hb⟩,hl⟩:=Qi4 p x;cases b with
 | true=>exact .inl hb
 | false =>
  obtain ⟨h1,h2,h3,h4,h5⟩:=hl hb;exact .inr ⟨hb,⟨by omega,h2,h3,h4,h5⟩⟩
end Go.Proofs.YthpgjbbjpfiniaaGreat
namespace Go.Proofs.YthpgjbbjpfiniaaGreat
open Go.RowKit
set_option linter.unusedSimpArgs false
set_option linter.unusedVariables false
abbrev Rn:=QI
theorem QhU {body:Int→Option (Int⊕(Unit⊕Bool))} {a b:List Rn} (hl:a.length=b.length) (hn:a.length≤1000000) (hb: ∀k,body k=bif decide (k<((a.length:Nat):Int)) then Option.bind (getI a k) fun x1=>Option.bind (getI b k) fun x2=>bif (!(decide (x1=x2))) then some (.inr (.inr false)) else some (.inl (w64 (k+1))) else some (.inr (.inl ()))): ∀(r k f:Nat),k+r=a.length→r<f→a.take k=b.take k →
  iter body f (k:Int)=some (if a=b then .inl () else .inr false)
 | _,_,0,_,h,_=>by omega
 | 0,k,f+1,hk,_,ht=>by
  have h1: ¬((k:Int)<((a.length:Nat):Int)):=by omega
  have:a=b:=by
   have h2:a.take k=a:=List.take_of_length_le (by omega);have h3:b.take k=b:=List.take_of_length_le (by omega)
   rw[h2,h3] at ht;exact ht
  simp only[iter,hb,h1,decide_false,cond_false,Option.bind_some,QD]
  rw[if_pos this]
 | r+1,k,f+1,hk,hf,ht=>by
  have h1:((k:Int)<((a.length:Nat):Int)):=by omega
  have ga:a[k]? =some a[k]:=List.getElem?_eq_getElem (by omega);have gb:b[k]? =some b[k]:=List.getElem?_eq_getElem (by omega);have e1:w64 ((k:Int)+1)=((k+1:Nat):Int):=by rw[Ye (by omega) (by omega)];omega
  by_cases h:a[k]=b[k]
  ·have ih:=QhU hl hn hb r (k+1) f (by omega) (by omega) (by rw[Yz ga,Yz gb,ht,h])
   simp only[iter]
   rw[hb]
   simp only[h1,decide_true,cond_true,Qq,ga,gb,Option.bind_some,h,Bool.not_true,cond_false,QD,e1]
   exact ih
  ·have:a≠b:=by intro e;subst e;exact h rfl
   simp only[iter]
   rw[hb]
   simp only[h1,decide_true,cond_true,Qq,ga,gb,Option.bind_some,h,decide_false,Bool.not_false,cond_true,QD]
   rw[if_neg this]
theorem Qoo {a b:List Rn} (hn:a.length≤1000000):Yd a b=some (decide (a=b))∧QbI a b=some (decide (a=b)):=by
 unfold Yd QbI
 by_cases hl:a.length=b.length
 ·have h1:=QhU (body:=JW a b) hl hn (fun k=>rfl) a.length 0 (((a.length:Nat):Int).toNat+1) (by omega) (by simp) (by simp);have h2:=QhU (body:=QaW a b) hl hn (fun k=>rfl) a.length 0 (((a.length:Nat):Int).toNat+1) (by omega) (by simp) (by simp);have hl':(((a.length:Nat):Int)=((b.length:Nat):Int)):=by omega
  simp only[hl',decide_true,Bool.not_true,cond_false]
  rw[←hl',show (0:Int)=((0:Nat):Int) from rfl,h1,h2]
  by_cases h:a=b
  ·simp[h,QD]
  ·simp[h,QD]
 ·have hl': ¬(((a.length:Nat):Int)=((b.length:Nat):Int)):=by omega
  have:a≠b:=by intro e;subst e;exact hl rfl
  simp[hl',this]
def QbJ (p:Pr) (d v:Nat):Int:=(Qch p ⟨(v:Int),[(d:Int),-1]⟩).2.1
structure Rs (F:Nat) (p:Pr) (x:Pl) (d v:Nat) (r:Int) (ve:Ve) (de:De) (car:Bool) (L:List Op):Prop where
 hv:p.Vehicles[v]? =some ve
 hd:p.Demands[d]? =some de
 hc:Zp ve de.Kind=some car
 ops:ZJ F p (ofP x v) d=some (L.map ZR,0)
 bst: ∃e,VY F p (ofP x v) d=some (hdT L,e)∧(e=0↔L≠[])
 hdO:bsO F p x d v=L.head?
 cb:car=Qg9 ve de.Kind
 eq:r=bif !car then 21 else bif decide (ve.Grams<de.Grams) then 20 else bif !(decide (QbJ p d v=0)) then QbJ p d v else bif decide ((((L.map ZR).length:Nat):Int)=0) then 40 else 0
section
variable {F:Nat} {p:Pr} {x:Pl} (h:Cx F p x)
include h
theorem Cx.not_in {d:Nat} (hd:(d:Int)∈x.Left) (v:Int):(d:Int)∉(ofP x v).Stops:=by
 have h1:=h.fe.lft _ hd;have h2:=h.fe.one d (by omega);have h3:0<cn x.Left d:=List.count_pos_iff.2 hd;rcases QgV x v with ⟨h4,_⟩ | h4
 ·have h5:=Qpo h4 d;intro hm;have h6:0<cn (ofP x v).Stops d:=List.count_pos_iff.2 hm
  omega
 ·rw[h4];simp
theorem Cx.tO_self {d:Nat} (hd:(d:Int)∈x.Left) (v:Int):tO x (d:Int) v=ofP x v:=by
 unfold tO
 rw[QfP (fun y hy=>by
  simp only[decide_eq_false_iff_not]
  intro e
  rw[e] at hy
  exact h.not_in hd v hy)]
 have:=Qmj x v;cases hq:ofP x v with
 | mk a b=>rw[hq] at this;simp only at this ⊢;rw[this]
theorem Cx.reason {d v:Nat} (hd:(d:Int)∈x.Left) (hv:v<p.Vehicles.length): ∃r ve de car L,Yk F p x d v=some r∧WQ F p x d v=some r∧Rs F p x d v r ve de car L:=by
 have hF:=h.hF;have htl:=h.tl;have hdd:=h.fe.lft _ hd;have hdl:d<p.Demands.length:=by omega
 have g1:p.Vehicles[v]? =some p.Vehicles[v]:=List.getElem?_eq_getElem hv;have g2:p.Demands[d]? =some p.Demands[d]:=List.getElem?_eq_getElem hdl;have hvk:=h.fe.ok.ve _ (List.mem_of_getElem? g1);have hdk:=h.fe.ok.de _ (List.mem_of_getElem? g2);obtain ⟨c1,c2⟩:=QeM hvk hdk.k0 hdk.k1;have hs:(ofP x (v:Int)).Stops.length≤1000:=by have:=h.fe.of_len v;omega
 obtain ⟨L,e,o1,o2,o3,o4⟩:=QaT hF p h.hn (ofP x v) hs d;have hbad:Qi9 p (ofP x v) d=false:=by
  unfold Qi9
  rw[Qmj]
  simp;omega
 have he:=o4 h.fe.chk hbad
 rw[show decide ((d:Int)∈(ofP x (v:Int)).Stops)=false from decide_eq_false (h.not_in hd v)] at he
 have he:e=0:=he;subst he;obtain ⟨b1,b2⟩:=Qg0 hF p h.hn (ofP x v) hs d;obtain ⟨e',k1,k2,_⟩:=Qi3 o2 o3;have hbs:bsO F p x d v=L.head? :=by
  unfold bsO VR
  rw[h.tO_self hd,o1]
  cases L<;>rfl
 refine ⟨_,p.Vehicles[v],p.Demands[d],Qg9 p.Vehicles[v] p.Demands[d].Kind,L,?_,?_,⟨g1,g2,c1,by rw[b1,o2],⟨e',by rw[b2,k1],k2⟩,hbs,rfl,rfl⟩⟩
 ·unfold Yk
  rw[Qq,Qq,g1,g2]
  simp only[Option.bind_some,c1]
  rw[Qi8 hF h.fe.ok h.fe.chk h.hn,(Qgi (x:=x) (v:Int) (by omega)).1]
  simp only[Option.bind_some,oun,b1,o2]
  cases Qg9 p.Vehicles[v] p.Demands[d].Kind with
  | false=>rfl
  | true =>
   simp only[Bool.not_true,cond_false]
   cases decide (p.Vehicles[v].Grams<p.Demands[d].Grams) with
   | true=>rfl
   | false =>
    simp only[cond_false]
    show (bif !(decide (QbJ p d v=0)) then some (QbJ p d v) else _)=_
    cases decide (QbJ p d v=0) with
    | false=>rfl
    | true =>
     simp only[Bool.not_true,cond_false,decide_true]
     cases decide ((((L.map ZR).length:Nat):Int)=0)<;>rfl
 ·unfold WQ
  rw[Qq,Qq,g1,g2]
  simp only[Option.bind_some,c2]
  rw[QhR h.fe.ok h.fe.chk,(Qgi (x:=x) (v:Int) (by omega)).2]
  simp only[Option.bind_some,oun,o2]
  cases Qg9 p.Vehicles[v] p.Demands[d].Kind with
  | false=>rfl
  | true =>
   simp only[Bool.not_true,cond_false]
   cases decide (p.Vehicles[v].Grams<p.Demands[d].Grams) with
   | true=>rfl
   | false =>
    simp only[cond_false]
    show (bif !(decide (QbJ p d v=0)) then some (QbJ p d v) else _)=_
    cases decide (QbJ p d v=0) with
    | false=>rfl
    | true =>
     simp only[Bool.not_true,cond_false]
     cases decide ((((L.map ZR).length:Nat):Int)=0)<;>rfl
def rsn (F:Nat) (p:Pr) (x:Pl) (d v:Nat):Int:=(Yk F p x d v).getD 0
theorem Cx.rsn_at {d v:Nat} (hd:(d:Int)∈x.Left) (hv:v<p.Vehicles.length):Yk F p x d v=some (rsn F p x d v)∧WQ F p x d v=some (rsn F p x d v)∧ ∃ve de car L,Rs F p x d v (rsn F p x d v) ve de car L:=by
 obtain ⟨r,ve,de,car,L,h1,h2,h3⟩:=h.reason hd hv;have:rsn F p x d v=r:=by unfold rsn;rw[h1];rfl
 rw[this]
 exact ⟨h1,h2,ve,de,car,L,h3⟩
end
def rsL (F:Nat) (p:Pr) (x:Pl) (d:Nat) (n:Nat):List Rn:=(List.range n).map fun v:Nat=>⟨(v:Int),rsn F p x d v⟩
theorem Qds (F:Nat) (p:Pr) (x:Pl) (d n:Nat):(rsL F p x d n).length=n:=by simp[rsL]
theorem Qo9 (F:Nat) (p:Pr) (x:Pl) (d:Nat) {n v:Nat} (hv:v<n):(rsL F p x d n)[v]? =some ⟨(v:Int),rsn F p x d v⟩:=by simp[rsL,hv]
theorem Qop (F:Nat) (p:Pr) (x:Pl) (d n:Nat):rsL F p x d (n+1)=rsL F p x d n++[⟨(n:Int),rsn F p x d n⟩]:=by simp[rsL,List.range_succ]
theorem QkQ {F:Nat} {p:Pr} {x:Pl} {d:Nat} {body:List Rn×Int→Option ((List Rn×Int)⊕List Rn)} {rf:Int→Option Int} (hV:p.Vehicles.length≤1000) (hb: ∀q:List Rn×Int,body q=bif decide (q.2<((p.Vehicles.length:Nat):Int)) then Option.bind (rf q.2) fun r3=>Option.bind (ZI q.1 [⟨q.2,r3⟩]) fun l1=>some (.inl (l1,w64 (q.2+1))) else some (.inr q.1))
  (hr: ∀v:Nat,v<p.Vehicles.length→rf v=some (rsn F p x d v)):iter body (((p.Vehicles.length:Nat):Int).toNat+1) ([],0)=some (rsL F p x d p.Vehicles.length):=by
 have:=YE (body:=body) p.Vehicles (fun k=>rsL F p x d k) (fun m k=>(m,k)) (fun _ _=>none) (rsL F p x d p.Vehicles.length) (by omega) (fun k y hk _=> ?_) (fun _=>by rw[hb];simp) (((p.Vehicles.length:Nat):Int).toNat+1) (by simp)
 ·rw[QO _ _ (fun _ _ _=>rfl)] at this
  exact this
 ·have h0:=Qr hk;have h1:((k:Int)<((p.Vehicles.length:Nat):Int)):=by omega
  have h2:=Qds F p x d k
  rw[hb]
  simp only[h1,decide_true,cond_true,hr k h0,Option.bind_some]
  rw[Yh (by simp;omega),Qop]
  rfl
theorem Qmw {F:Nat} (hF:40000≤F) {p:Pr} (hn:p.Road.Edges.length≤600) (hv:p.Vehicles.length≤30) (x:Pl) (hx:x.Tours.length≤30) (hl:x.Left.length≤100) (d:Int) :
  ∃R e,JQ F p x d=some (R,e)∧Qcb F p x d=some (R,e)∧R.length≤30∧((e≠0∧R=[])∨(e=0∧Cx F p x∧ ∃n:Nat,d=(n:Int)∧d∈x.Left∧n<p.Demands.length∧R=rsL F p x n p.Vehicles.length))∧(d∈x.Left→ZN F p x=some 0→e=0):=by
 obtain ⟨s,e,a1,a2,a3,a4⟩:=Qd9 hF hn x hx hl;have hfe:ZN F p x=some e:=by unfold ZN;rw[a1];rfl
 unfold JQ Qcb
 rw[hfe,a2]
 by_cases he:e=0
 ·have hc:Cx F p x:=⟨hF,hn,hv,(a4 he).2,hx,hl⟩
  subst he
  simp only[Option.bind_some,decide_true,Bool.not_true,cond_false]
  by_cases h1:d<0
  ·simp only[h1,decide_true,cond_true,Option.bind_some]
   exact ⟨[],7,rfl,rfl,by simp,.inl ⟨by decide,rfl⟩,fun hm _=>by have:=hc.fe.lft _ hm;omega⟩
  by_cases h2:((p.Demands.length:Nat):Int)≤d
  ·simp only[h1,h2,decide_true,decide_false,cond_true,cond_false,Option.bind_some]
   exact ⟨[],7,rfl,rfl,by simp,.inl ⟨by decide,rfl⟩,fun hm _=>by have:=hc.fe.lft _ hm;omega⟩
  simp only[h1,h2,decide_false,cond_false,Option.bind_some]
  rw[QnL d (by omega),Qco _ (by omega)]
  simp only[Option.bind_some]
  by_cases h3:d∈x.Left
  ·obtain ⟨n,rfl⟩: ∃n:Nat,d=(n:Int):=⟨d.toNat,by omega⟩
   simp only[h3,decide_true,Bool.not_true,cond_false]
   have q1:=QkQ (F:=F) (p:=p) (x:=x) (d:=n) (body:=QbB F p x n) (rf:=Yk F p x n) (by omega) (fun q=>rfl) (fun v hv=>(hc.rsn_at h3 hv).1);have q2:=QkQ (F:=F) (p:=p) (x:=x) (d:=n) (body:=Qa7 F p x n) (rf:=WQ F p x n) (by omega) (fun q=>rfl) (fun v hv=>(hc.rsn_at h3 hv).2.1)
   rw[q1,q2]
   exact ⟨_,0,rfl,rfl,by rw[Qds];exact hv,.inr ⟨rfl,hc,n,rfl,by first | exact h3 | trivial,by omega,rfl⟩,fun _ _=>rfl⟩
  ·simp only[h3,decide_false,Bool.not_false,cond_true]
   exact ⟨[],13,rfl,rfl,by simp,.inl ⟨by decide,rfl⟩,fun hm _=>by first | exact absurd hm h3 | exact hm.elim⟩
 ·simp only[Option.bind_some,he,decide_false,Bool.not_false,cond_true]
  exact ⟨[],e,rfl,rfl,by simp,.inl ⟨he,rfl⟩,fun _ h=>by first | (injection h;done) | (injection h with h;exact h)⟩
end Go.Proofs.YthpgjbbjpfiniaaGreat
namespace Go.Proofs.YthpgjbbjpfiniaaGreat
open Go.RowKit
set_option linter.unusedSimpArgs false
set_option linter.unusedVariables false
def exD:Pr:=⟨⟨2,[⟨0,1,500,60⟩,⟨1,0,500,60⟩]⟩,[⟨⟨#[118]⟩,0,⟨1000,2000⟩,1000,1⟩],[⟨0,1,0,300,⟨1100,1200⟩,30⟩],0,20⟩
def exE:Pr:=⟨⟨2,[⟨0,1,500,60⟩,⟨1,0,500,60⟩]⟩,[⟨⟨#[118]⟩,0,⟨1000,2000⟩,299,1⟩],[⟨0,1,0,300,⟨1100,1200⟩,30⟩],0,20⟩
theorem Qie:Ql exD=some 0:=by decide +kernel
theorem Qnw:Ql exE=some 0:=by decide +kernel
theorem Qlo:OkP exD:=OkP.of (by decide) Qie
theorem Qp4:OkP exE:=OkP.of (by decide) Qnw
theorem Qfm {p:Pr} (hp:OkP p) (hc:Ql p=some 0) {t:Qa} {c:Int×Int} (h:YD p t=some c):Yv p t=c:=by
 rw[Qeb hp hc t] at h
 injection h
theorem Qj0:Yv exD ⟨0,[0,-1]⟩=(1000,0):=Qfm Qlo Qie (by decide +kernel)
theorem Qnz:Yv exD ⟨0,[0,-1,-1]⟩=(1000,0):=Qfm Qlo Qie (by decide +kernel)
theorem QnA:Yv exD ⟨0,[-1,0,-1]⟩=(1000,0):=Qfm Qlo Qie (by decide +kernel)
theorem QqJ:Yv exE ⟨0,[0,-1]⟩=(0,20):=Qfm Qp4 Qnw (by decide +kernel)
theorem Qhj {F:Nat} (hF:40000≤F):QN F exD ⟨0,[]⟩ 0=some ([⟨⟨0,[0,-1]⟩,1000⟩],0):=by
 obtain ⟨L,h1,h2⟩:=Qd4 hF (p:=exD) (by decide) (t:=⟨0,[]⟩) (by decide) (d:=0) Qie (by decide) (by decide);have hf:QbN exD ((Qa2 [] 0).map (toT 0))=[⟨⟨0,[0,-1]⟩,1000⟩]:=by
  rw[show Qa2 [] 0=[[0,-1]] by decide]
  simp[QbN,Qf8,toT,Qj0]
 have h3:=h2.stab
 simp only at h3
 rw[hf] at h3
 have:=h3.perm.symm.eq_singleton
 rw[this] at h1
 exact h1
theorem Qj7 {F:Nat} (hF:40000≤F):QN F exE ⟨0,[]⟩ 0=some ([],0):=by
 obtain ⟨L,h1,h2⟩:=Qd4 hF (p:=exE) (by decide) (t:=⟨0,[]⟩) (by decide) (d:=0) Qnw (by decide) (by decide);have hf:QbN exE ((Qa2 [] 0).map (toT 0))=[]:=by
  rw[show Qa2 [] 0=[[0,-1]] by decide]
  simp[QbN,Qf8,toT,QqJ]
 have h3:=h2.stab
 simp only at h3
 rw[hf] at h3
 have:=h3.perm.symm.eq_nil
 rw[this] at h1
 exact h1
theorem QmI {F:Nat} (hF:40000≤F): ∃L,QN F exD ⟨0,[-1]⟩ 0=some (L,0)∧ ∀y∈L,y.tour=⟨0,[0,-1]⟩∨y.tour=⟨0,[0,-1,-1]⟩∨y.tour=⟨0,[-1,0,-1]⟩:=by
 obtain ⟨L,h1,h2⟩:=Qd4 hF (p:=exD) (by decide) (t:=⟨0,[-1]⟩) (by decide) (d:=0) Qie (by decide) (by decide);refine ⟨L,h1,fun y hy=> ?_⟩;have hf:QbN exD ((Qa2 [-1] 0).map (toT 0))=[⟨⟨0,[0,-1]⟩,1000⟩,⟨⟨0,[0,-1,-1]⟩,1000⟩,⟨⟨0,[-1,0,-1]⟩,1000⟩]:=by
  rw[show Qa2 [-1] 0=[[0,-1],[0,-1,-1],[-1,0,-1]] by decide]
  simp[QbN,Qf8,toT,Qj0,Qnz,QnA]
 have h3:=h2.stab
 simp only at h3
 rw[hf] at h3
 have h4:=h3.perm.symm.subset hy
 simp only[List.mem_cons,List.not_mem_nil,or_false] at h4
 rcases h4 with rfl | rfl | rfl
 ·exact .inl rfl
 ·exact .inr (.inl rfl)
 ·exact .inr (.inr rfl)
def pD:Pl:=⟨[⟨0,[0,-1]⟩],[]⟩
def p0:Pl:=⟨[],[0]⟩
theorem Qo3 {F:Nat} (hF:40000≤F):QbG F exD=pD:=by
 have h1:VR F exD ((0:Nat):Int) ⟨⟨0,[]⟩,0⟩=some ⟨⟨0,[0,-1]⟩,1000⟩:=by
  unfold VR
  rw[show QN F exD (Qc.mk ⟨0,[]⟩ 0).tour ((0:Nat):Int)=QN F exD ⟨0,[]⟩ 0 from rfl,Qhj hF]
 have h2:Qcl F exD 1=QdD (VR F exD ((0:Nat):Int)) ((0:Nat):Int) ([⟨⟨0,[]⟩,0⟩],[]):=rfl;have h3:Qcl F exD 1=([⟨⟨0,[0,-1]⟩,1000⟩],[]):=by
  rw[h2]
  unfold QdD
  simp only[VD,h1]
  rfl
 unfold QbG
 rw[show exD.Demands.length=1 from rfl,h3]
 rfl
theorem Qo4 {F:Nat} (hF:40000≤F):QbG F exE=p0:=by
 have h1:VR F exE ((0:Nat):Int) ⟨⟨0,[]⟩,0⟩=none:=by
  unfold VR
  rw[show QN F exE (Qc.mk ⟨0,[]⟩ 0).tour ((0:Nat):Int)=QN F exE ⟨0,[]⟩ 0 from rfl,Qj7 hF]
 have h2:Qcl F exE 1=QdD (VR F exE ((0:Nat):Int)) ((0:Nat):Int) ([⟨⟨0,[]⟩,0⟩],[]):=rfl;have h3:Qcl F exE 1=([⟨⟨0,[]⟩,0⟩],[0]):=by
  rw[h2]
  unfold QdD
  simp only[VD,h1]
  rfl
 unfold QbG
 rw[show exE.Demands.length=1 from rfl,h3]
 rfl
theorem Qpm:JO (ZY exD pD)=1000:=by
 unfold JO ZY pD Y5 Qan
 simp[Qj0]
theorem QqN (p:Pr):JO (ZY p p0)=1000000000000:=by
 unfold JO ZY p0 Y5 Qan
 simp
theorem QqG {F:Nat} (hF:40000≤F):Qai F exD pD 1=[]:=by
 have hm:mvs F exD pD 0 0=none:=by
  obtain ⟨L,h1,h2⟩:=QmI hF;have hb:bsO F exD pD ((0:Nat):Int) ((0:Nat):Int)=L.head? :=by
   unfold bsO VR
   rw[show QN F exD (Qc.mk (tO pD ((0:Nat):Int) ((0:Nat):Int)) 0).tour ((0:Nat):Int)=QN F exD ⟨0,[-1]⟩ 0 from rfl,h1]
   cases L<;>rfl
  unfold mvs mvR
  rw[hb]
  cases L with
  | nil=>rfl
  | cons y M =>
   have c1:=h2 y List.mem_cons_self;have e1: ∀b:To,Qa8 b=true→Qa5 exD pD ((0:Nat):Int) ((0:Nat):Int) b=⟨[b],[]⟩:=fun b hb=>by
    unfold Qa5
    rw[show (List.range exD.Vehicles.length).map (stB pD ((0:Nat):Int) ((0:Nat):Int) b)=[b] from rfl]
    simp only[List.filter_cons,hb,if_true]
    rfl
   have e2:Qa8 y.tour=true∧(Yv exD y.tour).1=1000:=by
    rcases c1 with c | c | c
    ·rw[c,Qj0];exact ⟨rfl,rfl⟩
    ·rw[c,Qnz];exact ⟨rfl,rfl⟩
    ·rw[c,QnA];exact ⟨rfl,rfl⟩
   simp only[List.head?_cons,Option.map_some,Option.bind_some]
   rw[if_neg]
   rw[Qpm,e1 _ e2.1]
   unfold JO ZY Y5 Qan
   simp[e2.2]
 show Qai F exD pD 0++Qcd F exD pD 0 1=[]
 show []++([]++(mvs F exD pD 0 0).toList)=[]
 rw[hm];rfl
theorem QqY {p:Pr} (hp:OkP p) (hc:Ql p=some 0) (hd:p.Demands.length=1):Fe p p0 where
 ok:=hp
 chk:=hc
 drv:=fun t ht=>by cases ht
 dis:=List.Pairwise.nil
 lft:=fun e he=>by
  have:e=0:=by simpa [p0] using he
  omega
 one:=fun d hd2=>by
  obtain rfl:d=0:=by omega
  rfl
theorem QqK {F:Nat} (hF:40000≤F) {p:Pr} (hp:OkP p) (hc:Ql p=some 0) (hd:p.Demands.length=1) (hn:p.Road.Edges.length≤600) (hv:p.Vehicles.length≤30):Cx F p p0 :=
 ⟨hF,hn,hv,QqY hp hc hd,by decide,by decide⟩
theorem QqF {F:Nat} (hF:40000≤F):Qai F exD p0 1=[ZY exD pD]:=by
 have hb:bsO F exD p0 ((0:Nat):Int) ((0:Nat):Int)=some ⟨⟨0,[0,-1]⟩,1000⟩:=by
  unfold bsO VR
  rw[show QN F exD (Qc.mk (tO p0 ((0:Nat):Int) ((0:Nat):Int)) 0).tour ((0:Nat):Int)=QN F exD ⟨0,[]⟩ 0 from rfl,Qhj hF]
 have hm:mvs F exD p0 0 0=some (ZY exD pD):=by
  unfold mvs mvR
  rw[hb]
  simp only[Option.map_some,Option.bind_some]
  rw[show Qa5 exD p0 ((0:Nat):Int) ((0:Nat):Int) ⟨0,[0,-1]⟩=pD from rfl,Qpm,QqN,if_pos (by decide)]
 show []++([]++(mvs F exD p0 0 0).toList)=_
 rw[hm];rfl
theorem QqH {F:Nat} (hF:40000≤F):Qai F exE p0 1=[]:=by
 have hb:bsO F exE p0 ((0:Nat):Int) ((0:Nat):Int)=none:=by
  unfold bsO VR
  rw[show QN F exE (Qc.mk (tO p0 ((0:Nat):Int) ((0:Nat):Int)) 0).tour ((0:Nat):Int)=QN F exE ⟨0,[]⟩ 0 from rfl,Qj7 hF]
 have hm:mvs F exE p0 0 0=none:=by
  unfold mvs mvR
  rw[hb];rfl
 show []++([]++(mvs F exE p0 0 0).toList)=_
 rw[hm];rfl
theorem Qlr {F:Nat} {p:Pr} {x:Pl} (h:Cx F p x) (ha:Qai F p x p.Demands.length=[]):iter (Vj F p) F (x.Tours,x.Left)=some (x,0):=by
 have hF:=h.hF;obtain ⟨L,h1,_,_,h4⟩:=h.both
 rw[ha] at h4
 have hL:L=[]:=h4.perm.symm.eq_nil;subst hL;have h1':Jd F p (Qg.mk x.Tours x.Left)=some ([],0):=h1;obtain ⟨f,hf⟩: ∃f,F=f+1:=⟨F-1,by omega⟩
 have key: ∀n,iter (Vj F p) (n+1) (x.Tours,x.Left)=some (x,0):=fun n=>by
  simp only[iter,Vj,oun,h1',Option.bind_some,decide_true,Bool.not_true,cond_false,List.length_nil]
  rfl
 have:=key f
 rw[←hf] at this
 exact this
theorem Qn8 {F:Nat} (hF:40000≤F) {p:Pr} {x:Pl} (hn:p.Road.Edges.length≤600) (hv:p.Vehicles.length≤30) (hp:OkP p) (hc:Ql p=some 0) (hx:QbG F p=x) (ha:Qai F p x p.Demands.length=[]):WA F p=some (x,0):=by
 obtain ⟨e,h1,h2⟩:=Qk4 hF p hn (by omega) (by have:=hp.dl;omega)
 rw[hc] at h1
 injection h1 with h1
 subst h1;rcases h2 with ⟨h2,_⟩ | ⟨_,_,h4,_⟩
 ·exact absurd rfl h2
 ·subst hx;unfold WA
  rw[h4]
  simp only[Option.bind_some,oun,decide_true,Bool.not_true,cond_false]
  rw[Qlr (Qn9 hF hn hv hp hc) ha]
  rfl
theorem Qpq {F:Nat} (hF:40000≤F) {p:Pr} (hp:OkP p) (hc:Ql p=some 0) (hd:p.Demands.length=1) (hn:p.Road.Edges.length≤600) (hv:p.Vehicles.length=1) {c:Int} (hr:Yk F p p0 0 0=some c):JQ F p p0 0=some ([⟨0,c⟩],0):=by
 have hcx:=QqK hF hp hc hd hn (by omega);obtain ⟨R,e,h1,_,_,h4,h5⟩:=Qmw hF hn (by omega) p0 (by decide) (by decide) 0;have hf:ZN F p p0=some 0:=by
  unfold ZN
  rw[hcx.total.1];rfl
 have he:=h5 (by simp[p0]) hf;subst he;rcases h4 with ⟨h4,_⟩ | ⟨_,_,n,hn2,_,_,hR⟩
 ·exact absurd rfl h4
 ·obtain rfl:n=0:=by omega
  rw[h1,hR,hv]
  have:rsn F p p0 0 0=c:=by
   unfold rsn
   rw[show Yk F p p0 ((0:Nat):Int) ((0:Nat):Int)=Yk F p p0 0 0 from rfl,hr]
   rfl
  show some ([(⟨((0:Nat):Int),rsn F p p0 0 0⟩:Rn)],(0:Int))=_
  rw[this];rfl
theorem Qog {F:Nat} (hF:40000≤F):Yk F exD p0 0 0=some 0:=by
 have hw:Qbi F exD ⟨0,[0,-1]⟩=some ((Qch exD ⟨0,[0,-1]⟩).1,0,(Qch exD ⟨0,[0,-1]⟩).2.2):=by
  rw[Qi8 hF Qlo Qie (by decide)]
  have h1:=Qj0;unfold Yv at h1;unfold Qch;cases h:J8 exD ⟨0,[0,-1]⟩ with
  | inl z=>rfl
  | inr q=>rw[h] at h1;injection h1 with _ h2;exact absurd h2 (V9 h)
 have ho:ZJ F exD ⟨0,[]⟩ 0=some ([⟨0,[0,-1]⟩],0):=QkX (Qhj hF) (by decide);unfold Yk
 rw[show getI exD.Vehicles 0=some ⟨⟨#[118]⟩,0,⟨1000,2000⟩,1000,1⟩ from rfl,show getI exD.Demands 0=some ⟨0,1,0,300,⟨1100,1200⟩,30⟩ from rfl]
 simp only[Option.bind_some]
 rw[show Zp ⟨⟨#[118]⟩,0,⟨1000,2000⟩,1000,1⟩ 0=some true by decide +kernel,hw,(Qgi (x:=p0) 0 (by decide)).1,show ofP p0 0=⟨0,[]⟩ from rfl]
 simp only[Option.bind_some,oun,ho]
 rfl
theorem Qoh {F:Nat} (hF:40000≤F):Yk F exE p0 0 0=some 20:=by
 unfold Yk
 rw[show getI exE.Vehicles 0=some ⟨⟨#[118]⟩,0,⟨1000,2000⟩,299,1⟩ from rfl,show getI exE.Demands 0=some ⟨0,1,0,300,⟨1100,1200⟩,30⟩ from rfl]
 simp only[Option.bind_some]
 rw[show Zp ⟨⟨#[118]⟩,0,⟨1000,2000⟩,299,1⟩ 0=some true by decide +kernel]
 rfl
theorem QoO {F:Nat} (hF:40000≤F):Zk F=some true:=by
 have h1:WA F exD=some (pD,0):=Qn8 hF (by decide) (by decide) Qlo Qie (Qo3 hF) (QqG hF);have h2:Jd F exD p0=some ([pD],0):=by
  obtain ⟨L,q1,_,_,q4⟩:=(QqK hF Qlo Qie rfl (by decide) (by decide)).both
  rw[show exD.Demands.length=1 from rfl,QqF hF] at q4
  rw[q1,q4.perm.symm.eq_singleton]
  rfl
 have h3:JQ F exD p0 0=some ([⟨0,0⟩],0):=Qpq hF Qlo Qie rfl (by decide) rfl (Qog hF);have h4:WA F exE=some (p0,0):=Qn8 hF (by decide) (by decide) Qp4 Qnw (Qo4 hF) (QqH hF);have h5:JQ F exE p0 0=some ([⟨0,20⟩],0):=Qpq hF Qp4 Qnw rfl (by decide) rfl (Qoh hF);have s1:Ys pD pD=some true:=QdG _ (by decide) (fun t ht=>by simp[pD] at ht;subst ht;decide) (by decide);have s2:Ys p0 p0=some true:=QdG _ (by decide) (fun t ht=>by cases ht) (by decide);have r1:Yd [⟨0,0⟩] [⟨0,0⟩]=some true:=by rw[(Qoo (by decide)).1];simp
 have r2:Yd [⟨0,20⟩] [⟨0,20⟩]=some true:=by rw[(Qoo (by decide)).1];simp
 unfold exD at h1 h2 h3;unfold exE at h4 h5;unfold pD at h1 h2 s1;unfold p0 at h2 h3 h4 h5 s2;unfold Zk
 rw[h1]
 simp only[Option.bind_some,oun]
 rw[h2]
 simp only[Option.bind_some,oun]
 rw[h3]
 simp only[Option.bind_some,oun]
 rw[show getI [(Qn.mk ⟨#[118]⟩ 0 (Qz.mk 1000 2000) 1000 1)] 0=some (Qn.mk ⟨#[118]⟩ 0 (Qz.mk 1000 2000) 1000 1) from rfl]
 simp only[Option.bind_some]
 rw[show Yg [(Qn.mk ⟨#[118]⟩ 0 (Qz.mk 1000 2000) 1000 1)] 0 (Qn.mk ⟨#[118]⟩ 0 (Qz.mk 1000 2000) 299 1)=[(Qn.mk ⟨#[118]⟩ 0 (Qz.mk 1000 2000) 299 1)] from rfl]
 rw[h4]
 simp only[Option.bind_some,oun]
 rw[h5]
 simp only[Option.bind_some,oun,s1,s2,r1,r2]
 rfl
end Go.Proofs.YthpgjbbjpfiniaaGreat
namespace Go.Proofs.YthpgjbbjpfiniaaGreat
open Go.RowKit
set_option linter.unusedSimpArgs false
set_option linter.unusedVariables false
theorem QqT {d:Int} {l:List Int} (h:d∈l):(wo d l).length<l.length:=by
 unfold wo;exact List.length_filter_lt_length_iff_exists.2 ⟨d,h,by simp⟩
theorem Cx.none {F:Nat} {p:Pr} {x:Pl} (h:Cx F p x) {d v:Nat} (hd:(d:Int)∈x.Left) (hv:v<p.Vehicles.length) (ha:Qai F p x p.Demands.length=[]):bsO F p x d v=none:=by
 have hdd:=h.fe.lft _ hd;have hdl:d<p.Demands.length:=by omega
 cases hb:bsO F p x d v with
 | none=>rfl
 | some o =>
  exfalso
  have hm:mvR F p x d v=some (Qa5 p x d v o.tour):=by unfold mvR;rw[hb];rfl
  obtain ⟨_,_,m3⟩:=h.move hdl hv;obtain ⟨a1,_,_⟩:=m3 _ hm;have hc1:=a1.cost h.hv;have hc2:=h.xOk;have hl:(Qa5 p x d v o.tour).Left.length<x.Left.length:=by
   show (Qf5 p x d).length<_
   rw[←(h.fe.left_perm d).length_eq]
   exact QqT hd
  have hlt:JO (ZY p (Qa5 p x d v o.tour))<JO (ZY p x):=by
   unfold JO;obtain ⟨q1,q2⟩:=hc1;obtain ⟨q3,q4⟩:=hc2;have e1:(ZY p (Qa5 p x d v o.tour)).plan.Left.length=(Qa5 p x d v o.tour).Left.length:=rfl;have e2:(ZY p x).plan.Left.length=x.Left.length:=rfl
   rw[e1,e2]
   omega
  have hms:mvs F p x d v=some (ZY p (Qa5 p x d v o.tour)):=by unfold mvs;rw[hm];simp only[Option.bind_some];rw[if_pos hlt]
  have:=QjP hms hv hdl
  rw[ha] at this
  cases this
def QmH (e:Int):Prop:=e=21∨e=20∨e=22∨e=19
theorem QiZ {p:Pr} {v:Ve} {pre:List Int} {x:Vi} {s e:Int} (hs:s= -1∨(0≤s∧s<((p.Demands.length:Nat):Int)∧s∉pre)) (h:VF p v pre x s= .inr e):QmH e:=by
 unfold VF at h
 split at h
 ·split at h
  ·injection h with h;subst h;exact .inr (.inr (.inl rfl))
  ·cases h
 ·have hs:0≤s∧s<((p.Demands.length:Nat):Int)∧s∉pre:=by
   rcases hs with hs | hs
   ·exact absurd hs (by assumption)
   ·exact hs
  split at h
  ·omega
  ·split at h
   ·exact absurd (by assumption) hs.2.2
   ·split at h
    ·rename_i hn
     rw[List.getElem?_eq_none_iff] at hn
     omega
    ·repeat' split at h
     all_goals first | (cases h;done) | (injection h with h;subst h;unfold QmH;omega)
theorem QmQ {p:Pr} {v:Ve} {x:Vi} {e:Int} (h:VX p v x= .inr e):QmH e:=by
 unfold VX at h
 repeat' split at h
 all_goals first | (cases h;done) | (injection h with h;subst h;unfold QmH;omega)
theorem Qnd {p:Pr} {d v:Nat} (hd:d<p.Demands.length) (hv:v<p.Vehicles.length):QbJ p d v=0∨QmH (QbJ p d v):=by
 unfold QbJ Qch;cases h:J8 p ⟨(v:Int),[(d:Int),-1]⟩ with
 | inl z=>exact .inl rfl
 | inr q =>
  right
  show QmH q.1
  unfold J8 at h
  rw[if_neg (by simp;omega),if_neg (by simp)] at h
  have hg:p.Vehicles[(Qa.mk (v:Int) [(d:Int),-1]).Vehicle.toNat]? =some p.Vehicles[v]:=by
   show p.Vehicles[((v:Nat):Int).toNat]? =_
   rw[Int.toNat_natCast]
   exact List.getElem?_eq_getElem hv
  rw[hg] at h
  simp only[Vo] at h
  cases h1:VF p p.Vehicles[v] [] (x0 p.Vehicles[v]) (d:Int) with
  | inr e =>
   rw[h1] at h
   injection h with h
   subst h;exact QiZ (.inr ⟨by omega,by omega,by simp⟩) h1
  | inl y =>
   rw[h1] at h
   simp only at h
   cases h2:VF p p.Vehicles[v] ([]++[(d:Int)]) y (-1) with
   | inr e =>
    rw[h2] at h
    injection h with h
    subst h;exact QiZ (.inl rfl) h2
   | inl w =>
    rw[h2] at h
    simp only at h
    cases h3:VX p p.Vehicles[v] w with
    | inr e =>
     rw[h3] at h
     injection h with h
     subst h;exact QmQ h3
    | inl u =>
     rw[h3] at h
     cases h
theorem Qo6 {F:Nat} {p:Pr} {x:Pl} (h:Cx F p x) {d:Nat} (hd:(d:Int)∈x.Left) :
  iter (Yb F p x d (rsL F p x d p.Vehicles.length)) ((((rsL F p x d p.Vehicles.length).length:Nat):Int).toNat+1) 0=some (.inl ()):=by
 have hvl:=h.hv;have htl:=h.tl;have hdd:=h.fe.lft _ hd
 rw[Qds]
 have:=YE (body:=Yb F p x d (rsL F p x d p.Vehicles.length)) p.Vehicles (fun _=>()) (fun _ k=>k) (fun _ _=>none) (Sum.inl ()) (by omega) (fun k y hk _=> ?_) (fun _=>by simp[Yb,Qds]) (((p.Vehicles.length:Nat):Int).toNat+1) (by simp)
 ·rw[QO _ _ (fun _ _ _=>rfl)] at this
  exact this
 ·have h0:=Qr hk;have h1:((k:Int)<((p.Vehicles.length:Nat):Int)):=by omega
  obtain ⟨_,_,ve,de,car,L,hr⟩:=h.rsn_at hd h0;have hwd:=Qnd (p:=p) (d:=d) (v:=k) (by omega) h0;have hq:=hr.eq
  simp only[Yb,Qds,h1,decide_true,cond_true,Qq,Qo9 F p x d h0,hr.hv,hr.hd,Option.bind_some,hr.hc,Qi8 h.hF h.fe.ok h.fe.chk h.hn,(Qgi (x:=x) (k:Int) (by omega)).2,oun,hr.ops]
  have hw:(Qch p ⟨(k:Int),[(d:Int),-1]⟩).2.1=QbJ p d k:=rfl
  simp only[hw]
  have hwant:(bif !car then some (21:Int) else bif decide (ve.Grams<de.Grams) then some 20 else bif !(decide (QbJ p d k=0)) then some (QbJ p d k) else bif decide ((((L.map ZR).length:Nat):Int)=0) then some 40 else some 0)=some (rsn F p x d k):=by
   rw[hq]
   cases car with
   | false=>rfl
   | true =>
    cases decide (ve.Grams<de.Grams) with
    | true=>rfl
    | false =>
     cases decide (QbJ p d k=0) with
     | false=>rfl
     | true=>cases decide ((((L.map ZR).length:Nat):Int)=0)<;>rfl
  rw[hwant]
  simp only[Option.bind_some,decide_true,Bool.not_true,cond_false]
  by_cases h2:rsn F p x d k=QbJ p d k
  ·rcases hwd with hwd | hwd | hwd | hwd | hwd
   ·simp[h2,hwd,Zj]
   ·simp[h2,hwd,Zj]
   ·simp[h2,hwd,Zj]
   ·simp[h2,hwd,Zj]
   ·simp[h2,hwd,Zj]
  ·simp[h2,Zj]
theorem Qkv {F:Nat} (hF:40000≤F) (p:Pr) (x:Pl) (d:Int):YF F p x d=some true:=by
 have haw:=QoO hF;unfold YF;rcases QoJ p x with hb | ⟨hb,hl⟩
 ·rw[hb];simp only[Option.bind_some,cond_true,haw]
 ·rw[hb]
  simp only[Option.bind_some,cond_false]
  have hve:=hl.ve;have hto:=hl.to;obtain ⟨R,e,h1,_,_,h4,_⟩:=Qmw hF hl.ed (by omega) x (by omega) hl.le d
  rw[h1]
  rcases h4 with ⟨h4,hR⟩ | ⟨h4,hc,n,hn,hm,hnl,hR⟩
  ·subst hR
   simp only[Option.bind_some,oun,h4,decide_false,Bool.not_false,cond_true,List.length_nil]
   simp only[show decide (((0:Nat):Int)=0)=true from rfl,cond_true,haw,Option.bind_some]
  ·subst h4;subst hn;subst hR;have hfe:ZN F p x=some 0:=by unfold ZN;rw[hc.total.1];rfl
   have g1: ¬((n:Int)<0):=by omega
   have g2: ¬(((p.Demands.length:Nat):Int)≤(n:Int)):=by omega
   simp only[Option.bind_some,oun,decide_true,Bool.not_true,cond_false,hfe,g1,g2,decide_false]
   rw[Qds]
   simp only[decide_true,Bool.not_true,cond_false,Option.bind_some]
   have:=Qo6 hc hm
   rw[Qds] at this
   rw[this]
   simp only[Option.bind_some,QD,haw]
theorem Qal (p:Qd) (x:Qg) (d:Int) (hp:Qej p) (hx:QgA x) (hd:wfI .i64 d): ∃F,YF F p x d=some true:=⟨40000,Qkv (Nat.le_refl _) p x d⟩
end Go.Proofs.YthpgjbbjpfiniaaGreat
namespace Go.Proofs.YthpgjbbjpfiniaaGreat
open Go.RowKit Go.ChangeShapes Go.WideShapes
set_option linter.unusedSimpArgs false
set_option linter.unusedVariables false
def Qjm (W:World):Gh:=⟨fun b=>W.heap[b]?,W.os,W.output,W.tape⟩
theorem QnN (W:World):Inv W (Qjm W) []:=⟨rfl,rfl,rfl,fun _ _ h=>h,by simp,by simp,by simp⟩
theorem Qnv {W W':World} {μ:Gh} {L:List Seg} (hm:(Qjm W).le μ) (h:Inv W' μ L):Below W.heap.size W W':=by
 have hb: ∀k,k<W.heap.size→W'.heap[k]? =W.heap[k]? :=fun k hk=>by
  have h1:W.heap[k]? =some W.heap[k]:=by simp[hk]
  rw[h1]
  exact h.mem k _ (hm.mem k _ h1)
 refine ⟨h.os.trans hm.os,h.tape.trans hm.tape,h.out.trans hm.out,?_,hb⟩;rcases Nat.eq_zero_or_pos W.heap.size with h0 | h0
 ·omega
 ·have h1:=hb (W.heap.size-1) (by omega);have h2:W.heap[W.heap.size-1]? =some (W.heap[W.heap.size-1]'(by omega)):=by simp
  rw[h2] at h1
  have:=Je h1
  omega
theorem QjY {P:Program} {f:FuncId} {fn:Func} (hf:P.funcs[f]? =some fn) (hb:fn.body.isNone=false) {args:List Value} {W:World} {v:Value} (h:Fn P f args (Qjm W) [] fun u _ _=>u=v) :
  Calls P f args.toArray W fun e W'=>e= .returned v∧Below W.heap.size W W':=by
 rcases h with ⟨_,h⟩ | ⟨fn',_,hf',_,hb',_⟩
 ·refine (h W (QnN W)).mono ?_;rintro e W' ⟨u,μ',L',rfl,hm,hi,rfl⟩;exact ⟨rfl,Qnv hm hi⟩
 ·rw[hf] at hf'
  injection hf' with hf'
  subst hf'
  rw[hb] at hb';cases hb'
section
variable {H:Type} {enc:TypeId×Value→H} {P:Program}
theorem QeK (hl:laidOutB P=true) {W W':World} (hb:Below W.heap.size W W') {sp:Nat→Bool}: ∀{ts:List TypeId} {vs:List Value} {ds:List (DataW H)} {ps:List MemPlace},
  (∀t∈ts,P.readableRec t=true∧t<P.types.size)→(∀p∈ps,p.block<W.heap.size)→(∀p∈ps,sp p.block=true) →
  DataW.TrodAll enc P W 0 (fun _=>true) true ts vs ds ps→DataW.TrodAll enc P W' 0 sp true ts vs ds ps
 | [],vs,ds,ps,_,_,_,h=>by
  obtain ⟨rfl,rfl,rfl⟩:=trodAll_nil h
  rfl
 | t::ts,vs,ds,ps,hr,hlt,hs,h=>by
  obtain ⟨v,vs',d,ds',p,q,rfl,rfl,rfl,hd,hrest⟩:=trodAll_cons h;refine ⟨p,q,WideElems.Trod_stays hl (hr t (by simp)).1 (hr t (by simp)).2 hd (fun x hx=>hb.same (hlt x (by simp[hx]))) (fun x hx=>hs x (by simp[hx])),?_,rfl⟩;exact QeK hl hb (fun u hu=>hr u (by simp[hu])) (fun x hx=>hlt x (by simp[hx])) (fun x hx=>hs x (by simp[hx])) hrest
theorem Qm1 {f:Func} {s:ChangeSpec} {apart fresh handsOn again:Bool} {W W':World} {args:Array Value} {ds:List (DataW H)} {before:List MemPlace} {tb:TypeId}
  (hW:DataW.Whole enc P f.params.toList s.vars apart W args.toList ds [] before) (hv:s.vars=[]) (hres:f.resultTypes= #[tb]) (htb:P.underlying tb=some .bool)
  (hfr:(s.fn H ds).results=[.lit (.bool true)]) (hfa:(s.fn H ds).args=ds) (hfv:(s.fn H ds).vars=[]) (hl:laidOutB P=true) (hr: ∀t∈f.params.toList,P.readableRec t=true∧t<P.types.size) (hb:Below W.heap.size W W') :
  s.post enc P f apart fresh handsOn again W args (.bool true) W':=by
 have hlt: ∀p∈before,p.block<W.heap.size:=fun p hp=>hW.lt p hp;have hW':=hW;obtain ⟨p,q,hA,hV,hpq,hz,hn⟩:=hW'
 rw[hv] at hV
 obtain ⟨_,rfl⟩:=trodVars_none hV
 rw[List.append_nil] at hpq
 subst hpq;have hresl:((Value.bool true).resultList f.resultTypes.size)=[.bool true]:=by rw[hres];rfl
 have hargs: ∀sp:Nat→Bool,(∀x∈before,sp x.block=true)→DataW.TrodAll enc P W' 0 sp true f.params.toList args.toList ds before:=fun sp hs=>QeK hl hb hr hlt hs hA;have hres2: ∀(b:Nat) (sp:Nat→Bool) (hd:Bool),DataW.TrodAll enc P W' b sp hd f.resultTypes.toList [.bool true] [.lit (.bool true)] []:=fun b sp hd=>by
  rw[hres];exact trodAll_mk1 (shut_bool htb true)
 have hold: ∀p∈before,(fun b=>decide (b<W.heap.size)) p.block=true:=fun p hp=>by simpa using hlt p hp
 have hvars: ∀sp:Nat→Bool,DataW.TrodVars enc P W' sp s.vars [] []:=fun sp=>by rw[hv];rfl
 refine ⟨ds,[],before,[],before,[],hW,?_,?_,?_,World.keptBut_mono (fun p hp=>⟨hp,by simpa using hp⟩) (hb.frame (· ∈before)),fun _=> ?_⟩
 ·rw[hresl,List.append_nil,hfr];exact hres2 _ _ _
 ·rw[List.append_nil,hfa];exact hargs _ hold
 ·rw[List.append_nil,hfv];exact hvars _
 ·have A1:=hargs (fun _=>true) (fun _ _=>rfl);have R1:=hres2 0 (fun _=>true) true;refine ⟨ok_one hres rfl (okWide_bool_mk htb true),?_⟩
  rw[hresl]
  refine ⟨_,_,([]++before)++[],⟨[]++before,[],trodAll_append A1 R1,hvars _,rfl,?_,?_⟩,?_⟩
  ·intro b off hp;have hin:MemPlace.cell b off∈before:=by simpa using hp
   rw[hb.frozen (hlt _ hin)]
   exact hz b off hin
  ·intro ha;have:=hn ha
   simpa using this
  ·intro p hp _
   simpa using hp
end
end Go.Proofs.YthpgjbbjpfiniaaGreat
namespace Go.Proofs.YthpgjbbjpfiniaaGreat
open Go.RowKit Go.ChangeShapes Go.WideShapes Go.Deep
set_option linter.unusedSimpArgs false
set_option linter.unusedVariables false
theorem Qid {W:World} {L:List Seg} {a:Addr} {v:Value} (h:W.cell? a=some v):W8 (Qjm W) L a v:=by
 unfold World.cell? at h
 split at h
 ·rename_i c e f hb
  split at h
  ·cases h
  ·rename_i hs
   refine ⟨by simpa using hs,c,e,f,.inl hb,by simpa using h⟩
 ·cases h
theorem Qmg {α β:Type} (Q:Nat→α→β→Prop): ∀n,(∀i,i<n→ ∃x y,Q i x y)→ ∃(l:List α) (m:List β),l.length=n∧m.length=n∧ ∀(i:Nat) (x:α) (y:β),l[i]? =some x→m[i]? =some y→Q i x y
 | 0,_=>⟨[],[],rfl,rfl,by simp⟩
 | n+1,h=>by
  obtain ⟨l,m,hl,hm,hq⟩:=Qmg Q n fun i hi=>h i (by omega);obtain ⟨x,y,hx⟩:=h n (by omega);refine ⟨l++[x],m++[y],by simp[hl],by simp[hm],fun i u v hu hv=> ?_⟩;rcases Nat.lt_or_ge i n with hi | hi
  ·rw[List.getElem?_append_left (by omega)] at hu hv
   exact hq i u v hu hv
  ·rw[List.getElem?_append_right (by omega)] at hu hv
   have:i-n=0:=by
    rcases Nat.eq_zero_or_pos (i-n) with h0 | h0
    ·exact h0
    ·rw[List.getElem?_eq_none (by simp;omega)] at hu;cases hu
   rw[hl,this] at hu
   rw[hm,this] at hv
   simp only[List.getElem?_cons_zero,Option.some.injEq] at hu hv
   have:i=n:=by omega
   subst this;subst hu;subst hv;exact hx
def Opn {α:Type} (P:Program) (W:World) (t:TypeId) (r:Rp α) (Q:α→Prop):Prop :=
 ∀(H:Type) (enc:TypeId×Value→H) (spare:Nat→Bool) (held:Bool) (fuel:Nat) (cs:List Value) (x:DataW H×List MemPlace),DataW.trod enc P W 0 spare held fuel t cs=some x→ ∃d,r.rep (Qjm W) d cs∧Q d
section
variable {P:Program} {W:World} {t:TypeId}
theorem J2 {k:IntKind} (ht:P.underlying t=some (.int k)):Opn P W t (rI k) (wfI k):=by
 intro H enc spare held fuel cs x h;obtain ⟨n,h1,_,h2⟩:=DataW.trod_int ht h;exact ⟨n,h1,h2⟩
theorem Qo1 (ht:P.underlying t=some .string):Opn P W t Qq2 fun s=>s.size≤maxLen:=by
 intro H enc spare held fuel cs x h;obtain ⟨n,h1,_,h2⟩:=DataW.trod_string ht h;exact ⟨n,h1,h2⟩
theorem Qb0 {α:Type} {e:TypeId} {r:Rp α} {Q:α→Prop} (ht:P.underlying t=some (.slice e)) (hC:P.cellsOf e=r.sz) (he:Opn P W e r Q):Opn P W t (QqS r) fun xs=> ∀x∈xs,Q x:=by
 intro H enc spare held fuel cs x h;rcases open_slice ht h with ⟨rfl,_⟩ | ⟨a,n,c,m,nn,D,Pl,rfl,hb,hl,hm,hmm,hx,hi⟩
 ·exact ⟨[],⟨none,0,rfl,Nat.le_refl _,Nat.zero_le _,Qv.nil⟩,by simp⟩
 ·have hrow: ∀i,i<n→ ∃(y:α) (cs:List Value),r.rep (Qjm W) y cs∧Q y∧ZU (Qjm W) [] (a.add (i*r.sz)) cs:=fun i hin=>by
   obtain ⟨cs',hc,htr⟩:=hi i (by split at hmm<;>omega)
   rw[hC] at hc
   obtain ⟨y,hy,hq⟩:=he H enc spare held nn cs' _ htr;obtain ⟨_,hcl,hat⟩:=World.cells?_some hc;refine ⟨y,cs',hy,hq,fun j u hu=> ?_⟩;have hjk:j<r.sz:=by
    rcases Nat.lt_or_ge j r.sz with h | h
    ·exact h
    ·rw[List.getElem?_eq_none (by omega)] at hu;cases hu
   exact Qid (by rw[hat j hjk];exact hu)
  obtain ⟨xs,css,hxl,hcl,hq⟩:=Qmg (fun i y cs=>r.rep (Qjm W) y cs∧Q y∧ZU (Qjm W) [] (a.add (i*r.sz)) cs) n hrow;refine ⟨xs,⟨some a,c,by rw[hxl],by omega,hm,css,fun i cs hcs=> ?_,by rw[hxl,hcl],fun i y cs hy hcs=>(hq i y cs hy hcs).1⟩,fun y hy=> ?_⟩
  ·have hlt:i<css.length:=by
    rcases Nat.lt_or_ge i css.length with h | h
    ·exact h
    ·rw[List.getElem?_eq_none h] at hcs;cases hcs
   obtain ⟨h1,_,h3⟩:=hq i (xs[i]'(by omega)) cs (by simp) hcs;exact ⟨r.len h1,a,rfl,h3⟩
  ·obtain ⟨i,hi'⟩:=List.getElem?_of_mem hy;have hlt:i<xs.length:=by
    rcases Nat.lt_or_ge i xs.length with h | h
    ·exact h
    ·rw[List.getElem?_eq_none h] at hi';cases hi'
   exact (hq i y (css[i]'(by omega)) hi' (by simp)).2.1
end
theorem Jz {cs:List Value} {o a o2:Nat} (h:o+a=o2):cs.drop o=(cs.drop o).take a++cs.drop o2:=by rw[←h,←List.drop_drop,List.take_append_drop]
theorem Qi2 {cs:Array Value} {l:List Value} (h:cs.toList=l):cs=l.toArray:=by rw[←h]
end Go.Proofs.YthpgjbbjpfiniaaGreat
