/- DispatchPlans: for every input the given law returns true, and its arguments read as before. No condition. -/
import Derived.Test.YthpgjbbjpfiniaaGreatc1x14
import Derived.Test.YthpgjbbjpfiniaaGreatc1x2
import Derived.Test.YthpgjbbjpfiniaaGreatc1x1
import Derived.ProofKit
import Derived.Below
import Derived.ChangeSame
import Derived.Carry
import Derived.WideKeyArgs
import Derived.Deep.Slices
import Derived.Deep.Fields
import Derived.OpenShut
namespace Go.Proofs.YthpgjbbjpfiniaaGreat
open Go.RowKit
set_option linter.unusedSimpArgs false
set_option linter.unusedVariables false
theorem Wk.join {r:Rd_} {a b:Int} {k:Nat} {l:Lg} (h:Wk r a k b l): ∀{k':Nat} {c:Int} {l':Lg},Wk r b k' c l'→Wk r a (k+k') c ⟨l.Secs+l'.Secs,l.Meters+l'.Meters⟩
 | _,_,_,.nil=>by simpa using h
 | _,_,_,.cons (l:=m) (x:=x) h2 hx ha=>by
  have h3:=Wk.join h h2;have h4:=Wk.cons h3 hx ha;unfold WX at h4 ⊢
  simp only[] at h4 ⊢
  rw[show l.Secs+(m.Secs+x.Secs)=l.Secs+m.Secs+x.Secs by omega,show l.Meters+(m.Meters+x.Meters)=l.Meters+m.Meters+x.Meters by omega]
  exact h4
theorem tri {p:Pr} (hp:OkP p) {a b c:Int} (ha:0≤a∧a<p.Road.Nodes) (hb:0≤b∧b<p.Road.Nodes) (hc:0≤c∧c<p.Road.Nodes) (h1:0≤(ZG p a b).Secs) (h2:0≤(ZG p b c).Secs) :
  0≤(ZG p a c).Secs∧(ZG p a c).Secs≤(ZG p a b).Secs+(ZG p b c).Secs:=by
 have hr:=OkR.of hp.road;obtain ⟨La,_⟩:=QeS hp ha;obtain ⟨Lb,_⟩:=QeS hp hb;obtain ⟨k,_,w1,_⟩:=QeV hr (La.lb b hb.1 hb.2) (Qgu h1);obtain ⟨k',_,w2,_⟩:=QeV hr (Lb.lb c hc.1 hc.2) (Qgu h2);have h3:=La.best _ _ _ (w1.join w2);have h4:=h3.2;unfold Lg.le at h4;refine ⟨h3.1,?_⟩;unfold ZG at h1 h2 ⊢
 simp only[] at h4
 omega
structure Lax (p:Pr) (x' x:Vi):Prop where
 leg: ∀b,0≤b→b<p.Road.Nodes→0≤(ZG p x.Node b).Secs→0≤(ZG p x'.Node b).Secs∧x'.Leave+(ZG p x'.Node b).Secs≤x.Leave+(ZG p x.Node b).Secs
 load:x'.Load≤x.Load
theorem Lax.same {p:Pr} {x' x:Vi} (h1:x'.Node=x.Node) (h2:x'.Leave≤x.Leave) (h3:x'.Load≤x.Load):Lax p x' x :=
 ⟨fun b _ _ h=>⟨by rw[h1];exact h,by rw[h1];omega⟩,h3⟩
theorem Qn3 {p:Pr} {v:Ve} (hp:OkP p) {x' x y:Vi} {pre pre':List Int} {s:Int} (hl:Lax p x' x) (hsub: ∀u∈pre',u∈pre) (hs:QaG p v pre x s= .inl y) :
  ∃y',QaG p v pre' x' s= .inl y'∧Lax p y' y:=by
 unfold QaG at hs
 split at hs
 ·rename_i h1
  split at hs
  ·cases hs
  ·rename_i h2
   injection hs with hs;subst hs
   obtain ⟨g1,g2⟩:=hl.leg _ hp.u0 hp.u1 (by omega);unfold QaG
   rw[if_pos h1,if_neg (by omega)]
   exact ⟨_,rfl,Lax.same rfl (by simp only[];omega) (Int.le_refl _)⟩
 ·rename_i h1
  split at hs
  ·cases hs
  ·rename_i h2
   split at hs
   ·cases hs
   ·rename_i h3
    split at hs
    ·cases hs
    ·rename_i d hd
     have hd2:=hp.de d (List.mem_of_getElem? hd)
     split at hs
     ·cases hs
     ·rename_i h4
      split at hs
      ·cases hs
      ·rename_i h5
       split at hs
       ·cases hs
       ·rename_i h6
        split at hs
        ·cases hs
        ·rename_i h7
         injection hs with hs;subst hs
         obtain ⟨g1,g2⟩:=hl.leg _ hd2.n0 hd2.n1 (by omega);have g3:=hl.load;unfold QaG
         rw[if_neg h1,if_neg h2,if_neg (fun h=>h3 (hsub _ h)),hd]
         simp only[]
         rw[if_neg h4,if_neg (by omega),if_neg (by omega),if_neg (by omega)]
         exact ⟨_,rfl,Lax.same rfl (by simp only[];omega) (by simp only[];omega)⟩
theorem Qmk {p:Pr} {v:Ve} (hp:OkP p): ∀(rest pre pre':List Int) (x x':Vi) (z:Vi×List Vi),Lax p x' x→(∀u∈pre',u∈pre)→VL p v pre rest x= .inl z→ ∃z',VL p v pre' rest x'= .inl z'∧Lax p z'.1 z.1
 | [],pre,pre',x,x',z,hl,_,h=>by
  injection h with h;subst h
  exact ⟨_,rfl,hl⟩
 | s::rest,pre,pre',x,x',z,hl,hsub,h=>by
  unfold VL at h
  split at h
  ·cases h
  ·rename_i y hy
   obtain ⟨y',h1,h2⟩:=Qn3 hp hl hsub hy
   split at h
   ·rename_i z1 hz
    injection h with h;subst h
    obtain ⟨z',h3,h4⟩:=Qmk hp rest (pre++[s]) (pre'++[s]) y y' z1 h2 (fun u hu=>by
     rcases List.mem_append.1 hu with h5 | h5
     ·exact List.mem_append_left _ (hsub u h5)
     ·exact List.mem_append_right _ h5) hz
    unfold VL
    rw[h1]
    simp only[]
    rw[h3]
    exact ⟨_,rfl,h4⟩
   ·cases h
theorem QnR {p:Pr} {v:Ve} (hv:OkV p.Road.Nodes v) {x x' y:Vi} (hl:Lax p x' x) (h0:0≤x'.Load) (hs:QaV p v x= .inl y): ∃y',QaV p v x'= .inl y':=by
 unfold QaV at hs
 split at hs
 ·cases hs
 ·rename_i h1
  split at hs
  ·cases hs
  ·rename_i h2
   split at hs
   ·cases hs
   ·rename_i h3
    obtain ⟨g1,g2⟩:=hl.leg _ hv.d0 hv.d1 (by omega);have g3:=hl.load;unfold QaV
    simp only[ne_eq,Decidable.not_not] at h2
    rw[if_neg (by omega),if_neg (by omega),if_neg (by omega)]
    exact ⟨_,rfl⟩
theorem Qoa {p:Pr} {v:Ve} (hp:OkP p) (hv:OkV p.Road.Nodes v) {k:Nat} {x y:Vi} {pre:List Int} {s:Int} (hx:InV p v k x) (h0:0≤s) (hs:QaG p v pre x s= .inl y):Lax p x y:=by
 have hin:=QeN hp hv hx hs;unfold QaG at hs
 rw[if_neg (by omega)] at hs
 split at hs
 ·cases hs
 ·split at hs
  ·cases hs
  ·split at hs
   ·cases hs
   ·rename_i d hd
    have hd2:=hp.de d (List.mem_of_getElem? hd);have a1:=hd2.g0;have a5:=hd2.s0
    split at hs
    ·cases hs
    ·split at hs
     ·cases hs
     ·rename_i h5
      split at hs
      ·cases hs
      ·split at hs
       ·cases hs
       ·injection hs with hs;subst hs
        refine ⟨fun b b0 b1 hb=> ?_,by simp only[];omega⟩
        simp only[] at hb ⊢
        have h6:=tri hp ⟨hx.n0,hx.n1⟩ ⟨hd2.n0,hd2.n1⟩ ⟨b0,b1⟩ (by omega) hb
        omega
theorem Ql4 {p:Pr} (hp:OkP p) {t:Qa} {u:Vi×List Vi×Ve} (h:W6 p t= .inl u) {n:Nat} {s:Int} (hn:t.Stops[n]? =some s) (h0:0≤s):(Qdx p ⟨t.Vehicle,t.Stops.take n++t.Stops.drop (n+1)⟩).2.1=0:=by
 obtain ⟨z,y,hf,_,_⟩:=Qf2 h;have hv:=hp.ve u.2.2 (by
  have:=hf.hv;unfold getI at this
  rw[if_pos hf.t0] at this
  exact List.mem_of_getElem? this)
 have hnl:=QE hn;have hsl:=hf.sl;have hfol:=hf.fol;have hsplit:t.Stops=t.Stops.take n++(s::t.Stops.drop (n+1)):=by
  conv=>lhs;rw[←List.take_append_drop n t.Stops]
  congr 1
  rw[List.drop_eq_getElem_cons hnl]
  rw[List.getElem?_eq_getElem hnl] at hn
  injection hn with hn
  rw[hn]
 rw[hsplit,Qez] at hfol
 cases hA:VL p u.2.2 [] (t.Stops.take n) (x0 u.2.2) with
 | inr q=>rw[hA] at hfol;cases hfol
 | inl zA =>
  rw[hA] at hfol
  simp only[List.nil_append] at hfol
  have hzA:=QdF hp hv (t.Stops.take n) [] _ _ (Qg2 hv) hA
  simp only[List.length_nil,Nat.zero_add,Yx (Nat.le_of_lt hnl)] at hzA
  cases hB:VL p u.2.2 (t.Stops.take n) (s::t.Stops.drop (n+1)) zA.1 with
  | inr q=>rw[hB] at hfol;cases hfol
  | inl zB =>
   rw[hB] at hfol
   injection hfol with hfol
   have hB2:=hB;unfold VL at hB2
   split at hB2
   ·cases hB2
   ·rename_i y1 hy1
    split at hB2
    ·rename_i zC hC
     injection hB2 with hB2
     have hlx:=Qoa hp hv hzA.1 h0 hy1;obtain ⟨z',g1,g2⟩:=Qmk hp (t.Stops.drop (n+1)) (t.Stops.take n++[s]) (t.Stops.take n) y1 zA.1 zC hlx (fun w hw=>List.mem_append_left _ hw) hC;have hzn:=QdF hp hv (t.Stops.drop (n+1)) (t.Stops.take n) _ _ (by rw[Yx (Nat.le_of_lt hnl)];exact hzA.1) g1;have hhom:=hf.hom
     rw[←hfol,←hB2] at hhom
     obtain ⟨y',g3⟩:=QnR hv g2 hzn.1.l0 hhom;have e:=QoX (p:=p) (t:=⟨t.Vehicle,t.Stops.take n++t.Stops.drop (n+1)⟩) hf.t0 hf.t1 hf.hv (by simp;omega)
     simp only[] at e
     rw[Qez,hA] at e
     simp only[List.nil_append,g1,g3] at e
     unfold Qdx
     rw[e]
    ·cases hB2
end Go.Proofs.YthpgjbbjpfiniaaGreat
namespace Go.Proofs.YthpgjbbjpfiniaaGreat
open Go.RowKit
set_option linter.unusedSimpArgs false
set_option linter.unusedVariables false
structure Fe (p:Pr) (x:Pl):Prop where
 ok:OkP p
 chk:Qv p=some 0
 drv: ∀t∈x.Tours,(YR p t).2=0
 dis:x.Tours.Pairwise fun a b=>a.Vehicle≠b.Vehicle
 lft: ∀e∈x.Left,0≤e∧e<((p.Demands.length:Nat):Int)
 one: ∀d,d<p.Demands.length→tn x.Tours d+cn x.Left d=1
theorem QnJ {n:Nat} {f:Nat→Nat} (h:Qhg (vec n f)=0): ∀d,d<n→f d=1:=fun d hd=>by
 unfold Qhg at h;have hm:((f d:Nat):Int)∈vec n f:=List.mem_of_getElem? (QfE f hd);cases h1:(vec n f).any fun c=>decide (1<c) with
 | true=>rw[h1] at h;cases h
 | false =>
  rw[h1] at h
  simp only[cond_false] at h
  cases h2:(vec n f).any fun c=>decide (c=0) with
  | true=>rw[h2] at h;cases h
  | false =>
   rw[List.any_eq_false] at h1 h2
   have a1:=h1 _ hm;have a2:=h2 _ hm
   simp at a1 a2
   omega
theorem QoB {p:Pr} {ts:List To} (h: ∀(k:Nat) (t:To),ts[k]? =some t→Qdj p ts k t=none):ts.Pairwise fun a b=>a.Vehicle≠b.Vehicle:=by
 rw[List.pairwise_iff_getElem]
 intro i j hi hj hij he;have:=h j _ (List.getElem?_eq_getElem hj);unfold Qdj at this;have hany:(ts.take j).any (fun u=>decide (u.Vehicle=ts[j].Vehicle))=true:=by
  rw[List.any_eq_true]
  refine ⟨ts[i],?_,by simpa using he⟩;refine List.mem_of_getElem? (i:=i) ?_
  rw[List.getElem?_take,if_pos hij,List.getElem?_eq_getElem hi]
 rw[hany] at this
 cases this
theorem Qgf {p:Pr} {t:To} {u:Vi×List Vi×Ve} (h:W6 p t= .inl u):(YR p t).2=0:=by unfold YR;rw[h]
theorem QeM {F:Nat} (hF:40000≤F) {p:Pr} (hn:p.Road.Edges.length≤600) (x:Pl) (hx:x.Tours.length≤30) (hl:x.Left.length≤100) :
  ∃s e,Zw F p x=some (s,e)∧Q4 p x=some e∧Yi p x=some (s,e)∧(e=0→s=ZE p x.Tours∧Fe p x):=by
 obtain ⟨s,e,h1,h2,h3⟩:=QmW hF hn x hx hl;refine ⟨s,e,h1,h2,h3,fun he=> ?_⟩;subst he;rcases QcL p hn with ⟨g1,g2⟩ | ⟨e,g1,g2⟩
 ·rcases Qfg (Qdj p x.Tours) x.Tours 0 with k1 | ⟨c,i,t,k1,k2⟩
  ·simp only[Nat.zero_add] at k1
   have hdl:=g2.dl;have hall: ∀t∈x.Tours,(∀s∈t.Stops,okS p.Demands.length s)∧t.Stops.length≤40:=fun t htm=>by
    obtain ⟨i,hi⟩:=List.getElem?_of_mem htm;obtain ⟨u,hu⟩:=Qdr (k1 i t hi);exact (VN g2 hu).2.2
   have q1:=QeU hF g2 x hx
   rw[Ya _ _ (fun i t hi=>by rw[Nat.zero_add,k1 i t hi];rfl)] at q1
   have q3:=(Qc8 (n:=p.Demands.length) x (fun _=>0) (by omega) (fun _=>Nat.zero_le _)).1;have q4:=(Qcq (n:=p.Demands.length) x (fun d=>0+cn x.Left d) (by omega) (fun d=>by have:=Qi1 x.Left d;omega) (fun t htm=>by have:=(hall t htm).2;omega) (fun t htm=>(hall t htm).1)).1;have hpl:Zw F p x=some (bif QfC p.Demands.length x.Left then (0,7) else (bif decide (Qhg (vec p.Demands.length fun d=>0+cn x.Left d+tn x.Tours d)=0) then ZE p x.Tours else 0,Qhg (vec p.Demands.length fun d=>0+cn x.Left d+tn x.Tours d))):=by
    unfold Zw
    rw[ZU (by omega) _ hn,g1]
    simp only[Option.bind_some,decide_true,Bool.not_true,cond_false]
    rw[q1]
    simp only[Option.bind_some,QR]
    rw[QeD _ (by omega)]
    simp only[Option.bind_some]
    rw[q3]
    cases QfC p.Demands.length x.Left with
    | true=>rfl
    | false =>
     simp only[cond_false,Option.bind_some,QR]
     rw[q4]
     simp only[Option.bind_some]
     rw[Qhi _ (by rw[VR];omega),Qhk _ (by rw[VR];omega)]
     unfold Qhg
     simp only[Option.bind_some]
     generalize (vec p.Demands.length fun d=>0+cn x.Left d+tn x.Tours d).any (fun c=>decide (1<c))=a
     generalize (vec p.Demands.length fun d=>0+cn x.Left d+tn x.Tours d).any (fun c=>decide (c=0))=b
     cases a<;>cases b<;>rfl
   rw[h1] at hpl
   cases hbl:QfC p.Demands.length x.Left with
   | true=>rw[hbl] at hpl;cases hpl
   | false =>
    rw[hbl] at hpl
    simp only[cond_false,Option.some.injEq,Prod.mk.injEq] at hpl
    obtain ⟨p1,p2⟩:=hpl
    rw[←p2] at p1
    simp only[decide_true,cond_true] at p1
    refine ⟨p1,g2,g1,fun t ht=> ?_,QoB k1,fun e he=> ?_,fun d hd=> ?_⟩
    ·obtain ⟨i,hi⟩:=List.getElem?_of_mem ht;obtain ⟨u,hu⟩:=Qdr (k1 i t hi);exact Qgf hu
    ·unfold QfC at hbl
     rw[List.any_eq_false] at hbl
     have:=hbl e he
     simp at this
     omega
    ·have:=QnJ p2.symm d hd
     omega
  ·exfalso
   have hc0:=Qk7 k1;have q1:=QeU hF g2 x hx
   rw[k2] at q1
   unfold Zw at h1
   rw[ZU (by omega) _ hn,g1] at h1
   simp only[Option.bind_some,decide_true,Bool.not_true,cond_false] at h1
   rw[q1] at h1
   simp only[Option.bind_some,QR,Option.some.injEq,Prod.mk.injEq] at h1
   exact hc0 h1.2
 ·exfalso
  unfold Zw at h1
  rw[ZU (by omega) _ hn,g2] at h1
  simp only[Option.bind_some] at h1
  rw[show decide (e=0)=false by simpa using g1] at h1
  simp only[Bool.not_false,cond_true,Option.some.injEq,Prod.mk.injEq] at h1
  exact g1 h1.2
theorem Fe.tour {p:Pr} {x:Pl} (h:Fe p x) {t:To} (ht:t∈x.Tours):0≤t.Vehicle∧t.Vehicle<((p.Vehicles.length:Nat):Int)∧t.Stops.length≤40∧(∀s∈t.Stops,okS p.Demands.length s)∧ ∃u,W6 p t= .inl u:=by
 obtain ⟨u,hu⟩:=Qdf (h.drv t ht);obtain ⟨z,y,hf,_,_⟩:=Qf2 hu;exact ⟨hf.t0,hf.t1,hf.sl,(VN h.ok hu).2.2.1,u,hu⟩
theorem Qhm (x:Pl) (v:Int):(ofP x v∈x.Tours∧(ofP x v).Vehicle=v)∨ofP x v=⟨v,[]⟩:=by
 unfold ofP;cases h:x.Tours.find? fun t=>decide (t.Vehicle=v) with
 | none=>exact .inr rfl
 | some t =>
  have h1:=List.find?_some h;exact .inl ⟨List.mem_of_find?_eq_some h,by simpa using h1⟩
theorem Qmu (x:Pl) (v:Int):(ofP x v).Vehicle=v:=by
 rcases Qhm x v with ⟨_,h⟩ | h
 ·exact h
 ·rw[h]
theorem Fe.of_len {p:Pr} {x:Pl} (h:Fe p x) (v:Int):(ofP x v).Stops.length≤40:=by
 rcases Qhm x v with ⟨h1,_⟩ | h1
 ·exact (h.tour h1).2.2.1
 ·rw[h1];simp
theorem QjF (d:Int) (l:List Int):(wo d l).length≤l.length:=List.length_filter_le _ _
theorem QlX (d:Int) (l:List Int):d∉wo d l:=fun h=>by
 unfold wo at h
 simp at h
theorem QhV {d e:Int} (l:List Int) (h:e≠d):(wo d l).count e=l.count e:=by
 unfold wo
 rw[List.count_filter (by simpa using h)]
theorem Qku {d:Int}: ∀(l:List Int),l.count d≤1→d∈l→ ∃n,l[n]? =some d∧wo d l=l.take n++l.drop (n+1)
 | [],_,h=>by cases h
 | a::r,hc,h=>by
  by_cases ha:a=d
  ·subst ha;have h0:r.count a=0:=by simp at hc;omega
   have h1:wo a r=r:=QfL fun y hy=>by
    have:a∉r:=List.count_eq_zero.1 h0
    simp only[decide_eq_false_iff_not]
    intro e;rw[e] at hy;exact this hy
   exact ⟨0,rfl,by simp[wo] at h1 ⊢;exact h1⟩
  ·have hr:d∈r:=by rcases List.mem_cons.1 h with e | h;exact absurd e.symm ha;exact h
   have hc2:r.count d≤1:=by rw[List.count_cons] at hc;omega
   obtain ⟨n,h1,h2⟩:=Qku r hc2 hr;refine ⟨n+1,by simpa using h1,?_⟩;unfold wo at h2 ⊢
   simp[ha,h2]
theorem QpJ {ts:List To} {t:To} (h:t∈ts) (d:Nat):cn t.Stops d≤tn ts d:=by
 induction ts with
 | nil=>cases h
 | cons u ts ih =>
  simp only[tn,List.map_cons,List.sum_cons]
  rcases List.mem_cons.1 h with rfl | h
  ·omega
  ·have:=ih h;unfold tn at this;omega
theorem Fe.less {p:Pr} {x:Pl} (h:Fe p x) {d:Int} (h0:0≤d) (h1:d<((p.Demands.length:Nat):Int)) {t:To} (ht:t∈x.Tours):(YR p ⟨t.Vehicle,wo d t.Stops⟩).2=0:=by
 obtain ⟨_,_,_,_,u,hu⟩:=h.tour ht
 by_cases hd:d∈t.Stops
 ·have hc:t.Stops.count d≤1:=by
   have a1:=h.one d.toNat (by omega);have a2:=QpJ ht d.toNat;unfold cn at a2
   rw[show ((d.toNat:Nat):Int)=d by omega] at a2
   omega
  obtain ⟨n,e1,e2⟩:=Qku t.Stops hc hd;have:=Ql4 h.ok hu e1 h0
  rw[←e2] at this
  unfold Qdx at this;cases hr:W6 p ⟨t.Vehicle,wo d t.Stops⟩ with
  | inl w=>exact Qgf hr
  | inr q=>rw[hr] at this;exact absurd this (Qam hr)
 ·rw[QfL (fun y hy=>by simp only[decide_eq_false_iff_not];intro e;rw[e] at hy;exact hd hy)]
  exact h.drv t ht
theorem Qmx {n k:Nat} (a:Nat) (f:Nat→Nat) (hk:k<n) (h0:f k=0):((List.range n).map fun i=>if k=i then a else f i).sum=a+((List.range n).map f).sum:=by
 induction n with
 | zero=>omega
 | succ n ih =>
  simp only[List.range_succ,List.map_append,List.sum_append,List.map_cons,List.map_nil,List.sum_cons,List.sum_nil]
  by_cases h:k=n
  ·subst h;have:((List.range k).map fun i=>if k=i then a else f i)=(List.range k).map f:=List.map_congr_left fun i hi=>by
    rw[if_neg (by have:=List.mem_range.1 hi;omega)]
   rw[this,if_pos rfl,h0];omega
  ·rw[if_neg h,ih (by omega)];omega
theorem QkN (n:Nat):((List.range n).map fun _=>0).sum=0:=by
 induction n with
 | zero=>rfl
 | succ n ih=>simp only[List.range_succ,List.map_append,List.sum_append,ih];rfl
def gOf (ts:List To) (v:Int):To:=(ts.find? fun t=>decide (t.Vehicle=v)).getD ⟨v,[]⟩
theorem QnO {n:Nat} (e:Nat): ∀{ts:List To},(ts.Pairwise fun a b=>a.Vehicle≠b.Vehicle)→(∀t∈ts,0≤t.Vehicle∧t.Vehicle<(n:Int))→((List.range n).map fun i:Nat=>cn (gOf ts (i:Int)).Stops e).sum=tn ts e
 | [],_,_=>by
  have:((List.range n).map fun i:Nat=>cn (gOf [] (i:Int)).Stops e)=(List.range n).map fun _=>0:=List.map_congr_left fun i _=>by simp[gOf,cn]
  rw[this,QkN]
  simp[tn]
 | t::r,hp,hv=>by
  have hp':=List.pairwise_cons.1 hp;have ih:=QnO (n:=n) e hp'.2 fun u hu=>hv u (List.mem_cons_of_mem _ hu);obtain ⟨v0,v1⟩:=hv t List.mem_cons_self;have hg: ∀i:Nat,cn (gOf (t::r) (i:Int)).Stops e=if t.Vehicle.toNat=i then cn t.Stops e else cn (gOf r (i:Int)).Stops e:=fun i=>by
   unfold gOf
   by_cases h:t.Vehicle.toNat=i
   ·rw[if_pos h,List.find?_cons_of_pos (by simp;omega)];rfl
   ·rw[if_neg h,List.find?_cons_of_neg (by simp;omega)]
  have hz:cn (gOf r (t.Vehicle.toNat:Int)).Stops e=0:=by
   have:r.find? (fun u=>decide (u.Vehicle=(t.Vehicle.toNat:Int)))=none:=by
    rw[List.find?_eq_none]
    intro u hu;have:=hp'.1 u hu
    simp;omega
   unfold gOf
   rw[this]
   simp[cn]
  have e1:((List.range n).map fun i:Nat=>cn (gOf (t::r) (i:Int)).Stops e)=(List.range n).map fun i=>if t.Vehicle.toNat=i then cn t.Stops e else cn (gOf r (i:Int)).Stops e:=List.map_congr_left fun i _=>hg i
  rw[e1,Qmx _ (fun i:Nat=>cn (gOf r (i:Int)).Stops e) (by omega) hz,ih]
  simp[tn]
theorem Fe.sum {p:Pr} {x:Pl} (h:Fe p x) (e:Nat):((List.range p.Vehicles.length).map fun i:Nat=>cn (ofP x (i:Int)).Stops e).sum=tn x.Tours e :=
 QnO e h.dis fun t ht=>⟨(h.tour ht).1,(h.tour ht).2.1⟩
def stB (x:Pl) (d v:Int) (b:To) (i:Nat):To:=if (i:Int)=v then b else ⟨(i:Int),wo d (ofP x (i:Int)).Stops⟩
def Qhe (p:Pr) (x:Pl) (d:Int):List Int:=((List.range p.Demands.length).map fun k:Nat=>(k:Int)).filter fun k=> !decide (k=d)&&decide (k∈x.Left)
def Qd5 (p:Pr) (x:Pl) (d v:Int) (b:To):Pl:=⟨((List.range p.Vehicles.length).map (stB x d v b)).filter Qbw,Qhe p x d⟩
theorem Qk9 (p:Pr) (x:Pl) (d:Int):(Qhe p x d).Pairwise (· < ·):=by
 refine List.Pairwise.filter _ ?_
 rw[List.pairwise_map]
 exact List.Pairwise.imp (fun h=>by omega) List.pairwise_lt_range
theorem Qiu {p:Pr} {x:Pl} {d e:Int}:e∈Qhe p x d↔(0≤e∧e<((p.Demands.length:Nat):Int))∧e≠d∧e∈x.Left:=by
 unfold Qhe
 rw[List.mem_filter]
 constructor
 ·rintro ⟨h1,h2⟩;obtain ⟨k,hk,rfl⟩:=List.mem_map.1 h1;have:=List.mem_range.1 hk
  simp at h2
  exact ⟨by omega,h2⟩
 ·rintro ⟨⟨h1,h2⟩,h3,h4⟩;refine ⟨List.mem_map.2 ⟨e.toNat,List.mem_range.2 (by omega),by omega⟩,?_⟩
  simp[h3,h4]
theorem Fe.left_nodup {p:Pr} {x:Pl} (h:Fe p x):x.Left.Nodup:=by
 rw[List.nodup_iff_count]
 intro e
 by_cases he:e∈x.Left
 ·have:=h.lft e he;have h1:=h.one e.toNat (by omega);unfold cn at h1
  rw[show ((e.toNat:Nat):Int)=e by omega] at h1
  omega
 ·rw[List.count_eq_zero.2 he];omega
theorem Qn8 {l:List Int} (h:l.Pairwise (· < ·)):l.Nodup:=List.Pairwise.imp (fun h=>by omega) h
theorem Ql1 {a b:List Int} (ha:a.Nodup) (hb:b.Nodup) (h: ∀e,e∈a↔e∈b):a.Perm b:=(List.perm_ext_iff_of_nodup ha hb).2 h
theorem Fe.left_perm {p:Pr} {x:Pl} (h:Fe p x) (d:Int):(wo d x.Left).Perm (Qhe p x d):=by
 refine Ql1 (h.left_nodup.filter _) (Qn8 (Qk9 p x d)) fun e=> ?_
 rw[Qiu]
 unfold wo
 rw[List.mem_filter]
 simp only[Bool.not_eq_true',decide_eq_false_iff_not]
 exact ⟨fun ⟨h1,h2⟩=>⟨h.lft e h1,h2,h1⟩,fun ⟨_,h1,h2⟩=>⟨h2,h1⟩⟩
theorem Fe.left_sort {p:Pr} {x:Pl} (h:Fe p x) (hl:x.Left.length≤1000) (d:Int):QiB (wo d x.Left)=some (Qhe p x d):=by
 have h1:=QjF d x.Left;unfold QiB
 rw[if_pos (by omega)]
 congr 1
 refine List.Perm.eq_of_pairwise (le:=(· ≤ ·)) (fun a b _ _=>Int.le_antisymm) (QdP _) (List.Pairwise.imp (fun h=>by omega) (Qk9 p x d)) ((QdS _).trans (h.left_perm d))
end Go.Proofs.YthpgjbbjpfiniaaGreat
namespace Go.Proofs.YthpgjbbjpfiniaaGreat
open Go.RowKit
set_option linter.unusedSimpArgs false
set_option linter.unusedVariables false
abbrev Ra:=Qb
theorem QoC (rec_:List Ra→Int→Int→Int→Option (List Ra)) (F:Nat) (d:List Ra) (a m b:Int):Zi rec_ F d a m b=QeJ Yg rec_ F d a m b:=rfl
theorem Qj3: ∀F:Nat,Ym F=QjS Yg F
 | 0=>rfl
 | F+1=>by
  funext d a m b
  show Zi (Ym F) F d a m b=QeJ Yg (QjS Yg F) F d a m b
  rw[Qj3 F];exact QoC _ _ _ _ _ _
theorem Qp0 (F:Nat) (n s:Int):Zs F n s=QgX Yg F n s:=by
 funext j
 unfold Zs QgX
 rw[Qj3]
theorem Qp7 (F:Nat) (n:Int):Zu F n=QgY Yg F n:=by
 funext j
 unfold Zu QgY
 simp only[Qj3,Qp0]
theorem QnX (F:Nat) (d:List Ra):YD F d=QiY Yg F d:=by
 unfold YD QiY ZZ gSt
 simp only[Qp7]
 rfl
theorem QlK {F:Nat} {L:List Ra} (hn:L.length≤1000) (hF:40000≤F) (hb: ∀x∈L,QbA x): ∃L',YD F L=some L'∧Srt JE L'∧Y0 JE L L':=by
 rw[QnX]
 exact Qkf (α:=Ra) (k:=JE) (cmp:=Yg) (Pv:=QbA) (fun x y hx hy=>Qhp hx hy) (by omega) (by omega) hb
theorem Qih {α ρ:Type} {step:Nat→α→Option ρ} {fin r:ρ}: ∀(l:List α) (k i:Nat) (y:α),l[i]? =some y→step (k+i) y=some r→(∀(j:Nat) (z:α),j<i→l[j]? =some z→step (k+j) z=none)→YT step fin k l=r
 | [],_,_,_,h,_,_=>by simp at h
 | x::l,k,0,y,h,hs,_=>by
  simp at h;subst h
  simp only[YT]
  rw[Nat.add_zero] at hs
  rw[hs]
 | x::l,k,i+1,y,h,hs,hn=>by
  have h0:=hn 0 x (by omega) rfl
  rw[Nat.add_zero] at h0
  simp only[YT,h0]
  exact Qih l (k+1) i y (by simpa using h) (by rw[show k+1+i=k+(i+1) by omega];exact hs) fun j z hj hz=>by
   have:=hn (j+1) z (by omega) (by simpa using hz)
   rwa [show k+(j+1)=k+1+j by omega] at this
def tO (x:Pl) (d v:Int):To:=⟨v,wo d (ofP x v).Stops⟩
def bsO (F:Nat) (p:Pr) (x:Pl) (d v:Int):Option Op:=V9 F p d ⟨tO x d v,0⟩
def mvR (F:Nat) (p:Pr) (x:Pl) (d v:Int):Option Pl:=(bsO F p x d v).map fun y=>Qd5 p x d v y.tour
def Qj2:Option Pl→Pl×Bool
 | some y=>(y,true)
 | none=>(⟨[],[]⟩,false)
def stK (x:Pl) (d v:Int) (b:To) (k:Nat):List To:=((List.range k).map (stB x d v b)).filter Qbw
theorem Qii (x:Pl) (d v:Int) (b:To) (k:Nat):stK x d v b (k+1)=stK x d v b k++if Qbw (stB x d v b k)=true then [stB x d v b k] else []:=by
 unfold stK
 rw[List.range_succ,List.map_append,List.filter_append]
 simp[List.filter_cons]
theorem Qmw (x:Pl) (d v:Int) (b:To) (k:Nat):(stK x d v b k).length≤k:=Nat.le_trans (List.length_filter_le _ _) (by simp)
theorem QkV {F:Nat} (hF:40000≤F) {p:Pr} {x:Pl} (hx:x.Tours.length≤1000) (hs: ∀v,(ofP x v).Stops.length≤1000) (hv:p.Vehicles.length≤1000) (d v:Int) {b:To} (hb:b.Stops.length≤1000) :
  iter (Wc F p x d v b.Vehicle b.Stops) (((p.Vehicles.length:Nat):Int).toNat+1) ([],0)=some (stK x d v b p.Vehicles.length):=by
 have:=Zb (body:=Wc F p x d v b.Vehicle b.Stops) p.Vehicles (stK x d v b) (fun m k=>(m,k)) (fun _ _=>none) (stK x d v b p.Vehicles.length) (by omega) (fun k y hk _=> ?_) (fun _=>by simp[Wc,oun]) (((p.Vehicles.length:Nat):Int).toNat+1) (by simp)
 ·rw[Ya _ _ (fun _ _ _=>rfl)] at this
  exact this
 ·have h0:=QE hk;have h1:((k:Int)<((p.Vehicles.length:Nat):Int)):=by omega
  have hl:=Qmw x d v b k;have fin: ∀t:To,t=stB x d v b k→t.Stops.length≤1000→(Option.bind (Option.bind (Vs (Qa.mk t.Vehicle t.Stops)) fun r7=>bif r7 then Option.bind (Jf (stK x d v b k) [(Qa.mk t.Vehicle t.Stops)]) fun l1=>some l1 else some (stK x d v b k)) fun f6 =>
    some (Sum.inl (f6,w64 ((k:Int)+1))))=some (Jp none (stK x d v b (k+1),w64 ((k:Int)+1)):(List To×Int)⊕List To):=fun t ht hl2=>by
   rw[(Qgr (t:=⟨t.Vehicle,t.Stops⟩) (by simpa using (by omega:t.Stops.length≤1000000))).1,Qii,←ht]
   cases Qbw t with
   | true =>
    simp only[Option.bind_some,cond_true]
    rw[Yv (by simp;omega)]
    rfl
   | false=>simp[Jp]
  by_cases h:(k:Int)=v
  ·have ht:b=stB x d v b k:=by unfold stB;rw[if_pos h]
   have h1v:v<((p.Vehicles.length:Nat):Int):=by omega
   simp only[Wc,oun,h1v,decide_true,cond_true,h,Bool.not_true,cond_false,Option.bind_some]
   rw[←h]
   have:=fin b ht hb
   rw[h] at this ⊢
   exact this
  ·have ht:(⟨(k:Int),wo d (ofP x (k:Int)).Stops⟩:To)=stB x d v b k:=by unfold stB;rw[if_neg h]
   simp only[Wc,oun,h1,decide_true,cond_true,h,decide_false,Bool.not_false,(Qiw (x:=x) (k:Int) hx).1,Option.bind_some,Qfn hF d (hs k)]
   exact fin ⟨(k:Int),wo d (ofP x (k:Int)).Stops⟩ ht (Nat.le_trans (QjF _ _) (hs k))
theorem QkO {F:Nat} (hF:40000≤F) {p:Pr} {x:Pl} (hx:x.Tours.length≤1000) (hs: ∀v,(ofP x v).Stops.length≤1000) (hv:p.Vehicles.length≤1000) (d:Int) {v:Nat} (hvv:v<p.Vehicles.length) {b:To} (hb:b.Stops.length≤1000) {e:Int} (hbe:YP F p (tO x d v) d=some (b,e)) :
  iter (Zl F p x d v) (((p.Vehicles.length:Nat):Int).toNat+1) ([],0)=some (if e=0 then .inl (stK x d v b p.Vehicles.length) else .inr (⟨[],[]⟩,false)):=by
 have:=Zb (body:=Zl F p x d v) p.Vehicles (stK x d v b) (fun m k=>(m,k)) (fun k _=>if k=v∧e≠0 then some (.inr (⟨[],[]⟩,false)) else none) (.inl (stK x d v b p.Vehicles.length)) (by omega) (fun k y hk hno=> ?_) (fun _=>by simp[Zl,oun]) (((p.Vehicles.length:Nat):Int).toNat+1) (by simp)
 ·have e0:(stK x d v b 0,(0:Int))=(([]:List To),(0:Int)):=rfl;refine this.trans ?_
  by_cases he:e=0
  ·rw[if_pos he,Ya _ _ (fun i y _=>by simp[he])]
  ·rw[if_neg he,Qih p.Vehicles 0 v p.Vehicles[v] (List.getElem?_eq_getElem hvv) (r:= .inr (⟨[],[]⟩,false)) (by simp[he]) (fun j z hj _=>by simp;omega)]
 ·have h0:=QE hk;have h1:((k:Int)<((p.Vehicles.length:Nat):Int)):=by omega
  have hl:=Qmw x d v b k
  by_cases h:k=v
  ·subst h;have ht:b=stB x d k b k:=by unfold stB;rw[if_pos rfl]
   simp only[Zl,oun,h1,decide_true,cond_true,(Qiw (x:=x) (k:Int) hx).2,Option.bind_some,Qkj d (show (ofP x (k:Int)).Stops.length≤1000000 by have:=hs k;omega)]
   have hbe':YP F p (Qa.mk (k:Int) (wo d (ofP x (k:Int)).Stops)) d=some (b,e):=hbe
   rw[hbe']
   simp only[Option.bind_some]
   by_cases he:e=0
   ·simp only[he,decide_true,Bool.not_true,cond_false,Option.bind_some,QR]
    rw[(Qgr (t:=⟨b.Vehicle,b.Stops⟩) (by simpa using (by omega:b.Stops.length≤1000000))).2,Qii,←ht]
    cases Qbw b with
    | true =>
     simp only[Option.bind_some,cond_true]
     rw[Yv (by simp;omega)]
     simp[Jp,QR]
    | false=>simp[Jp,QR]
   ·simp[he,Jp,QR]
  ·have hkv: ¬((k:Int)=(v:Int)):=by omega
   have ht:(⟨(k:Int),wo d (ofP x (k:Int)).Stops⟩:To)=stB x d v b k:=by unfold stB;rw[if_neg hkv]
   have hl2:=Nat.le_trans (QjF d (ofP x (k:Int)).Stops) (hs k)
   simp only[Zl,oun,h1,decide_true,cond_true,(Qiw (x:=x) (k:Int) hx).2,Option.bind_some,Qkj d (show (ofP x (k:Int)).Stops.length≤1000000 by have:=hs k;omega),hkv,decide_false,cond_false,QR]
   rw[(Qgr (t:=⟨(k:Int),wo d (ofP x (k:Int)).Stops⟩) (by simpa using (by omega:(wo d (ofP x (k:Int)).Stops).length≤1000000))).2,Qii,←ht]
   cases Qbw ⟨(k:Int),wo d (ofP x (k:Int)).Stops⟩ with
   | true =>
    simp only[Option.bind_some,cond_true]
    rw[Yv (by simp;omega)]
    simp[Jp,QR,h]
   | false=>simp[Jp,QR,h]
theorem Qkw {p:Pr} {x:Pl} (hl:x.Left.length≤1000) (hd:p.Demands.length≤1000) (d:Int) :
  iter (ZW p x d) (((p.Demands.length:Nat):Int).toNat+1) ([],0)=some (Qhe p x d):=by
 have:=Zb (body:=ZW p x d) p.Demands (fun k=>((List.range k).map fun k:Nat=>(k:Int)).filter fun k=> !decide (k=d)&&decide (k∈x.Left)) (fun m k=>(m,k)) (fun _ _=>none) (Qhe p x d) (by omega) (fun k y hk _=> ?_) (fun _=>by simp[ZW,oun,Qhe]) (((p.Demands.length:Nat):Int).toNat+1) (by simp)
 ·rw[Ya _ _ (fun _ _ _=>rfl)] at this
  exact this
 ·have h0:=QE hk;have h1:((k:Int)<((p.Demands.length:Nat):Int)):=by omega
  have hl2:(((List.range k).map fun k:Nat=>(k:Int)).filter fun k=> !decide (k=d)&&decide (k∈x.Left)).length≤k:=Nat.le_trans (List.length_filter_le _ _) (by simp)
  simp only[ZW,oun,h1,decide_true,cond_true,QnU (k:Int) (show x.Left.length≤1000000 by omega)]
  rw[List.range_succ,List.map_append,List.filter_append]
  generalize (((List.range k).map fun k:Nat=>(k:Int)).filter fun k=> !decide (k=d)&&decide (k∈x.Left))=A at *
  by_cases e1:(k:Int)=d
  ·simp[e1,Jp]
  ·by_cases e2:(k:Int)∈x.Left
   ·simp only[e1,e2,decide_false,decide_true,Bool.not_false,cond_true,Option.bind_some]
    rw[Yv (by simp;omega)]
    simp[Jp,e1,e2]
   ·simp[e1,e2,Jp]
theorem Qnp {F:Nat} (hF:40000≤F) {p:Pr} (hn:p.Road.Edges.length≤600) {x:Pl} (h:Fe p x) (hx:x.Tours.length≤1000) (hl:x.Left.length≤1000) (hv:p.Vehicles.length≤1000) {d v:Nat} (hdd:d<p.Demands.length) (hvv:v<p.Vehicles.length) :
  V4 F p x d v=some (Qj2 (mvR F p x d v))∧JX F p x d v=some (Qj2 (mvR F p x d v))∧(∀y,bsO F p x d v=some y→IsO p (tO x d v) d y∧y.tour.Stops.length≤40):=by
 have hs: ∀v,(ofP x v).Stops.length≤1000:=fun v=>by have:=h.of_len v;omega
 have hts:(tO x d v).Stops.length≤1000:=Nat.le_trans (QjF _ _) (hs _);have hdl:=h.ok.dl;obtain ⟨L,e,h1,h2,h3,h4⟩:=Qbf hF p hn (tO x d v) hts d;have hbad:QjJ p (tO x d v) d=false:=by
  unfold QjJ tO
  simp;omega
 have he:=h4 h.chk hbad
 rw[show decide ((d:Int)∈(tO x d v).Stops)=false from decide_eq_false (QlX (d:Int) _)] at he
 have he:e=0:=he;subst he;rcases h3 with ⟨h3,_⟩ | ⟨_,h3⟩
 ·exact absurd rfl h3
 obtain ⟨e',b1,b2,_,b4⟩:=Qjy h2 (.inr ⟨rfl,h3⟩);have hB:=(Qig hF p hn (tO x d v) hts d).2;have hbs:bsO F p x d v=L.head? :=by
  unfold bsO V9
  rw[h1]
  cases L<;>rfl
 have hisO: ∀y,bsO F p x d v=some y→IsO p (tO x d v) d y∧y.tour.Stops.length≤40:=fun y hy=>Qou (x:=⟨tO x d v,0⟩) hy ⟨L,0,h1,.inr ⟨rfl,h3⟩⟩;have hbl:(hdT L).Stops.length≤1000:=by
  cases L with
  | nil=>simp[hdT]
  | cons y M=>have:=(hisO y (by rw[hbs];rfl)).2;simp only[hdT];omega
 rw[b1] at hB
 have hB':Qaf F p (Qa.mk (v:Int) (wo (d:Int) (ofP x (v:Int)).Stops)) d=some (hdT L,e'):=hB;refine ⟨?_,?_,hisO⟩
 ·unfold V4
  simp only[(Qiw (x:=x) (v:Int) hx).1,Option.bind_some,Qfn hF (d:Int) (hs v),hB',oun]
  cases L with
  | nil =>
   rw[b4 rfl rfl,mvR,hbs]
   rfl
  | cons y M =>
   have he':e'=0:=b2.2 (by simp)
   simp only[he',decide_true,Bool.not_true,cond_false]
   rw[QkV hF hx hs hv (d:Int) (v:Int) hbl,Qfn hF (d:Int) hl]
   simp only[Option.bind_some]
   rw[h.left_sort hl,mvR,hbs]
   rfl
 ·unfold JX
  rw[QkO hF hx hs hv (d:Int) hvv hbl b1]
  cases L with
  | nil =>
   rw[b4 rfl rfl,mvR,hbs]
   rfl
  | cons y M =>
   have he':e'=0:=b2.2 (by simp)
   rw[if_pos he']
   simp only[Option.bind_some,QR]
   rw[Qkw hl (by omega),mvR,hbs]
   rfl
theorem Qpf {p:Pr} {x:Pl} (h:Fe p x) {d v:Nat} (hdd:d<p.Demands.length) (hvv:v<p.Vehicles.length) {y:Op} (hy:IsO p (tO x d v) d y) :
  Fe p (Qd5 p x d v y.tour)∧(Qd5 p x d v y.tour).Tours.Pairwise fun a b=>a.Vehicle<b.Vehicle:=by
 have hyv:y.tour.Vehicle=(v:Int):=by
  obtain ⟨i,_,hi⟩:=hy.cand
  rw[hi];rfl
 have hveh: ∀i:Nat,(stB x d v y.tour i).Vehicle=(i:Int):=fun i=>by
  unfold stB
  by_cases e:(i:Int)=(v:Int)
  ·rw[if_pos e,hyv,e]
  ·rw[if_neg e]
 have hasc:(Qd5 p x d v y.tour).Tours.Pairwise fun a b=>a.Vehicle<b.Vehicle:=by
  refine List.Pairwise.filter _ ?_
  rw[List.pairwise_map]
  exact List.Pairwise.imp (fun h=>by rw[hveh,hveh];omega) List.pairwise_lt_range
 have hcnt: ∀e:Nat,tn (Qd5 p x d v y.tour).Tours e=((List.range p.Vehicles.length).map fun i:Nat=>cn (stB x d v y.tour i).Stops e).sum:=fun e=>by
  show tn (((List.range p.Vehicles.length).map (stB x d v y.tour)).filter Qbw) e=_
  have key: ∀ts:List To,tn (ts.filter Qbw) e=(ts.map fun t=>cn t.Stops e).sum:=by
   intro ts
   induction ts with
   | nil=>rfl
   | cons t ts ih =>
    rw[List.filter_cons]
    by_cases hs:Qbw t=true
    ·rw[if_pos hs]
     simp only[tn,List.map_cons,List.sum_cons] at ih ⊢
     rw[ih]
    ·rw[if_neg hs,ih]
     have:cn t.Stops e=0:=by
      unfold cn
      rw[List.count_eq_zero]
      intro hm;refine hs ?_;unfold Qbw
      rw[List.any_eq_true]
      exact ⟨_,hm,by simp⟩
     simp[this]
  rw[key,List.map_map]
  rfl
 have hcE: ∀e i:Nat,e≠d→cn (stB x d v y.tour i).Stops e=cn (ofP x (i:Int)).Stops e:=fun e i hed=>by
  have hed':(e:Int)≠(d:Int):=by omega
  unfold stB cn
  by_cases hi:(i:Int)=(v:Int)
  ·rw[if_pos hi]
   obtain ⟨j,_,hj⟩:=hy.cand
   rw[hj,Qb6 _ _ _ (by omega),if_neg hed']
   show (wo (d:Int) (ofP x (v:Int)).Stops).count (e:Int)+0=_
   rw[QhV _ hed',hi];rfl
  ·rw[if_neg hi]
   exact QhV _ hed'
 have hcD: ∀i:Nat,cn (stB x d v y.tour i).Stops d=if v=i then 1 else 0:=fun i=>by
  unfold stB cn
  by_cases hi:(i:Int)=(v:Int)
  ·rw[if_pos hi,if_pos (by omega)]
   obtain ⟨j,_,hj⟩:=hy.cand
   rw[hj,Qb6 _ _ _ (by omega),if_pos rfl]
   show (wo (d:Int) (ofP x (v:Int)).Stops).count (d:Int)+1=1
   rw[List.count_eq_zero.2 (QlX _ _)]
  ·rw[if_neg hi,if_neg (by omega)]
   exact List.count_eq_zero.2 (QlX _ _)
 refine ⟨⟨h.ok,h.chk,fun t ht=> ?_,List.Pairwise.imp (fun h=>by omega) hasc,fun e he=>(Qiu.1 he).1,fun e he=> ?_⟩,hasc⟩
 ·obtain ⟨h1,h2⟩:=List.mem_filter.1 ht;obtain ⟨i,_,rfl⟩:=List.mem_map.1 h1;unfold stB at h2 ⊢
  by_cases hi:(i:Int)=(v:Int)
  ·rw[if_pos hi];exact hy.ok
  ·rw[if_neg hi] at h2 ⊢
   rcases Qhm x (i:Int) with ⟨h3,h4⟩ | h3
   ·have:=h.less (d:=(d:Int)) (by omega) (by omega) h3
    rw[h4] at this
    exact this
   ·rw[h3] at h2
    simp[Qbw,wo] at h2
 ·show tn (Qd5 p x d v y.tour).Tours e+cn (Qhe p x d) e=1
  rw[hcnt]
  by_cases hed:e=d
  ·subst hed;have e1:((List.range p.Vehicles.length).map fun i:Nat=>cn (stB x e v y.tour i).Stops e)=(List.range p.Vehicles.length).map fun i=>if v=i then 1 else (fun _=>0) i:=List.map_congr_left fun i _=>hcD i
   rw[e1,Qmx 1 (fun _=>0) hvv rfl,QkN]
   have:cn (Qhe p x e) e=0:=by
    unfold cn
    rw[List.count_eq_zero]
    exact fun hm=>(Qiu.1 hm).2.1 rfl
   omega
  ·have e1:((List.range p.Vehicles.length).map fun i:Nat=>cn (stB x d v y.tour i).Stops e)=(List.range p.Vehicles.length).map fun i:Nat=>cn (ofP x (i:Int)).Stops e:=List.map_congr_left fun i _=>hcE e i hed
   rw[e1,h.sum]
   have h1:=h.one e he;have h2:cn (Qhe p x d) e=cn x.Left e:=by
    unfold cn
    rw[←(h.left_perm d).count_eq,QhV _ (by omega)]
   rw[h2];exact h1
end Go.Proofs.YthpgjbbjpfiniaaGreat
namespace Go.Proofs.YthpgjbbjpfiniaaGreat
open Go.RowKit
set_option linter.unusedSimpArgs false
set_option linter.unusedVariables false
theorem Qke {p:Pr} (hp:OkP p) {ts:List To} (h:ts.length≤30):0≤ZE p ts∧ZE p ts<1000000000000:=by
 have:=QgV (f:=fun t=>(YR p t).1) (B:=262400000) (l:=ts) (fun t _=>QgT hp t);unfold ZE
 omega
def Je (p:Pr) (y:Pl):Ra:=⟨y,ZE p y.Tours⟩
structure Qls (p:Pr) (z:Ra):Prop where
 eq:z=Je p z.plan
 fe:Fe p z.plan
 asc:z.plan.Tours.Pairwise fun a b=>a.Vehicle<b.Vehicle
 tl:z.plan.Tours.length≤p.Vehicles.length
 ll:z.plan.Left.length≤p.Demands.length
theorem QmC {p:Pr} (hp:OkP p) {y:Pl} (h:y.Tours.length≤30):QbA (Je p y):=Qke hp h
theorem Qls.cost {p:Pr} {z:Ra} (h:Qls p z) (hv:p.Vehicles.length≤30):QbA z:=by
 rw[h.eq]
 exact QmC h.fe.ok (Nat.le_trans h.tl hv)
def mvs (F:Nat) (p:Pr) (x:Pl) (d v:Nat):Option Ra:=(mvR F p x d v).bind fun y=>if JE (Je p y)<JE (Je p x) then some (Je p y) else none
def QcU (F:Nat) (p:Pr) (x:Pl) (d:Nat):Nat→List Ra
 | 0=>[]
 | n+1=>QcU F p x d n++(mvs F p x d n).toList
def QaM (F:Nat) (p:Pr) (x:Pl):Nat→List Ra
 | 0=>[]
 | m+1=>QaM F p x m++QcU F p x m p.Vehicles.length
theorem QfQ (F:Nat) (p:Pr) (x:Pl) (d:Nat): ∀n,(QcU F p x d n).length≤n
 | 0=>Nat.le_refl _
 | n+1=>by
  have:=QfQ F p x d n
  simp only[QcU,List.length_append]
  cases mvs F p x d n<;>simp<;>omega
theorem Qf0 (F:Nat) (p:Pr) (x:Pl): ∀m,(QaM F p x m).length≤m*p.Vehicles.length
 | 0=>by simp[QaM]
 | m+1=>by
  have h1:=Qf0 F p x m;have h2:=QfQ F p x m p.Vehicles.length
  simp only[QaM,List.length_append,Nat.succ_mul]
  omega
theorem Qiy {F:Nat} {p:Pr} {x:Pl} {d:Nat} {z:Ra}: ∀{n:Nat},z∈QcU F p x d n→ ∃v,v<n∧mvs F p x d v=some z
 | 0,h=>by cases h
 | n+1,h=>by
  rcases List.mem_append.1 h with h | h
  ·obtain ⟨v,h1,h2⟩:=Qiy h;exact ⟨v,by omega,h2⟩
  ·refine ⟨n,by omega,?_⟩;cases hm:mvs F p x d n with
   | none=>rw[hm] at h;simp at h
   | some y=>rw[hm] at h;simp at h;rw[h]
theorem Qin {F:Nat} {p:Pr} {x:Pl} {z:Ra}: ∀{m:Nat},z∈QaM F p x m→ ∃d v,d<m∧v<p.Vehicles.length∧mvs F p x d v=some z
 | 0,h=>by cases h
 | m+1,h=>by
  rcases List.mem_append.1 h with h | h
  ·obtain ⟨d,v,h1,h2⟩:=Qin h;exact ⟨d,v,by omega,h2⟩
  ·obtain ⟨v,h1,h2⟩:=Qiy h;exact ⟨m,v,by omega,h1,h2⟩
structure Cx (F:Nat) (p:Pr) (x:Pl):Prop where
 hF:40000≤F
 hn:p.Road.Edges.length≤600
 hv:p.Vehicles.length≤30
 fe:Fe p x
 tl:x.Tours.length≤30
 ll:x.Left.length≤100
theorem QmY (p:Pr) (x:Pl) (d v:Int) (b:To):(Qd5 p x d v b).Tours.length≤p.Vehicles.length∧(Qd5 p x d v b).Left.length≤p.Demands.length :=
 ⟨Nat.le_trans (List.length_filter_le _ _) (by simp),Nat.le_trans (List.length_filter_le _ _) (by simp)⟩
theorem QlC (L:List Ra) (hl:L.length≤10000):iter (Ww L) (((L.length:Nat):Int).toNat+1) ([],0)=some (L.map Qb.plan):=by
 have:=Zb (body:=Ww L) L (fun k=>(L.take k).map Qb.plan) (fun m k=>(m,k)) (fun _ _=>none) (L.map Qb.plan) (by omega) (fun k y hk _=> ?_) (fun _=>by simp[Ww,oun]) (((L.length:Nat):Int).toNat+1) (by simp)
 ·rw[Ya _ _ (fun _ _ _=>rfl)] at this
  simpa using this
 ·have h0:=QE hk;have h1:((k:Int)<((L.length:Nat):Int)):=by omega
  simp only[Ww,oun,h1,decide_true,cond_true,QD,hk,Option.bind_some]
  rw[Yv (by simp;omega),YU hk]
  simp[Jp]
section
variable {F:Nat} {p:Pr} {x:Pl} (h:Cx F p x)
include h
theorem Cx.move {d v:Nat} (hd:d<p.Demands.length) (hv:v<p.Vehicles.length):V4 F p x d v=some (Qj2 (mvR F p x d v))∧JX F p x d v=some (Qj2 (mvR F p x d v))∧ ∀y,mvR F p x d v=some y→Qls p (Je p y)∧Zw F p y=some (ZE p y.Tours,0)∧Yi p y=some (ZE p y.Tours,0):=by
 have htl:=h.tl;have hll:=h.ll;have hvl:=h.hv;obtain ⟨m1,m2,m3⟩:=Qnp h.hF h.hn h.fe (by omega) (by omega) (by omega) hd hv;refine ⟨m1,m2,fun y hy=> ?_⟩;unfold mvR at hy;cases hb:bsO F p x d v with
 | none=>rw[hb] at hy;cases hy
 | some o =>
  rw[hb] at hy
  injection hy with hy
  have hy:Qd5 p x d v o.tour=y:=hy;obtain ⟨q1,q2⟩:=Qpf h.fe hd hv (m3 o hb).1
  rw[hy] at q1 q2
  have ⟨l1,l2⟩:=QmY p x d v o.tour
  rw[hy] at l1 l2
  have hdl:=h.fe.ok.dl;have hpl:=QmA h.hF h.hn h.fe.ok h.fe.chk y (by omega) (by omega) q2 q1.drv q1.lft q1.one;refine ⟨⟨rfl,q1,q2,l1,l2⟩,hpl,?_⟩;obtain ⟨s,e,a1,a2,a3,_⟩:=QeM h.hF h.hn y (by omega) (by omega)
  rw[hpl] at a1
  injection a1 with a1
  rw[a3,←a1]
theorem Cx.mvs_ok {d v:Nat} (hd:d<p.Demands.length) (hv:v<p.Vehicles.length) {z:Ra} (hz:mvs F p x d v=some z):Qls p z∧JE z<JE (Je p x):=by
 obtain ⟨_,_,m3⟩:=h.move hd hv;unfold mvs at hz;cases hm:mvR F p x d v with
 | none=>rw[hm] at hz;cases hz
 | some y =>
  rw[hm] at hz
  simp only[Option.bind_some] at hz
  split at hz
  ·injection hz with hz
   subst hz;exact ⟨(m3 y hm).1,by assumption⟩
  ·cases hz
theorem Cx.all_ok {z:Ra} (hz:z∈QaM F p x p.Demands.length):Qls p z∧JE z<JE (Je p x):=by
 obtain ⟨d,v,h1,h2,h3⟩:=Qin hz;exact h.mvs_ok h1 h2 h3
theorem Cx.part_ok {d n:Nat} (hd:d<p.Demands.length) (hn:n≤p.Vehicles.length) {z:Ra} (hz:z∈QaM F p x d++QcU F p x d n):Qls p z:=by
 rcases List.mem_append.1 hz with hz | hz
 ·obtain ⟨d',v,h1,h2,h3⟩:=Qin hz;exact (h.mvs_ok (by omega) h2 h3).1
 ·obtain ⟨v,h1,h2⟩:=Qiy hz;exact (h.mvs_ok hd (by omega) h2).1
theorem Cx.part_len {d n:Nat} (hd:d<p.Demands.length) (hn:n≤p.Vehicles.length):(QaM F p x d++QcU F p x d n).length≤990:=by
 have h1:=Qf0 F p x d;have h2:=QfQ F p x d n;have h3:=h.fe.ok.dl;have h4:=h.hv;have:d*p.Vehicles.length≤31*30:=Nat.mul_le_mul (by omega) h4
 simp only[List.length_append]
 omega
theorem Cx.xOk:QbA (Je p x):=QmC h.fe.ok h.tl
theorem Cx.y_pro {y:Pl} (hy:Qls p (Je p y)) (hpl:Zw F p y=some (ZE p y.Tours,0)) {q:List Ra} (hq:q.length≤1000) :
  VH F p x (ZE p x.Tours) q y=some (q++(if JE (Je p y)<JE (Je p x) then some (Je p y) else none).toList):=by
 unfold VH QbF
 rw[hpl]
 obtain ⟨z,hz,hzz⟩:=Qhp (hy.cost h.hv) h.xOk;have hz':Yg (Qb.mk y (ZE p y.Tours)) (Qb.mk x (ZE p x.Tours))=some z:=hz
 simp only[Option.bind_some,oun,decide_true,cond_true,hz']
 by_cases hlt:JE (Je p y)<JE (Je p x)
 ·rw[if_pos hlt,decide_eq_true (hzz.2 hlt)]
  simp only[cond_true]
  rw[Yv (by simp;omega)]
  rfl
 ·rw[if_neg hlt,decide_eq_false (fun hh=>hlt (hzz.1 hh))]
  simp
theorem Cx.row_pro {d:Nat} (hd:d<p.Demands.length) {q:List Ra} (hq:q.length≤960) :
  iter (ZM F p x (ZE p x.Tours) p x d) (((p.Vehicles.length:Nat):Int).toNat+1) (0,q)=some (q++QcU F p x d p.Vehicles.length):=by
 have hvl:=h.hv;have:=Zb (body:=ZM F p x (ZE p x.Tours) p x d) p.Vehicles (fun k=>q++QcU F p x d k) (fun m k=>(k,m)) (fun _ _=>none) (q++QcU F p x d p.Vehicles.length) (by omega) (fun k y hk _=> ?_) (fun _=>by simp[ZM,oun]) (((p.Vehicles.length:Nat):Int).toNat+1) (by simp)
 ·rw[Ya _ _ (fun _ _ _=>rfl)] at this
  simpa [QcU] using this
 ·have h0:=QE hk;have h1:((k:Int)<((p.Vehicles.length:Nat):Int)):=by omega
  obtain ⟨m1,_,m3⟩:=h.move hd h0;have hrl:=QfQ F p x d k
  simp only[ZM,oun,h1,decide_true,cond_true,m1,Option.bind_some]
  cases hm:mvR F p x d k with
  | none=>simp[Qj2,Jp,QcU,mvs,hm]
  | some y =>
   obtain ⟨a1,a2,_⟩:=m3 y hm
   simp only[Qj2,cond_true]
   rw[h.y_pro a1 a2 (by simp;omega)]
   simp[Jp,QcU,mvs,hm]
theorem Cx.all_pro:Wr F p x (ZE p x.Tours) [] p x=some (QaM F p x p.Demands.length):=by
 have hdl:=h.fe.ok.dl;unfold Wr;have:=Zb (body:=Jv F p x (ZE p x.Tours) p x) p.Demands (fun k=>QaM F p x k) (fun m k=>(k,m)) (fun _ _=>none) (QaM F p x p.Demands.length) (by omega) (fun k y hk _=> ?_) (fun _=>by simp[Jv,oun]) (((p.Demands.length:Nat):Int).toNat+1) (by simp)
 ·rw[Ya _ _ (fun _ _ _=>rfl)] at this
  have e:(QaM F p x 0)=[]:=rfl
  rw[e] at this
  rw[this];rfl
 ·have h0:=QE hk;have h1:((k:Int)<((p.Demands.length:Nat):Int)):=by omega
  have hl:=Qf0 F p x k;have hvl:=h.hv;have:k*p.Vehicles.length≤31*30:=Nat.mul_le_mul (by omega) hvl
  simp only[Jv,oun,h1,decide_true,cond_true]
  rw[h.row_pro h0 (by omega)]
  simp[Jp,QaM]
theorem Cx.total:Zw F p x=some (ZE p x.Tours,0)∧Q4 p x=some 0∧Yi p x=some (ZE p x.Tours,0):=by
 obtain ⟨s,e,a1,a2,a3,a4⟩:=QeM h.hF h.hn x h.tl h.ll;have hbad: ∀(k:Nat) (t:To),x.Tours[k]? =some t→Qdj p x.Tours k t=none:=fun k t hk=>by
  obtain ⟨u,hu⟩:=Qdf (h.fe.drv t (List.mem_of_getElem? hk));have hany:(x.Tours.take k).any (fun u=>decide (u.Vehicle=t.Vehicle))=false:=by
   rw[List.any_eq_false]
   intro y hy he;obtain ⟨j,hj⟩:=List.getElem?_of_mem hy;have hjk:=QE hj;have hkl:=QE hk
   rw[Yx (Nat.le_of_lt hkl)] at hjk
   rw[List.getElem?_take,if_pos hjk] at hj
   have:=List.pairwise_iff_getElem.1 h.fe.dis j k (by omega) hkl hjk
   rw[List.getElem?_eq_getElem (by omega)] at hj hk
   injection hj with hj
   injection hk with hk
   rw[hj,hk,of_decide_eq_true he] at this
   exact this rfl
  unfold Qdj
  rw[hany,hu]
  rfl
 have he:e=0:=by
  have hp:=h.fe.ok;have hdl:=hp.dl;have htl:=h.tl;have hll:=h.ll;have hall: ∀t∈x.Tours,(∀s∈t.Stops,okS p.Demands.length s)∧t.Stops.length≤40:=fun t htm=>by
   obtain ⟨u,hu⟩:=Qdf (h.fe.drv t htm);exact (VN hp hu).2.2
  have q1:=QeU h.hF hp x h.tl
  rw[Ya _ _ (fun i t hi=>by rw[Nat.zero_add,hbad i t hi];rfl)] at q1
  have q3:=(Qc8 (n:=p.Demands.length) x (fun _=>0) (by omega) (fun _=>Nat.zero_le _)).1;have q4:=(Qcq (n:=p.Demands.length) x (fun d=>0+cn x.Left d) (by omega) (fun d=>by have:=Qi1 x.Left d;omega) (fun t htm=>by have:=(hall t htm).2;omega) (fun t htm=>(hall t htm).1)).1;have hbl:QfC p.Demands.length x.Left=false:=by
   unfold QfC
   rw[List.any_eq_false]
   intro e he;have:=h.fe.lft e he
   simp;omega
  have hv:(vec p.Demands.length fun d=>0+cn x.Left d+tn x.Tours d)=vec p.Demands.length fun _=>1:=Qcd fun d hd=>by have:=h.fe.one d hd;omega
  rw[hv] at q4
  rw[hbl] at q3
  have hmem: ∀c∈vec p.Demands.length (fun _=>1),c=(1:Int):=fun c hc=>by
   unfold vec at hc;obtain ⟨j,_,rfl⟩:=List.mem_map.1 hc
   rfl
  have b1:(vec p.Demands.length (fun _=>1)).any (fun c=>decide (1<c))=false:=by
   rw[List.any_eq_false];intro c hc;rw[hmem c hc];decide
  have b2:(vec p.Demands.length (fun _=>1)).any (fun c=>decide (c=0))=false:=by
   rw[List.any_eq_false];intro c hc;rw[hmem c hc];decide
  have hF:=h.hF;unfold Zw at a1
  rw[ZU (by omega) _ h.hn,h.fe.chk] at a1
  simp only[Option.bind_some,decide_true,Bool.not_true,cond_false] at a1
  rw[q1] at a1
  simp only[Option.bind_some,QR] at a1
  rw[QeD _ (by omega)] at a1
  simp only[Option.bind_some] at a1
  rw[q3] at a1
  simp only[cond_false,Option.bind_some,QR] at a1
  rw[q4] at a1
  simp only[Option.bind_some] at a1
  rw[Qhi _ (by rw[VR];omega),Qhk _ (by rw[VR];omega),b1,b2] at a1
  simp only[Option.bind_some,cond_false,Option.some.injEq,Prod.mk.injEq] at a1
  exact a1.2.symm
 subst he;have:=(a4 rfl).1;subst this;exact ⟨a1,a2,a3⟩
theorem Cx.pro: ∃L,Jg F p x=some (L.map Qb.plan,0)∧Srt JE L∧Y0 JE (QaM F p x p.Demands.length) L:=by
 have hdl:=h.fe.ok.dl;have hvl:=h.hv;have hl:=Qf0 F p x p.Demands.length;have h9:p.Demands.length*p.Vehicles.length≤32*30:=Nat.mul_le_mul (by omega) hvl;obtain ⟨L,s1,s2,s3⟩:=QlK (F:=F) (L:=QaM F p x p.Demands.length) (by omega) h.hF (fun z hz=>(h.all_ok hz).1.cost hvl);have hl2:=s3.perm.length_eq;refine ⟨L,?_,s2,s3⟩;unfold Jg QbF
 rw[h.total.1]
 simp only[Option.bind_some,oun,decide_true,Bool.not_true,cond_false]
 rw[h.all_pro]
 simp only[Option.bind_some]
 rw[s1]
 simp only[Option.bind_some]
 rw[QlC L (by omega)]
 rfl
end
end Go.Proofs.YthpgjbbjpfiniaaGreat
namespace Go.Proofs.YthpgjbbjpfiniaaGreat
open Go.RowKit
set_option linter.unusedSimpArgs false
set_option linter.unusedVariables false
abbrev rpl:Ra→Pl:=Qb.plan
abbrev rco:Ra→Int:=Qb.cost
theorem Qnn (a b c d:Int):YZ a b c d=some (decide (a<c)||(decide (a=c)&&decide (b<d))):=by
 unfold YZ
 by_cases h:a<c
 ·simp[h]
 ·by_cases h2:a=c
  ·subst h2;simp
  ·simp[h,h2]
theorem QhE {a b:Ra} (ha:QbA a) (hb:QbA b):YZ ((a.plan.Left.length:Nat):Int) a.cost ((b.plan.Left.length:Nat):Int) b.cost=some (decide (JE a<JE b)):=by
 rw[Qnn]
 congr 1
 unfold JE;obtain ⟨a0,a1⟩:=ha;obtain ⟨b0,b1⟩:=hb
 rw[Bool.eq_iff_iff]
 simp only[Bool.or_eq_true,Bool.and_eq_true,decide_eq_true_eq]
 omega
theorem Qop {c:Ra} (hc:QbA c): ∀(n:Nat) (Z R:List Ra) (f:Nat),Z.length=n→n<f→n≤100000→Srt JE Z→(∀z∈Z,QbA z) →
  ∃Z1 Z2,Z=Z1++Z2∧iter (Y2 ((Z++R).map rpl) ((Z++R).map rco) c.plan c.cost) f (n:Int)=some ((Z1.length:Nat):Int)∧(∀z∈Z1,JE z≤JE c)∧ ∀z∈Z2,JE c<JE z
 | _,_,_,0,_,h,_,_,_=>by omega
 | 0,Z,R,f+1,hZ,_,_,_,_=>by
  have:Z=[]:=List.eq_nil_of_length_eq_zero hZ;subst this;exact ⟨[],[],rfl,by simp[iter,Y2,QR],by simp,by simp⟩
 | n+1,Z,R,f+1,hZ,hf,hb,hs,ho=>by
  obtain ⟨Y,y,rfl⟩: ∃Y y,Z=Y++[y]:=by
   have:Z≠[]:=by intro e;rw[e] at hZ;simp at hZ
   exact ⟨Z.dropLast,Z.getLast this,(List.dropLast_concat_getLast this).symm⟩
  have hY:Y.length=n:=by simpa using hZ
  have h0:(0:Int)<((n+1:Nat):Int):=by omega
  have e1:w64 (((n+1:Nat):Int)-1)=(n:Int):=by rw[Yr (by omega) (by omega)];omega
  have g0:(Y++[y]++R)[n]? =some y:=by
   rw[List.append_assoc,List.getElem?_append_right (by omega),hY]
   simp
  have g1:((Y++[y]++R).map rpl)[n]? =some y.plan:=by rw[List.getElem?_map,g0];rfl
  have g2:((Y++[y]++R).map rco)[n]? =some y.cost:=by rw[List.getElem?_map,g0];rfl
  have hp:=List.pairwise_append.1 hs;have hk:=QhE hc (ho y (by simp))
  by_cases h:JE c<JE y
  ·obtain ⟨Z1,Z2,k1,k2,k3,k4⟩:=Qop hc n Y (y::R) f hY (by omega) (by omega) hp.1 (fun z hz=>ho z (by simp[hz]));refine ⟨Z1,Z2++[y],by rw[k1];simp,?_,k3,fun z hz=> ?_⟩
   ·have e2:Y++[y]++R=Y++y::R:=by simp
    rw[e2] at g1 g2 ⊢
    simp only[iter,Y2,h0,decide_true,cond_true,e1,QD,g1,g2,Option.bind_some,hk,h,QR,k2]
   ·rcases List.mem_append.1 hz with hz | hz
    ·exact k4 z hz
    ·rw[List.mem_singleton.1 hz];exact h
  ·refine ⟨Y++[y],[],by simp,?_,fun z hz=> ?_,by simp⟩
   ·simp only[iter,Y2,h0,decide_true,cond_true,e1,QD,g1,g2,Option.bind_some,hk,h,decide_false,cond_false,QR]
    rw[hZ]
   ·rcases List.mem_append.1 hz with hz | hz
    ·have:=hp.2.2 z hz y (by simp)
     omega
    ·rw[List.mem_singleton.1 hz];omega
theorem Qn6 {α β γ:Type} (f:α→β) (g:α→γ) (Z1 Z2:List α) (x:α) (hl:(Z1++Z2).length≤100000):(Option.bind (WS ((Z1++Z2).map g) 0 ((Z1.length:Nat):Int)) fun l1 =>
      Option.bind (Jf [] l1) fun l2 =>
      Option.bind (Jf l2 [g x]) fun l3 =>
      Option.bind (WS ((Z1++Z2).map g) ((Z1.length:Nat):Int) ((((Z1++Z2).map g).length:Nat):Int)) fun l4 =>
      Option.bind (Jf l3 l4) fun l5 =>
      Option.bind (WS ((Z1++Z2).map f) 0 ((Z1.length:Nat):Int)) fun l6 =>
      Option.bind (Jf [] l6) fun l7 =>
      Option.bind (Jf l7 [f x]) fun l8 =>
      Option.bind (WS ((Z1++Z2).map f) ((Z1.length:Nat):Int) ((((Z1++Z2).map f).length:Nat):Int)) fun l9 =>
      Option.bind (Jf l8 l9) fun l10 =>
      some (l5,l10))=some ((Z1++x::Z2).map g,(Z1++x::Z2).map f):=by
 simp only[List.length_append] at hl
 rw[VZ (by simp),Qbz (by simp),VZ (by simp),Qbz (by simp)]
 simp only[Option.bind_some]
 rw[Yv (by simp;omega)]
 simp only[Option.bind_some]
 rw[Yv (by simp;omega)]
 simp only[Option.bind_some]
 rw[Yv (by simp;omega)]
 simp only[Option.bind_some]
 rw[Yv (by simp;omega)]
 simp only[Option.bind_some]
 rw[Yv (by simp;omega)]
 simp only[Option.bind_some]
 rw[Yv (by simp;omega)]
 simp[List.map_append]
section
variable {F:Nat} {p:Pr} {x:Pl} (h:Cx F p x)
include h
theorem Cx.empty_total: ∃s e,Yi p ⟨[],[]⟩=some (s,e):=by
 obtain ⟨s,e,_,_,a3,_⟩:=QeM h.hF h.hn ⟨[],[]⟩ (by simp) (by simp);exact ⟨s,e,a3⟩
theorem Cx.row_ref {d:Nat} (hd:d<p.Demands.length): ∀(r v:Nat) (L:List Ra) (f:Nat),v+r=p.Vehicles.length→r<f→Srt JE L→Y0 JE (QaM F p x d++QcU F p x d v) L →
  ∃L',iter (YK F p x (ZE p x.Tours) d) f (L.map rpl,L.map rco,(v:Int))=some (L'.map rpl,L'.map rco)∧Srt JE L'∧Y0 JE (QaM F p x d++QcU F p x d p.Vehicles.length) L'
 | _,_,_,0,_,hf,_,_=>by omega
 | 0,v,L,f+1,hv,_,h1,h2=>by
  have hv:v=p.Vehicles.length:=by omega
  subst hv;refine ⟨L,?_,h1,h2⟩
  simp only[iter,YK,oun,Int.lt_irrefl,decide_false,cond_false,Option.bind_some,QR]
 | r+1,v,L,f+1,hv,hf,h1,h2=>by
  have hvv:v<p.Vehicles.length:=by omega
  have hvl:=h.hv;have hlt:((v:Int)<((p.Vehicles.length:Nat):Int)):=by omega
  have e2:w64 ((v:Int)+1)=((v+1:Nat):Int):=by rw[Yr (by omega) (by omega)];omega
  obtain ⟨_,m2,m3⟩:=h.move hd hvv;have hlen:L.length≤990:=by
   rw[←h2.perm.length_eq]
   exact h.part_len hd (by omega)
  have hok: ∀z∈L,QbA z:=fun z hz=>(h.part_ok hd (show v≤p.Vehicles.length by omega) (h2.perm.symm.subset hz)).cost hvl;have keep:mvs F p x d v=none→Y0 JE (QaM F p x d++QcU F p x d (v+1)) L:=fun hm=>by
   simp only[QcU,hm,Option.toList_none,List.append_nil]
   exact h2
  cases hm:mvR F p x d v with
  | none =>
   obtain ⟨s,e,ht⟩:=h.empty_total;obtain ⟨L',q1,q2,q3⟩:=Cx.row_ref hd r (v+1) L f (by omega) (by omega) h1 (keep (by unfold mvs;rw[hm];rfl));refine ⟨L',?_,q2,q3⟩
   rw[hm] at m2
   simp only[iter,YK,oun,hlt,decide_true,cond_true,m2,Qj2,Option.bind_some,ht,Bool.not_false,e2,QR,q1]
  | some y =>
   obtain ⟨a1,a2,a3⟩:=m3 y hm
   rw[hm] at m2
   have hyc:=a1.cost hvl;have hb:YZ ((y.Left.length:Nat):Int) (ZE p y.Tours) ((x.Left.length:Nat):Int) (ZE p x.Tours)=some (decide (JE (Je p y)<JE (Je p x))):=QhE hyc h.xOk
   by_cases hlt2:JE (Je p y)<JE (Je p x)
   ·have hms:mvs F p x d v=some (Je p y):=by unfold mvs;rw[hm];simp only[Option.bind_some];rw[if_pos hlt2]
    have hF:=h.hF;obtain ⟨Z1,Z2,k1,k2,k3,k4⟩:=Qop (c:=Je p y) hyc L.length L [] F rfl (by omega) (by omega) h1 hok
    rw[List.append_nil] at k2
    obtain ⟨j1,j2⟩:=QfM (k:=JE) (x:=Je p y) (by rw[←k1];exact h1) k4 k3
    rw[←k1] at j2
    have h3:Y0 JE (QaM F p x d++QcU F p x d (v+1)) (Z1++Je p y::Z2):=by
     simp only[QcU,hms,Option.toList_some]
     rw[←List.append_assoc]
     exact Y0.trans (h2.append (Y0.refl _)) j2
    obtain ⟨L',q1,q2,q3⟩:=Cx.row_ref hd r (v+1) (Z1++Je p y::Z2) f (by omega) (by omega) j1 h3;refine ⟨L',?_,q2,q3⟩;have hmi:=Qn6 rco rpl Z1 Z2 (Je p y) (by rw[←k1];omega)
    rw[←k1] at hmi
    have hmi':=hmi
    rw[List.length_map,List.length_map] at hmi'
    have k2':iter (Y2 (L.map rpl) (L.map rco) y (ZE p y.Tours)) F ((L.length:Nat):Int)=some ((Z1.length:Nat):Int):=k2
    simp only[iter,YK,oun,hlt,decide_true,cond_true,m2,Qj2,Option.bind_some,a3,Bool.not_true,cond_false,hb,hlt2,List.length_map,k2']
    have hmi2:_=_:=hmi'
    rw[show rpl (Je p y)=y from rfl,show rco (Je p y)=ZE p y.Tours from rfl] at hmi2
    rw[hmi2]
    simp only[Option.bind_some,e2,QR,q1]
   ·have hms:mvs F p x d v=none:=by unfold mvs;rw[hm];simp only[Option.bind_some];rw[if_neg hlt2]
    obtain ⟨L',q1,q2,q3⟩:=Cx.row_ref hd r (v+1) L f (by omega) (by omega) h1 (keep hms);refine ⟨L',?_,q2,q3⟩
    simp only[iter,YK,oun,hlt,decide_true,cond_true,m2,Qj2,Option.bind_some,a3,Bool.not_true,cond_false,hb,hlt2,decide_false,Bool.not_false,e2,QR,q1]
theorem Cx.all_ref: ∀(r d:Nat) (L:List Ra) (f:Nat),d+r=p.Demands.length→r<f→Srt JE L→Y0 JE (QaM F p x d) L →
  ∃L',iter (Y7 F p x (ZE p x.Tours)) f (L.map rpl,L.map rco,(d:Int))=some (L'.map rpl)∧Srt JE L'∧Y0 JE (QaM F p x p.Demands.length) L'
 | _,_,_,0,_,hf,_,_=>by omega
 | 0,d,L,f+1,hd,_,h1,h2=>by
  have hd:d=p.Demands.length:=by omega
  subst hd;refine ⟨L,?_,h1,h2⟩
  simp only[iter,Y7,oun,Int.lt_irrefl,decide_false,cond_false,Option.bind_some,QR]
 | r+1,d,L,f+1,hd,hf,h1,h2=>by
  have hdd:d<p.Demands.length:=by omega
  have hdl:=h.fe.ok.dl;have hlt:((d:Int)<((p.Demands.length:Nat):Int)):=by omega
  have e2:w64 ((d:Int)+1)=((d+1:Nat):Int):=by rw[Yr (by omega) (by omega)];omega
  obtain ⟨M,q1,q2,q3⟩:=h.row_ref hdd p.Vehicles.length 0 L (((p.Vehicles.length:Nat):Int).toNat+1) (by omega) (by simp) h1 (by simpa [QcU] using h2);obtain ⟨L',g1,g2,g3⟩:=Cx.all_ref r (d+1) M f (by omega) (by omega) q2 q3;refine ⟨L',?_,g2,g3⟩;have q1':iter (YK F p x (ZE p x.Tours) d) (((p.Vehicles.length:Nat):Int).toNat+1) (L.map rpl,L.map rco,0)=some (M.map rpl,M.map rco):=q1;have hb:Y7 F p x (ZE p x.Tours) (L.map rpl,L.map rco,(d:Int))=some (.inl (M.map rpl,M.map rco,((d+1:Nat):Int))):=by
   unfold Y7
   simp only[oun,hlt,decide_true,cond_true]
   rw[q1']
   simp only[Option.bind_some,e2]
  simp only[iter,hb,Option.bind_some,QR,g1]
theorem Cx.both: ∃L,Jg F p x=some (L.map rpl,0)∧Jy F p x=some (L.map rpl,0)∧Srt JE L∧Y0 JE (QaM F p x p.Demands.length) L:=by
 obtain ⟨L,h1,h2,h3⟩:=h.pro;obtain ⟨L',g1,g2,g3⟩:=h.all_ref p.Demands.length 0 [] (((p.Demands.length:Nat):Int).toNat+1) (by omega) (by simp) List.Pairwise.nil (Y0.refl _);have:L=L':=Srt.unique h2 g2 (h3.symm.trans g3);subst this;refine ⟨L,h1,?_,h2,h3⟩;unfold Jy
 rw[h.total.2.1,h.total.2.2]
 simp only[Option.bind_some,oun,decide_true,Bool.not_true,cond_false]
 have g1':iter (Y7 F p x (ZE p x.Tours)) (((p.Demands.length:Nat):Int).toNat+1) ([],[],0)=some (L.map rpl):=g1
 rw[g1']
 rfl
end
end Go.Proofs.YthpgjbbjpfiniaaGreat
namespace Go.Proofs.YthpgjbbjpfiniaaGreat
open Go.RowKit
set_option linter.unusedSimpArgs false
set_option linter.unusedVariables false
theorem Cx.next {F:Nat} {p:Pr} {x:Pl} (h:Cx F p x) {z:Ra} (hz:z∈QaM F p x p.Demands.length):Cx F p z.plan∧z=Je p z.plan∧JE z<JE (Je p x):=by
 obtain ⟨h1,h2⟩:=h.all_ok hz;have h3:=h1.tl;have h4:=h1.ll;have h5:=h.hv;have h6:=h.fe.ok.dl;exact ⟨⟨h.hF,h.hn,h.hv,h1.fe,by omega,by omega⟩,h1.eq,h2⟩
theorem QnE {z:Ra} (h:QbA z):0≤JE z:=by
 unfold JE;have:=h.1
 omega
theorem Cx.key_lt {F:Nat} {p:Pr} {x:Pl} (h:Cx F p x):JE (Je p x)<((200000000000000:Nat):Int):=by
 have h1:=h.xOk.2;have h2:=h.ll;unfold JE;have h3:(Je p x).plan.Left.length=x.Left.length:=rfl
 rw[h3]
 omega
theorem Qo8 {F:Nat} {p:Pr}: ∀(n:Nat) (x:Pl) (f:Nat),Cx F p x→JE (Je p x)<(n:Int)→n≤f →
  ∃y,iter (Jw F p) f (x.Tours,x.Left)=some (y,0)∧iter (JQ F p) f (x.Tours,x.Left)=some (y,0)∧Cx F p y∧QaM F p y p.Demands.length=[]∧JE (Je p y)≤JE (Je p x):=by
 intro n
 induction n with
 | zero =>
  intro x f h hk _;have:=QnE h.xOk
  omega
 | succ n ih =>
  intro x f h hk hf;obtain ⟨f,rfl⟩: ∃g,f=g+1:=⟨f-1,by omega⟩
  obtain ⟨L,h1,h2,h3,h4⟩:=h.both;have h1':Jg F p (Qk.mk x.Tours x.Left)=some (L.map rpl,0):=h1;have h2':Jy F p (Qk.mk x.Tours x.Left)=some (L.map rpl,0):=h2;cases L with
  | nil =>
   refine ⟨x,?_,?_,h,h4.perm.eq_nil,Int.le_refl _⟩
   ·simp only[iter,Jw,oun,h1',Option.bind_some,decide_true,Bool.not_true,cond_false,List.map_nil,List.length_nil]
    rfl
   ·simp only[iter,JQ,oun,h2',Option.bind_some,decide_true,Bool.not_true,cond_false,List.map_nil,List.length_nil]
    rfl
  | cons z M =>
   obtain ⟨c1,c2,c3⟩:=h.next (h4.perm.symm.subset List.mem_cons_self);obtain ⟨y,q1,q2,q3,q4,q5⟩:=ih z.plan f c1 (by rw[←c2];omega) (by omega)
   rw[←c2] at q5
   have hne: ¬((((z::M).map rpl).length:Nat):Int)=0:=by simp only[List.map_cons,List.length_cons];omega
   have hg:getI ((z::M).map rpl) 0=some z.plan:=rfl;refine ⟨y,?_,?_,q3,q4,by omega⟩
   ·simp only[iter,Jw,oun,h1',Option.bind_some,decide_true,Bool.not_true,cond_false,hne,decide_false,hg,QR,q1]
   ·simp only[iter,JQ,oun,h2',Option.bind_some,decide_true,Bool.not_true,cond_false,hne,decide_false,hg,QR,q2]
theorem QkB {F:Nat} (hF:40000≤F) {p:Pr} (hn:p.Road.Edges.length≤600) (hv:p.Vehicles.length≤30) (hp:OkP p) (hc:Qv p=some 0):Cx F p (QaW F p):=by
 have h1:=QoT hF hn hv hp hc;have hi:=QeZ hF hp hn p.Demands.length;have hl1:=QeW (QcC F p p.Demands.length).1;have hl2:=hi.len;have hl3:=hi.ll;have hdl:=hp.dl;have ht:(QaW F p).Tours.length≤30:=by show (Qbb (QcC F p p.Demands.length).1).length≤30;omega
 have hl:(QaW F p).Left.length≤100:=by show ((QcC F p p.Demands.length).2).length≤100;omega
 obtain ⟨s,e,a1,_,_,a4⟩:=QeM hF hn (QaW F p) ht hl
 rw[h1] at a1
 injection a1 with a1
 injection a1 with a2 a3
 exact ⟨hF,hn,hv,(a4 a3.symm).2,ht,hl⟩
theorem QqY {F:Nat} (hF:200000000000000≤F) (p:Pr) (hn:p.Road.Edges.length≤600) (hv:p.Vehicles.length≤30) (hd:p.Demands.length≤1000) :
  ∃e,Qv p=some e∧((e≠0∧ZB F p=some (⟨[],[]⟩,e)∧Z8 F p=some (⟨[],[]⟩,e)∧Vw F p=some (⟨[],[]⟩,e)) ∨
   (e=0∧ ∃y,ZB F p=some (y,0)∧Z8 F p=some (y,0)∧Cx F p y∧QaM F p y p.Demands.length=[]∧JE (Je p y)≤JE (Je p (QaW F p))∧Cx F p (QaW F p)∧Vw F p=some (QaW F p,0))):=by
 have hF4:40000≤F:=Nat.le_trans (by decide) hF;obtain ⟨e,h1,h2⟩:=Qh7 hF4 p hn (by omega) hd;refine ⟨e,h1,?_⟩;rcases h2 with ⟨h2,h3,h4⟩ | ⟨h2,h3,h4,h5⟩
 ·refine .inl ⟨h2,?_,?_,h3⟩
  ·unfold ZB
   rw[h3]
   simp[oun,h2]
  ·unfold Z8
   rw[h4]
   simp[oun,h2]
 ·subst h2;have hb:=QkB hF4 hn hv h3 h1;obtain ⟨y,q1,q2,q3,q4,q5⟩:=Qo8 200000000000000 (QaW F p) F hb hb.key_lt hF;refine .inr ⟨rfl,y,?_,?_,q3,q4,q5,hb,h4⟩
  ·unfold ZB
   rw[h4]
   simp only[Option.bind_some,oun,decide_true,Bool.not_true,cond_false]
   rw[q1]
   rfl
  ·unfold Z8
   rw[h5]
   simp only[Option.bind_some,oun,decide_true,Bool.not_true,cond_false]
   rw[q2]
   rfl
theorem QcR (x:Pl) (h1:x.Tours.length≤1000000) (h2: ∀t∈x.Tours,t.Stops.length≤1000000) (h3:x.Left.length≤1000000):YA x x=some true:=by
 unfold YA
 rw[Ql0 _ h1 h2,Qi7 _ h3]
 rfl
theorem Cx.same {F:Nat} {p:Pr} {x:Pl} (h:Cx F p x):YA x x=some true:=by
 have h1:=h.tl;have h2:=h.ll;exact QcR x (by omega) (fun t ht=>by have:=(h.fe.tour ht).2.2.1;omega) (by omega)
theorem Qj9 (p:Pr) (x:Pl):(∃b,Za p x=some b)∧(Za p x=some false→p.Road.Edges.length≤100∧p.Vehicles.length≤4∧p.Demands.length≤8∧x.Tours.length≤8∧x.Left.length≤100):=by
 obtain ⟨⟨b,hb⟩,hl⟩:=QlN p;obtain ⟨⟨b2,hb2⟩,hl2⟩:=Qiz x;unfold Za
 rw[hb,hb2]
 cases b with
 | true=>exact ⟨⟨true,rfl⟩,fun e=>by cases e⟩
 | false =>
  cases b2 with
  | true=>exact ⟨⟨true,rfl⟩,fun e=>by cases e⟩
  | false =>
   obtain ⟨g2,g3⟩:=hl2 hb2
   simp only[Option.bind_some,cond_false]
   by_cases h1:(100:Int)<((p.Road.Edges.length:Nat):Int)
   ·simp only[h1,decide_true,cond_true,Option.bind_some]
    exact ⟨⟨true,rfl⟩,fun e=>by cases e⟩
   by_cases h2:(4:Int)<((p.Vehicles.length:Nat):Int)
   ·simp only[h1,h2,decide_true,decide_false,cond_true,cond_false,Option.bind_some]
    exact ⟨⟨true,rfl⟩,fun e=>by cases e⟩
   by_cases h3:(8:Int)<((p.Demands.length:Nat):Int)
   ·simp only[h1,h2,h3,decide_true,decide_false,cond_true,cond_false,Option.bind_some]
    exact ⟨⟨true,rfl⟩,fun e=>by cases e⟩
   by_cases h4:(8:Int)<((x.Tours.length:Nat):Int)
   ·simp only[h1,h2,h3,h4,decide_true,decide_false,cond_true,cond_false,Option.bind_some]
    exact ⟨⟨true,rfl⟩,fun e=>by cases e⟩
   simp only[h1,h2,h3,h4,decide_false,cond_false,Option.bind_some]
   obtain ⟨o,ho⟩:=QbG (body:=Jo x) (N:=x.Tours.length) (by omega) (fun k hk=>by
    obtain ⟨t,ht⟩: ∃t,x.Tours[k]? =some t:=⟨_,List.getElem?_eq_getElem hk⟩
    have hk2:((k:Int)<((x.Tours.length:Nat):Int)):=by omega
    simp only[Jo,hk2,decide_true,cond_true,QD,ht,Option.bind_some,Wz (show k<9223372036854775807 by omega)]
    cases decide ((16:Int)<((t.Stops.length:Nat):Int)) with
    | true=>exact .inl ⟨_,rfl⟩
    | false=>exact .inr rfl) ⟨_,by simp[Jo];rfl⟩ x.Tours.length 0 (by omega)
   refine ⟨?_,fun _=>by omega⟩
   rw[show (((x.Tours.length:Nat):Int).toNat+1)=x.Tours.length+1 by simp,show (0:Int)=((0:Nat):Int) from rfl,ho]
   cases o with
   | inl u=>exact ⟨false,rfl⟩
   | inr b=>exact ⟨b,rfl⟩
structure Lt (p:Pr) (x:Pl):Prop where
 ed:p.Road.Edges.length≤600
 ve:p.Vehicles.length≤4
 de:p.Demands.length≤8
 to:x.Tours.length≤8
 le:x.Left.length≤100
theorem Qpe (p:Pr) (x:Pl):Za p x=some true∨(Za p x=some false∧Lt p x):=by
 obtain ⟨⟨b,hb⟩,hl⟩:=Qj9 p x;cases b with
 | true=>exact .inl hb
 | false =>
  obtain ⟨h1,h2,h3,h4,h5⟩:=hl hb;exact .inr ⟨hb,⟨by omega,h2,h3,h4,h5⟩⟩
end Go.Proofs.YthpgjbbjpfiniaaGreat
namespace Go.Proofs.YthpgjbbjpfiniaaGreat
open Go.RowKit
set_option linter.unusedSimpArgs false
set_option linter.unusedVariables false
abbrev Rn:=Q6
theorem QhY {body:Int→Option (Int⊕(Unit⊕Bool))} {a b:List Rn} (hl:a.length=b.length) (hn:a.length≤1000000) (hb: ∀k,body k=bif decide (k<((a.length:Nat):Int)) then Option.bind (getI a k) fun x1=>Option.bind (getI b k) fun x2=>bif (!(decide (x1=x2))) then some (.inr (.inr false)) else some (.inl (w64 (k+1))) else some (.inr (.inl ()))): ∀(r k f:Nat),k+r=a.length→r<f→a.take k=b.take k →
  iter body f (k:Int)=some (if a=b then .inl () else .inr false)
 | _,_,0,_,h,_=>by omega
 | 0,k,f+1,hk,_,ht=>by
  have h1: ¬((k:Int)<((a.length:Nat):Int)):=by omega
  have:a=b:=by
   have h2:a.take k=a:=List.take_of_length_le (by omega);have h3:b.take k=b:=List.take_of_length_le (by omega)
   rw[h2,h3] at ht;exact ht
  simp only[iter,hb,h1,decide_false,cond_false,Option.bind_some,QR]
  rw[if_pos this]
 | r+1,k,f+1,hk,hf,ht=>by
  have h1:((k:Int)<((a.length:Nat):Int)):=by omega
  have ga:a[k]? =some a[k]:=List.getElem?_eq_getElem (by omega);have gb:b[k]? =some b[k]:=List.getElem?_eq_getElem (by omega);have e1:w64 ((k:Int)+1)=((k+1:Nat):Int):=by rw[Yr (by omega) (by omega)];omega
  by_cases h:a[k]=b[k]
  ·have ih:=QhY hl hn hb r (k+1) f (by omega) (by omega) (by rw[YU ga,YU gb,ht,h])
   simp only[iter]
   rw[hb]
   simp only[h1,decide_true,cond_true,QD,ga,gb,Option.bind_some,h,Bool.not_true,cond_false,QR,e1]
   exact ih
  ·have:a≠b:=by intro e;subst e;exact h rfl
   simp only[iter]
   rw[hb]
   simp only[h1,decide_true,cond_true,QD,ga,gb,Option.bind_some,h,decide_false,Bool.not_false,cond_true,QR]
   rw[if_neg this]
theorem Qow {a b:List Rn} (hn:a.length≤1000000):Yq a b=some (decide (a=b))∧Qb0 a b=some (decide (a=b)):=by
 unfold Yq Qb0
 by_cases hl:a.length=b.length
 ·have h1:=QhY (body:=Wp a b) hl hn (fun k=>rfl) a.length 0 (((a.length:Nat):Int).toNat+1) (by omega) (by simp) (by simp);have h2:=QhY (body:=Qbk a b) hl hn (fun k=>rfl) a.length 0 (((a.length:Nat):Int).toNat+1) (by omega) (by simp) (by simp);have hl':(((a.length:Nat):Int)=((b.length:Nat):Int)):=by omega
  simp only[hl',decide_true,Bool.not_true,cond_false]
  rw[←hl',show (0:Int)=((0:Nat):Int) from rfl,h1,h2]
  by_cases h:a=b
  ·simp[h,QR]
  ·simp[h,QR]
 ·have hl': ¬(((a.length:Nat):Int)=((b.length:Nat):Int)):=by omega
  have:a≠b:=by intro e;subst e;exact hl rfl
  simp[hl',this]
def QgU (p:Pr) (d v:Nat):Int:=(Qdx p ⟨(v:Int),[(d:Int),-1]⟩).2.1
structure Rs (F:Nat) (p:Pr) (x:Pl) (d v:Nat) (r:Int) (ve:Ve) (de:De) (car:Bool) (L:List Op):Prop where
 hv:p.Vehicles[v]? =some ve
 hd:p.Demands[d]? =some de
 hc:Jk ve de.Kind=some car
 ops:JO F p (ofP x v) d=some (L.map JF,0)
 bst: ∃e,Qaf F p (ofP x v) d=some (hdT L,e)∧(e=0↔L≠[])
 hdO:bsO F p x d v=L.head?
 cb:car=Qib ve de.Kind
 eq:r=bif !car then 21 else bif decide (ve.Grams<de.Grams) then 20 else bif !(decide (QgU p d v=0)) then QgU p d v else bif decide ((((L.map JF).length:Nat):Int)=0) then 40 else 0
section
variable {F:Nat} {p:Pr} {x:Pl} (h:Cx F p x)
include h
theorem Cx.not_in {d:Nat} (hd:(d:Int)∈x.Left) (v:Int):(d:Int)∉(ofP x v).Stops:=by
 have h1:=h.fe.lft _ hd;have h2:=h.fe.one d (by omega);have h3:0<cn x.Left d:=List.count_pos_iff.2 hd;rcases Qhm x v with ⟨h4,_⟩ | h4
 ·have h5:=QpJ h4 d;intro hm;have h6:0<cn (ofP x v).Stops d:=List.count_pos_iff.2 hm
  omega
 ·rw[h4];simp
theorem Cx.tO_self {d:Nat} (hd:(d:Int)∈x.Left) (v:Int):tO x (d:Int) v=ofP x v:=by
 unfold tO
 rw[QfL (fun y hy=>by
  simp only[decide_eq_false_iff_not]
  intro e
  rw[e] at hy
  exact h.not_in hd v hy)]
 have:=Qmu x v;cases hq:ofP x v with
 | mk a b=>rw[hq] at this;simp only at this ⊢;rw[this]
theorem Cx.reason {d v:Nat} (hd:(d:Int)∈x.Left) (hv:v<p.Vehicles.length): ∃r ve de car L,Yz F p x d v=some r∧Vb F p x d v=some r∧Rs F p x d v r ve de car L:=by
 have hF:=h.hF;have htl:=h.tl;have hdd:=h.fe.lft _ hd;have hdl:d<p.Demands.length:=by omega
 have g1:p.Vehicles[v]? =some p.Vehicles[v]:=List.getElem?_eq_getElem hv;have g2:p.Demands[d]? =some p.Demands[d]:=List.getElem?_eq_getElem hdl;have hvk:=h.fe.ok.ve _ (List.mem_of_getElem? g1);have hdk:=h.fe.ok.de _ (List.mem_of_getElem? g2);obtain ⟨c1,c2⟩:=Qfx hvk hdk.k0 hdk.k1;have hs:(ofP x (v:Int)).Stops.length≤1000:=by have:=h.fe.of_len v;omega
 obtain ⟨L,e,o1,o2,o3,o4⟩:=Qbf hF p h.hn (ofP x v) hs d;have hbad:QjJ p (ofP x v) d=false:=by
  unfold QjJ
  rw[Qmu]
  simp;omega
 have he:=o4 h.fe.chk hbad
 rw[show decide ((d:Int)∈(ofP x (v:Int)).Stops)=false from decide_eq_false (h.not_in hd v)] at he
 have he:e=0:=he;subst he;obtain ⟨b1,b2⟩:=Qig hF p h.hn (ofP x v) hs d;obtain ⟨e',k1,k2,_⟩:=Qjy o2 o3;have hbs:bsO F p x d v=L.head? :=by
  unfold bsO V9
  rw[h.tO_self hd,o1]
  cases L<;>rfl
 refine ⟨_,p.Vehicles[v],p.Demands[d],Qib p.Vehicles[v] p.Demands[d].Kind,L,?_,?_,⟨g1,g2,c1,by rw[b1,o2],⟨e',by rw[b2,k1],k2⟩,hbs,rfl,rfl⟩⟩
 ·unfold Yz
  rw[QD,QD,g1,g2]
  simp only[Option.bind_some,c1]
  rw[Qml hF h.fe.ok h.fe.chk h.hn,(Qiw (x:=x) (v:Int) (by omega)).1]
  simp only[Option.bind_some,oun,b1,o2]
  cases Qib p.Vehicles[v] p.Demands[d].Kind with
  | false=>rfl
  | true =>
   simp only[Bool.not_true,cond_false]
   cases decide (p.Vehicles[v].Grams<p.Demands[d].Grams) with
   | true=>rfl
   | false =>
    simp only[cond_false]
    show (bif !(decide (QgU p d v=0)) then some (QgU p d v) else _)=_
    cases decide (QgU p d v=0) with
    | false=>rfl
    | true =>
     simp only[Bool.not_true,cond_false,decide_true]
     cases decide ((((L.map JF).length:Nat):Int)=0)<;>rfl
 ·unfold Vb
  rw[QD,QD,g1,g2]
  simp only[Option.bind_some,c2]
  rw[Qhs h.fe.ok h.fe.chk,(Qiw (x:=x) (v:Int) (by omega)).2]
  simp only[Option.bind_some,oun,o2]
  cases Qib p.Vehicles[v] p.Demands[d].Kind with
  | false=>rfl
  | true =>
   simp only[Bool.not_true,cond_false]
   cases decide (p.Vehicles[v].Grams<p.Demands[d].Grams) with
   | true=>rfl
   | false =>
    simp only[cond_false]
    show (bif !(decide (QgU p d v=0)) then some (QgU p d v) else _)=_
    cases decide (QgU p d v=0) with
    | false=>rfl
    | true =>
     simp only[Bool.not_true,cond_false]
     cases decide ((((L.map JF).length:Nat):Int)=0)<;>rfl
def rsn (F:Nat) (p:Pr) (x:Pl) (d v:Nat):Int:=(Yz F p x d v).getD 0
theorem Cx.rsn_at {d v:Nat} (hd:(d:Int)∈x.Left) (hv:v<p.Vehicles.length):Yz F p x d v=some (rsn F p x d v)∧Vb F p x d v=some (rsn F p x d v)∧ ∃ve de car L,Rs F p x d v (rsn F p x d v) ve de car L:=by
 obtain ⟨r,ve,de,car,L,h1,h2,h3⟩:=h.reason hd hv;have:rsn F p x d v=r:=by unfold rsn;rw[h1];rfl
 rw[this]
 exact ⟨h1,h2,ve,de,car,L,h3⟩
end
def rsL (F:Nat) (p:Pr) (x:Pl) (d:Nat) (n:Nat):List Rn:=(List.range n).map fun v:Nat=>⟨(v:Int),rsn F p x d v⟩
theorem QmB (F:Nat) (p:Pr) (x:Pl) (d n:Nat):(rsL F p x d n).length=n:=by simp[rsL]
theorem Qn2 (F:Nat) (p:Pr) (x:Pl) (d n:Nat):rsL F p x d (n+1)=rsL F p x d n++[⟨(n:Int),rsn F p x d n⟩]:=by simp[rsL,List.range_succ]
theorem Qkh {F:Nat} {p:Pr} {x:Pl} {d:Nat} {body:List Rn×Int→Option ((List Rn×Int)⊕List Rn)} {rf:Int→Option Int} (hV:p.Vehicles.length≤1000) (hb: ∀q:List Rn×Int,body q=bif decide (q.2<((p.Vehicles.length:Nat):Int)) then Option.bind (rf q.2) fun r3=>Option.bind (Jf q.1 [⟨q.2,r3⟩]) fun l1=>some (.inl (l1,w64 (q.2+1))) else some (.inr q.1))
  (hr: ∀v:Nat,v<p.Vehicles.length→rf v=some (rsn F p x d v)):iter body (((p.Vehicles.length:Nat):Int).toNat+1) ([],0)=some (rsL F p x d p.Vehicles.length):=by
 have:=Zb (body:=body) p.Vehicles (fun k=>rsL F p x d k) (fun m k=>(m,k)) (fun _ _=>none) (rsL F p x d p.Vehicles.length) (by omega) (fun k y hk _=> ?_) (fun _=>by rw[hb];simp) (((p.Vehicles.length:Nat):Int).toNat+1) (by simp)
 ·rw[Ya _ _ (fun _ _ _=>rfl)] at this
  exact this
 ·have h0:=QE hk;have h1:((k:Int)<((p.Vehicles.length:Nat):Int)):=by omega
  have h2:=QmB F p x d k
  rw[hb]
  simp only[h1,decide_true,cond_true,hr k h0,Option.bind_some]
  rw[Yv (by simp;omega),Qn2]
  rfl
theorem Qpt {F:Nat} (hF:40000≤F) {p:Pr} (hn:p.Road.Edges.length≤600) (hv:p.Vehicles.length≤30) (x:Pl) (hx:x.Tours.length≤30) (hl:x.Left.length≤100) (d:Int) :
  ∃R e,WQ F p x d=some (R,e)∧Qcm F p x d=some (R,e)∧R.length≤30∧((e≠0∧R=[])∨(e=0∧Cx F p x∧ ∃n:Nat,d=(n:Int)∧d∈x.Left∧n<p.Demands.length∧R=rsL F p x n p.Vehicles.length))∧(d∈x.Left→W3 F p x=some 0→e=0):=by
 obtain ⟨s,e,a1,a2,a3,a4⟩:=QeM hF hn x hx hl;have hfe:W3 F p x=some e:=by unfold W3;rw[a1];rfl
 unfold WQ Qcm
 rw[hfe,a2]
 by_cases he:e=0
 ·have hc:Cx F p x:=⟨hF,hn,hv,(a4 he).2,hx,hl⟩
  subst he
  simp only[Option.bind_some,decide_true,Bool.not_true,cond_false]
  by_cases h1:d<0
  ·simp only[h1,decide_true,cond_true,Option.bind_some]
   exact ⟨[],7,rfl,rfl,by simp,.inl ⟨by decide,rfl⟩,fun hm _=>by have:=hc.fe.lft _ hm;omega⟩
  by_cases h2:((p.Demands.length:Nat):Int)≤d
  ·simp only[h1,h2,decide_true,decide_false,cond_true,cond_false,Option.bind_some]
   exact ⟨[],7,rfl,rfl,by simp,.inl ⟨by decide,rfl⟩,fun hm _=>by have:=hc.fe.lft _ hm;omega⟩
  simp only[h1,h2,decide_false,cond_false,Option.bind_some]
  rw[QnU d (by omega),QcO _ (by omega)]
  simp only[Option.bind_some]
  by_cases h3:d∈x.Left
  ·obtain ⟨n,rfl⟩: ∃n:Nat,d=(n:Int):=⟨d.toNat,by omega⟩
   simp only[h3,decide_true,Bool.not_true,cond_false]
   have q1:=Qkh (F:=F) (p:=p) (x:=x) (d:=n) (body:=QbZ F p x n) (rf:=Yz F p x n) (by omega) (fun q=>rfl) (fun v hv=>(hc.rsn_at h3 hv).1);have q2:=Qkh (F:=F) (p:=p) (x:=x) (d:=n) (body:=Qbv F p x n) (rf:=Vb F p x n) (by omega) (fun q=>rfl) (fun v hv=>(hc.rsn_at h3 hv).2.1)
   rw[q1,q2]
   exact ⟨_,0,rfl,rfl,by rw[QmB];exact hv,.inr ⟨rfl,hc,n,rfl,by first | exact h3 | trivial,by omega,rfl⟩,fun _ _=>rfl⟩
  ·simp only[h3,decide_false,Bool.not_false,cond_true]
   exact ⟨[],13,rfl,rfl,by simp,.inl ⟨by decide,rfl⟩,fun hm _=>by first | exact absurd hm h3 | exact hm.elim⟩
 ·simp only[Option.bind_some,he,decide_false,Bool.not_false,cond_true]
  exact ⟨[],e,rfl,rfl,by simp,.inl ⟨he,rfl⟩,fun _ h=>by first | (injection h;done) | (injection h with h;exact h)⟩
end Go.Proofs.YthpgjbbjpfiniaaGreat
namespace Go.Proofs.YthpgjbbjpfiniaaGreat
open Go.RowKit
set_option linter.unusedSimpArgs false
set_option linter.unusedVariables false
def exD:Pr:=⟨⟨2,[⟨0,1,500,60⟩,⟨1,0,500,60⟩]⟩,[⟨⟨#[118]⟩,0,⟨1000,2000⟩,1000,1⟩],[⟨0,1,0,300,⟨1100,1200⟩,30⟩],0,20⟩
def exE:Pr:=⟨⟨2,[⟨0,1,500,60⟩,⟨1,0,500,60⟩]⟩,[⟨⟨#[118]⟩,0,⟨1000,2000⟩,299,1⟩],[⟨0,1,0,300,⟨1100,1200⟩,30⟩],0,20⟩
theorem QiS:Qv exD=some 0:=by decide +kernel
theorem Qoc:Qv exE=some 0:=by decide +kernel
theorem QlH:OkP exD:=OkP.of (by decide) QiS
theorem QpN:OkP exE:=OkP.of (by decide) Qoc
theorem QfU {p:Pr} (hp:OkP p) (hc:Qv p=some 0) {t:Qa} {c:Int×Int} (h:YC p t=some c):YR p t=c:=by
 rw[Qey hp hc t] at h
 injection h
theorem Qk3:YR exD ⟨0,[0,-1]⟩=(1000,0):=QfU QlH QiS (by decide +kernel)
theorem Qoh:YR exD ⟨0,[0,-1,-1]⟩=(1000,0):=QfU QlH QiS (by decide +kernel)
theorem Qol:YR exD ⟨0,[-1,0,-1]⟩=(1000,0):=QfU QlH QiS (by decide +kernel)
theorem QqB:YR exE ⟨0,[0,-1]⟩=(0,20):=QfU QpN Qoc (by decide +kernel)
theorem Qix {F:Nat} (hF:40000≤F):Q8 F exD ⟨0,[]⟩ 0=some ([⟨⟨0,[0,-1]⟩,1000⟩],0):=by
 obtain ⟨L,h1,h2⟩:=Qer hF (p:=exD) (by decide) (t:=⟨0,[]⟩) (by decide) (d:=0) QiS (by decide) (by decide);have hf:Qb4 exD ((Qbu [] 0).map (toT 0))=[⟨⟨0,[0,-1]⟩,1000⟩]:=by
  rw[show Qbu [] 0=[[0,-1]] by decide]
  simp[Qb4,Qgj,toT,Qk3]
 have h3:=h2.stab
 simp only at h3
 rw[hf] at h3
 have:=h3.perm.symm.eq_singleton
 rw[this] at h1
 exact h1
theorem QkI {F:Nat} (hF:40000≤F):Q8 F exE ⟨0,[]⟩ 0=some ([],0):=by
 obtain ⟨L,h1,h2⟩:=Qer hF (p:=exE) (by decide) (t:=⟨0,[]⟩) (by decide) (d:=0) Qoc (by decide) (by decide);have hf:Qb4 exE ((Qbu [] 0).map (toT 0))=[]:=by
  rw[show Qbu [] 0=[[0,-1]] by decide]
  simp[Qb4,Qgj,toT,QqB]
 have h3:=h2.stab
 simp only at h3
 rw[hf] at h3
 have:=h3.perm.symm.eq_nil
 rw[this] at h1
 exact h1
theorem QmU {F:Nat} (hF:40000≤F): ∃L,Q8 F exD ⟨0,[-1]⟩ 0=some (L,0)∧ ∀y∈L,y.tour=⟨0,[0,-1]⟩∨y.tour=⟨0,[0,-1,-1]⟩∨y.tour=⟨0,[-1,0,-1]⟩:=by
 obtain ⟨L,h1,h2⟩:=Qer hF (p:=exD) (by decide) (t:=⟨0,[-1]⟩) (by decide) (d:=0) QiS (by decide) (by decide);refine ⟨L,h1,fun y hy=> ?_⟩;have hf:Qb4 exD ((Qbu [-1] 0).map (toT 0))=[⟨⟨0,[0,-1]⟩,1000⟩,⟨⟨0,[0,-1,-1]⟩,1000⟩,⟨⟨0,[-1,0,-1]⟩,1000⟩]:=by
  rw[show Qbu [-1] 0=[[0,-1],[0,-1,-1],[-1,0,-1]] by decide]
  simp[Qb4,Qgj,toT,Qk3,Qoh,Qol]
 have h3:=h2.stab
 simp only at h3
 rw[hf] at h3
 have h4:=h3.perm.symm.subset hy
 simp only[List.mem_cons,List.not_mem_nil,or_false] at h4
 rcases h4 with rfl | rfl | rfl
 ·exact .inl rfl
 ·exact .inr (.inl rfl)
 ·exact .inr (.inr rfl)
def pD:Pl:=⟨[⟨0,[0,-1]⟩],[]⟩
def p0:Pl:=⟨[],[0]⟩
theorem Qo4 {F:Nat} (hF:40000≤F):QaW F exD=pD:=by
 have h1:V9 F exD ((0:Nat):Int) ⟨⟨0,[]⟩,0⟩=some ⟨⟨0,[0,-1]⟩,1000⟩:=by
  unfold V9
  rw[show Q8 F exD (Qc.mk ⟨0,[]⟩ 0).tour ((0:Nat):Int)=Q8 F exD ⟨0,[]⟩ 0 from rfl,Qix hF]
 have h2:QcC F exD 1=Qd1 (V9 F exD ((0:Nat):Int)) ((0:Nat):Int) ([⟨⟨0,[]⟩,0⟩],[]):=rfl;have h3:QcC F exD 1=([⟨⟨0,[0,-1]⟩,1000⟩],[]):=by
  rw[h2]
  unfold Qd1
  simp only[VW,h1]
  rfl
 unfold QaW
 rw[show exD.Demands.length=1 from rfl,h3]
 rfl
theorem Qpq {F:Nat} (hF:40000≤F):QaW F exE=p0:=by
 have h1:V9 F exE ((0:Nat):Int) ⟨⟨0,[]⟩,0⟩=none:=by
  unfold V9
  rw[show Q8 F exE (Qc.mk ⟨0,[]⟩ 0).tour ((0:Nat):Int)=Q8 F exE ⟨0,[]⟩ 0 from rfl,QkI hF]
 have h2:QcC F exE 1=Qd1 (V9 F exE ((0:Nat):Int)) ((0:Nat):Int) ([⟨⟨0,[]⟩,0⟩],[]):=rfl;have h3:QcC F exE 1=([⟨⟨0,[]⟩,0⟩],[0]):=by
  rw[h2]
  unfold Qd1
  simp only[VW,h1]
  rfl
 unfold QaW
 rw[show exE.Demands.length=1 from rfl,h3]
 rfl
theorem Qpz:JE (Je exD pD)=1000:=by
 unfold JE Je pD ZE QaA
 simp[Qk3]
theorem QqP (p:Pr):JE (Je p p0)=1000000000000:=by
 unfold JE Je p0 ZE QaA
 simp
theorem QqQ {F:Nat} (hF:40000≤F):QaM F exD pD 1=[]:=by
 have hm:mvs F exD pD 0 0=none:=by
  obtain ⟨L,h1,h2⟩:=QmU hF;have hb:bsO F exD pD ((0:Nat):Int) ((0:Nat):Int)=L.head? :=by
   unfold bsO V9
   rw[show Q8 F exD (Qc.mk (tO pD ((0:Nat):Int) ((0:Nat):Int)) 0).tour ((0:Nat):Int)=Q8 F exD ⟨0,[-1]⟩ 0 from rfl,h1]
   cases L<;>rfl
  unfold mvs mvR
  rw[hb]
  cases L with
  | nil=>rfl
  | cons y M =>
   have c1:=h2 y List.mem_cons_self;have e1: ∀b:To,Qbw b=true→Qd5 exD pD ((0:Nat):Int) ((0:Nat):Int) b=⟨[b],[]⟩:=fun b hb=>by
    unfold Qd5
    rw[show (List.range exD.Vehicles.length).map (stB pD ((0:Nat):Int) ((0:Nat):Int) b)=[b] from rfl]
    simp only[List.filter_cons,hb,if_true]
    rfl
   have e2:Qbw y.tour=true∧(YR exD y.tour).1=1000:=by
    rcases c1 with c | c | c
    ·rw[c,Qk3];exact ⟨rfl,rfl⟩
    ·rw[c,Qoh];exact ⟨rfl,rfl⟩
    ·rw[c,Qol];exact ⟨rfl,rfl⟩
   simp only[List.head?_cons,Option.map_some,Option.bind_some]
   rw[if_neg]
   rw[Qpz,e1 _ e2.1]
   unfold JE Je ZE QaA
   simp[e2.2]
 show QaM F exD pD 0++QcU F exD pD 0 1=[]
 show []++([]++(mvs F exD pD 0 0).toList)=[]
 rw[hm];rfl
theorem Qrf {p:Pr} (hp:OkP p) (hc:Qv p=some 0) (hd:p.Demands.length=1):Fe p p0 where
 ok:=hp
 chk:=hc
 drv:=fun t ht=>by cases ht
 dis:=List.Pairwise.nil
 lft:=fun e he=>by
  have:e=0:=by simpa [p0] using he
  omega
 one:=fun d hd2=>by
  obtain rfl:d=0:=by omega
  rfl
theorem QqJ {F:Nat} (hF:40000≤F) {p:Pr} (hp:OkP p) (hc:Qv p=some 0) (hd:p.Demands.length=1) (hn:p.Road.Edges.length≤600) (hv:p.Vehicles.length≤30):Cx F p p0 :=
 ⟨hF,hn,hv,Qrf hp hc hd,by decide,by decide⟩
theorem QqF {F:Nat} (hF:40000≤F):QaM F exD p0 1=[Je exD pD]:=by
 have hb:bsO F exD p0 ((0:Nat):Int) ((0:Nat):Int)=some ⟨⟨0,[0,-1]⟩,1000⟩:=by
  unfold bsO V9
  rw[show Q8 F exD (Qc.mk (tO p0 ((0:Nat):Int) ((0:Nat):Int)) 0).tour ((0:Nat):Int)=Q8 F exD ⟨0,[]⟩ 0 from rfl,Qix hF]
 have hm:mvs F exD p0 0 0=some (Je exD pD):=by
  unfold mvs mvR
  rw[hb]
  simp only[Option.map_some,Option.bind_some]
  rw[show Qd5 exD p0 ((0:Nat):Int) ((0:Nat):Int) ⟨0,[0,-1]⟩=pD from rfl,Qpz,QqP,if_pos (by decide)]
 show []++([]++(mvs F exD p0 0 0).toList)=_
 rw[hm];rfl
theorem QqU {F:Nat} (hF:40000≤F):QaM F exE p0 1=[]:=by
 have hb:bsO F exE p0 ((0:Nat):Int) ((0:Nat):Int)=none:=by
  unfold bsO V9
  rw[show Q8 F exE (Qc.mk (tO p0 ((0:Nat):Int) ((0:Nat):Int)) 0).tour ((0:Nat):Int)=Q8 F exE ⟨0,[]⟩ 0 from rfl,QkI hF]
 have hm:mvs F exE p0 0 0=none:=by
  unfold mvs mvR
  rw[hb];rfl
 show []++([]++(mvs F exE p0 0 0).toList)=_
 rw[hm];rfl
theorem QlY {F:Nat} {p:Pr} {x:Pl} (h:Cx F p x) (ha:QaM F p x p.Demands.length=[]):iter (Jw F p) F (x.Tours,x.Left)=some (x,0):=by
 have hF:=h.hF;obtain ⟨L,h1,_,_,h4⟩:=h.both
 rw[ha] at h4
 have hL:L=[]:=h4.perm.symm.eq_nil;subst hL;have h1':Jg F p (Qk.mk x.Tours x.Left)=some ([],0):=h1;obtain ⟨f,hf⟩: ∃f,F=f+1:=⟨F-1,by omega⟩
 have key: ∀n,iter (Jw F p) (n+1) (x.Tours,x.Left)=some (x,0):=fun n=>by
  simp only[iter,Jw,oun,h1',Option.bind_some,decide_true,Bool.not_true,cond_false,List.length_nil]
  rfl
 have:=key f
 rw[←hf] at this
 exact this
theorem QoK {F:Nat} (hF:40000≤F) {p:Pr} {x:Pl} (hn:p.Road.Edges.length≤600) (hv:p.Vehicles.length≤30) (hp:OkP p) (hc:Qv p=some 0) (hx:QaW F p=x) (ha:QaM F p x p.Demands.length=[]):ZB F p=some (x,0):=by
 obtain ⟨e,h1,h2⟩:=Qh7 hF p hn (by omega) (by have:=hp.dl;omega)
 rw[hc] at h1
 injection h1 with h1
 subst h1;rcases h2 with ⟨h2,_⟩ | ⟨_,_,h4,_⟩
 ·exact absurd rfl h2
 ·subst hx;unfold ZB
  rw[h4]
  simp only[Option.bind_some,oun,decide_true,Bool.not_true,cond_false]
  rw[QlY (QkB hF hn hv hp hc) ha]
  rfl
theorem QpI {F:Nat} (hF:40000≤F) {p:Pr} (hp:OkP p) (hc:Qv p=some 0) (hd:p.Demands.length=1) (hn:p.Road.Edges.length≤600) (hv:p.Vehicles.length=1) {c:Int} (hr:Yz F p p0 0 0=some c):WQ F p p0 0=some ([⟨0,c⟩],0):=by
 have hcx:=QqJ hF hp hc hd hn (by omega);obtain ⟨R,e,h1,_,_,h4,h5⟩:=Qpt hF hn (by omega) p0 (by decide) (by decide) 0;have hf:W3 F p p0=some 0:=by
  unfold W3
  rw[hcx.total.1];rfl
 have he:=h5 (by simp[p0]) hf;subst he;rcases h4 with ⟨h4,_⟩ | ⟨_,_,n,hn2,_,_,hR⟩
 ·exact absurd rfl h4
 ·obtain rfl:n=0:=by omega
  rw[h1,hR,hv]
  have:rsn F p p0 0 0=c:=by
   unfold rsn
   rw[show Yz F p p0 ((0:Nat):Int) ((0:Nat):Int)=Yz F p p0 0 0 from rfl,hr]
   rfl
  show some ([(⟨((0:Nat):Int),rsn F p p0 0 0⟩:Rn)],(0:Int))=_
  rw[this];rfl
theorem QoD {F:Nat} (hF:40000≤F):Yz F exD p0 0 0=some 0:=by
 have hw:Qch F exD ⟨0,[0,-1]⟩=some ((Qdx exD ⟨0,[0,-1]⟩).1,0,(Qdx exD ⟨0,[0,-1]⟩).2.2):=by
  rw[Qml hF QlH QiS (by decide)]
  have h1:=Qk3;unfold YR at h1;unfold Qdx;cases h:W6 exD ⟨0,[0,-1]⟩ with
  | inl z=>rfl
  | inr q=>rw[h] at h1;injection h1 with _ h2;exact absurd h2 (Qam h)
 have ho:JO F exD ⟨0,[]⟩ 0=some ([⟨0,[0,-1]⟩],0):=Qlr (Qix hF) (by decide);unfold Yz
 rw[show getI exD.Vehicles 0=some ⟨⟨#[118]⟩,0,⟨1000,2000⟩,1000,1⟩ from rfl,show getI exD.Demands 0=some ⟨0,1,0,300,⟨1100,1200⟩,30⟩ from rfl]
 simp only[Option.bind_some]
 rw[show Jk ⟨⟨#[118]⟩,0,⟨1000,2000⟩,1000,1⟩ 0=some true by decide +kernel,hw,(Qiw (x:=p0) 0 (by decide)).1,show ofP p0 0=⟨0,[]⟩ from rfl]
 simp only[Option.bind_some,oun,ho]
 rfl
theorem QnT {F:Nat} (hF:40000≤F):Yz F exE p0 0 0=some 20:=by
 unfold Yz
 rw[show getI exE.Vehicles 0=some ⟨⟨#[118]⟩,0,⟨1000,2000⟩,299,1⟩ from rfl,show getI exE.Demands 0=some ⟨0,1,0,300,⟨1100,1200⟩,30⟩ from rfl]
 simp only[Option.bind_some]
 rw[show Jk ⟨⟨#[118]⟩,0,⟨1000,2000⟩,299,1⟩ 0=some true by decide +kernel]
 rfl
theorem Qpn {F:Nat} (hF:40000≤F):Ju F=some true:=by
 have h1:ZB F exD=some (pD,0):=QoK hF (by decide) (by decide) QlH QiS (Qo4 hF) (QqQ hF);have h2:Jg F exD p0=some ([pD],0):=by
  obtain ⟨L,q1,_,_,q4⟩:=(QqJ hF QlH QiS rfl (by decide) (by decide)).both
  rw[show exD.Demands.length=1 from rfl,QqF hF] at q4
  rw[q1,q4.perm.symm.eq_singleton]
  rfl
 have h3:WQ F exD p0 0=some ([⟨0,0⟩],0):=QpI hF QlH QiS rfl (by decide) rfl (QoD hF);have h4:ZB F exE=some (p0,0):=QoK hF (by decide) (by decide) QpN Qoc (Qpq hF) (QqU hF);have h5:WQ F exE p0 0=some ([⟨0,20⟩],0):=QpI hF QpN Qoc rfl (by decide) rfl (QnT hF);have s1:YA pD pD=some true:=QcR _ (by decide) (fun t ht=>by simp[pD] at ht;subst ht;decide) (by decide);have s2:YA p0 p0=some true:=QcR _ (by decide) (fun t ht=>by cases ht) (by decide);have r1:Yq [⟨0,0⟩] [⟨0,0⟩]=some true:=by rw[(Qow (by decide)).1];simp
 have r2:Yq [⟨0,20⟩] [⟨0,20⟩]=some true:=by rw[(Qow (by decide)).1];simp
 unfold exD at h1 h2 h3;unfold exE at h4 h5;unfold pD at h1 h2 s1;unfold p0 at h2 h3 h4 h5 s2;unfold Ju
 rw[h1]
 simp only[Option.bind_some,oun]
 rw[h2]
 simp only[Option.bind_some,oun]
 rw[h3]
 simp only[Option.bind_some,oun]
 rw[show getI [(Qy.mk ⟨#[118]⟩ 0 (QO.mk 1000 2000) 1000 1)] 0=some (Qy.mk ⟨#[118]⟩ 0 (QO.mk 1000 2000) 1000 1) from rfl]
 simp only[Option.bind_some]
 rw[show Q9 [(Qy.mk ⟨#[118]⟩ 0 (QO.mk 1000 2000) 1000 1)] 0 (Qy.mk ⟨#[118]⟩ 0 (QO.mk 1000 2000) 299 1)=[(Qy.mk ⟨#[118]⟩ 0 (QO.mk 1000 2000) 299 1)] from rfl]
 rw[h4]
 simp only[Option.bind_some,oun]
 rw[h5]
 simp only[Option.bind_some,oun,s1,s2,r1,r2]
 rfl
end Go.Proofs.YthpgjbbjpfiniaaGreat
namespace Go.Proofs.YthpgjbbjpfiniaaGreat
open Go.RowKit
set_option linter.unusedSimpArgs false
set_option linter.unusedVariables false
theorem Qnc {F:Nat} (hF:200000000000000≤F) (p:Pr):Zq F p=some true:=by
 have haw:=Qpn (Nat.le_trans (by decide) hF:40000≤F);unfold Zq;rcases Qpe p ⟨[],[]⟩ with hb | ⟨hb,hl⟩
 ·rw[hb];simp only[Option.bind_some,cond_true,haw]
 ·rw[hb]
  simp only[Option.bind_some,cond_false]
  have hve:=hl.ve;have hde:=hl.de;obtain ⟨e,h1,h2⟩:=QqY hF p hl.ed (by omega) (by omega);rcases h2 with ⟨h2,h3,h4,_⟩ | ⟨h2,y,h3,h4,h5,_⟩
  ·rw[h3,h4]
   simp only[Option.bind_some,oun,QcR ⟨[],[]⟩ (by decide) (fun t ht=>by cases ht) (by decide),cond_true,decide_true,haw]
  ·rw[h3,h4]
   simp only[Option.bind_some,oun,h5.same,cond_true,decide_true,haw]
theorem Qa4 (p:Qh) (hp:Qew p): ∃F,Zq F p=some true:=⟨200000000000000,Qnc (Nat.le_refl _) p⟩
end Go.Proofs.YthpgjbbjpfiniaaGreat
namespace Go.Proofs.YthpgjbbjpfiniaaGreat
open Go.RowKit Go.ChangeShapes Go.WideShapes
set_option linter.unusedSimpArgs false
set_option linter.unusedVariables false
def QjU (W:World):Gh:=⟨fun b=>W.heap[b]?,W.os,W.output,W.tape⟩
theorem Qn9 (W:World):Inv W (QjU W) []:=⟨rfl,rfl,rfl,fun _ _ h=>h,by simp,by simp,by simp⟩
theorem Qox {W W':World} {μ:Gh} {L:List Seg} (hm:(QjU W).le μ) (h:Inv W' μ L):Below W.heap.size W W':=by
 have hb: ∀k,k<W.heap.size→W'.heap[k]? =W.heap[k]? :=fun k hk=>by
  have h1:W.heap[k]? =some W.heap[k]:=by simp[hk]
  rw[h1]
  exact h.mem k _ (hm.mem k _ h1)
 refine ⟨h.os.trans hm.os,h.tape.trans hm.tape,h.out.trans hm.out,?_,hb⟩;rcases Nat.eq_zero_or_pos W.heap.size with h0 | h0
 ·omega
 ·have h1:=hb (W.heap.size-1) (by omega);have h2:W.heap[W.heap.size-1]? =some (W.heap[W.heap.size-1]'(by omega)):=by simp
  rw[h2] at h1
  have:=JP h1
  omega
theorem QkW {P:Program} {f:FuncId} {fn:Func} (hf:P.funcs[f]? =some fn) (hb:fn.body.isNone=false) {args:List Value} {W:World} {v:Value} (h:Fn P f args (QjU W) [] fun u _ _=>u=v) :
  Calls P f args.toArray W fun e W'=>e= .returned v∧Below W.heap.size W W':=by
 rcases h with ⟨_,h⟩ | ⟨fn',_,hf',_,hb',_⟩
 ·refine (h W (Qn9 W)).mono ?_;rintro e W' ⟨u,μ',L',rfl,hm,hi,rfl⟩;exact ⟨rfl,Qox hm hi⟩
 ·rw[hf] at hf'
  injection hf' with hf'
  subst hf'
  rw[hb] at hb';cases hb'
section
variable {H:Type} {enc:TypeId×Value→H} {P:Program}
theorem Qfb (hl:laidOutB P=true) {W W':World} (hb:Below W.heap.size W W') {sp:Nat→Bool}: ∀{ts:List TypeId} {vs:List Value} {ds:List (DataW H)} {ps:List MemPlace},
  (∀t∈ts,P.readableRec t=true∧t<P.types.size)→(∀p∈ps,p.block<W.heap.size)→(∀p∈ps,sp p.block=true) →
  DataW.TrodAll enc P W 0 (fun _=>true) true ts vs ds ps→DataW.TrodAll enc P W' 0 sp true ts vs ds ps
 | [],vs,ds,ps,_,_,_,h=>by
  obtain ⟨rfl,rfl,rfl⟩:=trodAll_nil h
  rfl
 | t::ts,vs,ds,ps,hr,hlt,hs,h=>by
  obtain ⟨v,vs',d,ds',p,q,rfl,rfl,rfl,hd,hrest⟩:=trodAll_cons h;refine ⟨p,q,WideElems.Trod_stays hl (hr t (by simp)).1 (hr t (by simp)).2 hd (fun x hx=>hb.same (hlt x (by simp[hx]))) (fun x hx=>hs x (by simp[hx])),?_,rfl⟩;exact Qfb hl hb (fun u hu=>hr u (by simp[hu])) (fun x hx=>hlt x (by simp[hx])) (fun x hx=>hs x (by simp[hx])) hrest
theorem QmX {f:Func} {s:ChangeSpec} {apart fresh handsOn again:Bool} {W W':World} {args:Array Value} {ds:List (DataW H)} {before:List MemPlace} {tb:TypeId}
  (hW:DataW.Whole enc P f.params.toList s.vars apart W args.toList ds [] before) (hv:s.vars=[]) (hres:f.resultTypes= #[tb]) (htb:P.underlying tb=some .bool)
  (hfr:(s.fn H ds).results=[.lit (.bool true)]) (hfa:(s.fn H ds).args=ds) (hfv:(s.fn H ds).vars=[]) (hl:laidOutB P=true) (hr: ∀t∈f.params.toList,P.readableRec t=true∧t<P.types.size) (hb:Below W.heap.size W W') :
  s.post enc P f apart fresh handsOn again W args (.bool true) W':=by
 have hlt: ∀p∈before,p.block<W.heap.size:=fun p hp=>hW.lt p hp;have hW':=hW;obtain ⟨p,q,hA,hV,hpq,hz,hn⟩:=hW'
 rw[hv] at hV
 obtain ⟨_,rfl⟩:=trodVars_none hV
 rw[List.append_nil] at hpq
 subst hpq;have hresl:((Value.bool true).resultList f.resultTypes.size)=[.bool true]:=by rw[hres];rfl
 have hargs: ∀sp:Nat→Bool,(∀x∈before,sp x.block=true)→DataW.TrodAll enc P W' 0 sp true f.params.toList args.toList ds before:=fun sp hs=>Qfb hl hb hr hlt hs hA;have hres2: ∀(b:Nat) (sp:Nat→Bool) (hd:Bool),DataW.TrodAll enc P W' b sp hd f.resultTypes.toList [.bool true] [.lit (.bool true)] []:=fun b sp hd=>by
  rw[hres];exact trodAll_mk1 (shut_bool htb true)
 have hold: ∀p∈before,(fun b=>decide (b<W.heap.size)) p.block=true:=fun p hp=>by simpa using hlt p hp
 have hvars: ∀sp:Nat→Bool,DataW.TrodVars enc P W' sp s.vars [] []:=fun sp=>by rw[hv];rfl
 refine ⟨ds,[],before,[],before,[],hW,?_,?_,?_,World.keptBut_mono (fun p hp=>⟨hp,by simpa using hp⟩) (hb.frame (· ∈before)),fun _=> ?_⟩
 ·rw[hresl,List.append_nil,hfr];exact hres2 _ _ _
 ·rw[List.append_nil,hfa];exact hargs _ hold
 ·rw[List.append_nil,hfv];exact hvars _
 ·have A1:=hargs (fun _=>true) (fun _ _=>rfl);have R1:=hres2 0 (fun _=>true) true;refine ⟨ok_one hres rfl (okWide_bool_mk htb true),?_⟩
  rw[hresl]
  refine ⟨_,_,([]++before)++[],⟨[]++before,[],trodAll_append A1 R1,hvars _,rfl,?_,?_⟩,?_⟩
  ·intro b off hp;have hin:MemPlace.cell b off∈before:=by simpa using hp
   rw[hb.frozen (hlt _ hin)]
   exact hz b off hin
  ·intro ha;have:=hn ha
   simpa using this
  ·intro p hp _
   simpa using hp
end
end Go.Proofs.YthpgjbbjpfiniaaGreat
namespace Go.Proofs.YthpgjbbjpfiniaaGreat
open Go.RowKit Go.ChangeShapes Go.WideShapes Go.Deep
set_option linter.unusedSimpArgs false
set_option linter.unusedVariables false
theorem QiG {W:World} {L:List Seg} {a:Addr} {v:Value} (h:W.cell? a=some v):Wm (QjU W) L a v:=by
 unfold World.cell? at h
 split at h
 ·rename_i c e f hb
  split at h
  ·cases h
  ·rename_i hs
   refine ⟨by simpa using hs,c,e,f,.inl hb,by simpa using h⟩
 ·cases h
theorem Qmo {α β:Type} (Q:Nat→α→β→Prop): ∀n,(∀i,i<n→ ∃x y,Q i x y)→ ∃(l:List α) (m:List β),l.length=n∧m.length=n∧ ∀(i:Nat) (x:α) (y:β),l[i]? =some x→m[i]? =some y→Q i x y
 | 0,_=>⟨[],[],rfl,rfl,by simp⟩
 | n+1,h=>by
  obtain ⟨l,m,hl,hm,hq⟩:=Qmo Q n fun i hi=>h i (by omega);obtain ⟨x,y,hx⟩:=h n (by omega);refine ⟨l++[x],m++[y],by simp[hl],by simp[hm],fun i u v hu hv=> ?_⟩;rcases Nat.lt_or_ge i n with hi | hi
  ·rw[List.getElem?_append_left (by omega)] at hu hv
   exact hq i u v hu hv
  ·rw[List.getElem?_append_right (by omega)] at hu hv
   have:i-n=0:=by
    rcases Nat.eq_zero_or_pos (i-n) with h0 | h0
    ·exact h0
    ·rw[List.getElem?_eq_none (by simp;omega)] at hu;cases hu
   rw[hl,this] at hu
   rw[hm,this] at hv
   simp only[List.getElem?_cons_zero,Option.some.injEq] at hu hv
   have:i=n:=by omega
   subst this;subst hu;subst hv;exact hx
def Opn {α:Type} (P:Program) (W:World) (t:TypeId) (r:Rp α) (Q:α→Prop):Prop :=
 ∀(H:Type) (enc:TypeId×Value→H) (spare:Nat→Bool) (held:Bool) (fuel:Nat) (cs:List Value) (x:DataW H×List MemPlace),DataW.trod enc P W 0 spare held fuel t cs=some x→ ∃d,r.rep (QjU W) d cs∧Q d
section
variable {P:Program} {W:World} {t:TypeId}
theorem Vz {k:IntKind} (ht:P.underlying t=some (.int k)):Opn P W t (rI k) (wfI k):=by
 intro H enc spare held fuel cs x h;obtain ⟨n,h1,_,h2⟩:=DataW.trod_int ht h;exact ⟨n,h1,h2⟩
theorem Qpj (ht:P.underlying t=some .string):Opn P W t Qrd fun s=>s.size≤maxLen:=by
 intro H enc spare held fuel cs x h;obtain ⟨n,h1,_,h2⟩:=DataW.trod_string ht h;exact ⟨n,h1,h2⟩
theorem Qgv {α:Type} {e:TypeId} {r:Rp α} {Q:α→Prop} (ht:P.underlying t=some (.slice e)) (hC:P.cellsOf e=r.sz) (he:Opn P W e r Q):Opn P W t (QqG r) fun xs=> ∀x∈xs,Q x:=by
 intro H enc spare held fuel cs x h;rcases open_slice ht h with ⟨rfl,_⟩ | ⟨a,n,c,m,nn,D,Pl,rfl,hb,hl,hm,hmm,hx,hi⟩
 ·exact ⟨[],⟨none,0,rfl,Nat.le_refl _,Nat.zero_le _,Qz.nil⟩,by simp⟩
 ·have hrow: ∀i,i<n→ ∃(y:α) (cs:List Value),r.rep (QjU W) y cs∧Q y∧JC (QjU W) [] (a.add (i*r.sz)) cs:=fun i hin=>by
   obtain ⟨cs',hc,htr⟩:=hi i (by split at hmm<;>omega)
   rw[hC] at hc
   obtain ⟨y,hy,hq⟩:=he H enc spare held nn cs' _ htr;obtain ⟨_,hcl,hat⟩:=World.cells?_some hc;refine ⟨y,cs',hy,hq,fun j u hu=> ?_⟩;have hjk:j<r.sz:=by
    rcases Nat.lt_or_ge j r.sz with h | h
    ·exact h
    ·rw[List.getElem?_eq_none (by omega)] at hu;cases hu
   exact QiG (by rw[hat j hjk];exact hu)
  obtain ⟨xs,css,hxl,hcl,hq⟩:=Qmo (fun i y cs=>r.rep (QjU W) y cs∧Q y∧JC (QjU W) [] (a.add (i*r.sz)) cs) n hrow;refine ⟨xs,⟨some a,c,by rw[hxl],by omega,hm,css,fun i cs hcs=> ?_,by rw[hxl,hcl],fun i y cs hy hcs=>(hq i y cs hy hcs).1⟩,fun y hy=> ?_⟩
  ·have hlt:i<css.length:=by
    rcases Nat.lt_or_ge i css.length with h | h
    ·exact h
    ·rw[List.getElem?_eq_none h] at hcs;cases hcs
   obtain ⟨h1,_,h3⟩:=hq i (xs[i]'(by omega)) cs (by simp) hcs;exact ⟨r.len h1,a,rfl,h3⟩
  ·obtain ⟨i,hi'⟩:=List.getElem?_of_mem hy;have hlt:i<xs.length:=by
    rcases Nat.lt_or_ge i xs.length with h | h
    ·exact h
    ·rw[List.getElem?_eq_none h] at hi';cases hi'
   exact (hq i y (css[i]'(by omega)) hi' (by simp)).2.1
end
theorem WT {cs:List Value} {o a o2:Nat} (h:o+a=o2):cs.drop o=(cs.drop o).take a++cs.drop o2:=by rw[←h,←List.drop_drop,List.take_append_drop]
theorem Qns {cs:Array Value} {l:List Value} (h:cs.toList=l):cs=l.toArray:=by rw[←h]
end Go.Proofs.YthpgjbbjpfiniaaGreat
