/- DispatchWhys: for every input the given law returns true, and its arguments read as before. No condition. -/
import Derived.Test.YthpgjbbjpfiniaaGreatc3x13
import Derived.Test.YthpgjbbjpfiniaaGreatc3x1
import Derived.ProofKit
import Derived.Below
import Derived.ChangeSame
import Derived.Carry
import Derived.WideKeyArgs
import Derived.Test.YthpgjbbjpfiniaaGreatc3x2
import Derived.Deep.Slices
import Derived.Deep.Fields
import Derived.OpenShut
import Derived.Test.YthpgjbbjpfiniaaGreatRows
import Derived.Test.YthpgjbbjpfiniaaGreatc3x10
namespace Go.Proofs.YthpgjbbjpfiniaaGreat
open Go.RowKit
set_option linter.unusedSimpArgs false
set_option linter.unusedVariables false
abbrev Rn:=QH
theorem Qik {body:Int→Option (Int⊕(Unit⊕Bool))} {a b:List Rn} (hl:a.length=b.length) (hn:a.length≤1000000) (hb: ∀k,body k=bif decide (k<((a.length:Nat):Int)) then Option.bind (getI a k) fun x1=>Option.bind (getI b k) fun x2=>bif (!(decide (x1=x2))) then some (.inr (.inr false)) else some (.inl (w64 (k+1))) else some (.inr (.inl ()))): ∀(r k f:Nat),k+r=a.length→r<f→a.take k=b.take k →
  iter body f (k:Int)=some (if a=b then .inl () else .inr false)
 | _,_,0,_,h,_=>by omega
 | 0,k,f+1,hk,_,ht=>by
  have h1: ¬((k:Int)<((a.length:Nat):Int)):=by omega
  have:a=b:=by
   have h2:a.take k=a:=List.take_of_length_le (by omega);have h3:b.take k=b:=List.take_of_length_le (by omega)
   rw[h2,h3] at ht;exact ht
  simp only[iter,hb,h1,decide_false,cond_false,Option.bind_some,QI]
  rw[if_pos this]
 | r+1,k,f+1,hk,hf,ht=>by
  have h1:((k:Int)<((a.length:Nat):Int)):=by omega
  have ga:a[k]? =some a[k]:=List.getElem?_eq_getElem (by omega);have gb:b[k]? =some b[k]:=List.getElem?_eq_getElem (by omega);have e1:w64 ((k:Int)+1)=((k+1:Nat):Int):=by rw[Yg (by omega) (by omega)];omega
  by_cases h:a[k]=b[k]
  ·have ih:=Qik hl hn hb r (k+1) f (by omega) (by omega) (by rw[YK ga,YK gb,ht,h])
   simp only[iter]
   rw[hb]
   simp only[h1,decide_true,cond_true,Qs,ga,gb,Option.bind_some,h,Bool.not_true,cond_false,QI,e1]
   exact ih
  ·have:a≠b:=by intro e;subst e;exact h rfl
   simp only[iter]
   rw[hb]
   simp only[h1,decide_true,cond_true,Qs,ga,gb,Option.bind_some,h,decide_false,Bool.not_false,cond_true,QI]
   rw[if_neg this]
theorem QlY {a b:List Rn} (hn:a.length≤1000000):Ya a b=some (decide (a=b))∧QbS a b=some (decide (a=b)):=by
 unfold Ya QbS
 by_cases hl:a.length=b.length
 ·have h1:=Qik (body:=Wd a b) hl hn (fun k=>rfl) a.length 0 (((a.length:Nat):Int).toNat+1) (by omega) (by simp) (by simp);have h2:=Qik (body:=Qbe a b) hl hn (fun k=>rfl) a.length 0 (((a.length:Nat):Int).toNat+1) (by omega) (by simp) (by simp);have hl':(((a.length:Nat):Int)=((b.length:Nat):Int)):=by omega
  simp only[hl',decide_true,Bool.not_true,cond_false]
  rw[←hl',show (0:Int)=((0:Nat):Int) from rfl,h1,h2]
  by_cases h:a=b
  ·simp[h,QI]
  ·simp[h,QI]
 ·have hl': ¬(((a.length:Nat):Int)=((b.length:Nat):Int)):=by omega
  have:a≠b:=by intro e;subst e;exact hl rfl
  simp[hl',this]
def QgV (p:Pr) (d v:Nat):Int:=(Qdn p ⟨(v:Int),[(d:Int),-1]⟩).2.1
structure Rs (F:Nat) (p:Pr) (x:Pl) (d v:Nat) (r:Int) (ve:Ve) (de:De) (car:Bool) (L:List Op):Prop where
 hv:p.Vehicles[v]? =some ve
 hd:p.Demands[d]? =some de
 hc:Z7 ve de.Kind=some car
 ops:Jv F p (ofP x v) d=some (L.map Jr,0)
 bst: ∃e,V8 F p (ofP x v) d=some (hdT L,e)∧(e=0↔L≠[])
 hdO:bsO F p x d v=L.head?
 cb:car=Qhz ve de.Kind
 eq:r=bif !car then 21 else bif decide (ve.Grams<de.Grams) then 20 else bif !(decide (QgV p d v=0)) then QgV p d v else bif decide ((((L.map Jr).length:Nat):Int)=0) then 40 else 0
section
variable {F:Nat} {p:Pr} {x:Pl} (h:Cx F p x)
include h
theorem Cx.not_in {d:Nat} (hd:(d:Int)∈x.Left) (v:Int):(d:Int)∉(ofP x v).Stops:=by
 have h1:=h.fe.lft _ hd;have h2:=h.fe.one d (by omega);have h3:0<cn x.Left d:=List.count_pos_iff.2 hd;rcases Qhj x v with ⟨h4,_⟩ | h4
 ·have h5:=QpI h4 d;intro hm;have h6:0<cn (ofP x v).Stops d:=List.count_pos_iff.2 hm
  omega
 ·rw[h4];simp
theorem Cx.tO_self {d:Nat} (hd:(d:Int)∈x.Left) (v:Int):tO x (d:Int) v=ofP x v:=by
 unfold tO
 rw[Qgc (fun y hy=>by
  simp only[decide_eq_false_iff_not]
  intro e
  rw[e] at hy
  exact h.not_in hd v hy)]
 have:=QmF x v;cases hq:ofP x v with
 | mk a b=>rw[hq] at this;simp only at this ⊢;rw[this]
theorem Cx.reason {d v:Nat} (hd:(d:Int)∈x.Left) (hv:v<p.Vehicles.length): ∃r ve de car L,Yn F p x d v=some r∧Ja F p x d v=some r∧Rs F p x d v r ve de car L:=by
 have hF:=h.hF;have htl:=h.tl;have hdd:=h.fe.lft _ hd;have hdl:d<p.Demands.length:=by omega
 have g1:p.Vehicles[v]? =some p.Vehicles[v]:=List.getElem?_eq_getElem hv;have g2:p.Demands[d]? =some p.Demands[d]:=List.getElem?_eq_getElem hdl;have hvk:=h.fe.ok.ve _ (List.mem_of_getElem? g1);have hdk:=h.fe.ok.de _ (List.mem_of_getElem? g2);obtain ⟨c1,c2⟩:=Qe8 hvk hdk.k0 hdk.k1;have hs:(ofP x (v:Int)).Stops.length≤1000:=by have:=h.fe.of_len v;omega
 obtain ⟨L,e,o1,o2,o3,o4⟩:=Qa9 hF p h.hn (ofP x v) hs d;have hbad:Qjx p (ofP x v) d=false:=by
  unfold Qjx
  rw[QmF]
  simp;omega
 have he:=o4 h.fe.chk hbad
 rw[show decide ((d:Int)∈(ofP x (v:Int)).Stops)=false from decide_eq_false (h.not_in hd v)] at he
 have he:e=0:=he;subst he;obtain ⟨b1,b2⟩:=Qhq hF p h.hn (ofP x v) hs d;obtain ⟨e',k1,k2,_⟩:=Qjs o2 o3;have hbs:bsO F p x d v=L.head? :=by
  unfold bsO V0
  rw[h.tO_self hd,o1]
  cases L<;>rfl
 refine ⟨_,p.Vehicles[v],p.Demands[d],Qhz p.Vehicles[v] p.Demands[d].Kind,L,?_,?_,⟨g1,g2,c1,by rw[b1,o2],⟨e',by rw[b2,k1],k2⟩,hbs,rfl,rfl⟩⟩
 ·unfold Yn
  rw[Qs,Qs,g1,g2]
  simp only[Option.bind_some,c1]
  rw[Qml hF h.fe.ok h.fe.chk h.hn,(Qhp (x:=x) (v:Int) (by omega)).1]
  simp only[Option.bind_some,oun,b1,o2]
  cases Qhz p.Vehicles[v] p.Demands[d].Kind with
  | false=>rfl
  | true =>
   simp only[Bool.not_true,cond_false]
   cases decide (p.Vehicles[v].Grams<p.Demands[d].Grams) with
   | true=>rfl
   | false =>
    simp only[cond_false]
    show (bif !(decide (QgV p d v=0)) then some (QgV p d v) else _)=_
    cases decide (QgV p d v=0) with
    | false=>rfl
    | true =>
     simp only[Bool.not_true,cond_false,decide_true]
     cases decide ((((L.map Jr).length:Nat):Int)=0)<;>rfl
 ·unfold Ja
  rw[Qs,Qs,g1,g2]
  simp only[Option.bind_some,c2]
  rw[Qih h.fe.ok h.fe.chk,(Qhp (x:=x) (v:Int) (by omega)).2]
  simp only[Option.bind_some,oun,o2]
  cases Qhz p.Vehicles[v] p.Demands[d].Kind with
  | false=>rfl
  | true =>
   simp only[Bool.not_true,cond_false]
   cases decide (p.Vehicles[v].Grams<p.Demands[d].Grams) with
   | true=>rfl
   | false =>
    simp only[cond_false]
    show (bif !(decide (QgV p d v=0)) then some (QgV p d v) else _)=_
    cases decide (QgV p d v=0) with
    | false=>rfl
    | true =>
     simp only[Bool.not_true,cond_false]
     cases decide ((((L.map Jr).length:Nat):Int)=0)<;>rfl
def rsn (F:Nat) (p:Pr) (x:Pl) (d v:Nat):Int:=(Yn F p x d v).getD 0
theorem Cx.rsn_at {d v:Nat} (hd:(d:Int)∈x.Left) (hv:v<p.Vehicles.length):Yn F p x d v=some (rsn F p x d v)∧Ja F p x d v=some (rsn F p x d v)∧ ∃ve de car L,Rs F p x d v (rsn F p x d v) ve de car L:=by
 obtain ⟨r,ve,de,car,L,h1,h2,h3⟩:=h.reason hd hv;have:rsn F p x d v=r:=by unfold rsn;rw[h1];rfl
 rw[this]
 exact ⟨h1,h2,ve,de,car,L,h3⟩
end
def rsL (F:Nat) (p:Pr) (x:Pl) (d:Nat) (n:Nat):List Rn:=(List.range n).map fun v:Nat=>⟨(v:Int),rsn F p x d v⟩
theorem QmJ (F:Nat) (p:Pr) (x:Pl) (d n:Nat):(rsL F p x d n).length=n:=by simp[rsL]
theorem QoJ (F:Nat) (p:Pr) (x:Pl) (d n:Nat):rsL F p x d (n+1)=rsL F p x d n++[⟨(n:Int),rsn F p x d n⟩]:=by simp[rsL,List.range_succ]
theorem Qlb {F:Nat} {p:Pr} {x:Pl} {d:Nat} {body:List Rn×Int→Option ((List Rn×Int)⊕List Rn)} {rf:Int→Option Int} (hV:p.Vehicles.length≤1000) (hb: ∀q:List Rn×Int,body q=bif decide (q.2<((p.Vehicles.length:Nat):Int)) then Option.bind (rf q.2) fun r3=>Option.bind (Z0 q.1 [⟨q.2,r3⟩]) fun l1=>some (.inl (l1,w64 (q.2+1))) else some (.inr q.1))
  (hr: ∀v:Nat,v<p.Vehicles.length→rf v=some (rsn F p x d v)):iter body (((p.Vehicles.length:Nat):Int).toNat+1) ([],0)=some (rsL F p x d p.Vehicles.length):=by
 have:=YX (body:=body) p.Vehicles (fun k=>rsL F p x d k) (fun m k=>(m,k)) (fun _ _=>none) (rsL F p x d p.Vehicles.length) (by omega) (fun k y hk _=> ?_) (fun _=>by rw[hb];simp) (((p.Vehicles.length:Nat):Int).toNat+1) (by simp)
 ·rw[QW _ _ (fun _ _ _=>rfl)] at this
  exact this
 ·have h0:=Qt hk;have h1:((k:Int)<((p.Vehicles.length:Nat):Int)):=by omega
  have h2:=QmJ F p x d k
  rw[hb]
  simp only[h1,decide_true,cond_true,hr k h0,Option.bind_some]
  rw[Yj (by simp;omega),QoJ]
  rfl
theorem QmT {F:Nat} (hF:40000≤F) {p:Pr} (hn:p.Road.Edges.length≤600) (hv:p.Vehicles.length≤30) (x:Pl) (hx:x.Tours.length≤30) (hl:x.Left.length≤100) (d:Int) :
  ∃R e,J5 F p x d=some (R,e)∧WY F p x d=some (R,e)∧R.length≤30∧((e≠0∧R=[])∨(e=0∧Cx F p x∧ ∃n:Nat,d=(n:Int)∧d∈x.Left∧n<p.Demands.length∧R=rsL F p x n p.Vehicles.length))∧(d∈x.Left→WV F p x=some 0→e=0):=by
 obtain ⟨s,e,a1,a2,a3,a4⟩:=Qew hF hn x hx hl;have hfe:WV F p x=some e:=by unfold WV;rw[a1];rfl
 unfold J5 WY
 rw[hfe,a2]
 by_cases he:e=0
 ·have hc:Cx F p x:=⟨hF,hn,hv,(a4 he).2,hx,hl⟩
  subst he
  simp only[Option.bind_some,decide_true,Bool.not_true,cond_false]
  by_cases h1:d<0
  ·simp only[h1,decide_true,cond_true,Option.bind_some]
   exact ⟨[],7,rfl,rfl,by simp,.inl ⟨by decide,rfl⟩,fun hm _=>by have:=hc.fe.lft _ hm;omega⟩
  by_cases h2:((p.Demands.length:Nat):Int)≤d
  ·simp only[h1,h2,decide_true,decide_false,cond_true,cond_false,Option.bind_some]
   exact ⟨[],7,rfl,rfl,by simp,.inl ⟨by decide,rfl⟩,fun hm _=>by have:=hc.fe.lft _ hm;omega⟩
  simp only[h1,h2,decide_false,cond_false,Option.bind_some]
  rw[Qn6 d (by omega),QcA _ (by omega)]
  simp only[Option.bind_some]
  by_cases h3:d∈x.Left
  ·obtain ⟨n,rfl⟩: ∃n:Nat,d=(n:Int):=⟨d.toNat,by omega⟩
   simp only[h3,decide_true,Bool.not_true,cond_false]
   have q1:=Qlb (F:=F) (p:=p) (x:=x) (d:=n) (body:=QbM F p x n) (rf:=Yn F p x n) (by omega) (fun q=>rfl) (fun v hv=>(hc.rsn_at h3 hv).1);have q2:=Qlb (F:=F) (p:=p) (x:=x) (d:=n) (body:=VV F p x n) (rf:=Ja F p x n) (by omega) (fun q=>rfl) (fun v hv=>(hc.rsn_at h3 hv).2.1)
   rw[q1,q2]
   exact ⟨_,0,rfl,rfl,by rw[QmJ];exact hv,.inr ⟨rfl,hc,n,rfl,by first | exact h3 | trivial,by omega,rfl⟩,fun _ _=>rfl⟩
  ·simp only[h3,decide_false,Bool.not_false,cond_true]
   exact ⟨[],13,rfl,rfl,by simp,.inl ⟨by decide,rfl⟩,fun hm _=>by first | exact absurd hm h3 | exact hm.elim⟩
 ·simp only[Option.bind_some,he,decide_false,Bool.not_false,cond_true]
  exact ⟨[],e,rfl,rfl,by simp,.inl ⟨he,rfl⟩,fun _ h=>by first | (injection h;done) | (injection h with h;exact h)⟩
end Go.Proofs.YthpgjbbjpfiniaaGreat
namespace Go.Proofs.YthpgjbbjpfiniaaGreat
open Go.RowKit
set_option linter.unusedSimpArgs false
set_option linter.unusedVariables false
def exD:Pr:=⟨⟨2,[⟨0,1,500,60⟩,⟨1,0,500,60⟩]⟩,[⟨⟨#[118]⟩,0,⟨1000,2000⟩,1000,1⟩],[⟨0,1,0,300,⟨1100,1200⟩,30⟩],0,20⟩
def exE:Pr:=⟨⟨2,[⟨0,1,500,60⟩,⟨1,0,500,60⟩]⟩,[⟨⟨#[118]⟩,0,⟨1000,2000⟩,299,1⟩],[⟨0,1,0,300,⟨1100,1200⟩,30⟩],0,20⟩
theorem QiE:Qo exD=some 0:=by decide +kernel
theorem QnR:Qo exE=some 0:=by decide +kernel
theorem QlJ:OkP exD:=OkP.of (by decide) QiE
theorem Qqn:OkP exE:=OkP.of (by decide) QnR
theorem QfI {p:Pr} (hp:OkP p) (hc:Qo p=some 0) {t:Qa} {c:Int×Int} (h:Yp p t=some c):YF p t=c:=by
 rw[Qey hp hc t] at h
 injection h
theorem Qkn:YF exD ⟨0,[0,-1]⟩=(1000,0):=QfI QlJ QiE (by decide +kernel)
theorem QnU:YF exD ⟨0,[0,-1,-1]⟩=(1000,0):=QfI QlJ QiE (by decide +kernel)
theorem QnV:YF exD ⟨0,[-1,0,-1]⟩=(1000,0):=QfI QlJ QiE (by decide +kernel)
theorem Qq0:YF exE ⟨0,[0,-1]⟩=(0,20):=QfI Qqn QnR (by decide +kernel)
theorem QhJ {F:Nat} (hF:40000≤F):QT F exD ⟨0,[]⟩ 0=some ([⟨⟨0,[0,-1]⟩,1000⟩],0):=by
 obtain ⟨L,h1,h2⟩:=Qer hF (p:=exD) (by decide) (t:=⟨0,[]⟩) (by decide) (d:=0) QiE (by decide) (by decide);have hf:QbX exD ((Qbk [] 0).map (toT 0))=[⟨⟨0,[0,-1]⟩,1000⟩]:=by
  rw[show Qbk [] 0=[[0,-1]] by decide]
  simp[QbX,Qgu,toT,Qkn]
 have h3:=h2.stab
 simp only at h3
 rw[hf] at h3
 have:=h3.perm.symm.eq_singleton
 rw[this] at h1
 exact h1
theorem Qku {F:Nat} (hF:40000≤F):QT F exE ⟨0,[]⟩ 0=some ([],0):=by
 obtain ⟨L,h1,h2⟩:=Qer hF (p:=exE) (by decide) (t:=⟨0,[]⟩) (by decide) (d:=0) QnR (by decide) (by decide);have hf:QbX exE ((Qbk [] 0).map (toT 0))=[]:=by
  rw[show Qbk [] 0=[[0,-1]] by decide]
  simp[QbX,Qgu,toT,Qq0]
 have h3:=h2.stab
 simp only at h3
 rw[hf] at h3
 have:=h3.perm.symm.eq_nil
 rw[this] at h1
 exact h1
theorem Qm5 {F:Nat} (hF:40000≤F): ∃L,QT F exD ⟨0,[-1]⟩ 0=some (L,0)∧ ∀y∈L,y.tour=⟨0,[0,-1]⟩∨y.tour=⟨0,[0,-1,-1]⟩∨y.tour=⟨0,[-1,0,-1]⟩:=by
 obtain ⟨L,h1,h2⟩:=Qer hF (p:=exD) (by decide) (t:=⟨0,[-1]⟩) (by decide) (d:=0) QiE (by decide) (by decide);refine ⟨L,h1,fun y hy=> ?_⟩;have hf:QbX exD ((Qbk [-1] 0).map (toT 0))=[⟨⟨0,[0,-1]⟩,1000⟩,⟨⟨0,[0,-1,-1]⟩,1000⟩,⟨⟨0,[-1,0,-1]⟩,1000⟩]:=by
  rw[show Qbk [-1] 0=[[0,-1],[0,-1,-1],[-1,0,-1]] by decide]
  simp[QbX,Qgu,toT,Qkn,QnU,QnV]
 have h3:=h2.stab
 simp only at h3
 rw[hf] at h3
 have h4:=h3.perm.symm.subset hy
 simp only[List.mem_cons,List.not_mem_nil,or_false] at h4
 rcases h4 with rfl | rfl | rfl
 ·exact .inl rfl
 ·exact .inr (.inl rfl)
 ·exact .inr (.inr rfl)
def pD:Pl:=⟨[⟨0,[0,-1]⟩],[]⟩
def p0:Pl:=⟨[],[0]⟩
theorem Qpn {F:Nat} (hF:40000≤F):QbR F exD=pD:=by
 have h1:V0 F exD ((0:Nat):Int) ⟨⟨0,[]⟩,0⟩=some ⟨⟨0,[0,-1]⟩,1000⟩:=by
  unfold V0
  rw[show QT F exD (Qc.mk ⟨0,[]⟩ 0).tour ((0:Nat):Int)=QT F exD ⟨0,[]⟩ 0 from rfl,QhJ hF]
 have h2:Qcx F exD 1=QdV (V0 F exD ((0:Nat):Int)) ((0:Nat):Int) ([⟨⟨0,[]⟩,0⟩],[]):=rfl;have h3:Qcx F exD 1=([⟨⟨0,[0,-1]⟩,1000⟩],[]):=by
  rw[h2]
  unfold QdV
  simp only[VM,h1]
  rfl
 unfold QbR
 rw[show exD.Demands.length=1 from rfl,h3]
 rfl
theorem Qpo {F:Nat} (hF:40000≤F):QbR F exE=p0:=by
 have h1:V0 F exE ((0:Nat):Int) ⟨⟨0,[]⟩,0⟩=none:=by
  unfold V0
  rw[show QT F exE (Qc.mk ⟨0,[]⟩ 0).tour ((0:Nat):Int)=QT F exE ⟨0,[]⟩ 0 from rfl,Qku hF]
 have h2:Qcx F exE 1=QdV (V0 F exE ((0:Nat):Int)) ((0:Nat):Int) ([⟨⟨0,[]⟩,0⟩],[]):=rfl;have h3:Qcx F exE 1=([⟨⟨0,[]⟩,0⟩],[0]):=by
  rw[h2]
  unfold QdV
  simp only[VM,h1]
  rfl
 unfold QbR
 rw[show exE.Demands.length=1 from rfl,h3]
 rfl
theorem QpG:Wf (J4 exD pD)=1000:=by
 unfold Wf J4 pD Zm Qay
 simp[Qkn]
theorem Qq4 (p:Pr):Wf (J4 p p0)=1000000000000:=by
 unfold Wf J4 p0 Zm Qay
 simp
theorem QqX {F:Nat} (hF:40000≤F):QaZ F exD pD 1=[]:=by
 have hm:mvs F exD pD 0 0=none:=by
  obtain ⟨L,h1,h2⟩:=Qm5 hF;have hb:bsO F exD pD ((0:Nat):Int) ((0:Nat):Int)=L.head? :=by
   unfold bsO V0
   rw[show QT F exD (Qc.mk (tO pD ((0:Nat):Int) ((0:Nat):Int)) 0).tour ((0:Nat):Int)=QT F exD ⟨0,[-1]⟩ 0 from rfl,h1]
   cases L<;>rfl
  unfold mvs mvR
  rw[hb]
  cases L with
  | nil=>rfl
  | cons y M =>
   have c1:=h2 y List.mem_cons_self;have e1: ∀b:To,Qbm b=true→QdT exD pD ((0:Nat):Int) ((0:Nat):Int) b=⟨[b],[]⟩:=fun b hb=>by
    unfold QdT
    rw[show (List.range exD.Vehicles.length).map (stB pD ((0:Nat):Int) ((0:Nat):Int) b)=[b] from rfl]
    simp only[List.filter_cons,hb,if_true]
    rfl
   have e2:Qbm y.tour=true∧(YF exD y.tour).1=1000:=by
    rcases c1 with c | c | c
    ·rw[c,Qkn];exact ⟨rfl,rfl⟩
    ·rw[c,QnU];exact ⟨rfl,rfl⟩
    ·rw[c,QnV];exact ⟨rfl,rfl⟩
   simp only[List.head?_cons,Option.map_some,Option.bind_some]
   rw[if_neg]
   rw[QpG,e1 _ e2.1]
   unfold Wf J4 Zm Qay
   simp[e2.2]
 show QaZ F exD pD 0++QcR F exD pD 0 1=[]
 show []++([]++(mvs F exD pD 0 0).toList)=[]
 rw[hm];rfl
theorem Qre {p:Pr} (hp:OkP p) (hc:Qo p=some 0) (hd:p.Demands.length=1):Fe p p0 where
 ok:=hp
 chk:=hc
 drv:=fun t ht=>by cases ht
 dis:=List.Pairwise.nil
 lft:=fun e he=>by
  have:e=0:=by simpa [p0] using he
  omega
 one:=fun d hd2=>by
  obtain rfl:d=0:=by omega
  rfl
theorem Qq1 {F:Nat} (hF:40000≤F) {p:Pr} (hp:OkP p) (hc:Qo p=some 0) (hd:p.Demands.length=1) (hn:p.Road.Edges.length≤600) (hv:p.Vehicles.length≤30):Cx F p p0 :=
 ⟨hF,hn,hv,Qre hp hc hd,by decide,by decide⟩
theorem QqW {F:Nat} (hF:40000≤F):QaZ F exD p0 1=[J4 exD pD]:=by
 have hb:bsO F exD p0 ((0:Nat):Int) ((0:Nat):Int)=some ⟨⟨0,[0,-1]⟩,1000⟩:=by
  unfold bsO V0
  rw[show QT F exD (Qc.mk (tO p0 ((0:Nat):Int) ((0:Nat):Int)) 0).tour ((0:Nat):Int)=QT F exD ⟨0,[]⟩ 0 from rfl,QhJ hF]
 have hm:mvs F exD p0 0 0=some (J4 exD pD):=by
  unfold mvs mvR
  rw[hb]
  simp only[Option.map_some,Option.bind_some]
  rw[show QdT exD p0 ((0:Nat):Int) ((0:Nat):Int) ⟨0,[0,-1]⟩=pD from rfl,QpG,Qq4,if_pos (by decide)]
 show []++([]++(mvs F exD p0 0 0).toList)=_
 rw[hm];rfl
theorem QqY {F:Nat} (hF:40000≤F):QaZ F exE p0 1=[]:=by
 have hb:bsO F exE p0 ((0:Nat):Int) ((0:Nat):Int)=none:=by
  unfold bsO V0
  rw[show QT F exE (Qc.mk (tO p0 ((0:Nat):Int) ((0:Nat):Int)) 0).tour ((0:Nat):Int)=QT F exE ⟨0,[]⟩ 0 from rfl,Qku hF]
 have hm:mvs F exE p0 0 0=none:=by
  unfold mvs mvR
  rw[hb];rfl
 show []++([]++(mvs F exE p0 0 0).toList)=_
 rw[hm];rfl
theorem QlM {F:Nat} {p:Pr} {x:Pl} (h:Cx F p x) (ha:QaZ F p x p.Demands.length=[]):iter (Vs F p) F (x.Tours,x.Left)=some (x,0):=by
 have hF:=h.hF;obtain ⟨L,h1,_,_,h4⟩:=h.both
 rw[ha] at h4
 have hL:L=[]:=h4.perm.symm.eq_nil;subst hL;have h1':Ju F p (Qf.mk x.Tours x.Left)=some ([],0):=h1;obtain ⟨f,hf⟩: ∃f,F=f+1:=⟨F-1,by omega⟩
 have key: ∀n,iter (Vs F p) (n+1) (x.Tours,x.Left)=some (x,0):=fun n=>by
  simp only[iter,Vs,oun,h1',Option.bind_some,decide_true,Bool.not_true,cond_false,List.length_nil]
  rfl
 have:=key f
 rw[←hf] at this
 exact this
theorem Qot {F:Nat} (hF:40000≤F) {p:Pr} {x:Pl} (hn:p.Road.Edges.length≤600) (hv:p.Vehicles.length≤30) (hp:OkP p) (hc:Qo p=some 0) (hx:QbR F p=x) (ha:QaZ F p x p.Demands.length=[]):WK F p=some (x,0):=by
 obtain ⟨e,h1,h2⟩:=Qlp hF p hn (by omega) (by have:=hp.dl;omega)
 rw[hc] at h1
 injection h1 with h1
 subst h1;rcases h2 with ⟨h2,_⟩ | ⟨_,_,h4,_⟩
 ·exact absurd rfl h2
 ·subst hx;unfold WK
  rw[h4]
  simp only[Option.bind_some,oun,decide_true,Bool.not_true,cond_false]
  rw[QlM (Qou hF hn hv hp hc) ha]
  rfl
theorem QpK {F:Nat} (hF:40000≤F) {p:Pr} (hp:OkP p) (hc:Qo p=some 0) (hd:p.Demands.length=1) (hn:p.Road.Edges.length≤600) (hv:p.Vehicles.length=1) {c:Int} (hr:Yn F p p0 0 0=some c):J5 F p p0 0=some ([⟨0,c⟩],0):=by
 have hcx:=Qq1 hF hp hc hd hn (by omega);obtain ⟨R,e,h1,_,_,h4,h5⟩:=QmT hF hn (by omega) p0 (by decide) (by decide) 0;have hf:WV F p p0=some 0:=by
  unfold WV
  rw[hcx.total.1];rfl
 have he:=h5 (by simp[p0]) hf;subst he;rcases h4 with ⟨h4,_⟩ | ⟨_,_,n,hn2,_,_,hR⟩
 ·exact absurd rfl h4
 ·obtain rfl:n=0:=by omega
  rw[h1,hR,hv]
  have:rsn F p p0 0 0=c:=by
   unfold rsn
   rw[show Yn F p p0 ((0:Nat):Int) ((0:Nat):Int)=Yn F p p0 0 0 from rfl,hr]
   rfl
  show some ([(⟨((0:Nat):Int),rsn F p p0 0 0⟩:Rn)],(0:Int))=_
  rw[this];rfl
theorem QoB {F:Nat} (hF:40000≤F):Yn F exD p0 0 0=some 0:=by
 have hw:Qcd F exD ⟨0,[0,-1]⟩=some ((Qdn exD ⟨0,[0,-1]⟩).1,0,(Qdn exD ⟨0,[0,-1]⟩).2.2):=by
  rw[Qml hF QlJ QiE (by decide)]
  have h1:=Qkn;unfold YF at h1;unfold Qdn;cases h:WU exD ⟨0,[0,-1]⟩ with
  | inl z=>rfl
  | inr q=>rw[h] at h1;injection h1 with _ h2;exact absurd h2 (Qah h)
 have ho:Jv F exD ⟨0,[]⟩ 0=some ([⟨0,[0,-1]⟩],0):=Qlh (QhJ hF) (by decide);unfold Yn
 rw[show getI exD.Vehicles 0=some ⟨⟨#[118]⟩,0,⟨1000,2000⟩,1000,1⟩ from rfl,show getI exD.Demands 0=some ⟨0,1,0,300,⟨1100,1200⟩,30⟩ from rfl]
 simp only[Option.bind_some]
 rw[show Z7 ⟨⟨#[118]⟩,0,⟨1000,2000⟩,1000,1⟩ 0=some true by decide +kernel,hw,(Qhp (x:=p0) 0 (by decide)).1,show ofP p0 0=⟨0,[]⟩ from rfl]
 simp only[Option.bind_some,oun,ho]
 rfl
theorem QoC {F:Nat} (hF:40000≤F):Yn F exE p0 0 0=some 20:=by
 unfold Yn
 rw[show getI exE.Vehicles 0=some ⟨⟨#[118]⟩,0,⟨1000,2000⟩,299,1⟩ from rfl,show getI exE.Demands 0=some ⟨0,1,0,300,⟨1100,1200⟩,30⟩ from rfl]
 simp only[Option.bind_some]
 rw[show Z7 ⟨⟨#[118]⟩,0,⟨1000,2000⟩,299,1⟩ 0=some true by decide +kernel]
 rfl
theorem Qo8 {F:Nat} (hF:40000≤F):Jf F=some true:=by
 have h1:WK F exD=some (pD,0):=Qot hF (by decide) (by decide) QlJ QiE (Qpn hF) (QqX hF);have h2:Ju F exD p0=some ([pD],0):=by
  obtain ⟨L,q1,_,_,q4⟩:=(Qq1 hF QlJ QiE rfl (by decide) (by decide)).both
  rw[show exD.Demands.length=1 from rfl,QqW hF] at q4
  rw[q1,q4.perm.symm.eq_singleton]
  rfl
 have h3:J5 F exD p0 0=some ([⟨0,0⟩],0):=QpK hF QlJ QiE rfl (by decide) rfl (QoB hF);have h4:WK F exE=some (p0,0):=Qot hF (by decide) (by decide) Qqn QnR (Qpo hF) (QqY hF);have h5:J5 F exE p0 0=some ([⟨0,20⟩],0):=QpK hF Qqn QnR rfl (by decide) rfl (QoC hF);have s1:YC pD pD=some true:=Qd3 _ (by decide) (fun t ht=>by simp[pD] at ht;subst ht;decide) (by decide);have s2:YC p0 p0=some true:=Qd3 _ (by decide) (fun t ht=>by cases ht) (by decide);have r1:Ya [⟨0,0⟩] [⟨0,0⟩]=some true:=by rw[(QlY (by decide)).1];simp
 have r2:Ya [⟨0,20⟩] [⟨0,20⟩]=some true:=by rw[(QlY (by decide)).1];simp
 unfold exD at h1 h2 h3;unfold exE at h4 h5;unfold pD at h1 h2 s1;unfold p0 at h2 h3 h4 h5 s2;unfold Jf
 rw[h1]
 simp only[Option.bind_some,oun]
 rw[h2]
 simp only[Option.bind_some,oun]
 rw[h3]
 simp only[Option.bind_some,oun]
 rw[show getI [(Qp.mk ⟨#[118]⟩ 0 (QD.mk 1000 2000) 1000 1)] 0=some (Qp.mk ⟨#[118]⟩ 0 (QD.mk 1000 2000) 1000 1) from rfl]
 simp only[Option.bind_some]
 rw[show Yi [(Qp.mk ⟨#[118]⟩ 0 (QD.mk 1000 2000) 1000 1)] 0 (Qp.mk ⟨#[118]⟩ 0 (QD.mk 1000 2000) 299 1)=[(Qp.mk ⟨#[118]⟩ 0 (QD.mk 1000 2000) 299 1)] from rfl]
 rw[h4]
 simp only[Option.bind_some,oun]
 rw[h5]
 simp only[Option.bind_some,oun,s1,s2,r1,r2]
 rfl
end Go.Proofs.YthpgjbbjpfiniaaGreat
namespace Go.Proofs.YthpgjbbjpfiniaaGreat
open Go.RowKit
set_option linter.unusedSimpArgs false
set_option linter.unusedVariables false
theorem Qo1 {F:Nat} (hF:40000≤F) (p:Pr) (x:Pl) (d:Int):Zv F p x d=some true:=by
 have haw:=Qo8 hF;unfold Zv;rcases Qo3 p x with hb | ⟨hb,hl⟩
 ·rw[hb];simp only[Option.bind_some,cond_true,haw]
 ·rw[hb]
  simp only[Option.bind_some,cond_false]
  have hve:=hl.ve;have hto:=hl.to;obtain ⟨R,e,h1,h2,h3,_⟩:=QmT hF hl.ed (by omega) x (by omega) hl.le d
  rw[h1,h2]
  simp only[Option.bind_some,oun,(QlY (a:=R) (b:=R) (by omega)).1,decide_true,cond_true,haw]
theorem Qba (p:Qe) (x:Qf) (d:Int) (hp:QeG p) (hx:QgX x) (hd:wfI .i64 d): ∃F,Zv F p x d=some true:=⟨40000,Qo1 (Nat.le_refl _) p x d⟩
end Go.Proofs.YthpgjbbjpfiniaaGreat
namespace Go.Proofs.YthpgjbbjpfiniaaGreat
open Go.RowKit Go.ChangeShapes Go.WideShapes
set_option linter.unusedSimpArgs false
set_option linter.unusedVariables false
def QjK (W:World):Gh:=⟨fun b=>W.heap[b]?,W.os,W.output,W.tape⟩
theorem Qn8 (W:World):Inv W (QjK W) []:=⟨rfl,rfl,rfl,fun _ _ h=>h,by simp,by simp,by simp⟩
theorem QnQ {W W':World} {μ:Gh} {L:List Seg} (hm:(QjK W).le μ) (h:Inv W' μ L):Below W.heap.size W W':=by
 have hb: ∀k,k<W.heap.size→W'.heap[k]? =W.heap[k]? :=fun k hk=>by
  have h1:W.heap[k]? =some W.heap[k]:=by simp[hk]
  rw[h1]
  exact h.mem k _ (hm.mem k _ h1)
 refine ⟨h.os.trans hm.os,h.tape.trans hm.tape,h.out.trans hm.out,?_,hb⟩;rcases Nat.eq_zero_or_pos W.heap.size with h0 | h0
 ·omega
 ·have h1:=hb (W.heap.size-1) (by omega);have h2:W.heap[W.heap.size-1]? =some (W.heap[W.heap.size-1]'(by omega)):=by simp
  rw[h2] at h1
  have:=Jw h1
  omega
theorem Qkl {P:Program} {f:FuncId} {fn:Func} (hf:P.funcs[f]? =some fn) (hb:fn.body.isNone=false) {args:List Value} {W:World} {v:Value} (h:Fn P f args (QjK W) [] fun u _ _=>u=v) :
  Calls P f args.toArray W fun e W'=>e= .returned v∧Below W.heap.size W W':=by
 rcases h with ⟨_,h⟩ | ⟨fn',_,hf',_,hb',_⟩
 ·refine (h W (Qn8 W)).mono ?_;rintro e W' ⟨u,μ',L',rfl,hm,hi,rfl⟩;exact ⟨rfl,QnQ hm hi⟩
 ·rw[hf] at hf'
  injection hf' with hf'
  subst hf'
  rw[hb] at hb';cases hb'
section
variable {H:Type} {enc:TypeId×Value→H} {P:Program}
theorem Qe6 (hl:laidOutB P=true) {W W':World} (hb:Below W.heap.size W W') {sp:Nat→Bool}: ∀{ts:List TypeId} {vs:List Value} {ds:List (DataW H)} {ps:List MemPlace},
  (∀t∈ts,P.readableRec t=true∧t<P.types.size)→(∀p∈ps,p.block<W.heap.size)→(∀p∈ps,sp p.block=true) →
  DataW.TrodAll enc P W 0 (fun _=>true) true ts vs ds ps→DataW.TrodAll enc P W' 0 sp true ts vs ds ps
 | [],vs,ds,ps,_,_,_,h=>by
  obtain ⟨rfl,rfl,rfl⟩:=trodAll_nil h
  rfl
 | t::ts,vs,ds,ps,hr,hlt,hs,h=>by
  obtain ⟨v,vs',d,ds',p,q,rfl,rfl,rfl,hd,hrest⟩:=trodAll_cons h;refine ⟨p,q,WideElems.Trod_stays hl (hr t (by simp)).1 (hr t (by simp)).2 hd (fun x hx=>hb.same (hlt x (by simp[hx]))) (fun x hx=>hs x (by simp[hx])),?_,rfl⟩;exact Qe6 hl hb (fun u hu=>hr u (by simp[hu])) (fun x hx=>hlt x (by simp[hx])) (fun x hx=>hs x (by simp[hx])) hrest
theorem Qnn {f:Func} {s:ChangeSpec} {apart fresh handsOn again:Bool} {W W':World} {args:Array Value} {ds:List (DataW H)} {before:List MemPlace} {tb:TypeId}
  (hW:DataW.Whole enc P f.params.toList s.vars apart W args.toList ds [] before) (hv:s.vars=[]) (hres:f.resultTypes= #[tb]) (htb:P.underlying tb=some .bool)
  (hfr:(s.fn H ds).results=[.lit (.bool true)]) (hfa:(s.fn H ds).args=ds) (hfv:(s.fn H ds).vars=[]) (hl:laidOutB P=true) (hr: ∀t∈f.params.toList,P.readableRec t=true∧t<P.types.size) (hb:Below W.heap.size W W') :
  s.post enc P f apart fresh handsOn again W args (.bool true) W':=by
 have hlt: ∀p∈before,p.block<W.heap.size:=fun p hp=>hW.lt p hp;have hW':=hW;obtain ⟨p,q,hA,hV,hpq,hz,hn⟩:=hW'
 rw[hv] at hV
 obtain ⟨_,rfl⟩:=trodVars_none hV
 rw[List.append_nil] at hpq
 subst hpq;have hresl:((Value.bool true).resultList f.resultTypes.size)=[.bool true]:=by rw[hres];rfl
 have hargs: ∀sp:Nat→Bool,(∀x∈before,sp x.block=true)→DataW.TrodAll enc P W' 0 sp true f.params.toList args.toList ds before:=fun sp hs=>Qe6 hl hb hr hlt hs hA;have hres2: ∀(b:Nat) (sp:Nat→Bool) (hd:Bool),DataW.TrodAll enc P W' b sp hd f.resultTypes.toList [.bool true] [.lit (.bool true)] []:=fun b sp hd=>by
  rw[hres];exact trodAll_mk1 (shut_bool htb true)
 have hold: ∀p∈before,(fun b=>decide (b<W.heap.size)) p.block=true:=fun p hp=>by simpa using hlt p hp
 have hvars: ∀sp:Nat→Bool,DataW.TrodVars enc P W' sp s.vars [] []:=fun sp=>by rw[hv];rfl
 refine ⟨ds,[],before,[],before,[],hW,?_,?_,?_,World.keptBut_mono (fun p hp=>⟨hp,by simpa using hp⟩) (hb.frame (· ∈before)),fun _=> ?_⟩
 ·rw[hresl,List.append_nil,hfr];exact hres2 _ _ _
 ·rw[List.append_nil,hfa];exact hargs _ hold
 ·rw[List.append_nil,hfv];exact hvars _
 ·have A1:=hargs (fun _=>true) (fun _ _=>rfl);have R1:=hres2 0 (fun _=>true) true;refine ⟨ok_one hres rfl (okWide_bool_mk htb true),?_⟩
  rw[hresl]
  refine ⟨_,_,([]++before)++[],⟨[]++before,[],trodAll_append A1 R1,hvars _,rfl,?_,?_⟩,?_⟩
  ·intro b off hp;have hin:MemPlace.cell b off∈before:=by simpa using hp
   rw[hb.frozen (hlt _ hin)]
   exact hz b off hin
  ·intro ha;have:=hn ha
   simpa using this
  ·intro p hp _
   simpa using hp
end
end Go.Proofs.YthpgjbbjpfiniaaGreat
namespace Go.Proofs.YthpgjbbjpfiniaaGreat
open Go.RowKit Go.ChangeShapes Go.WideShapes Go.Deep
set_option linter.unusedSimpArgs false
set_option linter.unusedVariables false
theorem QiD {W:World} {L:List Seg} {a:Addr} {v:Value} (h:W.cell? a=some v):Ws (QjK W) L a v:=by
 unfold World.cell? at h
 split at h
 ·rename_i c e f hb
  split at h
  ·cases h
  ·rename_i hs
   refine ⟨by simpa using hs,c,e,f,.inl hb,by simpa using h⟩
 ·cases h
theorem QmC {α β:Type} (Q:Nat→α→β→Prop): ∀n,(∀i,i<n→ ∃x y,Q i x y)→ ∃(l:List α) (m:List β),l.length=n∧m.length=n∧ ∀(i:Nat) (x:α) (y:β),l[i]? =some x→m[i]? =some y→Q i x y
 | 0,_=>⟨[],[],rfl,rfl,by simp⟩
 | n+1,h=>by
  obtain ⟨l,m,hl,hm,hq⟩:=QmC Q n fun i hi=>h i (by omega);obtain ⟨x,y,hx⟩:=h n (by omega);refine ⟨l++[x],m++[y],by simp[hl],by simp[hm],fun i u v hu hv=> ?_⟩;rcases Nat.lt_or_ge i n with hi | hi
  ·rw[List.getElem?_append_left (by omega)] at hu hv
   exact hq i u v hu hv
  ·rw[List.getElem?_append_right (by omega)] at hu hv
   have:i-n=0:=by
    rcases Nat.eq_zero_or_pos (i-n) with h0 | h0
    ·exact h0
    ·rw[List.getElem?_eq_none (by simp;omega)] at hu;cases hu
   rw[hl,this] at hu
   rw[hm,this] at hv
   simp only[List.getElem?_cons_zero,Option.some.injEq] at hu hv
   have:i=n:=by omega
   subst this;subst hu;subst hv;exact hx
def Opn {α:Type} (P:Program) (W:World) (t:TypeId) (r:Rp α) (Q:α→Prop):Prop :=
 ∀(H:Type) (enc:TypeId×Value→H) (spare:Nat→Bool) (held:Bool) (fuel:Nat) (cs:List Value) (x:DataW H×List MemPlace),DataW.trod enc P W 0 spare held fuel t cs=some x→ ∃d,r.rep (QjK W) d cs∧Q d
section
variable {P:Program} {W:World} {t:TypeId}
theorem Wj {k:IntKind} (ht:P.underlying t=some (.int k)):Opn P W t (rI k) (wfI k):=by
 intro H enc spare held fuel cs x h;obtain ⟨n,h1,_,h2⟩:=DataW.trod_int ht h;exact ⟨n,h1,h2⟩
theorem Qpl (ht:P.underlying t=some .string):Opn P W t Qri fun s=>s.size≤maxLen:=by
 intro H enc spare held fuel cs x h;obtain ⟨n,h1,_,h2⟩:=DataW.trod_string ht h;exact ⟨n,h1,h2⟩
theorem Qb9 {α:Type} {e:TypeId} {r:Rp α} {Q:α→Prop} (ht:P.underlying t=some (.slice e)) (hC:P.cellsOf e=r.sz) (he:Opn P W e r Q):Opn P W t (Qq9 r) fun xs=> ∀x∈xs,Q x:=by
 intro H enc spare held fuel cs x h;rcases open_slice ht h with ⟨rfl,_⟩ | ⟨a,n,c,m,nn,D,Pl,rfl,hb,hl,hm,hmm,hx,hi⟩
 ·exact ⟨[],⟨none,0,rfl,Nat.le_refl _,Nat.zero_le _,Qr.nil⟩,by simp⟩
 ·have hrow: ∀i,i<n→ ∃(y:α) (cs:List Value),r.rep (QjK W) y cs∧Q y∧Jb (QjK W) [] (a.add (i*r.sz)) cs:=fun i hin=>by
   obtain ⟨cs',hc,htr⟩:=hi i (by split at hmm<;>omega)
   rw[hC] at hc
   obtain ⟨y,hy,hq⟩:=he H enc spare held nn cs' _ htr;obtain ⟨_,hcl,hat⟩:=World.cells?_some hc;refine ⟨y,cs',hy,hq,fun j u hu=> ?_⟩;have hjk:j<r.sz:=by
    rcases Nat.lt_or_ge j r.sz with h | h
    ·exact h
    ·rw[List.getElem?_eq_none (by omega)] at hu;cases hu
   exact QiD (by rw[hat j hjk];exact hu)
  obtain ⟨xs,css,hxl,hcl,hq⟩:=QmC (fun i y cs=>r.rep (QjK W) y cs∧Q y∧Jb (QjK W) [] (a.add (i*r.sz)) cs) n hrow;refine ⟨xs,⟨some a,c,by rw[hxl],by omega,hm,css,fun i cs hcs=> ?_,by rw[hxl,hcl],fun i y cs hy hcs=>(hq i y cs hy hcs).1⟩,fun y hy=> ?_⟩
  ·have hlt:i<css.length:=by
    rcases Nat.lt_or_ge i css.length with h | h
    ·exact h
    ·rw[List.getElem?_eq_none h] at hcs;cases hcs
   obtain ⟨h1,_,h3⟩:=hq i (xs[i]'(by omega)) cs (by simp) hcs;exact ⟨r.len h1,a,rfl,h3⟩
  ·obtain ⟨i,hi'⟩:=List.getElem?_of_mem hy;have hlt:i<xs.length:=by
    rcases Nat.lt_or_ge i xs.length with h | h
    ·exact h
    ·rw[List.getElem?_eq_none h] at hi';cases hi'
   exact (hq i y (css[i]'(by omega)) hi' (by simp)).2.1
end
theorem JP {cs:List Value} {o a o2:Nat} (h:o+a=o2):cs.drop o=(cs.drop o).take a++cs.drop o2:=by rw[←h,←List.drop_drop,List.take_append_drop]
theorem Qjr {cs:Array Value} {l:List Value} (h:cs.toList=l):cs=l.toArray:=by rw[←h]
end Go.Proofs.YthpgjbbjpfiniaaGreat
namespace Go.Proofs.YthpgjbbjpfiniaaGreat
open Go.ChangeShapes Go.WideShapes Go.ChangeAt Go.RowKit
set_option linter.unusedSimpArgs false
set_option linter.unusedVariables false
theorem Qrh:ownKnob Tryz.prog.godebug=none:=by kernel_rfl
theorem Qoa:laidOutB Tryz.prog=true:=by kernel_rfl
theorem QjT {W:World}:Opn Tryz.prog W 106 QF QgW:=by
 intro H enc spare held fuel cs x h;obtain ⟨xs,n,_,_,hlen,hxl,hf⟩:=DataW.trod_struct Tryz.underlying106 h
 rw[show Tryz.prog.cellsOf 106=4 by kernel_rfl] at hlen
 have g0:DataW.trod enc Tryz.prog W 0 spare held n 3 ((cs.drop 0).take (Tryz.prog.cellsOf 3))=xs[0]? :=hf 0 _ rfl
 rw[show Tryz.prog.cellsOf 3=1 by kernel_rfl,List.getElem?_eq_getElem (by rw[hxl];decide)] at g0
 obtain ⟨d0,h0,q0⟩:=(Wj Tryz.underlying3) H enc spare held n _ _ g0;have g1:DataW.trod enc Tryz.prog W 0 spare held n 3 ((cs.drop 1).take (Tryz.prog.cellsOf 3))=xs[1]? :=hf 1 _ rfl
 rw[show Tryz.prog.cellsOf 3=1 by kernel_rfl,List.getElem?_eq_getElem (by rw[hxl];decide)] at g1
 obtain ⟨d1,h1,q1⟩:=(Wj Tryz.underlying3) H enc spare held n _ _ g1;have g2:DataW.trod enc Tryz.prog W 0 spare held n 3 ((cs.drop 2).take (Tryz.prog.cellsOf 3))=xs[2]? :=hf 2 _ rfl
 rw[show Tryz.prog.cellsOf 3=1 by kernel_rfl,List.getElem?_eq_getElem (by rw[hxl];decide)] at g2
 obtain ⟨d2,h2,q2⟩:=(Wj Tryz.underlying3) H enc spare held n _ _ g2;have g3:DataW.trod enc Tryz.prog W 0 spare held n 3 ((cs.drop 3).take (Tryz.prog.cellsOf 3))=xs[3]? :=hf 3 _ rfl
 rw[show Tryz.prog.cellsOf 3=1 by kernel_rfl,List.getElem?_eq_getElem (by rw[hxl];decide)] at g3
 obtain ⟨d3,h3,q3⟩:=(Wj Tryz.underlying3) H enc spare held n _ _ g3;have e0:cs.drop 0=(cs.drop 0).take 1++cs.drop 1:=JP rfl;have e1:cs.drop 1=(cs.drop 1).take 1++cs.drop 2:=JP rfl;have e2:cs.drop 2=(cs.drop 2).take 1++cs.drop 3:=JP rfl;have e3:cs.drop 3=(cs.drop 3).take 1++cs.drop 4:=JP rfl;have en:cs.drop 4=[]:=List.drop_of_length_le (by omega);have hcs:cs.drop 0=_:=e0
 rw[e1,e2,e3,en,show (cs.drop 0).take 1=_ from h0,show (cs.drop 1).take 1=_ from h1,show (cs.drop 2).take 1=_ from h2,show (cs.drop 3).take 1=_ from h3] at hcs
 exact ⟨⟨d0,d1,d2,d3⟩,hcs,q0,q1,q2,q3⟩
theorem QjV {W:World}:Opn Tryz.prog W 24 QlO QgY:=by
 intro H enc spare held fuel cs x h;obtain ⟨xs,n,_,_,hlen,hxl,hf⟩:=DataW.trod_struct Tryz.underlying24 h
 rw[show Tryz.prog.cellsOf 24=2 by kernel_rfl] at hlen
 have g0:DataW.trod enc Tryz.prog W 0 spare held n 3 ((cs.drop 0).take (Tryz.prog.cellsOf 3))=xs[0]? :=hf 0 _ rfl
 rw[show Tryz.prog.cellsOf 3=1 by kernel_rfl,List.getElem?_eq_getElem (by rw[hxl];decide)] at g0
 obtain ⟨d0,h0,q0⟩:=(Wj Tryz.underlying3) H enc spare held n _ _ g0;have g1:DataW.trod enc Tryz.prog W 0 spare held n 22 ((cs.drop 1).take (Tryz.prog.cellsOf 22))=xs[1]? :=hf 1 _ rfl
 rw[show Tryz.prog.cellsOf 22=1 by kernel_rfl,List.getElem?_eq_getElem (by rw[hxl];decide)] at g1
 obtain ⟨d1,h1,q1⟩:=(Qb9 Tryz.underlying22 (by kernel_rfl) QjT) H enc spare held n _ _ g1;have e0:cs.drop 0=(cs.drop 0).take 1++cs.drop 1:=JP rfl;have e1:cs.drop 1=(cs.drop 1).take 1++cs.drop 2:=JP rfl;have en:cs.drop 2=[]:=List.drop_of_length_le (by omega);obtain ⟨A0,c0,h1,hl0,hm0,ha0⟩:=h1;have hcs:cs.drop 0=_:=e0
 rw[e1,en,show (cs.drop 0).take 1=_ from h0,show (cs.drop 1).take 1=_ from h1] at hcs
 exact ⟨⟨d0,d1⟩,⟨A0,c0,hcs,⟨hl0,hm0⟩,ha0⟩,q0,q1⟩
theorem Qeq {W:World}:Opn Tryz.prog W 59 QjZ QcW:=by
 intro H enc spare held fuel cs x h;obtain ⟨xs,n,_,_,hlen,hxl,hf⟩:=DataW.trod_struct Tryz.underlying59 h
 rw[show Tryz.prog.cellsOf 59=2 by kernel_rfl] at hlen
 have g0:DataW.trod enc Tryz.prog W 0 spare held n 3 ((cs.drop 0).take (Tryz.prog.cellsOf 3))=xs[0]? :=hf 0 _ rfl
 rw[show Tryz.prog.cellsOf 3=1 by kernel_rfl,List.getElem?_eq_getElem (by rw[hxl];decide)] at g0
 obtain ⟨d0,h0,q0⟩:=(Wj Tryz.underlying3) H enc spare held n _ _ g0;have g1:DataW.trod enc Tryz.prog W 0 spare held n 3 ((cs.drop 1).take (Tryz.prog.cellsOf 3))=xs[1]? :=hf 1 _ rfl
 rw[show Tryz.prog.cellsOf 3=1 by kernel_rfl,List.getElem?_eq_getElem (by rw[hxl];decide)] at g1
 obtain ⟨d1,h1,q1⟩:=(Wj Tryz.underlying3) H enc spare held n _ _ g1;have e0:cs.drop 0=(cs.drop 0).take 1++cs.drop 1:=JP rfl;have e1:cs.drop 1=(cs.drop 1).take 1++cs.drop 2:=JP rfl;have en:cs.drop 2=[]:=List.drop_of_length_le (by omega);have hcs:cs.drop 0=_:=e0
 rw[e1,en,show (cs.drop 0).take 1=_ from h0,show (cs.drop 1).take 1=_ from h1] at hcs
 exact ⟨⟨d0,d1⟩,hcs,q0,q1⟩
theorem Qha {W:World}:Opn Tryz.prog W 61 Qy QeH:=by
 intro H enc spare held fuel cs x h;obtain ⟨xs,n,_,_,hlen,hxl,hf⟩:=DataW.trod_struct Tryz.underlying61 h
 rw[show Tryz.prog.cellsOf 61=6 by kernel_rfl] at hlen
 have g0:DataW.trod enc Tryz.prog W 0 spare held n 9 ((cs.drop 0).take (Tryz.prog.cellsOf 9))=xs[0]? :=hf 0 _ rfl
 rw[show Tryz.prog.cellsOf 9=1 by kernel_rfl,List.getElem?_eq_getElem (by rw[hxl];decide)] at g0
 obtain ⟨d0,h0,q0⟩:=(Qpl Tryz.underlying9) H enc spare held n _ _ g0;have g1:DataW.trod enc Tryz.prog W 0 spare held n 3 ((cs.drop 1).take (Tryz.prog.cellsOf 3))=xs[1]? :=hf 1 _ rfl
 rw[show Tryz.prog.cellsOf 3=1 by kernel_rfl,List.getElem?_eq_getElem (by rw[hxl];decide)] at g1
 obtain ⟨d1,h1,q1⟩:=(Wj Tryz.underlying3) H enc spare held n _ _ g1;have g2:DataW.trod enc Tryz.prog W 0 spare held n 59 ((cs.drop 2).take (Tryz.prog.cellsOf 59))=xs[2]? :=hf 2 _ rfl
 rw[show Tryz.prog.cellsOf 59=2 by kernel_rfl,List.getElem?_eq_getElem (by rw[hxl];decide)] at g2
 obtain ⟨d2,h2,q2⟩:=Qeq H enc spare held n _ _ g2;have g3:DataW.trod enc Tryz.prog W 0 spare held n 3 ((cs.drop 4).take (Tryz.prog.cellsOf 3))=xs[3]? :=hf 3 _ rfl
 rw[show Tryz.prog.cellsOf 3=1 by kernel_rfl,List.getElem?_eq_getElem (by rw[hxl];decide)] at g3
 obtain ⟨d3,h3,q3⟩:=(Wj Tryz.underlying3) H enc spare held n _ _ g3;have g4:DataW.trod enc Tryz.prog W 0 spare held n 3 ((cs.drop 5).take (Tryz.prog.cellsOf 3))=xs[4]? :=hf 4 _ rfl
 rw[show Tryz.prog.cellsOf 3=1 by kernel_rfl,List.getElem?_eq_getElem (by rw[hxl];decide)] at g4
 obtain ⟨d4,h4,q4⟩:=(Wj Tryz.underlying3) H enc spare held n _ _ g4;have e0:cs.drop 0=(cs.drop 0).take 1++cs.drop 1:=JP rfl;have e1:cs.drop 1=(cs.drop 1).take 1++cs.drop 2:=JP rfl;have e2:cs.drop 2=(cs.drop 2).take 2++cs.drop 4:=JP rfl;have e3:cs.drop 4=(cs.drop 4).take 1++cs.drop 5:=JP rfl;have e4:cs.drop 5=(cs.drop 5).take 1++cs.drop 6:=JP rfl;have en:cs.drop 6=[]:=List.drop_of_length_le (by omega);have hcs:cs.drop 0=_:=e0
 rw[e1,e2,e3,e4,en,show (cs.drop 0).take 1=_ from h0,show (cs.drop 1).take 1=_ from h1,show (cs.drop 2).take 2=_ from h2,show (cs.drop 4).take 1=_ from h3,show (cs.drop 5).take 1=_ from h4] at hcs
 exact ⟨⟨d0,d1,d2,d3,d4⟩,hcs,q0,q1,q2,q3,q4⟩
theorem Qib {W:World}:Opn Tryz.prog W 63 QB Qe7:=by
 intro H enc spare held fuel cs x h;obtain ⟨xs,n,_,_,hlen,hxl,hf⟩:=DataW.trod_struct Tryz.underlying63 h
 rw[show Tryz.prog.cellsOf 63=7 by kernel_rfl] at hlen
 have g0:DataW.trod enc Tryz.prog W 0 spare held n 3 ((cs.drop 0).take (Tryz.prog.cellsOf 3))=xs[0]? :=hf 0 _ rfl
 rw[show Tryz.prog.cellsOf 3=1 by kernel_rfl,List.getElem?_eq_getElem (by rw[hxl];decide)] at g0
 obtain ⟨d0,h0,q0⟩:=(Wj Tryz.underlying3) H enc spare held n _ _ g0;have g1:DataW.trod enc Tryz.prog W 0 spare held n 3 ((cs.drop 1).take (Tryz.prog.cellsOf 3))=xs[1]? :=hf 1 _ rfl
 rw[show Tryz.prog.cellsOf 3=1 by kernel_rfl,List.getElem?_eq_getElem (by rw[hxl];decide)] at g1
 obtain ⟨d1,h1,q1⟩:=(Wj Tryz.underlying3) H enc spare held n _ _ g1;have g2:DataW.trod enc Tryz.prog W 0 spare held n 3 ((cs.drop 2).take (Tryz.prog.cellsOf 3))=xs[2]? :=hf 2 _ rfl
 rw[show Tryz.prog.cellsOf 3=1 by kernel_rfl,List.getElem?_eq_getElem (by rw[hxl];decide)] at g2
 obtain ⟨d2,h2,q2⟩:=(Wj Tryz.underlying3) H enc spare held n _ _ g2;have g3:DataW.trod enc Tryz.prog W 0 spare held n 3 ((cs.drop 3).take (Tryz.prog.cellsOf 3))=xs[3]? :=hf 3 _ rfl
 rw[show Tryz.prog.cellsOf 3=1 by kernel_rfl,List.getElem?_eq_getElem (by rw[hxl];decide)] at g3
 obtain ⟨d3,h3,q3⟩:=(Wj Tryz.underlying3) H enc spare held n _ _ g3;have g4:DataW.trod enc Tryz.prog W 0 spare held n 59 ((cs.drop 4).take (Tryz.prog.cellsOf 59))=xs[4]? :=hf 4 _ rfl
 rw[show Tryz.prog.cellsOf 59=2 by kernel_rfl,List.getElem?_eq_getElem (by rw[hxl];decide)] at g4
 obtain ⟨d4,h4,q4⟩:=Qeq H enc spare held n _ _ g4;have g5:DataW.trod enc Tryz.prog W 0 spare held n 3 ((cs.drop 6).take (Tryz.prog.cellsOf 3))=xs[5]? :=hf 5 _ rfl
 rw[show Tryz.prog.cellsOf 3=1 by kernel_rfl,List.getElem?_eq_getElem (by rw[hxl];decide)] at g5
 obtain ⟨d5,h5,q5⟩:=(Wj Tryz.underlying3) H enc spare held n _ _ g5;have e0:cs.drop 0=(cs.drop 0).take 1++cs.drop 1:=JP rfl;have e1:cs.drop 1=(cs.drop 1).take 1++cs.drop 2:=JP rfl;have e2:cs.drop 2=(cs.drop 2).take 1++cs.drop 3:=JP rfl;have e3:cs.drop 3=(cs.drop 3).take 1++cs.drop 4:=JP rfl;have e4:cs.drop 4=(cs.drop 4).take 2++cs.drop 6:=JP rfl;have e5:cs.drop 6=(cs.drop 6).take 1++cs.drop 7:=JP rfl;have en:cs.drop 7=[]:=List.drop_of_length_le (by omega);have hcs:cs.drop 0=_:=e0
 rw[e1,e2,e3,e4,e5,en,show (cs.drop 0).take 1=_ from h0,show (cs.drop 1).take 1=_ from h1,show (cs.drop 2).take 1=_ from h2,show (cs.drop 3).take 1=_ from h3,show (cs.drop 4).take 2=_ from h4,show (cs.drop 6).take 1=_ from h5] at hcs
 exact ⟨⟨d0,d1,d2,d3,d4,d5⟩,hcs,q0,q1,q2,q3,q4,q5⟩
theorem Qg9 {W:World}:Opn Tryz.prog W 28 QiL QeG:=by
 intro H enc spare held fuel cs x h;obtain ⟨xs,n,_,_,hlen,hxl,hf⟩:=DataW.trod_struct Tryz.underlying28 h
 rw[show Tryz.prog.cellsOf 28=6 by kernel_rfl] at hlen
 have g0:DataW.trod enc Tryz.prog W 0 spare held n 24 ((cs.drop 0).take (Tryz.prog.cellsOf 24))=xs[0]? :=hf 0 _ rfl
 rw[show Tryz.prog.cellsOf 24=2 by kernel_rfl,List.getElem?_eq_getElem (by rw[hxl];decide)] at g0
 obtain ⟨d0,h0,q0⟩:=QjV H enc spare held n _ _ g0;have g1:DataW.trod enc Tryz.prog W 0 spare held n 25 ((cs.drop 2).take (Tryz.prog.cellsOf 25))=xs[1]? :=hf 1 _ rfl
 rw[show Tryz.prog.cellsOf 25=1 by kernel_rfl,List.getElem?_eq_getElem (by rw[hxl];decide)] at g1
 obtain ⟨d1,h1,q1⟩:=(Qb9 Tryz.underlying25 (by kernel_rfl) Qha) H enc spare held n _ _ g1;have g2:DataW.trod enc Tryz.prog W 0 spare held n 26 ((cs.drop 3).take (Tryz.prog.cellsOf 26))=xs[2]? :=hf 2 _ rfl
 rw[show Tryz.prog.cellsOf 26=1 by kernel_rfl,List.getElem?_eq_getElem (by rw[hxl];decide)] at g2
 obtain ⟨d2,h2,q2⟩:=(Qb9 Tryz.underlying26 (by kernel_rfl) Qib) H enc spare held n _ _ g2;have g3:DataW.trod enc Tryz.prog W 0 spare held n 3 ((cs.drop 4).take (Tryz.prog.cellsOf 3))=xs[3]? :=hf 3 _ rfl
 rw[show Tryz.prog.cellsOf 3=1 by kernel_rfl,List.getElem?_eq_getElem (by rw[hxl];decide)] at g3
 obtain ⟨d3,h3,q3⟩:=(Wj Tryz.underlying3) H enc spare held n _ _ g3;have g4:DataW.trod enc Tryz.prog W 0 spare held n 3 ((cs.drop 5).take (Tryz.prog.cellsOf 3))=xs[4]? :=hf 4 _ rfl
 rw[show Tryz.prog.cellsOf 3=1 by kernel_rfl,List.getElem?_eq_getElem (by rw[hxl];decide)] at g4
 obtain ⟨d4,h4,q4⟩:=(Wj Tryz.underlying3) H enc spare held n _ _ g4;have e0:cs.drop 0=(cs.drop 0).take 2++cs.drop 2:=JP rfl;have e1:cs.drop 2=(cs.drop 2).take 1++cs.drop 3:=JP rfl;have e2:cs.drop 3=(cs.drop 3).take 1++cs.drop 4:=JP rfl;have e3:cs.drop 4=(cs.drop 4).take 1++cs.drop 5:=JP rfl;have e4:cs.drop 5=(cs.drop 5).take 1++cs.drop 6:=JP rfl;have en:cs.drop 6=[]:=List.drop_of_length_le (by omega);obtain ⟨A0,c0,h0,hl0,ha0⟩:=h0;obtain ⟨A1,c1,h1,hl1,hm1,ha1⟩:=h1;obtain ⟨A2,c2,h2,hl2,hm2,ha2⟩:=h2;have hcs:cs.drop 0=_:=e0
 rw[e1,e2,e3,e4,en,show (cs.drop 0).take 2=_ from h0,show (cs.drop 2).take 1=_ from h1,show (cs.drop 3).take 1=_ from h2,show (cs.drop 4).take 1=_ from h3,show (cs.drop 5).take 1=_ from h4] at hcs
 exact ⟨⟨d0,d1,d2,d3,d4⟩,⟨A0,c0,A1,c1,A2,c2,hcs,hl0,ha0,⟨hl1,hm1⟩,ha1,⟨hl2,hm2⟩,ha2⟩,q0,q1,q2,q3,q4⟩
theorem QjW {W:World}:Opn Tryz.prog W 51 Qv QgZ:=by
 intro H enc spare held fuel cs x h;obtain ⟨xs,n,_,_,hlen,hxl,hf⟩:=DataW.trod_struct Tryz.underlying51 h
 rw[show Tryz.prog.cellsOf 51=2 by kernel_rfl] at hlen
 have g0:DataW.trod enc Tryz.prog W 0 spare held n 3 ((cs.drop 0).take (Tryz.prog.cellsOf 3))=xs[0]? :=hf 0 _ rfl
 rw[show Tryz.prog.cellsOf 3=1 by kernel_rfl,List.getElem?_eq_getElem (by rw[hxl];decide)] at g0
 obtain ⟨d0,h0,q0⟩:=(Wj Tryz.underlying3) H enc spare held n _ _ g0;have g1:DataW.trod enc Tryz.prog W 0 spare held n 31 ((cs.drop 1).take (Tryz.prog.cellsOf 31))=xs[1]? :=hf 1 _ rfl
 rw[show Tryz.prog.cellsOf 31=1 by kernel_rfl,List.getElem?_eq_getElem (by rw[hxl];decide)] at g1
 obtain ⟨d1,h1,q1⟩:=(Qb9 Tryz.underlying31 (by kernel_rfl) (Wj Tryz.underlying3)) H enc spare held n _ _ g1;have e0:cs.drop 0=(cs.drop 0).take 1++cs.drop 1:=JP rfl;have e1:cs.drop 1=(cs.drop 1).take 1++cs.drop 2:=JP rfl;have en:cs.drop 2=[]:=List.drop_of_length_le (by omega);obtain ⟨A0,c0,h1,hl0,hm0,ha0⟩:=h1;have hcs:cs.drop 0=_:=e0
 rw[e1,en,show (cs.drop 0).take 1=_ from h0,show (cs.drop 1).take 1=_ from h1] at hcs
 exact ⟨⟨d0,d1⟩,⟨A0,c0,hcs,⟨hl0,hm0⟩,ha0⟩,q0,q1⟩
theorem QjU {W:World}:Opn Tryz.prog W 33 Qbp QgX:=by
 intro H enc spare held fuel cs x h;obtain ⟨xs,n,_,_,hlen,hxl,hf⟩:=DataW.trod_struct Tryz.underlying33 h
 rw[show Tryz.prog.cellsOf 33=2 by kernel_rfl] at hlen
 have g0:DataW.trod enc Tryz.prog W 0 spare held n 30 ((cs.drop 0).take (Tryz.prog.cellsOf 30))=xs[0]? :=hf 0 _ rfl
 rw[show Tryz.prog.cellsOf 30=1 by kernel_rfl,List.getElem?_eq_getElem (by rw[hxl];decide)] at g0
 obtain ⟨d0,h0,q0⟩:=(Qb9 Tryz.underlying30 (by kernel_rfl) QjW) H enc spare held n _ _ g0;have g1:DataW.trod enc Tryz.prog W 0 spare held n 31 ((cs.drop 1).take (Tryz.prog.cellsOf 31))=xs[1]? :=hf 1 _ rfl
 rw[show Tryz.prog.cellsOf 31=1 by kernel_rfl,List.getElem?_eq_getElem (by rw[hxl];decide)] at g1
 obtain ⟨d1,h1,q1⟩:=(Qb9 Tryz.underlying31 (by kernel_rfl) (Wj Tryz.underlying3)) H enc spare held n _ _ g1;have e0:cs.drop 0=(cs.drop 0).take 1++cs.drop 1:=JP rfl;have e1:cs.drop 1=(cs.drop 1).take 1++cs.drop 2:=JP rfl;have en:cs.drop 2=[]:=List.drop_of_length_le (by omega);obtain ⟨A0,c0,h0,hl0,hm0,ha0⟩:=h0;obtain ⟨A1,c1,h1,hl1,hm1,ha1⟩:=h1;have hcs:cs.drop 0=_:=e0
 rw[e1,en,show (cs.drop 0).take 1=_ from h0,show (cs.drop 1).take 1=_ from h1] at hcs
 exact ⟨⟨d0,d1⟩,⟨A0,c0,A1,c1,hcs,⟨hl0,hm0⟩,ha0,⟨hl1,hm1⟩,ha1⟩,q0,q1⟩
set_option maxRecDepth 100000 in
theorem QeU (os:Os) (started:os.Started) (H:Type) (enc:TypeId×Value→H) :
  ReturnsInHanded {} Tryz.checked os 5 .any (Rows.dispatchWhysSpec.pre6 enc Tryz.prog Tryz.f5 Rows.dispatchWhysRow.domain false) (Rows.dispatchWhysSpec.post enc Tryz.prog Tryz.f5 false true false false):=by
 refine returnsInHanded_of_change (C:=Tryz.checked) Qrh started (by kernel_rfl) Tryz.func5
  (ChangeSpec.witness6 (enc:=enc) (C:=Tryz.checked) false ⟨#[], #[((Go.Value.agg #[(Go.Value.int Go.IntKind.i64 0),(Go.Value.slice none 0 0),(Go.Value.slice none 0 0),(Go.Value.slice none 0 0),(Go.Value.int Go.IntKind.i64 0),(Go.Value.int Go.IntKind.i64 0)])),((Go.Value.agg #[(Go.Value.slice none 0 0),(Go.Value.slice none 0 0)])),(.int .i64 0)],[]⟩ 8 (by kernel_rfl) (by kernel_rfl) (by kernel_rfl) (by kernel_rfl)) ?_
 intro W base args ds gs before hval0 hW hcnd _;have hval: ∀(j:Nat) t v,Tryz.f5.params[j]? =some t→args[j]? =some v→Value.okWide Tryz.prog W .any base t v:=hval0;have hW':=hW;obtain ⟨p,q,hA0,hV,rfl,hfz,hnd⟩:=hW;have hA:DataW.TrodAll enc Tryz.prog W 0 (fun _=>true) true Tryz.f5.params.toList args.toList ds p:=hA0
 rw[Tryz.params5] at hA hval
 obtain ⟨rfl,rfl⟩:=trodVars_none hV
 clear hA0 hval0
 obtain ⟨v0,v1,v2,d0,d1,d2,p0,p1,p2,rfl,rfl,rfl,a0,a1,a2⟩:=trodAll_three hA;obtain ⟨cs0,rfl,_⟩:=okWide_struct Tryz.underlying28 (hval 0 28 v0 rfl rfl);obtain ⟨fu0,ht0⟩:=a0;obtain ⟨x0,hr0,q0⟩:=Qg9 (W:=W) H enc _ _ fu0 _ _ ht0;obtain ⟨A0_0,c0_0,A0_1,c0_1,A0_2,c0_2,hcs0,hl0_0,ha0_0,hl0_1,ha0_1,hl0_2,ha0_2⟩:=hr0;obtain rfl:=Qjr hcs0;obtain ⟨cs1,rfl,_⟩:=okWide_struct Tryz.underlying33 (hval 1 33 v1 rfl rfl);obtain ⟨fu1,ht1⟩:=a1;obtain ⟨x1,hr1,q1⟩:=QjU (W:=W) H enc _ _ fu1 _ _ ht1;obtain ⟨A1_0,c1_0,A1_1,c1_1,hcs1,hl1_0,ha1_0,hl1_1,ha1_1⟩:=hr1;obtain rfl:=Qjr hcs1;obtain ⟨x2,rfl,_,_,q2⟩:=open_int (P:=Tryz.prog) Tryz.underlying3 (hval 2 3 v2 rfl rfl) a2;obtain ⟨F,hF⟩:=Qba x0 x1 x2 q0 q1 q2;refine (Qkl (v:= .bool true) Tryz.func5 rfl (args:=[_,_,_]) (Qbq hl0_0 ha0_0 hl0_1 ha0_1 hl0_2 ha0_2 hl1_0 ha1_0 hl1_1 ha1_1 hF (fun _ _=>rfl))).mono fun e W' ⟨he,hw⟩=> ?_;exact ⟨_,he,Qnn (tb:=4) hW' rfl rfl Tryz.underlying4 rfl rfl rfl Qoa (by decide +kernel) hw⟩
theorem dispatchWhys_holds:Rows.DispatchWhysSaid :=
 OpenClaim.holds_of_wide 5 Tryz.f5 rfl rfl rfl rfl rfl rfl rfl ⟨rfl,rfl,rfl,rfl,rfl⟩ rfl rfl rfl rfl rfl (by kernel_rfl) Tryz.func5 (by kernel_rfl)
  (of_decide_eq_true (by kernel_rfl)) (by unfold Func.isWrapper;first | (rw[if_pos (by decide +kernel)];kernel_rfl) | (rw[if_neg (by decide +kernel)];exact ⟨rfl,rfl⟩))
  (fun os started H enc _=>QeU os started H enc)
end Go.Proofs.YthpgjbbjpfiniaaGreat
