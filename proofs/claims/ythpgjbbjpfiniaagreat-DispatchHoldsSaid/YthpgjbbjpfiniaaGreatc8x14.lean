/- DispatchHolds: for every input the given law returns true, and its arguments read as before. No condition. -/
import Derived.Test.YthpgjbbjpfiniaaGreatc8x13
import Derived.Test.YthpgjbbjpfiniaaGreatc8x1
import Derived.ProofKit
import Derived.Below
import Derived.ChangeSame
import Derived.Carry
import Derived.WideKeyArgs
import Derived.Test.YthpgjbbjpfiniaaGreatc8x2
import Derived.Deep.Slices
import Derived.Deep.Fields
import Derived.OpenShut
import Derived.Test.YthpgjbbjpfiniaaGreatRows
import Derived.Test.YthpgjbbjpfiniaaGreatc8x10
namespace Go.Proofs.YthpgjbbjpfiniaaGreat
open Go.RowKit
set_option linter.unusedSimpArgs false
set_option linter.unusedVariables false
abbrev Rn:=QB
theorem Qik {body:Int→Option (Int⊕(Unit⊕Bool))} {a b:List Rn} (hl:a.length=b.length) (hn:a.length≤1000000) (hb: ∀k,body k=bif decide (k<((a.length:Nat):Int)) then Option.bind (getI a k) fun x1=>Option.bind (getI b k) fun x2=>bif (!(decide (x1=x2))) then some (.inr (.inr false)) else some (.inl (w64 (k+1))) else some (.inr (.inl ()))): ∀(r k f:Nat),k+r=a.length→r<f→a.take k=b.take k →
  iter body f (k:Int)=some (if a=b then .inl () else .inr false)
 | _,_,0,_,h,_=>by omega
 | 0,k,f+1,hk,_,ht=>by
  have h1: ¬((k:Int)<((a.length:Nat):Int)):=by omega
  have:a=b:=by
   have h2:a.take k=a:=List.take_of_length_le (by omega);have h3:b.take k=b:=List.take_of_length_le (by omega)
   rw[h2,h3] at ht;exact ht
  simp only[iter,hb,h1,decide_false,cond_false,Option.bind_some,QI]
  rw[if_pos this]
 | r+1,k,f+1,hk,hf,ht=>by
  have h1:((k:Int)<((a.length:Nat):Int)):=by omega
  have ga:a[k]? =some a[k]:=List.getElem?_eq_getElem (by omega);have gb:b[k]? =some b[k]:=List.getElem?_eq_getElem (by omega);have e1:w64 ((k:Int)+1)=((k+1:Nat):Int):=by rw[Yf (by omega) (by omega)];omega
  by_cases h:a[k]=b[k]
  ·have ih:=Qik hl hn hb r (k+1) f (by omega) (by omega) (by rw[YL ga,YL gb,ht,h])
   simp only[iter]
   rw[hb]
   simp only[h1,decide_true,cond_true,Qs,ga,gb,Option.bind_some,h,Bool.not_true,cond_false,QI,e1]
   exact ih
  ·have:a≠b:=by intro e;subst e;exact h rfl
   simp only[iter]
   rw[hb]
   simp only[h1,decide_true,cond_true,Qs,ga,gb,Option.bind_some,h,decide_false,Bool.not_false,cond_true,QI]
   rw[if_neg this]
theorem QiB {a b:List Rn} (hn:a.length≤1000000):Ya a b=some (decide (a=b))∧Wu a b=some (decide (a=b)):=by
 unfold Ya Wu
 by_cases hl:a.length=b.length
 ·have h1:=Qik (body:=J9 a b) hl hn (fun k=>rfl) a.length 0 (((a.length:Nat):Int).toNat+1) (by omega) (by simp) (by simp);have h2:=Qik (body:=VM a b) hl hn (fun k=>rfl) a.length 0 (((a.length:Nat):Int).toNat+1) (by omega) (by simp) (by simp);have hl':(((a.length:Nat):Int)=((b.length:Nat):Int)):=by omega
  simp only[hl',decide_true,Bool.not_true,cond_false]
  rw[←hl',show (0:Int)=((0:Nat):Int) from rfl,h1,h2]
  by_cases h:a=b
  ·simp[h,QI]
  ·simp[h,QI]
 ·have hl': ¬(((a.length:Nat):Int)=((b.length:Nat):Int)):=by omega
  have:a≠b:=by intro e;subst e;exact hl rfl
  simp[hl',this]
def QgW (p:Pr) (d v:Nat):Int:=(Qdp p ⟨(v:Int),[(d:Int),-1]⟩).2.1
structure Rs (F:Nat) (p:Pr) (x:Pl) (d v:Nat) (r:Int) (ve:Ve) (de:De) (car:Bool) (L:List Op):Prop where
 hv:p.Vehicles[v]? =some ve
 hd:p.Demands[d]? =some de
 hc:Z4 ve de.Kind=some car
 ops:Jv F p (ofP x v) d=some (L.map Jr,0)
 bst: ∃e,Qad F p (ofP x v) d=some (hdT L,e)∧(e=0↔L≠[])
 hdO:bsO F p x d v=L.head?
 cb:car=QhB ve de.Kind
 eq:r=bif !car then 21 else bif decide (ve.Grams<de.Grams) then 20 else bif !(decide (QgW p d v=0)) then QgW p d v else bif decide ((((L.map Jr).length:Nat):Int)=0) then 40 else 0
section
variable {F:Nat} {p:Pr} {x:Pl} (h:Cx F p x)
include h
theorem Cx.not_in {d:Nat} (hd:(d:Int)∈x.Left) (v:Int):(d:Int)∉(ofP x v).Stops:=by
 have h1:=h.fe.lft _ hd;have h2:=h.fe.one d (by omega);have h3:0<cn x.Left d:=List.count_pos_iff.2 hd;rcases Qhl x v with ⟨h4,_⟩ | h4
 ·have h5:=QpJ h4 d;intro hm;have h6:0<cn (ofP x v).Stops d:=List.count_pos_iff.2 hm
  omega
 ·rw[h4];simp
theorem Cx.tO_self {d:Nat} (hd:(d:Int)∈x.Left) (v:Int):tO x (d:Int) v=ofP x v:=by
 unfold tO
 rw[QfI (fun y hy=>by
  simp only[decide_eq_false_iff_not]
  intro e
  rw[e] at hy
  exact h.not_in hd v hy)]
 have:=QmJ x v;cases hq:ofP x v with
 | mk a b=>rw[hq] at this;simp only at this ⊢;rw[this]
theorem Cx.reason {d v:Nat} (hd:(d:Int)∈x.Left) (hv:v<p.Vehicles.length): ∃r ve de car L,Yo F p x d v=some r∧Z9 F p x d v=some r∧Rs F p x d v r ve de car L:=by
 have hF:=h.hF;have htl:=h.tl;have hdd:=h.fe.lft _ hd;have hdl:d<p.Demands.length:=by omega
 have g1:p.Vehicles[v]? =some p.Vehicles[v]:=List.getElem?_eq_getElem hv;have g2:p.Demands[d]? =some p.Demands[d]:=List.getElem?_eq_getElem hdl;have hvk:=h.fe.ok.ve _ (List.mem_of_getElem? g1);have hdk:=h.fe.ok.de _ (List.mem_of_getElem? g2);obtain ⟨c1,c2⟩:=Qfy hvk hdk.k0 hdk.k1;have hs:(ofP x (v:Int)).Stops.length≤1000:=by have:=h.fe.of_len v;omega
 obtain ⟨L,e,o1,o2,o3,o4⟩:=Qa3 hF p h.hn (ofP x v) hs d;have hbad:Qkc p (ofP x v) d=false:=by
  unfold Qkc
  rw[QmJ]
  simp;omega
 have he:=o4 h.fe.chk hbad
 rw[show decide ((d:Int)∈(ofP x (v:Int)).Stops)=false from decide_eq_false (h.not_in hd v)] at he
 have he:e=0:=he;subst he;obtain ⟨b1,b2⟩:=Qh8 hF p h.hn (ofP x v) hs d;obtain ⟨e',k1,k2,_⟩:=Qj5 o2 o3;have hbs:bsO F p x d v=L.head? :=by
  unfold bsO V6
  rw[h.tO_self hd,o1]
  cases L<;>rfl
 refine ⟨_,p.Vehicles[v],p.Demands[d],QhB p.Vehicles[v] p.Demands[d].Kind,L,?_,?_,⟨g1,g2,c1,by rw[b1,o2],⟨e',by rw[b2,k1],k2⟩,hbs,rfl,rfl⟩⟩
 ·unfold Yo
  rw[Qs,Qs,g1,g2]
  simp only[Option.bind_some,c1]
  rw[Qmx hF h.fe.ok h.fe.chk h.hn,(Qhx (x:=x) (v:Int) (by omega)).1]
  simp only[Option.bind_some,oun,b1,o2]
  cases QhB p.Vehicles[v] p.Demands[d].Kind with
  | false=>rfl
  | true =>
   simp only[Bool.not_true,cond_false]
   cases decide (p.Vehicles[v].Grams<p.Demands[d].Grams) with
   | true=>rfl
   | false =>
    simp only[cond_false]
    show (bif !(decide (QgW p d v=0)) then some (QgW p d v) else _)=_
    cases decide (QgW p d v=0) with
    | false=>rfl
    | true =>
     simp only[Bool.not_true,cond_false,decide_true]
     cases decide ((((L.map Jr).length:Nat):Int)=0)<;>rfl
 ·unfold Z9
  rw[Qs,Qs,g1,g2]
  simp only[Option.bind_some,c2]
  rw[Qhz h.fe.ok h.fe.chk,(Qhx (x:=x) (v:Int) (by omega)).2]
  simp only[Option.bind_some,oun,o2]
  cases QhB p.Vehicles[v] p.Demands[d].Kind with
  | false=>rfl
  | true =>
   simp only[Bool.not_true,cond_false]
   cases decide (p.Vehicles[v].Grams<p.Demands[d].Grams) with
   | true=>rfl
   | false =>
    simp only[cond_false]
    show (bif !(decide (QgW p d v=0)) then some (QgW p d v) else _)=_
    cases decide (QgW p d v=0) with
    | false=>rfl
    | true =>
     simp only[Bool.not_true,cond_false]
     cases decide ((((L.map Jr).length:Nat):Int)=0)<;>rfl
def rsn (F:Nat) (p:Pr) (x:Pl) (d v:Nat):Int:=(Yo F p x d v).getD 0
theorem Cx.rsn_at {d v:Nat} (hd:(d:Int)∈x.Left) (hv:v<p.Vehicles.length):Yo F p x d v=some (rsn F p x d v)∧Z9 F p x d v=some (rsn F p x d v)∧ ∃ve de car L,Rs F p x d v (rsn F p x d v) ve de car L:=by
 obtain ⟨r,ve,de,car,L,h1,h2,h3⟩:=h.reason hd hv;have:rsn F p x d v=r:=by unfold rsn;rw[h1];rfl
 rw[this]
 exact ⟨h1,h2,ve,de,car,L,h3⟩
end
def rsL (F:Nat) (p:Pr) (x:Pl) (d:Nat) (n:Nat):List Rn:=(List.range n).map fun v:Nat=>⟨(v:Int),rsn F p x d v⟩
theorem Qmy (F:Nat) (p:Pr) (x:Pl) (d n:Nat):(rsL F p x d n).length=n:=by simp[rsL]
theorem QoZ (F:Nat) (p:Pr) (x:Pl) (d n:Nat):rsL F p x d (n+1)=rsL F p x d n++[⟨(n:Int),rsn F p x d n⟩]:=by simp[rsL,List.range_succ]
theorem QkJ {F:Nat} {p:Pr} {x:Pl} {d:Nat} {body:List Rn×Int→Option ((List Rn×Int)⊕List Rn)} {rf:Int→Option Int} (hV:p.Vehicles.length≤1000) (hb: ∀q:List Rn×Int,body q=bif decide (q.2<((p.Vehicles.length:Nat):Int)) then Option.bind (rf q.2) fun r3=>Option.bind (Z0 q.1 [⟨q.2,r3⟩]) fun l1=>some (.inl (l1,w64 (q.2+1))) else some (.inr q.1))
  (hr: ∀v:Nat,v<p.Vehicles.length→rf v=some (rsn F p x d v)):iter body (((p.Vehicles.length:Nat):Int).toNat+1) ([],0)=some (rsL F p x d p.Vehicles.length):=by
 have:=YZ (body:=body) p.Vehicles (fun k=>rsL F p x d k) (fun m k=>(m,k)) (fun _ _=>none) (rsL F p x d p.Vehicles.length) (by omega) (fun k y hk _=> ?_) (fun _=>by rw[hb];simp) (((p.Vehicles.length:Nat):Int).toNat+1) (by simp)
 ·rw[QW _ _ (fun _ _ _=>rfl)] at this
  exact this
 ·have h0:=Qv hk;have h1:((k:Int)<((p.Vehicles.length:Nat):Int)):=by omega
  have h2:=Qmy F p x d k
  rw[hb]
  simp only[h1,decide_true,cond_true,hr k h0,Option.bind_some]
  rw[Yn (by simp;omega),QoZ]
  rfl
theorem Qmw {F:Nat} (hF:40000≤F) {p:Pr} (hn:p.Road.Edges.length≤600) (hv:p.Vehicles.length≤30) (x:Pl) (hx:x.Tours.length≤30) (hl:x.Left.length≤100) (d:Int) :
  ∃R e,JA F p x d=some (R,e)∧W2 F p x d=some (R,e)∧R.length≤30∧((e≠0∧R=[])∨(e=0∧Cx F p x∧ ∃n:Nat,d=(n:Int)∧d∈x.Left∧n<p.Demands.length∧R=rsL F p x n p.Vehicles.length))∧(d∈x.Left→WT F p x=some 0→e=0):=by
 obtain ⟨s,e,a1,a2,a3,a4⟩:=Qen hF hn x hx hl;have hfe:WT F p x=some e:=by unfold WT;rw[a1];rfl
 unfold JA W2
 rw[hfe,a2]
 by_cases he:e=0
 ·have hc:Cx F p x:=⟨hF,hn,hv,(a4 he).2,hx,hl⟩
  subst he
  simp only[Option.bind_some,decide_true,Bool.not_true,cond_false]
  by_cases h1:d<0
  ·simp only[h1,decide_true,cond_true,Option.bind_some]
   exact ⟨[],7,rfl,rfl,by simp,.inl ⟨by decide,rfl⟩,fun hm _=>by have:=hc.fe.lft _ hm;omega⟩
  by_cases h2:((p.Demands.length:Nat):Int)≤d
  ·simp only[h1,h2,decide_true,decide_false,cond_true,cond_false,Option.bind_some]
   exact ⟨[],7,rfl,rfl,by simp,.inl ⟨by decide,rfl⟩,fun hm _=>by have:=hc.fe.lft _ hm;omega⟩
  simp only[h1,h2,decide_false,cond_false,Option.bind_some]
  rw[Qop d (by omega),QcC _ (by omega)]
  simp only[Option.bind_some]
  by_cases h3:d∈x.Left
  ·obtain ⟨n,rfl⟩: ∃n:Nat,d=(n:Int):=⟨d.toNat,by omega⟩
   simp only[h3,decide_true,Bool.not_true,cond_false]
   have q1:=QkJ (F:=F) (p:=p) (x:=x) (d:=n) (body:=QbT F p x n) (rf:=Yo F p x n) (by omega) (fun q=>rfl) (fun v hv=>(hc.rsn_at h3 hv).1);have q2:=QkJ (F:=F) (p:=p) (x:=x) (d:=n) (body:=VY F p x n) (rf:=Z9 F p x n) (by omega) (fun q=>rfl) (fun v hv=>(hc.rsn_at h3 hv).2.1)
   rw[q1,q2]
   exact ⟨_,0,rfl,rfl,by rw[Qmy];exact hv,.inr ⟨rfl,hc,n,rfl,by first | exact h3 | trivial,by omega,rfl⟩,fun _ _=>rfl⟩
  ·simp only[h3,decide_false,Bool.not_false,cond_true]
   exact ⟨[],13,rfl,rfl,by simp,.inl ⟨by decide,rfl⟩,fun hm _=>by first | exact absurd hm h3 | exact hm.elim⟩
 ·simp only[Option.bind_some,he,decide_false,Bool.not_false,cond_true]
  exact ⟨[],e,rfl,rfl,by simp,.inl ⟨he,rfl⟩,fun _ h=>by first | (injection h;done) | (injection h with h;exact h)⟩
end Go.Proofs.YthpgjbbjpfiniaaGreat
namespace Go.Proofs.YthpgjbbjpfiniaaGreat
open Go.RowKit
set_option linter.unusedSimpArgs false
set_option linter.unusedVariables false
def exD:Pr:=⟨⟨2,[⟨0,1,500,60⟩,⟨1,0,500,60⟩]⟩,[⟨⟨#[118]⟩,0,⟨1000,2000⟩,1000,1⟩],[⟨0,1,0,300,⟨1100,1200⟩,30⟩],0,20⟩
def exE:Pr:=⟨⟨2,[⟨0,1,500,60⟩,⟨1,0,500,60⟩]⟩,[⟨⟨#[118]⟩,0,⟨1000,2000⟩,299,1⟩],[⟨0,1,0,300,⟨1100,1200⟩,30⟩],0,20⟩
theorem QiX:Qo exD=some 0:=by decide +kernel
theorem QnL:Qo exE=some 0:=by decide +kernel
theorem Qln:OkP exD:=OkP.of (by decide) QiX
theorem Qp2:OkP exE:=OkP.of (by decide) QnL
theorem Qf7 {p:Pr} (hp:OkP p) (hc:Qo p=some 0) {t:Qa} {c:Int×Int} (h:Yq p t=some c):YH p t=c:=by
 rw[Qee hp hc t] at h
 injection h
theorem Qlc:YH exD ⟨0,[0,-1]⟩=(1000,0):=Qf7 Qln QiX (by decide +kernel)
theorem Qo2:YH exD ⟨0,[0,-1,-1]⟩=(1000,0):=Qf7 Qln QiX (by decide +kernel)
theorem Qox:YH exD ⟨0,[-1,0,-1]⟩=(1000,0):=Qf7 Qln QiX (by decide +kernel)
theorem QqP:YH exE ⟨0,[0,-1]⟩=(0,20):=Qf7 Qp2 QnL (by decide +kernel)
theorem Qhv {F:Nat} (hF:40000≤F):QT F exD ⟨0,[]⟩ 0=some ([⟨⟨0,[0,-1]⟩,1000⟩],0):=by
 obtain ⟨L,h1,h2⟩:=QeN hF (p:=exD) (by decide) (t:=⟨0,[]⟩) (by decide) (d:=0) QiX (by decide) (by decide);have hf:Qb6 exD ((Qbr [] 0).map (toT 0))=[⟨⟨0,[0,-1]⟩,1000⟩]:=by
  rw[show Qbr [] 0=[[0,-1]] by decide]
  simp[Qb6,Qgv,toT,Qlc]
 have h3:=h2.stab
 simp only at h3
 rw[hf] at h3
 have:=h3.perm.symm.eq_singleton
 rw[this] at h1
 exact h1
theorem Qks {F:Nat} (hF:40000≤F):QT F exE ⟨0,[]⟩ 0=some ([],0):=by
 obtain ⟨L,h1,h2⟩:=QeN hF (p:=exE) (by decide) (t:=⟨0,[]⟩) (by decide) (d:=0) QnL (by decide) (by decide);have hf:Qb6 exE ((Qbr [] 0).map (toT 0))=[]:=by
  rw[show Qbr [] 0=[[0,-1]] by decide]
  simp[Qb6,Qgv,toT,QqP]
 have h3:=h2.stab
 simp only at h3
 rw[hf] at h3
 have:=h3.perm.symm.eq_nil
 rw[this] at h1
 exact h1
theorem Qnh {F:Nat} (hF:40000≤F): ∃L,QT F exD ⟨0,[-1]⟩ 0=some (L,0)∧ ∀y∈L,y.tour=⟨0,[0,-1]⟩∨y.tour=⟨0,[0,-1,-1]⟩∨y.tour=⟨0,[-1,0,-1]⟩:=by
 obtain ⟨L,h1,h2⟩:=QeN hF (p:=exD) (by decide) (t:=⟨0,[-1]⟩) (by decide) (d:=0) QiX (by decide) (by decide);refine ⟨L,h1,fun y hy=> ?_⟩;have hf:Qb6 exD ((Qbr [-1] 0).map (toT 0))=[⟨⟨0,[0,-1]⟩,1000⟩,⟨⟨0,[0,-1,-1]⟩,1000⟩,⟨⟨0,[-1,0,-1]⟩,1000⟩]:=by
  rw[show Qbr [-1] 0=[[0,-1],[0,-1,-1],[-1,0,-1]] by decide]
  simp[Qb6,Qgv,toT,Qlc,Qo2,Qox]
 have h3:=h2.stab
 simp only at h3
 rw[hf] at h3
 have h4:=h3.perm.symm.subset hy
 simp only[List.mem_cons,List.not_mem_nil,or_false] at h4
 rcases h4 with rfl | rfl | rfl
 ·exact .inl rfl
 ·exact .inr (.inl rfl)
 ·exact .inr (.inr rfl)
def pD:Pl:=⟨[⟨0,[0,-1]⟩],[]⟩
def p0:Pl:=⟨[],[0]⟩
theorem QpF {F:Nat} (hF:40000≤F):QbV F exD=pD:=by
 have h1:V6 F exD ((0:Nat):Int) ⟨⟨0,[]⟩,0⟩=some ⟨⟨0,[0,-1]⟩,1000⟩:=by
  unfold V6
  rw[show QT F exD (Qc.mk ⟨0,[]⟩ 0).tour ((0:Nat):Int)=QT F exD ⟨0,[]⟩ 0 from rfl,Qhv hF]
 have h2:Qcz F exD 1=QdV (V6 F exD ((0:Nat):Int)) ((0:Nat):Int) ([⟨⟨0,[]⟩,0⟩],[]):=rfl;have h3:Qcz F exD 1=([⟨⟨0,[0,-1]⟩,1000⟩],[]):=by
  rw[h2]
  unfold QdV
  simp only[VP,h1]
  rfl
 unfold QbV
 rw[show exD.Demands.length=1 from rfl,h3]
 rfl
theorem Qpi {F:Nat} (hF:40000≤F):QbV F exE=p0:=by
 have h1:V6 F exE ((0:Nat):Int) ⟨⟨0,[]⟩,0⟩=none:=by
  unfold V6
  rw[show QT F exE (Qc.mk ⟨0,[]⟩ 0).tour ((0:Nat):Int)=QT F exE ⟨0,[]⟩ 0 from rfl,Qks hF]
 have h2:Qcz F exE 1=QdV (V6 F exE ((0:Nat):Int)) ((0:Nat):Int) ([⟨⟨0,[]⟩,0⟩],[]):=rfl;have h3:Qcz F exE 1=([⟨⟨0,[]⟩,0⟩],[0]):=by
  rw[h2]
  unfold QdV
  simp only[VP,h1]
  rfl
 unfold QbV
 rw[show exE.Demands.length=1 from rfl,h3]
 rfl
theorem QpI:Wg (J6 exD pD)=1000:=by
 unfold Wg J6 pD Zp QaB
 simp[Qlc]
theorem Qq5 (p:Pr):Wg (J6 p p0)=1000000000000:=by
 unfold Wg J6 p0 Zp QaB
 simp
theorem QqW {F:Nat} (hF:40000≤F):Qba F exD pD 1=[]:=by
 have hm:mvs F exD pD 0 0=none:=by
  obtain ⟨L,h1,h2⟩:=Qnh hF;have hb:bsO F exD pD ((0:Nat):Int) ((0:Nat):Int)=L.head? :=by
   unfold bsO V6
   rw[show QT F exD (Qc.mk (tO pD ((0:Nat):Int) ((0:Nat):Int)) 0).tour ((0:Nat):Int)=QT F exD ⟨0,[-1]⟩ 0 from rfl,h1]
   cases L<;>rfl
  unfold mvs mvR
  rw[hb]
  cases L with
  | nil=>rfl
  | cons y M =>
   have c1:=h2 y List.mem_cons_self;have e1: ∀b:To,Qbp b=true→QdT exD pD ((0:Nat):Int) ((0:Nat):Int) b=⟨[b],[]⟩:=fun b hb=>by
    unfold QdT
    rw[show (List.range exD.Vehicles.length).map (stB pD ((0:Nat):Int) ((0:Nat):Int) b)=[b] from rfl]
    simp only[List.filter_cons,hb,if_true]
    rfl
   have e2:Qbp y.tour=true∧(YH exD y.tour).1=1000:=by
    rcases c1 with c | c | c
    ·rw[c,Qlc];exact ⟨rfl,rfl⟩
    ·rw[c,Qo2];exact ⟨rfl,rfl⟩
    ·rw[c,Qox];exact ⟨rfl,rfl⟩
   simp only[List.head?_cons,Option.map_some,Option.bind_some]
   rw[if_neg]
   rw[QpI,e1 _ e2.1]
   unfold Wg J6 Zp QaB
   simp[e2.2]
 show Qba F exD pD 0++QcZ F exD pD 0 1=[]
 show []++([]++(mvs F exD pD 0 0).toList)=[]
 rw[hm];rfl
theorem Qrn {p:Pr} (hp:OkP p) (hc:Qo p=some 0) (hd:p.Demands.length=1):Fe p p0 where
 ok:=hp
 chk:=hc
 drv:=fun t ht=>by cases ht
 dis:=List.Pairwise.nil
 lft:=fun e he=>by
  have:e=0:=by simpa [p0] using he
  omega
 one:=fun d hd2=>by
  obtain rfl:d=0:=by omega
  rfl
theorem Qrf {F:Nat} (hF:40000≤F) {p:Pr} (hp:OkP p) (hc:Qo p=some 0) (hd:p.Demands.length=1) (hn:p.Road.Edges.length≤600) (hv:p.Vehicles.length≤30):Cx F p p0 :=
 ⟨hF,hn,hv,Qrn hp hc hd,by decide,by decide⟩
theorem Qrc {F:Nat} (hF:40000≤F):Qba F exD p0 1=[J6 exD pD]:=by
 have hb:bsO F exD p0 ((0:Nat):Int) ((0:Nat):Int)=some ⟨⟨0,[0,-1]⟩,1000⟩:=by
  unfold bsO V6
  rw[show QT F exD (Qc.mk (tO p0 ((0:Nat):Int) ((0:Nat):Int)) 0).tour ((0:Nat):Int)=QT F exD ⟨0,[]⟩ 0 from rfl,Qhv hF]
 have hm:mvs F exD p0 0 0=some (J6 exD pD):=by
  unfold mvs mvR
  rw[hb]
  simp only[Option.map_some,Option.bind_some]
  rw[show QdT exD p0 ((0:Nat):Int) ((0:Nat):Int) ⟨0,[0,-1]⟩=pD from rfl,QpI,Qq5,if_pos (by decide)]
 show []++([]++(mvs F exD p0 0 0).toList)=_
 rw[hm];rfl
theorem Qq9 {F:Nat} (hF:40000≤F):Qba F exE p0 1=[]:=by
 have hb:bsO F exE p0 ((0:Nat):Int) ((0:Nat):Int)=none:=by
  unfold bsO V6
  rw[show QT F exE (Qc.mk (tO p0 ((0:Nat):Int) ((0:Nat):Int)) 0).tour ((0:Nat):Int)=QT F exE ⟨0,[]⟩ 0 from rfl,Qks hF]
 have hm:mvs F exE p0 0 0=none:=by
  unfold mvs mvR
  rw[hb];rfl
 show []++([]++(mvs F exE p0 0 0).toList)=_
 rw[hm];rfl
theorem Ql5 {F:Nat} {p:Pr} {x:Pl} (h:Cx F p x) (ha:Qba F p x p.Demands.length=[]):iter (Vx F p) F (x.Tours,x.Left)=some (x,0):=by
 have hF:=h.hF;obtain ⟨L,h1,_,_,h4⟩:=h.both
 rw[ha] at h4
 have hL:L=[]:=h4.perm.symm.eq_nil;subst hL;have h1':Jt F p (Qf.mk x.Tours x.Left)=some ([],0):=h1;obtain ⟨f,hf⟩: ∃f,F=f+1:=⟨F-1,by omega⟩
 have key: ∀n,iter (Vx F p) (n+1) (x.Tours,x.Left)=some (x,0):=fun n=>by
  simp only[iter,Vx,oun,h1',Option.bind_some,decide_true,Bool.not_true,cond_false,List.length_nil]
  rfl
 have:=key f
 rw[←hf] at this
 exact this
theorem Qoi {F:Nat} (hF:40000≤F) {p:Pr} {x:Pl} (hn:p.Road.Edges.length≤600) (hv:p.Vehicles.length≤30) (hp:OkP p) (hc:Qo p=some 0) (hx:QbV F p=x) (ha:Qba F p x p.Demands.length=[]):WQ F p=some (x,0):=by
 obtain ⟨e,h1,h2⟩:=Qmk hF p hn (by omega) (by have:=hp.dl;omega)
 rw[hc] at h1
 injection h1 with h1
 subst h1;rcases h2 with ⟨h2,_⟩ | ⟨_,_,h4,_⟩
 ·exact absurd rfl h2
 ·subst hx;unfold WQ
  rw[h4]
  simp only[Option.bind_some,oun,decide_true,Bool.not_true,cond_false]
  rw[Ql5 (QoE hF hn hv hp hc) ha]
  rfl
theorem QpP {F:Nat} (hF:40000≤F) {p:Pr} (hp:OkP p) (hc:Qo p=some 0) (hd:p.Demands.length=1) (hn:p.Road.Edges.length≤600) (hv:p.Vehicles.length=1) {c:Int} (hr:Yo F p p0 0 0=some c):JA F p p0 0=some ([⟨0,c⟩],0):=by
 have hcx:=Qrf hF hp hc hd hn (by omega);obtain ⟨R,e,h1,_,_,h4,h5⟩:=Qmw hF hn (by omega) p0 (by decide) (by decide) 0;have hf:WT F p p0=some 0:=by
  unfold WT
  rw[hcx.total.1];rfl
 have he:=h5 (by simp[p0]) hf;subst he;rcases h4 with ⟨h4,_⟩ | ⟨_,_,n,hn2,_,_,hR⟩
 ·exact absurd rfl h4
 ·obtain rfl:n=0:=by omega
  rw[h1,hR,hv]
  have:rsn F p p0 0 0=c:=by
   unfold rsn
   rw[show Yo F p p0 ((0:Nat):Int) ((0:Nat):Int)=Yo F p p0 0 0 from rfl,hr]
   rfl
  show some ([(⟨((0:Nat):Int),rsn F p p0 0 0⟩:Rn)],(0:Int))=_
  rw[this];rfl
theorem Qn6 {F:Nat} (hF:40000≤F):Yo F exD p0 0 0=some 0:=by
 have hw:Qcc F exD ⟨0,[0,-1]⟩=some ((Qdp exD ⟨0,[0,-1]⟩).1,0,(Qdp exD ⟨0,[0,-1]⟩).2.2):=by
  rw[Qmx hF Qln QiX (by decide)]
  have h1:=Qlc;unfold YH at h1;unfold Qdp;cases h:WR exD ⟨0,[0,-1]⟩ with
  | inl z=>rfl
  | inr q=>rw[h] at h1;injection h1 with _ h2;exact absurd h2 (Qai h)
 have ho:Jv F exD ⟨0,[]⟩ 0=some ([⟨0,[0,-1]⟩],0):=Ql2 (Qhv hF) (by decide);unfold Yo
 rw[show getI exD.Vehicles 0=some ⟨⟨#[118]⟩,0,⟨1000,2000⟩,1000,1⟩ from rfl,show getI exD.Demands 0=some ⟨0,1,0,300,⟨1100,1200⟩,30⟩ from rfl]
 simp only[Option.bind_some]
 rw[show Z4 ⟨⟨#[118]⟩,0,⟨1000,2000⟩,1000,1⟩ 0=some true by decide +kernel,hw,(Qhx (x:=p0) 0 (by decide)).1,show ofP p0 0=⟨0,[]⟩ from rfl]
 simp only[Option.bind_some,oun,ho]
 rfl
theorem QoS {F:Nat} (hF:40000≤F):Yo F exE p0 0 0=some 20:=by
 unfold Yo
 rw[show getI exE.Vehicles 0=some ⟨⟨#[118]⟩,0,⟨1000,2000⟩,299,1⟩ from rfl,show getI exE.Demands 0=some ⟨0,1,0,300,⟨1100,1200⟩,30⟩ from rfl]
 simp only[Option.bind_some]
 rw[show Z4 ⟨⟨#[118]⟩,0,⟨1000,2000⟩,299,1⟩ 0=some true by decide +kernel]
 rfl
theorem Qpa {F:Nat} (hF:40000≤F):Ji F=some true:=by
 have h1:WQ F exD=some (pD,0):=Qoi hF (by decide) (by decide) Qln QiX (QpF hF) (QqW hF);have h2:Jt F exD p0=some ([pD],0):=by
  obtain ⟨L,q1,_,_,q4⟩:=(Qrf hF Qln QiX rfl (by decide) (by decide)).both
  rw[show exD.Demands.length=1 from rfl,Qrc hF] at q4
  rw[q1,q4.perm.symm.eq_singleton]
  rfl
 have h3:JA F exD p0 0=some ([⟨0,0⟩],0):=QpP hF Qln QiX rfl (by decide) rfl (Qn6 hF);have h4:WQ F exE=some (p0,0):=Qoi hF (by decide) (by decide) Qp2 QnL (Qpi hF) (Qq9 hF);have h5:JA F exE p0 0=some ([⟨0,20⟩],0):=QpP hF Qp2 QnL rfl (by decide) rfl (QoS hF);have s1:YD pD pD=some true:=QeP _ (by decide) (fun t ht=>by simp[pD] at ht;subst ht;decide) (by decide);have s2:YD p0 p0=some true:=QeP _ (by decide) (fun t ht=>by cases ht) (by decide);have r1:Ya [⟨0,0⟩] [⟨0,0⟩]=some true:=by rw[(QiB (by decide)).1];simp
 have r2:Ya [⟨0,20⟩] [⟨0,20⟩]=some true:=by rw[(QiB (by decide)).1];simp
 unfold exD at h1 h2 h3;unfold exE at h4 h5;unfold pD at h1 h2 s1;unfold p0 at h2 h3 h4 h5 s2;unfold Ji
 rw[h1]
 simp only[Option.bind_some,oun]
 rw[h2]
 simp only[Option.bind_some,oun]
 rw[h3]
 simp only[Option.bind_some,oun]
 rw[show getI [(Qp.mk ⟨#[118]⟩ 0 (QE.mk 1000 2000) 1000 1)] 0=some (Qp.mk ⟨#[118]⟩ 0 (QE.mk 1000 2000) 1000 1) from rfl]
 simp only[Option.bind_some]
 rw[show Yi [(Qp.mk ⟨#[118]⟩ 0 (QE.mk 1000 2000) 1000 1)] 0 (Qp.mk ⟨#[118]⟩ 0 (QE.mk 1000 2000) 299 1)=[(Qp.mk ⟨#[118]⟩ 0 (QE.mk 1000 2000) 299 1)] from rfl]
 rw[h4]
 simp only[Option.bind_some,oun]
 rw[h5]
 simp only[Option.bind_some,oun,s1,s2,r1,r2]
 rfl
end Go.Proofs.YthpgjbbjpfiniaaGreat
namespace Go.Proofs.YthpgjbbjpfiniaaGreat
open Go.RowKit
set_option linter.unusedSimpArgs false
set_option linter.unusedVariables false
theorem Qnn {F:Nat} (hF:40000≤F) (p:Pr) (x:Pl) (d:Int) (l:List Rn):Zd F p x d l=some true:=by
 have haw:=Qpa hF;unfold Zd;rcases QpB p x with hb | ⟨hb,hl⟩
 ·rw[hb];simp only[Option.bind_some,cond_true,haw]
 ·rw[hb]
  simp only[Option.bind_some,cond_false]
  by_cases hlen:(20:Int)<((l.length:Nat):Int)
  ·simp only[hlen,decide_true,cond_true,haw,Option.bind_some]
  ·simp only[hlen,decide_false,cond_false]
   have hve:=hl.ve;have hto:=hl.to;obtain ⟨R,e,h1,h2,h3,h4,_⟩:=Qmw hF hl.ed (by omega) x (by omega) hl.le d;unfold Qae Vk
   rw[h1,h2]
   have q1:=(QiB (a:=R) (b:=l) (by omega)).2;have q2:=(QiB (a:=l) (b:=R) (by omega)).1;have q3:=(QiB (a:=R) (b:=R) (by omega)).2
   simp only[Option.bind_some,oun,q1,q2,q3,decide_true]
   by_cases he:e=0
   ·have:decide (R=l)=decide (l=R):=by rw[decide_eq_decide];exact eq_comm
    simp[he,this,haw]
   ·simp[he,haw]
theorem Qa0 (p:Qe) (x:Qf) (d:Int) (l:List QB) (hp:Qel p) (hx:QgS x) (hd:wfI .i64 d) (hl: ∀x∈l,Qfa x): ∃F,Zd F p x d l=some true:=⟨40000,Qnn (Nat.le_refl _) p x d l⟩
end Go.Proofs.YthpgjbbjpfiniaaGreat
namespace Go.Proofs.YthpgjbbjpfiniaaGreat
open Go.RowKit Go.ChangeShapes Go.WideShapes
set_option linter.unusedSimpArgs false
set_option linter.unusedVariables false
def QjS (W:World):Gh:=⟨fun b=>W.heap[b]?,W.os,W.output,W.tape⟩
theorem Qn8 (W:World):Inv W (QjS W) []:=⟨rfl,rfl,rfl,fun _ _ h=>h,by simp,by simp,by simp⟩
theorem QnK {W W':World} {μ:Gh} {L:List Seg} (hm:(QjS W).le μ) (h:Inv W' μ L):Below W.heap.size W W':=by
 have hb: ∀k,k<W.heap.size→W'.heap[k]? =W.heap[k]? :=fun k hk=>by
  have h1:W.heap[k]? =some W.heap[k]:=by simp[hk]
  rw[h1]
  exact h.mem k _ (hm.mem k _ h1)
 refine ⟨h.os.trans hm.os,h.tape.trans hm.tape,h.out.trans hm.out,?_,hb⟩;rcases Nat.eq_zero_or_pos W.heap.size with h0 | h0
 ·omega
 ·have h1:=hb (W.heap.size-1) (by omega);have h2:W.heap[W.heap.size-1]? =some (W.heap[W.heap.size-1]'(by omega)):=by simp
  rw[h2] at h1
  have:=JE h1
  omega
theorem QkR {P:Program} {f:FuncId} {fn:Func} (hf:P.funcs[f]? =some fn) (hb:fn.body.isNone=false) {args:List Value} {W:World} {v:Value} (h:Fn P f args (QjS W) [] fun u _ _=>u=v) :
  Calls P f args.toArray W fun e W'=>e= .returned v∧Below W.heap.size W W':=by
 rcases h with ⟨_,h⟩ | ⟨fn',_,hf',_,hb',_⟩
 ·refine (h W (Qn8 W)).mono ?_;rintro e W' ⟨u,μ',L',rfl,hm,hi,rfl⟩;exact ⟨rfl,QnK hm hi⟩
 ·rw[hf] at hf'
  injection hf' with hf'
  subst hf'
  rw[hb] at hb';cases hb'
section
variable {H:Type} {enc:TypeId×Value→H} {P:Program}
theorem Qfc (hl:laidOutB P=true) {W W':World} (hb:Below W.heap.size W W') {sp:Nat→Bool}: ∀{ts:List TypeId} {vs:List Value} {ds:List (DataW H)} {ps:List MemPlace},
  (∀t∈ts,P.readableRec t=true∧t<P.types.size)→(∀p∈ps,p.block<W.heap.size)→(∀p∈ps,sp p.block=true) →
  DataW.TrodAll enc P W 0 (fun _=>true) true ts vs ds ps→DataW.TrodAll enc P W' 0 sp true ts vs ds ps
 | [],vs,ds,ps,_,_,_,h=>by
  obtain ⟨rfl,rfl,rfl⟩:=trodAll_nil h
  rfl
 | t::ts,vs,ds,ps,hr,hlt,hs,h=>by
  obtain ⟨v,vs',d,ds',p,q,rfl,rfl,rfl,hd,hrest⟩:=trodAll_cons h;refine ⟨p,q,WideElems.Trod_stays hl (hr t (by simp)).1 (hr t (by simp)).2 hd (fun x hx=>hb.same (hlt x (by simp[hx]))) (fun x hx=>hs x (by simp[hx])),?_,rfl⟩;exact Qfc hl hb (fun u hu=>hr u (by simp[hu])) (fun x hx=>hlt x (by simp[hx])) (fun x hx=>hs x (by simp[hx])) hrest
theorem Qna {f:Func} {s:ChangeSpec} {apart fresh handsOn again:Bool} {W W':World} {args:Array Value} {ds:List (DataW H)} {before:List MemPlace} {tb:TypeId}
  (hW:DataW.Whole enc P f.params.toList s.vars apart W args.toList ds [] before) (hv:s.vars=[]) (hres:f.resultTypes= #[tb]) (htb:P.underlying tb=some .bool)
  (hfr:(s.fn H ds).results=[.lit (.bool true)]) (hfa:(s.fn H ds).args=ds) (hfv:(s.fn H ds).vars=[]) (hl:laidOutB P=true) (hr: ∀t∈f.params.toList,P.readableRec t=true∧t<P.types.size) (hb:Below W.heap.size W W') :
  s.post enc P f apart fresh handsOn again W args (.bool true) W':=by
 have hlt: ∀p∈before,p.block<W.heap.size:=fun p hp=>hW.lt p hp;have hW':=hW;obtain ⟨p,q,hA,hV,hpq,hz,hn⟩:=hW'
 rw[hv] at hV
 obtain ⟨_,rfl⟩:=trodVars_none hV
 rw[List.append_nil] at hpq
 subst hpq;have hresl:((Value.bool true).resultList f.resultTypes.size)=[.bool true]:=by rw[hres];rfl
 have hargs: ∀sp:Nat→Bool,(∀x∈before,sp x.block=true)→DataW.TrodAll enc P W' 0 sp true f.params.toList args.toList ds before:=fun sp hs=>Qfc hl hb hr hlt hs hA;have hres2: ∀(b:Nat) (sp:Nat→Bool) (hd:Bool),DataW.TrodAll enc P W' b sp hd f.resultTypes.toList [.bool true] [.lit (.bool true)] []:=fun b sp hd=>by
  rw[hres];exact trodAll_mk1 (shut_bool htb true)
 have hold: ∀p∈before,(fun b=>decide (b<W.heap.size)) p.block=true:=fun p hp=>by simpa using hlt p hp
 have hvars: ∀sp:Nat→Bool,DataW.TrodVars enc P W' sp s.vars [] []:=fun sp=>by rw[hv];rfl
 refine ⟨ds,[],before,[],before,[],hW,?_,?_,?_,World.keptBut_mono (fun p hp=>⟨hp,by simpa using hp⟩) (hb.frame (· ∈before)),fun _=> ?_⟩
 ·rw[hresl,List.append_nil,hfr];exact hres2 _ _ _
 ·rw[List.append_nil,hfa];exact hargs _ hold
 ·rw[List.append_nil,hfv];exact hvars _
 ·have A1:=hargs (fun _=>true) (fun _ _=>rfl);have R1:=hres2 0 (fun _=>true) true;refine ⟨ok_one hres rfl (okWide_bool_mk htb true),?_⟩
  rw[hresl]
  refine ⟨_,_,([]++before)++[],⟨[]++before,[],trodAll_append A1 R1,hvars _,rfl,?_,?_⟩,?_⟩
  ·intro b off hp;have hin:MemPlace.cell b off∈before:=by simpa using hp
   rw[hb.frozen (hlt _ hin)]
   exact hz b off hin
  ·intro ha;have:=hn ha
   simpa using this
  ·intro p hp _
   simpa using hp
end
end Go.Proofs.YthpgjbbjpfiniaaGreat
namespace Go.Proofs.YthpgjbbjpfiniaaGreat
open Go.RowKit Go.ChangeShapes Go.WideShapes Go.Deep
set_option linter.unusedSimpArgs false
set_option linter.unusedVariables false
theorem QiW {W:World} {L:List Seg} {a:Addr} {v:Value} (h:W.cell? a=some v):WA (QjS W) L a v:=by
 unfold World.cell? at h
 split at h
 ·rename_i c e f hb
  split at h
  ·cases h
  ·rename_i hs
   refine ⟨by simpa using hs,c,e,f,.inl hb,by simpa using h⟩
 ·cases h
theorem QmF {α β:Type} (Q:Nat→α→β→Prop): ∀n,(∀i,i<n→ ∃x y,Q i x y)→ ∃(l:List α) (m:List β),l.length=n∧m.length=n∧ ∀(i:Nat) (x:α) (y:β),l[i]? =some x→m[i]? =some y→Q i x y
 | 0,_=>⟨[],[],rfl,rfl,by simp⟩
 | n+1,h=>by
  obtain ⟨l,m,hl,hm,hq⟩:=QmF Q n fun i hi=>h i (by omega);obtain ⟨x,y,hx⟩:=h n (by omega);refine ⟨l++[x],m++[y],by simp[hl],by simp[hm],fun i u v hu hv=> ?_⟩;rcases Nat.lt_or_ge i n with hi | hi
  ·rw[List.getElem?_append_left (by omega)] at hu hv
   exact hq i u v hu hv
  ·rw[List.getElem?_append_right (by omega)] at hu hv
   have:i-n=0:=by
    rcases Nat.eq_zero_or_pos (i-n) with h0 | h0
    ·exact h0
    ·rw[List.getElem?_eq_none (by simp;omega)] at hu;cases hu
   rw[hl,this] at hu
   rw[hm,this] at hv
   simp only[List.getElem?_cons_zero,Option.some.injEq] at hu hv
   have:i=n:=by omega
   subst this;subst hu;subst hv;exact hx
def Opn {α:Type} (P:Program) (W:World) (t:TypeId) (r:Rp α) (Q:α→Prop):Prop :=
 ∀(H:Type) (enc:TypeId×Value→H) (spare:Nat→Bool) (held:Bool) (fuel:Nat) (cs:List Value) (x:DataW H×List MemPlace),DataW.trod enc P W 0 spare held fuel t cs=some x→ ∃d,r.rep (QjS W) d cs∧Q d
section
variable {P:Program} {W:World} {t:TypeId}
theorem JU {k:IntKind} (ht:P.underlying t=some (.int k)):Opn P W t (rI k) (wfI k):=by
 intro H enc spare held fuel cs x h;obtain ⟨n,h1,_,h2⟩:=DataW.trod_int ht h;exact ⟨n,h1,h2⟩
theorem Qpp (ht:P.underlying t=some .string):Opn P W t Qrp fun s=>s.size≤maxLen:=by
 intro H enc spare held fuel cs x h;obtain ⟨n,h1,_,h2⟩:=DataW.trod_string ht h;exact ⟨n,h1,h2⟩
theorem Qbw {α:Type} {e:TypeId} {r:Rp α} {Q:α→Prop} (ht:P.underlying t=some (.slice e)) (hC:P.cellsOf e=r.sz) (he:Opn P W e r Q):Opn P W t (QqQ r) fun xs=> ∀x∈xs,Q x:=by
 intro H enc spare held fuel cs x h;rcases open_slice ht h with ⟨rfl,_⟩ | ⟨a,n,c,m,nn,D,Pl,rfl,hb,hl,hm,hmm,hx,hi⟩
 ·exact ⟨[],⟨none,0,rfl,Nat.le_refl _,Nat.zero_le _,Qr.nil⟩,by simp⟩
 ·have hrow: ∀i,i<n→ ∃(y:α) (cs:List Value),r.rep (QjS W) y cs∧Q y∧Jk (QjS W) [] (a.add (i*r.sz)) cs:=fun i hin=>by
   obtain ⟨cs',hc,htr⟩:=hi i (by split at hmm<;>omega)
   rw[hC] at hc
   obtain ⟨y,hy,hq⟩:=he H enc spare held nn cs' _ htr;obtain ⟨_,hcl,hat⟩:=World.cells?_some hc;refine ⟨y,cs',hy,hq,fun j u hu=> ?_⟩;have hjk:j<r.sz:=by
    rcases Nat.lt_or_ge j r.sz with h | h
    ·exact h
    ·rw[List.getElem?_eq_none (by omega)] at hu;cases hu
   exact QiW (by rw[hat j hjk];exact hu)
  obtain ⟨xs,css,hxl,hcl,hq⟩:=QmF (fun i y cs=>r.rep (QjS W) y cs∧Q y∧Jk (QjS W) [] (a.add (i*r.sz)) cs) n hrow;refine ⟨xs,⟨some a,c,by rw[hxl],by omega,hm,css,fun i cs hcs=> ?_,by rw[hxl,hcl],fun i y cs hy hcs=>(hq i y cs hy hcs).1⟩,fun y hy=> ?_⟩
  ·have hlt:i<css.length:=by
    rcases Nat.lt_or_ge i css.length with h | h
    ·exact h
    ·rw[List.getElem?_eq_none h] at hcs;cases hcs
   obtain ⟨h1,_,h3⟩:=hq i (xs[i]'(by omega)) cs (by simp) hcs;exact ⟨r.len h1,a,rfl,h3⟩
  ·obtain ⟨i,hi'⟩:=List.getElem?_of_mem hy;have hlt:i<xs.length:=by
    rcases Nat.lt_or_ge i xs.length with h | h
    ·exact h
    ·rw[List.getElem?_eq_none h] at hi';cases hi'
   exact (hq i y (css[i]'(by omega)) hi' (by simp)).2.1
end
theorem Jq {cs:List Value} {o a o2:Nat} (h:o+a=o2):cs.drop o=(cs.drop o).take a++cs.drop o2:=by rw[←h,←List.drop_drop,List.take_append_drop]
theorem Qi1 {cs:Array Value} {l:List Value} (h:cs.toList=l):cs=l.toArray:=by rw[←h]
end Go.Proofs.YthpgjbbjpfiniaaGreat
namespace Go.Proofs.YthpgjbbjpfiniaaGreat
open Go.ChangeShapes Go.WideShapes Go.ChangeAt Go.RowKit
set_option linter.unusedSimpArgs false
set_option linter.unusedVariables false
theorem Qro:ownKnob Tryz.prog.godebug=none:=by kernel_rfl
theorem QnO:laidOutB Tryz.prog=true:=by kernel_rfl
theorem QjP {W:World}:Opn Tryz.prog W 106 QF QgL:=by
 intro H enc spare held fuel cs x h;obtain ⟨xs,n,_,_,hlen,hxl,hf⟩:=DataW.trod_struct Tryz.underlying106 h
 rw[show Tryz.prog.cellsOf 106=4 by kernel_rfl] at hlen
 have g0:DataW.trod enc Tryz.prog W 0 spare held n 3 ((cs.drop 0).take (Tryz.prog.cellsOf 3))=xs[0]? :=hf 0 _ rfl
 rw[show Tryz.prog.cellsOf 3=1 by kernel_rfl,List.getElem?_eq_getElem (by rw[hxl];decide)] at g0
 obtain ⟨d0,h0,q0⟩:=(JU Tryz.underlying3) H enc spare held n _ _ g0;have g1:DataW.trod enc Tryz.prog W 0 spare held n 3 ((cs.drop 1).take (Tryz.prog.cellsOf 3))=xs[1]? :=hf 1 _ rfl
 rw[show Tryz.prog.cellsOf 3=1 by kernel_rfl,List.getElem?_eq_getElem (by rw[hxl];decide)] at g1
 obtain ⟨d1,h1,q1⟩:=(JU Tryz.underlying3) H enc spare held n _ _ g1;have g2:DataW.trod enc Tryz.prog W 0 spare held n 3 ((cs.drop 2).take (Tryz.prog.cellsOf 3))=xs[2]? :=hf 2 _ rfl
 rw[show Tryz.prog.cellsOf 3=1 by kernel_rfl,List.getElem?_eq_getElem (by rw[hxl];decide)] at g2
 obtain ⟨d2,h2,q2⟩:=(JU Tryz.underlying3) H enc spare held n _ _ g2;have g3:DataW.trod enc Tryz.prog W 0 spare held n 3 ((cs.drop 3).take (Tryz.prog.cellsOf 3))=xs[3]? :=hf 3 _ rfl
 rw[show Tryz.prog.cellsOf 3=1 by kernel_rfl,List.getElem?_eq_getElem (by rw[hxl];decide)] at g3
 obtain ⟨d3,h3,q3⟩:=(JU Tryz.underlying3) H enc spare held n _ _ g3;have e0:cs.drop 0=(cs.drop 0).take 1++cs.drop 1:=Jq rfl;have e1:cs.drop 1=(cs.drop 1).take 1++cs.drop 2:=Jq rfl;have e2:cs.drop 2=(cs.drop 2).take 1++cs.drop 3:=Jq rfl;have e3:cs.drop 3=(cs.drop 3).take 1++cs.drop 4:=Jq rfl;have en:cs.drop 4=[]:=List.drop_of_length_le (by omega);have hcs:cs.drop 0=_:=e0
 rw[e1,e2,e3,en,show (cs.drop 0).take 1=_ from h0,show (cs.drop 1).take 1=_ from h1,show (cs.drop 2).take 1=_ from h2,show (cs.drop 3).take 1=_ from h3] at hcs
 exact ⟨⟨d0,d1,d2,d3⟩,hcs,q0,q1,q2,q3⟩
theorem QjB {W:World}:Opn Tryz.prog W 24 Qlm QgT:=by
 intro H enc spare held fuel cs x h;obtain ⟨xs,n,_,_,hlen,hxl,hf⟩:=DataW.trod_struct Tryz.underlying24 h
 rw[show Tryz.prog.cellsOf 24=2 by kernel_rfl] at hlen
 have g0:DataW.trod enc Tryz.prog W 0 spare held n 3 ((cs.drop 0).take (Tryz.prog.cellsOf 3))=xs[0]? :=hf 0 _ rfl
 rw[show Tryz.prog.cellsOf 3=1 by kernel_rfl,List.getElem?_eq_getElem (by rw[hxl];decide)] at g0
 obtain ⟨d0,h0,q0⟩:=(JU Tryz.underlying3) H enc spare held n _ _ g0;have g1:DataW.trod enc Tryz.prog W 0 spare held n 22 ((cs.drop 1).take (Tryz.prog.cellsOf 22))=xs[1]? :=hf 1 _ rfl
 rw[show Tryz.prog.cellsOf 22=1 by kernel_rfl,List.getElem?_eq_getElem (by rw[hxl];decide)] at g1
 obtain ⟨d1,h1,q1⟩:=(Qbw Tryz.underlying22 (by kernel_rfl) QjP) H enc spare held n _ _ g1;have e0:cs.drop 0=(cs.drop 0).take 1++cs.drop 1:=Jq rfl;have e1:cs.drop 1=(cs.drop 1).take 1++cs.drop 2:=Jq rfl;have en:cs.drop 2=[]:=List.drop_of_length_le (by omega);obtain ⟨A0,c0,h1,hl0,hm0,ha0⟩:=h1;have hcs:cs.drop 0=_:=e0
 rw[e1,en,show (cs.drop 0).take 1=_ from h0,show (cs.drop 1).take 1=_ from h1] at hcs
 exact ⟨⟨d0,d1⟩,⟨A0,c0,hcs,⟨hl0,hm0⟩,ha0⟩,q0,q1⟩
theorem Qem {W:World}:Opn Tryz.prog W 59 QjL QcU:=by
 intro H enc spare held fuel cs x h;obtain ⟨xs,n,_,_,hlen,hxl,hf⟩:=DataW.trod_struct Tryz.underlying59 h
 rw[show Tryz.prog.cellsOf 59=2 by kernel_rfl] at hlen
 have g0:DataW.trod enc Tryz.prog W 0 spare held n 3 ((cs.drop 0).take (Tryz.prog.cellsOf 3))=xs[0]? :=hf 0 _ rfl
 rw[show Tryz.prog.cellsOf 3=1 by kernel_rfl,List.getElem?_eq_getElem (by rw[hxl];decide)] at g0
 obtain ⟨d0,h0,q0⟩:=(JU Tryz.underlying3) H enc spare held n _ _ g0;have g1:DataW.trod enc Tryz.prog W 0 spare held n 3 ((cs.drop 1).take (Tryz.prog.cellsOf 3))=xs[1]? :=hf 1 _ rfl
 rw[show Tryz.prog.cellsOf 3=1 by kernel_rfl,List.getElem?_eq_getElem (by rw[hxl];decide)] at g1
 obtain ⟨d1,h1,q1⟩:=(JU Tryz.underlying3) H enc spare held n _ _ g1;have e0:cs.drop 0=(cs.drop 0).take 1++cs.drop 1:=Jq rfl;have e1:cs.drop 1=(cs.drop 1).take 1++cs.drop 2:=Jq rfl;have en:cs.drop 2=[]:=List.drop_of_length_le (by omega);have hcs:cs.drop 0=_:=e0
 rw[e1,en,show (cs.drop 0).take 1=_ from h0,show (cs.drop 1).take 1=_ from h1] at hcs
 exact ⟨⟨d0,d1⟩,hcs,q0,q1⟩
theorem Qg7 {W:World}:Opn Tryz.prog W 61 Qy QeC:=by
 intro H enc spare held fuel cs x h;obtain ⟨xs,n,_,_,hlen,hxl,hf⟩:=DataW.trod_struct Tryz.underlying61 h
 rw[show Tryz.prog.cellsOf 61=6 by kernel_rfl] at hlen
 have g0:DataW.trod enc Tryz.prog W 0 spare held n 9 ((cs.drop 0).take (Tryz.prog.cellsOf 9))=xs[0]? :=hf 0 _ rfl
 rw[show Tryz.prog.cellsOf 9=1 by kernel_rfl,List.getElem?_eq_getElem (by rw[hxl];decide)] at g0
 obtain ⟨d0,h0,q0⟩:=(Qpp Tryz.underlying9) H enc spare held n _ _ g0;have g1:DataW.trod enc Tryz.prog W 0 spare held n 3 ((cs.drop 1).take (Tryz.prog.cellsOf 3))=xs[1]? :=hf 1 _ rfl
 rw[show Tryz.prog.cellsOf 3=1 by kernel_rfl,List.getElem?_eq_getElem (by rw[hxl];decide)] at g1
 obtain ⟨d1,h1,q1⟩:=(JU Tryz.underlying3) H enc spare held n _ _ g1;have g2:DataW.trod enc Tryz.prog W 0 spare held n 59 ((cs.drop 2).take (Tryz.prog.cellsOf 59))=xs[2]? :=hf 2 _ rfl
 rw[show Tryz.prog.cellsOf 59=2 by kernel_rfl,List.getElem?_eq_getElem (by rw[hxl];decide)] at g2
 obtain ⟨d2,h2,q2⟩:=Qem H enc spare held n _ _ g2;have g3:DataW.trod enc Tryz.prog W 0 spare held n 3 ((cs.drop 4).take (Tryz.prog.cellsOf 3))=xs[3]? :=hf 3 _ rfl
 rw[show Tryz.prog.cellsOf 3=1 by kernel_rfl,List.getElem?_eq_getElem (by rw[hxl];decide)] at g3
 obtain ⟨d3,h3,q3⟩:=(JU Tryz.underlying3) H enc spare held n _ _ g3;have g4:DataW.trod enc Tryz.prog W 0 spare held n 3 ((cs.drop 5).take (Tryz.prog.cellsOf 3))=xs[4]? :=hf 4 _ rfl
 rw[show Tryz.prog.cellsOf 3=1 by kernel_rfl,List.getElem?_eq_getElem (by rw[hxl];decide)] at g4
 obtain ⟨d4,h4,q4⟩:=(JU Tryz.underlying3) H enc spare held n _ _ g4;have e0:cs.drop 0=(cs.drop 0).take 1++cs.drop 1:=Jq rfl;have e1:cs.drop 1=(cs.drop 1).take 1++cs.drop 2:=Jq rfl;have e2:cs.drop 2=(cs.drop 2).take 2++cs.drop 4:=Jq rfl;have e3:cs.drop 4=(cs.drop 4).take 1++cs.drop 5:=Jq rfl;have e4:cs.drop 5=(cs.drop 5).take 1++cs.drop 6:=Jq rfl;have en:cs.drop 6=[]:=List.drop_of_length_le (by omega);have hcs:cs.drop 0=_:=e0
 rw[e1,e2,e3,e4,en,show (cs.drop 0).take 1=_ from h0,show (cs.drop 1).take 1=_ from h1,show (cs.drop 2).take 2=_ from h2,show (cs.drop 4).take 1=_ from h3,show (cs.drop 5).take 1=_ from h4] at hcs
 exact ⟨⟨d0,d1,d2,d3,d4⟩,hcs,q0,q1,q2,q3,q4⟩
theorem Qip {W:World}:Opn Tryz.prog W 63 QA Qe9:=by
 intro H enc spare held fuel cs x h;obtain ⟨xs,n,_,_,hlen,hxl,hf⟩:=DataW.trod_struct Tryz.underlying63 h
 rw[show Tryz.prog.cellsOf 63=7 by kernel_rfl] at hlen
 have g0:DataW.trod enc Tryz.prog W 0 spare held n 3 ((cs.drop 0).take (Tryz.prog.cellsOf 3))=xs[0]? :=hf 0 _ rfl
 rw[show Tryz.prog.cellsOf 3=1 by kernel_rfl,List.getElem?_eq_getElem (by rw[hxl];decide)] at g0
 obtain ⟨d0,h0,q0⟩:=(JU Tryz.underlying3) H enc spare held n _ _ g0;have g1:DataW.trod enc Tryz.prog W 0 spare held n 3 ((cs.drop 1).take (Tryz.prog.cellsOf 3))=xs[1]? :=hf 1 _ rfl
 rw[show Tryz.prog.cellsOf 3=1 by kernel_rfl,List.getElem?_eq_getElem (by rw[hxl];decide)] at g1
 obtain ⟨d1,h1,q1⟩:=(JU Tryz.underlying3) H enc spare held n _ _ g1;have g2:DataW.trod enc Tryz.prog W 0 spare held n 3 ((cs.drop 2).take (Tryz.prog.cellsOf 3))=xs[2]? :=hf 2 _ rfl
 rw[show Tryz.prog.cellsOf 3=1 by kernel_rfl,List.getElem?_eq_getElem (by rw[hxl];decide)] at g2
 obtain ⟨d2,h2,q2⟩:=(JU Tryz.underlying3) H enc spare held n _ _ g2;have g3:DataW.trod enc Tryz.prog W 0 spare held n 3 ((cs.drop 3).take (Tryz.prog.cellsOf 3))=xs[3]? :=hf 3 _ rfl
 rw[show Tryz.prog.cellsOf 3=1 by kernel_rfl,List.getElem?_eq_getElem (by rw[hxl];decide)] at g3
 obtain ⟨d3,h3,q3⟩:=(JU Tryz.underlying3) H enc spare held n _ _ g3;have g4:DataW.trod enc Tryz.prog W 0 spare held n 59 ((cs.drop 4).take (Tryz.prog.cellsOf 59))=xs[4]? :=hf 4 _ rfl
 rw[show Tryz.prog.cellsOf 59=2 by kernel_rfl,List.getElem?_eq_getElem (by rw[hxl];decide)] at g4
 obtain ⟨d4,h4,q4⟩:=Qem H enc spare held n _ _ g4;have g5:DataW.trod enc Tryz.prog W 0 spare held n 3 ((cs.drop 6).take (Tryz.prog.cellsOf 3))=xs[5]? :=hf 5 _ rfl
 rw[show Tryz.prog.cellsOf 3=1 by kernel_rfl,List.getElem?_eq_getElem (by rw[hxl];decide)] at g5
 obtain ⟨d5,h5,q5⟩:=(JU Tryz.underlying3) H enc spare held n _ _ g5;have e0:cs.drop 0=(cs.drop 0).take 1++cs.drop 1:=Jq rfl;have e1:cs.drop 1=(cs.drop 1).take 1++cs.drop 2:=Jq rfl;have e2:cs.drop 2=(cs.drop 2).take 1++cs.drop 3:=Jq rfl;have e3:cs.drop 3=(cs.drop 3).take 1++cs.drop 4:=Jq rfl;have e4:cs.drop 4=(cs.drop 4).take 2++cs.drop 6:=Jq rfl;have e5:cs.drop 6=(cs.drop 6).take 1++cs.drop 7:=Jq rfl;have en:cs.drop 7=[]:=List.drop_of_length_le (by omega);have hcs:cs.drop 0=_:=e0
 rw[e1,e2,e3,e4,e5,en,show (cs.drop 0).take 1=_ from h0,show (cs.drop 1).take 1=_ from h1,show (cs.drop 2).take 1=_ from h2,show (cs.drop 3).take 1=_ from h3,show (cs.drop 4).take 2=_ from h4,show (cs.drop 6).take 1=_ from h5] at hcs
 exact ⟨⟨d0,d1,d2,d3,d4,d5⟩,hcs,q0,q1,q2,q3,q4,q5⟩
theorem Qhk {W:World}:Opn Tryz.prog W 28 QiV Qel:=by
 intro H enc spare held fuel cs x h;obtain ⟨xs,n,_,_,hlen,hxl,hf⟩:=DataW.trod_struct Tryz.underlying28 h
 rw[show Tryz.prog.cellsOf 28=6 by kernel_rfl] at hlen
 have g0:DataW.trod enc Tryz.prog W 0 spare held n 24 ((cs.drop 0).take (Tryz.prog.cellsOf 24))=xs[0]? :=hf 0 _ rfl
 rw[show Tryz.prog.cellsOf 24=2 by kernel_rfl,List.getElem?_eq_getElem (by rw[hxl];decide)] at g0
 obtain ⟨d0,h0,q0⟩:=QjB H enc spare held n _ _ g0;have g1:DataW.trod enc Tryz.prog W 0 spare held n 25 ((cs.drop 2).take (Tryz.prog.cellsOf 25))=xs[1]? :=hf 1 _ rfl
 rw[show Tryz.prog.cellsOf 25=1 by kernel_rfl,List.getElem?_eq_getElem (by rw[hxl];decide)] at g1
 obtain ⟨d1,h1,q1⟩:=(Qbw Tryz.underlying25 (by kernel_rfl) Qg7) H enc spare held n _ _ g1;have g2:DataW.trod enc Tryz.prog W 0 spare held n 26 ((cs.drop 3).take (Tryz.prog.cellsOf 26))=xs[2]? :=hf 2 _ rfl
 rw[show Tryz.prog.cellsOf 26=1 by kernel_rfl,List.getElem?_eq_getElem (by rw[hxl];decide)] at g2
 obtain ⟨d2,h2,q2⟩:=(Qbw Tryz.underlying26 (by kernel_rfl) Qip) H enc spare held n _ _ g2;have g3:DataW.trod enc Tryz.prog W 0 spare held n 3 ((cs.drop 4).take (Tryz.prog.cellsOf 3))=xs[3]? :=hf 3 _ rfl
 rw[show Tryz.prog.cellsOf 3=1 by kernel_rfl,List.getElem?_eq_getElem (by rw[hxl];decide)] at g3
 obtain ⟨d3,h3,q3⟩:=(JU Tryz.underlying3) H enc spare held n _ _ g3;have g4:DataW.trod enc Tryz.prog W 0 spare held n 3 ((cs.drop 5).take (Tryz.prog.cellsOf 3))=xs[4]? :=hf 4 _ rfl
 rw[show Tryz.prog.cellsOf 3=1 by kernel_rfl,List.getElem?_eq_getElem (by rw[hxl];decide)] at g4
 obtain ⟨d4,h4,q4⟩:=(JU Tryz.underlying3) H enc spare held n _ _ g4;have e0:cs.drop 0=(cs.drop 0).take 2++cs.drop 2:=Jq rfl;have e1:cs.drop 2=(cs.drop 2).take 1++cs.drop 3:=Jq rfl;have e2:cs.drop 3=(cs.drop 3).take 1++cs.drop 4:=Jq rfl;have e3:cs.drop 4=(cs.drop 4).take 1++cs.drop 5:=Jq rfl;have e4:cs.drop 5=(cs.drop 5).take 1++cs.drop 6:=Jq rfl;have en:cs.drop 6=[]:=List.drop_of_length_le (by omega);obtain ⟨A0,c0,h0,hl0,ha0⟩:=h0;obtain ⟨A1,c1,h1,hl1,hm1,ha1⟩:=h1;obtain ⟨A2,c2,h2,hl2,hm2,ha2⟩:=h2;have hcs:cs.drop 0=_:=e0
 rw[e1,e2,e3,e4,en,show (cs.drop 0).take 2=_ from h0,show (cs.drop 2).take 1=_ from h1,show (cs.drop 3).take 1=_ from h2,show (cs.drop 4).take 1=_ from h3,show (cs.drop 5).take 1=_ from h4] at hcs
 exact ⟨⟨d0,d1,d2,d3,d4⟩,⟨A0,c0,A1,c1,A2,c2,hcs,hl0,ha0,⟨hl1,hm1⟩,ha1,⟨hl2,hm2⟩,ha2⟩,q0,q1,q2,q3,q4⟩
theorem Qj7 {W:World}:Opn Tryz.prog W 51 Qt QgO:=by
 intro H enc spare held fuel cs x h;obtain ⟨xs,n,_,_,hlen,hxl,hf⟩:=DataW.trod_struct Tryz.underlying51 h
 rw[show Tryz.prog.cellsOf 51=2 by kernel_rfl] at hlen
 have g0:DataW.trod enc Tryz.prog W 0 spare held n 3 ((cs.drop 0).take (Tryz.prog.cellsOf 3))=xs[0]? :=hf 0 _ rfl
 rw[show Tryz.prog.cellsOf 3=1 by kernel_rfl,List.getElem?_eq_getElem (by rw[hxl];decide)] at g0
 obtain ⟨d0,h0,q0⟩:=(JU Tryz.underlying3) H enc spare held n _ _ g0;have g1:DataW.trod enc Tryz.prog W 0 spare held n 31 ((cs.drop 1).take (Tryz.prog.cellsOf 31))=xs[1]? :=hf 1 _ rfl
 rw[show Tryz.prog.cellsOf 31=1 by kernel_rfl,List.getElem?_eq_getElem (by rw[hxl];decide)] at g1
 obtain ⟨d1,h1,q1⟩:=(Qbw Tryz.underlying31 (by kernel_rfl) (JU Tryz.underlying3)) H enc spare held n _ _ g1;have e0:cs.drop 0=(cs.drop 0).take 1++cs.drop 1:=Jq rfl;have e1:cs.drop 1=(cs.drop 1).take 1++cs.drop 2:=Jq rfl;have en:cs.drop 2=[]:=List.drop_of_length_le (by omega);obtain ⟨A0,c0,h1,hl0,hm0,ha0⟩:=h1;have hcs:cs.drop 0=_:=e0
 rw[e1,en,show (cs.drop 0).take 1=_ from h0,show (cs.drop 1).take 1=_ from h1] at hcs
 exact ⟨⟨d0,d1⟩,⟨A0,c0,hcs,⟨hl0,hm0⟩,ha0⟩,q0,q1⟩
theorem Qj2 {W:World}:Opn Tryz.prog W 33 QbA QgS:=by
 intro H enc spare held fuel cs x h;obtain ⟨xs,n,_,_,hlen,hxl,hf⟩:=DataW.trod_struct Tryz.underlying33 h
 rw[show Tryz.prog.cellsOf 33=2 by kernel_rfl] at hlen
 have g0:DataW.trod enc Tryz.prog W 0 spare held n 30 ((cs.drop 0).take (Tryz.prog.cellsOf 30))=xs[0]? :=hf 0 _ rfl
 rw[show Tryz.prog.cellsOf 30=1 by kernel_rfl,List.getElem?_eq_getElem (by rw[hxl];decide)] at g0
 obtain ⟨d0,h0,q0⟩:=(Qbw Tryz.underlying30 (by kernel_rfl) Qj7) H enc spare held n _ _ g0;have g1:DataW.trod enc Tryz.prog W 0 spare held n 31 ((cs.drop 1).take (Tryz.prog.cellsOf 31))=xs[1]? :=hf 1 _ rfl
 rw[show Tryz.prog.cellsOf 31=1 by kernel_rfl,List.getElem?_eq_getElem (by rw[hxl];decide)] at g1
 obtain ⟨d1,h1,q1⟩:=(Qbw Tryz.underlying31 (by kernel_rfl) (JU Tryz.underlying3)) H enc spare held n _ _ g1;have e0:cs.drop 0=(cs.drop 0).take 1++cs.drop 1:=Jq rfl;have e1:cs.drop 1=(cs.drop 1).take 1++cs.drop 2:=Jq rfl;have en:cs.drop 2=[]:=List.drop_of_length_le (by omega);obtain ⟨A0,c0,h0,hl0,hm0,ha0⟩:=h0;obtain ⟨A1,c1,h1,hl1,hm1,ha1⟩:=h1;have hcs:cs.drop 0=_:=e0
 rw[e1,en,show (cs.drop 0).take 1=_ from h0,show (cs.drop 1).take 1=_ from h1] at hcs
 exact ⟨⟨d0,d1⟩,⟨A0,c0,A1,c1,hcs,⟨hl0,hm0⟩,ha0,⟨hl1,hm1⟩,ha1⟩,q0,q1⟩
theorem Qih {W:World}:Opn Tryz.prog W 56 Yl Qfa:=by
 intro H enc spare held fuel cs x h;obtain ⟨xs,n,_,_,hlen,hxl,hf⟩:=DataW.trod_struct Tryz.underlying56 h
 rw[show Tryz.prog.cellsOf 56=2 by kernel_rfl] at hlen
 have g0:DataW.trod enc Tryz.prog W 0 spare held n 3 ((cs.drop 0).take (Tryz.prog.cellsOf 3))=xs[0]? :=hf 0 _ rfl
 rw[show Tryz.prog.cellsOf 3=1 by kernel_rfl,List.getElem?_eq_getElem (by rw[hxl];decide)] at g0
 obtain ⟨d0,h0,q0⟩:=(JU Tryz.underlying3) H enc spare held n _ _ g0;have g1:DataW.trod enc Tryz.prog W 0 spare held n 35 ((cs.drop 1).take (Tryz.prog.cellsOf 35))=xs[1]? :=hf 1 _ rfl
 rw[show Tryz.prog.cellsOf 35=1 by kernel_rfl,List.getElem?_eq_getElem (by rw[hxl];decide)] at g1
 obtain ⟨d1,h1,q1⟩:=(JU Tryz.underlying35) H enc spare held n _ _ g1;have e0:cs.drop 0=(cs.drop 0).take 1++cs.drop 1:=Jq rfl;have e1:cs.drop 1=(cs.drop 1).take 1++cs.drop 2:=Jq rfl;have en:cs.drop 2=[]:=List.drop_of_length_le (by omega);have hcs:cs.drop 0=_:=e0
 rw[e1,en,show (cs.drop 0).take 1=_ from h0,show (cs.drop 1).take 1=_ from h1] at hcs
 exact ⟨⟨d0,d1⟩,hcs,q0,q1⟩
set_option maxRecDepth 100000 in
theorem QeI (os:Os) (started:os.Started) (H:Type) (enc:TypeId×Value→H) :
  ReturnsInHanded {} Tryz.checked os 10 .any (Rows.dispatchHoldsSpec.pre6 enc Tryz.prog Tryz.f10 Rows.dispatchHoldsRow.domain false) (Rows.dispatchHoldsSpec.post enc Tryz.prog Tryz.f10 false true false false):=by
 refine returnsInHanded_of_change (C:=Tryz.checked) Qro started (by kernel_rfl) Tryz.func10
  (ChangeSpec.witness6 (enc:=enc) (C:=Tryz.checked) false ⟨#[], #[((Go.Value.agg #[(Go.Value.int Go.IntKind.i64 0),(Go.Value.slice none 0 0),(Go.Value.slice none 0 0),(Go.Value.slice none 0 0),(Go.Value.int Go.IntKind.i64 0),(Go.Value.int Go.IntKind.i64 0)])),((Go.Value.agg #[(Go.Value.slice none 0 0),(Go.Value.slice none 0 0)])),(.int .i64 0),(.slice none 0 0)],[]⟩ 8 (by kernel_rfl) (by kernel_rfl) (by kernel_rfl) (by kernel_rfl)) ?_
 intro W base args ds gs before hval0 hW hcnd _;have hval: ∀(j:Nat) t v,Tryz.f10.params[j]? =some t→args[j]? =some v→Value.okWide Tryz.prog W .any base t v:=hval0;have hW':=hW;obtain ⟨p,q,hA0,hV,rfl,hfz,hnd⟩:=hW;have hA:DataW.TrodAll enc Tryz.prog W 0 (fun _=>true) true Tryz.f10.params.toList args.toList ds p:=hA0
 rw[Tryz.params10] at hA hval
 obtain ⟨rfl,rfl⟩:=trodVars_none hV
 clear hA0 hval0
 obtain ⟨v0,v1,v2,v3,d0,d1,d2,d3,p0,p1,p2,p3,rfl,rfl,rfl,a0,a1,a2,a3⟩:=trodAll_four hA;obtain ⟨cs0,rfl,_⟩:=okWide_struct Tryz.underlying28 (hval 0 28 v0 rfl rfl);obtain ⟨fu0,ht0⟩:=a0;obtain ⟨x0,hr0,q0⟩:=Qhk (W:=W) H enc _ _ fu0 _ _ ht0;obtain ⟨A0_0,c0_0,A0_1,c0_1,A0_2,c0_2,hcs0,hl0_0,ha0_0,hl0_1,ha0_1,hl0_2,ha0_2⟩:=hr0;obtain rfl:=Qi1 hcs0;obtain ⟨cs1,rfl,_⟩:=okWide_struct Tryz.underlying33 (hval 1 33 v1 rfl rfl);obtain ⟨fu1,ht1⟩:=a1;obtain ⟨x1,hr1,q1⟩:=Qj2 (W:=W) H enc _ _ fu1 _ _ ht1;obtain ⟨A1_0,c1_0,A1_1,c1_1,hcs1,hl1_0,ha1_0,hl1_1,ha1_1⟩:=hr1;obtain rfl:=Qi1 hcs1;obtain ⟨x2,rfl,_,_,q2⟩:=open_int (P:=Tryz.prog) Tryz.underlying3 (hval 2 3 v2 rfl rfl) a2;obtain ⟨A3,n3,c3,rfl⟩:=okWide_slice Tryz.underlying43 (hval 3 43 v3 rfl rfl);obtain ⟨fu3,ht3⟩:=a3;obtain ⟨x3,⟨B3,b3,hcs3,hl3,hm3,ha3⟩,q3⟩:=(Qbw (W:=W) Tryz.underlying43 (by kernel_rfl) Qih) H enc _ _ fu3 _ _ ht3;have e3:Value.slice A3 n3 c3= .slice B3 x3.length b3:=by simpa [Value.cells] using hcs3
 injection e3 with e3a e3b e3c
 subst e3a e3b e3c;obtain ⟨F,hF⟩:=Qa0 x0 x1 x2 x3 q0 q1 q2 q3;refine (QkR (v:= .bool true) Tryz.func10 rfl (args:=[_,_,_,_]) (Qbn hl0_0 ha0_0 hl0_1 ha0_1 hl0_2 ha0_2 hl1_0 ha1_0 hl1_1 ha1_1 ⟨hl3,hm3⟩ (ha3.rds _) hF (fun _ _=>rfl))).mono fun e W' ⟨he,hw⟩=> ?_;exact ⟨_,he,Qna (tb:=4) hW' rfl rfl Tryz.underlying4 rfl rfl rfl QnO (by decide +kernel) hw⟩
theorem dispatchHolds_holds:Rows.DispatchHoldsSaid :=
 OpenClaim.holds_of_wide 10 Tryz.f10 rfl rfl rfl rfl rfl rfl rfl ⟨rfl,rfl,rfl,rfl,rfl⟩ rfl rfl rfl rfl rfl (by kernel_rfl) Tryz.func10 (by kernel_rfl)
  (of_decide_eq_true (by kernel_rfl)) (by unfold Func.isWrapper;first | (rw[if_pos (by decide +kernel)];kernel_rfl) | (rw[if_neg (by decide +kernel)];exact ⟨rfl,rfl⟩))
  (fun os started H enc _=>QeI os started H enc)
end Go.Proofs.YthpgjbbjpfiniaaGreat
