/- TopPlanServes: for every input the given law returns true, and its arguments read as before. No condition. -/
import Derived.Test.YtoojkdejnbnniaaGreatc1x12
import Derived.Test.YtoojkdejnbnniaaGreatc1x1
import Derived.ProofKit
import Derived.Below
import Derived.ChangeSame
import Derived.Carry
import Derived.WideKeyArgs
import Derived.Test.YtoojkdejnbnniaaGreatc1x2
import Derived.Deep.Slices
import Derived.Deep.Fields
import Derived.OpenShut
import Derived.Test.YtoojkdejnbnniaaGreatRows
import Derived.Test.YtoojkdejnbnniaaGreatc1x8
namespace Go.Proofs.YtoojkdejnbnniaaGreat
open Go.RowKit
set_option linter.unusedSimpArgs false
set_option linter.unusedVariables false
abbrev Rn:=QL
theorem Qjc {body:Int→Option (Int⊕(Unit⊕Bool))} {a b:List Rn} (hl:a.length=b.length) (hn:a.length≤1000000) (hb: ∀k,body k=bif decide (k<((a.length:Nat):Int)) then Option.bind (getI a k) fun x1=>Option.bind (getI b k) fun x2=>bif (!(decide (x1=x2))) then some (.inr (.inr false)) else some (.inl (w64 (k+1))) else some (.inr (.inl ()))): ∀(r k f:Nat),k+r=a.length→r<f→a.take k=b.take k →
  iter body f (k:Int)=some (if a=b then .inl () else .inr false)
 | _,_,0,_,h,_=>by omega
 | 0,k,f+1,hk,_,ht=>by
  have h1: ¬((k:Int)<((a.length:Nat):Int)):=by omega
  have:a=b:=by
   have h2:a.take k=a:=List.take_of_length_le (by omega);have h3:b.take k=b:=List.take_of_length_le (by omega)
   rw[h2,h3] at ht;exact ht
  simp only[iter,hb,h1,decide_false,cond_false,Option.bind_some,Qy]
  rw[if_pos this]
 | r+1,k,f+1,hk,hf,ht=>by
  have h1:((k:Int)<((a.length:Nat):Int)):=by omega
  have ga:a[k]? =some a[k]:=List.getElem?_eq_getElem (by omega);have gb:b[k]? =some b[k]:=List.getElem?_eq_getElem (by omega);have e1:w64 ((k:Int)+1)=((k+1:Nat):Int):=by rw[Yb (by omega) (by omega)];omega
  by_cases h:a[k]=b[k]
  ·have ih:=Qjc hl hn hb r (k+1) f (by omega) (by omega) (by rw[YF ga,YF gb,ht,h])
   simp only[iter]
   rw[hb]
   simp only[h1,decide_true,cond_true,Qm,ga,gb,Option.bind_some,h,Bool.not_true,cond_false,Qy,e1]
   exact ih
  ·have:a≠b:=by intro e;subst e;exact h rfl
   simp only[iter]
   rw[hb]
   simp only[h1,decide_true,cond_true,Qm,ga,gb,Option.bind_some,h,decide_false,Bool.not_false,cond_true,Qy]
   rw[if_neg this]
theorem Qrr {a b:List Rn} (hn:a.length≤1000000):QaM a b=some (decide (a=b))∧WC a b=some (decide (a=b)):=by
 unfold QaM WC
 by_cases hl:a.length=b.length
 ·have h1:=Qjc (body:=VZ a b) hl hn (fun k=>rfl) a.length 0 (((a.length:Nat):Int).toNat+1) (by omega) (by simp) (by simp);have h2:=Qjc (body:=Qac a b) hl hn (fun k=>rfl) a.length 0 (((a.length:Nat):Int).toNat+1) (by omega) (by simp) (by simp);have hl':(((a.length:Nat):Int)=((b.length:Nat):Int)):=by omega
  simp only[hl',decide_true,Bool.not_true,cond_false]
  rw[←hl',show (0:Int)=((0:Nat):Int) from rfl,h1,h2]
  by_cases h:a=b
  ·simp[h,Qy]
  ·simp[h,Qy]
 ·have hl': ¬(((a.length:Nat):Int)=((b.length:Nat):Int)):=by omega
  have:a≠b:=by intro e;subst e;exact hl rfl
  simp[hl',this]
def Qg5 (p:Pr) (d v:Nat):Int:=(QfT p ⟨(v:Int),[(d:Int),-1]⟩).2.1
structure Rs (F:Nat) (p:Pr) (x:Pl) (d v:Nat) (r:Int) (ve:Ve) (de:De) (car:Bool) (L:List Op):Prop where
 hv:p.Vehicles[v]? =some ve
 hd:p.Demands[d]? =some de
 hc:Ww ve de.Kind=some car
 ops:VS F p (ofP x v) d=some (L.map Jp,0)
 bst: ∃e,QaG F p (ofP x v) d=some (hdT L,e)∧(e=0↔L≠[])
 hdO:bsO F p x d v=L.head?
 cb:car=Qit ve de.Kind
 eq:r=bif !car then 21 else bif decide (ve.Grams<de.Grams) then 20 else bif !(decide (Qg5 p d v=0)) then Qg5 p d v else bif decide ((((L.map Jp).length:Nat):Int)=0) then 40 else 0
section
variable {F:Nat} {p:Pr} {x:Pl} (h:Cx F p x)
include h
theorem Cx.not_in {d:Nat} (hd:(d:Int)∈x.Left) (v:Int):(d:Int)∉(ofP x v).Stops:=by
 have h1:=h.fe.lft _ hd;have h2:=h.fe.one d (by omega);have h3:0<cn x.Left d:=List.count_pos_iff.2 hd;rcases Qif x v with ⟨h4,_⟩ | h4
 ·have h5:=QqD h4 d;intro hm;have h6:0<cn (ofP x v).Stops d:=List.count_pos_iff.2 hm
  omega
 ·rw[h4];simp
theorem Cx.tO_self {d:Nat} (hd:(d:Int)∈x.Left) (v:Int):tO x (d:Int) v=ofP x v:=by
 unfold tO
 rw[Qg6 (fun y hy=>by
  simp only[decide_eq_false_iff_not]
  intro e
  rw[e] at hy
  exact h.not_in hd v hy)]
 have:=QnB x v;cases hq:ofP x v with
 | mk a b=>rw[hq] at this;simp only at this ⊢;rw[this]
theorem Cx.reason {d v:Nat} (hd:(d:Int)∈x.Left) (hv:v<p.Vehicles.length): ∃r ve de car L,JH F p x d v=some r∧Va F p x d v=some r∧Rs F p x d v r ve de car L:=by
 have hF:=h.hF;have htl:=h.tl;have hdd:=h.fe.lft _ hd;have hdl:d<p.Demands.length:=by omega
 have g1:p.Vehicles[v]? =some p.Vehicles[v]:=List.getElem?_eq_getElem hv;have g2:p.Demands[d]? =some p.Demands[d]:=List.getElem?_eq_getElem hdl;have hvk:=h.fe.ok.ve _ (List.mem_of_getElem? g1);have hdk:=h.fe.ok.de _ (List.mem_of_getElem? g2);obtain ⟨c1,c2⟩:=QfV hvk hdk.k0 hdk.k1;have hs:(ofP x (v:Int)).Stops.length≤1000:=by have:=h.fe.of_len v;omega
 obtain ⟨L,e,o1,o2,o3,o4⟩:=Qcy hF p h.hn (ofP x v) hs d;have hbad:Qli p (ofP x v) d=false:=by
  unfold Qli
  rw[QnB]
  simp;omega
 have he:=o4 h.fe.chk hbad
 rw[show decide ((d:Int)∈(ofP x (v:Int)).Stops)=false from decide_eq_false (h.not_in hd v)] at he
 have he:e=0:=he;subst he;obtain ⟨b1,b2⟩:=Qil hF p h.hn (ofP x v) hs d;obtain ⟨e',k1,k2,_⟩:=Qkm o2 o3;have hbs:bsO F p x d v=L.head? :=by
  unfold bsO QbW
  rw[h.tO_self hd,o1]
  cases L<;>rfl
 refine ⟨_,p.Vehicles[v],p.Demands[d],Qit p.Vehicles[v] p.Demands[d].Kind,L,?_,?_,⟨g1,g2,c1,by rw[b1,o2],⟨e',by rw[b2,k1],k2⟩,hbs,rfl,rfl⟩⟩
 ·unfold JH
  rw[Qm,Qm,g1,g2]
  simp only[Option.bind_some,c1]
  rw[Qp2 hF h.fe.ok h.fe.chk h.hn,(QjK (x:=x) (v:Int) (by omega)).1]
  simp only[Option.bind_some,oun,b1,o2]
  cases Qit p.Vehicles[v] p.Demands[d].Kind with
  | false=>rfl
  | true =>
   simp only[Bool.not_true,cond_false]
   cases decide (p.Vehicles[v].Grams<p.Demands[d].Grams) with
   | true=>rfl
   | false =>
    simp only[cond_false]
    show (bif !(decide (Qg5 p d v=0)) then some (Qg5 p d v) else _)=_
    cases decide (Qg5 p d v=0) with
    | false=>rfl
    | true =>
     simp only[Bool.not_true,cond_false,decide_true]
     cases decide ((((L.map Jp).length:Nat):Int)=0)<;>rfl
 ·unfold Va
  rw[Qm,Qm,g1,g2]
  simp only[Option.bind_some,c2]
  rw[Qi9 h.fe.ok h.fe.chk,(QjK (x:=x) (v:Int) (by omega)).2]
  simp only[Option.bind_some,oun,o2]
  cases Qit p.Vehicles[v] p.Demands[d].Kind with
  | false=>rfl
  | true =>
   simp only[Bool.not_true,cond_false]
   cases decide (p.Vehicles[v].Grams<p.Demands[d].Grams) with
   | true=>rfl
   | false =>
    simp only[cond_false]
    show (bif !(decide (Qg5 p d v=0)) then some (Qg5 p d v) else _)=_
    cases decide (Qg5 p d v=0) with
    | false=>rfl
    | true =>
     simp only[Bool.not_true,cond_false]
     cases decide ((((L.map Jp).length:Nat):Int)=0)<;>rfl
def rsn (F:Nat) (p:Pr) (x:Pl) (d v:Nat):Int:=(JH F p x d v).getD 0
theorem Cx.rsn_at {d v:Nat} (hd:(d:Int)∈x.Left) (hv:v<p.Vehicles.length):JH F p x d v=some (rsn F p x d v)∧Va F p x d v=some (rsn F p x d v)∧ ∃ve de car L,Rs F p x d v (rsn F p x d v) ve de car L:=by
 obtain ⟨r,ve,de,car,L,h1,h2,h3⟩:=h.reason hd hv;have:rsn F p x d v=r:=by unfold rsn;rw[h1];rfl
 rw[this]
 exact ⟨h1,h2,ve,de,car,L,h3⟩
end
def rsL (F:Nat) (p:Pr) (x:Pl) (d:Nat) (n:Nat):List Rn:=(List.range n).map fun v:Nat=>⟨(v:Int),rsn F p x d v⟩
theorem QfA (F:Nat) (p:Pr) (x:Pl) (d n:Nat):(rsL F p x d n).length=n:=by simp[rsL]
theorem Qqm (F:Nat) (p:Pr) (x:Pl) (d:Nat) {n v:Nat} (hv:v<n):(rsL F p x d n)[v]? =some ⟨(v:Int),rsn F p x d v⟩:=by simp[rsL,hv]
theorem QpG (F:Nat) (p:Pr) (x:Pl) (d n:Nat):rsL F p x d (n+1)=rsL F p x d n++[⟨(n:Int),rsn F p x d n⟩]:=by simp[rsL,List.range_succ]
theorem Qma {F:Nat} {p:Pr} {x:Pl} {d:Nat} {body:List Rn×Int→Option ((List Rn×Int)⊕List Rn)} {rf:Int→Option Int} (hV:p.Vehicles.length≤1000) (hb: ∀q:List Rn×Int,body q=bif decide (q.2<((p.Vehicles.length:Nat):Int)) then Option.bind (rf q.2) fun r3=>Option.bind (ZO q.1 [⟨q.2,r3⟩]) fun l1=>some (.inl (l1,w64 (q.2+1))) else some (.inr q.1))
  (hr: ∀v:Nat,v<p.Vehicles.length→rf v=some (rsn F p x d v)):iter body (((p.Vehicles.length:Nat):Int).toNat+1) ([],0)=some (rsL F p x d p.Vehicles.length):=by
 have:=YD (body:=body) p.Vehicles (fun k=>rsL F p x d k) (fun m k=>(m,k)) (fun _ _=>none) (rsL F p x d p.Vehicles.length) (by omega) (fun k y hk _=> ?_) (fun _=>by rw[hb];simp) (((p.Vehicles.length:Nat):Int).toNat+1) (by simp)
 ·rw[QK _ _ (fun _ _ _=>rfl)] at this
  exact this
 ·have h0:=Qp hk;have h1:((k:Int)<((p.Vehicles.length:Nat):Int)):=by omega
  have h2:=QfA F p x d k
  rw[hb]
  simp only[h1,decide_true,cond_true,hr k h0,Option.bind_some]
  rw[Yi (by simp;omega),QpG]
  rfl
theorem Qqv {F:Nat} (hF:40000≤F) {p:Pr} (hn:p.Road.Edges.length≤600) (hv:p.Vehicles.length≤30) (x:Pl) (hx:x.Tours.length≤30) (hl:x.Left.length≤100) (d:Int) :
  ∃R e,QaO F p x d=some (R,e)∧QcX F p x d=some (R,e)∧R.length≤30∧((e≠0∧R=[])∨(e=0∧Cx F p x∧ ∃n:Nat,d=(n:Int)∧d∈x.Left∧n<p.Demands.length∧R=rsL F p x n p.Vehicles.length))∧(d∈x.Left→ZW F p x=some 0→e=0):=by
 obtain ⟨s,e,a1,a2,a3,a4⟩:=Qfc hF hn x hx hl;have hfe:ZW F p x=some e:=by unfold ZW;rw[a1];rfl
 unfold QaO QcX
 rw[hfe,a2]
 by_cases he:e=0
 ·have hc:Cx F p x:=⟨hF,hn,hv,(a4 he).2,hx,hl⟩
  subst he
  simp only[Option.bind_some,decide_true,Bool.not_true,cond_false]
  by_cases h1:d<0
  ·simp only[h1,decide_true,cond_true,Option.bind_some]
   exact ⟨[],7,rfl,rfl,by simp,.inl ⟨by decide,rfl⟩,fun hm _=>by have:=hc.fe.lft _ hm;omega⟩
  by_cases h2:((p.Demands.length:Nat):Int)≤d
  ·simp only[h1,h2,decide_true,decide_false,cond_true,cond_false,Option.bind_some]
   exact ⟨[],7,rfl,rfl,by simp,.inl ⟨by decide,rfl⟩,fun hm _=>by have:=hc.fe.lft _ hm;omega⟩
  simp only[h1,h2,decide_false,cond_false,Option.bind_some]
  rw[Qo3 d (by omega),Qdb _ (by omega)]
  simp only[Option.bind_some]
  by_cases h3:d∈x.Left
  ·obtain ⟨n,rfl⟩: ∃n:Nat,d=(n:Int):=⟨d.toNat,by omega⟩
   simp only[h3,decide_true,Bool.not_true,cond_false]
   have q1:=Qma (F:=F) (p:=p) (x:=x) (d:=n) (body:=Qci F p x n) (rf:=JH F p x n) (by omega) (fun q=>rfl) (fun v hv=>(hc.rsn_at h3 hv).1);have q2:=Qma (F:=F) (p:=p) (x:=x) (d:=n) (body:=QbT F p x n) (rf:=Va F p x n) (by omega) (fun q=>rfl) (fun v hv=>(hc.rsn_at h3 hv).2.1)
   rw[q1,q2]
   exact ⟨_,0,rfl,rfl,by rw[QfA];exact hv,.inr ⟨rfl,hc,n,rfl,by first | exact h3 | trivial,by omega,rfl⟩,fun _ _=>rfl⟩
  ·simp only[h3,decide_false,Bool.not_false,cond_true]
   exact ⟨[],13,rfl,rfl,by simp,.inl ⟨by decide,rfl⟩,fun hm _=>by first | exact absurd hm h3 | exact hm.elim⟩
 ·simp only[Option.bind_some,he,decide_false,Bool.not_false,cond_true]
  exact ⟨[],e,rfl,rfl,by simp,.inl ⟨he,rfl⟩,fun _ h=>by first | (injection h;done) | (injection h with h;exact h)⟩
end Go.Proofs.YtoojkdejnbnniaaGreat
namespace Go.Proofs.YtoojkdejnbnniaaGreat
open Go.RowKit
set_option linter.unusedSimpArgs false
set_option linter.unusedVariables false
def p0:Pl:=⟨[],[0]⟩
end Go.Proofs.YtoojkdejnbnniaaGreat
namespace Go.Proofs.YtoojkdejnbnniaaGreat
open Go.RowKit
set_option linter.unusedSimpArgs false
set_option linter.unusedVariables false
theorem QjV {α ρ:Type} (fin:ρ): ∀l:List α,first (fun _=>none) fin l=fin
 | []=>rfl
 | x::r=>by simp only[first];exact QjV fin r
end Go.Proofs.YtoojkdejnbnniaaGreat
namespace Go.Proofs.YtoojkdejnbnniaaGreat
open Go.RowKit
set_option linter.unusedSimpArgs false
set_option linter.unusedVariables false
theorem Qr6 {d:Int} {l:List Int} (h:d∈l):(wo d l).length<l.length:=by
 unfold wo;exact List.length_filter_lt_length_iff_exists.2 ⟨d,h,by simp⟩
theorem Cx.none {F:Nat} {p:Pr} {x:Pl} (h:Cx F p x) {d v:Nat} (hd:(d:Int)∈x.Left) (hv:v<p.Vehicles.length) (ha:Qbe F p x p.Demands.length=[]):bsO F p x d v=none:=by
 have hdd:=h.fe.lft _ hd;have hdl:d<p.Demands.length:=by omega
 cases hb:bsO F p x d v with
 | none=>rfl
 | some o =>
  exfalso
  have hm:mvR F p x d v=some (QcT p x d v o.tour):=by unfold mvR;rw[hb];rfl
  obtain ⟨_,_,m3⟩:=h.move hdl hv;obtain ⟨a1,_,_⟩:=m3 _ hm;have hc1:=a1.cost h.hv;have hc2:=h.xOk;have hl:(QcT p x d v o.tour).Left.length<x.Left.length:=by
   show (Qhm p x d).length<_
   rw[←(h.fe.left_perm d).length_eq]
   exact Qr6 hd
  have hlt:Jx (Jc p (QcT p x d v o.tour))<Jx (Jc p x):=by
   unfold Jx;obtain ⟨q1,q2⟩:=hc1;obtain ⟨q3,q4⟩:=hc2;have e1:(Jc p (QcT p x d v o.tour)).plan.Left.length=(QcT p x d v o.tour).Left.length:=rfl;have e2:(Jc p x).plan.Left.length=x.Left.length:=rfl
   rw[e1,e2]
   omega
  have hms:mvs F p x d v=some (Jc p (QcT p x d v o.tour)):=by unfold mvs;rw[hm];simp only[Option.bind_some];rw[if_pos hlt]
  have:=Qlb hms hv hdl
  rw[ha] at this
  cases this
theorem Cx.rsn_ne {F:Nat} {p:Pr} {x:Pl} (h:Cx F p x) {d k:Nat} (hd:(d:Int)∈x.Left) (hk:k<p.Vehicles.length) (ha:Qbe F p x p.Demands.length=[]):rsn F p x d k≠0:=by
 obtain ⟨_,_,ve,de,car,L,hr⟩:=h.rsn_at hd hk;have hL:L=[]:=by
  have:=hr.hdO
  rw[h.none hd hk ha] at this
  cases L with
  | nil=>rfl
  | cons y M=>cases this
 subst hL
 rw[hr.eq]
 cases car with
 | false=>simp
 | true =>
  simp only[Bool.not_true,cond_false]
  cases decide (ve.Grams<de.Grams) with
  | true=>simp
  | false =>
   simp only[cond_false]
   by_cases hw:Qg5 p d k=0
   ·simp[hw]
   ·simp[hw]
end Go.Proofs.YtoojkdejnbnniaaGreat
namespace Go.Proofs.YtoojkdejnbnniaaGreat
open Go.RowKit
set_option linter.unusedSimpArgs false
set_option linter.unusedVariables false
theorem JY {α:Type} {c:Bool} {x y:Option α} (hx: ∃r,x=some r) (hy:c=false→ ∃r,y=some r): ∃r,(bif c then x else y)=some r:=by
 cases c with
 | true=>exact hx
 | false=>exact hy rfl
theorem Y8 {α β:Type} {x:Option α} {f:α→Option β} (hx: ∃r,x=some r) (hf: ∀r,x=some r→ ∃z,f r=some z): ∃z,Option.bind x f=some z:=by
 obtain ⟨r,hr⟩:=hx;obtain ⟨z,hz⟩:=hf r hr;exact ⟨z,by rw[hr];exact hz⟩
theorem Qig {α β γ:Type} {o:α⊕β} {f:α→Option γ} {g:β→Option γ} (hf: ∀a,o= .inl a→ ∃z,f a=some z) (hg: ∀b,o= .inr b→ ∃z,g b=some z): ∃z,Qy o f g=some z:=by
 cases o with
 | inl a=>exact hf a rfl
 | inr b=>exact hg b rfl
theorem Qft {τ ρ:Type} {body:τ→Option (τ⊕ρ)} (I:Nat→τ→Prop) (N:Nat) (hb: ∀k t,k<N→I k t→(∃r,body t=some (.inr r))∨ ∃t',body t=some (.inl t')∧I (k+1) t') (hf: ∀t,I N t→ ∃r,body t=some (.inr r)): ∀(m k:Nat) (t:τ),k+m=N→I k t→ ∃o,iter body (m+1) t=some o
 | 0,k,t,h,hi=>by
  obtain rfl:k=N:=by omega
  obtain ⟨r,hr⟩:=hf t hi;exact ⟨r,by rw[iter,hr];rfl⟩
 | m+1,k,t,h,hi=>by
  rcases hb k t (by omega) hi with ⟨r,hr⟩ | ⟨t',hr,hi'⟩
  ·exact ⟨r,by rw[iter,hr];rfl⟩
  ·obtain ⟨o,ho⟩:=Qft I N hb hf m (k+1) t' (by omega) hi';exact ⟨o,by rw[iter,hr];exact ho⟩
theorem Qfu {α ρ:Type} (xs:List α) {body:Int→Option (Int⊕ρ)} (hn:xs.length≤1000000)
  (hb: ∀(k:Nat) (x:α),xs[k]? =some x→(∃r,body (k:Int)=some (.inr r))∨body (k:Int)=some (.inl (w64 ((k:Int)+1)))) (hf: ∃r,body (xs.length:Int)=some (.inr r)): ∃o,iter body (((xs.length:Nat):Int).toNat+1) 0=some o:=by
 have:=Qft (body:=body) (fun k t=>t=(k:Int)) xs.length (fun k t hk ht=>by
  subst ht;obtain ⟨x,hx⟩: ∃x,xs[k]? =some x:=⟨_,List.getElem?_eq_getElem hk⟩
  rcases hb k x hx with h | h
  ·exact .inl h
  ·exact .inr ⟨_,h,by rw[Yb (by omega) (by omega)];omega⟩) (fun t ht=>by subst ht;exact hf) xs.length 0 0 (by omega) rfl
 rw[show ((xs.length:Nat):Int).toNat=xs.length by simp]
 exact this
theorem QoJ (s:ByteArray): ∃b,YG s=some b:=by
 unfold YG
 by_cases h1:((s.size:Nat):Int)<1
 ·exact ⟨false,by simp only[h1,decide_true,cond_true,Option.bind_some]⟩
 ·by_cases h2:(32:Int)<((s.size:Nat):Int)
  ·exact ⟨false,by simp only[h1,h2,decide_true,decide_false,cond_true,cond_false,Option.bind_some]⟩
  ·obtain ⟨b,hb⟩:=Qia (s:=s) (k:=0) (by omega);obtain ⟨q,hq⟩:=Qdg b;have hb':QiU s 0=some b:=hb;obtain ⟨o,ho⟩:=Qkt s (by omega) s.size 0 (by omega)
   simp only[h1,h2,decide_false,cond_false,hb',Option.bind_some,hq]
   rw[show (((s.size:Nat):Int).toNat+1)=s.size+1 by simp,show (0:Int)=((0:Nat):Int) from rfl,ho]
   cases q<;>cases o<;>exact ⟨_,rfl⟩
theorem Qn2 {F:Nat} (hF:33≤F) (c:QA) (a b:Int): ∃e,JG F c a b=some e:=by
 unfold JG
 rw[Qgu hF]
 obtain ⟨q,hq⟩:=QoJ c.ID
 rw[hq]
 simp only[YO,Option.bind_some]
 refine JY ⟨_,rfl⟩ fun _=>JY ⟨_,rfl⟩ fun _=>JY ⟨_,rfl⟩ fun _=>JY ⟨_,rfl⟩ fun _=>⟨_,rfl⟩
theorem Qn1 {F:Nat} (hF:33≤F) (l:List QA) (hl:l.length≤1000) (a b:Int): ∃e,JF F l a b=some e:=by
 unfold JF;refine JY ⟨_,rfl⟩ fun _=>Y8 (Qfu l (by omega) (fun k x hk=> ?_) ?_) fun o _=>Qig (fun _ _=>Y8 ?_ fun o2 _=>Qig (fun _ _=>⟨_,rfl⟩) fun _ _=>⟨_,rfl⟩) fun _ _=>⟨_,rfl⟩
 ·have h1:((k:Int)<((l.length:Nat):Int)):=by have:=Qp hk;omega
  obtain ⟨e,he⟩:=Qn2 hF x a b
  simp only[Z5,h1,decide_true,cond_true,Qm,hk,Option.bind_some,he]
  cases decide (e=0) with
  | true=>exact .inr rfl
  | false=>exact .inl ⟨_,rfl⟩
 ·simp only[Z5,Int.lt_irrefl,decide_false,cond_false];exact ⟨_,rfl⟩
 ·have:=Qft (body:=W7 l) (fun k t=>t.2=(k:Int)) l.length (fun k t hk ht=>by
   obtain ⟨m,v⟩:=t
   simp only at ht
   subst ht;obtain ⟨x,hx⟩: ∃x,l[k]? =some x:=⟨_,List.getElem?_eq_getElem hk⟩
   have h1:((k:Int)<((l.length:Nat):Int)):=by omega
   simp only[W7,oun,h1,decide_true,cond_true,Qm,hx,Option.bind_some]
   cases (Qdv x.ID m).getD false with
   | true=>exact .inl ⟨_,rfl⟩
   | false=>exact .inr ⟨_,rfl,by simp only;rw[Yb (by omega) (by omega)];omega⟩) (fun t ht=>by
   obtain ⟨m,v⟩:=t
   simp only at ht
   subst ht
   simp only[W7,oun,Int.lt_irrefl,decide_false,cond_false];exact ⟨_,rfl⟩) l.length 0 ([],0) (by omega) rfl
  rw[show ((l.length:Nat):Int).toNat=l.length by simp]
  exact this
theorem QkZ (d:Int): ∃b,Qab d=some b:=by
 unfold Qab;exact Y8 (JY ⟨_,rfl⟩ fun _=>⟨_,rfl⟩) fun _ _=>⟨_,rfl⟩
theorem Qk1 (s:Qv) (h:s.Every≠0) (d:Int): ∃b,J4 s d=some b:=by
 unfold J4;refine Y8 (Y8 (QkZ d) fun _ _=>JY (JY (Y8 ?_ fun _ _=>⟨_,rfl⟩) fun _=>⟨_,rfl⟩) fun _=>⟨_,rfl⟩) fun _ _=>⟨_,rfl⟩
 exact ⟨(),Qal h⟩
theorem Qke (s:Qv): ∃e,VV s=some e∧(e=0→s.Every≠0∧s.Moves.length≤32):=by
 unfold VV;obtain ⟨q,hq⟩:=QkZ s.Start
 rw[hq]
 simp only[YO,Option.bind_some]
 cases hc:(decide (s.Container<0)||(decide (256≤s.Container)||(!q||(decide (s.Every<1)||decide (365<s.Every))))) with
 | true=>exact ⟨1,rfl,fun h=>by cases h⟩
 | false =>
  simp only[Bool.or_eq_false_iff,decide_eq_false_iff_not] at hc
  have hev:s.Every≠0:=by omega
  simp only[cond_false]
  by_cases hm:(32:Int)<((s.Moves.length:Nat):Int)
  ·simp only[hm,decide_true,cond_true];exact ⟨8,rfl,fun h=>by cases h⟩
  ·simp only[hm,decide_false,cond_false]
   have hml:s.Moves.length≤32:=by omega
   obtain ⟨o,ho⟩:=Qfu s.Moves (body:=VC s) (by omega) (fun k x hk=>by
    have h1:((k:Int)<((s.Moves.length:Nat):Int)):=by have:=Qp hk;omega
    obtain ⟨b1,hb1⟩:=Qk1 s hev x.From;obtain ⟨b2,hb2⟩:=QkZ x.To;obtain ⟨b3,hb3⟩:=Qk1 s hev x.To
    simp only[VC,h1,decide_true,cond_true,Qm,hk,Option.bind_some,hb1,hb2,hb3]
    cases b1<;>cases b2<;>cases b3<;>first | exact .inr rfl | exact .inl ⟨_,rfl⟩) (by simp only[VC,Int.lt_irrefl,decide_false,cond_false];exact ⟨_,rfl⟩)
   have h2:=Qft (body:=Wo s) (fun k t=>t.2.2=(k:Int)) s.Moves.length (fun k t hk ht=>by
    obtain ⟨m1,m2,v⟩:=t
    simp only at ht
    subst ht;obtain ⟨x,hx⟩: ∃x,s.Moves[k]? =some x:=⟨_,List.getElem?_eq_getElem hk⟩
    have h1:((k:Int)<((s.Moves.length:Nat):Int)):=by omega
    simp only[Wo,oun,h1,decide_true,cond_true,Qm,hx,Option.bind_some,YO]
    cases ((Qar x.From m1).getD false||(Qar x.To m2).getD false) with
    | true=>exact .inl ⟨_,rfl⟩
    | false=>exact .inr ⟨_,rfl,by simp only;rw[Yb (by omega) (by omega)];omega⟩) (fun t ht=>by
    obtain ⟨m1,m2,v⟩:=t
    simp only at ht
    subst ht
    simp only[Wo,oun,Int.lt_irrefl,decide_false,cond_false];exact ⟨_,rfl⟩) s.Moves.length 0 ([],[],0) (by omega) rfl
   obtain ⟨o2,ho2⟩:=h2;have ho2':iter (Wo s) (((s.Moves.length:Nat):Int).toNat+1) ([],[],0)=some o2:=by
    rw[show ((s.Moves.length:Nat):Int).toNat=s.Moves.length by simp];exact ho2
   rw[ho]
   simp only[Option.bind_some]
   cases o with
   | inl u =>
    simp only[Qy]
    rw[ho2']
    simp only[Option.bind_some]
    cases o2 with
    | inl u=>exact ⟨_,rfl,fun _=>⟨hev,hml⟩⟩
    | inr e=>exact ⟨_,rfl,fun _=>⟨hev,hml⟩⟩
   | inr e=>exact ⟨_,rfl,fun _=>⟨hev,hml⟩⟩
theorem Qqq (s:Qv) (d:Int): ∃b,QbG s d=some b:=by
 obtain ⟨e,he,h0⟩:=Qke s;unfold QbG
 rw[he]
 simp only[Option.bind_some]
 by_cases hz:e=0
 ·obtain ⟨h1,h2⟩:=h0 hz;have hh: ∃m,Qa6 s=some m:=by
   unfold Qa6;have h3:=Qft (body:=VW s) (fun k t=>t.2=(k:Int)) s.Moves.length (fun k t hk ht=>by
    obtain ⟨m,v⟩:=t
    simp only at ht
    subst ht;obtain ⟨x,hx⟩: ∃x,s.Moves[k]? =some x:=⟨_,List.getElem?_eq_getElem hk⟩
    have h1:((k:Int)<((s.Moves.length:Nat):Int)):=by omega
    simp only[VW,oun,h1,decide_true,cond_true,Qm,hx,Option.bind_some]
    exact .inr ⟨_,rfl,by simp only;rw[Yb (by omega) (by omega)];omega⟩) (fun t ht=>by
    obtain ⟨m,v⟩:=t
    simp only at ht
    subst ht
    simp only[VW,oun,Int.lt_irrefl,decide_false,cond_false];exact ⟨_,rfl⟩) s.Moves.length 0 ([],0) (by omega) rfl
   refine Y8 ?_ fun _ _=>⟨_,rfl⟩
   rw[show ((s.Moves.length:Nat):Int).toNat=s.Moves.length by simp]
   exact h3
  have hdue: ∀m,∃b,QbH s m d=some b:=fun m=>by
   unfold QbH;exact JY ⟨_,rfl⟩ fun _=>Y8 (Qk1 s h1 d) fun _ _=>⟨_,rfl⟩
  refine Y8 (JY (Y8 hh fun m _=>Y8 (hdue m) fun _ _=>⟨_,rfl⟩) fun _=>⟨_,rfl⟩) fun _ _=>⟨_,rfl⟩
 ·simp only[hz,decide_false,cond_false,Option.bind_some]
  exact ⟨_,rfl⟩
theorem Qo5 (t:QJ) (i:Int): ∃b,Wh t i=some b:=by
 unfold Wh;exact Y8 (JY ⟨_,rfl⟩ fun _=>⟨_,rfl⟩) fun _ _=>⟨_,rfl⟩
theorem Qhx (a b c:Int): ∃r,Zx a b c=some r:=by
 unfold Zx;exact Y8 (JY ⟨_,rfl⟩ fun _=>⟨_,rfl⟩) fun _ _=>⟨_,rfl⟩
theorem Qop (t:QJ) (hs:t.s.length≤1000): ∃e,JS t=some e:=by
 unfold JS;refine JY ⟨_,rfl⟩ fun _=>Y8 (Qfu t.s (by omega) (fun k x hk=> ?_) ?_) fun o _=>Qig (fun _ _=>⟨_,rfl⟩) fun _ _=>⟨_,rfl⟩
 ·have h1:((k:Int)<((t.s.length:Nat):Int)):=by have:=Qp hk;omega
  obtain ⟨b,hb⟩:=Qo5 t x.Container;obtain ⟨e,he,_⟩:=Qke x
  simp only[J6,h1,decide_true,cond_true,Qm,hk,Option.bind_some,hb,he]
  cases b with
  | false=>exact .inl ⟨_,rfl⟩
  | true =>
   cases decide (e=0) with
   | true=>exact .inr rfl
   | false=>exact .inl ⟨_,rfl⟩
 ·simp only[J6,Int.lt_irrefl,decide_false,cond_false];exact ⟨_,rfl⟩
theorem Qn6 (t:QJ) (hf:t.f=[]):Vv t=some 0:=by
 unfold Vv
 rw[hf]
 rw[show iter (J9 t) (((([]:List Q8).length:Nat):Int).toNat+1) 0=some (.inl ()) by
  show Option.bind (J9 t 0) _=_
  simp only[J9,hf,List.length_nil]
  rfl]
 rw[show iter (Wb t) (((([]:List Q8).length:Nat):Int).toNat+1) 0=some (.inl ()) by
  show Option.bind (Wb t 0) _=_
  simp only[Wb,hf,List.length_nil]
  rfl]
 rfl
theorem Qn3 {F:Nat} (hF:33≤F) (t:QJ) (hc:t.c.length≤1000) (hs:t.s.length≤1000) (hf:t.f=[]): ∃e,ZJ F t=some e:=by
 unfold ZJ
 rw[Qn6 t hf]
 refine Y8 (Qn1 hF t.c hc _ _) fun e _=>JY ⟨_,rfl⟩ fun _=>Y8 (Qop t hs) fun e2 _=>JY ⟨_,rfl⟩ fun _=>Y8 ⟨_,rfl⟩ fun e3 _=>JY ⟨_,rfl⟩ fun _=>Y8 (Y8 (Qhx _ _ _) fun _ _=>JY ⟨_,rfl⟩ fun _=>Y8 (Qhx _ _ _) fun _ _=>⟨_,rfl⟩) fun _ _=>JY ⟨_,rfl⟩ fun _=>⟨_,rfl⟩
theorem QhB (t:QJ) (hf:t.f=[]) {i:Nat} {x:QA} (hx:t.c[i]? =some x):Z8 t i=some (x.Grams,false):=by
 unfold Z8 JN
 rw[hf]
 rw[show iter (Wt [] i) (((([]:List Q8).length:Nat):Int).toNat+1) 0=some (.inl ()) from rfl]
 simp only[Option.bind_some,Qy]
 rw[Qm,hx]
 rfl
theorem Qpd (c:QA) (g:Int): ∃r,Qaf c g=some r:=by
 unfold Qaf
 simp only[YO,Option.bind_some]
 refine JY ⟨_,rfl⟩ fun h=> ?_
 simp only[Bool.or_eq_false_iff,decide_eq_false_iff_not] at h
 rw[Qal (show c.Grams≠0 by omega)]
 exact ⟨_,rfl⟩
theorem QmP (t:QJ) (hs:t.s.length≤1000) (hf:t.f=[]) {i:Nat} {x:QA} (hx:t.c[i]? =some x): ∃r,Wx t i=some r:=by
 unfold Wx Zi ZN;refine Y8 (Y8 (Y8 (Qfu t.s (by omega) (fun k y hk=> ?_) ?_) fun o _=>Qig (fun _ _=>⟨_,rfl⟩) fun _ _=>⟨_,rfl⟩) fun _ _=>⟨_,rfl⟩) fun r1 _=>Y8 (JY ⟨_,rfl⟩ fun _=>⟨_,rfl⟩) fun n1 _=> ?_
 ·have h1:((k:Int)<((t.s.length:Nat):Int)):=by have:=Qp hk;omega
  have hr: ∃b,JR y i t=some b:=by
   unfold JR;exact Y8 (JY (Y8 (Qqq y t.day) fun _ _=>⟨_,rfl⟩) fun _=>⟨_,rfl⟩) fun _ _=>⟨_,rfl⟩
  obtain ⟨b,hb⟩:=hr
  simp only[Zk,h1,decide_true,cond_true,Qm,hk,Option.bind_some,hb]
  cases b with
  | true=>exact .inl ⟨_,rfl⟩
  | false=>exact .inr rfl
 ·simp only[Zk,Int.lt_irrefl,decide_false,cond_false];exact ⟨_,rfl⟩
 ·rw[QhB t hf hx,Qm,hx]
  obtain ⟨lv,hlv⟩:=Qpd x x.Grams
  simp only[Option.bind_some,oun,hlv,cond_false]
  exact ⟨_,rfl⟩
theorem Qqc {F:Nat} (hF:33≤F) (c:List QA) (s:List Qv) (day level:Int) (w:ZX) (sv:Int) (hc:c.length≤1000) (hs:s.length≤1000): ∃r,Vu F c s [] day level w sv=some r:=by
 unfold Vu;refine Y8 (Qn3 hF ⟨c,s,[],day,level⟩ hc hs rfl) fun e _=>JY ⟨_,rfl⟩ fun _=>Y8 (JY ⟨_,rfl⟩ fun _=>JY ⟨_,rfl⟩ fun _=>JY ⟨_,rfl⟩ fun _=>Y8 (Qhx _ _ _) fun _ _=>⟨_,rfl⟩) fun _ _=>JY ⟨_,rfl⟩ fun _=>Y8 ?_ fun _ _=>JY ⟨_,rfl⟩ fun _=>⟨_,rfl⟩
 have:=Qft (body:=QaB c s [] day level w sv) (fun k t=>t.2=(k:Int)∧t.1.length≤k) c.length (fun k t hk ht=>by
  obtain ⟨m,v⟩:=t
  simp only at ht
  obtain ⟨ht,hlen⟩:=ht;subst ht;obtain ⟨x,hx⟩: ∃x,c[k]? =some x:=⟨_,List.getElem?_eq_getElem hk⟩
  have h1:((k:Int)<((c.length:Nat):Int)):=by omega
  obtain ⟨r,hr⟩:=QmP ⟨c,s,[],day,level⟩ hs rfl (i:=k) hx;have e1:w64 ((k:Int)+1)=((k+1:Nat):Int):=by rw[Yb (by omega) (by omega)];omega
  simp only[QaB,oun,h1,decide_true,cond_true,Qm,hx,Option.bind_some,hr,QhB ⟨c,s,[],day,level⟩ rfl hx,e1]
  cases decide (r=0) with
  | true=>exact .inr ⟨_,rfl,rfl,by simp only;omega⟩
  | false =>
   simp only[cond_false]
   rw[Yi (by simp;omega)]
   exact .inr ⟨_,rfl,rfl,by simp;omega⟩) (fun t ht=>by
  obtain ⟨m,v⟩:=t
  simp only at ht
  obtain ⟨ht,hlen⟩:=ht;subst ht
  simp only[QaB,oun,Int.lt_irrefl,decide_false,cond_false];exact ⟨_,rfl⟩) c.length 0 ([],0) (by omega) ⟨rfl,Nat.le_refl _⟩
 rw[show ((c.length:Nat):Int).toNat=c.length by simp]
 exact this
end Go.Proofs.YtoojkdejnbnniaaGreat
namespace Go.Proofs.YtoojkdejnbnniaaGreat
open Go.RowKit
set_option linter.unusedSimpArgs false
set_option linter.unusedVariables false
theorem Qr1 {ds:List Qt} (t:To) (f:Nat→Nat) (hn:t.Stops.length≤1000) (hf: ∀d,f d≤900000) (ho: ∀s∈t.Stops,okS ds.length s) :
  iter (Yx ds t) (((t.Stops.length:Nat):Int).toNat+1) (vec ds.length f,0)=some (.inl (vec ds.length fun d=>f d+cn t.Stops d)):=by
 have hz:(vec ds.length fun d=>f d+cn (t.Stops.take 0) d)=vec ds.length f:=Qax fun d _=>by simp[cn]
 have hx:(vec ds.length fun d=>f d+cn (t.Stops.take t.Stops.length) d)=vec ds.length fun d=>f d+cn t.Stops d:=by rw[List.take_length]
 have:=YD (body:=Yx ds t) t.Stops (fun k=>vec ds.length fun d=>f d+cn (t.Stops.take k) d) (fun m k=>(m,k)) (fun _ _=>none) (.inl (vec ds.length fun d=>f d+cn t.Stops d)) (by omega) (fun k s hs _=> ?_) (fun _=>by simp only[Yx,oun,hx];simp) (((t.Stops.length:Nat):Int).toNat+1) (by simp)
 ·rw[QK _ _ (fun _ _ _=>rfl),hz] at this
  exact this
 ·have hk:=Qp hs;have hk2:((k:Int)<(t.Stops.length:Nat)):=by omega
  simp only[Yx,oun,hk2,decide_true,cond_true,Qm,hs,Option.bind_some,ZL]
  rcases ho s (List.mem_of_getElem? hs) with h1 | ⟨h1,h2⟩
  ·have g1: ¬(((ds.length:Nat):Int)≤s):=by omega
   have g2: ¬(0≤s):=by omega
   simp only[g1,g2,decide_false,cond_false,Option.bind_some,Qy]
   rw[Qky hs (by omega)]
  ·have g1: ¬(((ds.length:Nat):Int)≤s):=by omega
   obtain ⟨g3,g4⟩:=Qd0 f hs h1 h2 (by have:=hf s.toNat;omega)
   simp only[g1,h1,decide_false,decide_true,cond_false,cond_true,g3,Option.bind_some,g4,Qy]
theorem Qr2 {ds:List Qt} (x:Pl) (hn:x.Tours.length≤100) (hl: ∀t∈x.Tours,t.Stops.length≤1000) (ho: ∀t∈x.Tours,∀s∈t.Stops,okS ds.length s) :
  iter (Yy ds x) (((x.Tours.length:Nat):Int).toNat+1) (vec ds.length (fun _=>0),0)=some (.inl (vec ds.length fun d=>0+tn x.Tours d)):=by
 have hz:(vec ds.length fun d=>0+tn (x.Tours.take 0) d)=vec ds.length fun _=>0:=Qax fun d _=>by simp[tn]
 have hx:(vec ds.length fun d=>0+tn (x.Tours.take x.Tours.length) d)=vec ds.length fun d=>0+tn x.Tours d:=by rw[List.take_length]
 have:=YD (body:=Yy ds x) x.Tours (fun k=>vec ds.length fun d=>0+tn (x.Tours.take k) d) (fun m k=>(m,k)) (fun _ _=>none) (.inl (vec ds.length fun d=>0+tn x.Tours d)) (by omega) (fun k t ht _=> ?_) (fun _=>by simp only[Yy,oun,hx];simp) (((x.Tours.length:Nat):Int).toNat+1) (by simp)
 ·rw[QK _ _ (fun _ _ _=>rfl),hz] at this
  exact this
 ·have hk:=Qp ht;have hk2:((k:Int)<(x.Tours.length:Nat)):=by omega
  have h1:=Qr1 (ds:=ds) t (fun d=>0+tn (x.Tours.take k) d) (hl t (List.mem_of_getElem? ht)) (fun d=>by
   have h2:=QnM (ts:=x.Tours.take k) (fun u hu=>hl u (List.mem_of_mem_take hu)) d;have h3:=Yf (Nat.le_of_lt (Qp ht))
   omega) (ho t (List.mem_of_getElem? ht))
  have h2:(vec ds.length fun d=>0+tn (x.Tours.take k) d+cn t.Stops d)=vec ds.length fun d=>0+tn (x.Tours.take (k+1)) d:=Qax fun d _=>by
   rw[YF ht,QnN];omega
  simp only[Yy,oun,hk2,decide_true,cond_true,Qm,ht,Option.bind_some,ZL]
  rw[h1]
  simp only[Option.bind_some,Qy,h2]
theorem Qr3 {F:Nat} {p:Pr} {x:Pl} (h:Cx F p x) (ha:Qbe F p x p.Demands.length=[]) {d:Nat} (hd:(d:Int)∈x.Left) :
  iter (Yz (rsL F p x d p.Vehicles.length)) ((((rsL F p x d p.Vehicles.length).length:Nat):Int).toNat+1) 0=some (.inl ()):=by
 have hvl:=h.hv
 rw[QfA]
 have:=YD (body:=Yz (rsL F p x d p.Vehicles.length)) p.Vehicles (fun _=>()) (fun _ k=>k) (fun _ _=>none) (Sum.inl ()) (by omega) (fun k y hk _=> ?_) (fun _=>by simp[Yz,QfA]) (((p.Vehicles.length:Nat):Int).toNat+1) (by simp)
 ·rw[QK _ _ (fun _ _ _=>rfl)] at this
  exact this
 ·have h0:=Qp hk;have h1:((k:Int)<((p.Vehicles.length:Nat):Int)):=by omega
  have hrn:=h.rsn_ne hd h0 ha
  simp only[Yz,QfA,h1,decide_true,cond_true,Qm,Qqm F p x d h0,Option.bind_some,Bool.not_true,cond_false,hrn,decide_false]
  rfl
theorem Qr4 {F:Nat} {p:Pr} {ds:List Qt} {x:Pl} (h:Cx F ⟨p.Road,p.Vehicles,ds,p.Unload,p.UnloadSecs⟩ x) (ha:Qbe F ⟨p.Road,p.Vehicles,ds,p.Unload,p.UnloadSecs⟩ x ds.length=[]) (f:Nat→Nat) (hf: ∀d,f d≤500000) :
  iter (YA F p ds x) (((x.Left.length:Nat):Int).toNat+1) (vec ds.length f,0)=some (.inl (vec ds.length fun d=>f d+cn x.Left d)):=by
 have hll:=h.ll;have htl:=h.tl;have hvl:=h.hv;have hfe:ZW F ⟨p.Road,p.Vehicles,ds,p.Unload,p.UnloadSecs⟩ x=some 0:=by unfold ZW;rw[h.total.1];rfl
 have hz:(vec ds.length fun d=>f d+cn (x.Left.take 0) d)=vec ds.length f:=Qax fun d _=>by simp[cn]
 have hx:(vec ds.length fun d=>f d+cn (x.Left.take x.Left.length) d)=vec ds.length fun d=>f d+cn x.Left d:=by rw[List.take_length]
 have:=YD (body:=YA F p ds x) x.Left (fun k=>vec ds.length fun d=>f d+cn (x.Left.take k) d) (fun m k=>(m,k)) (fun _ _=>none) (.inl (vec ds.length fun d=>f d+cn x.Left d)) (by omega) (fun k s hs _=> ?_) (fun _=>by simp only[YA,oun,hx];simp) (((x.Left.length:Nat):Int).toNat+1) (by simp)
 ·rw[QK _ _ (fun _ _ _=>rfl),hz] at this
  exact this
 ·have hk:=Qp hs;have hk2:((k:Int)<(x.Left.length:Nat)):=by omega
  have hm:=List.mem_of_getElem? hs;have hr:0≤s∧s<((ds.length:Nat):Int):=h.fe.lft s hm;obtain ⟨R,e,w1,_,_,w4,w5⟩:=Qqv h.hF h.hn hvl x (by omega) h.ll s;have he:=w5 hm hfe;subst he;rcases w4 with ⟨w4,_⟩ | ⟨_,_,n,hn,_,hnl,hR⟩
  ·exact absurd rfl w4
  ·subst hn;subst hR;have hlen:(rsL F ⟨p.Road,p.Vehicles,ds,p.Unload,p.UnloadSecs⟩ x n p.Vehicles.length).length=p.Vehicles.length:=QfA _ _ _ _ _;have hho:QaD F ⟨p.Road,p.Vehicles,ds,p.Unload,p.UnloadSecs⟩ x (n:Int) (rsL F ⟨p.Road,p.Vehicles,ds,p.Unload,p.UnloadSecs⟩ x n p.Vehicles.length)=some true:=by
    unfold QaD
    rw[w1]
    have q:=(Qrr (a:=rsL F ⟨p.Road,p.Vehicles,ds,p.Unload,p.UnloadSecs⟩ x n p.Vehicles.length) (b:=rsL F ⟨p.Road,p.Vehicles,ds,p.Unload,p.UnloadSecs⟩ x n p.Vehicles.length) (by rw[hlen];have:p.Vehicles.length≤30:=hvl;omega)).2
    simp only[Option.bind_some,oun,decide_true,cond_true]
    rw[q]
    simp
   obtain ⟨g3,g4⟩:=Qd0 (n:=ds.length) f hs hr.1 hr.2 (by have:=hf ((n:Int)).toNat;omega);have hl3:=Qr3 h ha hm;have g1: ¬((n:Int)<0):=by omega
   have g2: ¬(((ds.length:Nat):Int)≤(n:Int)):=by omega
   simp only[YA,oun,hk2,decide_true,cond_true,Qm,hs,Option.bind_some,ZL,g1,g2,decide_false,cond_false]
   rw[←Qm,g3]
   simp only[Option.bind_some,w1,decide_true,Bool.not_true,cond_false,hlen]
   rw[hho]
   simp only[Option.bind_some,Bool.not_true,cond_false]
   rw[hlen] at hl3
   rw[hl3]
   simp only[Option.bind_some,Qy,g4]
theorem Qr5 (n:Nat) (hn:n≤1000):iter (YV (vec n fun _=>1)) ((((vec n fun _=>1).length:Nat):Int).toNat+1) 0=some (.inl ()):=by
 rw[QcS (vec n fun _=>1) (fun _=>none) (Sum.inl ()) (by rw[VD];omega) (fun k s hk=>by
  have h1:((k:Int)<(((vec n fun _=>1).length:Nat):Int)):=by have:=Qp hk;omega
  have hs:s=1:=by
   have:=Qp hk
   rw[VD] at this
   rw[QfF _ this] at hk
   injection hk with hk
   exact hk.symm
  simp only[YV,h1,decide_true,cond_true,Qm,hk,Option.bind_some,hs,Bool.not_true,cond_false]
  rfl) (by simp[YV]) _ (by simp),QjV]
theorem QoQ {F:Nat} (hF:33≤F) (c:QA) (a b:Int):JG F c a b=JG 33 c a b:=by
 unfold JG
 rw[Qgu hF,Qgu (Nat.le_refl 33)]
theorem Qre {F:Nat} (hF:33≤F) (c:List QA) (s:List Qv) (f:List Q8) (day level:Int) (w:ZX) (sv:Int):Vu F c s f day level w sv=Vu 33 c s f day level w sv:=by
 have h1: ∀l a b,Z5 F l a b=Z5 33 l a b:=fun l a b=>by
  funext v
  simp only[Z5,QoQ hF]
 have h2: ∀l a b,JF F l a b=JF 33 l a b:=fun l a b=>by
  simp only[JF,h1]
 have h3: ∀t,ZJ F t=ZJ 33 t:=fun t=>by
  simp only[ZJ,h2]
 simp only[Vu,h3]
theorem Qq5 {F:Nat} (hF:33≤F):Yh F=some true:=by
 have:Yh F=Yh 33:=by simp only[Yh,Qre hF]
 rw[this]
 decide +kernel
theorem Qm3 {F:Nat} (hF:200000000000000≤F) (haw:Yh F=some true) (p:Pr) (c:List QA) (s:List Qv) (day:Int):Zu F p c s day=some true:=by
 have hF4:40000≤F:=Nat.le_trans (by decide) hF;unfold Zu
 simp only[YO,Option.bind_some]
 cases hg:(decide (8<p.Road.Nodes)||(decide (40<((p.Road.Edges.length:Nat):Int))||(decide (3<((p.Vehicles.length:Nat):Int))||(decide (5<((c.length:Nat):Int))||decide (5<((s.length:Nat):Int)))))) with
 | true=>simp only[cond_true,haw,Option.bind_some]
 | false =>
  simp only[Bool.or_eq_false_iff,decide_eq_false_iff_not] at hg
  obtain ⟨_,g1,g2,g3,g4⟩:=hg
  simp only[cond_false]
  obtain ⟨⟨ds,e⟩,hm⟩:=Qqc (F:=F) (by omega) c s day 1000 ⟨0,86400⟩ 60 (by omega) (by omega)
  rw[hm]
  simp only[Option.bind_some,oun]
  cases hg2:(!decide (e=0)||decide (5<((ds.length:Nat):Int))) with
  | true=>simp only[cond_true,haw,Option.bind_some]
  | false =>
   simp only[Bool.or_eq_false_iff,decide_eq_false_iff_not] at hg2
   have hdl:ds.length≤5:=by omega
   simp only[cond_false]
   obtain ⟨e5,h1,h2⟩:=QrZ hF ⟨p.Road,p.Vehicles,ds,p.Unload,p.UnloadSecs⟩ (show p.Road.Edges.length≤600 by omega) (show p.Vehicles.length≤30 by omega) (show ds.length≤1000 by omega)
   rw[h1]
   simp only[Option.bind_some]
   rcases h2 with ⟨h2,_⟩ | ⟨h2,y,h3,_,h5,h6,_⟩
   ·simp only[h2,decide_false,Bool.not_false,cond_true,haw,Option.bind_some]
   ·subst h2;have hfe:ZW F ⟨p.Road,p.Vehicles,ds,p.Unload,p.UnloadSecs⟩ y=some 0:=by unfold ZW;rw[h5.total.1];rfl
    rw[h3]
    simp only[Option.bind_some,oun,decide_true,Bool.not_true,cond_false,hfe]
    rw[QdM _ (by omega)]
    simp only[Option.bind_some]
    have htl:=h5.tl;have l2:=Qr2 (ds:=ds) y (by omega) (fun t ht=>by have:=(h5.fe.tour ht).2.2.1;omega) (fun t ht=>(h5.fe.tour ht).2.2.2.1)
    rw[l2]
    simp only[Option.bind_some,Qy]
    have htn: ∀d,0+tn y.Tours d≤500000:=fun d=>by
     have:=QnM (ts:=y.Tours) (fun t ht=>by have:=(h5.fe.tour ht).2.2.1;omega) d
     omega
    have l4:=Qr4 (p:=p) h5 h6 (fun d=>0+tn y.Tours d) htn
    rw[l4]
    simp only[Option.bind_some,Qy]
    have hone:(vec ds.length fun d=>0+tn y.Tours d+cn y.Left d)=vec ds.length fun _=>1:=Qax fun d hd=>by have:=h5.fe.one d hd;omega
    rw[hone,Qr5 _ (by omega)]
    simp only[Option.bind_some,Qy,haw]
theorem QbM (p:Qe) (c:List QA) (s:List Qv) (day:Int) (hp:Qfn p) (hc: ∀x∈c,Qd2 x) (hs: ∀x∈s,QeA x) (hd:wfI .i64 day): ∃F,Zu F p c s day=some true:=⟨200000000000000,Qm3 (Nat.le_refl _) (Qq5 (by decide)) p c s day⟩
end Go.Proofs.YtoojkdejnbnniaaGreat
namespace Go.Proofs.YtoojkdejnbnniaaGreat
open Go.RowKit Go.ChangeShapes Go.WideShapes
set_option linter.unusedSimpArgs false
set_option linter.unusedVariables false
def QkG (W:World):Gh:=⟨fun b=>W.heap[b]?,W.os,W.output,W.tape⟩
theorem Qo6 (W:World):Inv W (QkG W) []:=⟨rfl,rfl,rfl,fun _ _ h=>h,by simp,by simp,by simp⟩
theorem QoP {W W':World} {μ:Gh} {L:List Seg} (hm:(QkG W).le μ) (h:Inv W' μ L):Below W.heap.size W W':=by
 have hb: ∀k,k<W.heap.size→W'.heap[k]? =W.heap[k]? :=fun k hk=>by
  have h1:W.heap[k]? =some W.heap[k]:=by simp[hk]
  rw[h1]
  exact h.mem k _ (hm.mem k _ h1)
 refine ⟨h.os.trans hm.os,h.tape.trans hm.tape,h.out.trans hm.out,?_,hb⟩;rcases Nat.eq_zero_or_pos W.heap.size with h0 | h0
 ·omega
 ·have h1:=hb (W.heap.size-1) (by omega);have h2:W.heap[W.heap.size-1]? =some (W.heap[W.heap.size-1]'(by omega)):=by simp
  rw[h2] at h1
  have:=Jo h1
  omega
theorem Qll {P:Program} {f:FuncId} {fn:Func} (hf:P.funcs[f]? =some fn) (hb:fn.body.isNone=false) {args:List Value} {W:World} {v:Value} (h:Fn P f args (QkG W) [] fun u _ _=>u=v) :
  Calls P f args.toArray W fun e W'=>e= .returned v∧Below W.heap.size W W':=by
 rcases h with ⟨_,h⟩ | ⟨fn',_,hf',_,hb',_⟩
 ·refine (h W (Qo6 W)).mono ?_;rintro e W' ⟨u,μ',L',rfl,hm,hi,rfl⟩;exact ⟨rfl,QoP hm hi⟩
 ·rw[hf] at hf'
  injection hf' with hf'
  subst hf'
  rw[hb] at hb';cases hb'
section
variable {H:Type} {enc:TypeId×Value→H} {P:Program}
theorem QfS (hl:laidOutB P=true) {W W':World} (hb:Below W.heap.size W W') {sp:Nat→Bool}: ∀{ts:List TypeId} {vs:List Value} {ds:List (DataW H)} {ps:List MemPlace},
  (∀t∈ts,P.readableRec t=true∧t<P.types.size)→(∀p∈ps,p.block<W.heap.size)→(∀p∈ps,sp p.block=true) →
  DataW.TrodAll enc P W 0 (fun _=>true) true ts vs ds ps→DataW.TrodAll enc P W' 0 sp true ts vs ds ps
 | [],vs,ds,ps,_,_,_,h=>by
  obtain ⟨rfl,rfl,rfl⟩:=trodAll_nil h
  rfl
 | t::ts,vs,ds,ps,hr,hlt,hs,h=>by
  obtain ⟨v,vs',d,ds',p,q,rfl,rfl,rfl,hd,hrest⟩:=trodAll_cons h;refine ⟨p,q,WideElems.Trod_stays hl (hr t (by simp)).1 (hr t (by simp)).2 hd (fun x hx=>hb.same (hlt x (by simp[hx]))) (fun x hx=>hs x (by simp[hx])),?_,rfl⟩;exact QfS hl hb (fun u hu=>hr u (by simp[hu])) (fun x hx=>hlt x (by simp[hx])) (fun x hx=>hs x (by simp[hx])) hrest
theorem Qom {f:Func} {s:ChangeSpec} {apart fresh handsOn again:Bool} {W W':World} {args:Array Value} {ds:List (DataW H)} {before:List MemPlace} {tb:TypeId}
  (hW:DataW.Whole enc P f.params.toList s.vars apart W args.toList ds [] before) (hv:s.vars=[]) (hres:f.resultTypes= #[tb]) (htb:P.underlying tb=some .bool)
  (hfr:(s.fn H ds).results=[.lit (.bool true)]) (hfa:(s.fn H ds).args=ds) (hfv:(s.fn H ds).vars=[]) (hl:laidOutB P=true) (hr: ∀t∈f.params.toList,P.readableRec t=true∧t<P.types.size) (hb:Below W.heap.size W W') :
  s.post enc P f apart fresh handsOn again W args (.bool true) W':=by
 have hlt: ∀p∈before,p.block<W.heap.size:=fun p hp=>hW.lt p hp;have hW':=hW;obtain ⟨p,q,hA,hV,hpq,hz,hn⟩:=hW'
 rw[hv] at hV
 obtain ⟨_,rfl⟩:=trodVars_none hV
 rw[List.append_nil] at hpq
 subst hpq;have hresl:((Value.bool true).resultList f.resultTypes.size)=[.bool true]:=by rw[hres];rfl
 have hargs: ∀sp:Nat→Bool,(∀x∈before,sp x.block=true)→DataW.TrodAll enc P W' 0 sp true f.params.toList args.toList ds before:=fun sp hs=>QfS hl hb hr hlt hs hA;have hres2: ∀(b:Nat) (sp:Nat→Bool) (hd:Bool),DataW.TrodAll enc P W' b sp hd f.resultTypes.toList [.bool true] [.lit (.bool true)] []:=fun b sp hd=>by
  rw[hres];exact trodAll_mk1 (shut_bool htb true)
 have hold: ∀p∈before,(fun b=>decide (b<W.heap.size)) p.block=true:=fun p hp=>by simpa using hlt p hp
 have hvars: ∀sp:Nat→Bool,DataW.TrodVars enc P W' sp s.vars [] []:=fun sp=>by rw[hv];rfl
 refine ⟨ds,[],before,[],before,[],hW,?_,?_,?_,World.keptBut_mono (fun p hp=>⟨hp,by simpa using hp⟩) (hb.frame (· ∈before)),fun _=> ?_⟩
 ·rw[hresl,List.append_nil,hfr];exact hres2 _ _ _
 ·rw[List.append_nil,hfa];exact hargs _ hold
 ·rw[List.append_nil,hfv];exact hvars _
 ·have A1:=hargs (fun _=>true) (fun _ _=>rfl);have R1:=hres2 0 (fun _=>true) true;refine ⟨ok_one hres rfl (okWide_bool_mk htb true),?_⟩
  rw[hresl]
  refine ⟨_,_,([]++before)++[],⟨[]++before,[],trodAll_append A1 R1,hvars _,rfl,?_,?_⟩,?_⟩
  ·intro b off hp;have hin:MemPlace.cell b off∈before:=by simpa using hp
   rw[hb.frozen (hlt _ hin)]
   exact hz b off hin
  ·intro ha;have:=hn ha
   simpa using this
  ·intro p hp _
   simpa using hp
end
end Go.Proofs.YtoojkdejnbnniaaGreat
namespace Go.Proofs.YtoojkdejnbnniaaGreat
open Go.RowKit Go.ChangeShapes Go.WideShapes Go.Deep
set_option linter.unusedSimpArgs false
set_option linter.unusedVariables false
theorem Qjx {W:World} {L:List Seg} {a:Addr} {v:Value} (h:W.cell? a=some v):VN (QkG W) L a v:=by
 unfold World.cell? at h
 split at h
 ·rename_i c e f hb
  split at h
  ·cases h
  ·rename_i hs
   refine ⟨by simpa using hs,c,e,f,.inl hb,by simpa using h⟩
 ·cases h
theorem Qny {α β:Type} (Q:Nat→α→β→Prop): ∀n,(∀i,i<n→ ∃x y,Q i x y)→ ∃(l:List α) (m:List β),l.length=n∧m.length=n∧ ∀(i:Nat) (x:α) (y:β),l[i]? =some x→m[i]? =some y→Q i x y
 | 0,_=>⟨[],[],rfl,rfl,by simp⟩
 | n+1,h=>by
  obtain ⟨l,m,hl,hm,hq⟩:=Qny Q n fun i hi=>h i (by omega);obtain ⟨x,y,hx⟩:=h n (by omega);refine ⟨l++[x],m++[y],by simp[hl],by simp[hm],fun i u v hu hv=> ?_⟩;rcases Nat.lt_or_ge i n with hi | hi
  ·rw[List.getElem?_append_left (by omega)] at hu hv
   exact hq i u v hu hv
  ·rw[List.getElem?_append_right (by omega)] at hu hv
   have:i-n=0:=by
    rcases Nat.eq_zero_or_pos (i-n) with h0 | h0
    ·exact h0
    ·rw[List.getElem?_eq_none (by simp;omega)] at hu;cases hu
   rw[hl,this] at hu
   rw[hm,this] at hv
   simp only[List.getElem?_cons_zero,Option.some.injEq] at hu hv
   have:i=n:=by omega
   subst this;subst hu;subst hv;exact hx
def Opn {α:Type} (P:Program) (W:World) (t:TypeId) (r:Rp α) (Q:α→Prop):Prop :=
 ∀(H:Type) (enc:TypeId×Value→H) (spare:Nat→Bool) (held:Bool) (fuel:Nat) (cs:List Value) (x:DataW H×List MemPlace),DataW.trod enc P W 0 spare held fuel t cs=some x→ ∃d,r.rep (QkG W) d cs∧Q d
section
variable {P:Program} {W:World} {t:TypeId}
theorem ZK {k:IntKind} (ht:P.underlying t=some (.int k)):Opn P W t (rI k) (wfI k):=by
 intro H enc spare held fuel cs x h;obtain ⟨n,h1,_,h2⟩:=DataW.trod_int ht h;exact ⟨n,h1,h2⟩
theorem QnC (ht:P.underlying t=some .string):Opn P W t Qse fun s=>s.size≤maxLen:=by
 intro H enc spare held fuel cs x h;obtain ⟨n,h1,_,h2⟩:=DataW.trod_string ht h;exact ⟨n,h1,h2⟩
theorem QcH {α:Type} {e:TypeId} {r:Rp α} {Q:α→Prop} (ht:P.underlying t=some (.slice e)) (hC:P.cellsOf e=r.sz) (he:Opn P W e r Q):Opn P W t (Qr0 r) fun xs=> ∀x∈xs,Q x:=by
 intro H enc spare held fuel cs x h;rcases open_slice ht h with ⟨rfl,_⟩ | ⟨a,n,c,m,nn,D,Pl,rfl,hb,hl,hm,hmm,hx,hi⟩
 ·exact ⟨[],⟨none,0,rfl,Nat.le_refl _,Nat.zero_le _,Qs.nil⟩,by simp⟩
 ·have hrow: ∀i,i<n→ ∃(y:α) (cs:List Value),r.rep (QkG W) y cs∧Q y∧Z6 (QkG W) [] (a.add (i*r.sz)) cs:=fun i hin=>by
   obtain ⟨cs',hc,htr⟩:=hi i (by split at hmm<;>omega)
   rw[hC] at hc
   obtain ⟨y,hy,hq⟩:=he H enc spare held nn cs' _ htr;obtain ⟨_,hcl,hat⟩:=World.cells?_some hc;refine ⟨y,cs',hy,hq,fun j u hu=> ?_⟩;have hjk:j<r.sz:=by
    rcases Nat.lt_or_ge j r.sz with h | h
    ·exact h
    ·rw[List.getElem?_eq_none (by omega)] at hu;cases hu
   exact Qjx (by rw[hat j hjk];exact hu)
  obtain ⟨xs,css,hxl,hcl,hq⟩:=Qny (fun i y cs=>r.rep (QkG W) y cs∧Q y∧Z6 (QkG W) [] (a.add (i*r.sz)) cs) n hrow;refine ⟨xs,⟨some a,c,by rw[hxl],by omega,hm,css,fun i cs hcs=> ?_,by rw[hxl,hcl],fun i y cs hy hcs=>(hq i y cs hy hcs).1⟩,fun y hy=> ?_⟩
  ·have hlt:i<css.length:=by
    rcases Nat.lt_or_ge i css.length with h | h
    ·exact h
    ·rw[List.getElem?_eq_none h] at hcs;cases hcs
   obtain ⟨h1,_,h3⟩:=hq i (xs[i]'(by omega)) cs (by simp) hcs;exact ⟨r.len h1,a,rfl,h3⟩
  ·obtain ⟨i,hi'⟩:=List.getElem?_of_mem hy;have hlt:i<xs.length:=by
    rcases Nat.lt_or_ge i xs.length with h | h
    ·exact h
    ·rw[List.getElem?_eq_none h] at hi';cases hi'
   exact (hq i y (css[i]'(by omega)) hi' (by simp)).2.1
end
theorem Zw {cs:List Value} {o a o2:Nat} (h:o+a=o2):cs.drop o=(cs.drop o).take a++cs.drop o2:=by rw[←h,←List.drop_drop,List.take_append_drop]
theorem Qox {cs:Array Value} {l:List Value} (h:cs.toList=l):cs=l.toArray:=by rw[←h]
end Go.Proofs.YtoojkdejnbnniaaGreat
namespace Go.Proofs.YtoojkdejnbnniaaGreat
open Go.ChangeShapes Go.WideShapes Go.ChangeAt Go.RowKit
set_option linter.unusedSimpArgs false
set_option linter.unusedVariables false
theorem Qsd:ownKnob Tryz.prog.godebug=none:=by kernel_rfl
theorem Qo8:laidOutB Tryz.prog=true:=by kernel_rfl
theorem QkP {W:World}:Opn Tryz.prog W 92 QY QhR:=by
 intro H enc spare held fuel cs x h;obtain ⟨xs,n,_,_,hlen,hxl,hf⟩:=DataW.trod_struct Tryz.underlying92 h
 rw[show Tryz.prog.cellsOf 92=4 by kernel_rfl] at hlen
 have g0:DataW.trod enc Tryz.prog W 0 spare held n 3 ((cs.drop 0).take (Tryz.prog.cellsOf 3))=xs[0]? :=hf 0 _ rfl
 rw[show Tryz.prog.cellsOf 3=1 by kernel_rfl,List.getElem?_eq_getElem (by rw[hxl];decide)] at g0
 obtain ⟨d0,h0,q0⟩:=(ZK Tryz.underlying3) H enc spare held n _ _ g0;have g1:DataW.trod enc Tryz.prog W 0 spare held n 3 ((cs.drop 1).take (Tryz.prog.cellsOf 3))=xs[1]? :=hf 1 _ rfl
 rw[show Tryz.prog.cellsOf 3=1 by kernel_rfl,List.getElem?_eq_getElem (by rw[hxl];decide)] at g1
 obtain ⟨d1,h1,q1⟩:=(ZK Tryz.underlying3) H enc spare held n _ _ g1;have g2:DataW.trod enc Tryz.prog W 0 spare held n 3 ((cs.drop 2).take (Tryz.prog.cellsOf 3))=xs[2]? :=hf 2 _ rfl
 rw[show Tryz.prog.cellsOf 3=1 by kernel_rfl,List.getElem?_eq_getElem (by rw[hxl];decide)] at g2
 obtain ⟨d2,h2,q2⟩:=(ZK Tryz.underlying3) H enc spare held n _ _ g2;have g3:DataW.trod enc Tryz.prog W 0 spare held n 3 ((cs.drop 3).take (Tryz.prog.cellsOf 3))=xs[3]? :=hf 3 _ rfl
 rw[show Tryz.prog.cellsOf 3=1 by kernel_rfl,List.getElem?_eq_getElem (by rw[hxl];decide)] at g3
 obtain ⟨d3,h3,q3⟩:=(ZK Tryz.underlying3) H enc spare held n _ _ g3;have e0:cs.drop 0=(cs.drop 0).take 1++cs.drop 1:=Zw rfl;have e1:cs.drop 1=(cs.drop 1).take 1++cs.drop 2:=Zw rfl;have e2:cs.drop 2=(cs.drop 2).take 1++cs.drop 3:=Zw rfl;have e3:cs.drop 3=(cs.drop 3).take 1++cs.drop 4:=Zw rfl;have en:cs.drop 4=[]:=List.drop_of_length_le (by omega);have hcs:cs.drop 0=_:=e0
 rw[e1,e2,e3,en,show (cs.drop 0).take 1=_ from h0,show (cs.drop 1).take 1=_ from h1,show (cs.drop 2).take 1=_ from h2,show (cs.drop 3).take 1=_ from h3] at hcs
 exact ⟨⟨d0,d1,d2,d3⟩,hcs,q0,q1,q2,q3⟩
theorem QkR {W:World}:Opn Tryz.prog W 24 QmL QhT:=by
 intro H enc spare held fuel cs x h;obtain ⟨xs,n,_,_,hlen,hxl,hf⟩:=DataW.trod_struct Tryz.underlying24 h
 rw[show Tryz.prog.cellsOf 24=2 by kernel_rfl] at hlen
 have g0:DataW.trod enc Tryz.prog W 0 spare held n 3 ((cs.drop 0).take (Tryz.prog.cellsOf 3))=xs[0]? :=hf 0 _ rfl
 rw[show Tryz.prog.cellsOf 3=1 by kernel_rfl,List.getElem?_eq_getElem (by rw[hxl];decide)] at g0
 obtain ⟨d0,h0,q0⟩:=(ZK Tryz.underlying3) H enc spare held n _ _ g0;have g1:DataW.trod enc Tryz.prog W 0 spare held n 22 ((cs.drop 1).take (Tryz.prog.cellsOf 22))=xs[1]? :=hf 1 _ rfl
 rw[show Tryz.prog.cellsOf 22=1 by kernel_rfl,List.getElem?_eq_getElem (by rw[hxl];decide)] at g1
 obtain ⟨d1,h1,q1⟩:=(QcH Tryz.underlying22 (by kernel_rfl) QkP) H enc spare held n _ _ g1;have e0:cs.drop 0=(cs.drop 0).take 1++cs.drop 1:=Zw rfl;have e1:cs.drop 1=(cs.drop 1).take 1++cs.drop 2:=Zw rfl;have en:cs.drop 2=[]:=List.drop_of_length_le (by omega);obtain ⟨A0,c0,h1,hl0,hm0,ha0⟩:=h1;have hcs:cs.drop 0=_:=e0
 rw[e1,en,show (cs.drop 0).take 1=_ from h0,show (cs.drop 1).take 1=_ from h1] at hcs
 exact ⟨⟨d0,d1⟩,⟨A0,c0,hcs,⟨hl0,hm0⟩,ha0⟩,q0,q1⟩
theorem Qe7 {W:World}:Opn Tryz.prog W 36 QkU QdA:=by
 intro H enc spare held fuel cs x h;obtain ⟨xs,n,_,_,hlen,hxl,hf⟩:=DataW.trod_struct Tryz.underlying36 h
 rw[show Tryz.prog.cellsOf 36=2 by kernel_rfl] at hlen
 have g0:DataW.trod enc Tryz.prog W 0 spare held n 3 ((cs.drop 0).take (Tryz.prog.cellsOf 3))=xs[0]? :=hf 0 _ rfl
 rw[show Tryz.prog.cellsOf 3=1 by kernel_rfl,List.getElem?_eq_getElem (by rw[hxl];decide)] at g0
 obtain ⟨d0,h0,q0⟩:=(ZK Tryz.underlying3) H enc spare held n _ _ g0;have g1:DataW.trod enc Tryz.prog W 0 spare held n 3 ((cs.drop 1).take (Tryz.prog.cellsOf 3))=xs[1]? :=hf 1 _ rfl
 rw[show Tryz.prog.cellsOf 3=1 by kernel_rfl,List.getElem?_eq_getElem (by rw[hxl];decide)] at g1
 obtain ⟨d1,h1,q1⟩:=(ZK Tryz.underlying3) H enc spare held n _ _ g1;have e0:cs.drop 0=(cs.drop 0).take 1++cs.drop 1:=Zw rfl;have e1:cs.drop 1=(cs.drop 1).take 1++cs.drop 2:=Zw rfl;have en:cs.drop 2=[]:=List.drop_of_length_le (by omega);have hcs:cs.drop 0=_:=e0
 rw[e1,en,show (cs.drop 0).take 1=_ from h0,show (cs.drop 1).take 1=_ from h1] at hcs
 exact ⟨⟨d0,d1⟩,hcs,q0,q1⟩
theorem Qh3 {W:World}:Opn Tryz.prog W 95 QN Qfo:=by
 intro H enc spare held fuel cs x h;obtain ⟨xs,n,_,_,hlen,hxl,hf⟩:=DataW.trod_struct Tryz.underlying95 h
 rw[show Tryz.prog.cellsOf 95=6 by kernel_rfl] at hlen
 have g0:DataW.trod enc Tryz.prog W 0 spare held n 9 ((cs.drop 0).take (Tryz.prog.cellsOf 9))=xs[0]? :=hf 0 _ rfl
 rw[show Tryz.prog.cellsOf 9=1 by kernel_rfl,List.getElem?_eq_getElem (by rw[hxl];decide)] at g0
 obtain ⟨d0,h0,q0⟩:=(QnC Tryz.underlying9) H enc spare held n _ _ g0;have g1:DataW.trod enc Tryz.prog W 0 spare held n 3 ((cs.drop 1).take (Tryz.prog.cellsOf 3))=xs[1]? :=hf 1 _ rfl
 rw[show Tryz.prog.cellsOf 3=1 by kernel_rfl,List.getElem?_eq_getElem (by rw[hxl];decide)] at g1
 obtain ⟨d1,h1,q1⟩:=(ZK Tryz.underlying3) H enc spare held n _ _ g1;have g2:DataW.trod enc Tryz.prog W 0 spare held n 36 ((cs.drop 2).take (Tryz.prog.cellsOf 36))=xs[2]? :=hf 2 _ rfl
 rw[show Tryz.prog.cellsOf 36=2 by kernel_rfl,List.getElem?_eq_getElem (by rw[hxl];decide)] at g2
 obtain ⟨d2,h2,q2⟩:=Qe7 H enc spare held n _ _ g2;have g3:DataW.trod enc Tryz.prog W 0 spare held n 3 ((cs.drop 4).take (Tryz.prog.cellsOf 3))=xs[3]? :=hf 3 _ rfl
 rw[show Tryz.prog.cellsOf 3=1 by kernel_rfl,List.getElem?_eq_getElem (by rw[hxl];decide)] at g3
 obtain ⟨d3,h3,q3⟩:=(ZK Tryz.underlying3) H enc spare held n _ _ g3;have g4:DataW.trod enc Tryz.prog W 0 spare held n 3 ((cs.drop 5).take (Tryz.prog.cellsOf 3))=xs[4]? :=hf 4 _ rfl
 rw[show Tryz.prog.cellsOf 3=1 by kernel_rfl,List.getElem?_eq_getElem (by rw[hxl];decide)] at g4
 obtain ⟨d4,h4,q4⟩:=(ZK Tryz.underlying3) H enc spare held n _ _ g4;have e0:cs.drop 0=(cs.drop 0).take 1++cs.drop 1:=Zw rfl;have e1:cs.drop 1=(cs.drop 1).take 1++cs.drop 2:=Zw rfl;have e2:cs.drop 2=(cs.drop 2).take 2++cs.drop 4:=Zw rfl;have e3:cs.drop 4=(cs.drop 4).take 1++cs.drop 5:=Zw rfl;have e4:cs.drop 5=(cs.drop 5).take 1++cs.drop 6:=Zw rfl;have en:cs.drop 6=[]:=List.drop_of_length_le (by omega);have hcs:cs.drop 0=_:=e0
 rw[e1,e2,e3,e4,en,show (cs.drop 0).take 1=_ from h0,show (cs.drop 1).take 1=_ from h1,show (cs.drop 2).take 2=_ from h2,show (cs.drop 4).take 1=_ from h3,show (cs.drop 5).take 1=_ from h4] at hcs
 exact ⟨⟨d0,d1,d2,d3,d4⟩,hcs,q0,q1,q2,q3,q4⟩
theorem Qi3 {W:World}:Opn Tryz.prog W 60 QH QfU:=by
 intro H enc spare held fuel cs x h;obtain ⟨xs,n,_,_,hlen,hxl,hf⟩:=DataW.trod_struct Tryz.underlying60 h
 rw[show Tryz.prog.cellsOf 60=7 by kernel_rfl] at hlen
 have g0:DataW.trod enc Tryz.prog W 0 spare held n 3 ((cs.drop 0).take (Tryz.prog.cellsOf 3))=xs[0]? :=hf 0 _ rfl
 rw[show Tryz.prog.cellsOf 3=1 by kernel_rfl,List.getElem?_eq_getElem (by rw[hxl];decide)] at g0
 obtain ⟨d0,h0,q0⟩:=(ZK Tryz.underlying3) H enc spare held n _ _ g0;have g1:DataW.trod enc Tryz.prog W 0 spare held n 3 ((cs.drop 1).take (Tryz.prog.cellsOf 3))=xs[1]? :=hf 1 _ rfl
 rw[show Tryz.prog.cellsOf 3=1 by kernel_rfl,List.getElem?_eq_getElem (by rw[hxl];decide)] at g1
 obtain ⟨d1,h1,q1⟩:=(ZK Tryz.underlying3) H enc spare held n _ _ g1;have g2:DataW.trod enc Tryz.prog W 0 spare held n 3 ((cs.drop 2).take (Tryz.prog.cellsOf 3))=xs[2]? :=hf 2 _ rfl
 rw[show Tryz.prog.cellsOf 3=1 by kernel_rfl,List.getElem?_eq_getElem (by rw[hxl];decide)] at g2
 obtain ⟨d2,h2,q2⟩:=(ZK Tryz.underlying3) H enc spare held n _ _ g2;have g3:DataW.trod enc Tryz.prog W 0 spare held n 3 ((cs.drop 3).take (Tryz.prog.cellsOf 3))=xs[3]? :=hf 3 _ rfl
 rw[show Tryz.prog.cellsOf 3=1 by kernel_rfl,List.getElem?_eq_getElem (by rw[hxl];decide)] at g3
 obtain ⟨d3,h3,q3⟩:=(ZK Tryz.underlying3) H enc spare held n _ _ g3;have g4:DataW.trod enc Tryz.prog W 0 spare held n 36 ((cs.drop 4).take (Tryz.prog.cellsOf 36))=xs[4]? :=hf 4 _ rfl
 rw[show Tryz.prog.cellsOf 36=2 by kernel_rfl,List.getElem?_eq_getElem (by rw[hxl];decide)] at g4
 obtain ⟨d4,h4,q4⟩:=Qe7 H enc spare held n _ _ g4;have g5:DataW.trod enc Tryz.prog W 0 spare held n 3 ((cs.drop 6).take (Tryz.prog.cellsOf 3))=xs[5]? :=hf 5 _ rfl
 rw[show Tryz.prog.cellsOf 3=1 by kernel_rfl,List.getElem?_eq_getElem (by rw[hxl];decide)] at g5
 obtain ⟨d5,h5,q5⟩:=(ZK Tryz.underlying3) H enc spare held n _ _ g5;have e0:cs.drop 0=(cs.drop 0).take 1++cs.drop 1:=Zw rfl;have e1:cs.drop 1=(cs.drop 1).take 1++cs.drop 2:=Zw rfl;have e2:cs.drop 2=(cs.drop 2).take 1++cs.drop 3:=Zw rfl;have e3:cs.drop 3=(cs.drop 3).take 1++cs.drop 4:=Zw rfl;have e4:cs.drop 4=(cs.drop 4).take 2++cs.drop 6:=Zw rfl;have e5:cs.drop 6=(cs.drop 6).take 1++cs.drop 7:=Zw rfl;have en:cs.drop 7=[]:=List.drop_of_length_le (by omega);have hcs:cs.drop 0=_:=e0
 rw[e1,e2,e3,e4,e5,en,show (cs.drop 0).take 1=_ from h0,show (cs.drop 1).take 1=_ from h1,show (cs.drop 2).take 1=_ from h2,show (cs.drop 3).take 1=_ from h3,show (cs.drop 4).take 2=_ from h4,show (cs.drop 6).take 1=_ from h5] at hcs
 exact ⟨⟨d0,d1,d2,d3,d4,d5⟩,hcs,q0,q1,q2,q3,q4,q5⟩
theorem Qh2 {W:World}:Opn Tryz.prog W 28 QjE Qfn:=by
 intro H enc spare held fuel cs x h;obtain ⟨xs,n,_,_,hlen,hxl,hf⟩:=DataW.trod_struct Tryz.underlying28 h
 rw[show Tryz.prog.cellsOf 28=6 by kernel_rfl] at hlen
 have g0:DataW.trod enc Tryz.prog W 0 spare held n 24 ((cs.drop 0).take (Tryz.prog.cellsOf 24))=xs[0]? :=hf 0 _ rfl
 rw[show Tryz.prog.cellsOf 24=2 by kernel_rfl,List.getElem?_eq_getElem (by rw[hxl];decide)] at g0
 obtain ⟨d0,h0,q0⟩:=QkR H enc spare held n _ _ g0;have g1:DataW.trod enc Tryz.prog W 0 spare held n 25 ((cs.drop 2).take (Tryz.prog.cellsOf 25))=xs[1]? :=hf 1 _ rfl
 rw[show Tryz.prog.cellsOf 25=1 by kernel_rfl,List.getElem?_eq_getElem (by rw[hxl];decide)] at g1
 obtain ⟨d1,h1,q1⟩:=(QcH Tryz.underlying25 (by kernel_rfl) Qh3) H enc spare held n _ _ g1;have g2:DataW.trod enc Tryz.prog W 0 spare held n 26 ((cs.drop 3).take (Tryz.prog.cellsOf 26))=xs[2]? :=hf 2 _ rfl
 rw[show Tryz.prog.cellsOf 26=1 by kernel_rfl,List.getElem?_eq_getElem (by rw[hxl];decide)] at g2
 obtain ⟨d2,h2,q2⟩:=(QcH Tryz.underlying26 (by kernel_rfl) Qi3) H enc spare held n _ _ g2;have g3:DataW.trod enc Tryz.prog W 0 spare held n 3 ((cs.drop 4).take (Tryz.prog.cellsOf 3))=xs[3]? :=hf 3 _ rfl
 rw[show Tryz.prog.cellsOf 3=1 by kernel_rfl,List.getElem?_eq_getElem (by rw[hxl];decide)] at g3
 obtain ⟨d3,h3,q3⟩:=(ZK Tryz.underlying3) H enc spare held n _ _ g3;have g4:DataW.trod enc Tryz.prog W 0 spare held n 3 ((cs.drop 5).take (Tryz.prog.cellsOf 3))=xs[4]? :=hf 4 _ rfl
 rw[show Tryz.prog.cellsOf 3=1 by kernel_rfl,List.getElem?_eq_getElem (by rw[hxl];decide)] at g4
 obtain ⟨d4,h4,q4⟩:=(ZK Tryz.underlying3) H enc spare held n _ _ g4;have e0:cs.drop 0=(cs.drop 0).take 2++cs.drop 2:=Zw rfl;have e1:cs.drop 2=(cs.drop 2).take 1++cs.drop 3:=Zw rfl;have e2:cs.drop 3=(cs.drop 3).take 1++cs.drop 4:=Zw rfl;have e3:cs.drop 4=(cs.drop 4).take 1++cs.drop 5:=Zw rfl;have e4:cs.drop 5=(cs.drop 5).take 1++cs.drop 6:=Zw rfl;have en:cs.drop 6=[]:=List.drop_of_length_le (by omega);obtain ⟨A0,c0,h0,hl0,ha0⟩:=h0;obtain ⟨A1,c1,h1,hl1,hm1,ha1⟩:=h1;obtain ⟨A2,c2,h2,hl2,hm2,ha2⟩:=h2;have hcs:cs.drop 0=_:=e0
 rw[e1,e2,e3,e4,en,show (cs.drop 0).take 2=_ from h0,show (cs.drop 2).take 1=_ from h1,show (cs.drop 3).take 1=_ from h2,show (cs.drop 4).take 1=_ from h3,show (cs.drop 5).take 1=_ from h4] at hcs
 exact ⟨⟨d0,d1,d2,d3,d4⟩,⟨A0,c0,A1,c1,A2,c2,hcs,hl0,ha0,⟨hl1,hm1⟩,ha1,⟨hl2,hm2⟩,ha2⟩,q0,q1,q2,q3,q4⟩
theorem QgT {W:World}:Opn Tryz.prog W 55 Yq Qd2:=by
 intro H enc spare held fuel cs x h;obtain ⟨xs,n,_,_,hlen,hxl,hf⟩:=DataW.trod_struct Tryz.underlying55 h
 rw[show Tryz.prog.cellsOf 55=5 by kernel_rfl] at hlen
 have g0:DataW.trod enc Tryz.prog W 0 spare held n 9 ((cs.drop 0).take (Tryz.prog.cellsOf 9))=xs[0]? :=hf 0 _ rfl
 rw[show Tryz.prog.cellsOf 9=1 by kernel_rfl,List.getElem?_eq_getElem (by rw[hxl];decide)] at g0
 obtain ⟨d0,h0,q0⟩:=(QnC Tryz.underlying9) H enc spare held n _ _ g0;have g1:DataW.trod enc Tryz.prog W 0 spare held n 3 ((cs.drop 1).take (Tryz.prog.cellsOf 3))=xs[1]? :=hf 1 _ rfl
 rw[show Tryz.prog.cellsOf 3=1 by kernel_rfl,List.getElem?_eq_getElem (by rw[hxl];decide)] at g1
 obtain ⟨d1,h1,q1⟩:=(ZK Tryz.underlying3) H enc spare held n _ _ g1;have g2:DataW.trod enc Tryz.prog W 0 spare held n 3 ((cs.drop 2).take (Tryz.prog.cellsOf 3))=xs[2]? :=hf 2 _ rfl
 rw[show Tryz.prog.cellsOf 3=1 by kernel_rfl,List.getElem?_eq_getElem (by rw[hxl];decide)] at g2
 obtain ⟨d2,h2,q2⟩:=(ZK Tryz.underlying3) H enc spare held n _ _ g2;have g3:DataW.trod enc Tryz.prog W 0 spare held n 3 ((cs.drop 3).take (Tryz.prog.cellsOf 3))=xs[3]? :=hf 3 _ rfl
 rw[show Tryz.prog.cellsOf 3=1 by kernel_rfl,List.getElem?_eq_getElem (by rw[hxl];decide)] at g3
 obtain ⟨d3,h3,q3⟩:=(ZK Tryz.underlying3) H enc spare held n _ _ g3;have g4:DataW.trod enc Tryz.prog W 0 spare held n 3 ((cs.drop 4).take (Tryz.prog.cellsOf 3))=xs[4]? :=hf 4 _ rfl
 rw[show Tryz.prog.cellsOf 3=1 by kernel_rfl,List.getElem?_eq_getElem (by rw[hxl];decide)] at g4
 obtain ⟨d4,h4,q4⟩:=(ZK Tryz.underlying3) H enc spare held n _ _ g4;have e0:cs.drop 0=(cs.drop 0).take 1++cs.drop 1:=Zw rfl;have e1:cs.drop 1=(cs.drop 1).take 1++cs.drop 2:=Zw rfl;have e2:cs.drop 2=(cs.drop 2).take 1++cs.drop 3:=Zw rfl;have e3:cs.drop 3=(cs.drop 3).take 1++cs.drop 4:=Zw rfl;have e4:cs.drop 4=(cs.drop 4).take 1++cs.drop 5:=Zw rfl;have en:cs.drop 5=[]:=List.drop_of_length_le (by omega);have hcs:cs.drop 0=_:=e0
 rw[e1,e2,e3,e4,en,show (cs.drop 0).take 1=_ from h0,show (cs.drop 1).take 1=_ from h1,show (cs.drop 2).take 1=_ from h2,show (cs.drop 3).take 1=_ from h3,show (cs.drop 4).take 1=_ from h4] at hcs
 exact ⟨⟨d0,d1,d2,d3,d4⟩,hcs,q0,q1,q2,q3,q4⟩
theorem QkQ {W:World}:Opn Tryz.prog W 151 QaK QhS:=by
 intro H enc spare held fuel cs x h;obtain ⟨xs,n,_,_,hlen,hxl,hf⟩:=DataW.trod_struct Tryz.underlying151 h
 rw[show Tryz.prog.cellsOf 151=2 by kernel_rfl] at hlen
 have g0:DataW.trod enc Tryz.prog W 0 spare held n 3 ((cs.drop 0).take (Tryz.prog.cellsOf 3))=xs[0]? :=hf 0 _ rfl
 rw[show Tryz.prog.cellsOf 3=1 by kernel_rfl,List.getElem?_eq_getElem (by rw[hxl];decide)] at g0
 obtain ⟨d0,h0,q0⟩:=(ZK Tryz.underlying3) H enc spare held n _ _ g0;have g1:DataW.trod enc Tryz.prog W 0 spare held n 3 ((cs.drop 1).take (Tryz.prog.cellsOf 3))=xs[1]? :=hf 1 _ rfl
 rw[show Tryz.prog.cellsOf 3=1 by kernel_rfl,List.getElem?_eq_getElem (by rw[hxl];decide)] at g1
 obtain ⟨d1,h1,q1⟩:=(ZK Tryz.underlying3) H enc spare held n _ _ g1;have e0:cs.drop 0=(cs.drop 0).take 1++cs.drop 1:=Zw rfl;have e1:cs.drop 1=(cs.drop 1).take 1++cs.drop 2:=Zw rfl;have en:cs.drop 2=[]:=List.drop_of_length_le (by omega);have hcs:cs.drop 0=_:=e0
 rw[e1,en,show (cs.drop 0).take 1=_ from h0,show (cs.drop 1).take 1=_ from h1] at hcs
 exact ⟨⟨d0,d1⟩,hcs,q0,q1⟩
theorem Qhp {W:World}:Opn Tryz.prog W 58 Yr QeA:=by
 intro H enc spare held fuel cs x h;obtain ⟨xs,n,_,_,hlen,hxl,hf⟩:=DataW.trod_struct Tryz.underlying58 h
 rw[show Tryz.prog.cellsOf 58=4 by kernel_rfl] at hlen
 have g0:DataW.trod enc Tryz.prog W 0 spare held n 3 ((cs.drop 0).take (Tryz.prog.cellsOf 3))=xs[0]? :=hf 0 _ rfl
 rw[show Tryz.prog.cellsOf 3=1 by kernel_rfl,List.getElem?_eq_getElem (by rw[hxl];decide)] at g0
 obtain ⟨d0,h0,q0⟩:=(ZK Tryz.underlying3) H enc spare held n _ _ g0;have g1:DataW.trod enc Tryz.prog W 0 spare held n 3 ((cs.drop 1).take (Tryz.prog.cellsOf 3))=xs[1]? :=hf 1 _ rfl
 rw[show Tryz.prog.cellsOf 3=1 by kernel_rfl,List.getElem?_eq_getElem (by rw[hxl];decide)] at g1
 obtain ⟨d1,h1,q1⟩:=(ZK Tryz.underlying3) H enc spare held n _ _ g1;have g2:DataW.trod enc Tryz.prog W 0 spare held n 3 ((cs.drop 2).take (Tryz.prog.cellsOf 3))=xs[2]? :=hf 2 _ rfl
 rw[show Tryz.prog.cellsOf 3=1 by kernel_rfl,List.getElem?_eq_getElem (by rw[hxl];decide)] at g2
 obtain ⟨d2,h2,q2⟩:=(ZK Tryz.underlying3) H enc spare held n _ _ g2;have g3:DataW.trod enc Tryz.prog W 0 spare held n 56 ((cs.drop 3).take (Tryz.prog.cellsOf 56))=xs[3]? :=hf 3 _ rfl
 rw[show Tryz.prog.cellsOf 56=1 by kernel_rfl,List.getElem?_eq_getElem (by rw[hxl];decide)] at g3
 obtain ⟨d3,h3,q3⟩:=(QcH Tryz.underlying56 (by kernel_rfl) QkQ) H enc spare held n _ _ g3;have e0:cs.drop 0=(cs.drop 0).take 1++cs.drop 1:=Zw rfl;have e1:cs.drop 1=(cs.drop 1).take 1++cs.drop 2:=Zw rfl;have e2:cs.drop 2=(cs.drop 2).take 1++cs.drop 3:=Zw rfl;have e3:cs.drop 3=(cs.drop 3).take 1++cs.drop 4:=Zw rfl;have en:cs.drop 4=[]:=List.drop_of_length_le (by omega);obtain ⟨A0,c0,h3,hl0,hm0,ha0⟩:=h3;have hcs:cs.drop 0=_:=e0
 rw[e1,e2,e3,en,show (cs.drop 0).take 1=_ from h0,show (cs.drop 1).take 1=_ from h1,show (cs.drop 2).take 1=_ from h2,show (cs.drop 3).take 1=_ from h3] at hcs
 exact ⟨⟨d0,d1,d2,d3⟩,⟨A0,c0,hcs,⟨hl0,hm0⟩,ha0⟩,q0,q1,q2,q3⟩
set_option maxRecDepth 100000 in
theorem Qfj (os:Os) (started:os.Started) (H:Type) (enc:TypeId×Value→H) :
  ReturnsInHanded {} Tryz.checked os 3 .any (Rows.topPlanServesSpec.pre6 enc Tryz.prog Tryz.f3 Rows.topPlanServesRow.domain false) (Rows.topPlanServesSpec.post enc Tryz.prog Tryz.f3 false true false false):=by
 refine returnsInHanded_of_change (C:=Tryz.checked) Qsd started (by kernel_rfl) Tryz.func3
  (ChangeSpec.witness6 (enc:=enc) (C:=Tryz.checked) false ⟨#[], #[((Go.Value.agg #[(Go.Value.int Go.IntKind.i64 0),(Go.Value.slice none 0 0),(Go.Value.slice none 0 0),(Go.Value.slice none 0 0),(Go.Value.int Go.IntKind.i64 0),(Go.Value.int Go.IntKind.i64 0)])),(.slice none 0 0),(.slice none 0 0),(.int .i64 0)],[]⟩ 8 (by kernel_rfl) (by kernel_rfl) (by kernel_rfl) (by kernel_rfl)) ?_
 intro W base args ds gs before hval0 hW hcnd _;have hval: ∀(j:Nat) t v,Tryz.f3.params[j]? =some t→args[j]? =some v→Value.okWide Tryz.prog W .any base t v:=hval0;have hW':=hW;obtain ⟨p,q,hA0,hV,rfl,hfz,hnd⟩:=hW;have hA:DataW.TrodAll enc Tryz.prog W 0 (fun _=>true) true Tryz.f3.params.toList args.toList ds p:=hA0
 rw[Tryz.params3] at hA hval
 obtain ⟨rfl,rfl⟩:=trodVars_none hV
 clear hA0 hval0
 obtain ⟨v0,v1,v2,v3,d0,d1,d2,d3,p0,p1,p2,p3,rfl,rfl,rfl,a0,a1,a2,a3⟩:=trodAll_four hA;obtain ⟨cs0,rfl,_⟩:=okWide_struct Tryz.underlying28 (hval 0 28 v0 rfl rfl);obtain ⟨fu0,ht0⟩:=a0;obtain ⟨x0,hr0,q0⟩:=Qh2 (W:=W) H enc _ _ fu0 _ _ ht0;obtain ⟨A0_0,c0_0,A0_1,c0_1,A0_2,c0_2,hcs0,hl0_0,ha0_0,hl0_1,ha0_1,hl0_2,ha0_2⟩:=hr0;obtain rfl:=Qox hcs0;obtain ⟨A1,n1,c1,rfl⟩:=okWide_slice Tryz.underlying29 (hval 1 29 v1 rfl rfl);obtain ⟨fu1,ht1⟩:=a1;obtain ⟨x1,⟨B1,b1,hcs1,hl1,hm1,ha1⟩,q1⟩:=(QcH (W:=W) Tryz.underlying29 (by kernel_rfl) QgT) H enc _ _ fu1 _ _ ht1;have e1:Value.slice A1 n1 c1= .slice B1 x1.length b1:=by simpa [Value.cells] using hcs1
 injection e1 with e1a e1b e1c
 subst e1a e1b e1c;obtain ⟨A2,n2,c2,rfl⟩:=okWide_slice Tryz.underlying30 (hval 2 30 v2 rfl rfl);obtain ⟨fu2,ht2⟩:=a2;obtain ⟨x2,⟨B2,b2,hcs2,hl2,hm2,ha2⟩,q2⟩:=(QcH (W:=W) Tryz.underlying30 (by kernel_rfl) Qhp) H enc _ _ fu2 _ _ ht2;have e2:Value.slice A2 n2 c2= .slice B2 x2.length b2:=by simpa [Value.cells] using hcs2
 injection e2 with e2a e2b e2c
 subst e2a e2b e2c;obtain ⟨x3,rfl,_,_,q3⟩:=open_int (P:=Tryz.prog) Tryz.underlying3 (hval 3 3 v3 rfl rfl) a3;obtain ⟨F,hF⟩:=QbM x0 x1 x2 x3 q0 q1 q2 q3;refine (Qll (v:= .bool true) Tryz.func3 rfl (args:=[_,_,_,_]) (Qce hl0_0 ha0_0 hl0_1 ha0_1 hl0_2 ha0_2 ⟨hl1,hm1⟩ ha1 ⟨hl2,hm2⟩ ha2 hF (fun _ _=>rfl))).mono fun e W' ⟨he,hw⟩=> ?_;exact ⟨_,he,Qom (tb:=4) hW' rfl rfl Tryz.underlying4 rfl rfl rfl Qo8 (by decide +kernel) hw⟩
theorem topPlanServes_holds:Rows.TopPlanServesSaid :=
 OpenClaim.holds_of_wide 3 Tryz.f3 rfl rfl rfl rfl rfl rfl rfl ⟨rfl,rfl,rfl,rfl,rfl⟩ rfl rfl rfl rfl rfl (by kernel_rfl) Tryz.func3 (by kernel_rfl)
  (of_decide_eq_true (by kernel_rfl)) (by unfold Func.isWrapper;first | (rw[if_pos (by decide +kernel)];kernel_rfl) | (rw[if_neg (by decide +kernel)];exact ⟨rfl,rfl⟩))
  (fun os started H enc _=>Qfj os started H enc)
end Go.Proofs.YtoojkdejnbnniaaGreat
