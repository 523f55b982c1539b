/- DispatchWhys: for every input the given law returns true, and its arguments read as before. No condition. -/
import Derived.Test.YthpgjbbjpfiniaaGreatc3x12
import Derived.Test.YthpgjbbjpfiniaaGreatc3x11
import Derived.Test.YthpgjbbjpfiniaaGreatc3x2
namespace Go.Proofs.YthpgjbbjpfiniaaGreat
open Go.RowKit
set_option linter.unusedSimpArgs false
set_option linter.unusedVariables false
theorem Qnf {p:Pr} (hp:OkP p) {a:Int} (ha:0≤a∧a<p.Road.Nodes):Zp p a a=⟨0,0⟩:=by
 obtain ⟨h1,_⟩:=QeM hp ha;have h2:=h1.best 0 a ⟨0,0⟩ .nil;have h3:=J1 hp ha ha;unfold Zp at h3 ⊢
 generalize lab (Qeg p a) a=l at *
 have h4:=h2.2;unfold Lg.le at h4;cases l
 simp only at h2 h3 h4 ⊢
 congr 1<;>omega
theorem Qko {p:Pr} (hp:OkP p) (v:Int):(YF p ⟨v,[]⟩).1=0:=by
 unfold YF;cases h:WU p ⟨v,[]⟩ with
 | inr q=>rfl
 | inl u =>
  obtain ⟨z,y,hf,_,e2⟩:=Qf7 h;have hv:=hp.ve u.2.2 (by
   have:=hf.hv;unfold getI at this
   rw[if_pos hf.t0] at this
   exact List.mem_of_getElem? this)
  have h1:z=(x0 u.2.2,[]):=by
   have:=hf.fol;injection this with this
   exact this.symm
  have h6:y.Node=u.2.2.Depot:=by
   have hom:=hf.hom;unfold QaN at hom
   repeat' split at hom
   all_goals first | (cases hom;done) | (injection hom with hom;subst hom;rfl)
  simp only[e2,h1,List.nil_append,QaS,h6,Qnf hp ⟨hv.d0,hv.d1⟩]
  rfl
def VM (h:Op→Option Op):List Op→Nat→Option (Nat×Op×Int)→Option (Nat×Op×Int)
 | [],_,s=>s
 | x::r,k,s=>VM h r (k+1) (match h x with
  | none=>s
  | some y=>match s with
   | none=>some (k,y,w64 (y.cost-x.cost))
   | some z=>if w64 (y.cost-x.cost)<z.2.2 then some (k,y,w64 (y.cost-x.cost)) else s)
def QhH (s:Option (Nat×Op×Int)):Int×List Int×Int×Int:=match s with
 | none=>(0,[],0,-1)
 | some z=>(z.2.1.tour.Vehicle,z.2.1.tour.Stops,z.2.1.cost,((z.1:Nat):Int))
def Qfh (s:Option (Nat×Op×Int)):Int×Int×Int×List Int:=match s with
 | none=>(-1,0,0,[])
 | some z=>(((z.1:Nat):Int),z.2.2,z.2.1.tour.Vehicle,z.2.1.tour.Stops)
def V0 (F:Nat) (p:Pr) (d:Int) (x:Op):Option Op:=match QT F p x.tour d with
 | some (y::_,_)=>some y
 | _=>none
def QpL (F:Nat) (p:Pr) (d:Int) (T:List Op):Prop:= ∀x∈T,x.cost=(YF p x.tour).1∧ ∃L e,QT F p x.tour d=some (L,e)∧Yr F p x.tour d=some (L.map Jr,e)∧((e≠0∧L=[])∨(e=0∧OkO p x.tour d L))
theorem Qes {F:Nat} {p:Pr} {T:List Op} {d:Int} (hT:T.length≤1000) (ha:QpL F p d T): ∀(rest:List Op) (k:Nat) (s:Option (Nat×Op×Int)) (f:Nat),T.drop k=rest→k≤T.length→rest.length<f→(∀z,s=some z→ ∃x,T[z.1]? =some x∧z.2.2=w64 (z.2.1.cost-x.cost)) →
  iter (Z5 F p T d) f ((QhH s).1,(QhH s).2.1,(QhH s).2.2.1,(QhH s).2.2.2,(k:Int))=some (QhH (VM (V0 F p d) rest k s))
 | [],k,s,0,_,_,h,_=>by simp at h
 | _::_,k,s,0,_,_,h,_=>by simp at h
 | [],k,s,f+1,hd,hk,_,_=>by
  have:k=T.length:=by have:=congrArg List.length hd;simp at this;omega
  have h1: ¬((k:Int)<((T.length:Nat):Int)):=by omega
  simp only[iter,Z5,oun,h1,decide_false,cond_false,Option.bind_some,QI,VM]
 | x::rest,k,s,f+1,hd,hk,hf,hs=>by
  have hx:T[k]? =some x:=by
   have:=congrArg List.head? hd
   rwa [List.head?_drop] at this
  have hlt:=Qt hx;have h1:((k:Int)<((T.length:Nat):Int)):=by omega
  have hd2:T.drop (k+1)=rest:=by rw[←List.drop_drop,hd];rfl
  have e1:w64 ((k:Int)+1)=((k+1:Nat):Int):=by rw[Yg (by omega) (by omega)];omega
  obtain ⟨_,L,e,ho,_⟩:=ha x (List.mem_of_getElem? hx);have hh:V0 F p d x=L.head? :=by unfold V0;rw[ho];cases L<;>rfl
  rw[VM,hh]
  cases L with
  | nil =>
   have ih:=Qes hT ha rest (k+1) s f hd2 (by omega) (by simp at hf;omega) hs
   simp only[iter,Z5,oun,h1,decide_true,cond_true,Qs,hx,Option.bind_some,ho,List.length_nil,e1,QI,List.head?_nil]
   exact ih
  | cons y M =>
   have hl:(0:Int)<(((y::M).length:Nat):Int):=by simp only[List.length_cons];omega
   have g0:getI (y::M) 0=some y:=rfl;cases s with
   | none =>
    have ih:=Qes hT ha rest (k+1) (some (k,y,w64 (y.cost-x.cost))) f hd2 (by omega) (by simp at hf;omega) (fun z hz=>by injection hz with hz;subst hz;exact ⟨x,hx,rfl⟩)
    simp only[iter,Z5,oun,h1,decide_true,cond_true,Qs,hx,Option.bind_some,ho,hl,QhH,g0,show decide ((-1:Int)<0)=true from rfl,e1,QI,List.head?_cons]
    exact ih
   | some z =>
    obtain ⟨u,hu,hz⟩:=hs z rfl;have hz0: ¬(((z.1:Nat):Int)<0):=by omega
    by_cases hc:w64 (y.cost-x.cost)<z.2.2
    ·have ih:=Qes hT ha rest (k+1) (some (k,y,w64 (y.cost-x.cost))) f hd2 (by omega) (by simp at hf;omega) (fun z hz=>by injection hz with hz;subst hz;exact ⟨x,hx,rfl⟩);have hc2:=hc
     rw[hz] at hc2
     simp only[iter,Z5,oun,h1,decide_true,cond_true,Qs,hx,Option.bind_some,ho,hl,QhH,g0,hz0,decide_false,cond_false,hu,hc2,e1,QI,List.head?_cons]
     rw[if_pos hc]
     exact ih
    ·have ih:=Qes hT ha rest (k+1) (some z) f hd2 (by omega) (by simp at hf;omega) hs;have hc2:=hc
     rw[hz] at hc2
     simp only[iter,Z5,oun,h1,decide_true,cond_true,Qs,hx,Option.bind_some,ho,hl,QhH,g0,hz0,decide_false,cond_false,hu,hc2,e1,QI,List.head?_cons]
     rw[if_neg hc]
     exact ih
end Go.Proofs.YthpgjbbjpfiniaaGreat
namespace Go.Proofs.YthpgjbbjpfiniaaGreat
open Go.RowKit
set_option linter.unusedSimpArgs false
set_option linter.unusedVariables false
theorem Qm8 (l:List Int):(QiI l).getLast? =some (-1):=by
 unfold QiI;split
 ·assumption
 ·simp
theorem QlB (l:List Int) {e:Int} (he:0≤e):(QiI l).count e=l.count e:=by
 unfold QiI;split
 ·rfl
 ·rw[List.count_append,List.count_singleton,if_neg (by simp;omega)];rfl
theorem QgF (s:List Int) (d:Int) (i:Nat):(Jt s d i).getLast? =some (-1):=Qm8 _
theorem QbV (s:List Int) (d:Int) (i:Nat) {e:Int} (he:0≤e):(Jt s d i).count e=s.count e+if e=d then 1 else 0:=by
 unfold Jt Qhy
 rw[QlB _ he,List.count_append,List.count_append,List.count_cons]
 have h1:(bif decide (i%2=1) then [(-1:Int)] else []).count e=0:=by
  cases decide (i%2=1)
  ·rfl
  ·rw[cond_true,List.count_singleton,if_neg (by simp;omega)]
 have h2:s.count e=(s.take (i/2)).count e+(s.drop (i/2)).count e:=by rw[←List.count_append,List.take_append_drop]
 rw[h1,h2]
 by_cases h:e=d
 ·subst h;simp;omega
 ·have: ¬(d==e)=true:=by simp;exact fun h'=>h h'.symm
  simp[h,this]
theorem Qls (s:List Int) {d:Int} (hd:0≤d) (i:Nat):2≤(Jt s d i).length:=by
 have h1:=QgF s d i;have h2:=QbV s d i hd
 rw[if_pos rfl] at h2
 generalize Jt s d i=l at *
 match l,h1,h2 with
 | [],_,h2=>simp at h2
 | [a],h1,h2 =>
  simp at h1;subst h1
  rw[List.count_singleton,if_neg (by simp;omega)] at h2
  omega
 | _::_::_,_,_=>simp
structure IsO (p:Pr) (t:Qa) (d:Int) (y:Op):Prop where
 cand: ∃i,i<2*t.Stops.length+1∧y.tour=⟨t.Vehicle,Jt t.Stops d i⟩
 ok:(YF p y.tour).2=0
 cost:y.cost=(YF p y.tour).1
theorem OkO.isO {p:Pr} {t:Qa} {d:Int} {L:List Op} (h:OkO p t d L) {y:Op} (hy:y∈L):IsO p t d y:=by
 obtain ⟨h1,h2,h3⟩:=QhK (h.stab.perm.symm.subset hy);obtain ⟨s,g1,g2⟩:=List.mem_map.1 h1;obtain ⟨i,g3,g4⟩:=List.mem_map.1 g1;exact ⟨⟨i,List.mem_range.1 g3,by rw[←g2,←g4];rfl⟩,h2,h3⟩
def hdT:List Op→Qa
 | []=>⟨0,[]⟩
 | y::_=>y.tour
theorem Qjs {F:Nat} {p:Pr} {t:Qa} {d e:Int} {L:List Op} (h:Yr F p t d=some (L.map Jr,e)) (he:(e≠0∧L=[])∨(e=0∧OkO p t d L)) :
  ∃e',Zo F p t d=some (hdT L,e')∧(e'=0↔L≠[])∧(e≠0→e'=e)∧(e=0→L=[]→e'=40):=by
 unfold Zo
 rw[h]
 simp only[Option.bind_some,oun]
 rcases he with ⟨h1,rfl⟩ | ⟨rfl,h2⟩
 ·rw[show decide (e=0)=false by simpa using h1]
  exact ⟨e,rfl,by simpa using h1,fun _=>rfl,fun h=>absurd h h1⟩
 ·cases L with
  | nil=>exact ⟨40,rfl,by decide,fun h=>absurd rfl h,fun _ _=>rfl⟩
  | cons y M =>
   have: ¬(((((y::M).map Jr).length:Nat):Int)=0):=by simp;omega
   simp only[decide_true,Bool.not_true,cond_false,this,decide_false,List.map_cons]
   exact ⟨0,rfl,by simp,fun h=>absurd rfl h,fun _ h=>by cases h⟩
theorem Qet {F:Nat} {p:Pr} {T:List Op} {d:Int} (hp:OkP p) (hc:Qo p=some 0) (hT:T.length≤1000) (ha:QpL F p d T): ∀(rest:List Op) (k:Nat) (s:Option (Nat×Op×Int)) (f:Nat),T.drop k=rest→k≤T.length→rest.length<f →
  iter (Yz F p (T.map Jr) d) f ((Qfh s).1,(Qfh s).2.1,(Qfh s).2.2.1,(Qfh s).2.2.2,(k:Int))=some ((Qfh (VM (V0 F p d) rest k s)).1,(Qfh (VM (V0 F p d) rest k s)).2.2.1,(Qfh (VM (V0 F p d) rest k s)).2.2.2)
 | [],k,s,0,_,_,h=>by simp at h
 | _::_,k,s,0,_,_,h=>by simp at h
 | [],k,s,f+1,hd,hk,_=>by
  have:k=T.length:=by have:=congrArg List.length hd;simp at this;omega
  have h1: ¬((k:Int)<(((T.map Jr).length:Nat):Int)):=by simp;omega
  simp only[iter,Yz,oun,h1,decide_false,cond_false,Option.bind_some,QI,VM]
 | x::rest,k,s,f+1,hd,hk,hf=>by
  have hx:T[k]? =some x:=by
   have:=congrArg List.head? hd
   rwa [List.head?_drop] at this
  have hlt:=Qt hx;have h1:((k:Int)<(((T.map Jr).length:Nat):Int)):=by simp;omega
  have hd2:T.drop (k+1)=rest:=by rw[←List.drop_drop,hd];rfl
  have e1:w64 ((k:Int)+1)=((k+1:Nat):Int):=by rw[Yg (by omega) (by omega)];omega
  have hx2:(T.map Jr)[k]? =some x.tour:=by rw[List.getElem?_map,hx];rfl
  obtain ⟨hcx,L,e,ho,hr,hL⟩:=ha x (List.mem_of_getElem? hx);have hh:V0 F p d x=L.head? :=by unfold V0;rw[ho];cases L<;>rfl
  obtain ⟨e',hb,he',_⟩:=Qjs hr hL
  rw[VM,hh]
  cases L with
  | nil =>
   have ih:=Qet hp hc hT ha rest (k+1) s f hd2 (by omega) (by simp at hf;omega);have: ¬e'=0:=by simpa using he'
   simp only[iter,Yz,oun,h1,decide_true,cond_true,Qs,hx2,Option.bind_some,hb,hdT,this,decide_false,Bool.not_false,e1,QI,List.head?_nil]
   exact ih
  | cons y M =>
   have:e'=0:=by simpa using he'
   subst this;have hy:y.cost=(YF p y.tour).1:=by
    rcases hL with ⟨_,h⟩ | ⟨_,h⟩
    ·cases h
    ·exact (h.isO (y:=y) (by simp)).cost
   have c1:Yp p ⟨y.tour.Vehicle,y.tour.Stops⟩=some (YF p y.tour):=Qey hp hc _;have c2:Yp p x.tour=some (YF p x.tour):=Qey hp hc _;cases s with
   | none =>
    have ih:=Qet hp hc hT ha rest (k+1) (some (k,y,w64 (y.cost-x.cost))) f hd2 (by omega) (by simp at hf;omega)
    simp only[iter,Yz,oun,h1,decide_true,cond_true,Qs,hx2,Option.bind_some,hb,hdT,decide_true,Bool.not_true,cond_false,c1,c2,Qfh,show decide ((-1:Int)<0)=true from rfl,←hy,←hcx,e1,QI,List.head?_cons]
    exact ih
   | some z =>
    have hz0: ¬(((z.1:Nat):Int)<0):=by omega
    by_cases hcc:w64 (y.cost-x.cost)<z.2.2
    ·have ih:=Qet hp hc hT ha rest (k+1) (some (k,y,w64 (y.cost-x.cost))) f hd2 (by omega) (by simp at hf;omega)
     simp only[iter,Yz,oun,h1,decide_true,cond_true,Qs,hx2,Option.bind_some,hb,hdT,decide_true,Bool.not_true,cond_false,c1,c2,Qfh,hz0,decide_false,hcc,←hy,←hcx,e1,QI,List.head?_cons]
     exact ih
    ·have ih:=Qet hp hc hT ha rest (k+1) (some z) f hd2 (by omega) (by simp at hf;omega)
     simp only[iter,Yz,oun,h1,decide_true,cond_true,Qs,hx2,Option.bind_some,hb,hdT,decide_true,Bool.not_true,cond_false,c1,c2,Qfh,hz0,decide_false,hcc,←hy,←hcx,e1,QI,List.head?_cons]
     exact ih
theorem Qid (h:Op→Option Op): ∀(rest:List Op) (k:Nat) (s:Option (Nat×Op×Int)) (z:Nat×Op×Int),VM h rest k s=some z→s=some z∨ ∃i x,rest[i]? =some x∧z.1=k+i∧h x=some z.2.1
 | [],_,_,_,hz=> .inl hz
 | x::r,k,s,z,hz=>by
  rw[VM] at hz
  rcases Qid h r (k+1) _ z hz with h1 | ⟨i,y,g1,g2,g3⟩
  ·cases hx:h x with
   | none=>rw[hx] at h1;exact .inl h1
   | some y =>
    rw[hx] at h1
    have hn: ∀w:Int,some (k,y,w)=some z→ ∃i x',(x::r)[i]? =some x'∧z.1=k+i∧h x'=some z.2.1:=fun w hw=>by
     injection hw with hw;subst hw
     exact ⟨0,x,rfl,rfl,hx⟩
    cases s with
    | none=>exact .inr (hn _ h1)
    | some u =>
     simp only at h1
     split at h1
     ·exact .inr (hn _ h1)
     ·exact .inl h1
  ·exact .inr ⟨i+1,y,by simpa using g1,by omega,g3⟩
theorem Qdz (h:Op→Option Op): ∀(rest:List Op) (k:Nat) (z:Nat×Op×Int),VM h rest k (some z)≠none
 | [],_,_=>by simp[VM]
 | x::r,k,z=>by
  rw[VM]
  cases h x with
  | none=>exact Qdz h r (k+1) z
  | some y =>
   simp only
   split
   ·exact Qdz h r (k+1) _
   ·exact Qdz h r (k+1) _
theorem Qic (h:Op→Option Op): ∀(rest:List Op) (k:Nat),VM h rest k none=none→ ∀x∈rest,h x=none
 | [],_,_=>by simp
 | x::r,k,hn=>by
  rw[VM] at hn
  cases hx:h x with
  | none =>
   rw[hx] at hn
   intro y hy;rcases List.mem_cons.1 hy with rfl | hy
   ·exact hx
   ·exact Qic h r (k+1) hn y hy
  | some y =>
   rw[hx] at hn
   exact absurd hn (Qdz h r (k+1) _)
def QdV (h:Op→Option Op) (d:Int) (s:List Op×List Int):List Op×List Int:=match VM h s.1 0 none with
 | none=>(s.1,s.2++[d])
 | some z=>(s.1.set z.1 z.2.1,s.2)
def We (n:Nat):List Op:=(List.range n).map fun (i:Nat)=>⟨⟨(i:Int),[]⟩,0⟩
def Qcx (F:Nat) (p:Pr):Nat→List Op×List Int
 | 0=>(We p.Vehicles.length,[])
 | k+1=>QdV (V0 F p k) k (Qcx F p k)
structure QqU (p:Pr) (i:Nat) (x:Op):Prop where
 veh:x.tour.Vehicle=(i:Int)
 cost:x.cost=(YF p x.tour).1
 len:x.tour.Stops.length≤40
 full:x.tour.Stops≠[]→(YF p x.tour).2=0∧2≤x.tour.Stops.length∧x.tour.Stops.getLast? =some (-1)
def cnB (T:List Op) (e:Int):Nat:=(T.map fun x=>x.tour.Stops.count e).sum
structure Qle (F:Nat) (p:Pr) (k:Nat) (s:List Op×List Int):Prop where
 len:s.1.length=p.Vehicles.length
 tour: ∀(i:Nat) (x:Op),s.1[i]? =some x→QqU p i x
 once: ∀e:Nat,cnB s.1 (e:Int)+s.2.count (e:Int)=if e<k then 1 else 0
 lo: ∀e∈s.2,0≤e∧e<(k:Int)
 asc:s.2.Pairwise (· < ·)
 ll:s.2.length≤k
 left: ∀e∈s.2,∀(i:Nat) (x:Op),s.1[i]? =some x→x.tour.Stops=[]→V0 F p e x=none
theorem Qmo: ∀(T:List Op) (i:Nat) (x y:Op) (e:Int),T[i]? =some x→cnB (T.set i y) e+x.tour.Stops.count e=cnB T e+y.tour.Stops.count e
 | [],i,_,_,_,h=>by simp at h
 | z::T,0,x,y,e,h=>by
  simp at h;subst h
  simp[cnB];omega
 | z::T,i+1,x,y,e,h=>by
  have:=Qmo T i x y e (by simpa using h)
  simp[cnB] at this ⊢;omega
theorem Ql8 {n i:Nat} {x:Op} (h:(We n)[i]? =some x):x=⟨⟨(i:Int),[]⟩,0⟩:=by
 unfold We at h
 rw[List.getElem?_map] at h
 cases hr:(List.range n)[i]? with
 | none=>rw[hr] at h;cases h
 | some j =>
  rw[hr] at h
  have:=List.getElem?_eq_some_iff.1 hr;obtain ⟨h1,h2⟩:=this
  simp at h2;subst h2
  simp at h
  exact h.symm
theorem Qnw (n:Nat) (e:Int):cnB (We n) e=0:=by
 unfold cnB We
 rw[List.map_map]
 induction n with
 | zero=>rfl
 | succ n ih=>rw[List.range_succ,List.map_append,List.sum_append,ih];rfl
theorem Qnx {F:Nat} {p:Pr} (hp:OkP p):Qle F p 0 (We p.Vehicles.length,[]) where
 len:=by simp[We]
 tour:=fun i x hx=>by
  rw[Ql8 hx]
  exact ⟨rfl,(Qko hp _).symm,by simp,fun h=>absurd rfl h⟩
 once:=fun e=>by simp[Qnw]
 lo:=by simp
 asc:=List.Pairwise.nil
 ll:=by simp
 left:=by simp
theorem Qn7 {F:Nat} {p:Pr} {d:Int} {x y:Op} (h:V0 F p d x=some y) (ha: ∃L e,QT F p x.tour d=some (L,e)∧((e≠0∧L=[])∨(e=0∧OkO p x.tour d L))):IsO p x.tour d y∧y.tour.Stops.length≤40:=by
 obtain ⟨L,e,h1,h2⟩:=ha;unfold V0 at h
 rw[h1] at h
 cases L with
 | nil=>cases h
 | cons z M =>
  injection h with h;subst h
  rcases h2 with ⟨_,h2⟩ | ⟨_,h2⟩
  ·cases h2
  ·exact ⟨h2.isO (by simp),h2.stops _ (by simp)⟩
theorem QqV {F:Nat} (hF:40000≤F) {p:Pr} (hn:p.Road.Edges.length≤600) {k:Nat} {s:List Op×List Int} (h:Qle F p k s) (d:Int):QpL F p d s.1:=fun x hx=>by
 obtain ⟨i,hi⟩:=List.getElem?_of_mem hx;have h1:=h.tour i x hi;obtain ⟨L,e,g1,g2,g3,_⟩:=Qa9 hF p hn x.tour (by have:=h1.len;omega) d;exact ⟨h1.cost,L,e,g1,g2,g3⟩
theorem QoV {F:Nat} (hF:40000≤F) {p:Pr} (hn:p.Road.Edges.length≤600) {k:Nat} {s:List Op×List Int} (h:Qle F p k s):Qle F p (k+1) (QdV (V0 F p k) k s):=by
 have ha:=QqV hF hn h k;unfold QdV;cases hz:VM (V0 F p k) s.1 0 none with
 | none =>
  have hno:=Qic _ _ _ hz;refine ⟨h.len,h.tour,fun e=> ?_,fun e he=> ?_,?_,?_,fun e he i x hi hx=> ?_⟩
  ·have:=h.once e
   show cnB s.1 (e:Int)+(s.2++[(k:Int)]).count (e:Int)=_
   rw[List.count_append,List.count_singleton]
   by_cases hek:e=k
   ·subst hek;simp at this ⊢;omega
   ·have h1: ¬(((k:Int)==(e:Int))=true):=by simp;omega
    rw[if_neg h1]
    by_cases h2:e<k
    ·rw[if_pos (by omega)];rw[if_pos h2] at this;omega
    ·rw[if_neg (by omega)];rw[if_neg h2] at this;omega
  ·rcases List.mem_append.1 he with h1 | h1
   ·have:=h.lo e h1;omega
   ·rw[List.mem_singleton.1 h1];omega
  ·refine List.pairwise_append.2 ⟨h.asc,by simp,fun a ha b hb=> ?_⟩
   rw[List.mem_singleton.1 hb];exact (h.lo a ha).2
  ·have:=h.ll;simp;omega
  ·rcases List.mem_append.1 he with h1 | h1
   ·exact h.left e h1 i x hi hx
   ·rw[List.mem_singleton.1 h1];exact hno x (List.mem_of_getElem? hi)
 | some z =>
  obtain ⟨i,x,hi,hzi,hy⟩: ∃i x,s.1[i]? =some x∧z.1=i∧V0 F p k x=some z.2.1:=by
   rcases Qid _ _ _ _ _ hz with h1 | ⟨i,x,h1,h2,h3⟩
   ·cases h1
   ·exact ⟨i,x,h1,by omega,h3⟩
  obtain ⟨hcx,L,e,g1,_,g3⟩:=ha x (List.mem_of_getElem? hi);obtain ⟨hO,hl⟩:=Qn7 hy ⟨L,e,g1,g3⟩;obtain ⟨j,_,hj⟩:=hO.cand;have hx:=h.tour i x hi;have hcount: ∀e:Nat,z.2.1.tour.Stops.count (e:Int)=x.tour.Stops.count (e:Int)+if e=k then 1 else 0:=fun e=>by
   rw[hj]
   show (Jt x.tour.Stops k j).count (e:Int)=_
   rw[QbV _ _ _ (by omega)]
   by_cases h1:e=k
   ·subst h1;simp
   ·rw[if_neg (by omega),if_neg h1]
  have htwo:2≤z.2.1.tour.Stops.length:=by rw[hj];exact Qls _ (by omega) _
  have hlast:z.2.1.tour.Stops.getLast? =some (-1):=by rw[hj];exact QgF _ _ _
  have hg: ∀(j:Nat) (w:Op),(s.1.set z.1 z.2.1)[j]? =some w→(j=i∧w=z.2.1)∨s.1[j]? =some w:=fun j w hw=>by
   rw[List.getElem?_set,hzi] at hw
   split at hw
   ·rename_i h1
    split at hw
    ·injection hw with hw;exact .inl ⟨h1.symm,hw.symm⟩
    ·cases hw
   ·exact .inr hw
  refine ⟨by show (s.1.set _ _).length=_;rw[List.length_set];exact h.len,fun j w hw=> ?_,fun e=> ?_,fun e he=> ?_,h.asc,by have:=h.ll;show s.2.length≤_;omega,fun e he j w hw hws=> ?_⟩
  ·rcases hg j w hw with ⟨rfl,rfl⟩ | h1
   ·exact ⟨by rw[hj];exact hx.veh,hO.cost,hl,fun _=>⟨hO.ok,htwo,hlast⟩⟩
   ·exact h.tour j w h1
  ·have h1:=Qmo s.1 i x z.2.1 (e:Int) hi;have h2:=h.once e
   rw[hcount e] at h1
   show cnB (s.1.set z.1 z.2.1) (e:Int)+s.2.count (e:Int)=_
   rw[hzi]
   by_cases hek:e=k
   ·subst hek;rw[if_neg (by omega)] at h2;rw[if_pos (by omega)];rw[if_pos rfl] at h1;omega
   ·rw[if_neg hek] at h1
    by_cases h3:e<k
    ·rw[if_pos h3] at h2;rw[if_pos (by omega)];omega
    ·rw[if_neg h3] at h2;rw[if_neg (by omega)];omega
  ·have:=h.lo e he;omega
  ·rcases hg j w hw with ⟨_,rfl⟩ | h1
   ·rw[hws] at htwo;simp at htwo
   ·exact h.left e he j w h1 hws
theorem QeQ {F:Nat} (hF:40000≤F) {p:Pr} (hp:OkP p) (hn:p.Road.Edges.length≤600): ∀k,Qle F p k (Qcx F p k)
 | 0=>Qnx hp
 | k+1=>QoV hF hn (QeQ hF hp hn k)
end Go.Proofs.YthpgjbbjpfiniaaGreat
namespace Go.Proofs.YthpgjbbjpfiniaaGreat
open Go.RowKit
set_option linter.unusedSimpArgs false
set_option linter.unusedVariables false
theorem Qqp (y:Op):Qc.mk (Qa.mk y.tour.Vehicle y.tour.Stops) y.cost=y:=rfl
theorem Qlq {F:Nat} (hF:40000≤F) {p:Pr} (hp:OkP p) (hc:Qo p=some 0) (hn:p.Road.Edges.length≤600) (hv:p.Vehicles.length≤1000) (hd:p.Demands.length≤1000) {k:Nat} (hk:k<p.Demands.length) {s:List Op×List Int} (h:Qle F p k s) :
  Wp F p (s.1,s.2,(k:Int))=some (.inl ((QdV (V0 F p k) k s).1,(QdV (V0 F p k) k s).2,((k+1:Nat):Int))) ∧
  ZB F p (s.1.map Jr,s.2,(k:Int))=some (.inl ((QdV (V0 F p k) k s).1.map Jr,(QdV (V0 F p k) k s).2,((k+1:Nat):Int))):=by
 have ha:=QqV hF hn h k;have hlen:=h.len;have hll:=h.ll;have h1:((k:Int)<((p.Demands.length:Nat):Int)):=by omega
 have e1:w64 ((k:Int)+1)=((k+1:Nat):Int):=by rw[Yg (by omega) (by omega)];omega
 have q1:=Qes (F:=F) (p:=p) (T:=s.1) (d:=k) (by omega) ha s.1 0 none (((s.1.length:Nat):Int).toNat+1) (by simp) (by omega) (by simp) (fun z hz=>by cases hz);have q2:=Qet (F:=F) (p:=p) (T:=s.1) (d:=k) hp hc (by omega) ha s.1 0 none (((s.1.length:Nat):Int).toNat+1) (by simp) (by omega) (by simp);have hml:(s.1.map Jr).length=s.1.length:=by simp
 have q1':iter (Z5 F p s.1 (k:Int)) (((s.1.length:Nat):Int).toNat+1) (0,[],0,-1,0)=some (QhH (VM (V0 F p k) s.1 0 none)):=q1;have q2':iter (Yz F p (s.1.map Jr) (k:Int)) (((s.1.length:Nat):Int).toNat+1) (-1,0,0,[],0)=some ((Qfh (VM (V0 F p k) s.1 0 none)).1,(Qfh (VM (V0 F p k) s.1 0 none)).2.2.1,(Qfh (VM (V0 F p k) s.1 0 none)).2.2.2):=q2;unfold Wp ZB QdV
 simp only[oun,h1,decide_true,cond_true,hml,q1',q2',Option.bind_some]
 cases hz:VM (V0 F p k) s.1 0 none with
 | none =>
  simp only[QhH,Qfh,show decide ((-1:Int)<0)=true from rfl,cond_true,e1,Option.bind_some]
  rw[Yj (by simp;omega)]
  exact ⟨rfl,rfl⟩
 | some z =>
  obtain ⟨i,x,hi,hzi⟩: ∃i x,s.1[i]? =some x∧z.1=i:=by
   rcases Qid _ _ _ _ _ hz with h1 | ⟨i,x,h1,h2,h3⟩
   ·cases h1
   ·exact ⟨i,x,h1,by omega⟩
  have hz0: ¬(((z.1:Nat):Int)<0):=by omega
  have g1:s.1[z.1]? =some x:=by rw[hzi];exact hi
  have g2:(s.1.map Jr)[z.1]? =some x.tour:=by rw[List.getElem?_map,g1];rfl
  simp only[QhH,Qfh,hz0,decide_false,cond_false,Qs,g1,g2,Option.bind_some,e1,Yi,Int.toNat_natCast,Qqp]
  first | exact ⟨rfl,by rw[List.map_set]⟩ | simp[List.map_set]
theorem Qhx {F:Nat} (hF:40000≤F) {p:Pr} (hp:OkP p) (hc:Qo p=some 0) (hn:p.Road.Edges.length≤600) (hv:p.Vehicles.length≤1000) (hd:p.Demands.length≤1000): ∀(r k f:Nat),k+r=p.Demands.length→r<f →
  iter (Wp F p) f ((Qcx F p k).1,(Qcx F p k).2,(k:Int))=some (Qcx F p p.Demands.length) ∧
  iter (ZB F p) f ((Qcx F p k).1.map Jr,(Qcx F p k).2,(k:Int))=some ((Qcx F p p.Demands.length).1.map Jr,(Qcx F p p.Demands.length).2)
 | _,_,0,_,h=>by omega
 | 0,k,f+1,hk,_=>by
  have:k=p.Demands.length:=by omega
  subst this
  simp only[iter,Wp,ZB,oun,Int.lt_irrefl,decide_false,cond_false,Option.bind_some,QI]
  first | exact ⟨rfl,rfl⟩ | exact ⟨trivial,trivial⟩ | simp
 | r+1,k,f+1,hk,hf=>by
  obtain ⟨h1,h2⟩:=Qlq hF hp hc hn hv hd (by omega) (QeQ hF hp hn k);obtain ⟨i1,i2⟩:=Qhx hF hp hc hn hv hd r (k+1) f (by omega) (by omega)
  simp only[iter,h1,h2,Option.bind_some,QI]
  exact ⟨i1,i2⟩
def Qbg (T:List Op):List Qa:=(T.map Jr).filter fun t=>decide (0<t.Stops.length)
theorem Qix (T:List Op) (x:Op):Qbg (T++[x])=Qbg T++if 0<x.tour.Stops.length then [x.tour] else []:=by
 unfold Qbg
 rw[List.map_append,List.filter_append]
 by_cases h:0<x.tour.Stops.length
 ·simp[h]
 ·simp[h]
theorem QeT (T:List Op):(Qbg T).length≤T.length:=by
 unfold Qbg;refine Nat.le_trans (List.length_filter_le _ _) (by simp)
theorem Qny (T:List Op) (hT:T.length≤1000) :
  iter (Vb T) (((T.length:Nat):Int).toNat+1) ([],0)=some (Qbg T) ∧
  iter (Jm (T.map Jr)) ((((T.map Jr).length:Nat):Int).toNat+1) ([],0)=some (Qbg T):=by
 have hml:(T.map Jr).length=T.length:=by simp
 constructor
 ·have:=YX (body:=Vb T) T (fun k=>Qbg (T.take k)) (fun m k=>(m,k)) (fun _ _=>none) (Qbg T) (by omega) (fun k x hx _=> ?_) (fun _=>by simp only[Vb,oun,List.take_length];simp) (((T.length:Nat):Int).toNat+1) (by simp)
  ·rw[QW _ _ (fun _ _ _=>rfl)] at this
   exact this
  ·have hk:=Qt hx;have hk2:((k:Int)<(T.length:Nat)):=by omega
   have hul:=QeT (T.take k)
   rw[Yk (Nat.le_of_lt hk)] at hul
   simp only[Vb,oun,hk2,decide_true,cond_true,Qs,hx,Option.bind_some,Je]
   rw[YK hx,Qix]
   by_cases h:0<x.tour.Stops.length
   ·have h':(0:Int)<((x.tour.Stops.length:Nat):Int):=by omega
    simp only[h,h',decide_true,cond_true,if_true]
    rw[Yj (by simp;omega)]
    rfl
   ·have h': ¬(0:Int)<((x.tour.Stops.length:Nat):Int):=by omega
    simp only[h,h',decide_false,cond_false,if_false,List.append_nil,Option.bind_some]
 ·have:=YX (body:=Jm (T.map Jr)) T (fun k=>Qbg (T.take k)) (fun m k=>(m,k)) (fun _ _=>none) (Qbg T) (by omega) (fun k x hx _=> ?_) (fun _=>by simp only[Jm,oun,List.take_length,hml];simp) (((T.length:Nat):Int).toNat+1) (by simp)
  ·rw[QW _ _ (fun _ _ _=>rfl)] at this
   rw[hml]
   exact this
  ·have hk:=Qt hx;have hk2:((k:Int)<(T.length:Nat)):=by omega
   have hul:=QeT (T.take k)
   rw[Yk (Nat.le_of_lt hk)] at hul
   have hx2:(T.map Jr)[k]? =some x.tour:=by rw[List.getElem?_map,hx];rfl
   simp only[Jm,oun,hml,hk2,decide_true,cond_true,Qs,hx2,Option.bind_some,Je]
   rw[YK hx,Qix]
   by_cases h:0<x.tour.Stops.length
   ·have h':(0:Int)<((x.tour.Stops.length:Nat):Int):=by omega
    simp only[h,h',decide_true,cond_true,if_true]
    rw[Yj (by simp;omega)]
    rfl
   ·have h': ¬(0:Int)<((x.tour.Stops.length:Nat):Int):=by omega
    simp only[h,h',decide_false,cond_false,if_false,List.append_nil,Option.bind_some]
theorem Ql9 (n:Nat) (hn:n≤1000): ∃l,QbQ (Qc.mk (Qa.mk 0 []) 0) ((n:Nat):Int)=some l∧l.length=n∧iter (Va l) (((l.length:Nat):Int).toNat+1) (l,0)=some (We n):=by
 have hm:QbQ (Qc.mk (Qa.mk 0 []) 0) ((n:Nat):Int)=some (List.replicate n (Qc.mk (Qa.mk 0 []) 0)):=by
  unfold QbQ
  rw[if_pos (by omega),Int.toNat_natCast]
 refine ⟨_,hm,by simp,?_⟩
 generalize hl:List.replicate n (Qc.mk (Qa.mk 0 []) 0)=l
 have hln:l.length=n:=by rw[←hl];simp
 have:=YX (body:=Va l) l (fun k=>We k++l.drop k) (fun m k=>(m,k)) (fun _ _=>none) (We n) (by omega) (fun k x hx _=> ?_) (fun _=>by simp only[Va,oun,hln];simp[List.drop_of_length_le (Nat.le_of_eq hln)]) (((l.length:Nat):Int).toNat+1) (by simp)
 ·rw[QW _ _ (fun _ _ _=>rfl)] at this
  simpa [We] using this
 ·have hk:=Qt hx;have hk2:((k:Int)<(l.length:Nat)):=by omega
  have hx0:x=⟨⟨0,[]⟩,0⟩:=by
   rw[←hl,List.getElem?_replicate] at hx
   split at hx
   ·injection hx with hx;exact hx.symm
   ·cases hx
  have hsl:(We k).length=k:=by simp[We]
  have hdr:l.drop k=x::l.drop (k+1):=by
   rw[List.drop_eq_getElem_cons hk]
   congr 1
   rw[List.getElem?_eq_getElem hk] at hx
   injection hx
  have hg:(We k++l.drop k)[k]? =some x:=by
   rw[List.getElem?_append_right (by omega),hsl,Nat.sub_self,hdr];rfl
  simp only[Va,oun,hk2,decide_true,cond_true,Qs,hg,Option.bind_some,Je,Yi,Int.toNat_natCast]
  rw[List.set_append_right _ _ (by omega),hsl,Nat.sub_self,hdr,List.set_cons_zero]
  have:We (k+1)=We k++[⟨⟨(k:Int),[]⟩,0⟩]:=by simp[We,List.range_succ]
  rw[this,hx0]
  simp
theorem Qma {p:Pr} (hv:p.Vehicles.length≤1000):iter (Jl p) (((p.Vehicles.length:Nat):Int).toNat+1) ([],0)=some ((We p.Vehicles.length).map Jr):=by
 have:=YX (body:=Jl p) p.Vehicles (fun k=>(We k).map Jr) (fun m k=>(m,k)) (fun _ _=>none) ((We p.Vehicles.length).map Jr) (by omega) (fun k x hx _=> ?_) (fun _=>by simp only[Jl,oun];simp) (((p.Vehicles.length:Nat):Int).toNat+1) (by simp)
 ·rw[QW _ _ (fun _ _ _=>rfl)] at this
  exact this
 ·have hk:=Qt hx;have hk2:((k:Int)<(p.Vehicles.length:Nat)):=by omega
  simp only[Jl,oun,hk2,decide_true,cond_true,Je]
  have:We (k+1)=We k++[⟨⟨(k:Int),[]⟩,0⟩]:=by simp[We,List.range_succ]
  rw[Yj (by simp[We];omega),this,List.map_append]
  rfl
def QbR (F:Nat) (p:Pr):Qf:=⟨Qbg (Qcx F p p.Demands.length).1,(Qcx F p p.Demands.length).2⟩
theorem Qlp {F:Nat} (hF:40000≤F) (p:Pr) (hn:p.Road.Edges.length≤600) (hv:p.Vehicles.length≤1000) (hd:p.Demands.length≤1000) :
  ∃e,Qo p=some e∧((e≠0∧Qaf F p=some (⟨[],[]⟩,e)∧Qab F p=some (⟨[],[]⟩,e))∨(e=0∧OkP p∧Qaf F p=some (QbR F p,0)∧Qab F p=some (QbR F p,0))):=by
 unfold Qaf Qab
 rw[ZJ (by omega) p hn]
 rcases Qcy p hn with ⟨h1,h2⟩ | ⟨e,h1,h2⟩
 ·refine ⟨0,h1,.inr ⟨rfl,h2,?_⟩⟩;obtain ⟨l,q1,q2,q3⟩:=Ql9 p.Vehicles.length hv;obtain ⟨b1,b2⟩:=Qhx hF h2 h1 hn hv hd p.Demands.length 0 (((p.Demands.length:Nat):Int).toNat+1) (by omega) (by simp);have hr:=(QeQ hF h2 hn p.Demands.length).len;obtain ⟨u1,u2⟩:=Qny (Qcx F p p.Demands.length).1 (by omega);have b1':iter (Wp F p) (((p.Demands.length:Nat):Int).toNat+1) (We p.Vehicles.length,[],0)=some (Qcx F p p.Demands.length):=b1;have b2':iter (ZB F p) (((p.Demands.length:Nat):Int).toNat+1) ((We p.Vehicles.length).map Jr,[],0)=some ((Qcx F p p.Demands.length).1.map Jr,(Qcx F p p.Demands.length).2):=b2
  rw[h1]
  simp only[Option.bind_some,decide_true,Bool.not_true,cond_false,q1,q3,Qma hv,b1',b2',oun,u1,u2]
  exact ⟨rfl,rfl⟩
 ·refine ⟨e,h2,.inl ⟨h1,?_⟩⟩
  rw[h2]
  simp only[Option.bind_some]
  rw[show decide (e=0)=false by simpa using h1]
  exact ⟨rfl,rfl⟩
theorem Qla {T:List Op} {t:Qa} (h:t∈Qbg T): ∃(i:Nat) (x:Op),T[i]? =some x∧x.tour=t∧t.Stops≠[]:=by
 obtain ⟨h1,h2⟩:=List.mem_filter.1 h;obtain ⟨x,h3,rfl⟩:=List.mem_map.1 h1;obtain ⟨i,hi⟩:=List.getElem?_of_mem h3;refine ⟨i,x,hi,rfl,fun h=> ?_⟩;have:=of_decide_eq_true h2
 rw[h] at this
 simp at this
theorem QlL {F:Nat} (hF:40000≤F) {p:Pr} (hp:OkP p) (hn:p.Road.Edges.length≤600):(QbR F p).Tours.length≤p.Vehicles.length∧(QbR F p).Left.length≤p.Demands.length∧ ∀t∈(QbR F p).Tours,t.Stops.length≤40:=by
 have h:=QeQ hF hp hn p.Demands.length;refine ⟨by rw[←h.len];exact QeT _,h.ll,fun t ht=> ?_⟩;obtain ⟨i,x,h1,rfl,_⟩:=Qla ht;exact (h.tour i x h1).len
end Go.Proofs.YthpgjbbjpfiniaaGreat
namespace Go.Proofs.YthpgjbbjpfiniaaGreat
open Go.RowKit
set_option linter.unusedSimpArgs false
set_option linter.unusedVariables false
theorem QmQ (d:Nat): ∀(T:List Op),tn (Qbg T) d=cnB T (d:Int)
 | []=>rfl
 | x::T=>by
  have ih:=QmQ d T;unfold Qbg tn at ih ⊢;unfold cnB at ih ⊢
  rw[List.map_cons,List.filter_cons,List.map_cons,List.sum_cons,←ih]
  by_cases h:0<x.tour.Stops.length
  ·simp[Jr,h,cn]
  ·have:x.tour.Stops=[]:=List.eq_nil_of_length_eq_zero (by omega)
   simp[Jr,this]
theorem QoZ {F:Nat} {p:Pr} {k:Nat} {s:List Op×List Int} (h:Qle F p k s):(Qbg s.1).Pairwise fun a b=>a.Vehicle<b.Vehicle:=by
 unfold Qbg;refine List.Pairwise.sublist List.filter_sublist ?_
 rw[List.pairwise_map,List.pairwise_iff_getElem]
 intro i j hi hj hij;have h1:=(h.tour i _ (List.getElem?_eq_getElem hi)).veh;have h2:=(h.tour j _ (List.getElem?_eq_getElem hj)).veh
 show s.1[i].tour.Vehicle<s.1[j].tour.Vehicle
 rw[h1,h2];omega
theorem Qc1 {p:Pr} {t:Qa} (h:(YF p t).2=0): ∃u,WU p t= .inl u:=by
 unfold YF at h;cases hr:WU p t with
 | inl u=>exact ⟨u,rfl⟩
 | inr q=>rw[hr] at h;exact absurd h (Qah hr)
theorem QmG {F:Nat} (hF:40000≤F) {p:Pr} (hn:p.Road.Edges.length≤600) (hp:OkP p) (hc:Qo p=some 0) (x:Qf) (hx:x.Tours.length≤30) (hl:x.Left.length≤100)
  (ha:x.Tours.Pairwise fun a b=>a.Vehicle<b.Vehicle) (ht: ∀t∈x.Tours,(YF p t).2=0) (hb: ∀e∈x.Left,0≤e∧e<((p.Demands.length:Nat):Int)) (h1: ∀d,d<p.Demands.length→tn x.Tours d+cn x.Left d=1) :
  Zl F p x=some (Zm p x.Tours,0):=by
 have hdl:=hp.dl;have hbad: ∀(k:Nat) (t:To),x.Tours[k]? =some t→QcX p x.Tours k t=none:=fun k t hk=>by
  obtain ⟨u,hu⟩:=Qc1 (ht t (List.mem_of_getElem? hk));have hany:(x.Tours.take k).any (fun u=>decide (u.Vehicle=t.Vehicle))=false:=by
   rw[List.any_eq_false]
   intro y hy he;obtain ⟨j,hj⟩:=List.getElem?_of_mem hy;have hjk:=Qt hj;have hkl:=Qt hk
   rw[Yk (Nat.le_of_lt hkl)] at hjk
   rw[List.getElem?_take,if_pos hjk] at hj
   have:=List.pairwise_iff_getElem.1 ha j k (by omega) hkl hjk
   rw[List.getElem?_eq_getElem (by omega)] at hj hk
   injection hj with hj
   injection hk with hk
   rw[hj,hk,of_decide_eq_true he] at this
   omega
  unfold QcX
  rw[hany,hu]
  rfl
 have hall: ∀t∈x.Tours,(∀s∈t.Stops,okS p.Demands.length s)∧t.Stops.length≤40:=fun t htm=>by
  obtain ⟨u,hu⟩:=Qc1 (ht t htm);exact (VB hp hu).2.2
 have q1:=QeO hF hp x hx
 rw[QW _ _ (fun i t hi=>by rw[Nat.zero_add,hbad i t hi];rfl)] at q1
 have q3:=(Qc7 (n:=p.Demands.length) x (fun _=>0) (by omega) (fun _=>Nat.zero_le _)).1;have q4:=(Qcp (n:=p.Demands.length) x (fun d=>0+cn x.Left d) (by omega) (fun d=>by have:=QiV x.Left d;omega) (fun t htm=>by have:=(hall t htm).2;omega) (fun t htm=>(hall t htm).1)).1;have hbl:Qfb p.Demands.length x.Left=false:=by
  unfold Qfb
  rw[List.any_eq_false]
  intro e he;have:=hb e he
  simp;omega
 have hv:(vec p.Demands.length fun d=>0+cn x.Left d+tn x.Tours d)=vec p.Demands.length fun _=>1:=Qb5 fun d hd=>by have:=h1 d hd;omega
 rw[hv] at q4
 rw[hbl] at q3
 have hmem: ∀c∈vec p.Demands.length (fun _=>1),c=(1:Int):=fun c hc=>by
  unfold vec at hc;obtain ⟨j,_,rfl⟩:=List.mem_map.1 hc
  rfl
 have a1:(vec p.Demands.length (fun _=>1)).any (fun c=>decide (1<c))=false:=by
  rw[List.any_eq_false];intro c hc;rw[hmem c hc];decide
 have a2:(vec p.Demands.length (fun _=>1)).any (fun c=>decide (c=0))=false:=by
  rw[List.any_eq_false];intro c hc;rw[hmem c hc];decide
 unfold Zl
 rw[ZJ (by omega) _ hn,hc]
 simp only[Option.bind_some,decide_true,Bool.not_true,cond_false]
 rw[q1]
 simp only[Option.bind_some,QI]
 rw[Qej _ (by omega)]
 simp only[Option.bind_some]
 rw[q3]
 simp only[cond_false,Option.bind_some,QI]
 rw[q4]
 simp only[Option.bind_some]
 rw[Qhh _ (by rw[VJ];omega),Qhl _ (by rw[VJ];omega),a1,a2]
 rfl
theorem Qov {F:Nat} (hF:40000≤F) {p:Pr} (hn:p.Road.Edges.length≤600) (hv:p.Vehicles.length≤30) (hp:OkP p) (hc:Qo p=some 0):Zl F p (QbR F p)=some (Zm p (QbR F p).Tours,0):=by
 have h:=QeQ hF hp hn p.Demands.length;obtain ⟨l1,l2,l3⟩:=QlL hF hp hn;have hdl:=hp.dl;refine QmG hF hn hp hc _ (by omega) (by omega) (QoZ h) (fun t ht=> ?_) h.lo (fun d hd=> ?_)
 ·obtain ⟨i,x,g1,rfl,g2⟩:=Qla ht;exact ((h.tour i x g1).full g2).1
 ·have:=h.once d
  rw[if_pos hd] at this
  show tn (Qbg _) d+cn _ d=1
  rw[QmQ]
  exact this
end Go.Proofs.YthpgjbbjpfiniaaGreat
namespace Go.Proofs.YthpgjbbjpfiniaaGreat
open Go.RowKit
set_option linter.unusedSimpArgs false
set_option linter.unusedVariables false
theorem Qec {p:Pr} {v:Ve} (b:List Int): ∀(a pre:List Int) (x:Vi),VC p v pre (a++b) x=match VC p v pre a x with
  | .inr q=> .inr q
  | .inl z=>match VC p v (pre++a) b z.1 with
   | .inr q=> .inr q
   | .inl z2=> .inl (z2.1,z.2++z2.2)
 | [],pre,x=>by
  simp only[List.nil_append,VC,List.append_nil]
  cases VC p v pre b x<;>rfl
 | s::a,pre,x=>by
  simp only[List.cons_append,VC]
  cases Qax p v pre x s with
  | inr e=>rfl
  | inl y =>
   simp only[]
   rw[Qec b a (pre++[s]) y]
   cases VC p v (pre++[s]) a y with
   | inr q=>rfl
   | inl z =>
    simp only[List.append_assoc,List.singleton_append]
    cases VC p v (pre++s::a) b z.1<;>rfl
theorem QoY {p:Pr} {t:Qa} {v:Ve} (h0:0≤t.Vehicle) (h1:t.Vehicle<((p.Vehicles.length:Nat):Int)) (hv:getI p.Vehicles t.Vehicle=some v) (hs:t.Stops.length≤40) :
  WU p t=match VC p v [] t.Stops (x0 v) with
   | .inr q=> .inr (q.1,((q.2:Nat):Int))
   | .inl z=>match QaN p v z.1 with
    | .inr e=> .inr (e,((t.Stops.length:Nat):Int))
    | .inl y=> .inl (z.1,z.2++[y],v):=by
 unfold WU
 rw[if_neg (by omega),if_neg (by omega)]
 unfold getI at hv
 rw[if_pos h0] at hv
 rw[hv]
 rfl
end Go.Proofs.YthpgjbbjpfiniaaGreat
namespace Go.Proofs.YthpgjbbjpfiniaaGreat
open Go.RowKit
set_option linter.unusedSimpArgs false
set_option linter.unusedVariables false
theorem Wk.join {r:Rd_} {a b:Int} {k:Nat} {l:Lg} (h:Wk r a k b l): ∀{k':Nat} {c:Int} {l':Lg},Wk r b k' c l'→Wk r a (k+k') c ⟨l.Secs+l'.Secs,l.Meters+l'.Meters⟩
 | _,_,_,.nil=>by simpa using h
 | _,_,_,.cons (l:=m) (x:=x) h2 hx ha=>by
  have h3:=Wk.join h h2;have h4:=Wk.cons h3 hx ha;unfold WF at h4 ⊢
  simp only[] at h4 ⊢
  rw[show l.Secs+(m.Secs+x.Secs)=l.Secs+m.Secs+x.Secs by omega,show l.Meters+(m.Meters+x.Meters)=l.Meters+m.Meters+x.Meters by omega]
  exact h4
theorem tri {p:Pr} (hp:OkP p) {a b c:Int} (ha:0≤a∧a<p.Road.Nodes) (hb:0≤b∧b<p.Road.Nodes) (hc:0≤c∧c<p.Road.Nodes) (h1:0≤(Zp p a b).Secs) (h2:0≤(Zp p b c).Secs) :
  0≤(Zp p a c).Secs∧(Zp p a c).Secs≤(Zp p a b).Secs+(Zp p b c).Secs:=by
 have hr:=OkR.of hp.road;obtain ⟨La,_⟩:=QeM hp ha;obtain ⟨Lb,_⟩:=QeM hp hb;obtain ⟨k,_,w1,_⟩:=QeR hr (La.lb b hb.1 hb.2) (Qgt h1);obtain ⟨k',_,w2,_⟩:=QeR hr (Lb.lb c hc.1 hc.2) (Qgt h2);have h3:=La.best _ _ _ (w1.join w2);have h4:=h3.2;unfold Lg.le at h4;refine ⟨h3.1,?_⟩;unfold Zp at h1 h2 ⊢
 simp only[] at h4
 omega
structure Lax (p:Pr) (x' x:Vi):Prop where
 leg: ∀b,0≤b→b<p.Road.Nodes→0≤(Zp p x.Node b).Secs→0≤(Zp p x'.Node b).Secs∧x'.Leave+(Zp p x'.Node b).Secs≤x.Leave+(Zp p x.Node b).Secs
 load:x'.Load≤x.Load
theorem Lax.same {p:Pr} {x' x:Vi} (h1:x'.Node=x.Node) (h2:x'.Leave≤x.Leave) (h3:x'.Load≤x.Load):Lax p x' x :=
 ⟨fun b _ _ h=>⟨by rw[h1];exact h,by rw[h1];omega⟩,h3⟩
theorem Qod {p:Pr} {v:Ve} (hp:OkP p) {x' x y:Vi} {pre pre':List Int} {s:Int} (hl:Lax p x' x) (hsub: ∀u∈pre',u∈pre) (hs:Qax p v pre x s= .inl y) :
  ∃y',Qax p v pre' x' s= .inl y'∧Lax p y' y:=by
 unfold Qax at hs
 split at hs
 ·rename_i h1
  split at hs
  ·cases hs
  ·rename_i h2
   injection hs with hs;subst hs
   obtain ⟨g1,g2⟩:=hl.leg _ hp.u0 hp.u1 (by omega);unfold Qax
   rw[if_pos h1,if_neg (by omega)]
   exact ⟨_,rfl,Lax.same rfl (by simp only[];omega) (Int.le_refl _)⟩
 ·rename_i h1
  split at hs
  ·cases hs
  ·rename_i h2
   split at hs
   ·cases hs
   ·rename_i h3
    split at hs
    ·cases hs
    ·rename_i d hd
     have hd2:=hp.de d (List.mem_of_getElem? hd)
     split at hs
     ·cases hs
     ·rename_i h4
      split at hs
      ·cases hs
      ·rename_i h5
       split at hs
       ·cases hs
       ·rename_i h6
        split at hs
        ·cases hs
        ·rename_i h7
         injection hs with hs;subst hs
         obtain ⟨g1,g2⟩:=hl.leg _ hd2.n0 hd2.n1 (by omega);have g3:=hl.load;unfold Qax
         rw[if_neg h1,if_neg h2,if_neg (fun h=>h3 (hsub _ h)),hd]
         simp only[]
         rw[if_neg h4,if_neg (by omega),if_neg (by omega),if_neg (by omega)]
         exact ⟨_,rfl,Lax.same rfl (by simp only[];omega) (by simp only[];omega)⟩
theorem QmA {p:Pr} {v:Ve} (hp:OkP p): ∀(rest pre pre':List Int) (x x':Vi) (z:Vi×List Vi),Lax p x' x→(∀u∈pre',u∈pre)→VC p v pre rest x= .inl z→ ∃z',VC p v pre' rest x'= .inl z'∧Lax p z'.1 z.1
 | [],pre,pre',x,x',z,hl,_,h=>by
  injection h with h;subst h
  exact ⟨_,rfl,hl⟩
 | s::rest,pre,pre',x,x',z,hl,hsub,h=>by
  unfold VC at h
  split at h
  ·cases h
  ·rename_i y hy
   obtain ⟨y',h1,h2⟩:=Qod hp hl hsub hy
   split at h
   ·rename_i z1 hz
    injection h with h;subst h
    obtain ⟨z',h3,h4⟩:=QmA hp rest (pre++[s]) (pre'++[s]) y y' z1 h2 (fun u hu=>by
     rcases List.mem_append.1 hu with h5 | h5
     ·exact List.mem_append_left _ (hsub u h5)
     ·exact List.mem_append_right _ h5) hz
    unfold VC
    rw[h1]
    simp only[]
    rw[h3]
    exact ⟨_,rfl,h4⟩
   ·cases h
theorem Qoc {p:Pr} {v:Ve} (hv:OkV p.Road.Nodes v) {x x' y:Vi} (hl:Lax p x' x) (h0:0≤x'.Load) (hs:QaN p v x= .inl y): ∃y',QaN p v x'= .inl y':=by
 unfold QaN at hs
 split at hs
 ·cases hs
 ·rename_i h1
  split at hs
  ·cases hs
  ·rename_i h2
   split at hs
   ·cases hs
   ·rename_i h3
    obtain ⟨g1,g2⟩:=hl.leg _ hv.d0 hv.d1 (by omega);have g3:=hl.load;unfold QaN
    simp only[ne_eq,Decidable.not_not] at h2
    rw[if_neg (by omega),if_neg (by omega),if_neg (by omega)]
    exact ⟨_,rfl⟩
theorem Qob {p:Pr} {v:Ve} (hp:OkP p) (hv:OkV p.Road.Nodes v) {k:Nat} {x y:Vi} {pre:List Int} {s:Int} (hx:InV p v k x) (h0:0≤s) (hs:Qax p v pre x s= .inl y):Lax p x y:=by
 have hin:=QeD hp hv hx hs;unfold Qax at hs
 rw[if_neg (by omega)] at hs
 split at hs
 ·cases hs
 ·split at hs
  ·cases hs
  ·split at hs
   ·cases hs
   ·rename_i d hd
    have hd2:=hp.de d (List.mem_of_getElem? hd);have a1:=hd2.g0;have a5:=hd2.s0
    split at hs
    ·cases hs
    ·split at hs
     ·cases hs
     ·rename_i h5
      split at hs
      ·cases hs
      ·split at hs
       ·cases hs
       ·injection hs with hs;subst hs
        refine ⟨fun b b0 b1 hb=> ?_,by simp only[];omega⟩
        simp only[] at hb ⊢
        have h6:=tri hp ⟨hx.n0,hx.n1⟩ ⟨hd2.n0,hd2.n1⟩ ⟨b0,b1⟩ (by omega) hb
        omega
theorem QlA {p:Pr} (hp:OkP p) {t:Qa} {u:Vi×List Vi×Ve} (h:WU p t= .inl u) {n:Nat} {s:Int} (hn:t.Stops[n]? =some s) (h0:0≤s):(Qdn p ⟨t.Vehicle,t.Stops.take n++t.Stops.drop (n+1)⟩).2.1=0:=by
 obtain ⟨z,y,hf,_,_⟩:=Qf7 h;have hv:=hp.ve u.2.2 (by
  have:=hf.hv;unfold getI at this
  rw[if_pos hf.t0] at this
  exact List.mem_of_getElem? this)
 have hnl:=Qt hn;have hsl:=hf.sl;have hfol:=hf.fol;have hsplit:t.Stops=t.Stops.take n++(s::t.Stops.drop (n+1)):=by
  conv=>lhs;rw[←List.take_append_drop n t.Stops]
  congr 1
  rw[List.drop_eq_getElem_cons hnl]
  rw[List.getElem?_eq_getElem hnl] at hn
  injection hn with hn
  rw[hn]
 rw[hsplit,Qec] at hfol
 cases hA:VC p u.2.2 [] (t.Stops.take n) (x0 u.2.2) with
 | inr q=>rw[hA] at hfol;cases hfol
 | inl zA =>
  rw[hA] at hfol
  simp only[List.nil_append] at hfol
  have hzA:=Qdt hp hv (t.Stops.take n) [] _ _ (Qg0 hv) hA
  simp only[List.length_nil,Nat.zero_add,Yk (Nat.le_of_lt hnl)] at hzA
  cases hB:VC p u.2.2 (t.Stops.take n) (s::t.Stops.drop (n+1)) zA.1 with
  | inr q=>rw[hB] at hfol;cases hfol
  | inl zB =>
   rw[hB] at hfol
   injection hfol with hfol
   have hB2:=hB;unfold VC at hB2
   split at hB2
   ·cases hB2
   ·rename_i y1 hy1
    split at hB2
    ·rename_i zC hC
     injection hB2 with hB2
     have hlx:=Qob hp hv hzA.1 h0 hy1;obtain ⟨z',g1,g2⟩:=QmA hp (t.Stops.drop (n+1)) (t.Stops.take n++[s]) (t.Stops.take n) y1 zA.1 zC hlx (fun w hw=>List.mem_append_left _ hw) hC;have hzn:=Qdt hp hv (t.Stops.drop (n+1)) (t.Stops.take n) _ _ (by rw[Yk (Nat.le_of_lt hnl)];exact hzA.1) g1;have hhom:=hf.hom
     rw[←hfol,←hB2] at hhom
     obtain ⟨y',g3⟩:=Qoc hv g2 hzn.1.l0 hhom;have e:=QoY (p:=p) (t:=⟨t.Vehicle,t.Stops.take n++t.Stops.drop (n+1)⟩) hf.t0 hf.t1 hf.hv (by simp;omega)
     simp only[] at e
     rw[Qec,hA] at e
     simp only[List.nil_append,g1,g3] at e
     unfold Qdn
     rw[e]
    ·cases hB2
end Go.Proofs.YthpgjbbjpfiniaaGreat
namespace Go.Proofs.YthpgjbbjpfiniaaGreat
open Go.RowKit
set_option linter.unusedSimpArgs false
set_option linter.unusedVariables false
structure Fe (p:Pr) (x:Pl):Prop where
 ok:OkP p
 chk:Qo p=some 0
 drv: ∀t∈x.Tours,(YF p t).2=0
 dis:x.Tours.Pairwise fun a b=>a.Vehicle≠b.Vehicle
 lft: ∀e∈x.Left,0≤e∧e<((p.Demands.length:Nat):Int)
 one: ∀d,d<p.Demands.length→tn x.Tours d+cn x.Left d=1
theorem QnO {n:Nat} {f:Nat→Nat} (h:Qg1 (vec n f)=0): ∀d,d<n→f d=1:=fun d hd=>by
 unfold Qg1 at h;have hm:((f d:Nat):Int)∈vec n f:=List.mem_of_getElem? (Qga f hd);cases h1:(vec n f).any fun c=>decide (1<c) with
 | true=>rw[h1] at h;cases h
 | false =>
  rw[h1] at h
  simp only[cond_false] at h
  cases h2:(vec n f).any fun c=>decide (c=0) with
  | true=>rw[h2] at h;cases h
  | false =>
   rw[List.any_eq_false] at h1 h2
   have a1:=h1 _ hm;have a2:=h2 _ hm
   simp at a1 a2
   omega
theorem QnP {p:Pr} {ts:List To} (h: ∀(k:Nat) (t:To),ts[k]? =some t→QcX p ts k t=none):ts.Pairwise fun a b=>a.Vehicle≠b.Vehicle:=by
 rw[List.pairwise_iff_getElem]
 intro i j hi hj hij he;have:=h j _ (List.getElem?_eq_getElem hj);unfold QcX at this;have hany:(ts.take j).any (fun u=>decide (u.Vehicle=ts[j].Vehicle))=true:=by
  rw[List.any_eq_true]
  refine ⟨ts[i],?_,by simpa using he⟩;refine List.mem_of_getElem? (i:=i) ?_
  rw[List.getElem?_take,if_pos hij,List.getElem?_eq_getElem hi]
 rw[hany] at this
 cases this
theorem QfJ {p:Pr} {t:To} {u:Vi×List Vi×Ve} (h:WU p t= .inl u):(YF p t).2=0:=by unfold YF;rw[h]
theorem Qew {F:Nat} (hF:40000≤F) {p:Pr} (hn:p.Road.Edges.length≤600) (x:Pl) (hx:x.Tours.length≤30) (hl:x.Left.length≤100) :
  ∃s e,Zl F p x=some (s,e)∧QO p x=some e∧Yf p x=some (s,e)∧(e=0→s=Zm p x.Tours∧Fe p x):=by
 obtain ⟨s,e,h1,h2,h3⟩:=Qnm hF hn x hx hl;refine ⟨s,e,h1,h2,h3,fun he=> ?_⟩;subst he;rcases Qcy p hn with ⟨g1,g2⟩ | ⟨e,g1,g2⟩
 ·rcases Qfl (QcX p x.Tours) x.Tours 0 with k1 | ⟨c,i,t,k1,k2⟩
  ·simp only[Nat.zero_add] at k1
   have hdl:=g2.dl;have hall: ∀t∈x.Tours,(∀s∈t.Stops,okS p.Demands.length s)∧t.Stops.length≤40:=fun t htm=>by
    obtain ⟨i,hi⟩:=List.getElem?_of_mem htm;obtain ⟨u,hu⟩:=QcY (k1 i t hi);exact (VB g2 hu).2.2
   have q1:=QeO hF g2 x hx
   rw[QW _ _ (fun i t hi=>by rw[Nat.zero_add,k1 i t hi];rfl)] at q1
   have q3:=(Qc7 (n:=p.Demands.length) x (fun _=>0) (by omega) (fun _=>Nat.zero_le _)).1;have q4:=(Qcp (n:=p.Demands.length) x (fun d=>0+cn x.Left d) (by omega) (fun d=>by have:=QiV x.Left d;omega) (fun t htm=>by have:=(hall t htm).2;omega) (fun t htm=>(hall t htm).1)).1;have hpl:Zl F p x=some (bif Qfb p.Demands.length x.Left then (0,7) else (bif decide (Qg1 (vec p.Demands.length fun d=>0+cn x.Left d+tn x.Tours d)=0) then Zm p x.Tours else 0,Qg1 (vec p.Demands.length fun d=>0+cn x.Left d+tn x.Tours d))):=by
    unfold Zl
    rw[ZJ (by omega) _ hn,g1]
    simp only[Option.bind_some,decide_true,Bool.not_true,cond_false]
    rw[q1]
    simp only[Option.bind_some,QI]
    rw[Qej _ (by omega)]
    simp only[Option.bind_some]
    rw[q3]
    cases Qfb p.Demands.length x.Left with
    | true=>rfl
    | false =>
     simp only[cond_false,Option.bind_some,QI]
     rw[q4]
     simp only[Option.bind_some]
     rw[Qhh _ (by rw[VJ];omega),Qhl _ (by rw[VJ];omega)]
     unfold Qg1
     simp only[Option.bind_some]
     generalize (vec p.Demands.length fun d=>0+cn x.Left d+tn x.Tours d).any (fun c=>decide (1<c))=a
     generalize (vec p.Demands.length fun d=>0+cn x.Left d+tn x.Tours d).any (fun c=>decide (c=0))=b
     cases a<;>cases b<;>rfl
   rw[h1] at hpl
   cases hbl:Qfb p.Demands.length x.Left with
   | true=>rw[hbl] at hpl;cases hpl
   | false =>
    rw[hbl] at hpl
    simp only[cond_false,Option.some.injEq,Prod.mk.injEq] at hpl
    obtain ⟨p1,p2⟩:=hpl
    rw[←p2] at p1
    simp only[decide_true,cond_true] at p1
    refine ⟨p1,g2,g1,fun t ht=> ?_,QnP k1,fun e he=> ?_,fun d hd=> ?_⟩
    ·obtain ⟨i,hi⟩:=List.getElem?_of_mem ht;obtain ⟨u,hu⟩:=QcY (k1 i t hi);exact QfJ hu
    ·unfold Qfb at hbl
     rw[List.any_eq_false] at hbl
     have:=hbl e he
     simp at this
     omega
    ·have:=QnO p2.symm d hd
     omega
  ·exfalso
   have hc0:=Qkj k1;have q1:=QeO hF g2 x hx
   rw[k2] at q1
   unfold Zl at h1
   rw[ZJ (by omega) _ hn,g1] at h1
   simp only[Option.bind_some,decide_true,Bool.not_true,cond_false] at h1
   rw[q1] at h1
   simp only[Option.bind_some,QI,Option.some.injEq,Prod.mk.injEq] at h1
   exact hc0 h1.2
 ·exfalso
  unfold Zl at h1
  rw[ZJ (by omega) _ hn,g2] at h1
  simp only[Option.bind_some] at h1
  rw[show decide (e=0)=false by simpa using g1] at h1
  simp only[Bool.not_false,cond_true,Option.some.injEq,Prod.mk.injEq] at h1
  exact g1 h1.2
theorem Fe.tour {p:Pr} {x:Pl} (h:Fe p x) {t:To} (ht:t∈x.Tours):0≤t.Vehicle∧t.Vehicle<((p.Vehicles.length:Nat):Int)∧t.Stops.length≤40∧(∀s∈t.Stops,okS p.Demands.length s)∧ ∃u,WU p t= .inl u:=by
 obtain ⟨u,hu⟩:=Qc1 (h.drv t ht);obtain ⟨z,y,hf,_,_⟩:=Qf7 hu;exact ⟨hf.t0,hf.t1,hf.sl,(VB h.ok hu).2.2.1,u,hu⟩
theorem Qhj (x:Pl) (v:Int):(ofP x v∈x.Tours∧(ofP x v).Vehicle=v)∨ofP x v=⟨v,[]⟩:=by
 unfold ofP;cases h:x.Tours.find? fun t=>decide (t.Vehicle=v) with
 | none=>exact .inr rfl
 | some t =>
  have h1:=List.find?_some h;exact .inl ⟨List.mem_of_find?_eq_some h,by simpa using h1⟩
theorem QmF (x:Pl) (v:Int):(ofP x v).Vehicle=v:=by
 rcases Qhj x v with ⟨_,h⟩ | h
 ·exact h
 ·rw[h]
theorem Fe.of_len {p:Pr} {x:Pl} (h:Fe p x) (v:Int):(ofP x v).Stops.length≤40:=by
 rcases Qhj x v with ⟨h1,_⟩ | h1
 ·exact (h.tour h1).2.2.1
 ·rw[h1];simp
theorem Qj8 (d:Int) (l:List Int):(wo d l).length≤l.length:=List.length_filter_le _ _
theorem Qmf (d:Int) (l:List Int):d∉wo d l:=fun h=>by
 unfold wo at h
 simp at h
theorem QiA {d e:Int} (l:List Int) (h:e≠d):(wo d l).count e=l.count e:=by
 unfold wo
 rw[List.count_filter (by simpa using h)]
theorem Qlc {d:Int}: ∀(l:List Int),l.count d≤1→d∈l→ ∃n,l[n]? =some d∧wo d l=l.take n++l.drop (n+1)
 | [],_,h=>by cases h
 | a::r,hc,h=>by
  by_cases ha:a=d
  ·subst ha;have h0:r.count a=0:=by simp at hc;omega
   have h1:wo a r=r:=Qgc fun y hy=>by
    have:a∉r:=List.count_eq_zero.1 h0
    simp only[decide_eq_false_iff_not]
    intro e;rw[e] at hy;exact this hy
   exact ⟨0,rfl,by simp[wo] at h1 ⊢;exact h1⟩
  ·have hr:d∈r:=by rcases List.mem_cons.1 h with e | h;exact absurd e.symm ha;exact h
   have hc2:r.count d≤1:=by rw[List.count_cons] at hc;omega
   obtain ⟨n,h1,h2⟩:=Qlc r hc2 hr;refine ⟨n+1,by simpa using h1,?_⟩;unfold wo at h2 ⊢
   simp[ha,h2]
theorem QpI {ts:List To} {t:To} (h:t∈ts) (d:Nat):cn t.Stops d≤tn ts d:=by
 induction ts with
 | nil=>cases h
 | cons u ts ih =>
  simp only[tn,List.map_cons,List.sum_cons]
  rcases List.mem_cons.1 h with rfl | h
  ·omega
  ·have:=ih h;unfold tn at this;omega
theorem Fe.less {p:Pr} {x:Pl} (h:Fe p x) {d:Int} (h0:0≤d) (h1:d<((p.Demands.length:Nat):Int)) {t:To} (ht:t∈x.Tours):(YF p ⟨t.Vehicle,wo d t.Stops⟩).2=0:=by
 obtain ⟨_,_,_,_,u,hu⟩:=h.tour ht
 by_cases hd:d∈t.Stops
 ·have hc:t.Stops.count d≤1:=by
   have a1:=h.one d.toNat (by omega);have a2:=QpI ht d.toNat;unfold cn at a2
   rw[show ((d.toNat:Nat):Int)=d by omega] at a2
   omega
  obtain ⟨n,e1,e2⟩:=Qlc t.Stops hc hd;have:=QlA h.ok hu e1 h0
  rw[←e2] at this
  unfold Qdn at this;cases hr:WU p ⟨t.Vehicle,wo d t.Stops⟩ with
  | inl w=>exact QfJ hr
  | inr q=>rw[hr] at this;exact absurd this (Qah hr)
 ·rw[Qgc (fun y hy=>by simp only[decide_eq_false_iff_not];intro e;rw[e] at hy;exact hd hy)]
  exact h.drv t ht
theorem QmP {n k:Nat} (a:Nat) (f:Nat→Nat) (hk:k<n) (h0:f k=0):((List.range n).map fun i=>if k=i then a else f i).sum=a+((List.range n).map f).sum:=by
 induction n with
 | zero=>omega
 | succ n ih =>
  simp only[List.range_succ,List.map_append,List.sum_append,List.map_cons,List.map_nil,List.sum_cons,List.sum_nil]
  by_cases h:k=n
  ·subst h;have:((List.range k).map fun i=>if k=i then a else f i)=(List.range k).map f:=List.map_congr_left fun i hi=>by
    rw[if_neg (by have:=List.mem_range.1 hi;omega)]
   rw[this,if_pos rfl,h0];omega
  ·rw[if_neg h,ih (by omega)];omega
theorem Qk5 (n:Nat):((List.range n).map fun _=>0).sum=0:=by
 induction n with
 | zero=>rfl
 | succ n ih=>simp only[List.range_succ,List.map_append,List.sum_append,ih];rfl
def gOf (ts:List To) (v:Int):To:=(ts.find? fun t=>decide (t.Vehicle=v)).getD ⟨v,[]⟩
theorem QoX {n:Nat} (e:Nat): ∀{ts:List To},(ts.Pairwise fun a b=>a.Vehicle≠b.Vehicle)→(∀t∈ts,0≤t.Vehicle∧t.Vehicle<(n:Int))→((List.range n).map fun i:Nat=>cn (gOf ts (i:Int)).Stops e).sum=tn ts e
 | [],_,_=>by
  have:((List.range n).map fun i:Nat=>cn (gOf [] (i:Int)).Stops e)=(List.range n).map fun _=>0:=List.map_congr_left fun i _=>by simp[gOf,cn]
  rw[this,Qk5]
  simp[tn]
 | t::r,hp,hv=>by
  have hp':=List.pairwise_cons.1 hp;have ih:=QoX (n:=n) e hp'.2 fun u hu=>hv u (List.mem_cons_of_mem _ hu);obtain ⟨v0,v1⟩:=hv t List.mem_cons_self;have hg: ∀i:Nat,cn (gOf (t::r) (i:Int)).Stops e=if t.Vehicle.toNat=i then cn t.Stops e else cn (gOf r (i:Int)).Stops e:=fun i=>by
   unfold gOf
   by_cases h:t.Vehicle.toNat=i
   ·rw[if_pos h,List.find?_cons_of_pos (by simp;omega)];rfl
   ·rw[if_neg h,List.find?_cons_of_neg (by simp;omega)]
  have hz:cn (gOf r (t.Vehicle.toNat:Int)).Stops e=0:=by
   have:r.find? (fun u=>decide (u.Vehicle=(t.Vehicle.toNat:Int)))=none:=by
    rw[List.find?_eq_none]
    intro u hu;have:=hp'.1 u hu
    simp;omega
   unfold gOf
   rw[this]
   simp[cn]
  have e1:((List.range n).map fun i:Nat=>cn (gOf (t::r) (i:Int)).Stops e)=(List.range n).map fun i=>if t.Vehicle.toNat=i then cn t.Stops e else cn (gOf r (i:Int)).Stops e:=List.map_congr_left fun i _=>hg i
  rw[e1,QmP _ (fun i:Nat=>cn (gOf r (i:Int)).Stops e) (by omega) hz,ih]
  simp[tn]
theorem Fe.sum {p:Pr} {x:Pl} (h:Fe p x) (e:Nat):((List.range p.Vehicles.length).map fun i:Nat=>cn (ofP x (i:Int)).Stops e).sum=tn x.Tours e :=
 QoX e h.dis fun t ht=>⟨(h.tour ht).1,(h.tour ht).2.1⟩
def stB (x:Pl) (d v:Int) (b:To) (i:Nat):To:=if (i:Int)=v then b else ⟨(i:Int),wo d (ofP x (i:Int)).Stops⟩
def Qg7 (p:Pr) (x:Pl) (d:Int):List Int:=((List.range p.Demands.length).map fun k:Nat=>(k:Int)).filter fun k=> !decide (k=d)&&decide (k∈x.Left)
def QdT (p:Pr) (x:Pl) (d v:Int) (b:To):Pl:=⟨((List.range p.Vehicles.length).map (stB x d v b)).filter Qbm,Qg7 p x d⟩
theorem QkF (p:Pr) (x:Pl) (d:Int):(Qg7 p x d).Pairwise (· < ·):=by
 refine List.Pairwise.filter _ ?_
 rw[List.pairwise_map]
 exact List.Pairwise.imp (fun h=>by omega) List.pairwise_lt_range
theorem Qh6 {p:Pr} {x:Pl} {d e:Int}:e∈Qg7 p x d↔(0≤e∧e<((p.Demands.length:Nat):Int))∧e≠d∧e∈x.Left:=by
 unfold Qg7
 rw[List.mem_filter]
 constructor
 ·rintro ⟨h1,h2⟩;obtain ⟨k,hk,rfl⟩:=List.mem_map.1 h1;have:=List.mem_range.1 hk
  simp at h2
  exact ⟨by omega,h2⟩
 ·rintro ⟨⟨h1,h2⟩,h3,h4⟩;refine ⟨List.mem_map.2 ⟨e.toNat,List.mem_range.2 (by omega),by omega⟩,?_⟩
  simp[h3,h4]
theorem Fe.left_nodup {p:Pr} {x:Pl} (h:Fe p x):x.Left.Nodup:=by
 rw[List.nodup_iff_count]
 intro e
 by_cases he:e∈x.Left
 ·have:=h.lft e he;have h1:=h.one e.toNat (by omega);unfold cn at h1
  rw[show ((e.toNat:Nat):Int)=e by omega] at h1
  omega
 ·rw[List.count_eq_zero.2 he];omega
theorem Qoh {l:List Int} (h:l.Pairwise (· < ·)):l.Nodup:=List.Pairwise.imp (fun h=>by omega) h
theorem QlI {a b:List Int} (ha:a.Nodup) (hb:b.Nodup) (h: ∀e,e∈a↔e∈b):a.Perm b:=(List.perm_ext_iff_of_nodup ha hb).2 h
theorem Fe.left_perm {p:Pr} {x:Pl} (h:Fe p x) (d:Int):(wo d x.Left).Perm (Qg7 p x d):=by
 refine QlI (h.left_nodup.filter _) (Qoh (QkF p x d)) fun e=> ?_
 rw[Qh6]
 unfold wo
 rw[List.mem_filter]
 simp only[Bool.not_eq_true',decide_eq_false_iff_not]
 exact ⟨fun ⟨h1,h2⟩=>⟨h.lft e h1,h2,h1⟩,fun ⟨_,h1,h2⟩=>⟨h2,h1⟩⟩
theorem Fe.left_sort {p:Pr} {x:Pl} (h:Fe p x) (hl:x.Left.length≤1000) (d:Int):Qio (wo d x.Left)=some (Qg7 p x d):=by
 have h1:=Qj8 d x.Left;unfold Qio
 rw[if_pos (by omega)]
 congr 1
 refine List.Perm.eq_of_pairwise (le:=(· ≤ ·)) (fun a b _ _=>Int.le_antisymm) (Qdw _) (List.Pairwise.imp (fun h=>by omega) (QkF p x d)) ((Qdv _).trans (h.left_perm d))
end Go.Proofs.YthpgjbbjpfiniaaGreat
namespace Go.Proofs.YthpgjbbjpfiniaaGreat
open Go.RowKit
set_option linter.unusedSimpArgs false
set_option linter.unusedVariables false
abbrev Ra:=Qb
theorem QoA (rec_:List Ra→Int→Int→Int→Option (List Ra)) (F:Nat) (d:List Ra) (a m b:Int):Y9 rec_ F d a m b=Qed Q6 rec_ F d a m b:=rfl
theorem Qj0: ∀F:Nat,Yb F=QjF Q6 F
 | 0=>rfl
 | F+1=>by
  funext d a m b
  show Y9 (Yb F) F d a m b=Qed Q6 (QjF Q6 F) F d a m b
  rw[Qj0 F];exact QoA _ _ _ _ _ _
theorem Qqv (F:Nat) (n s:Int):Zd F n s=QgL Q6 F n s:=by
 funext j
 unfold Zd QgL
 rw[Qj0]
theorem Qqw (F:Nat) (n:Int):Ze F n=QgM Q6 F n:=by
 funext j
 unfold Ze QgM
 simp only[Qj0,Qqv]
theorem Qoz (F:Nat) (d:List Ra):Yq F d=Qi4 Q6 F d:=by
 unfold Yq Qi4 ZQ gSt
 simp only[Qqw]
 rfl
theorem QlP {F:Nat} {L:List Ra} (hn:L.length≤1000) (hF:40000≤F) (hb: ∀x∈L,QbK x): ∃L',Yq F L=some L'∧Srt Wf L'∧YP Wf L L':=by
 rw[Qoz]
 exact QkA (α:=Ra) (k:=Wf) (cmp:=Q6) (Pv:=QbK) (fun x y hx hy=>QhC hx hy) (by omega) (by omega) hb
theorem QhN {α ρ:Type} {step:Nat→α→Option ρ} {fin r:ρ}: ∀(l:List α) (k i:Nat) (y:α),l[i]? =some y→step (k+i) y=some r→(∀(j:Nat) (z:α),j<i→l[j]? =some z→step (k+j) z=none)→YI step fin k l=r
 | [],_,_,_,h,_,_=>by simp at h
 | x::l,k,0,y,h,hs,_=>by
  simp at h;subst h
  simp only[YI]
  rw[Nat.add_zero] at hs
  rw[hs]
 | x::l,k,i+1,y,h,hs,hn=>by
  have h0:=hn 0 x (by omega) rfl
  rw[Nat.add_zero] at h0
  simp only[YI,h0]
  exact QhN l (k+1) i y (by simpa using h) (by rw[show k+1+i=k+(i+1) by omega];exact hs) fun j z hj hz=>by
   have:=hn (j+1) z (by omega) (by simpa using hz)
   rwa [show k+(j+1)=k+1+j by omega] at this
def tO (x:Pl) (d v:Int):To:=⟨v,wo d (ofP x v).Stops⟩
def bsO (F:Nat) (p:Pr) (x:Pl) (d v:Int):Option Op:=V0 F p d ⟨tO x d v,0⟩
def mvR (F:Nat) (p:Pr) (x:Pl) (d v:Int):Option Pl:=(bsO F p x d v).map fun y=>QdT p x d v y.tour
def QjD:Option Pl→Pl×Bool
 | some y=>(y,true)
 | none=>(⟨[],[]⟩,false)
def stK (x:Pl) (d v:Int) (b:To) (k:Nat):List To:=((List.range k).map (stB x d v b)).filter Qbm
theorem Qir (x:Pl) (d v:Int) (b:To) (k:Nat):stK x d v b (k+1)=stK x d v b k++if Qbm (stB x d v b k)=true then [stB x d v b k] else []:=by
 unfold stK
 rw[List.range_succ,List.map_append,List.filter_append]
 simp[List.filter_cons]
theorem QmN (x:Pl) (d v:Int) (b:To) (k:Nat):(stK x d v b k).length≤k:=Nat.le_trans (List.length_filter_le _ _) (by simp)
theorem QkK {F:Nat} (hF:40000≤F) {p:Pr} {x:Pl} (hx:x.Tours.length≤1000) (hs: ∀v,(ofP x v).Stops.length≤1000) (hv:p.Vehicles.length≤1000) (d v:Int) {b:To} (hb:b.Stops.length≤1000) :
  iter (JY F p x d v b.Vehicle b.Stops) (((p.Vehicles.length:Nat):Int).toNat+1) ([],0)=some (stK x d v b p.Vehicles.length):=by
 have:=YX (body:=JY F p x d v b.Vehicle b.Stops) p.Vehicles (stK x d v b) (fun m k=>(m,k)) (fun _ _=>none) (stK x d v b p.Vehicles.length) (by omega) (fun k y hk _=> ?_) (fun _=>by simp[JY,oun]) (((p.Vehicles.length:Nat):Int).toNat+1) (by simp)
 ·rw[QW _ _ (fun _ _ _=>rfl)] at this
  exact this
 ·have h0:=Qt hk;have h1:((k:Int)<((p.Vehicles.length:Nat):Int)):=by omega
  have hl:=QmN x d v b k;have fin: ∀t:To,t=stB x d v b k→t.Stops.length≤1000→(Option.bind (Option.bind (W9 (Qa.mk t.Vehicle t.Stops)) fun r7=>bif r7 then Option.bind (Z0 (stK x d v b k) [(Qa.mk t.Vehicle t.Stops)]) fun l1=>some l1 else some (stK x d v b k)) fun f6 =>
    some (Sum.inl (f6,w64 ((k:Int)+1))))=some (Je none (stK x d v b (k+1),w64 ((k:Int)+1)):(List To×Int)⊕List To):=fun t ht hl2=>by
   rw[(Qgv (t:=⟨t.Vehicle,t.Stops⟩) (by simpa using (by omega:t.Stops.length≤1000000))).1,Qir,←ht]
   cases Qbm t with
   | true =>
    simp only[Option.bind_some,cond_true]
    rw[Yj (by simp;omega)]
    rfl
   | false=>simp[Je]
  by_cases h:(k:Int)=v
  ·have ht:b=stB x d v b k:=by unfold stB;rw[if_pos h]
   have h1v:v<((p.Vehicles.length:Nat):Int):=by omega
   simp only[JY,oun,h1v,decide_true,cond_true,h,Bool.not_true,cond_false,Option.bind_some]
   rw[←h]
   have:=fin b ht hb
   rw[h] at this ⊢
   exact this
  ·have ht:(⟨(k:Int),wo d (ofP x (k:Int)).Stops⟩:To)=stB x d v b k:=by unfold stB;rw[if_neg h]
   simp only[JY,oun,h1,decide_true,cond_true,h,decide_false,Bool.not_false,(Qhp (x:=x) (k:Int) hx).1,Option.bind_some,Qfy hF d (hs k)]
   exact fin ⟨(k:Int),wo d (ofP x (k:Int)).Stops⟩ ht (Nat.le_trans (Qj8 _ _) (hs k))
theorem QkL {F:Nat} (hF:40000≤F) {p:Pr} {x:Pl} (hx:x.Tours.length≤1000) (hs: ∀v,(ofP x v).Stops.length≤1000) (hv:p.Vehicles.length≤1000) (d:Int) {v:Nat} (hvv:v<p.Vehicles.length) {b:To} (hb:b.Stops.length≤1000) {e:Int} (hbe:Zo F p (tO x d v) d=some (b,e)) :
  iter (ZP F p x d v) (((p.Vehicles.length:Nat):Int).toNat+1) ([],0)=some (if e=0 then .inl (stK x d v b p.Vehicles.length) else .inr (⟨[],[]⟩,false)):=by
 have:=YX (body:=ZP F p x d v) p.Vehicles (stK x d v b) (fun m k=>(m,k)) (fun k _=>if k=v∧e≠0 then some (.inr (⟨[],[]⟩,false)) else none) (.inl (stK x d v b p.Vehicles.length)) (by omega) (fun k y hk hno=> ?_) (fun _=>by simp[ZP,oun]) (((p.Vehicles.length:Nat):Int).toNat+1) (by simp)
 ·have e0:(stK x d v b 0,(0:Int))=(([]:List To),(0:Int)):=rfl;refine this.trans ?_
  by_cases he:e=0
  ·rw[if_pos he,QW _ _ (fun i y _=>by simp[he])]
  ·rw[if_neg he,QhN p.Vehicles 0 v p.Vehicles[v] (List.getElem?_eq_getElem hvv) (r:= .inr (⟨[],[]⟩,false)) (by simp[he]) (fun j z hj _=>by simp;omega)]
 ·have h0:=Qt hk;have h1:((k:Int)<((p.Vehicles.length:Nat):Int)):=by omega
  have hl:=QmN x d v b k
  by_cases h:k=v
  ·subst h;have ht:b=stB x d k b k:=by unfold stB;rw[if_pos rfl]
   simp only[ZP,oun,h1,decide_true,cond_true,(Qhp (x:=x) (k:Int) hx).2,Option.bind_some,QkS d (show (ofP x (k:Int)).Stops.length≤1000000 by have:=hs k;omega)]
   have hbe':Zo F p (Qa.mk (k:Int) (wo d (ofP x (k:Int)).Stops)) d=some (b,e):=hbe
   rw[hbe']
   simp only[Option.bind_some]
   by_cases he:e=0
   ·simp only[he,decide_true,Bool.not_true,cond_false,Option.bind_some,QI]
    rw[(Qgv (t:=⟨b.Vehicle,b.Stops⟩) (by simpa using (by omega:b.Stops.length≤1000000))).2,Qir,←ht]
    cases Qbm b with
    | true =>
     simp only[Option.bind_some,cond_true]
     rw[Yj (by simp;omega)]
     simp[Je,QI]
    | false=>simp[Je,QI]
   ·simp[he,Je,QI]
  ·have hkv: ¬((k:Int)=(v:Int)):=by omega
   have ht:(⟨(k:Int),wo d (ofP x (k:Int)).Stops⟩:To)=stB x d v b k:=by unfold stB;rw[if_neg hkv]
   have hl2:=Nat.le_trans (Qj8 d (ofP x (k:Int)).Stops) (hs k)
   simp only[ZP,oun,h1,decide_true,cond_true,(Qhp (x:=x) (k:Int) hx).2,Option.bind_some,QkS d (show (ofP x (k:Int)).Stops.length≤1000000 by have:=hs k;omega),hkv,decide_false,cond_false,QI]
   rw[(Qgv (t:=⟨(k:Int),wo d (ofP x (k:Int)).Stops⟩) (by simpa using (by omega:(wo d (ofP x (k:Int)).Stops).length≤1000000))).2,Qir,←ht]
   cases Qbm ⟨(k:Int),wo d (ofP x (k:Int)).Stops⟩ with
   | true =>
    simp only[Option.bind_some,cond_true]
    rw[Yj (by simp;omega)]
    simp[Je,QI,h]
   | false=>simp[Je,QI,h]
theorem QkM {p:Pr} {x:Pl} (hl:x.Left.length≤1000) (hd:p.Demands.length≤1000) (d:Int) :
  iter (JB p x d) (((p.Demands.length:Nat):Int).toNat+1) ([],0)=some (Qg7 p x d):=by
 have:=YX (body:=JB p x d) p.Demands (fun k=>((List.range k).map fun k:Nat=>(k:Int)).filter fun k=> !decide (k=d)&&decide (k∈x.Left)) (fun m k=>(m,k)) (fun _ _=>none) (Qg7 p x d) (by omega) (fun k y hk _=> ?_) (fun _=>by simp[JB,oun,Qg7]) (((p.Demands.length:Nat):Int).toNat+1) (by simp)
 ·rw[QW _ _ (fun _ _ _=>rfl)] at this
  exact this
 ·have h0:=Qt hk;have h1:((k:Int)<((p.Demands.length:Nat):Int)):=by omega
  have hl2:(((List.range k).map fun k:Nat=>(k:Int)).filter fun k=> !decide (k=d)&&decide (k∈x.Left)).length≤k:=Nat.le_trans (List.length_filter_le _ _) (by simp)
  simp only[JB,oun,h1,decide_true,cond_true,Qn6 (k:Int) (show x.Left.length≤1000000 by omega)]
  rw[List.range_succ,List.map_append,List.filter_append]
  generalize (((List.range k).map fun k:Nat=>(k:Int)).filter fun k=> !decide (k=d)&&decide (k∈x.Left))=A at *
  by_cases e1:(k:Int)=d
  ·simp[e1,Je]
  ·by_cases e2:(k:Int)∈x.Left
   ·simp only[e1,e2,decide_false,decide_true,Bool.not_false,cond_true,Option.bind_some]
    rw[Yj (by simp;omega)]
    simp[Je,e1,e2]
   ·simp[e1,e2,Je]
theorem Qnk {F:Nat} (hF:40000≤F) {p:Pr} (hn:p.Road.Edges.length≤600) {x:Pl} (h:Fe p x) (hx:x.Tours.length≤1000) (hl:x.Left.length≤1000) (hv:p.Vehicles.length≤1000) {d v:Nat} (hdd:d<p.Demands.length) (hvv:v<p.Vehicles.length) :
  VP F p x d v=some (QjD (mvR F p x d v))∧Vp F p x d v=some (QjD (mvR F p x d v))∧(∀y,bsO F p x d v=some y→IsO p (tO x d v) d y∧y.tour.Stops.length≤40):=by
 have hs: ∀v,(ofP x v).Stops.length≤1000:=fun v=>by have:=h.of_len v;omega
 have hts:(tO x d v).Stops.length≤1000:=Nat.le_trans (Qj8 _ _) (hs _);have hdl:=h.ok.dl;obtain ⟨L,e,h1,h2,h3,h4⟩:=Qa9 hF p hn (tO x d v) hts d;have hbad:Qjx p (tO x d v) d=false:=by
  unfold Qjx tO
  simp;omega
 have he:=h4 h.chk hbad
 rw[show decide ((d:Int)∈(tO x d v).Stops)=false from decide_eq_false (Qmf (d:Int) _)] at he
 have he:e=0:=he;subst he;rcases h3 with ⟨h3,_⟩ | ⟨_,h3⟩
 ·exact absurd rfl h3
 obtain ⟨e',b1,b2,_,b4⟩:=Qjs h2 (.inr ⟨rfl,h3⟩);have hB:=(Qhq hF p hn (tO x d v) hts d).2;have hbs:bsO F p x d v=L.head? :=by
  unfold bsO V0
  rw[h1]
  cases L<;>rfl
 have hisO: ∀y,bsO F p x d v=some y→IsO p (tO x d v) d y∧y.tour.Stops.length≤40:=fun y hy=>Qn7 (x:=⟨tO x d v,0⟩) hy ⟨L,0,h1,.inr ⟨rfl,h3⟩⟩;have hbl:(hdT L).Stops.length≤1000:=by
  cases L with
  | nil=>simp[hdT]
  | cons y M=>have:=(hisO y (by rw[hbs];rfl)).2;simp only[hdT];omega
 rw[b1] at hB
 have hB':V8 F p (Qa.mk (v:Int) (wo (d:Int) (ofP x (v:Int)).Stops)) d=some (hdT L,e'):=hB;refine ⟨?_,?_,hisO⟩
 ·unfold VP
  simp only[(Qhp (x:=x) (v:Int) hx).1,Option.bind_some,Qfy hF (d:Int) (hs v),hB',oun]
  cases L with
  | nil =>
   rw[b4 rfl rfl,mvR,hbs]
   rfl
  | cons y M =>
   have he':e'=0:=b2.2 (by simp)
   simp only[he',decide_true,Bool.not_true,cond_false]
   rw[QkK hF hx hs hv (d:Int) (v:Int) hbl,Qfy hF (d:Int) hl]
   simp only[Option.bind_some]
   rw[h.left_sort hl,mvR,hbs]
   rfl
 ·unfold Vp
  rw[QkL hF hx hs hv (d:Int) hvv hbl b1]
  cases L with
  | nil =>
   rw[b4 rfl rfl,mvR,hbs]
   rfl
  | cons y M =>
   have he':e'=0:=b2.2 (by simp)
   rw[if_pos he']
   simp only[Option.bind_some,QI]
   rw[QkM hl (by omega),mvR,hbs]
   rfl
theorem Qph {p:Pr} {x:Pl} (h:Fe p x) {d v:Nat} (hdd:d<p.Demands.length) (hvv:v<p.Vehicles.length) {y:Op} (hy:IsO p (tO x d v) d y) :
  Fe p (QdT p x d v y.tour)∧(QdT p x d v y.tour).Tours.Pairwise fun a b=>a.Vehicle<b.Vehicle:=by
 have hyv:y.tour.Vehicle=(v:Int):=by
  obtain ⟨i,_,hi⟩:=hy.cand
  rw[hi];rfl
 have hveh: ∀i:Nat,(stB x d v y.tour i).Vehicle=(i:Int):=fun i=>by
  unfold stB
  by_cases e:(i:Int)=(v:Int)
  ·rw[if_pos e,hyv,e]
  ·rw[if_neg e]
 have hasc:(QdT p x d v y.tour).Tours.Pairwise fun a b=>a.Vehicle<b.Vehicle:=by
  refine List.Pairwise.filter _ ?_
  rw[List.pairwise_map]
  exact List.Pairwise.imp (fun h=>by rw[hveh,hveh];omega) List.pairwise_lt_range
 have hcnt: ∀e:Nat,tn (QdT p x d v y.tour).Tours e=((List.range p.Vehicles.length).map fun i:Nat=>cn (stB x d v y.tour i).Stops e).sum:=fun e=>by
  show tn (((List.range p.Vehicles.length).map (stB x d v y.tour)).filter Qbm) e=_
  have key: ∀ts:List To,tn (ts.filter Qbm) e=(ts.map fun t=>cn t.Stops e).sum:=by
   intro ts
   induction ts with
   | nil=>rfl
   | cons t ts ih =>
    rw[List.filter_cons]
    by_cases hs:Qbm t=true
    ·rw[if_pos hs]
     simp only[tn,List.map_cons,List.sum_cons] at ih ⊢
     rw[ih]
    ·rw[if_neg hs,ih]
     have:cn t.Stops e=0:=by
      unfold cn
      rw[List.count_eq_zero]
      intro hm;refine hs ?_;unfold Qbm
      rw[List.any_eq_true]
      exact ⟨_,hm,by simp⟩
     simp[this]
  rw[key,List.map_map]
  rfl
 have hcE: ∀e i:Nat,e≠d→cn (stB x d v y.tour i).Stops e=cn (ofP x (i:Int)).Stops e:=fun e i hed=>by
  have hed':(e:Int)≠(d:Int):=by omega
  unfold stB cn
  by_cases hi:(i:Int)=(v:Int)
  ·rw[if_pos hi]
   obtain ⟨j,_,hj⟩:=hy.cand
   rw[hj,QbV _ _ _ (by omega),if_neg hed']
   show (wo (d:Int) (ofP x (v:Int)).Stops).count (e:Int)+0=_
   rw[QiA _ hed',hi];rfl
  ·rw[if_neg hi]
   exact QiA _ hed'
 have hcD: ∀i:Nat,cn (stB x d v y.tour i).Stops d=if v=i then 1 else 0:=fun i=>by
  unfold stB cn
  by_cases hi:(i:Int)=(v:Int)
  ·rw[if_pos hi,if_pos (by omega)]
   obtain ⟨j,_,hj⟩:=hy.cand
   rw[hj,QbV _ _ _ (by omega),if_pos rfl]
   show (wo (d:Int) (ofP x (v:Int)).Stops).count (d:Int)+1=1
   rw[List.count_eq_zero.2 (Qmf _ _)]
  ·rw[if_neg hi,if_neg (by omega)]
   exact List.count_eq_zero.2 (Qmf _ _)
 refine ⟨⟨h.ok,h.chk,fun t ht=> ?_,List.Pairwise.imp (fun h=>by omega) hasc,fun e he=>(Qh6.1 he).1,fun e he=> ?_⟩,hasc⟩
 ·obtain ⟨h1,h2⟩:=List.mem_filter.1 ht;obtain ⟨i,_,rfl⟩:=List.mem_map.1 h1;unfold stB at h2 ⊢
  by_cases hi:(i:Int)=(v:Int)
  ·rw[if_pos hi];exact hy.ok
  ·rw[if_neg hi] at h2 ⊢
   rcases Qhj x (i:Int) with ⟨h3,h4⟩ | h3
   ·have:=h.less (d:=(d:Int)) (by omega) (by omega) h3
    rw[h4] at this
    exact this
   ·rw[h3] at h2
    simp[Qbm,wo] at h2
 ·show tn (QdT p x d v y.tour).Tours e+cn (Qg7 p x d) e=1
  rw[hcnt]
  by_cases hed:e=d
  ·subst hed;have e1:((List.range p.Vehicles.length).map fun i:Nat=>cn (stB x e v y.tour i).Stops e)=(List.range p.Vehicles.length).map fun i=>if v=i then 1 else (fun _=>0) i:=List.map_congr_left fun i _=>hcD i
   rw[e1,QmP 1 (fun _=>0) hvv rfl,Qk5]
   have:cn (Qg7 p x e) e=0:=by
    unfold cn
    rw[List.count_eq_zero]
    exact fun hm=>(Qh6.1 hm).2.1 rfl
   omega
  ·have e1:((List.range p.Vehicles.length).map fun i:Nat=>cn (stB x d v y.tour i).Stops e)=(List.range p.Vehicles.length).map fun i:Nat=>cn (ofP x (i:Int)).Stops e:=List.map_congr_left fun i _=>hcE e i hed
   rw[e1,h.sum]
   have h1:=h.one e he;have h2:cn (Qg7 p x d) e=cn x.Left e:=by
    unfold cn
    rw[←(h.left_perm d).count_eq,QiA _ (by omega)]
   rw[h2];exact h1
end Go.Proofs.YthpgjbbjpfiniaaGreat
namespace Go.Proofs.YthpgjbbjpfiniaaGreat
open Go.RowKit
set_option linter.unusedSimpArgs false
set_option linter.unusedVariables false
theorem Qkp {p:Pr} (hp:OkP p) {ts:List To} (h:ts.length≤30):0≤Zm p ts∧Zm p ts<1000000000000:=by
 have:=QgS (f:=fun t=>(YF p t).1) (B:=262400000) (l:=ts) (fun t _=>QgH hp t);unfold Zm
 omega
def J4 (p:Pr) (y:Pl):Ra:=⟨y,Zm p y.Tours⟩
structure Qlg (p:Pr) (z:Ra):Prop where
 eq:z=J4 p z.plan
 fe:Fe p z.plan
 asc:z.plan.Tours.Pairwise fun a b=>a.Vehicle<b.Vehicle
 tl:z.plan.Tours.length≤p.Vehicles.length
 ll:z.plan.Left.length≤p.Demands.length
theorem QmH {p:Pr} (hp:OkP p) {y:Pl} (h:y.Tours.length≤30):QbK (J4 p y):=Qkp hp h
theorem Qlg.cost {p:Pr} {z:Ra} (h:Qlg p z) (hv:p.Vehicles.length≤30):QbK z:=by
 rw[h.eq]
 exact QmH h.fe.ok (Nat.le_trans h.tl hv)
def mvs (F:Nat) (p:Pr) (x:Pl) (d v:Nat):Option Ra:=(mvR F p x d v).bind fun y=>if Wf (J4 p y)<Wf (J4 p x) then some (J4 p y) else none
def QcR (F:Nat) (p:Pr) (x:Pl) (d:Nat):Nat→List Ra
 | 0=>[]
 | n+1=>QcR F p x d n++(mvs F p x d n).toList
def QaZ (F:Nat) (p:Pr) (x:Pl):Nat→List Ra
 | 0=>[]
 | m+1=>QaZ F p x m++QcR F p x m p.Vehicles.length
theorem Qf2 (F:Nat) (p:Pr) (x:Pl) (d:Nat): ∀n,(QcR F p x d n).length≤n
 | 0=>Nat.le_refl _
 | n+1=>by
  have:=Qf2 F p x d n
  simp only[QcR,List.length_append]
  cases mvs F p x d n<;>simp<;>omega
theorem QfG (F:Nat) (p:Pr) (x:Pl): ∀m,(QaZ F p x m).length≤m*p.Vehicles.length
 | 0=>by simp[QaZ]
 | m+1=>by
  have h1:=QfG F p x m;have h2:=Qf2 F p x m p.Vehicles.length
  simp only[QaZ,List.length_append,Nat.succ_mul]
  omega
theorem Qim {F:Nat} {p:Pr} {x:Pl} {d:Nat} {z:Ra}: ∀{n:Nat},z∈QcR F p x d n→ ∃v,v<n∧mvs F p x d v=some z
 | 0,h=>by cases h
 | n+1,h=>by
  rcases List.mem_append.1 h with h | h
  ·obtain ⟨v,h1,h2⟩:=Qim h;exact ⟨v,by omega,h2⟩
  ·refine ⟨n,by omega,?_⟩;cases hm:mvs F p x d n with
   | none=>rw[hm] at h;simp at h
   | some y=>rw[hm] at h;simp at h;rw[h]
theorem Qhs {F:Nat} {p:Pr} {x:Pl} {z:Ra}: ∀{m:Nat},z∈QaZ F p x m→ ∃d v,d<m∧v<p.Vehicles.length∧mvs F p x d v=some z
 | 0,h=>by cases h
 | m+1,h=>by
  rcases List.mem_append.1 h with h | h
  ·obtain ⟨d,v,h1,h2⟩:=Qhs h;exact ⟨d,v,by omega,h2⟩
  ·obtain ⟨v,h1,h2⟩:=Qim h;exact ⟨m,v,by omega,h1,h2⟩
structure Cx (F:Nat) (p:Pr) (x:Pl):Prop where
 hF:40000≤F
 hn:p.Road.Edges.length≤600
 hv:p.Vehicles.length≤30
 fe:Fe p x
 tl:x.Tours.length≤30
 ll:x.Left.length≤100
theorem Qnj (p:Pr) (x:Pl) (d v:Int) (b:To):(QdT p x d v b).Tours.length≤p.Vehicles.length∧(QdT p x d v b).Left.length≤p.Demands.length :=
 ⟨Nat.le_trans (List.length_filter_le _ _) (by simp),Nat.le_trans (List.length_filter_le _ _) (by simp)⟩
theorem QlN (L:List Ra) (hl:L.length≤10000):iter (Wg L) (((L.length:Nat):Int).toNat+1) ([],0)=some (L.map Qb.plan):=by
 have:=YX (body:=Wg L) L (fun k=>(L.take k).map Qb.plan) (fun m k=>(m,k)) (fun _ _=>none) (L.map Qb.plan) (by omega) (fun k y hk _=> ?_) (fun _=>by simp[Wg,oun]) (((L.length:Nat):Int).toNat+1) (by simp)
 ·rw[QW _ _ (fun _ _ _=>rfl)] at this
  simpa using this
 ·have h0:=Qt hk;have h1:((k:Int)<((L.length:Nat):Int)):=by omega
  simp only[Wg,oun,h1,decide_true,cond_true,Qs,hk,Option.bind_some]
  rw[Yj (by simp;omega),YK hk]
  simp[Je]
section
variable {F:Nat} {p:Pr} {x:Pl} (h:Cx F p x)
include h
theorem Cx.move {d v:Nat} (hd:d<p.Demands.length) (hv:v<p.Vehicles.length):VP F p x d v=some (QjD (mvR F p x d v))∧Vp F p x d v=some (QjD (mvR F p x d v))∧ ∀y,mvR F p x d v=some y→Qlg p (J4 p y)∧Zl F p y=some (Zm p y.Tours,0)∧Yf p y=some (Zm p y.Tours,0):=by
 have htl:=h.tl;have hll:=h.ll;have hvl:=h.hv;obtain ⟨m1,m2,m3⟩:=Qnk h.hF h.hn h.fe (by omega) (by omega) (by omega) hd hv;refine ⟨m1,m2,fun y hy=> ?_⟩;unfold mvR at hy;cases hb:bsO F p x d v with
 | none=>rw[hb] at hy;cases hy
 | some o =>
  rw[hb] at hy
  injection hy with hy
  have hy:QdT p x d v o.tour=y:=hy;obtain ⟨q1,q2⟩:=Qph h.fe hd hv (m3 o hb).1
  rw[hy] at q1 q2
  have ⟨l1,l2⟩:=Qnj p x d v o.tour
  rw[hy] at l1 l2
  have hdl:=h.fe.ok.dl;have hpl:=QmG h.hF h.hn h.fe.ok h.fe.chk y (by omega) (by omega) q2 q1.drv q1.lft q1.one;refine ⟨⟨rfl,q1,q2,l1,l2⟩,hpl,?_⟩;obtain ⟨s,e,a1,a2,a3,_⟩:=Qew h.hF h.hn y (by omega) (by omega)
  rw[hpl] at a1
  injection a1 with a1
  rw[a3,←a1]
theorem Cx.mvs_ok {d v:Nat} (hd:d<p.Demands.length) (hv:v<p.Vehicles.length) {z:Ra} (hz:mvs F p x d v=some z):Qlg p z∧Wf z<Wf (J4 p x):=by
 obtain ⟨_,_,m3⟩:=h.move hd hv;unfold mvs at hz;cases hm:mvR F p x d v with
 | none=>rw[hm] at hz;cases hz
 | some y =>
  rw[hm] at hz
  simp only[Option.bind_some] at hz
  split at hz
  ·injection hz with hz
   subst hz;exact ⟨(m3 y hm).1,by assumption⟩
  ·cases hz
theorem Cx.all_ok {z:Ra} (hz:z∈QaZ F p x p.Demands.length):Qlg p z∧Wf z<Wf (J4 p x):=by
 obtain ⟨d,v,h1,h2,h3⟩:=Qhs hz;exact h.mvs_ok h1 h2 h3
theorem Cx.part_ok {d n:Nat} (hd:d<p.Demands.length) (hn:n≤p.Vehicles.length) {z:Ra} (hz:z∈QaZ F p x d++QcR F p x d n):Qlg p z:=by
 rcases List.mem_append.1 hz with hz | hz
 ·obtain ⟨d',v,h1,h2,h3⟩:=Qhs hz;exact (h.mvs_ok (by omega) h2 h3).1
 ·obtain ⟨v,h1,h2⟩:=Qim hz;exact (h.mvs_ok hd (by omega) h2).1
theorem Cx.part_len {d n:Nat} (hd:d<p.Demands.length) (hn:n≤p.Vehicles.length):(QaZ F p x d++QcR F p x d n).length≤990:=by
 have h1:=QfG F p x d;have h2:=Qf2 F p x d n;have h3:=h.fe.ok.dl;have h4:=h.hv;have:d*p.Vehicles.length≤31*30:=Nat.mul_le_mul (by omega) h4
 simp only[List.length_append]
 omega
theorem Cx.xOk:QbK (J4 p x):=QmH h.fe.ok h.tl
theorem Cx.y_pro {y:Pl} (hy:Qlg p (J4 p y)) (hpl:Zl F p y=some (Zm p y.Tours,0)) {q:List Ra} (hq:q.length≤1000) :
  Vr F p x (Zm p x.Tours) q y=some (q++(if Wf (J4 p y)<Wf (J4 p x) then some (J4 p y) else none).toList):=by
 unfold Vr Qbv
 rw[hpl]
 obtain ⟨z,hz,hzz⟩:=QhC (hy.cost h.hv) h.xOk;have hz':Q6 (Qb.mk y (Zm p y.Tours)) (Qb.mk x (Zm p x.Tours))=some z:=hz
 simp only[Option.bind_some,oun,decide_true,cond_true,hz']
 by_cases hlt:Wf (J4 p y)<Wf (J4 p x)
 ·rw[if_pos hlt,decide_eq_true (hzz.2 hlt)]
  simp only[cond_true]
  rw[Yj (by simp;omega)]
  rfl
 ·rw[if_neg hlt,decide_eq_false (fun hh=>hlt (hzz.1 hh))]
  simp
theorem Cx.row_pro {d:Nat} (hd:d<p.Demands.length) {q:List Ra} (hq:q.length≤960) :
  iter (Zz F p x (Zm p x.Tours) p x d) (((p.Vehicles.length:Nat):Int).toNat+1) (0,q)=some (q++QcR F p x d p.Vehicles.length):=by
 have hvl:=h.hv;have:=YX (body:=Zz F p x (Zm p x.Tours) p x d) p.Vehicles (fun k=>q++QcR F p x d k) (fun m k=>(k,m)) (fun _ _=>none) (q++QcR F p x d p.Vehicles.length) (by omega) (fun k y hk _=> ?_) (fun _=>by simp[Zz,oun]) (((p.Vehicles.length:Nat):Int).toNat+1) (by simp)
 ·rw[QW _ _ (fun _ _ _=>rfl)] at this
  simpa [QcR] using this
 ·have h0:=Qt hk;have h1:((k:Int)<((p.Vehicles.length:Nat):Int)):=by omega
  obtain ⟨m1,_,m3⟩:=h.move hd h0;have hrl:=Qf2 F p x d k
  simp only[Zz,oun,h1,decide_true,cond_true,m1,Option.bind_some]
  cases hm:mvR F p x d k with
  | none=>simp[QjD,Je,QcR,mvs,hm]
  | some y =>
   obtain ⟨a1,a2,_⟩:=m3 y hm
   simp only[QjD,cond_true]
   rw[h.y_pro a1 a2 (by simp;omega)]
   simp[Je,QcR,mvs,hm]
theorem Cx.all_pro:J7 F p x (Zm p x.Tours) [] p x=some (QaZ F p x p.Demands.length):=by
 have hdl:=h.fe.ok.dl;unfold J7;have:=YX (body:=Jc F p x (Zm p x.Tours) p x) p.Demands (fun k=>QaZ F p x k) (fun m k=>(k,m)) (fun _ _=>none) (QaZ F p x p.Demands.length) (by omega) (fun k y hk _=> ?_) (fun _=>by simp[Jc,oun]) (((p.Demands.length:Nat):Int).toNat+1) (by simp)
 ·rw[QW _ _ (fun _ _ _=>rfl)] at this
  have e:(QaZ F p x 0)=[]:=rfl
  rw[e] at this
  rw[this];rfl
 ·have h0:=Qt hk;have h1:((k:Int)<((p.Demands.length:Nat):Int)):=by omega
  have hl:=QfG F p x k;have hvl:=h.hv;have:k*p.Vehicles.length≤31*30:=Nat.mul_le_mul (by omega) hvl
  simp only[Jc,oun,h1,decide_true,cond_true]
  rw[h.row_pro h0 (by omega)]
  simp[Je,QaZ]
theorem Cx.total:Zl F p x=some (Zm p x.Tours,0)∧QO p x=some 0∧Yf p x=some (Zm p x.Tours,0):=by
 obtain ⟨s,e,a1,a2,a3,a4⟩:=Qew h.hF h.hn x h.tl h.ll;have hbad: ∀(k:Nat) (t:To),x.Tours[k]? =some t→QcX p x.Tours k t=none:=fun k t hk=>by
  obtain ⟨u,hu⟩:=Qc1 (h.fe.drv t (List.mem_of_getElem? hk));have hany:(x.Tours.take k).any (fun u=>decide (u.Vehicle=t.Vehicle))=false:=by
   rw[List.any_eq_false]
   intro y hy he;obtain ⟨j,hj⟩:=List.getElem?_of_mem hy;have hjk:=Qt hj;have hkl:=Qt hk
   rw[Yk (Nat.le_of_lt hkl)] at hjk
   rw[List.getElem?_take,if_pos hjk] at hj
   have:=List.pairwise_iff_getElem.1 h.fe.dis j k (by omega) hkl hjk
   rw[List.getElem?_eq_getElem (by omega)] at hj hk
   injection hj with hj
   injection hk with hk
   rw[hj,hk,of_decide_eq_true he] at this
   exact this rfl
  unfold QcX
  rw[hany,hu]
  rfl
 have he:e=0:=by
  have hp:=h.fe.ok;have hdl:=hp.dl;have htl:=h.tl;have hll:=h.ll;have hall: ∀t∈x.Tours,(∀s∈t.Stops,okS p.Demands.length s)∧t.Stops.length≤40:=fun t htm=>by
   obtain ⟨u,hu⟩:=Qc1 (h.fe.drv t htm);exact (VB hp hu).2.2
  have q1:=QeO h.hF hp x h.tl
  rw[QW _ _ (fun i t hi=>by rw[Nat.zero_add,hbad i t hi];rfl)] at q1
  have q3:=(Qc7 (n:=p.Demands.length) x (fun _=>0) (by omega) (fun _=>Nat.zero_le _)).1;have q4:=(Qcp (n:=p.Demands.length) x (fun d=>0+cn x.Left d) (by omega) (fun d=>by have:=QiV x.Left d;omega) (fun t htm=>by have:=(hall t htm).2;omega) (fun t htm=>(hall t htm).1)).1;have hbl:Qfb p.Demands.length x.Left=false:=by
   unfold Qfb
   rw[List.any_eq_false]
   intro e he;have:=h.fe.lft e he
   simp;omega
  have hv:(vec p.Demands.length fun d=>0+cn x.Left d+tn x.Tours d)=vec p.Demands.length fun _=>1:=Qb5 fun d hd=>by have:=h.fe.one d hd;omega
  rw[hv] at q4
  rw[hbl] at q3
  have hmem: ∀c∈vec p.Demands.length (fun _=>1),c=(1:Int):=fun c hc=>by
   unfold vec at hc;obtain ⟨j,_,rfl⟩:=List.mem_map.1 hc
   rfl
  have b1:(vec p.Demands.length (fun _=>1)).any (fun c=>decide (1<c))=false:=by
   rw[List.any_eq_false];intro c hc;rw[hmem c hc];decide
  have b2:(vec p.Demands.length (fun _=>1)).any (fun c=>decide (c=0))=false:=by
   rw[List.any_eq_false];intro c hc;rw[hmem c hc];decide
  have hF:=h.hF;unfold Zl at a1
  rw[ZJ (by omega) _ h.hn,h.fe.chk] at a1
  simp only[Option.bind_some,decide_true,Bool.not_true,cond_false] at a1
  rw[q1] at a1
  simp only[Option.bind_some,QI] at a1
  rw[Qej _ (by omega)] at a1
  simp only[Option.bind_some] at a1
  rw[q3] at a1
  simp only[cond_false,Option.bind_some,QI] at a1
  rw[q4] at a1
  simp only[Option.bind_some] at a1
  rw[Qhh _ (by rw[VJ];omega),Qhl _ (by rw[VJ];omega),b1,b2] at a1
  simp only[Option.bind_some,cond_false,Option.some.injEq,Prod.mk.injEq] at a1
  exact a1.2.symm
 subst he;have:=(a4 rfl).1;subst this;exact ⟨a1,a2,a3⟩
theorem Cx.pro: ∃L,Ju F p x=some (L.map Qb.plan,0)∧Srt Wf L∧YP Wf (QaZ F p x p.Demands.length) L:=by
 have hdl:=h.fe.ok.dl;have hvl:=h.hv;have hl:=QfG F p x p.Demands.length;have h9:p.Demands.length*p.Vehicles.length≤32*30:=Nat.mul_le_mul (by omega) hvl;obtain ⟨L,s1,s2,s3⟩:=QlP (F:=F) (L:=QaZ F p x p.Demands.length) (by omega) h.hF (fun z hz=>(h.all_ok hz).1.cost hvl);have hl2:=s3.perm.length_eq;refine ⟨L,?_,s2,s3⟩;unfold Ju Qbv
 rw[h.total.1]
 simp only[Option.bind_some,oun,decide_true,Bool.not_true,cond_false]
 rw[h.all_pro]
 simp only[Option.bind_some]
 rw[s1]
 simp only[Option.bind_some]
 rw[QlN L (by omega)]
 rfl
end
end Go.Proofs.YthpgjbbjpfiniaaGreat
namespace Go.Proofs.YthpgjbbjpfiniaaGreat
open Go.RowKit
set_option linter.unusedSimpArgs false
set_option linter.unusedVariables false
abbrev rpl:Ra→Pl:=Qb.plan
abbrev rco:Ra→Int:=Qb.cost
theorem QmU (a b c d:Int):ZZ a b c d=some (decide (a<c)||(decide (a=c)&&decide (b<d))):=by
 unfold ZZ
 by_cases h:a<c
 ·simp[h]
 ·by_cases h2:a=c
  ·subst h2;simp
  ·simp[h,h2]
theorem Qht {a b:Ra} (ha:QbK a) (hb:QbK b):ZZ ((a.plan.Left.length:Nat):Int) a.cost ((b.plan.Left.length:Nat):Int) b.cost=some (decide (Wf a<Wf b)):=by
 rw[QmU]
 congr 1
 unfold Wf;obtain ⟨a0,a1⟩:=ha;obtain ⟨b0,b1⟩:=hb
 rw[Bool.eq_iff_iff]
 simp only[Bool.or_eq_true,Bool.and_eq_true,decide_eq_true_eq]
 omega
theorem Qos {c:Ra} (hc:QbK c): ∀(n:Nat) (Z R:List Ra) (f:Nat),Z.length=n→n<f→n≤100000→Srt Wf Z→(∀z∈Z,QbK z) →
  ∃Z1 Z2,Z=Z1++Z2∧iter (ZC ((Z++R).map rpl) ((Z++R).map rco) c.plan c.cost) f (n:Int)=some ((Z1.length:Nat):Int)∧(∀z∈Z1,Wf z≤Wf c)∧ ∀z∈Z2,Wf c<Wf z
 | _,_,_,0,_,h,_,_,_=>by omega
 | 0,Z,R,f+1,hZ,_,_,_,_=>by
  have:Z=[]:=List.eq_nil_of_length_eq_zero hZ;subst this;exact ⟨[],[],rfl,by simp[iter,ZC,QI],by simp,by simp⟩
 | n+1,Z,R,f+1,hZ,hf,hb,hs,ho=>by
  obtain ⟨Y,y,rfl⟩: ∃Y y,Z=Y++[y]:=by
   have:Z≠[]:=by intro e;rw[e] at hZ;simp at hZ
   exact ⟨Z.dropLast,Z.getLast this,(List.dropLast_concat_getLast this).symm⟩
  have hY:Y.length=n:=by simpa using hZ
  have h0:(0:Int)<((n+1:Nat):Int):=by omega
  have e1:w64 (((n+1:Nat):Int)-1)=(n:Int):=by rw[Yg (by omega) (by omega)];omega
  have g0:(Y++[y]++R)[n]? =some y:=by
   rw[List.append_assoc,List.getElem?_append_right (by omega),hY]
   simp
  have g1:((Y++[y]++R).map rpl)[n]? =some y.plan:=by rw[List.getElem?_map,g0];rfl
  have g2:((Y++[y]++R).map rco)[n]? =some y.cost:=by rw[List.getElem?_map,g0];rfl
  have hp:=List.pairwise_append.1 hs;have hk:=Qht hc (ho y (by simp))
  by_cases h:Wf c<Wf y
  ·obtain ⟨Z1,Z2,k1,k2,k3,k4⟩:=Qos hc n Y (y::R) f hY (by omega) (by omega) hp.1 (fun z hz=>ho z (by simp[hz]));refine ⟨Z1,Z2++[y],by rw[k1];simp,?_,k3,fun z hz=> ?_⟩
   ·have e2:Y++[y]++R=Y++y::R:=by simp
    rw[e2] at g1 g2 ⊢
    simp only[iter,ZC,h0,decide_true,cond_true,e1,Qs,g1,g2,Option.bind_some,hk,h,QI,k2]
   ·rcases List.mem_append.1 hz with hz | hz
    ·exact k4 z hz
    ·rw[List.mem_singleton.1 hz];exact h
  ·refine ⟨Y++[y],[],by simp,?_,fun z hz=> ?_,by simp⟩
   ·simp only[iter,ZC,h0,decide_true,cond_true,e1,Qs,g1,g2,Option.bind_some,hk,h,decide_false,cond_false,QI]
    rw[hZ]
   ·rcases List.mem_append.1 hz with hz | hz
    ·have:=hp.2.2 z hz y (by simp)
     omega
    ·rw[List.mem_singleton.1 hz];omega
theorem Qoi {α β γ:Type} (f:α→β) (g:α→γ) (Z1 Z2:List α) (x:α) (hl:(Z1++Z2).length≤100000):(Option.bind (WI ((Z1++Z2).map g) 0 ((Z1.length:Nat):Int)) fun l1 =>
      Option.bind (Z0 [] l1) fun l2 =>
      Option.bind (Z0 l2 [g x]) fun l3 =>
      Option.bind (WI ((Z1++Z2).map g) ((Z1.length:Nat):Int) ((((Z1++Z2).map g).length:Nat):Int)) fun l4 =>
      Option.bind (Z0 l3 l4) fun l5 =>
      Option.bind (WI ((Z1++Z2).map f) 0 ((Z1.length:Nat):Int)) fun l6 =>
      Option.bind (Z0 [] l6) fun l7 =>
      Option.bind (Z0 l7 [f x]) fun l8 =>
      Option.bind (WI ((Z1++Z2).map f) ((Z1.length:Nat):Int) ((((Z1++Z2).map f).length:Nat):Int)) fun l9 =>
      Option.bind (Z0 l8 l9) fun l10 =>
      some (l5,l10))=some ((Z1++x::Z2).map g,(Z1++x::Z2).map f):=by
 simp only[List.length_append] at hl
 rw[VR (by simp),Qbt (by simp),VR (by simp),Qbt (by simp)]
 simp only[Option.bind_some]
 rw[Yj (by simp;omega)]
 simp only[Option.bind_some]
 rw[Yj (by simp;omega)]
 simp only[Option.bind_some]
 rw[Yj (by simp;omega)]
 simp only[Option.bind_some]
 rw[Yj (by simp;omega)]
 simp only[Option.bind_some]
 rw[Yj (by simp;omega)]
 simp only[Option.bind_some]
 rw[Yj (by simp;omega)]
 simp[List.map_append]
section
variable {F:Nat} {p:Pr} {x:Pl} (h:Cx F p x)
include h
theorem Cx.empty_total: ∃s e,Yf p ⟨[],[]⟩=some (s,e):=by
 obtain ⟨s,e,_,_,a3,_⟩:=Qew h.hF h.hn ⟨[],[]⟩ (by simp) (by simp);exact ⟨s,e,a3⟩
theorem Cx.row_ref {d:Nat} (hd:d<p.Demands.length): ∀(r v:Nat) (L:List Ra) (f:Nat),v+r=p.Vehicles.length→r<f→Srt Wf L→YP Wf (QaZ F p x d++QcR F p x d v) L →
  ∃L',iter (YT F p x (Zm p x.Tours) d) f (L.map rpl,L.map rco,(v:Int))=some (L'.map rpl,L'.map rco)∧Srt Wf L'∧YP Wf (QaZ F p x d++QcR F p x d p.Vehicles.length) L'
 | _,_,_,0,_,hf,_,_=>by omega
 | 0,v,L,f+1,hv,_,h1,h2=>by
  have hv:v=p.Vehicles.length:=by omega
  subst hv;refine ⟨L,?_,h1,h2⟩
  simp only[iter,YT,oun,Int.lt_irrefl,decide_false,cond_false,Option.bind_some,QI]
 | r+1,v,L,f+1,hv,hf,h1,h2=>by
  have hvv:v<p.Vehicles.length:=by omega
  have hvl:=h.hv;have hlt:((v:Int)<((p.Vehicles.length:Nat):Int)):=by omega
  have e2:w64 ((v:Int)+1)=((v+1:Nat):Int):=by rw[Yg (by omega) (by omega)];omega
  obtain ⟨_,m2,m3⟩:=h.move hd hvv;have hlen:L.length≤990:=by
   rw[←h2.perm.length_eq]
   exact h.part_len hd (by omega)
  have hok: ∀z∈L,QbK z:=fun z hz=>(h.part_ok hd (show v≤p.Vehicles.length by omega) (h2.perm.symm.subset hz)).cost hvl;have keep:mvs F p x d v=none→YP Wf (QaZ F p x d++QcR F p x d (v+1)) L:=fun hm=>by
   simp only[QcR,hm,Option.toList_none,List.append_nil]
   exact h2
  cases hm:mvR F p x d v with
  | none =>
   obtain ⟨s,e,ht⟩:=h.empty_total;obtain ⟨L',q1,q2,q3⟩:=Cx.row_ref hd r (v+1) L f (by omega) (by omega) h1 (keep (by unfold mvs;rw[hm];rfl));refine ⟨L',?_,q2,q3⟩
   rw[hm] at m2
   simp only[iter,YT,oun,hlt,decide_true,cond_true,m2,QjD,Option.bind_some,ht,Bool.not_false,e2,QI,q1]
  | some y =>
   obtain ⟨a1,a2,a3⟩:=m3 y hm
   rw[hm] at m2
   have hyc:=a1.cost hvl;have hb:ZZ ((y.Left.length:Nat):Int) (Zm p y.Tours) ((x.Left.length:Nat):Int) (Zm p x.Tours)=some (decide (Wf (J4 p y)<Wf (J4 p x))):=Qht hyc h.xOk
   by_cases hlt2:Wf (J4 p y)<Wf (J4 p x)
   ·have hms:mvs F p x d v=some (J4 p y):=by unfold mvs;rw[hm];simp only[Option.bind_some];rw[if_pos hlt2]
    have hF:=h.hF;obtain ⟨Z1,Z2,k1,k2,k3,k4⟩:=Qos (c:=J4 p y) hyc L.length L [] F rfl (by omega) (by omega) h1 hok
    rw[List.append_nil] at k2
    obtain ⟨j1,j2⟩:=QfR (k:=Wf) (x:=J4 p y) (by rw[←k1];exact h1) k4 k3
    rw[←k1] at j2
    have h3:YP Wf (QaZ F p x d++QcR F p x d (v+1)) (Z1++J4 p y::Z2):=by
     simp only[QcR,hms,Option.toList_some]
     rw[←List.append_assoc]
     exact YP.trans (h2.append (YP.refl _)) j2
    obtain ⟨L',q1,q2,q3⟩:=Cx.row_ref hd r (v+1) (Z1++J4 p y::Z2) f (by omega) (by omega) j1 h3;refine ⟨L',?_,q2,q3⟩;have hmi:=Qoi rco rpl Z1 Z2 (J4 p y) (by rw[←k1];omega)
    rw[←k1] at hmi
    have hmi':=hmi
    rw[List.length_map,List.length_map] at hmi'
    have k2':iter (ZC (L.map rpl) (L.map rco) y (Zm p y.Tours)) F ((L.length:Nat):Int)=some ((Z1.length:Nat):Int):=k2
    simp only[iter,YT,oun,hlt,decide_true,cond_true,m2,QjD,Option.bind_some,a3,Bool.not_true,cond_false,hb,hlt2,List.length_map,k2']
    have hmi2:_=_:=hmi'
    rw[show rpl (J4 p y)=y from rfl,show rco (J4 p y)=Zm p y.Tours from rfl] at hmi2
    rw[hmi2]
    simp only[Option.bind_some,e2,QI,q1]
   ·have hms:mvs F p x d v=none:=by unfold mvs;rw[hm];simp only[Option.bind_some];rw[if_neg hlt2]
    obtain ⟨L',q1,q2,q3⟩:=Cx.row_ref hd r (v+1) L f (by omega) (by omega) h1 (keep hms);refine ⟨L',?_,q2,q3⟩
    simp only[iter,YT,oun,hlt,decide_true,cond_true,m2,QjD,Option.bind_some,a3,Bool.not_true,cond_false,hb,hlt2,decide_false,Bool.not_false,e2,QI,q1]
theorem Cx.all_ref: ∀(r d:Nat) (L:List Ra) (f:Nat),d+r=p.Demands.length→r<f→Srt Wf L→YP Wf (QaZ F p x d) L →
  ∃L',iter (ZD F p x (Zm p x.Tours)) f (L.map rpl,L.map rco,(d:Int))=some (L'.map rpl)∧Srt Wf L'∧YP Wf (QaZ F p x p.Demands.length) L'
 | _,_,_,0,_,hf,_,_=>by omega
 | 0,d,L,f+1,hd,_,h1,h2=>by
  have hd:d=p.Demands.length:=by omega
  subst hd;refine ⟨L,?_,h1,h2⟩
  simp only[iter,ZD,oun,Int.lt_irrefl,decide_false,cond_false,Option.bind_some,QI]
 | r+1,d,L,f+1,hd,hf,h1,h2=>by
  have hdd:d<p.Demands.length:=by omega
  have hdl:=h.fe.ok.dl;have hlt:((d:Int)<((p.Demands.length:Nat):Int)):=by omega
  have e2:w64 ((d:Int)+1)=((d+1:Nat):Int):=by rw[Yg (by omega) (by omega)];omega
  obtain ⟨M,q1,q2,q3⟩:=h.row_ref hdd p.Vehicles.length 0 L (((p.Vehicles.length:Nat):Int).toNat+1) (by omega) (by simp) h1 (by simpa [QcR] using h2);obtain ⟨L',g1,g2,g3⟩:=Cx.all_ref r (d+1) M f (by omega) (by omega) q2 q3;refine ⟨L',?_,g2,g3⟩;have q1':iter (YT F p x (Zm p x.Tours) d) (((p.Vehicles.length:Nat):Int).toNat+1) (L.map rpl,L.map rco,0)=some (M.map rpl,M.map rco):=q1;have hb:ZD F p x (Zm p x.Tours) (L.map rpl,L.map rco,(d:Int))=some (.inl (M.map rpl,M.map rco,((d+1:Nat):Int))):=by
   unfold ZD
   simp only[oun,hlt,decide_true,cond_true]
   rw[q1']
   simp only[Option.bind_some,e2]
  simp only[iter,hb,Option.bind_some,QI,g1]
theorem Cx.both: ∃L,Ju F p x=some (L.map rpl,0)∧QbF F p x=some (L.map rpl,0)∧Srt Wf L∧YP Wf (QaZ F p x p.Demands.length) L:=by
 obtain ⟨L,h1,h2,h3⟩:=h.pro;obtain ⟨L',g1,g2,g3⟩:=h.all_ref p.Demands.length 0 [] (((p.Demands.length:Nat):Int).toNat+1) (by omega) (by simp) List.Pairwise.nil (YP.refl _);have:L=L':=Srt.unique h2 g2 (h3.symm.trans g3);subst this;refine ⟨L,h1,?_,h2,h3⟩;unfold QbF
 rw[h.total.2.1,h.total.2.2]
 simp only[Option.bind_some,oun,decide_true,Bool.not_true,cond_false]
 have g1':iter (ZD F p x (Zm p x.Tours)) (((p.Demands.length:Nat):Int).toNat+1) ([],[],0)=some (L.map rpl):=g1
 rw[g1']
 rfl
end
end Go.Proofs.YthpgjbbjpfiniaaGreat
namespace Go.Proofs.YthpgjbbjpfiniaaGreat
open Go.RowKit
set_option linter.unusedSimpArgs false
set_option linter.unusedVariables false
theorem Cx.next {F:Nat} {p:Pr} {x:Pl} (h:Cx F p x) {z:Ra} (hz:z∈QaZ F p x p.Demands.length):Cx F p z.plan∧z=J4 p z.plan∧Wf z<Wf (J4 p x):=by
 obtain ⟨h1,h2⟩:=h.all_ok hz;have h3:=h1.tl;have h4:=h1.ll;have h5:=h.hv;have h6:=h.fe.ok.dl;exact ⟨⟨h.hF,h.hn,h.hv,h1.fe,by omega,by omega⟩,h1.eq,h2⟩
theorem Qou {F:Nat} (hF:40000≤F) {p:Pr} (hn:p.Road.Edges.length≤600) (hv:p.Vehicles.length≤30) (hp:OkP p) (hc:Qo p=some 0):Cx F p (QbR F p):=by
 have h1:=Qov hF hn hv hp hc;have hi:=QeQ hF hp hn p.Demands.length;have hl1:=QeT (Qcx F p p.Demands.length).1;have hl2:=hi.len;have hl3:=hi.ll;have hdl:=hp.dl;have ht:(QbR F p).Tours.length≤30:=by show (Qbg (Qcx F p p.Demands.length).1).length≤30;omega
 have hl:(QbR F p).Left.length≤100:=by show ((Qcx F p p.Demands.length).2).length≤100;omega
 obtain ⟨s,e,a1,_,_,a4⟩:=Qew hF hn (QbR F p) ht hl
 rw[h1] at a1
 injection a1 with a1
 injection a1 with a2 a3
 exact ⟨hF,hn,hv,(a4 a3.symm).2,ht,hl⟩
theorem Qd3 (x:Pl) (h1:x.Tours.length≤1000000) (h2: ∀t∈x.Tours,t.Stops.length≤1000000) (h3:x.Left.length≤1000000):YC x x=some true:=by
 unfold YC
 rw[Qlk _ h1 h2,QiR _ h3]
 rfl
theorem Cx.same {F:Nat} {p:Pr} {x:Pl} (h:Cx F p x):YC x x=some true:=by
 have h1:=h.tl;have h2:=h.ll;exact Qd3 x (by omega) (fun t ht=>by have:=(h.fe.tour ht).2.2.1;omega) (by omega)
theorem Qjt (p:Pr) (x:Pl):(∃b,YY p x=some b)∧(YY p x=some false→p.Road.Edges.length≤100∧p.Vehicles.length≤4∧p.Demands.length≤8∧x.Tours.length≤8∧x.Left.length≤100):=by
 obtain ⟨⟨b,hb⟩,hl⟩:=Qlf p;obtain ⟨⟨b2,hb2⟩,hl2⟩:=Qhn x;unfold YY
 rw[hb,hb2]
 cases b with
 | true=>exact ⟨⟨true,rfl⟩,fun e=>by cases e⟩
 | false =>
  cases b2 with
  | true=>exact ⟨⟨true,rfl⟩,fun e=>by cases e⟩
  | false =>
   obtain ⟨g2,g3⟩:=hl2 hb2
   simp only[Option.bind_some,cond_false]
   by_cases h1:(100:Int)<((p.Road.Edges.length:Nat):Int)
   ·simp only[h1,decide_true,cond_true,Option.bind_some]
    exact ⟨⟨true,rfl⟩,fun e=>by cases e⟩
   by_cases h2:(4:Int)<((p.Vehicles.length:Nat):Int)
   ·simp only[h1,h2,decide_true,decide_false,cond_true,cond_false,Option.bind_some]
    exact ⟨⟨true,rfl⟩,fun e=>by cases e⟩
   by_cases h3:(8:Int)<((p.Demands.length:Nat):Int)
   ·simp only[h1,h2,h3,decide_true,decide_false,cond_true,cond_false,Option.bind_some]
    exact ⟨⟨true,rfl⟩,fun e=>by cases e⟩
   by_cases h4:(8:Int)<((x.Tours.length:Nat):Int)
   ·simp only[h1,h2,h3,h4,decide_true,decide_false,cond_true,cond_false,Option.bind_some]
    exact ⟨⟨true,rfl⟩,fun e=>by cases e⟩
   simp only[h1,h2,h3,h4,decide_false,cond_false,Option.bind_some]
   obtain ⟨o,ho⟩:=Qbo (body:=Jn x) (N:=x.Tours.length) (by omega) (fun k hk=>by
    obtain ⟨t,ht⟩: ∃t,x.Tours[k]? =some t:=⟨_,List.getElem?_eq_getElem hk⟩
    have hk2:((k:Int)<((x.Tours.length:Nat):Int)):=by omega
    simp only[Jn,hk2,decide_true,cond_true,Qs,ht,Option.bind_some,Wn (show k<9223372036854775807 by omega)]
    cases decide ((16:Int)<((t.Stops.length:Nat):Int)) with
    | true=>exact .inl ⟨_,rfl⟩
    | false=>exact .inr rfl) ⟨_,by simp[Jn];rfl⟩ x.Tours.length 0 (by omega)
   refine ⟨?_,fun _=>by omega⟩
   rw[show (((x.Tours.length:Nat):Int).toNat+1)=x.Tours.length+1 by simp,show (0:Int)=((0:Nat):Int) from rfl,ho]
   cases o with
   | inl u=>exact ⟨false,rfl⟩
   | inr b=>exact ⟨b,rfl⟩
structure Lt (p:Pr) (x:Pl):Prop where
 ed:p.Road.Edges.length≤600
 ve:p.Vehicles.length≤4
 de:p.Demands.length≤8
 to:x.Tours.length≤8
 le:x.Left.length≤100
theorem Qo3 (p:Pr) (x:Pl):YY p x=some true∨(YY p x=some false∧Lt p x):=by
 obtain ⟨⟨b,hb⟩,hl⟩:=Qjt p x;cases b with
 | true=>exact .inl hb
 | false =>
  obtain ⟨h1,h2,h3,h4,h5⟩:=hl hb;exact .inr ⟨hb,⟨by omega,h2,h3,h4,h5⟩⟩
end Go.Proofs.YthpgjbbjpfiniaaGreat
